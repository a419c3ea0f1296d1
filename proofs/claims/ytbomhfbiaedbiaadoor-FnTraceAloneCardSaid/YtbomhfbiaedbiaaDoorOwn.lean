/- The rows that the reference's search owns: pairs and words. -/
import Derived.Test.YtbomhfbiaedbiaaDoorOwn0
import Derived.Test.YtbomhfbiaedbiaaDoorW17
import Derived.Test.YtbomhfbiaedbiaaDoorW18
import Derived.Maps.AppendAt
namespace Go.Proofs.YtbomhfbiaedbiaaDoor
open Go.RowKit Go.BigFrame AG

/-- The word r (its last letter first) as a string. -/
def wordS (r : List Nat) : ByteArray := ⟨(r.reverse.map letB).toArray⟩
theorem wordS_cons (l : Nat) (r : List Nat) : wordS r ++ ⟨#[letB l]⟩ = wordS (l :: r) := by
  unfold wordS
  rw [List.reverse_cons, List.map_append]
  apply ByteArray.ext
  simp

theorem wordS_size (r : List Nat) : (wordS r).size = r.length := by unfold wordS; simp [ByteArray.size]

def pairCells : List (Nat × Nat) → List Value
  | [] => []
  | p :: ps => .int .i64 p.1 :: .int .i64 p.2 :: pairCells ps
theorem pairCells_append : ∀ ps qs : List (Nat × Nat), pairCells (ps ++ qs) = pairCells ps ++ pairCells qs
  | [], _ => rfl
  | p :: ps, qs => by rw [List.cons_append, pairCells, pairCells_append ps qs]; rfl
theorem pairCells_at : ∀ (ps : List (Nat × Nat)) (i : Nat) (h : i < ps.length), (pairCells ps)[i * 2]? = some (.int .i64 ps[i].1) ∧ (pairCells ps)[i * 2 + 1]? = some (.int .i64 ps[i].2)
  | p :: ps, 0, _ => ⟨rfl, rfl⟩
  | p :: ps, i + 1, h => by
    have := pairCells_at ps i (by simpa using h)
    rw [show (i + 1) * 2 = i * 2 + 1 + 1 from by omega]
    exact this

/-- Pairs that are owned are read. -/
theorem own_pairs {w : World} {B : Nat} {v : Value} {ps : List (Nat × Nat)} (h : w.ownsRow B 150 2 v ps.length (pairCells ps)) (hn : 0 < ps.length) :
    ∃ g cap, v = .slice (some ⟨g, 0, none⟩) ps.length cap ∧ B ≤ g ∧ g < w.heap.size ∧ ps.length ≤ cap ∧ cap ≤ 9223372036854775807 ∧ PairsAt w w.heap.size (some ⟨g, 0, none⟩) ps ∧
      ∀ i (hi : i < ps.length), w.cell? ⟨g, i * 2, none⟩ = some (.int .i64 ps[i].1) ∧ w.cell? ⟨g, i * 2 + 1, none⟩ = some (.int .i64 ps[i].2) := by
  obtain ⟨g, cap, hv, h1, h2, h3, h4, h5⟩ := own_shape h hn
  have hat : ∀ i (hi : i < ps.length), w.cell? ⟨g, i * 2, none⟩ = some (.int .i64 ps[i].1) ∧ w.cell? ⟨g, i * 2 + 1, none⟩ = some (.int .i64 ps[i].2) := fun i hi =>
    ⟨h5 _ _ (pairCells_at ps i hi).1, h5 _ _ (pairCells_at ps i hi).2⟩
  exact ⟨g, cap, hv, h1, h2, h3, h4, fun _ => ⟨g, 0, rfl, h2, fun i hi => by simpa using hat i hi⟩, hat⟩

theorem own_words {w : World} {B : Nat} {v : Value} {ws : List (List Nat)} (h : w.ownsRow B 9 1 v ws.length (ws.map fun r => Value.string (wordS r))) (hn : 0 < ws.length) :
    ∃ g cap, v = .slice (some ⟨g, 0, none⟩) ws.length cap ∧ B ≤ g ∧ g < w.heap.size ∧ ws.length ≤ cap ∧ cap ≤ 9223372036854775807 ∧
      ∀ i (hi : i < ws.length), w.cell? ⟨g, i, none⟩ = some (.string (wordS ws[i])) := by
  obtain ⟨g, cap, hv, h1, h2, h3, h4, h5⟩ := own_shape h hn
  exact ⟨g, cap, hv, h1, h2, h3, h4, fun i hi => h5 _ _ (by simp [hi])⟩

end Go.Proofs.YtbomhfbiaedbiaaDoor
