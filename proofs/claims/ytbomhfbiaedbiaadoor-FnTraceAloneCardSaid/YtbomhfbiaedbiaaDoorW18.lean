/- Lists of pairs of sets in memory; the reference's l5Find. -/
import Derived.Test.YtbomhfbiaedbiaaDoorW1
import Derived.Test.YtbomhfbiaedbiaaDoorMathD
import Derived.BigQuiet
namespace Go.Proofs.YtbomhfbiaedbiaaDoor
open Go.RowKit Go.BigFrame AG

/-- The place of p in ps, or -1. -/
def findP (ps : List (Nat × Nat)) (p : Nat × Nat) : Int :=
  match ps.findIdx? (· == p) with
  | some i => (i : Int)
  | none => -1
theorem findP_at {ps : List (Nat × Nat)} {p : Nat × Nat} {k : Nat} (hk : k < ps.length) (h : ps[k] = p) (hb : ∀ j (hj : j < ps.length), j < k → ps[j] ≠ p) : findP ps p = k := by
  unfold findP
  rw [show ps.findIdx? (· == p) = some k from List.findIdx?_eq_some_iff_getElem.2 ⟨hk, by simpa using h, fun j hj => by simpa using hb j (by omega) hj⟩]
theorem findP_none {ps : List (Nat × Nat)} {p : Nat × Nat} (hb : ∀ j (hj : j < ps.length), ps[j] ≠ p) : findP ps p = -1 := by
  unfold findP
  rw [show ps.findIdx? (· == p) = none from List.findIdx?_eq_none_iff.2 fun x hx => by
    obtain ⟨j, hj, rfl⟩ := List.mem_iff_getElem.1 hx
    simpa using hb j hj]
theorem findP_neg (ps : List (Nat × Nat)) (p : Nat × Nat) : findP ps p < 0 ↔ p ∉ ps := by
  constructor
  · intro h hp
    unfold findP at h
    cases hf : ps.findIdx? (· == p) with
    | none =>
      have := List.findIdx?_eq_none_iff.1 hf p hp
      simp at this
    | some i =>
      rw [hf] at h
      have h' : (i : Int) < 0 := h
      omega
  · intro h
    rw [findP_none fun j hj e => h (by rw [← e]; exact List.getElem_mem _)]
    decide

/-- The slice of pairs reads as ps, below block B. -/
def PairsAt (w : World) (B : Nat) (A : Option Addr) (ps : List (Nat × Nat)) : Prop :=
  0 < ps.length → ∃ b o, A = some ⟨b, o, none⟩ ∧ b < B ∧ ∀ i (h : i < ps.length), w.cell? ⟨b, o + i * 2, none⟩ = some (.int .i64 ps[i].1) ∧ w.cell? ⟨b, o + i * 2 + 1, none⟩ = some (.int .i64 ps[i].2)

theorem below_drewNp {B : Nat} {a w : World} (h : Below B a w) (n : Nat) : Below B a (w.drewN n) := h.trans ⟨rfl, rfl, rfl, Nat.le_refl _, fun _ _ => rfl⟩

set_option maxHeartbeats 2000000 in
theorem l5Find_any (ps : List (Nat × Nat)) (A : Option Addr) (c : Nat) (p : Nat × Nat) (w : World) (hl : ps.length ≤ c) (hc : c ≤ 9223372036854775807) (hr : PairsAt w w.heap.size A ps) :
    Calls Tryd.prog 149 #[.slice A ps.length c, .agg #[.int .i64 p.1, .int .i64 p.2]] w fun e w' => e = .returned (.int .i64 (findP ps p)) ∧ Below w.heap.size w w' := by
  replace hr := hid hr
  go_enter Tryd.func149, Tryd.ntmps149
  go_wp2_with fail
  obtain ⟨w0, hw0, hz0, hB0, hS⟩ := boxed w #[Value.int IntKind.i64 p.1, Value.int IntKind.i64 p.2] 150
  rw [hw0]
  clear hw0
  have s0 := hS 0 _ rfl
  have s1 := hS 1 _ rfl
  go_loopw [5] (fun i wr => ∃ k : Nat, k ≤ ps.length ∧ i = .int .i64 k ∧ (∀ j (hj : j < ps.length), j < k → ps[j] ≠ p) ∧ Below (w.heap.size + 1) w0 wr) (fun i _ => ps.length - (intOf i).toNat)
  case atStart => exact ⟨0, by omega, rfl, fun j _ h => by omega, Below.refl _ _⟩
  case round =>
    obtain ⟨k, hk, rfl, hbf, hb⟩ := hrel
    replace hbf := hid hbf
    have q0 := s0 _ hb
    have q1 := s1 _ hb
    have hzr := hb.size
    by_cases hlt : k < ps.length
    · obtain ⟨b, o, rfl, hB, hE⟩ := hr.out (by omega)
      obtain ⟨e0, e1⟩ := hE k hlt
      replace hE := hid hE
      have e0' : wr.cell? ⟨b, o + k * 2, none⟩ = some (.int .i64 ps[k].1) := by rw [hb.cell (by simp; omega), hB0.cell (by simpa using hB)]; exact e0
      have e1' : wr.cell? ⟨b, o + k * 2 + 1, none⟩ = some (.int .i64 ps[k].2) := by rw [hb.cell (by simp; omega), hB0.cell (by simpa using hB)]; exact e1
      have i1 : (0 : Int) ≤ (k : Int) := by omega
      have i2 : (k : Int) < (ps.length : Int) := by omega
      have hcase : (((ps[k].1 : Int) == (p.1 : Int)) = false) ∨ (((ps[k].1 : Int) == (p.1 : Int)) = true ∧ ((ps[k].2 : Int) == (p.2 : Int)) = false) ∨ (((ps[k].1 : Int) == (p.1 : Int)) = true ∧ ((ps[k].2 : Int) == (p.2 : Int)) = true) := by
        cases ((ps[k].1 : Int) == (p.1 : Int)) <;> cases ((ps[k].2 : Int) == (p.2 : Int)) <;> simp
      go_wp2_with fail
      rcases hcase with g1 | ⟨g1, g2⟩ | ⟨g1, g2⟩
      all_goals
        go_quiet (fail)
      all_goals go_wp2
      · refine ⟨⟨k + 1, by omega, by go_num, fun j hj hjk e => ?_, below_drewNp hb _⟩, by simp [intOf]; omega⟩
        by_cases ej : j = k
        · subst ej
          rw [e] at g1
          simp at g1
        · exact hbf.out j hj (by omega) e
      · refine ⟨⟨k + 1, by omega, by go_num, fun j hj hjk e => ?_, below_drewNp hb _⟩, by simp [intOf]; omega⟩
        by_cases ej : j = k
        · subst ej
          rw [e] at g2
          simp at g2
        · exact hbf.out j hj (by omega) e
      · have hp : ps[k] = p := by
          rw [beq_iff_eq] at g1 g2
          exact Prod.ext (by omega) (by omega)
        go_ret
        exact ⟨by rw [findP_at hlt hp hbf.out]; rfl, hB0.trans (below_drewNp (hb.mono (by omega)) _)⟩
    · go_wp2
      go_ret
      exact ⟨by rw [findP_none fun j hj => hbf.out j hj (by omega)]; rfl, hB0.trans (hb.mono (by omega))⟩

end Go.Proofs.YtbomhfbiaedbiaaDoor
