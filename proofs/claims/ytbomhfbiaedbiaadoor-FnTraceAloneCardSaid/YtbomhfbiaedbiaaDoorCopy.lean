/- A slice is copied: append(empty, s...). -/
import Derived.Test.YtbomhfbiaedbiaaDoorGrowK
import Derived.Deep.Upon
import Derived.Deep.AppendSrc
namespace AG
open Go Go.RowKit

theorem run_append_copy {P : Program} (w : World) (base : Nat) (t ty e : TypeId) (i : TypeInfo) (z : Value) (size bytes : Nat) (ht : P.underlying t = some (.slice e)) (hi : P.info? e = some i) (hz : i.zero = some z)
    (hsize : i.size = size) (hby : i.bytes = bytes) (hzs : z.cells.size = size) (g : Nat) (hg : w.heap[g]? = some (.cells #[] e (0, 0))) (hbg : base ≤ g) (hbase : base ≤ w.heap.size)
    (A : Option Addr) (m c : Nat) (news : List Value) (hl : news.length = m * size) (hA : 0 < m → ∃ a, A = some a ∧ ∀ j u, news[j]? = some u → w.cell? (a.add j) = some u) (h1 : ∀ u ∈ news, u.oneCell' = true)
    (h63 : m ≤ maxLen) (hbytes : m * bytes ≤ 140737488355328) :
    ∃ v' w', (Builtin.append_ #[t, t] ty #[.slice (some ⟨g, 0, none⟩) 0 0, .slice A m c]).run P w = .ok v' w' ∧ w'.ownsRow base e size v' m news ∧ Below w.heap.size w w' := by
  subst hsize
  subst hby
  by_cases hm : m = 0
  · subst hm
    have hn : news = [] := List.eq_nil_of_length_eq_zero (by simpa using hl)
    subst hn
    have hs : Src P i.size t (.slice A 0 c) 0 [] w := by
      cases A with
      | none => exact Src.ofNil w ht c
      | some a => exact Src.ofSlice w ht a 0 c [] (by simp) (fun j u hj => by simp at hj) (fun u hu => by cases hu)
    exact ⟨_, w, run_append_nothing w t t ty e i ht hi (some ⟨g, 0, none⟩) 0 0 (Nat.le_refl _) _ hs, ⟨by simp, .inr ⟨g, 0, #[], rfl, hbg, hg, Nat.le_refl _, Nat.zero_le _, by simp, by simp⟩⟩, Below.refl _ _⟩
  · obtain ⟨a, rfl, hnews⟩ := hA (by omega)
    have hsmall : m ≤ 9223372036854775807 := by simp only [maxLen] at h63; omega
    have hr := run_append_grow (P := P) w t ty e i z ht hi hz ⟨g, 0, none⟩ 0 0 [] (by simp) (fun j u hj => by simp at hj) a m c news hl hnews (by omega) (by omega) (growslice_fits (by omega) (by simpa using hbytes))
    simp only [Nat.zero_add] at hr
    refine ⟨_, _, hr, ⟨hl, .inr ⟨w.heap.size, _, _, rfl, hbase, heap_alloc_new w.drew _, grownCap_ge w m 0 e, grownCap_le_maxLen w m 0 e h63, ?_, ?_⟩⟩, ?_⟩
    · have := grownCap_ge w m 0 e
      simp only [Array.size_append, List.size_toArray, size_zeroCells, hzs, List.length_nil, Nat.zero_add, hl, ← Nat.add_mul]
      congr 1
      omega
    · have e1 : ([].toArray ++ news.toArray ++ Builtin.zeroCells z.cells (grownCap w m 0 e - m)).toList = news ++ (Builtin.zeroCells z.cells (grownCap w m 0 e - m)).toList := by simp
      rw [e1, ← hl]
      exact List.take_left
    · exact (Below.refl w.heap.size w).drew.alloc (Nat.le_refl _) _

namespace GK
section
variable {P : Program} {ops : Array Oper} {M : Nat} {S : World → World → Prop} {I : Nat → World → Prop} {sp : Nat → Value → World → Prop} {w0 w1 : World}
variable {Q : List (Nat × (World → Prop)) → Act → Prop} {o : Oper} {rest : List Oper} {i : Nat} {Γ : List (Nat × (World → Prop))} {a : Act}
theorem grow_fact (Z : Value → World → Prop) (hw : Region.wanted o (yielded ops a.tmps) = true) (hs : ∀ u, Steady S (Z u))
    (hc : ∀ m w, m < M → I m w → FactsAt .any ops i Γ w → fnUpon (fun u w' => (S w w' ∧ I (m + 1) w') ∧ Z u w') ((execOp a.eval o).run P w))
    (h : ∀ u, (∃ m w', I m w' ∧ Z u w') → wpGrow P ops S I M w0 sp Q rest (i + 1) ((i, Z u) :: Γ) (a.put o.dst u)) : wpGrow P ops S I M w0 sp Q (o :: rest) i Γ a := by
  unfold wpGrow Res
  rw [if_pos hw]
  exact .inr (.inl ⟨Z, hs, hc, (fun h => by cases h), fun u _ hu => h u (hu rfl)⟩)

theorem own_steady {base : Nat} {e : TypeId} {size m : Nat} {news : List Value} (u : Value) : Steady (KeepB fun _ => False) (fun w => w.ownsRow base e size u m news) := fun _ _ h k => own_keep k h fun _ _ h => h

/-- append(empty, s...): a copy is made. -/
theorem grow_copy (hw : Region.wanted o (yielded ops a.tmps) = true) (s x : Operand) (t : TypeId) (ho : o.op = .call { callee := .builtin .append, args := #[s, x], argTypes := #[t, t] })
    (e : TypeId) (ti : TypeInfo) (z : Value) (size bytes : Nat) (ht : P.underlying t = some (.slice e)) (hi : P.info? e = some ti) (hz : ti.zero = some z)
    (hsize : ti.size = size) (hby : ti.bytes = bytes) (hzs : z.cells.size = size) (g : Nat) (hs : a.eval s = .slice (some ⟨g, 0, none⟩) 0 0) (hgf : ∀ w, FactsAt .any ops i Γ w → w1.heap.size ≤ g ∧ w.heap[g]? = some (.cells #[] e (0, 0)))
    (A : Option Addr) (m c : Nat) (news : List Value) (hx : a.eval x = .slice A m c) (hl : news.length = m * size) (hA : 0 < m → ∃ a, A = some a ∧ ∀ j u, news[j]? = some u → w1.cell? (a.add j) = some u) (h1 : ∀ u ∈ news, u.oneCell' = true)
    (h63 : m ≤ maxLen) (hbytes : m * bytes ≤ 140737488355328)
    (h : ∀ u, (∃ w', Below w1.heap.size w1 w' ∧ w'.ownsRow w1.heap.size e size u m news) → wpGrow P ops (KeepB fun _ => False) (BI w1) M w0 sp Q rest (i + 1) ((i, fun w' => w'.ownsRow w1.heap.size e size u m news) :: Γ) (a.put o.dst u)) :
    wpGrow P ops (KeepB fun _ => False) (BI w1) M w0 sp Q (o :: rest) i Γ a := by
  refine grow_fact (fun u w' => w'.ownsRow w1.heap.size e size u m news) hw own_steady (fun k w hk hb hf => ?_) fun u ⟨_, w', h1, h2⟩ => h u ⟨w', h1, h2⟩
  obtain ⟨g1, g2⟩ := hgf w hf
  obtain ⟨v', w', hr, h2, h3⟩ := run_append_copy (P := P) w w1.heap.size t o.type e ti z size bytes ht hi hz hsize hby hzs g g2 g1 hb.size A m c news hl (fun hm => by
    obtain ⟨a, ha, hc⟩ := hA hm
    refine ⟨a, ha, fun j u hj => ?_⟩
    have h4 := hc j u hj
    rw [Below.cell hb (World.block_lt_of_cell? _ _ h4)]
    exact h4) h1 h63 hbytes
  unfold execOp
  simp only [ho, resolve, invoke, builtin, Sem.run_bind, Sem.run_pure, Result.andThen_ok, List.map_toArray, List.map_cons, List.map_nil, hs, hx, hr]
  exact ⟨hb.after h3, h2⟩
end
end GK
end AG
