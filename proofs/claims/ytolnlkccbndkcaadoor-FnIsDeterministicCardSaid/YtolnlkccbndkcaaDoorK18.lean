/- Lemmas, part 18: several texts in one. -/
import Derived.Test.YtolnlkccbndkcaaDoorK16
import Derived.Test.YtolnlkccbndkcaaDoorK9
import Derived.Test.YtolnlkccbndkcaaDoorK11
import Derived.Test.YtolnlkccbndkcaaDoorK8
import Derived.Test.YtolnlkccbndkcaaDoorK12
import Derived.Test.YtolnlkccbndkcaaDoorK10
import Derived.Test.YtolnlkccbndkcaaDoorK15
import Derived.Test.YtolnlkccbndkcaaDoorK17
import Derived.Test.YtolnlkccbndkcaaDoorK6
import Derived.Test.YtolnlkccbndkcaaDoorK5
import Derived.BigRegion
set_option linter.unusedSimpArgs false
set_option linter.unusedVariables false

/- Automata under way in memory: rows and marks that are owned; what the drawing functions hand back. -/
namespace Go.Proofs.YtolnlkccbndkcaaDoor
open Go.RowKit Go.BigFrame AG

/-- An automaton under way in the block gs: all old blocks but those of K are as they were. -/
structure AuSt (K : Nat → Prop) (w0 wr : World) (gs : Nat) (v1 v2 : Value) (a : Au) (xs : List RowV) : Prop where
  keep : KeepB K w0 wr
  ge : w0.heap.size ≤ gs
  own : AuOwn wr w0.heap.size v1 v2 a xs
  blk : Blk wr gs 32 #[.int .i64 a.al, v1, v2]
section
variable {K : Nat → Prop} {w0 wr w1 : World} {gs : Nat} {v1 v2 v1' v2' : Value} {a : Au} {xs : List RowV}
theorem AuSt.rowLt (h : AuSt K w0 wr gs v1 v2 a xs) {x : RowV} (hx : x ∈ xs) {k : Nat} (e : x.v.ownBlock = some k) : w0.heap.size ≤ k ∧ k < wr.heap.size := (h.own.rows.rows x hx).lt k e
theorem AuSt.keepK (h : AuSt K w0 wr gs v1 v2 a xs) (hK : ∀ b, K b → b < w0.heap.size) (hk : KeepB K wr w1) : AuSt K w0 w1 gs v1 v2 a xs := by
  have hn : ∀ {b : Nat}, w0.heap.size ≤ b → ¬ K b := fun hb hk => by have := hK _ hk; omega
  exact ⟨h.keep.trans hk, h.ge, ⟨h.own.rows.keep hk (fun g hg => hn (h.own.rows.own.lt g hg).1) (fun x hx g hg => hn (h.rowLt hx hg).1), h.own.eq, own_keep h.own.acc hk fun g hg => hn (h.own.acc.lt g hg).1⟩, h.blk.keep hk (hn h.ge)⟩
theorem AuSt.later (h : AuSt K w0 wr gs v1 v2 a xs) (hb : Below wr.heap.size wr w1) : AuSt K w0 w1 gs v1 v2 a xs :=
  ⟨h.keep.trans (.of_below hb), h.ge, h.own.later hb, h.blk.below hb h.blk.lt⟩
/-- Blocks made since a world are written. -/
theorem AuSt.far {wo : World} (h0 : AuSt K w0 wo gs v1 v2 a xs) (h : AuSt K w0 wr gs v1 v2 a xs) (hk : KeepB (fun b => wo.heap.size ≤ b) wr w1) : AuSt K w0 w1 gs v1 v2 a xs := by
  have hz := h0.keep.size
  have hb := h0.blk.lt
  refine ⟨⟨hk.os.trans h.keep.os, hk.tape.trans h.keep.tape, hk.output.trans h.keep.output, Nat.le_trans h.keep.size hk.size, fun i hi hne => ?_⟩, h.ge, ⟨h.own.rows.keep hk (fun g hg hb => by have := (h0.own.rows.own.lt g hg).2; omega) (fun x hx g hg hb => by have := (h0.rowLt hx hg).2; omega), h.own.eq, own_keep h.own.acc hk fun g hg hb => by have := (h0.own.acc.lt g hg).2; omega⟩, h.blk.keep hk (by omega)⟩
  rw [hk.block i (by have := h.keep.size; omega) (by omega)]
  exact h.keep.block i hi hne
theorem AuSt.len (h : AuSt K w0 wr gs v1 v2 a xs) : xs.length = a.nx.length := by rw [← h.own.eq, List.length_map]
/-- A row is appended to the table. -/
theorem AuSt.row {x : RowV} (h : AuSt K w0 wr gs v1 v2 a xs) (hx : wr.ownsRow w0.heap.size 3 1 x.v x.r.length (intVals x.r)) (hap : ∀ y ∈ xs, ∀ k, y.v.ownBlock = some k → x.v.ownBlock ≠ some k) (hg : wr.grownBy w1 v1.ownBlock)
    (ho : w1.ownsRow w0.heap.size 62 1 v1' (xs.length + 1) (rowVals xs ++ [x.v])) : AuSt K w0 (w1.setCell ⟨gs, 1, none⟩ v1') gs v1' v2 ⟨a.al, a.nx ++ [x.r], a.ac⟩ (xs ++ [x]) := by
  have hkA : KeepB (fun b => v1.ownBlock = some b) wr w1 := (KeepB.refl _ wr).grown hg fun k hk _ => hk
  have hblk1 : Blk w1 gs 32 #[.int .i64 a.al, v1, v2] := h.blk.keep hkA fun e => own_ne h.own.rows.own h.blk (by decide) _ e rfl
  have hkB : KeepB (fun b => b = gs) w1 (w1.setCell ⟨gs, 1, none⟩ v1') := (KeepB.refl _ w1).setCell _ _ fun _ => rfl
  have hrow : ∀ y, y ∈ xs ++ [x] → wr.ownsRow w0.heap.size 3 1 y.v y.r.length (intVals y.r) := fun y hy => by
    rcases List.mem_append.1 hy with hy | hy
    · exact h.own.rows.rows y hy
    · rw [List.mem_singleton.1 hy]; exact hx
  refine ⟨?_, h.ge, ⟨⟨?_, fun y hy => ?_, ?_⟩, by rw [List.map_append, h.own.eq]; rfl, ?_⟩, by simpa using hblk1.set_ 1 v1'⟩
  · exact (h.keep.grown hg fun k hk hlt => by have := (h.own.rows.own.lt k hk).1; omega).setCell _ _ fun hlt => by have := h.ge; simp at hlt; omega
  · have h2 : w1.ownsRow w0.heap.size 62 1 v1' (xs ++ [x]).length (rowVals (xs ++ [x])) := by
      unfold rowVals at ho ⊢
      rw [List.length_append, List.map_append]
      exact ho
    exact own_keep h2 hkB (own_ne h2 hblk1 (by decide))
  · have h1 := own_keep (hrow y hy) hkA fun g hg e => own_ne_own h.own.rows.own (hrow y hy) (by decide) g g e hg rfl
    exact own_keep h1 hkB (own_ne h1 hblk1 (by decide))
  · rw [List.pairwise_append]
    exact ⟨h.own.rows.apart, List.pairwise_singleton _ _, fun y hy z hz k e => by rw [List.mem_singleton.1 hz]; exact hap y hy k e⟩
  · have h3 := own_keep h.own.acc hkA fun g hg e => own_ne_own h.own.acc h.own.rows.own (by decide) g g hg e rfl
    exact own_keep h3 hkB (own_ne h3 hblk1 (by decide))
/-- A truth value is appended. -/
theorem AuSt.put {t : Bool} (h : AuSt K w0 wr gs v1 v2 a xs) (hg : wr.grownBy w1 v2.ownBlock)
    (ho : w1.ownsRow w0.heap.size 4 1 v2' (a.ac.length + 1) (boolVals a.ac ++ [.bool t])) : AuSt K w0 (w1.setCell ⟨gs, 2, none⟩ v2') gs v1 v2' ⟨a.al, a.nx, a.ac ++ [t]⟩ xs := by
  have hkA : KeepB (fun b => v2.ownBlock = some b) wr w1 := (KeepB.refl _ wr).grown hg fun k hk _ => hk
  have hblk1 : Blk w1 gs 32 #[.int .i64 a.al, v1, v2] := h.blk.keep hkA fun e => own_ne h.own.acc h.blk (by decide) _ e rfl
  have hkB : KeepB (fun b => b = gs) w1 (w1.setCell ⟨gs, 2, none⟩ v2') := (KeepB.refl _ w1).setCell _ _ fun _ => rfl
  refine ⟨?_, h.ge, ⟨⟨?_, fun y hy => ?_, h.own.rows.apart⟩, h.own.eq, ?_⟩, by simpa using hblk1.set_ 2 v2'⟩
  · exact (h.keep.grown hg fun k hk hlt => by have := (h.own.acc.lt k hk).1; omega).setCell _ _ fun hlt => by have := h.ge; simp at hlt; omega
  · have h3 := own_keep h.own.rows.own hkA fun g hg e => own_ne_own h.own.rows.own h.own.acc (by decide) g g hg e rfl
    exact own_keep h3 hkB (own_ne h3 hblk1 (by decide))
  · have h1 := own_keep (h.own.rows.rows y hy) hkA fun g hg e => own_ne_own h.own.acc (h.own.rows.rows y hy) (by decide) g g e hg rfl
    exact own_keep h1 hkB (own_ne h1 hblk1 (by decide))
  · have h2 : w1.ownsRow w0.heap.size 4 1 v2' (a.ac ++ [t]).length (boolVals (a.ac ++ [t])) := by
      unfold boolVals at ho ⊢
      rw [List.length_append, List.map_append]
      exact ho
    exact own_keep h2 hkB (own_ne h2 hblk1 (by decide))
/-- The alphabet is stored. -/
theorem AuSt.setAl (h : AuSt K w0 wr gs v1 v2 a xs) (x : Int) : AuSt K w0 (wr.setCell ⟨gs, 0, none⟩ (.int .i64 x)) gs v1 v2 ⟨x, a.nx, a.ac⟩ xs := by
  have hkB : KeepB (fun b => b = gs) wr (wr.setCell ⟨gs, 0, none⟩ (.int .i64 x)) := (KeepB.refl _ wr).setCell _ _ fun _ => rfl
  refine ⟨h.keep.setCell _ _ fun hlt => by have := h.ge; simp at hlt; omega, h.ge, ⟨h.own.rows.keep hkB (own_ne h.own.rows.own h.blk (by decide)) fun y hy => own_ne (h.own.rows.rows y hy) h.blk (by decide), h.own.eq, own_keep h.own.acc hkB (own_ne h.own.acc h.blk (by decide))⟩, by simpa using h.blk.set_ 0 (.int .i64 x)⟩
/-- A mark is stored. -/
theorem AuSt.setAc {g c i : Nat} (h : AuSt K w0 wr gs v1 (.slice (some ⟨g, 0, none⟩) a.ac.length c) a xs) (t : Bool) : AuSt K w0 (wr.setCell ⟨g, i, none⟩ (.bool t)) gs v1 (.slice (some ⟨g, 0, none⟩) a.ac.length c) ⟨a.al, a.nx, a.ac.set i t⟩ xs := by
  have hs := World.ownsRow.stored h.own.acc i (.bool t)
  have hg := h.own.acc.lt g rfl
  have hkB : KeepB (fun b => b = g) wr (wr.setCell ⟨g, i, none⟩ (.bool t)) := (KeepB.refl _ wr).setCell _ _ fun _ => rfl
  have hb : (Value.slice (some ⟨g, 0, none⟩) a.ac.length c).ownBlock = some g := rfl
  refine ⟨h.keep.setCell _ _ fun hlt => by simp at hlt; omega, h.ge, ⟨h.own.rows.keep hkB (fun k hk e => own_ne_own h.own.rows.own h.own.acc (by decide) k g hk hb e) fun y hy k hk e => own_ne_own (h.own.rows.rows y hy) h.own.acc (by decide) k g hk hb e, h.own.eq, ?_⟩, h.blk.keep hkB fun e => own_ne h.own.acc h.blk (by decide) g hb e.symm⟩
  have e1 : boolVals (a.ac.set i t) = (boolVals a.ac).set i (.bool t) := by unfold boolVals; rw [List.map_set]
  show World.ownsRow _ _ _ _ _ (a.ac.set i t).length (boolVals (a.ac.set i t))
  rw [e1, List.length_set]
  exact hs.1
/-- An entry of a row is stored. -/
theorem AuSt.setRow {l1 l2 : List RowV} {r : List Int} {g c j : Nat} (h : AuSt K w0 wr gs v1 v2 a (l1 ++ ⟨r, some ⟨g, 0, none⟩, c⟩ :: l2)) (t : Int) :
    AuSt K w0 (wr.setCell ⟨g, j, none⟩ (.int .i64 t)) gs v1 v2 ⟨a.al, (l1 ++ ⟨r.set j t, some ⟨g, 0, none⟩, c⟩ :: l2).map (·.r), a.ac⟩ (l1 ++ ⟨r.set j t, some ⟨g, 0, none⟩, c⟩ :: l2) := by
  have hx := h.own.rows.rows ⟨r, some ⟨g, 0, none⟩, c⟩ (by simp)
  have hs := World.ownsRow.stored (show wr.ownsRow w0.heap.size 3 1 (.slice (some ⟨g, 0, none⟩) r.length c) r.length (intVals r) from hx) j (.int .i64 t)
  have hg := hx.lt g rfl
  have hkB : KeepB (fun b => (RowV.v ⟨r, some ⟨g, 0, none⟩, c⟩).ownBlock = some b) wr (wr.setCell ⟨g, j, none⟩ (.int .i64 t)) := (KeepB.refl _ wr).setCell _ _ fun _ => rfl
  refine ⟨h.keep.setCell _ _ fun hlt => by simp at hlt; omega, h.ge, ⟨h.own.rows.set_ hkB (by unfold RowV.v; simp) ?_, rfl, own_keep h.own.acc hkB fun k hk e => own_ne_own h.own.acc hx (by decide) k k hk e rfl⟩, h.blk.keep hkB fun e => own_ne hx h.blk (by decide) _ e rfl⟩
  have e1 : intVals (r.set j t) = (intVals r).set j (.int .i64 t) := by unfold intVals; rw [List.map_set]
  show World.ownsRow _ _ _ _ (.slice _ (r.set j t).length c) (r.set j t).length (intVals (r.set j t))
  rw [e1, List.length_set]
  exact hs.1
end

theorem AuSt.begin {K : Nat → Prop} {w0 : World} (al : Int) {wr : World} (hk : KeepB K w0 wr) (hz : w0.heap.size ≤ wr.heap.size) : AuSt K w0 (wr.alloc (.cells #[.int .i64 al, .slice none 0 0, .slice none 0 0] 32)) wr.heap.size (.slice none 0 0) (.slice none 0 0) ⟨al, [], []⟩ [] :=
  ⟨hk.alloc _, hz, ⟨⟨World.ownsRow_nil _ _ _ _, fun x hx => (by cases hx), List.Pairwise.nil⟩, rfl, World.ownsRow_nil _ _ _ _⟩, Blk.new _ _ _⟩

/-- The rows have at most N entries; there are at most N of them. -/
def AuSz (N : Nat) (a : Au) : Prop := a.nx.length ≤ N ∧ a.ac.length ≤ N ∧ ∀ r ∈ a.nx, r.length ≤ N
/-- Some automaton comes back; the reader has moved on to P at most. -/
def AuUp (Q : Au → Prop) (R P : Nat) (w : World) (e : Ending) (w' : World) : Prop :=
  ∃ (a : Au) (v1 v2 : Value) (xs : List RowV), e = .returned (.agg #[.int .i64 a.al, v1, v2]) ∧ Q a ∧ AuOwn w' w.heap.size v1 v2 a xs ∧ RdUp w' R P ∧ KeepB (fun b => b = R) w w'
theorem AuOwn.keepNew {K : Nat → Prop} {w w' : World} {B : Nat} {v1 v2 : Value} {a : Au} {xs : List RowV} (h : AuOwn w B v1 v2 a xs) (hk : KeepB K w w') (hK : ∀ b, K b → b < B) : AuOwn w' B v1 v2 a xs :=
  ⟨h.rows.keep hk (fun g hg hb => by have := (h.rows.own.lt g hg).1; have := hK g hb; omega) (fun x hx g hg hb => by have := ((h.rows.rows x hx).lt g hg).1; have := hK g hb; omega), h.eq, own_keep h.acc hk fun g hg hb => by have := (h.acc.lt g hg).1; have := hK g hb; omega⟩
/-- The result variable (its block is that of the world before) is stored into. -/
theorem AuUp.ret {Q : Au → Prop} {w w1 : World} {R P P' : Nat} {a : Au} {v1 v2 : Value} {xs : List RowV} (hq : Q a) (ho : AuOwn w1 (w.heap.size + 1) v1 v2 a xs) (hr : RdUp w1 R P) (hP : P ≤ P') (hk : KeepB (fun b => b = R) w w1) (hR : R < w.heap.size) (u1 u2 u3 : Value) :
    AuUp Q R P' w (.returned (.agg #[.int .i64 a.al, v1, v2])) (((w1.setCell ⟨w.heap.size, 0, none⟩ u1).setCell ⟨w.heap.size, 1, none⟩ u2).setCell ⟨w.heap.size, 2, none⟩ u3) := by
  have hk2 : KeepB (fun b => b = w.heap.size) w1 (((w1.setCell ⟨w.heap.size, 0, none⟩ u1).setCell ⟨w.heap.size, 1, none⟩ u2).setCell ⟨w.heap.size, 2, none⟩ u3) := (((KeepB.refl _ w1).setCell _ _ (by simp)).setCell _ _ (by simp)).setCell _ _ (by simp)
  exact ⟨a, v1, v2, xs, rfl, hq, (ho.keepNew hk2 (fun b e => by omega)).base (by omega), (hr.more hP).keep hk2 (by omega), ((hk.setCell _ _ (by simp)).setCell _ _ (by simp)).setCell _ _ (by simp)⟩

end Go.Proofs.YtolnlkccbndkcaaDoor

/- The drawing kit: l3Random. -/
namespace Go.Proofs.YtolnlkccbndkcaaDoor
open Go.RowKit Go.BigFrame AG

theorem infoRows : (Tryd.prog.info? 62).map (fun i => (i.zero, i.size, i.bytes)) = some (some (.slice none 0 0), 1, 24) := by kernel_rfl
theorem infoBools : (Tryd.prog.info? 4).map (fun i => (i.zero, i.size, i.bytes)) = some (some (.bool false), 1, 1) := by kernel_rfl

/-- What l3Random holds: i states are drawn. -/
structure RaSt (R P : Nat) (w0 wr : World) (gs : Nat) (al : Int) (v1 v2 : Value) (a : Au) (xs : List RowV) (i N : Nat) : Prop where
  st : AuSt (fun b => b = R) w0 wr gs v1 v2 a xs
  al : a.al = al
  nx : a.nx.length = i
  ac : a.ac.length = i
  rows : ∀ r ∈ a.nx, r.length ≤ 6
  rd : RdUp wr R (P + N)
def RaQ (al : Int) (n : Nat) (a : Au) : Prop := a.al = al ∧ a.nx.length = n ∧ a.ac.length = n ∧ ∀ r ∈ a.nx, r.length ≤ 6
theorem append_snoc_int (xs : List Int) (t : Int) : intVals (xs ++ [t]) = intVals xs ++ [.int .i64 t] := by unfold intVals; rw [List.map_append]; rfl

set_option maxRecDepth 100000 in
set_option maxHeartbeats 8000000 in
theorem l3Random_up (R P : Nat) (al st : Int) (w : World) (hP : P + 100000000 ≤ 1125899906842624) (hst : st ≤ 16) (hr : RdUp w R P) :
    Calls Tryd.prog 186 #[.pointer (some ⟨R, 0, none⟩), .int .i64 al, .int .i64 st] w (AuUp (RaQ al st.toNat) R (P + 20000000) w) := by
  obtain ⟨i0, hi, hz0, hz1, hz2⟩ := info_parts infoInt
  obtain ⟨j0, hj, jz0, jz1, jz2⟩ := info_parts infoRows
  obtain ⟨b0, hb, bz0, bz1, bz2⟩ := info_parts infoBools
  have hR := hr.lt
  obtain ⟨wA, hwA, hzA, hBA, -⟩ := boxed w #[.int .i64 0, .slice none 0 0, .slice none 0 0] 32
  have hzAe : wA.heap.size = w.heap.size + 1 := by rw [← hwA]; simp
  have hres : Blk wA w.heap.size 32 #[.int .i64 0, .slice none 0 0, .slice none 0 0] := by rw [← hwA]; exact Blk.new _ _ _
  have hst0 := AuSt.begin (K := fun b => b = R) (w0 := wA) (wr := wA) al (KeepB.refl _ _) (Nat.le_refl _)
  have hK : ∀ b, b = R → b < wA.heap.size := fun b e => by omega
  have hrA := hr.later hBA
  replace hr := hid hr
  replace hres := hid hres
  have hzAe' := hid hzAe
  clear hzAe
  go_enter Tryd.func186, Tryd.ntmps186
  go_upto_region 2 with fail
  obtain ⟨wB, hwB, hzB, hBB, -⟩ := boxed wA #[.int .i64 al, .slice none 0 0, .slice none 0 0] 32
  rw [hwB]
  rw [hwB] at hst0
  clear hwB
  have hrB := hrA.later hBB
  replace hst0 := hid hst0
  go_wp2_with fail
  refine (l1Letters_any al wB).mono ?_
  rintro e w2 ⟨lv, rfl, hown, hb2⟩
  obtain ⟨AL, cL, rfl, hcL, hcL'⟩ := own_slice hown
  obtain ⟨L, hL⟩ : ∃ L, Hid (L = (letters al).length) := ⟨_, hid rfl⟩
  have hL6 : L ≤ 6 := by rw [hL.out]; exact lettersTo_len al 6
  rw [← hL.out] at hcL ⊢
  have h0 : Hid (RaSt R P wA w2 wA.heap.size al (.slice none 0 0) (.slice none 0 0) ⟨al, [], []⟩ [] 0 0) := hid ⟨hst0.out.later hb2, rfl, rfl, rfl, fun r h => (by cases h), hrB.later hb2⟩
  clear hown hrA hrB hwA
  go_wp2_with fail
  go_loopw [9] (fun iv wr => ∃ (i N : Nat) (v1 v2 : Value) (a : Au) (xs : List RowV), iv = .int .i64 (i : Nat) ∧ i ≤ st.toNat ∧ N ≤ i * 1000000 ∧ RaSt R P wA wr wA.heap.size al v1 v2 a xs i N) (fun iv _ => st.toNat - (intOf iv).toNat)
  case atStart => exact ⟨0, 0, _, _, _, _, rfl, by omega, by omega, h0.out⟩
  case round =>
    obtain ⟨i, N, v1, v2, a, xs, rfl, hi1, hN, hs⟩ := hrel
    by_cases hlt : (i : Int) < st
    · have hi16 : i < 16 := by omega
      replace hs := hid hs
      go_upto_region 7 with fail
      obtain ⟨wo, rfl⟩ : ∃ wo : World, wo = wr := ⟨_, rfl⟩
      have hrow0 := Blk.new wo 3 #[]
      obtain ⟨wC, hwC, hzC, hBC, -⟩ := boxed wo #[] 3
      rw [hwC]
      rw [hwC] at hrow0
      have hzCe : wC.heap.size = wo.heap.size + 1 := by rw [← hwC]; simp
      clear hwC
      have hs1 := hid (hs.out.st.later hBC)
      have hwoz : wA.heap.size ≤ wo.heap.size := hs.out.st.keep.size
      have hrow1 : Hid (wC.ownsRow wo.heap.size 3 1 (.slice (some ⟨wo.heap.size, 0, none⟩) 0 0) 0 (intVals [])) := hid ⟨rfl, .inr ⟨wo.heap.size, 0, #[], rfl, Nat.le_refl _, hrow0, Nat.le_refl _, Nat.zero_le _, rfl, rfl⟩⟩
      have hrdC := hid (hs.out.rd.later hBC)
      have hlow : Hid (∀ y ∈ xs, ∀ k, y.v.ownBlock = some k → k < wo.heap.size) := hid fun y hy k e => (hs.out.st.rowLt hy e).2
      clear hrow0
      go_wp2_with fail
      go_loopw [10, 11] (fun rv kv wr => ∃ (M : Nat) (r : List Int), kv = .int .i64 (r.length : Nat) ∧ r.length ≤ L ∧ M ≤ N + r.length * 10 ∧ AuSt (fun b => b = R) wA wr wA.heap.size v1 v2 a xs ∧ wr.ownsRow wo.heap.size 3 1 rv r.length (intVals r) ∧ RdUp wr R (P + M) ∧ wo.heap.size ≤ wr.heap.size) (fun _ kv _ => L - (intOf kv).toNat)
      case atStart => exact ⟨N, [], rfl, by simp, by simp, hs1.out, hrow1.out, hrdC.out, by omega⟩
      case round =>
        obtain ⟨M, r, rfl, hk, hM, hsr, hor, hrd, hwor⟩ := hrel
        obtain ⟨Ar, cr, rfl, hcr, hcr'⟩ := own_slice hor
        have hzr := World.ownsRow.lt hor
        have hzAe := hzAe'.out
        by_cases hkl : r.length < L
        · replace hsr := hid hsr
          replace hor := hid hor
          replace hrd := hid hrd
          clear hzAe
          go_wp2_with fail
          refine (pick_up R (P + M) st wr (by omega) (by omega) hrd.out).mono ?_
          rintro e w3 ⟨t, rfl, ht0, -, hr3, hk3⟩
          have hs3 := hid (hsr.out.keepK hK hk3)
          have ho3 := hid (own_keep hor.out hk3 fun g hg e => by have := (hor.out.lt g hg).1; have := hzAe'.out; omega)
          have hz3 := hk3.size
          replace hr3 := hid hr3
          replace hk3 := hid hk3
          go_wp2_with (at_builtin; refine wpList_append_own_at _ rfl _ _ 62 rfl wo.heap.size 3 i0 (.int .i64 0) 1 8 Tryd.underlying62 hi hz0 hz1 hz2 rfl (by decide) _ _ _ rfl (ho3.out.alloc _) ⟨w3.heap.size, 0, none⟩ 1 1 [.int .i64 t] rfl rfl (cell_one_new _ _ _) (by intro u hu; simp at hu; subst hu; rfl) (by unfold maxLen; omega) (by omega) (by simp; omega) ?_; intro v5 w5 hO5 hg5 _ hat5; obtain ⟨A5, c5, ev5, -, -⟩ := own_slice hO5; subst ev5; replace hO5 := hid hO5; replace hg5 := hid hg5; replace hat5 := hid hat5)
          have hkk : Hid (KeepB (fun b => wo.heap.size ≤ b) w3 w5) := hid (((KeepB.refl _ w3).alloc _).grown hg5.out fun k hk _ => (ho3.out.lt k hk).1)
          have hfin : Hid (AuSt (fun b => b = R) wA w5 wA.heap.size v1 v2 a xs) := hid (hs.out.st.far hs3.out hkk.out)
          have hrd5 : Hid (RdUp w5 R (P + (M + 1))) := hid (hr3.out.keep hkk.out fun k hk => by have := hzAe'.out; omega)
          have hz5 : Hid (wo.heap.size ≤ w5.heap.size) := hid (by have := hkk.out.size; omega)
          go_roundw
          case rel => exact ⟨M + 1, r ++ [t], by rw [List.length_append]; go_num, by rw [List.length_append]; exact hkl, by rw [List.length_append]; simp; omega, hfin.out, by rw [append_snoc_int, List.length_append]; exact hO5.out, hrd5.out, hz5.out⟩
          case measure => simp [intOf]; omega
        · have hsr' := hsr
          obtain ⟨A1, c1, e1, -, -⟩ := own_slice hsr.own.rows.own
          subst e1
          have b0 := hsr.blk.cell 0
          have b1 := hsr.blk.cell 1
          simp only [List.getElem?_toArray, List.getElem?_cons_zero, List.getElem?_cons_succ] at b0 b1
          have hxl := hsr.len
          have hxl2 : xs.length ≤ 16 := by have := hs.out.nx; omega
          replace hsr := hid hsr
          replace hsr' := hid hsr'
          replace hor := hid hor
          replace hrd := hid hrd
          replace hxl := hid hxl
          have hgsl := hsr.out.blk.lt
          clear hzAe
          go_upto_region 12 with (at_builtin; refine wpList_append_own_at _ rfl _ _ 29 rfl wA.heap.size 62 j0 (.slice none 0 0) 1 24 Tryd.underlying29 hj jz0 jz1 jz2 rfl (by decide) _ _ _ rfl (hsr.out.own.rows.own.alloc _) ⟨wr.heap.size, 0, none⟩ 1 1 [.slice Ar r.length cr] rfl rfl (cell_one_new _ _ _) (by intro u hu; simp at hu; subst hu; rfl) (by unfold maxLen; omega) (by omega) (by simp; omega) ?_; intro v5 w5 hO5 hg5 _ hat5; obtain ⟨A5, c5, ev5, -, -⟩ := own_slice hO5; subst ev5; have hbl5 : Blk w5 wA.heap.size 32 #[.int .i64 a.al, .slice A1 xs.length c1, v2] := ((hsr.out.blk.alloc _).keep ((KeepB.refl _ _).grown hg5 (fun k hk _ => hk)) (fun e => own_ne hsr.out.own.rows.own hsr.out.blk (by decide) _ e rfl)); have x1 := hbl5.cell 1; have y1 := hbl5.frozen 1; simp only [List.getElem?_toArray, List.getElem?_cons_zero, List.getElem?_cons_succ] at x1; replace hO5 := hid hO5; replace hg5 := hid hg5; replace hat5 := hid hat5; replace hbl5 := hid hbl5)
          have hx5 := hid ((hsr.out.later ((Below.refl _ wr).alloc (Nat.le_refl _) (.cells #[.slice Ar r.length cr] 62))).row (x := ⟨r, Ar, cr⟩) (own_base (own_later_ (show wr.ownsRow wo.heap.size 3 1 (.slice Ar r.length cr) r.length (intVals r) from hor.out) ((Below.refl _ wr).alloc (Nat.le_refl _) _)) hwoz)
            (fun y hy k e e2 => by have := hlow.out y hy k e; have := (hor.out.lt k e2).1; omega) hg5.out hO5.out)
          obtain ⟨w6, hw6⟩ : ∃ w6, w5.setCell ⟨wA.heap.size, 1, none⟩ (.slice A5 (xs.length + 1) c5) = w6 := ⟨_, rfl⟩
          rw [hw6] at hx5 ⊢
          have hk6 : KeepB (fun b => wA.heap.size ≤ b) wr w6 := by
            rw [← hw6]
            exact (((KeepB.refl _ wr).alloc _).grown hg5.out fun k hk _ => (hsr.out.own.rows.own.lt k hk).1).setCell _ _ fun _ => Nat.le_refl _
          have hrd6 := hrd.out.keep hk6 fun k hk => by have := hzAe'.out; omega
          clear hw6 x1 y1 b0 b1
          obtain ⟨a6, ha6⟩ : ∃ a6, Hid (a6 = (⟨a.al, a.nx ++ [r], a.ac⟩ : Au)) := ⟨_, hid rfl⟩
          have hal6 : a6.al = a.al := by rw [ha6.out]
          rw [← ha6.out, ] at hx5
          have c2 := hx5.out.blk.cell 2
          simp only [List.getElem?_toArray, List.getElem?_cons_zero, List.getElem?_cons_succ] at c2
          obtain ⟨A2, c2', e2, -, -⟩ := own_slice hx5.out.own.acc
          subst e2
          have hgs6 := hx5.out.blk.lt
          have hac6 := hid (show a6.ac.length = i by rw [ha6.out]; exact hs.out.ac)
          have hac16 : a6.ac.length ≤ 16 := by have := hac6.out; omega
          have q2 := RI.cell hrd6 c2 (by have := hzAe'.out; omega)
          have hgR := hid (show wA.heap.size ≠ R from by have := hzAe'.out; omega)
          replace hrd6 := hid hrd6
          replace hk6 := hid hk6
          replace hal6 := hid hal6
          clear c2
          refine GK.wp_region 6 [6, 7, 8] 200 (KeepB fun b => b = R) (RI w6 R (P + M)) (fun _ u _ => ∃ x : Int, u = .int .i64 x) (by kernel_rfl) (by kernel_rfl) (RI.way w6 R _) (by decide) (RI.drew hrd6.out) ?_
          simp only [List.take_succ_cons, List.take_zero]
          (repeat (refine GK.grow_quiet w6 (by rfl) (by rfl) ?_; intro K hK; go_big_quiet_op; go_big_quiet_on))
          refine GK.grow_call (by rfl) (fun u w w' _ h => h) (fun m wq hm hbq hf => ?_) ?_
          · go_simp
            exact ⟨rfl, (pick_up R (P + M + m * 10000) 3 wq (by omega) (by omega) hbq.2).mono fun e w' ⟨x, h2, _, _, h3, h4⟩ => ⟨_, h2, RI.call hbq h4 h3 (by omega), x, rfl⟩⟩
          rintro u ⟨_, _, _, x, rfl⟩
          simp only [Act.put, List.setIfInBounds_toArray, List.set_cons_zero, List.set_cons_succ]
          (repeat (refine GK.grow_quiet w6 (by rfl) (by rfl) ?_; intro K hK; go_big_quiet_op; go_big_quiet_on))
          refine GK.grow_new (K := fun b => b = R) (by rfl) w6.heap.size (fun b => .slice (some ⟨b, 0, none⟩) 1 1) 4 #[.bool (decide (0 < x))] (fun _ => by go_simp) rfl (fun _ _ o h => RI.alloc o h) (fun _ _ h => RI.size h) (fun k hk => by have := hrd6.out.lt; omega) (fun bb hbb => ?_)
          simp only [Act.put, List.setIfInBounds_toArray, List.set_cons_zero, List.set_cons_succ]
          refine GK.grow_nil ?_
          intro w8 hw8 hf
          obtain ⟨g', hge, hge2, hblk8⟩ := hf _ List.mem_cons_self
          cases hge
          clear hf q2
          simp only [List.filterMap_cons, List.filterMap_nil, List.getElem?_cons_zero, List.getElem?_cons_succ]
          have hs8 := hx5.out.keepK hK hw8.1
          have hown8 := hs8.own.acc
          have hbl8 := hs8.blk
          have ag : (Value.slice A2 a6.ac.length c2').ownBlock ≠ some wA.heap.size := fun e => own_ne hown8 hbl8 (by decide) _ e rfl
          have hbl8' := hbl8.lt
          have c2 := hbl8.cell 2
          have f2 := hbl8.frozen 2
          simp only [List.getElem?_toArray, List.getElem?_cons_zero, List.getElem?_cons_succ] at c2
          replace hs8 := hid hs8
          refine wpList_append_own_at _ (by rfl) _ _ 30 (by rfl) wA.heap.size 4 b0 (.bool false) 1 1 Tryd.underlying30 hb bz0 bz1 bz2 rfl (by decide) _ a6.ac.length (boolVals a6.ac) (by rfl) hown8 ⟨bb, 0, none⟩ 1 1 [.bool (decide (0 < x))] (by rfl) (by rfl) (World.news_of_block hblk8) ?c1 ?c3 ?c4 ?c5 ?_
          case c1 => simp [Value.oneCell']
          case c3 => unfold maxLen; omega
          case c4 => omega
          case c5 => have := hs8.out.keep.size; omega
          intro v9 w9 hown9 hgrow hnil9 hat9
          obtain ⟨A9, c9, hv9, -, -⟩ := own_slice hown9
          subst hv9
          have c2'' : w9.cell? ⟨wA.heap.size, 2, none⟩ = some (.slice A2 a6.ac.length c2') := by rw [hgrow.cell_far _ (by simpa using hbl8') (Ne.symm ag)]; exact c2
          have f2'' : w9.frozen? ⟨wA.heap.size, 2, none⟩ = false := by rw [hgrow.frozen_far _ (by simpa using hbl8') (Ne.symm ag)]; exact f2
          have hfin := hid (hs8.out.put hgrow hown9)
          have hk9 : Hid (KeepB (fun b => wA.heap.size ≤ b) w8 (w9.setCell ⟨wA.heap.size, 2, none⟩ (.slice A9 (a6.ac.length + 1) c9))) := hid (((KeepB.refl _ w8).grown hgrow fun k hk _ => (hs8.out.own.acc.lt k hk).1).setCell _ _ fun _ => Nat.le_refl _)
          have hrd9 := hid ((hw8.2.keep hk9.out fun k hk => by have := hzAe'.out; omega).more (by omega : P + M + _ ≤ P + (M + 90000)))
          clear hown8 hbl8 hown9 hgrow c2 f2
          go_wp2_with fail
          go_roundw
          case rel => exact ⟨i + 1, M + 90000, _, _, _, _, by go_num, by omega, by omega, ⟨hfin.out, by show a6.al = al; rw [hal6.out]; exact hs.out.al, by show a6.nx.length = i + 1; rw [ha6.out]; simp [hs.out.nx], by show (a6.ac ++ _).length = i + 1; rw [List.length_append]; rw [hac6.out]; rfl, by
            show ∀ y ∈ a6.nx, y.length ≤ 6
            rw [ha6.out]
            intro y hy
            rcases List.mem_append.1 hy with hy | hy
            · exact hs.out.rows y hy
            · rw [List.mem_singleton.1 hy]; omega, hrd9.out⟩⟩
          case measure => simp [intOf]; omega
    · obtain ⟨A1, c1, e1, -, -⟩ := own_slice hs.st.own.rows.own
      subst e1
      obtain ⟨A2, c2, e2, -, -⟩ := own_slice hs.st.own.acc
      subst e2
      have k0 := hs.st.blk.cell 0
      have k1 := hs.st.blk.cell 1
      have k2 := hs.st.blk.cell 2
      have hzAe := hzAe'.out
      have hbl := hres.out.keep hs.st.keep (by omega)
      have d0 := hbl.cell 0
      have d1 := hbl.cell 1
      have d2 := hbl.cell 2
      have f0 := hbl.frozen 0
      have f1 := hbl.frozen 1
      have f2 := hbl.frozen 2
      simp only [List.getElem?_toArray, List.getElem?_cons_zero, List.getElem?_cons_succ] at d0 d1 d2 k0 k1 k2
      have hlt2 := hbl.lt
      have hown := hs.st.own
      rw [hzAe] at hown
      have hfin := hid (AuUp.ret (Q := RaQ al st.toNat) (P' := P + 20000000) ⟨hs.al, by have := hs.nx; omega, by have := hs.ac; omega, hs.rows⟩ hown hs.rd (by omega) ((KeepB.of_below hBA).trans hs.st.keep) hR (.int .i64 a.al) (.slice A1 xs.length c1) (.slice A2 a.ac.length c2))
      replace hs := hid hs
      clear hbl hown hzAe
      go_wp2
      refine bodyPost_ret (v := .agg #[.int .i64 a.al, .slice A1 xs.length c1, .slice A2 a.ac.length c2]) (by simp [results, Tryd.results186, go_sem, d0, d1, d2]) rfl ?_
      exact hfin.out

end Go.Proofs.YtolnlkccbndkcaaDoor

/- The drawing kit: l3Safe, l3Over. -/
namespace Go.Proofs.YtolnlkccbndkcaaDoor
open Go.RowKit Go.BigFrame AG

theorem AuSt.of {K : Nat → Prop} {w0 w1 : World} {v1 v2 : Value} {a : Au} {xs : List RowV} (ho : AuOwn w1 w0.heap.size v1 v2 a xs) (hk : KeepB K w0 w1) :
    AuSt K w0 (w1.alloc (.cells #[.int .i64 a.al, v1, v2] 32)) w1.heap.size v1 v2 a xs :=
  ⟨hk.alloc _, hk.size, ho.later ((Below.refl _ _).alloc (Nat.le_refl _) _), Blk.new _ _ _⟩
theorem AuUp.imp {Q Q' : Au → Prop} {R P P' : Nat} {w : World} {e : Ending} {w' : World} (h : AuUp Q R P w e w') (hq : ∀ a, Q a → Q' a) (hP : P ≤ P') : AuUp Q' R P' w e w' := by
  obtain ⟨a, v1, v2, xs, h1, h2, h3, h4, h5⟩ := h
  exact ⟨a, v1, v2, xs, h1, hq a h2, h3, h4.more hP, h5⟩

theorem own_frozen {w : World} {base : Nat} {e : TypeId} {size : Nat} {v : Value} {n : Nat} {xs : List Value} {g : Nat} (h : w.ownsRow base e size v n xs) (hg : v.ownBlock = some g) (i : Nat) : w.frozen? ⟨g, i, none⟩ = false := by
  rcases h.2 with ⟨rfl, _⟩ | ⟨g', cap, cur, rfl, _, hgg, _⟩
  · cases hg
  · cases hg
    exact Blk.frozen (show Blk w g' e cur from hgg) i
set_option maxRecDepth 100000 in
set_option maxHeartbeats 8000000 in
theorem l3Safe_up (R P n : Nat) (al : Int) (w : World) (hP : P + 200000000 ≤ 1125899906842624) (hn1 : 1 ≤ n) (hn : n ≤ 16) (hr : RdUp w R P) :
    Calls Tryd.prog 185 #[.pointer (some ⟨R, 0, none⟩), .int .i64 al, .int .i64 (n : Nat)] w (AuUp (RaQ al n) R (P + 20000000) w) := by
  have hR := hr.lt
  obtain ⟨wA, hwA, hzA, hBA, -⟩ := boxed w #[.int .i64 0, .slice none 0 0, .slice none 0 0] 32
  have hzAe : wA.heap.size = w.heap.size + 1 := by rw [← hwA]; simp
  have hres : Blk wA w.heap.size 32 #[.int .i64 0, .slice none 0 0, .slice none 0 0] := by rw [← hwA]; exact Blk.new _ _ _
  have hK : ∀ b, b = R → b < wA.heap.size := fun b e => by omega
  have hrA := hid (hr.later hBA)
  replace hr := hid hr
  replace hres := hid hres
  have hzAe' := hid hzAe
  clear hzAe
  go_enter Tryd.func185, Tryd.ntmps185
  go_wp2_with fail
  refine (l3Random_up R P al (n : Nat) wA (by omega) (by omega) hrA.out).mono ?_
  rintro e w1 ⟨a, v1, v2, xs, rfl, hq, ho, hr1, hk1⟩
  rw [Int.toNat_natCast] at hq
  clear hwA
  have hst := AuSt.of ho hk1
  have hr2 := hr1.later ((Below.refl _ w1).alloc (Nat.le_refl _) (.cells #[.int .i64 a.al, v1, v2] 32))
  obtain ⟨q1, q2, q3, q4⟩ := hq
  have hal := hid q1
  have hnx := hid q2
  have hac := hid q3
  have hrw := hid q4
  clear q1 q2 q3 q4 ho hr1
  obtain ⟨A1, c1, e1, -, -⟩ := own_slice hst.own.rows.own
  obtain ⟨g2, c2, e2, -, -, -, -, -⟩ := own_shape hst.own.acc (by have := hac.out; omega)
  subst e1 e2
  have hxl := hst.len
  rw [hxl, hnx.out] at hst hr2 ⊢
  rw [hac.out] at hst hr2 ⊢
  have hz1 := hk1.size
  replace hst := hid hst
  replace hr2 := hid hr2
  replace hxl := hid hxl
  replace hk1 := hid hk1
  obtain ⟨gs, hgs⟩ : ∃ gs, Hid (gs = w1.heap.size) := ⟨_, hid rfl⟩
  go_upto_region 2 with fail
  rw [← hgs.out] at hst ⊢
  obtain ⟨w2, hw2⟩ : ∃ w2, w1.alloc (.cells #[.int .i64 a.al, .slice A1 n c1, .slice (some ⟨g2, 0, none⟩) n c2] 32) = w2 := ⟨_, rfl⟩
  rw [hw2] at hst hr2 ⊢
  clear hw2
  go_wp2_with fail
  go_loopw [8] (fun iv wr => ∃ (i : Nat) (ac : List Bool), iv = .int .i64 (i : Nat) ∧ i ≤ n ∧ ac.length = n ∧ AuSt (fun b => b = R) wA wr gs (.slice A1 n c1) (.slice (some ⟨g2, 0, none⟩) n c2) ⟨a.al, a.nx, ac⟩ xs ∧ RdUp wr R (P + 20000000)) (fun iv _ => n - (intOf iv).toNat)
  case atStart => exact ⟨0, a.ac, rfl, by omega, hac.out, hst.out, hr2.out⟩
  case round =>
    obtain ⟨i, ac, rfl, hi, hacl, hs, hrd⟩ := hrel
    have k1 := hs.blk.cell 1
    have k2 := hs.blk.cell 2
    simp only [List.getElem?_toArray, List.getElem?_cons_zero, List.getElem?_cons_succ] at k1 k2
    by_cases hlt : i < n
    · have hgsl := hs.blk.lt
      obtain ⟨g, cap, hve, hg1, hg2, hcap1, hcap2, hcell⟩ := own_shape hs.own.acc (by show 0 < ac.length; omega)
      have hve' : g = g2 := by injection hve with hve; injection hve with hve; injection hve with hve; exact hve.symm
      subst hve'
      obtain ⟨t0, c0⟩ : ∃ t0, wr.cell? ⟨g, i, none⟩ = some (.bool t0) := ⟨_, hcell i _ (show (boolVals ac)[i]? = some (.bool (ac[i]'(by omega))) from by unfold boolVals; simp [hacl, hlt])⟩
      have fz : wr.frozen? ⟨g, i, none⟩ = false := own_frozen hs.own.acc rfl i
      have hacl' := hid hacl
      have hset := hid (fun t => AuSt.setAc (g := g) (c := c2) (i := i) (t := t) (a := ⟨a.al, a.nx, ac⟩) (by rw [show (⟨a.al, a.nx, ac⟩ : Au).ac.length = n from hacl'.out]; exact hs))
      have kx : (0 : Int) ≤ (i : Int) ∧ (i : Int) < (n : Int) := by omega
      have hrd' := hid hrd
      replace hs := hid hs
      replace hcell := hid hcell
      clear hacl hrd hve
      go_wp2_with fail
      go_roundw
      case rel =>
        have h1 := hset.out (decide ((i : Int) < (n : Int) - 1))
        rw [show (⟨a.al, a.nx, ac⟩ : Au).ac.length = n from hacl'.out] at h1
        exact ⟨i + 1, _, by go_num, by omega, by rw [List.length_set]; exact hacl'.out, h1, hrd'.out.keep ((KeepB.refl (fun b => wA.heap.size ≤ b) wr).setCell _ _ fun _ => hg1) fun k hk => by have := hzAe'.out; omega⟩
      case measure => simp [intOf]; omega
    · obtain ⟨n1, hn1'⟩ : ∃ n1, n = n1 + 1 := ⟨n - 1, by omega⟩
      have hxln : xs.length = n := by rw [hxl.out, hnx.out]
      obtain ⟨x, hx⟩ : ∃ x, x = xs[n1]'(by omega) := ⟨_, rfl⟩
      have hsplit : xs = xs.take n1 ++ x :: xs.drop (n1 + 1) := by
        rw [hx, ← List.drop_eq_getElem_cons (by omega), List.take_append_drop]
      obtain ⟨l1, hl1⟩ : ∃ l1, l1 = xs.take n1 := ⟨_, rfl⟩
      obtain ⟨l2, hl2⟩ : ∃ l2, l2 = xs.drop (n1 + 1) := ⟨_, rfl⟩
      have hl1n : l1.length = n1 := by rw [hl1, List.length_take]; omega
      rw [← hl1, ← hl2] at hsplit
      have hrx : x.r.length ≤ 6 := by
        refine hrw.out x.r ?_
        have := hst.out.own.eq
        rw [← this]
        exact List.mem_map_of_mem (by rw [hx]; exact List.getElem_mem _)
      obtain ⟨r, Ax, cx⟩ := x
      have hlen2 : Hid ((l1 ++ ⟨r, Ax, cx⟩ :: l2).length = n) := hid (by rw [← hsplit]; exact hxln)
      have hs' : AuSt (fun b => b = R) wA wr gs (.slice A1 n c1) (.slice (some ⟨g2, 0, none⟩) n c2) ⟨a.al, (l1 ++ ⟨r, Ax, cx⟩ :: l2).map (·.r), ac⟩ (l1 ++ ⟨r, Ax, cx⟩ :: l2) := by
        have := hs.own.eq
        rw [hsplit] at hs this
        rw [this]
        exact hs
      have hrx' : r.length ≤ 6 := hrx
      have hrows : Hid (∀ y, y ∈ l1 ++ l2 → y.r.length ≤ 6) := hid fun y hy => by
        refine hrw.out y.r ?_
        have := hst.out.own.eq
        rw [← this, hsplit]
        refine List.mem_map_of_mem ?_
        rcases List.mem_append.1 hy with hy | hy
        · exact List.mem_append_left _ hy
        · exact List.mem_append_right _ (List.mem_cons_of_mem _ hy)
      have hacl' := hid hacl
      have hnn : (n : Int) - 1 = (n1 : Int) := by omega
      have hn1l : (0 : Int) ≤ (n1 : Int) ∧ (n1 : Int) < (n : Int) := by omega
      have hrd' := hid hrd
      replace hs' := hid hs'
      replace hl1n := hid hl1n
      replace hxln := hid hxln
      clear hs hx hl1 hl2 hsplit hacl hrd hrx
      replace hn1' := hid hn1'
      go_wp2_with fail
      go_loopw [9] (fun kv wr => ∃ (k : Nat) (r' : List Int), kv = .int .i64 (k : Nat) ∧ k ≤ r.length ∧ r'.length = r.length ∧ AuSt (fun b => b = R) wA wr gs (.slice A1 n c1) (.slice (some ⟨g2, 0, none⟩) n c2) ⟨a.al, (l1 ++ ⟨r', Ax, cx⟩ :: l2).map (·.r), ac⟩ (l1 ++ ⟨r', Ax, cx⟩ :: l2) ∧ RdUp wr R (P + 20000000)) (fun kv _ => r.length - (intOf kv).toNat)
      case atStart => exact ⟨0, r, rfl, by omega, rfl, hs'.out, hrd'.out⟩
      case round =>
        clear k1 k2 hs' hrd'
        obtain ⟨k, r', rfl, hk, hrl, hs, hrd⟩ := hrel
        have k0 := hs.blk.cell 0
        have k1 := hs.blk.cell 1
        have k2 := hs.blk.cell 2
        simp only [List.getElem?_toArray, List.getElem?_cons_zero, List.getElem?_cons_succ] at k0 k1 k2
        obtain ⟨gT, capT, hve, -, -, -, -, hcell⟩ := own_shape hs.own.rows.own (by have := hlen2.out; simp at this ⊢; omega)
        have e1 : A1 = some ⟨gT, 0, none⟩ := by injection hve
        subst e1
        have t0 := hcell n1 _ (show (rowVals (l1 ++ ⟨r', Ax, cx⟩ :: l2))[n1]? = some (.slice Ax r'.length cx) from by
          unfold rowVals
          rw [List.map_append, List.getElem?_append_right (by rw [List.length_map, hl1n.out]; exact Nat.le_refl _), List.length_map, hl1n.out, Nat.sub_self]
          rfl)
        rw [hrl] at t0
        by_cases hlt2 : k < r.length
        · have hxo := hs.own.rows.rows ⟨r', Ax, cx⟩ (by simp)
          obtain ⟨gr, capr, hver, hgr1, hgr2, -, -, hcellr⟩ := own_shape hxo (by show 0 < r'.length; omega)
          have e2 : Ax = some ⟨gr, 0, none⟩ := by injection hver
          subst e2
          obtain ⟨y0, c0⟩ : ∃ y0, wr.cell? ⟨gr, k, none⟩ = some (.int .i64 y0) := ⟨_, hcellr k _ (show (intVals r')[k]? = some (.int .i64 (r'[k]'(by omega))) from by unfold intVals; simp [hrl, hlt2])⟩
          have fz : wr.frozen? ⟨gr, k, none⟩ = false := own_frozen hxo rfl k
          have hset := hid (fun t => hs.setRow (j := k) t)
          have hrl' := hid hrl
          have kx : (0 : Int) ≤ (k : Int) ∧ (k : Int) < (r.length : Int) := by omega
          replace hs := hid hs
          replace hcell := hid hcell
          replace hcellr := hid hcellr
          replace hxo := hid hxo
          have hrd2 := hid hrd
          clear hrl hver hve hrd
          go_wp2_with fail
          go_roundw
          case rel => exact ⟨k + 1, r'.set k (n1 : Int), by go_num, by omega, by rw [List.length_set]; exact hrl'.out, hset.out (n1 : Int), hrd2.out.keep ((KeepB.refl (fun b => wA.heap.size ≤ b) wr).setCell _ _ fun _ => hgr1) fun k hk => by have := hzAe'.out; omega⟩
          case measure => simp [intOf]; omega
        · have hbl := hres.out.keep hs.keep (by omega)
          have d0 := hbl.cell 0
          have d1 := hbl.cell 1
          have d2 := hbl.cell 2
          have f0 := hbl.frozen 0
          have f1 := hbl.frozen 1
          have f2 := hbl.frozen 2
          simp only [List.getElem?_toArray, List.getElem?_cons_zero, List.getElem?_cons_succ] at d0 d1 d2
          have hltb := hbl.lt
          have hown := hs.own
          rw [hzAe'.out] at hown
          have hfin := hid (AuUp.ret (Q := RaQ al n) (P' := P + 20000000) (a := ⟨a.al, (l1 ++ ⟨r', Ax, cx⟩ :: l2).map (·.r), ac⟩) ⟨hal.out, by have := hlen2.out; simp at this ⊢; omega, hacl'.out, fun y hy => by
            obtain ⟨z, hz, rfl⟩ := List.mem_map.1 hy
            rcases List.mem_append.1 hz with hz | hz
            · exact hrows.out z (List.mem_append_left _ hz)
            · rcases List.mem_cons.1 hz with rfl | hz
              · show r'.length ≤ 6; omega
              · exact hrows.out z (List.mem_append_right _ hz)⟩ hown hrd (Nat.le_refl _) ((KeepB.of_below hBA).trans hs.keep) hR (.int .i64 a.al) (.slice (some ⟨gT, 0, none⟩) n c1) (.slice (some ⟨g2, 0, none⟩) n c2))
          replace hs := hid hs
          replace hcell := hid hcell
          have hrl' := hid hrl
          clear hbl hown hve hrl
          go_wp2
          refine bodyPost_ret (v := .agg #[.int .i64 a.al, .slice (some ⟨gT, 0, none⟩) n c1, .slice (some ⟨g2, 0, none⟩) n c2]) (by simp [results, Tryd.results185, go_sem, d0, d1, d2]) rfl ?_
          exact hfin.out

def OvQ (al : Int) (a : Au) : Prop := a.al = al ∧ 1 ≤ a.nx.length ∧ a.nx.length ≤ 12 ∧ a.ac.length = a.nx.length ∧ ∀ r ∈ a.nx, r.length ≤ 6
set_option maxRecDepth 100000 in
set_option maxHeartbeats 4000000 in
theorem l3Over_up (R P : Nat) (al : Int) (w : World) (hP : P + 300000000 ≤ 1125899906842624) (hr : RdUp w R P) :
    Calls Tryd.prog 162 #[.pointer (some ⟨R, 0, none⟩), .int .i64 al] w (AuUp (OvQ al) R (P + 30000000) w) := by
  have hR := hr.lt
  obtain ⟨wA, hwA, hzA, hBA, -⟩ := boxed w #[.int .i64 0, .slice none 0 0, .slice none 0 0] 32
  have hzAe : wA.heap.size = w.heap.size + 1 := by rw [← hwA]; simp
  have hres : Blk wA w.heap.size 32 #[.int .i64 0, .slice none 0 0, .slice none 0 0] := by rw [← hwA]; exact Blk.new _ _ _
  have hrA := hid (hr.later hBA)
  replace hr := hid hr
  replace hres := hid hres
  have hzAe' := hid hzAe
  clear hzAe
  go_enter Tryd.func162, Tryd.ntmps162
  go_wp2_with fail
  refine (pick_up R P 2 wA (by omega) (by omega) hrA.out).mono ?_
  rintro e wp ⟨j, rfl, hj0, hj1, hrp, hkp⟩
  clear hwA hj1
  replace hrp := hid hrp
  replace hkp := hid hkp
  by_cases hj : j = 0
  · subst hj
    go_wp2_with fail
    refine (num_lit R (P + 1) [3, 2, 4, 1] wp _ (by decide) (by decide) (by omega) hrp.out).mono ?_
    rintro e w1 ⟨x, hx, rfl, hr1, hk1⟩
    obtain ⟨n, rfl, hn1, hn⟩ : ∃ n : Nat, x = (n : Int) ∧ 1 ≤ n ∧ n ≤ 12 := by
      simp at hx
      exact ⟨x.toNat, by omega, by omega, by omega⟩
    replace hr1 := hid hr1
    replace hk1 := hid hk1
    clear hx
    go_wp2_with fail
    refine (l3Safe_up R (P + 1 + 1) n al w1 (by omega) hn1 (by omega) hr1.out).mono ?_
    rintro e w2 ⟨a, v1, v2, xs, rfl, hq, ho, hr2, hk2⟩
    obtain ⟨A1, c1, e1, -, -⟩ := own_slice ho.rows.own
    obtain ⟨A2, c2, e2, -, -⟩ := own_slice ho.acc
    subst e1 e2
    have hkk := (hkp.out.trans hk1.out).trans hk2
    have hbl := hres.out.keep hkk (by omega)
    have d0 := hbl.cell 0
    have d1 := hbl.cell 1
    have d2 := hbl.cell 2
    have f0 := hbl.frozen 0
    have f1 := hbl.frozen 1
    have f2 := hbl.frozen 2
    simp only [List.getElem?_toArray, List.getElem?_cons_zero, List.getElem?_cons_succ] at d0 d1 d2
    have hltb := hbl.lt
    obtain ⟨q1, q2, q3, q4⟩ := hq
    have hz1 : wA.heap.size ≤ w1.heap.size := (hkp.out.trans hk1.out).size
    have hfin := hid (AuUp.ret (w := w) (Q := OvQ al) (P' := P + 30000000) (a := a) ⟨q1, by omega, by omega, by omega, q4⟩ (ho.base (show w.heap.size + 1 ≤ w1.heap.size by have := hzAe'.out; omega)) hr2 (by omega) ((KeepB.of_below hBA).trans hkk) hR (.int .i64 a.al) (.slice A1 xs.length c1) (.slice A2 a.ac.length c2))
    clear hbl ho hr2 hk2 hkk q1 q2 q3 q4
    go_wp2
    refine bodyPost_ret (v := .agg #[.int .i64 a.al, .slice A1 xs.length c1, .slice A2 a.ac.length c2]) (by simp [results, Tryd.results162, go_sem, d0, d1, d2]) rfl ?_
    exact hfin.out
  · have hjb : ((j : Int) == 0) = false := by simp; omega
    replace hj := hid hj
    go_wp2_with fail
    refine (num_lit R (P + 1) [2, 3, 1, 4, 5] wp _ (by decide) (by decide) (by omega) hrp.out).mono ?_
    rintro e w1 ⟨x, hx, rfl, hr1, hk1⟩
    obtain ⟨n, rfl, hn1, hn⟩ : ∃ n : Nat, x = (n : Int) ∧ 1 ≤ n ∧ n ≤ 12 := by
      simp at hx
      exact ⟨x.toNat, by omega, by omega, by omega⟩
    replace hr1 := hid hr1
    replace hk1 := hid hk1
    clear hx
    go_wp2_with fail
    refine (l3Random_up R (P + 1 + 1) al (n : Nat) w1 (by omega) (by omega) hr1.out).mono ?_
    rintro e w2 ⟨a, v1, v2, xs, rfl, hq, ho, hr2, hk2⟩
    rw [Int.toNat_natCast] at hq
    obtain ⟨A1, c1, e1, -, -⟩ := own_slice ho.rows.own
    obtain ⟨A2, c2, e2, -, -⟩ := own_slice ho.acc
    subst e1 e2
    have hkk := (hkp.out.trans hk1.out).trans hk2
    have hbl := hres.out.keep hkk (by omega)
    have d0 := hbl.cell 0
    have d1 := hbl.cell 1
    have d2 := hbl.cell 2
    have f0 := hbl.frozen 0
    have f1 := hbl.frozen 1
    have f2 := hbl.frozen 2
    simp only [List.getElem?_toArray, List.getElem?_cons_zero, List.getElem?_cons_succ] at d0 d1 d2
    have hltb := hbl.lt
    obtain ⟨q1, q2, q3, q4⟩ := hq
    have hz1 : wA.heap.size ≤ w1.heap.size := (hkp.out.trans hk1.out).size
    have hfin := hid (AuUp.ret (w := w) (Q := OvQ al) (P' := P + 30000000) (a := a) ⟨q1, by omega, by omega, by omega, q4⟩ (ho.base (show w.heap.size + 1 ≤ w1.heap.size by have := hzAe'.out; omega)) hr2 (by omega) ((KeepB.of_below hBA).trans hkk) hR (.int .i64 a.al) (.slice A1 xs.length c1) (.slice A2 a.ac.length c2))
    clear hbl ho hr2 hk2 hkk q1 q2 q3 q4
    go_wp2
    refine bodyPost_ret (v := .agg #[.int .i64 a.al, .slice A1 xs.length c1, .slice A2 a.ac.length c2]) (by simp [results, Tryd.results162, go_sem, d0, d1, d2]) rfl ?_
    exact hfin.out

end Go.Proofs.YtolnlkccbndkcaaDoor

/- The drawing kit: l3Texts, l3Parse, FormatAutomaton. -/
namespace Go.Proofs.YtolnlkccbndkcaaDoor
open Go.RowKit Go.BigFrame AG

theorem texts_post3 (w : World) (T : TypeId) (cs : Array Value) (e : Ending) (he : e = .returned (.slice (some ⟨w.heap.size, 0, none⟩) 12 12)) (hn : cs.size = 12) (h : cs.toList.all isText = true) :
    ∃ xs : List ByteArray, xs.length = 12 ∧ (∀ x ∈ xs, x.size ≤ 60) ∧ e = .returned (.slice (some ⟨w.heap.size, 0, none⟩) 12 12) ∧ (∀ i (hi : i < xs.length), (w.alloc (.cells cs T)).cell? ⟨w.heap.size, 0 + i, none⟩ = some (.string xs[i])) ∧ w.heap.size < (w.alloc (.cells cs T)).heap.size ∧ Below w.heap.size w (w.alloc (.cells cs T)) := by
  obtain ⟨xs, h1, h2, h3⟩ := texts_of w T cs h
  exact ⟨xs, h1.trans hn, h2, he, h3, by simp, (Below.refl _ _).alloc (Nat.le_refl _) _⟩
set_option maxHeartbeats 1000000 in
theorem l3Texts_any (w : World) :
    Calls Tryd.prog 161 #[] w fun e w' => ∃ xs : List ByteArray, xs.length = 12 ∧ (∀ x ∈ xs, x.size ≤ 60) ∧ e = .returned (.slice (some ⟨w.heap.size, 0, none⟩) 12 12) ∧ (∀ i (hi : i < xs.length), w'.cell? ⟨w.heap.size, 0 + i, none⟩ = some (.string xs[i])) ∧ w.heap.size < w'.heap.size ∧ Below w.heap.size w w' := by
  go_enter Tryd.func161, Tryd.ntmps161
  go_wp2
  go_ret
  exact texts_post3 w _ _ _ rfl rfl (by kernel_rfl)

def PrsPost (w : World) (e : Ending) (w' : World) : Prop := ∃ (v : Value) (ns : List Int) (ok : Bool), e = .returned (.tuple #[v, .bool ok]) ∧ w'.ownsRow w.heap.size 3 1 v ns.length (intVals ns) ∧ ns.length ≤ 2000 ∧ Below w.heap.size w w'
set_option maxRecDepth 100000 in
set_option maxHeartbeats 4000000 in
theorem l3Parse_any (s : ByteArray) (w : World) (hz : s.size ≤ 1000) : Calls Tryd.prog 183 #[.string s] w (PrsPost w) := by
  obtain ⟨i0, hi0, hz0, hz1, hz2⟩ := info_parts infoInt
  obtain ⟨wB, hwB, hzB, hBB, -⟩ := boxed w #[] 3
  have hrow0 : Hid (wB.ownsRow w.heap.size 3 1 (.slice (some ⟨w.heap.size, 0, none⟩) 0 0) 0 (intVals [])) := hid ⟨rfl, .inr ⟨w.heap.size, 0, #[], rfl, Nat.le_refl _, by rw [← hwB]; exact Blk.new w 3 #[], Nat.le_refl _, Nat.zero_le _, rfl, rfl⟩⟩
  go_enter Tryd.func183, Tryd.ntmps183
  by_cases hs : s.size = 0
  · have hse : (s.toList == []) = true := by
      have : s = ⟨#[]⟩ := by
        apply ByteArray.ext
        exact Array.eq_empty_of_size_eq_zero hs
      rw [this, ByteArray.toList_eq]; rfl
    replace hs := hid hs
    go_wp2_with fail
    go_ret2
    exact ⟨_, [], true, rfl, hrow0.out, by simp, hBB⟩
  · have hse : (s.toList == []) = false := by
      rw [beq_eq_false_iff_ne]
      intro h
      apply hs
      have := congrArg List.length h
      rw [ByteArray.toList_eq] at this
      simpa using this
    replace hs := hid hs
    go_wp2_with fail
    refine (l19Cut_any s 44 wB (by omega)).mono ?_
    rintro e w1 ⟨pv, ps, rfl, hcut⟩
    have hb1 := hcut.below
    have hplen := hcut.len
    obtain ⟨Ap, cp, hpv, hcp, hcp'⟩ := own_slice hcut.own
    subst hpv
    have hrow1 := hid (own_later_ hrow0.out hb1)
    have hB1 := hBB.trans (hb1.mono hBB.size)
    replace hcut := hid hcut
    go_wp2_with fail
    go_loopw [4, 6] (fun ov iv wr => ∃ (ns : List Int), iv = .int .i64 (ns.length : Nat) ∧ ns.length ≤ ps.length ∧ wr.ownsRow w.heap.size 3 1 ov ns.length (intVals ns) ∧ OwnStrs wr wB.heap.size (.slice Ap ps.length cp) ps ∧ Below w.heap.size w wr) (fun _ iv _ => ps.length - (intOf iv).toNat)
    case atStart => exact ⟨[], rfl, by simp, hrow1.out, hcut.out.own, hB1⟩
    case round =>
      obtain ⟨ns, rfl, hi, ho, hps, hb⟩ := hrel
      obtain ⟨Ao, co, rfl, hco, hco'⟩ := own_slice ho
      by_cases hlt : ns.length < ps.length
      · obtain ⟨gp, cap, hve, hg1, hg2, -, -, hP⟩ := own_strs hps (by omega)
        injection hve with hv1 hv2 hv3
        subst hv1
        subst hv3
        have s0 := hP ns.length hlt
        have hsm : (ps[ns.length]'hlt).size ≤ 1000 := by have := hcut.out.small _ (List.getElem_mem hlt); omega
        obtain ⟨x, hx⟩ : ∃ x, Hid (x = ps[ns.length]'hlt) := ⟨_, hid rfl⟩
        rw [← hx.out] at s0 hsm
        have k1 : (0 : Int) ≤ (ns.length : Int) ∧ (ns.length : Int) < (ps.length : Int) := by omega
        replace hP := hid hP
        replace ho := hid ho
        replace hps := hid hps
        go_wp2_with fail
        refine (l19Num_any x wr (by omega)).mono ?_
        rintro e w' ⟨n, fine, rfl, rfl⟩
        cases fine
        · go_wp2_with fail
          go_ret2
          exact ⟨_, [], false, rfl, World.ownsRow_nil _ _ _ _, by simp, hb⟩
        · have hzr := hb.size
          go_wp2_with (at_builtin; refine wpList_append_own_at _ rfl _ _ 62 rfl w.heap.size 3 i0 (.int .i64 0) 1 8 Tryd.underlying62 hi0 hz0 hz1 hz2 rfl (by decide) _ _ _ rfl (ho.out.alloc _) ⟨wr.heap.size, 0, none⟩ 1 1 [.int .i64 n] rfl rfl (cell_one_new _ _ _) (by intro u hu; simp at hu; subst hu; rfl) (by unfold maxLen; omega) (by omega) (by simp; omega) ?_; intro v5 w5 hO5 hg5 _ hat5; obtain ⟨A5, c5, ev5, -, -⟩ := own_slice hO5; subst ev5; replace hO5 := hid hO5; replace hg5 := hid hg5; replace hat5 := hid hat5)
          have hkk : Hid (KeepB (fun b => (Value.slice Ao ns.length co).ownBlock = some b) wr w5) := hid (((KeepB.refl _ wr).alloc _).grown hg5.out fun k hk _ => hk)
          have hps5 := hid (own_keep hps.out hkk.out fun g hg e => own_ne_own hps.out ho.out (by decide) g g hg e rfl)
          have hb5 := hid (hkk.out.below hb hb.size fun b e => own_block ho.out b e)
          go_roundw
          case rel => exact ⟨ns ++ [n], by rw [List.length_append]; go_num, by rw [List.length_append]; exact hlt, by rw [append_snoc_int, List.length_append]; exact hO5.out, hps5.out, hb5.out⟩
          case measure => simp [intOf]; omega
      · go_wp2_with fail
        go_ret2
        exact ⟨_, ns, true, rfl, ho, by have := hplen; omega, hb⟩

set_option maxRecDepth 100000 in
set_option maxHeartbeats 4000000 in
theorem formatAutomaton_any (a : Au) (A B : Option Addr) (c d : Nat) (w : World) (ha : AuAt w A c B d a) :
    Calls Tryd.prog 184 #[a.val A c B d] w fun e w' => ∃ x : ByteArray, e = .returned (.string x) ∧ Below w.heap.size w w' := by
  obtain ⟨w0, hw0, hz0, hB0, hS⟩ := boxed w #[Value.int IntKind.i64 a.al, Value.slice A a.nx.length c, Value.slice B a.ac.length d] 32
  have ha0 := hid (ha.later hB0)
  have p0 := hS 0 _ rfl _ (Below.refl _ _)
  have p1 := hS 1 _ rfl _ (Below.refl _ _)
  have p2 := hS 2 _ rfl _ (Below.refl _ _)
  replace ha := hid ha
  unfold AG.Au.val
  go_enter Tryd.func184, Tryd.ntmps184
  go_wp2_with fail
  refine (specAutomatonValid_any a A B c d w0 ha0.out).mono ?_
  rintro e w1 ⟨rfl, hb1⟩
  have hB1 := hB0.trans (hb1.mono hB0.size)
  have hC1 := hb1.mono hz0
  clear p0 p1 p2
  cases hok : auOk a
  · replace hok := hid hok
    go_wp2_with fail
    go_ret
    exact ⟨_, rfl, hB1⟩
  obtain ⟨-, hn1, hn12, hn3, hrow⟩ := (auOk_iff a).1 hok
  have hok' := hid hok
  replace hn3 := hid hn3
  have hL6 : Hid (∀ r ∈ a.nx, r.length ≤ 6) := hid fun r hr => by rw [(hrow r hr).1]; exact letters_len6 a.al
  replace hrow := hid hrow
  clear hok
  have p0 := hS 0 _ rfl _ hC1
  have hz1 := hb1.size
  go_wp2_with fail
  refine (formatAlpha_any a.al w1).mono ?_
  rintro e w2 ⟨x, rfl, hx0, hb2⟩
  have hB2 := hB1.trans (hb2.mono hB1.size)
  have hC2 := hC1.trans (hb2.mono (by omega))
  have ha2 := hid (ha0.out.later (hb1.trans (hb2.mono hz1)))
  have hz2 := hb2.size
  clear p0
  have p1 := hS 1 _ rfl _ hC2
  go_wp2_with fail
  clear p1
  go_loopw [3, 4] (fun ov iv wr => ∃ (i : Nat) (x : ByteArray), iv = .int .i64 (i : Nat) ∧ ov = .string x ∧ x.size ≤ 6 + i * 10000 ∧ i ≤ a.nx.length ∧ Below w2.heap.size w2 wr) (fun _ iv _ => a.nx.length - (intOf iv).toNat)
  case atStart => exact ⟨0, _, rfl, rfl, by omega, by omega, Below.refl _ _⟩
  case round =>
    clear hx0
    obtain ⟨i, x, rfl, rfl, hxi, hi, hb⟩ := hrel
    have hCr := hC2.trans (hb.mono (by omega))
    have hBr := hB2.trans (hb.mono hB2.size)
    have p1 := hS 1 _ rfl _ hCr
    have p2 := hS 2 _ rfl _ hCr
    by_cases hlt : i < a.nx.length
    · obtain ⟨bA, oA, hAe, hbA, hEA⟩ := ha2.out.acc (by have := hn3.out; omega)
      have hla := hn3.out
      have hda := ha2.out.dl
      subst hAe
      obtain ⟨t, c0⟩ : ∃ t, wr.cell? ⟨bA, oA + i, none⟩ = some (.bool t) := ⟨_, by rw [hb.cell (by simpa using hbA)]; exact hEA i (by omega)⟩
      obtain ⟨bR, oR, hRe, hbR, hER⟩ := ha2.out.rows (by omega)
      subst hRe
      obtain ⟨Ai, ci, r0, h1, h2, h3⟩ := hER i hlt
      rw [← hb.cell (by simpa using hbR)] at r0
      obtain ⟨r, hr⟩ : ∃ r, Hid (r = a.nx[i]) := ⟨_, hid rfl⟩
      have hrr := hrow.out _ (List.getElem_mem hlt)
      rw [← hr.out] at r0 h1 h3 hrr
      obtain ⟨-, hrin⟩ := hrr
      have k1 : (0 : Int) ≤ (i : Int) ∧ (i : Int) < (a.nx.length : Int) := by omega
      have k2 : (i : Int) < (a.ac.length : Int) := by omega
      clear hla
      replace hEA := hid hEA
      replace hER := hid hER
      replace h3 := hid h3
      replace hrin := hid hrin
      obtain ⟨wo, rfl⟩ : ∃ wo : World, wo = wr := ⟨_, rfl⟩
      cases t
      all_goals
        go_wp2_with fail
        go_loopw [3, 6] (fun ov kv wr => ∃ (k : Nat) (x : ByteArray), kv = .int .i64 (k : Nat) ∧ ov = .string x ∧ x.size ≤ 8 + i * 10000 + k * 1002 ∧ k ≤ r.length ∧ Below w2.heap.size w2 wr) (fun _ kv _ => r.length - (intOf kv).toNat)
        case atStart => exact ⟨0, _, rfl, rfl, by rw [ByteArray.size_append]; show x.size + 2 ≤ _; omega, by omega, hb⟩
        case round =>
          clear c0 r0 p1 p2 hxi
          obtain ⟨k, x, rfl, rfl, hxk, hk, hbk⟩ := hrel
          have hCk := hC2.trans (hbk.mono (by omega))
          have p1 := hS 1 _ rfl _ hCk
          obtain ⟨Ai', ci', r0, -, -, h3'⟩ := hER.out i hlt
          rw [← hbk.cell (by simpa using hbR), ← hr.out] at r0
          rw [← hr.out] at h3'
          have hrl6 := hL6.out r (by rw [hr.out]; exact List.getElem_mem _)
          by_cases hkl : k < r.length
          · obtain ⟨bi, oi, hie, hbi, hEi⟩ := h3' (by omega)
            subst hie
            have i0 := hEi k hkl
            rw [← hbk.cell (by simpa using hbi)] at i0
            obtain ⟨y0, y1⟩ := hrin.out _ (List.getElem_mem hkl)
            obtain ⟨y, hy⟩ : ∃ y, Hid (y = r[k]) := ⟨_, hid rfl⟩
            rw [← hy.out] at i0 y0 y1
            obtain ⟨yn, rfl⟩ := Int.eq_ofNat_of_zero_le y0
            have kx : (0 : Int) ≤ (k : Int) ∧ (k : Int) < (r.length : Int) := by omega
            have hyn : yn ≤ 1000 := by omega
            replace hEi := hid hEi
            by_cases hk0 : 0 < k
            all_goals
              go_wp2_with fail
              refine (l19Dec_any yn hyn wr).mono ?_
              rintro e w5 ⟨z, rfl, hz, hb5⟩
              have hbk5 := hbk.trans (hb5.mono hbk.size)
              have hzs : z.size ≤ 1001 := hz
              clear i0 r0 p1
              go_wp2_with fail
              go_roundw
              case rel => exact ⟨k + 1, _, by go_num, rfl, by simp only [ByteArray.size_append]; first | (show x.size + 1 + z.size ≤ _; omega) | omega, by omega, hbk5⟩
              case measure => simp [intOf]; omega
          · go_wp2_with fail
            go_roundw
            case rel => exact ⟨i + 1, x, by go_num, rfl, by omega, by omega, hbk⟩
            case measure => simp [intOf]; omega
    · go_wp2_with fail
      go_ret
      exact ⟨_, rfl, hBr⟩

end Go.Proofs.YtolnlkccbndkcaaDoor

/- The drawing kit: ParseAutomaton. -/
namespace Go.Proofs.YtolnlkccbndkcaaDoor
open Go.RowKit Go.BigFrame AG

def CutPostN (s : ByteArray) (w : World) (e : Ending) (w' : World) : Prop := ∃ v ws, e = .returned v ∧ 0 < ws.length ∧ CutSt w w' v ws s.size (s.size + 1)
set_option maxRecDepth 100000 in
set_option maxHeartbeats 2000000 in
theorem l19Cut_some (s : ByteArray) (c : Nat) (w : World) (hz : s.size ≤ 1000000) : Calls Tryd.prog 181 #[.string s, .int .u8 c] w (CutPostN s w) := by
  obtain ⟨i0, hi, hz0, hz1, hz2⟩ := info_parts infoStrD
  have h0 : CutSt w (w.alloc (.cells #[] 9)) (.slice (some ⟨w.heap.size, 0, none⟩) 0 0) [] s.size 0 :=
    ⟨⟨rfl, .inr ⟨w.heap.size, 0, #[], rfl, Nat.le_refl _, heap_alloc_self _ _, Nat.le_refl _, Nat.zero_le _, rfl, rfl⟩⟩, Nat.le_refl _, fun x hx => (by cases hx), (Below.refl _ _).alloc (Nat.le_refl _) _⟩
  replace h0 := hid h0
  go_enter Tryd.func181, Tryd.ntmps181
  go_wp2_with fail
  go_loopw [5, 6, 7] (fun v f i wr => ∃ (ws : List ByteArray) (a k : Nat), i = .int .i64 k ∧ f = .int .i64 a ∧ (a ≤ k ∨ k = s.size + 1) ∧ k ≤ s.size + 1 ∧ (k = s.size + 1 → 0 < ws.length) ∧ CutSt w wr v ws s.size k) (fun _ _ i _ => s.size + 1 - (intOf i).toNat)
  case atStart => exact ⟨[], 0, 0, rfl, rfl, by omega, by omega, fun h => (by omega), h0.out⟩
  case round =>
    obtain ⟨ws, a, k, rfl, rfl, ha, hk, hne, hs⟩ := hrel
    replace hne := hid hne
    have hzr := hs.below.size
    have hln := hs.len
    by_cases hlt : k ≤ s.size
    · have hak : a ≤ k := by omega
      have b1 : (0 : Int) ≤ (a : Int) := by omega
      have b2 : (a : Int) ≤ (k : Int) := by omega
      have b3 : (k : Int) ≤ (s.size : Int) := by omega
      have hxs : (s.extract a k).size ≤ s.size := by rw [ByteArray.size_extract]; omega
      have hown := hs.own
      unfold OwnStrs at hown
      replace hown := hid hown
      replace hs := hid hs
      by_cases hend : k = s.size
      · have e1 : ((k : Int) == (s.size : Int)) = true := by simp; omega
        replace hxs := hid hxs
        replace hend := hid hend
        go_wp2_with (at_builtin; refine wpList_append_lies _ (by rfl) _ _ 117 (by rfl) w.heap.size 9 i0 (.string ⟨#[]⟩) 1 16 Tryd.underlying117 hi hz0 hz1 hz2 rfl (by decide) _ ws.length _ (by rfl) (hown.out.alloc _) ⟨wr.heap.size, 0, none⟩ 1 1 [.string (s.extract a k)] (by rfl) (by rfl) (World.news_of_block (heap_alloc_new wr _)) ?c1 (by omega) ?c3 ?c4 ?c5 _ rfl ?_)
        case c1 => simp [Value.oneCell']
        case c3 => unfold maxLen; omega
        case c4 => omega
        case c5 => simp; omega
        intro gg cap w5 hown5 hgrow hat hlt5
        have hfin := hid (hs.out.add hxs.out hown5 hgrow)
        clear hown5 hgrow hat
        go_wp2_with fail
        go_roundw
        case rel => exact ⟨_, k + 1, k + 1, by go_num, by go_num, by omega, by omega, fun _ => (by rw [List.length_append]; simp), hfin.out⟩
        case measure => simp [intOf]; omega
      · have e1 : ((k : Int) == (s.size : Int)) = false := by simp; omega
        obtain ⟨y, hy, hy2⟩ := byte_some s k (by omega)
        have b4 : (0 : Int) ≤ (k : Int) ∧ (k : Int) < (s.size : Int) := by omega
        replace hend := hid hend
        by_cases hyc : y = c
        · have e2 : ((y : Int) == (c : Int)) = true := by simp; omega
          replace hyc := hid hyc
          replace hxs := hid hxs
          go_wp2_with (at_builtin; refine wpList_append_lies _ (by rfl) _ _ 117 (by rfl) w.heap.size 9 i0 (.string ⟨#[]⟩) 1 16 Tryd.underlying117 hi hz0 hz1 hz2 rfl (by decide) _ ws.length _ (by rfl) (hown.out.alloc _) ⟨wr.heap.size, 0, none⟩ 1 1 [.string (s.extract a k)] (by rfl) (by rfl) (World.news_of_block (heap_alloc_new wr _)) ?c1 (by omega) ?c3 ?c4 ?c5 _ rfl ?_)
          case c1 => simp [Value.oneCell']
          case c3 => unfold maxLen; omega
          case c4 => omega
          case c5 => simp; omega
          intro gg cap w5 hown5 hgrow hat hlt5
          have hfin := hid (hs.out.add hxs.out hown5 hgrow)
          clear hown5 hgrow hat
          go_wp2_with fail
          go_roundw
          case rel => exact ⟨_, k + 1, k + 1, by go_num, by go_num, by omega, by omega, fun _ => (by rw [List.length_append]; simp), hfin.out⟩
          case measure => simp [intOf]; omega
        · have e2 : ((y : Int) == (c : Int)) = false := by simp; omega
          replace hyc := hid hyc
          go_wp2_with fail
          go_roundw
          case rel => exact ⟨ws, a, k + 1, by go_num, rfl, by omega, by omega, fun h => absurd (show k = s.size by omega) hend.out, ⟨hs.out.own, by have := hs.out.len; omega, hs.out.small, hs.out.below⟩⟩
          case measure => simp [intOf]; omega
    · go_wp2_with fail
      go_ret
      exact ⟨_, ws, rfl, hne.out (by omega), ⟨hs.own, by have := hs.len; omega, hs.small, hs.below⟩⟩

def PauPost (w : World) (e : Ending) (w' : World) : Prop := ∃ (a : Au) (v1 v2 : Value) (xs : List RowV) (ok : Bool), e = .returned (.tuple #[.agg #[.int .i64 a.al, v1, v2], .bool ok]) ∧ AuSz 2000 a ∧ AuOwn w' w.heap.size v1 v2 a xs ∧ Below w.heap.size w w'
theorem PauPost.ret {w w1 : World} {a : Au} {v1 v2 : Value} {xs : List RowV} (ok : Bool) (hq : AuSz 2000 a) (ho : AuOwn w1 (w.heap.size + 1) v1 v2 a xs) (hb : Below w.heap.size w w1) (u1 u2 u3 : Value) :
    PauPost w (.returned (.tuple #[.agg #[.int .i64 a.al, v1, v2], .bool ok])) (((w1.setCell ⟨w.heap.size, 0, none⟩ u1).setCell ⟨w.heap.size, 1, none⟩ u2).setCell ⟨w.heap.size, 2, none⟩ u3) := by
  have hk2 : KeepB (fun b => b = w.heap.size) w1 (((w1.setCell ⟨w.heap.size, 0, none⟩ u1).setCell ⟨w.heap.size, 1, none⟩ u2).setCell ⟨w.heap.size, 2, none⟩ u3) := (((KeepB.refl _ w1).setCell _ _ (by simp)).setCell _ _ (by simp)).setCell _ _ (by simp)
  refine ⟨a, v1, v2, xs, ok, rfl, hq, (ho.keepNew hk2 (fun b e => by omega)).base (by omega), ?_⟩
  (repeat (first | exact Below.refl _ _ | assumption | refine Below.drew ?_ | refine Below.alloc ?_ (by first | omega | (simp; done) | (simp; omega)) _ | refine Below.setCell ?_ (by first | omega | (simp; done) | (simp; omega)) _))

set_option maxRecDepth 100000 in
set_option maxHeartbeats 8000000 in
theorem parseAutomaton_any (t : ByteArray) (w : World) (hz : t.size ≤ 900) : Calls Tryd.prog 159 #[.string t] w (PauPost w) := by
  obtain ⟨j0, hj, jz0, jz1, jz2⟩ := info_parts infoRows
  obtain ⟨b0, hb, bz0, bz1, bz2⟩ := info_parts infoBools
  obtain ⟨wA, hwA, hzA, hBA, -⟩ := boxed w #[.int .i64 0, .slice none 0 0, .slice none 0 0] 32
  have hzAe : Hid (wA.heap.size = w.heap.size + 1) := hid (by rw [← hwA]; simp)
  have hres : Hid (Blk wA w.heap.size 32 #[.int .i64 0, .slice none 0 0, .slice none 0 0]) := hid (by rw [← hwA]; exact Blk.new _ _ _)
  have hzero : Hid (∀ w1, Below wA.heap.size wA w1 → PauPost w (.returned (.tuple #[.agg #[.int .i64 0, .slice none 0 0, .slice none 0 0], .bool false])) (((w1.setCell ⟨w.heap.size, 0, none⟩ (.int .i64 0)).setCell ⟨w.heap.size, 1, none⟩ (.slice none 0 0)).setCell ⟨w.heap.size, 2, none⟩ (.slice none 0 0))) := hid fun w1 h =>
    PauPost.ret (a := auNil) (xs := []) false ⟨by simp [auNil], by simp [auNil], by simp [auNil]⟩ ⟨⟨World.ownsRow_nil _ _ _ _, fun x hx => (by cases hx), List.Pairwise.nil⟩, rfl, World.ownsRow_nil _ _ _ _⟩ (hBA.trans (h.mono (by omega))) _ _ _
  go_enter Tryd.func159, Tryd.ntmps159
  go_wp2_with fail
  refine (l19Cut_some t 32 wA (by omega)).mono ?_
  rintro e w1 ⟨pv, ps, rfl, hne, hcut⟩
  have hb1 := hcut.below
  have hplen := hcut.len
  obtain ⟨Ap, cp, hpv, hcp, hcp'⟩ := own_slice hcut.own
  subst hpv
  obtain ⟨gp, cap, hve, hg1, hg2, -, -, hP⟩ := own_strs hcut.own hne
  injection hve with hv1 hv2 hv3
  subst hv1
  subst hv3
  have s0 := hP 0 (by omega)
  have hsm : ∀ i (h : i < ps.length), (ps[i]'h).size ≤ 900 := fun i h => by have := hcut.small _ (List.getElem_mem h); omega
  replace hsm := hid hsm
  replace hP := hid hP
  replace hcut := hid hcut
  have i0' : (0 : Int) < (ps.length : Int) := by omega
  go_wp2_with fail
  refine (parseAlpha_any _ w1).mono ?_
  rintro e w2 ⟨al, ok, rfl, hb2⟩
  have hb02 := hb1.trans (hb2.mono hb1.size)
  clear s0 hwA
  cases ok
  · have hfin := hid (hzero.out w2 hb02)
    have hbl := hres.out.below hb02 (by have := hzAe.out; omega)
    have d0 := hbl.cell 0
    have d1 := hbl.cell 1
    have d2 := hbl.cell 2
    have f0 := hbl.frozen 0
    have f1 := hbl.frozen 1
    have f2 := hbl.frozen 2
    simp only [List.getElem?_toArray, List.getElem?_cons_zero, List.getElem?_cons_succ] at d0 d1 d2
    have hltb := hbl.lt
    clear hbl
    go_wp2
    refine bodyPost_ret (v := .tuple #[.agg #[.int .i64 0, .slice none 0 0, .slice none 0 0], .bool false]) (by simp [results, Tryd.results159, go_sem, d0, d1, d2]) rfl ?_
    exact hfin.out
  · obtain ⟨w3, hw3⟩ : ∃ w3, Hid (w2.alloc (.cells #[.int .i64 al, .slice none 0 0, .slice none 0 0] 32) = w3) := ⟨_, hid rfl⟩
    have hst := AuSt.begin (K := fun _ => False) (w0 := w2) (wr := w2) al (KeepB.refl _ _) (Nat.le_refl _)
    rw [hw3.out] at hst
    replace hst := hid hst
    have hz12 := hb2.size
    go_upto_region 6 with fail
    rw [hw3.out]
    clear hw3
    go_wp2_with fail
    go_loopw [8] (fun kv wr => ∃ (k : Nat) (v1 v2 : Value) (a : Au) (xs : List RowV), kv = .int .i64 (k : Nat) ∧ 1 ≤ k ∧ k ≤ ps.length ∧ a.nx.length ≤ k ∧ a.ac.length ≤ k ∧ (∀ r ∈ a.nx, r.length ≤ 2000) ∧ AuSt (fun _ => False) w2 wr w2.heap.size v1 v2 a xs) (fun kv _ => ps.length - (intOf kv).toNat)
    case atStart => exact ⟨1, _, _, _, _, rfl, by omega, by omega, by simp, by simp, fun r h => (by cases h), hst.out⟩
    case round =>
      obtain ⟨k, v1, v2, a, xs, rfl, hk1, hk, hnx, hac, hrw, hs⟩ := hrel
      have hbr : Below w2.heap.size w2 wr := ⟨hs.keep.os, hs.keep.tape, hs.keep.output, hs.keep.size, fun i hi => hs.keep.block i hi (fun h => h)⟩
      have hb0r := hb02.trans (hbr.mono hb02.size)
      have hzr := hbr.size
      obtain ⟨A1, c1, e1, -, -⟩ := own_slice hs.own.rows.own
      obtain ⟨A2, c2, e2, -, -⟩ := own_slice hs.own.acc
      subst e1 e2
      have hxl := hid hs.len
      have hxl2 : xs.length ≤ k := by rw [hxl.out]; exact hnx
      by_cases hkl : k < ps.length
      · have s1 : wr.cell? ⟨gp, k, none⟩ = some (.string ps[k]) := by rw [hbr.cell (by simp; omega), hb2.cell (by simpa using hg2)]; exact hP.out k hkl
        have hx9 := hsm.out k hkl
        obtain ⟨x, hx⟩ : ∃ x, Hid (x = ps[k]) := ⟨_, hid rfl⟩
        rw [← hx.out] at s1 hx9
        have i2 : (0 : Int) ≤ (k : Int) ∧ (k : Int) < (ps.length : Int) := by omega
        by_cases hx0 : x.size = 0
        · have hse : (x.toList == []) = true := by
            have : x = ⟨#[]⟩ := by
              apply ByteArray.ext
              exact Array.eq_empty_of_size_eq_zero hx0
            rw [this, ByteArray.toList_eq]; rfl
          replace hs := hid hs
          replace hx0 := hid hx0
          have hfin := hid (hzero.out wr hb0r)
          have hbl := hres.out.below hb0r (by have := hzAe.out; omega)
          have d0 := hbl.cell 0
          have d1 := hbl.cell 1
          have d2 := hbl.cell 2
          have f0 := hbl.frozen 0
          have f1 := hbl.frozen 1
          have f2 := hbl.frozen 2
          simp only [List.getElem?_toArray, List.getElem?_cons_zero, List.getElem?_cons_succ] at d0 d1 d2
          have hltb := hbl.lt
          clear hbl
          go_wp2
          refine bodyPost_ret (v := .tuple #[.agg #[.int .i64 0, .slice none 0 0, .slice none 0 0], .bool false]) (by simp [results, Tryd.results159, go_sem, d0, d1, d2]) rfl ?_
          exact hfin.out
        · have hse : (x.toList == []) = false := by
            rw [beq_eq_false_iff_ne]
            intro h
            apply hx0
            have := congrArg List.length h
            rw [ByteArray.toList_eq] at this
            simpa using this
          have hxp : 0 < x.size := by omega
          have b1 : (0 : Int) ≤ 1 ∧ (1 : Int) ≤ (x.size : Int) := by omega
          have b2 : (0 : Int) < (x.size : Int) := by omega
          have hxs : (x.extract 1 x.size).size ≤ 1000 := by rw [ByteArray.size_extract]; omega
          obtain ⟨y, hy, hy2⟩ := byte_some x 0 (by omega)
          obtain ⟨tb, htb⟩ : ∃ tb, ((y : Int) == (43 : Int)) = tb := ⟨_, rfl⟩
          replace hxs := hid hxs
          replace hs := hid hs
          replace hx0 := hid hx0
          go_wp2_with fail
          refine (l3Parse_any _ wr hxs.out).mono ?_
          rintro e w4 ⟨rv, ns, good, rfl, hor, hnl, hb4⟩
          have hb04 := hb0r.trans (hb4.mono hb0r.size)
          have hs4 := hid (hs.out.later hb4)
          clear s1
          cases good
          · have hfin := hid (hzero.out w4 hb04)
            have hbl := hres.out.below hb04 (by have := hzAe.out; omega)
            have d0 := hbl.cell 0
            have d1 := hbl.cell 1
            have d2 := hbl.cell 2
            have f0 := hbl.frozen 0
            have f1 := hbl.frozen 1
            have f2 := hbl.frozen 2
            simp only [List.getElem?_toArray, List.getElem?_cons_zero, List.getElem?_cons_succ] at d0 d1 d2
            have hltb := hbl.lt
            clear hbl
            go_wp2
            refine bodyPost_ret (v := .tuple #[.agg #[.int .i64 0, .slice none 0 0, .slice none 0 0], .bool false]) (by simp [results, Tryd.results159, go_sem, d0, d1, d2]) rfl ?_
            exact hfin.out
          · obtain ⟨Ar, cr, rfl, hcr, hcr'⟩ := own_slice hor
            have hlow : Hid (∀ y ∈ xs, ∀ k, y.v.ownBlock = some k → k < wr.heap.size) := hid fun y hy k e => (hs.out.rowLt hy e).2
            have hor' := hid hor
            have hz4 := hb4.size
            have hgsl := hs4.out.blk.lt
            have b1c := hs4.out.blk.cell 1
            simp only [List.getElem?_toArray, List.getElem?_cons_zero, List.getElem?_cons_succ] at b1c
            clear hor
            go_upto_region 15 with (at_builtin; refine wpList_append_own_at _ rfl _ _ 29 rfl w2.heap.size 62 j0 (.slice none 0 0) 1 24 Tryd.underlying29 hj jz0 jz1 jz2 rfl (by decide) _ _ _ rfl (hs4.out.own.rows.own.alloc _) ⟨w4.heap.size, 0, none⟩ 1 1 [.slice Ar ns.length cr] rfl rfl (cell_one_new _ _ _) (by intro u hu; simp at hu; subst hu; rfl) (by unfold maxLen; omega) (by omega) (by simp; omega) ?_; intro v5 w5 hO5 hg5 _ hat5; obtain ⟨A5, c5, ev5, -, -⟩ := own_slice hO5; subst ev5; have hbl5 : Blk w5 w2.heap.size 32 #[.int .i64 a.al, .slice A1 xs.length c1, .slice A2 a.ac.length c2] := ((hs4.out.blk.alloc _).keep ((KeepB.refl _ _).grown hg5 (fun k hk _ => hk)) (fun e => own_ne hs4.out.own.rows.own hs4.out.blk (by decide) _ e rfl)); have x1 := hbl5.cell 1; have y1 := hbl5.frozen 1; simp only [List.getElem?_toArray, List.getElem?_cons_zero, List.getElem?_cons_succ] at x1; replace hO5 := hid hO5; replace hg5 := hid hg5; replace hat5 := hid hat5; replace hbl5 := hid hbl5)
            have hx5 := hid ((hs4.out.later ((Below.refl _ w4).alloc (Nat.le_refl _) (.cells #[.slice Ar ns.length cr] 62))).row (x := ⟨ns, Ar, cr⟩) (own_base (own_later_ (show w4.ownsRow wr.heap.size 3 1 (.slice Ar ns.length cr) ns.length (intVals ns) from hor'.out) ((Below.refl _ w4).alloc (Nat.le_refl _) _)) hzr)
              (fun y hy k e e2 => by have := hlow.out y hy k e; have := (hor'.out.lt k e2).1; omega) hg5.out hO5.out)
            obtain ⟨w6, hw6⟩ : ∃ w6, w5.setCell ⟨w2.heap.size, 1, none⟩ (.slice A5 (xs.length + 1) c5) = w6 := ⟨_, rfl⟩
            rw [hw6] at hx5 ⊢
            clear hw6 x1 y1 b1c
            obtain ⟨a6, ha6⟩ : ∃ a6, Hid (a6 = (⟨a.al, a.nx ++ [ns], a.ac⟩ : Au)) := ⟨_, hid rfl⟩
            rw [← ha6.out] at hx5
            have hac6 : Hid (a6.ac.length = a.ac.length) := hid (by rw [ha6.out])
            have hacl : a6.ac.length ≤ k := by rw [hac6.out]; exact hac
            have hbr6 : Below w2.heap.size w2 w6 := ⟨hx5.out.keep.os, hx5.out.keep.tape, hx5.out.keep.output, hx5.out.keep.size, fun i hi => hx5.out.keep.block i hi (fun h => h)⟩
            have s6 : w6.cell? ⟨gp, k, none⟩ = some (.string x) := by rw [hbr6.cell (by simp; omega), hb2.cell (by simpa using hg2), hx.out]; exact hP.out k hkl
            have k2 := hx5.out.blk.cell 2
            simp only [List.getElem?_toArray, List.getElem?_cons_zero, List.getElem?_cons_succ] at k2
            have e2' : (.slice A2 a.ac.length c2 : Value) = .slice A2 a6.ac.length c2 := by rw [hac6.out]
            rw [e2'] at hx5 k2
            clear e2'
            have hgs6 := hx5.out.blk.lt
            have q1 := GK.BI.cell s6
            have q2 := GK.BI.cell k2
            replace hbr6 := hid hbr6
            clear s6 k2
            refine GK.wp_region 9 [9, 10, 11] 200 (KeepB fun _ => False) (GK.BI w6) (fun _ _ _ => True) (by kernel_rfl) (by kernel_rfl) (GK.BI.way w6) (by decide) (Below.refl _ _).drew ?_
            simp only [List.take_succ_cons, List.take_zero]
            (repeat (refine GK.grow_quiet w6 (by rfl) (by rfl) ?_; intro K hK; go_big_quiet_op; go_big_quiet_on))
            refine GK.grow_new (K := fun _ => False) (by rfl) _ (fun b => .slice (some ⟨b, 0, none⟩) 1 1) 4 #[.bool tb] (fun _ => by go_simp) rfl (fun _ _ o h => GK.BI.alloc o h) (fun _ _ h => GK.BI.size h) (fun _ h => h.elim) (fun bb hbb => ?_)
            simp only [Act.put, List.setIfInBounds_toArray, List.set_cons_zero, List.set_cons_succ]
            refine GK.grow_nil ?_
            intro w8 hw8 hf
            obtain ⟨g', hge, hge2, hblk8⟩ := hf _ List.mem_cons_self
            cases hge
            clear hf q1 q2
            simp only [List.filterMap_cons, List.filterMap_nil, List.getElem?_cons_zero, List.getElem?_cons_succ]
            replace hw8 : Below w6.heap.size w6 w8 := hw8
            have hs8 := hx5.out.later hw8
            have hown8 := hs8.own.acc
            have hbl8 := hs8.blk
            have ag : (Value.slice A2 a6.ac.length c2).ownBlock ≠ some w2.heap.size := fun e => own_ne hown8 hbl8 (by decide) _ e rfl
            have hbl8' := hbl8.lt
            have k2 := hbl8.cell 2
            have f2 := hbl8.frozen 2
            simp only [List.getElem?_toArray, List.getElem?_cons_zero, List.getElem?_cons_succ] at k2
            replace hs8 := hid hs8
            refine wpList_append_own_at _ (by rfl) _ _ 30 (by rfl) w2.heap.size 4 b0 (.bool false) 1 1 Tryd.underlying30 hb bz0 bz1 bz2 rfl (by decide) _ a6.ac.length (boolVals a6.ac) (by rfl) hown8 ⟨bb, 0, none⟩ 1 1 [.bool tb] (by rfl) (by rfl) (World.news_of_block hblk8) ?c1 ?c3 ?c4 ?c5 ?_
            case c1 => simp [Value.oneCell']
            case c3 => unfold maxLen; omega
            case c4 => omega
            case c5 => have := hs8.out.keep.size; omega
            intro v9 w9 hown9 hgrow hnil9 hat9
            obtain ⟨A9, c9, hv9, -, -⟩ := own_slice hown9
            subst hv9
            have c2'' : w9.cell? ⟨w2.heap.size, 2, none⟩ = some (.slice A2 a6.ac.length c2) := by rw [hgrow.cell_far _ (by simpa using hbl8') (Ne.symm ag)]; exact k2
            have f2'' : w9.frozen? ⟨w2.heap.size, 2, none⟩ = false := by rw [hgrow.frozen_far _ (by simpa using hbl8') (Ne.symm ag)]; exact f2
            have hfin := hid (hs8.out.put hgrow hown9)
            clear hown8 hbl8 hown9 hgrow k2 f2
            go_wp2_with fail
            go_roundw
            case rel => exact ⟨k + 1, _, _, _, _, by go_num, by omega, by omega, by show a6.nx.length ≤ k + 1; rw [ha6.out]; simp; exact hnx, by show (a6.ac ++ _).length ≤ k + 1; rw [List.length_append]; simp; exact hacl, by
              show ∀ y ∈ a6.nx, y.length ≤ 2000
              rw [ha6.out]
              intro y hy
              rcases List.mem_append.1 hy with hy | hy
              · exact hrw y hy
              · rw [List.mem_singleton.1 hy]; exact hnl, hfin.out⟩
            case measure => simp [intOf]; omega
      · have hat := hs.own.at_
        obtain ⟨A1', c1', A2', c2', e1, e2, hat⟩ := hat
        cases e2
        have hxl' := hxl.out
        obtain ⟨m, hm⟩ : ∃ m, Hid (m = xs.length) := ⟨_, hid rfl⟩
        rw [← hm.out] at hs e1 hxl2
        have hma : Hid (m = a.nx.length) := hid (by rw [hm.out, hxl'])
        rw [hma.out] at hs e1
        cases e1
        have k0 := hs.blk.cell 0
        have k1 := hs.blk.cell 1
        have k2 := hs.blk.cell 2
        simp only [List.getElem?_toArray, List.getElem?_cons_zero, List.getElem?_cons_succ] at k0 k1 k2
        replace hat := hid hat
        clear hxl'
        go_wp2_with fail
        refine (formatAutomaton_any a A1 A2 c1 c2 wr hat.out).mono ?_
        rintro e w5 ⟨y, rfl, hb5⟩
        have hs5 := hs.later hb5
        have hb05 := hb0r.trans (hb5.mono hb0r.size)
        clear k0 k1 k2
        have k0 := hs5.blk.cell 0
        have k1 := hs5.blk.cell 1
        have k2 := hs5.blk.cell 2
        simp only [List.getElem?_toArray, List.getElem?_cons_zero, List.getElem?_cons_succ] at k0 k1 k2
        have hfin := hid (hzero.out w5 hb05)
        have hfin2 := hid (PauPost.ret (w := w) (a := a) true ⟨by omega, by omega, hrw⟩ (hs5.own.base (show w.heap.size + 1 ≤ w2.heap.size by have := hzAe.out; have := hb02.size; omega)) (hBA.trans (hb05.mono (by have := hzAe.out; omega))) (.int .i64 a.al) (.slice A1 a.nx.length c1) (.slice A2 a.ac.length c2))
        have hbl := hres.out.below hb05 (by have := hzAe.out; omega)
        have d0 := hbl.cell 0
        have d1 := hbl.cell 1
        have d2 := hbl.cell 2
        have f0 := hbl.frozen 0
        have f1 := hbl.frozen 1
        have f2 := hbl.frozen 2
        simp only [List.getElem?_toArray, List.getElem?_cons_zero, List.getElem?_cons_succ] at d0 d1 d2
        have hltb := hbl.lt
        replace hs := hid hs
        replace hs5 := hid hs5
        clear hbl
        go_wp2
        all_goals first
          | (refine bodyPost_ret (v := .tuple #[.agg #[.int .i64 a.al, .slice A1 a.nx.length c1, .slice A2 a.ac.length c2], .bool true]) (by simp [results, Tryd.results159, go_sem, d0, d1, d2]; done) rfl ?_; exact hfin2.out)
          | (refine bodyPost_ret (v := .tuple #[.agg #[.int .i64 0, .slice none 0 0, .slice none 0 0], .bool false]) (by simp [results, Tryd.results159, go_sem, d0, d1, d2]; done) rfl ?_; exact hfin.out)

end Go.Proofs.YtolnlkccbndkcaaDoor

/- The drawing kit: l3Draw. -/
namespace Go.Proofs.YtolnlkccbndkcaaDoor
open Go.RowKit Go.BigFrame AG

theorem OvQ.sz {al : Int} {a : Au} (h : OvQ al a) : AuSz 2000 a := ⟨by have := h.2.2.1; omega, by have := h.2.2.1; have := h.2.2.2.1; omega, fun r hr => by have := h.2.2.2.2 r hr; omega⟩
set_option maxRecDepth 100000 in
set_option maxHeartbeats 4000000 in
theorem l3Draw_up (R P : Nat) (w : World) (hP : P + 400000000 ≤ 1125899906842624) (hr : RdUp w R P) :
    Calls Tryd.prog 103 #[.pointer (some ⟨R, 0, none⟩)] w (AuUp (AuSz 2000) R (P + 40000000) w) := by
  have hR := hr.lt
  obtain ⟨wA, hwA, hzA, hBA, -⟩ := boxed w #[.int .i64 0, .slice none 0 0, .slice none 0 0] 32
  have hzAe : Hid (wA.heap.size = w.heap.size + 1) := hid (by rw [← hwA]; simp)
  have hres : Hid (Blk wA w.heap.size 32 #[.int .i64 0, .slice none 0 0, .slice none 0 0]) := hid (by rw [← hwA]; exact Blk.new _ _ _)
  have hrA := hid (hr.later hBA)
  replace hr := hid hr
  go_enter Tryd.func103, Tryd.ntmps103
  go_wp2_with fail
  refine (pick_up R P 3 wA (by omega) (by omega) hrA.out).mono ?_
  rintro e wp ⟨j, rfl, hj0, hj1, hrp, hkp⟩
  clear hwA hj1
  replace hrp := hid hrp
  replace hkp := hid hkp
  by_cases hj : j = 0
  · subst hj
    go_wp2_with fail
    refine (l3Texts_any wp).mono ?_
    rintro e wt ⟨xs, hxl, hxs, rfl, hcell, hlt, hbt⟩
    have hrt := hid (hrp.out.later hbt)
    have hRt := hrp.out.lt
    replace hcell := hid hcell
    replace hxs := hid hxs
    replace hxl := hid hxl
    go_wp2_with fail
    refine (of_up R (P + 1) wp.heap.size 0 12 12 xs wt hxl.out (by omega) (by omega) (by omega) (by omega) hlt (fun i h => hcell.out i h) hrt.out).mono ?_
    rintro e wo ⟨x, hx, rfl, hro, hko⟩
    have hx60 : x.size ≤ 900 := by have := hxs.out x hx; omega
    replace hro := hid hro
    replace hko := hid hko
    clear hx
    go_wp2_with fail
    refine (parseAutomaton_any x wo hx60).mono ?_
    rintro e wq ⟨a, v1, v2, ys, ok, rfl, hq, ho, hbq⟩
    obtain ⟨A1, c1, e1, -, -⟩ := own_slice ho.rows.own
    obtain ⟨A2, c2, e2, -, -⟩ := own_slice ho.acc
    subst e1 e2
    have kq0 : KeepB (fun b => b = R) wA wq := ((hkp.out.trans (KeepB.of_below hbt)).trans hko.out).trans (KeepB.of_below hbq)
    have hba : Below wq.heap.size wq (wq.alloc (.cells #[.int .i64 a.al, .slice A1 ys.length c1, .slice A2 a.ac.length c2] 32)) := (Below.refl _ _).alloc (Nat.le_refl _) _
    have hnb := Blk.new wq 32 #[.int .i64 a.al, .slice A1 ys.length c1, .slice A2 a.ac.length c2]
    have hrq := hid ((hro.out.later hbq).later hba)
    have hkq := hid (kq0.trans (KeepB.of_below hba))
    have hoq := hid (ho.later hba)
    have hzo : wA.heap.size ≤ wo.heap.size := ((hkp.out.trans (KeepB.of_below hbt)).trans hko.out).size
    have hsq : wq.heap.size < (wq.alloc (.cells #[.int .i64 a.al, .slice A1 ys.length c1, .slice A2 a.ac.length c2] 32)).heap.size := by simp
    replace hq := hid hq
    replace hnb := hid hnb
    clear ho
    go_upto_region 3 with fail
    generalize hwa : wq.alloc (.cells #[.int .i64 a.al, .slice A1 ys.length c1, .slice A2 a.ac.length c2] 32) = wa at *
    clear hwa
    cases ok
    · go_wp2_with fail
      refine (num_lit R (P + 1 + 1) [3, 6, 7, 5, 1, 0, 2] wa _ (by decide) (by decide) (by omega) (hrq.out)).mono ?_
      rintro e w3 ⟨al, hal, rfl, hr3, hk3⟩
      replace hr3 := hid hr3
      replace hk3 := hid hk3
      clear hal
      go_wp2_with fail
      refine (l3Over_up R (P + 1 + 1 + 1) al w3 (by omega) hr3.out).mono ?_
      rintro e w4 ⟨b, u1, u2, zs, rfl, hqb, hob, hr4, hk4⟩
      obtain ⟨B1, e1, g1, -, -⟩ := own_slice hob.rows.own
      obtain ⟨B2, e2, g2, -, -⟩ := own_slice hob.acc
      subst g1 g2
      have hkk := ((hkq.out).trans hk3.out).trans hk4
      have hz3 : wA.heap.size ≤ w3.heap.size := ((hkq.out).trans hk3.out).size
      have hbl := hres.out.keep (hkk) (by omega)
      have d0 := hbl.cell 0
      have d1 := hbl.cell 1
      have d2 := hbl.cell 2
      have f0 := hbl.frozen 0
      have f1 := hbl.frozen 1
      have f2 := hbl.frozen 2
      simp only [List.getElem?_toArray, List.getElem?_cons_zero, List.getElem?_cons_succ] at d0 d1 d2
      have hltb := hbl.lt
      have hfin := hid (AuUp.ret (w := w) (Q := AuSz 2000) (P' := P + 40000000) (a := b) hqb.sz (hob.base (show w.heap.size + 1 ≤ w3.heap.size by have := hzAe.out; omega)) (hr4) (by omega) ((KeepB.of_below hBA).trans (hkk)) hR (.int .i64 b.al) (.slice B1 zs.length e1) (.slice B2 b.ac.length e2))
      clear hbl hob hr4 hk4 hkk hqb
      go_wp2
      refine bodyPost_ret (v := .agg #[.int .i64 b.al, .slice B1 zs.length e1, .slice B2 b.ac.length e2]) (by simp [results, Tryd.results103, go_sem, d0, d1, d2]) rfl ?_
      exact hfin.out
    · have c0 := hnb.out.cell 0
      have c1' := hnb.out.cell 1
      have c2' := hnb.out.cell 2
      simp only [List.getElem?_toArray, List.getElem?_cons_zero, List.getElem?_cons_succ] at c0 c1' c2'
      have hbl := hres.out.keep (hkq.out) (by omega)
      have d0 := hbl.cell 0
      have d1 := hbl.cell 1
      have d2 := hbl.cell 2
      have f0 := hbl.frozen 0
      have f1 := hbl.frozen 1
      have f2 := hbl.frozen 2
      simp only [List.getElem?_toArray, List.getElem?_cons_zero, List.getElem?_cons_succ] at d0 d1 d2
      have hltb := hbl.lt
      have hfin := hid (AuUp.ret (w := w) (Q := AuSz 2000) (P' := P + 40000000) (a := a) hq.out (hoq.out.base (show w.heap.size + 1 ≤ wo.heap.size by have := hzAe.out; omega)) (hrq.out) (by omega) ((KeepB.of_below hBA).trans (hkq.out)) hR (.int .i64 a.al) (.slice A1 ys.length c1) (.slice A2 a.ac.length c2))
      clear hbl
      go_wp2
      refine bodyPost_ret (v := .agg #[.int .i64 a.al, .slice A1 ys.length c1, .slice A2 a.ac.length c2]) (by simp [results, Tryd.results103, go_sem, d0, d1, d2]) rfl ?_
      exact hfin.out
  · have hjb : ((j : Int) == 0) = false := by simp; omega
    replace hj := hid hj
    go_wp2_with fail
    refine (num_lit R (P + 1) [3, 6, 7, 5, 1, 0, 2] wp _ (by decide) (by decide) (by omega) (hrp.out)).mono ?_
    rintro e w3 ⟨al, hal, rfl, hr3, hk3⟩
    replace hr3 := hid hr3
    replace hk3 := hid hk3
    clear hal
    go_wp2_with fail
    refine (l3Over_up R (P + 1 + 1) al w3 (by omega) hr3.out).mono ?_
    rintro e w4 ⟨b, u1, u2, zs, rfl, hqb, hob, hr4, hk4⟩
    obtain ⟨B1, e1, g1, -, -⟩ := own_slice hob.rows.own
    obtain ⟨B2, e2, g2, -, -⟩ := own_slice hob.acc
    subst g1 g2
    have hkk := ((hkp.out).trans hk3.out).trans hk4
    have hz3 : wA.heap.size ≤ w3.heap.size := ((hkp.out).trans hk3.out).size
    have hbl := hres.out.keep (hkk) (by omega)
    have d0 := hbl.cell 0
    have d1 := hbl.cell 1
    have d2 := hbl.cell 2
    have f0 := hbl.frozen 0
    have f1 := hbl.frozen 1
    have f2 := hbl.frozen 2
    simp only [List.getElem?_toArray, List.getElem?_cons_zero, List.getElem?_cons_succ] at d0 d1 d2
    have hltb := hbl.lt
    have hfin := hid (AuUp.ret (w := w) (Q := AuSz 2000) (P' := P + 40000000) (a := b) hqb.sz (hob.base (show w.heap.size + 1 ≤ w3.heap.size by have := hzAe.out; omega)) (hr4) (by omega) ((KeepB.of_below hBA).trans (hkk)) hR (.int .i64 b.al) (.slice B1 zs.length e1) (.slice B2 b.ac.length e2))
    clear hbl hob hr4 hk4 hkk hqb
    go_wp2
    refine bodyPost_ret (v := .agg #[.int .i64 b.al, .slice B1 zs.length e1, .slice B2 b.ac.length e2]) (by simp [results, Tryd.results103, go_sem, d0, d1, d2]) rfl ?_
    exact hfin.out

end Go.Proofs.YtolnlkccbndkcaaDoor

/- The drawing kit: DrawIsDeterministic. -/
namespace Go.Proofs.YtolnlkccbndkcaaDoor
open Go.RowKit Go.BigFrame AG

theorem soS_len (a : Au) : (soS a).es.length ≤ 1000 := by
  cases h : soOk a
  · rw [soS_zero h]; simp
  · rw [soS_eq h]
    show (trimEs (accS a) (fullTo a a.nx.length)).length ≤ 1000
    have h1 := trimEs_len (accS a) (fullTo a a.nx.length)
    have h2 := fullTo_len a a.nx.length
    have h3 := ((auOk_iff a).1 (soOk_iff.1 h).1).2.2.1
    omega
set_option maxRecDepth 100000 in
set_option maxHeartbeats 4000000 in
theorem drawIsDeterministic_any (A : Option Addr) (n c : Nat) (w : World) (hn : n ≤ c) (hc : c ≤ 9223372036854775807) (hx : CodeAt w A n) :
    Calls Tryd.prog 40 #[.slice A n c] w (DrawSy w) := by
  have hres := Blk.new w 25 #[.int .i64 0, .int .i64 0, .slice none 0 0]
  have hb0 : Below w.heap.size w (w.alloc (.cells #[.int .i64 0, .int .i64 0, .slice none 0 0] 25)) := (Below.refl _ _).alloc (Nat.le_refl _) _
  generalize hw0 : w.alloc (.cells #[.int .i64 0, .int .i64 0, .slice none 0 0] 25) = w0 at hres hb0
  have hz0 : w0.heap.size = w.heap.size + 1 := by rw [← hw0]; simp
  have hx0 : CodeAt w0 A n := fun h => by
    obtain ⟨b, o, h1, h2, h3⟩ := hx h
    refine ⟨b, o, h1, by omega, fun i hi => ?_⟩
    obtain ⟨y, h4, h5⟩ := h3 i hi
    exact ⟨y, h4, by rw [hb0.cell (by simpa using h2)]; exact h5⟩
  replace hres := hid hres
  replace hz0 := hid hz0
  replace hx := hid hx
  replace hx0 := hid hx0
  go_enter Tryd.func40, Tryd.ntmps40
  go_wp2_with fail
  refine (l19Open_any A n c w0 hn hc hx0.out).mono ?_
  rintro e w1 ⟨R, rfl, hR, hr1, hb1⟩
  replace hr1 := hid hr1
  have hz1 := hb1.size
  clear hw0
  go_wp2_with fail
  refine (pick_up R 0 2 w1 (by omega) (by omega) hr1.out).mono ?_
  rintro e w2 ⟨j, rfl, hj0, hj1, hr2, hk2⟩
  have hB2 : Below w0.heap.size w0 w2 := KeepB.below hb1 hk2 hb1.size (fun k hk => by omega)
  replace hr2 := hid hr2
  clear hj1 hk2
  by_cases hj : j = 0
  · subst hj
    go_wp2_with fail
    refine (l3Draw_up R (0 + 1) w2 (by omega) hr2.out).mono ?_
    rintro e wd ⟨a, v1, v2, ys, rfl, -, ho, hrd, hkd⟩
    have hR2 : w0.heap.size ≤ R := by omega
    have hBd : Below w0.heap.size w0 wd := KeepB.below hB2 hkd hB2.size (fun k hk => by omega)
    obtain ⟨A1, c1, A2, c2, e1, e2, hat⟩ := ho.at_
    subst e1 e2
    have hsl : (soS a).es.length ≤ 1000 := soS_len a
    have hatd := hid hat
    have hzd := hkd.size
    replace hrd := hid hrd
    clear ho hat hkd
    go_wp2_with fail
    refine (specSystemOf_any a A1 A2 c1 c2 wd hatd.out).mono ?_
    rintro e w3 ⟨A', c', rfl, a1, a2, a4, a5, a6⟩
    obtain ⟨s, hs⟩ : ∃ s, s = soS a := ⟨_, rfl⟩
    obtain ⟨ok, hok⟩ : ∃ ok, ok = soOk a := ⟨_, rfl⟩
    rw [← hs] at a1 a4 hsl ⊢
    rw [← hok]
    have a3 := hsl
    replace hs := hid hs
    replace hok := hid hok
    unfold Sy.val
    have hB3 := hBd.trans (a6.mono hBd.size)
    have hr3 := hid (hrd.out.later a6)
    have hnb := Blk.new w3 25 #[.int .i64 s.al, .int .i64 s.st, .slice A' s.es.length c']
    have hba : Below w3.heap.size w3 (w3.alloc (.cells #[.int .i64 s.al, .int .i64 s.st, .slice A' s.es.length c'] 25)) := (Below.refl _ _).alloc (Nat.le_refl _) _
    generalize hwa : w3.alloc (.cells #[.int .i64 s.al, .int .i64 s.st, .slice A' s.es.length c'] 25) = w4 at hnb hba
    have hB4 := hB3.trans (hba.mono hB3.size)
    have hr4 := hid (hr3.out.later hba)
    have a4' := hid (a4.later hba)
    have a5' : Hid (FreshA (w.heap.size + 1) A') := hid fun b o hA => by have := a5 b o hA; have := hz0.out; have := hB2.size; omega
    have c0 := hnb.cell 0
    have c1 := hnb.cell 1
    have c2 := hnb.cell 2
    simp only [List.getElem?_toArray, List.getElem?_cons_zero, List.getElem?_cons_succ] at c0 c1 c2
    replace hnb := hid hnb
    clear a4 a5 a6
    cases ok
    · clear c0 c1 c2
      go_wp2_with fail
      clear hwa
      refine (l2Any_up R (0 + 1 + 40000000) w4 (by omega) hr4.out).mono ?_
      rintro e w9 ⟨s, A', c', rfl, a1, a2, a3, a4, a5, a6, a7⟩
      unfold Sy.val
      have hB9 : Below w0.heap.size w0 w9 := KeepB.below hB4 a7 hB4.size (fun k hk => by omega)
      replace a4 := hid a4
      replace a6 := hid a6
      have a5' : Hid (FreshA (w.heap.size + 1) A') := hid fun b o hA => by have := a5 b o hA; have := hz0.out; have := hB4.size; omega
      clear a5 a7
      have hfin := hid (DrawSy.ret (w := w) a1 a2 (by omega) a4.out a5'.out (hb0.trans (hB9.mono (by have := hz0.out; omega))) (.int .i64 s.al) (.int .i64 s.st) (.slice A' s.es.length c'))
      have hbl := hres.out.below hB9 hres.out.lt
      have d0 := hbl.cell 0
      have d1 := hbl.cell 1
      have d2 := hbl.cell 2
      have f0 := hbl.frozen 0
      have f1 := hbl.frozen 1
      have f2 := hbl.frozen 2
      simp only [List.getElem?_toArray, List.getElem?_cons_zero, List.getElem?_cons_succ] at d0 d1 d2
      have hlt := hbl.lt
      clear hbl
      go_wp2
      refine bodyPost_ret (v := .agg #[.int .i64 s.al, .int .i64 s.st, .slice A' s.es.length c']) (by simp [results, Tryd.results40, go_sem, d0, d1, d2]) rfl ?_
      exact hfin.out
    · have hfin := hid (DrawSy.ret (w := w) a1 a2 (by omega) a4'.out a5'.out (hb0.trans (hB4.mono (by have := hz0.out; omega))) (.int .i64 s.al) (.int .i64 s.st) (.slice A' s.es.length c'))
      have hbl := hres.out.below hB4 hres.out.lt
      have d0 := hbl.cell 0
      have d1 := hbl.cell 1
      have d2 := hbl.cell 2
      have f0 := hbl.frozen 0
      have f1 := hbl.frozen 1
      have f2 := hbl.frozen 2
      simp only [List.getElem?_toArray, List.getElem?_cons_zero, List.getElem?_cons_succ] at d0 d1 d2
      have hlt := hbl.lt
      clear hbl
      go_wp2
      refine bodyPost_ret (v := .agg #[.int .i64 s.al, .int .i64 s.st, .slice A' s.es.length c']) (by simp [results, Tryd.results40, go_sem, d0, d1, d2]) rfl ?_
      exact hfin.out
  · have hjb : ((j : Int) == 0) = false := by simpa using hj
    replace hj := hid hj
    go_wp2_with fail
    refine (l2Any_up R (0 + 1) w2 (by omega) hr2.out).mono ?_
    rintro e w9 ⟨s, A', c', rfl, a1, a2, a3, a4, a5, a6, a7⟩
    unfold Sy.val
    have hB9 : Below w0.heap.size w0 w9 := KeepB.below hB2 a7 hB2.size (fun k hk => by omega)
    replace a4 := hid a4
    replace a6 := hid a6
    have a5' : Hid (FreshA (w.heap.size + 1) A') := hid fun b o hA => by have := a5 b o hA; have := hz0.out; have := hB2.size; omega
    clear a5 a7
    have hfin := hid (DrawSy.ret (w := w) a1 a2 (by omega) a4.out a5'.out (hb0.trans (hB9.mono (by have := hz0.out; omega))) (.int .i64 s.al) (.int .i64 s.st) (.slice A' s.es.length c'))
    have hbl := hres.out.below hB9 hres.out.lt
    have d0 := hbl.cell 0
    have d1 := hbl.cell 1
    have d2 := hbl.cell 2
    have f0 := hbl.frozen 0
    have f1 := hbl.frozen 1
    have f2 := hbl.frozen 2
    simp only [List.getElem?_toArray, List.getElem?_cons_zero, List.getElem?_cons_succ] at d0 d1 d2
    have hlt := hbl.lt
    clear hbl
    go_wp2
    refine bodyPost_ret (v := .agg #[.int .i64 s.al, .int .i64 s.st, .slice A' s.es.length c']) (by simp [results, Tryd.results40, go_sem, d0, d1, d2]) rfl ?_
    exact hfin.out

end Go.Proofs.YtolnlkccbndkcaaDoor

/- Both IsDeterministic return detB. -/
namespace Go.Proofs.YtolnlkccbndkcaaDoor
open Go.RowKit Go.BigFrame AG

theorem detB_false {s : Sy} {k : Nat} (h : ¬ detAt s (reachAll s) (k + 1)) : detB s = false := by
  unfold detB
  have : ¬ detAt s (reachAll s) s.es.length := fun h' => h fun i hi _ => h' i hi (by omega)
  simp [this]

theorem detAt.next {s : Sy} {S k : Nat} (h : detAt s S k) (hlt : k + 1 < s.es.length) (hn : ¬ (Has (S : Int) s.es[k].f.toNat = true ∧ s.es[k].f = s.es[k + 1].f ∧ s.es[k].l = s.es[k + 1].l)) : detAt s S (k + 1) := fun i hi hik => by
  by_cases e : i = k
  · subst e
    exact hn
  · exact h i hi (by omega)

set_option maxHeartbeats 1000000 in
theorem implIsDeterministic_any (s : Sy) (A : Option Addr) (c : Nat) (w : World) (hl : s.es.length ≤ c) (hc : c ≤ 9223372036854775807) (hT : Tab w) (hr : EdsAt w w.heap.size A s.es) :
    Calls Tryd.prog 38 #[s.val A c] w fun e w' => e = .returned (.bool (detB s)) ∧ Below w.heap.size w w' := by
  unfold Sy.val
  replace hr := hid hr
  replace hT := hid hT
  cases hok : sysOk s
  all_goals
    replace hok := hid hok
    go_enter Tryd.func38, Tryd.ntmps38
    go_wp2_with fail
    obtain ⟨w0, hw0, hz0, hB0, hS0, hS1, hS2⟩ := boxed3 w (Value.int IntKind.i64 s.al) (Value.int IntKind.i64 s.st) (Value.slice A s.es.length c) 25
    rw [hw0]
    clear hw0
    have hr0 := hid (hr.out.later hB0)
    refine (implSystemValid_any s A c w0 hl hc hr0.out).mono ?_
    rintro e w1 ⟨rfl, hb1⟩
    rw [hok.out]
    have hB1 : Below w.heap.size w w1 := hB0.trans (hb1.mono (by omega))
    have hb1' := hb1.mono hz0
  · go_wp2
    go_ret
    exact ⟨ret_bool (by unfold detB; rw [hok.out]; rfl), hB1⟩
  · have hr1 := hid (hr0.out.later hb1)
    have hT1 := hid (hT.out.later hB1)
    go_wp2_with fail
    refine (implReachableStates_any s A c w1 hl hc hT1.out hr1.out).mono ?_
    rintro e w2 ⟨rfl, hb2⟩
    rw [hok.out, if_pos rfl]
    have hb2' : Below (w.heap.size + 1) w0 w2 := hb1'.trans (hb2.mono (Nat.le_trans hz0 hb1.size))
    have hin := hid (sysOk_in hok.out)
    go_wp2_with fail
    go_loopw [4] (fun i wr => ∃ k : Nat, i = .int .i64 (k + 1 : Nat) ∧ (k = 0 ∨ k + 1 ≤ s.es.length) ∧ detAt s (reachAll s) k ∧ Below (w.heap.size + 1) w0 wr) (fun i _ => s.es.length + 1 - (intOf i).toNat)
    case atStart => exact ⟨0, rfl, .inl rfl, fun i _ h => by omega, hb2'⟩
    case round =>
      obtain ⟨k, rfl, hk, hdet, hb⟩ := hrel
      replace hdet := hid hdet
      by_cases hlt : k + 1 < s.es.length
      · obtain ⟨b, o, rfl, hB, hE⟩ := hr.out.get hB0 (Nat.le_succ w.heap.size) hlt
        obtain ⟨e0, e1, e2⟩ := hE k (by omega)
        obtain ⟨f0, f1, f2⟩ := hE (k + 1) hlt
        replace hE := hid hE
        replace e0 := e0 _ hb
        replace e1 := e1 _ hb
        replace e2 := e2 _ hb
        replace f0 := f0 _ hb
        replace f1 := f1 _ hb
        replace f2 := f2 _ hb
        have q0 := hS0 _ hb
        have q1 := hS1 _ hb
        have q2 := hS2 _ hb
        have hzr := hb.size
        have up : ∀ (B' O' : Nat) (v : Value), B' < wr.heap.size → wr.cell? ⟨B', O', none⟩ = some v → ∀ X Y : Array Value, ((wr.alloc (Obj.cells X 81)).alloc (Obj.cells Y 81)).cell? ⟨B', O', none⟩ = some v := fun B' O' v hB' h X Y => by
          rw [World.cell?_alloc_lt (h := by simp; omega), World.cell?_alloc_lt (h := by simpa using hB')]
          exact h
        have u2 := up _ _ _ (by omega) q2
        have v0 := up _ _ _ (by omega) e0
        have v1 := up _ _ _ (by omega) e1
        have v2 := up _ _ _ (by omega) e2
        have w0' := up _ _ _ (by omega) f0
        have w1' := up _ _ _ (by omega) f1
        have w2' := up _ _ _ (by omega) f2
        have up1 : ∀ (B' O' : Nat) (v : Value), B' < wr.heap.size → wr.cell? ⟨B', O', none⟩ = some v → ∀ X : Array Value, (wr.alloc (Obj.cells X 81)).cell? ⟨B', O', none⟩ = some v := fun B' O' v hB' h X => by
          rw [World.cell?_alloc_lt (h := by simpa using hB')]
          exact h
        have x2 := up1 _ _ _ (by omega) q2
        have y0 := up1 _ _ _ (by omega) e0
        have y1 := up1 _ _ _ (by omega) e1
        have y2 := up1 _ _ _ (by omega) e2
        have z0 := up1 _ _ _ (by omega) f0
        have z1 := up1 _ _ _ (by omega) f1
        have z2 := up1 _ _ _ (by omega) f2
        replace up := hid up
        replace up1 := hid up1
        obtain ⟨fa, fb, _⟩ := hin.out s.es[k] (List.getElem_mem _)
        have hasZ : Hid (HasZ (reachAll s : Nat) s.es[k].f = Has (reachAll s : Nat) s.es[k].f.toNat) := hid (by unfold HasZ; rw [decide_eq_true fa]; rfl)
        have hbx := hb.mono (Nat.le_succ w.heap.size)
        go_wp2_with fail
        go_region
        all_goals
          go_wp2_with (go_at_call 98; refine (has_any _ _ _ (by omega)).mono ?_; rintro e w' ⟨rfl, rfl⟩)
        all_goals
          first
          | (refine ⟨⟨k + 1, by go_num, .inr (by omega), detAt.next hdet.out hlt ?_, ?_⟩, by simp [intOf]; omega⟩
             · rintro ⟨h1, h2, h3⟩
               rw [← hasZ.out] at h1
               first
               | contradiction
               | exact absurd (beq_iff_eq.mpr h3) (ne_true_of_eq_false ‹_›)
             · (repeat (first | exact Below.refl _ _ | assumption | refine Below.drew ?_ | refine Below.alloc ?_ (by first | omega | (simp; done) | (simp; omega)) _ | refine Below.setCell ?_ (by first | omega | (simp; done) | (simp; omega)) _)))
          | (go_ret
             refine ⟨ret_bool (detB_false (k := k) fun h => h k hlt (by omega) ⟨?_, ?_, ?_⟩).symm, hB0.trans (by (repeat (first | exact Below.refl _ _ | assumption | refine Below.drew ?_ | refine Below.alloc ?_ (by first | omega | (simp; done) | (simp; omega)) _ | refine Below.setCell ?_ (by first | omega | (simp; done) | (simp; omega)) _)))⟩
             · rw [← hasZ.out]; assumption
             · assumption
             · exact beq_iff_eq.mp (by assumption))
      · have hall : Hid (detB s = true) := hid (by
          unfold detB
          rw [hok.out]
          simp only [Bool.true_and, decide_eq_true_eq]
          exact fun i hi _ => hdet.out i hi (by omega))
        go_wp2
        go_ret
        exact ⟨ret_bool hall.out.symm, hB0.trans (hb.mono (by omega))⟩

end Go.Proofs.YtolnlkccbndkcaaDoor
