/- Lemmas, part 9: several texts in one. -/
import Derived.Test.YtjhlbeamfngebaaDoorX8
import Derived.Test.YtjhlbeamfngebaaDoorX4
import Derived.Test.YtjhlbeamfngebaaDoorCards
import Derived.Test.YtjhlbeamfngebaaDoorTie
import Derived.Test.YtjhlbeamfngebaaDoorX3
import Derived.WalkKit
import Derived.ProofKit
import Derived.OpenShut
import Derived.Deep.DeepHandedRow
import Derived.Lib.LaidTab
import Derived.Stop.LaidErr
import Derived.Test.YtjhlbeamfngebaaDoorX5
import Derived.Test.YtjhlbeamfngebaaDoorX1
import Derived.Lib.ItoaNum
import Derived.Lib.ItoaWalk
import Derived.Lib.Strings
import Derived.BigCall
import Derived.Maps.OwnSet
set_option linter.unusedSimpArgs false
set_option linter.unusedVariables false

/- The drawing kit: l3Draw. -/
namespace Go.Proofs.YtjhlbeamfngebaaDoor
open Go.RowKit Go.BigFrame AG

theorem OvQ.sz {al : Int} {a : Au} (h : OvQ al a) : AuSz 2000 a := ⟨by have := h.2.2.1; omega, by have := h.2.2.1; have := h.2.2.2.1; omega, fun r hr => by have := h.2.2.2.2 r hr; omega⟩
set_option maxRecDepth 100000 in
set_option maxHeartbeats 4000000 in
theorem l3Draw_up (R P : Nat) (w : World) (hP : P + 400000000 ≤ 1125899906842624) (hr : RdUp w R P) :
    Calls Tryd.prog 106 #[.pointer (some ⟨R, 0, none⟩)] w (AuUp (AuSz 2000) R (P + 40000000) w) := by
  have hR := hr.lt
  obtain ⟨wA, hwA, hzA, hBA, -⟩ := boxed w #[.int .i64 0, .slice none 0 0, .slice none 0 0] 26
  have hzAe : Hid (wA.heap.size = w.heap.size + 1) := hid (by rw [← hwA]; simp)
  have hres : Hid (Blk wA w.heap.size 26 #[.int .i64 0, .slice none 0 0, .slice none 0 0]) := hid (by rw [← hwA]; exact Blk.new _ _ _)
  have hrA := hid (hr.later hBA)
  replace hr := hid hr
  go_enter Tryd.func106, Tryd.ntmps106
  go_wp2_with fail
  refine (pick_up R P 3 wA (by omega) (by omega) hrA.out).mono ?_
  rintro e wp ⟨j, rfl, hj0, hj1, hrp, hkp⟩
  clear hwA hj1
  replace hrp := hid hrp
  replace hkp := hid hkp
  by_cases hj : j = 0
  · subst hj
    go_wp2_with fail
    refine (l3Texts_any wp).mono ?_
    rintro e wt ⟨xs, hxl, hxs, rfl, hcell, hlt, hbt⟩
    have hrt := hid (hrp.out.later hbt)
    have hRt := hrp.out.lt
    replace hcell := hid hcell
    replace hxs := hid hxs
    replace hxl := hid hxl
    go_wp2_with fail
    refine (of_up R (P + 1) wp.heap.size 0 12 12 xs wt hxl.out (by omega) (by omega) (by omega) (by omega) hlt (fun i h => hcell.out i h) hrt.out).mono ?_
    rintro e wo ⟨x, hx, rfl, hro, hko⟩
    have hx60 : x.size ≤ 900 := by have := hxs.out x hx; omega
    replace hro := hid hro
    replace hko := hid hko
    clear hx
    go_wp2_with fail
    refine (parseAutomaton_any x wo hx60).mono ?_
    rintro e wq ⟨a, v1, v2, ys, ok, rfl, hq, ho, hbq⟩
    obtain ⟨A1, c1, e1, -, -⟩ := own_slice ho.rows.own
    obtain ⟨A2, c2, e2, -, -⟩ := own_slice ho.acc
    subst e1 e2
    have kq0 : KeepB (fun b => b = R) wA wq := ((hkp.out.trans (KeepB.of_below hbt)).trans hko.out).trans (KeepB.of_below hbq)
    have hba : Below wq.heap.size wq (wq.alloc (.cells #[.int .i64 a.al, .slice A1 ys.length c1, .slice A2 a.ac.length c2] 26)) := (Below.refl _ _).alloc (Nat.le_refl _) _
    have hnb := Blk.new wq 26 #[.int .i64 a.al, .slice A1 ys.length c1, .slice A2 a.ac.length c2]
    have hrq := hid ((hro.out.later hbq).later hba)
    have hkq := hid (kq0.trans (KeepB.of_below hba))
    have hoq := hid (ho.later hba)
    have hzo : wA.heap.size ≤ wo.heap.size := ((hkp.out.trans (KeepB.of_below hbt)).trans hko.out).size
    have hsq : wq.heap.size < (wq.alloc (.cells #[.int .i64 a.al, .slice A1 ys.length c1, .slice A2 a.ac.length c2] 26)).heap.size := by simp
    replace hq := hid hq
    replace hnb := hid hnb
    clear ho
    go_upto_region 3 with fail
    generalize hwa : wq.alloc (.cells #[.int .i64 a.al, .slice A1 ys.length c1, .slice A2 a.ac.length c2] 26) = wa at *
    clear hwa
    cases ok
    · go_wp2_with fail
      refine (num_lit R (P + 1 + 1) [3, 6, 7, 5, 1, 0, 2] wa _ (by decide) (by decide) (by omega) (hrq.out)).mono ?_
      rintro e w3 ⟨al, hal, rfl, hr3, hk3⟩
      replace hr3 := hid hr3
      replace hk3 := hid hk3
      clear hal
      go_wp2_with fail
      refine (l3Over_up R (P + 1 + 1 + 1) al w3 (by omega) hr3.out).mono ?_
      rintro e w4 ⟨b, u1, u2, zs, rfl, hqb, hob, hr4, hk4⟩
      obtain ⟨B1, e1, g1, -, -⟩ := own_slice hob.rows.own
      obtain ⟨B2, e2, g2, -, -⟩ := own_slice hob.acc
      subst g1 g2
      have hkk := ((hkq.out).trans hk3.out).trans hk4
      have hz3 : wA.heap.size ≤ w3.heap.size := ((hkq.out).trans hk3.out).size
      have hbl := hres.out.keep (hkk) (by omega)
      have d0 := hbl.cell 0
      have d1 := hbl.cell 1
      have d2 := hbl.cell 2
      have f0 := hbl.frozen 0
      have f1 := hbl.frozen 1
      have f2 := hbl.frozen 2
      simp only [List.getElem?_toArray, List.getElem?_cons_zero, List.getElem?_cons_succ] at d0 d1 d2
      have hltb := hbl.lt
      have hfin := hid (AuUp.ret (w := w) (Q := AuSz 2000) (P' := P + 40000000) (a := b) hqb.sz (hob.base (show w.heap.size + 1 ≤ w3.heap.size by have := hzAe.out; omega)) (hr4) (by omega) ((KeepB.of_below hBA).trans (hkk)) hR (.int .i64 b.al) (.slice B1 zs.length e1) (.slice B2 b.ac.length e2))
      clear hbl hob hr4 hk4 hkk hqb
      go_wp2
      refine bodyPost_ret (v := .agg #[.int .i64 b.al, .slice B1 zs.length e1, .slice B2 b.ac.length e2]) (by simp [results, Tryd.results106, go_sem, d0, d1, d2]) rfl ?_
      exact hfin.out
    · have c0 := hnb.out.cell 0
      have c1' := hnb.out.cell 1
      have c2' := hnb.out.cell 2
      simp only [List.getElem?_toArray, List.getElem?_cons_zero, List.getElem?_cons_succ] at c0 c1' c2'
      have hbl := hres.out.keep (hkq.out) (by omega)
      have d0 := hbl.cell 0
      have d1 := hbl.cell 1
      have d2 := hbl.cell 2
      have f0 := hbl.frozen 0
      have f1 := hbl.frozen 1
      have f2 := hbl.frozen 2
      simp only [List.getElem?_toArray, List.getElem?_cons_zero, List.getElem?_cons_succ] at d0 d1 d2
      have hltb := hbl.lt
      have hfin := hid (AuUp.ret (w := w) (Q := AuSz 2000) (P' := P + 40000000) (a := a) hq.out (hoq.out.base (show w.heap.size + 1 ≤ wo.heap.size by have := hzAe.out; omega)) (hrq.out) (by omega) ((KeepB.of_below hBA).trans (hkq.out)) hR (.int .i64 a.al) (.slice A1 ys.length c1) (.slice A2 a.ac.length c2))
      clear hbl
      go_wp2
      refine bodyPost_ret (v := .agg #[.int .i64 a.al, .slice A1 ys.length c1, .slice A2 a.ac.length c2]) (by simp [results, Tryd.results106, go_sem, d0, d1, d2]) rfl ?_
      exact hfin.out
  · have hjb : ((j : Int) == 0) = false := by simp; omega
    replace hj := hid hj
    go_wp2_with fail
    refine (num_lit R (P + 1) [3, 6, 7, 5, 1, 0, 2] wp _ (by decide) (by decide) (by omega) (hrp.out)).mono ?_
    rintro e w3 ⟨al, hal, rfl, hr3, hk3⟩
    replace hr3 := hid hr3
    replace hk3 := hid hk3
    clear hal
    go_wp2_with fail
    refine (l3Over_up R (P + 1 + 1) al w3 (by omega) hr3.out).mono ?_
    rintro e w4 ⟨b, u1, u2, zs, rfl, hqb, hob, hr4, hk4⟩
    obtain ⟨B1, e1, g1, -, -⟩ := own_slice hob.rows.own
    obtain ⟨B2, e2, g2, -, -⟩ := own_slice hob.acc
    subst g1 g2
    have hkk := ((hkp.out).trans hk3.out).trans hk4
    have hz3 : wA.heap.size ≤ w3.heap.size := ((hkp.out).trans hk3.out).size
    have hbl := hres.out.keep (hkk) (by omega)
    have d0 := hbl.cell 0
    have d1 := hbl.cell 1
    have d2 := hbl.cell 2
    have f0 := hbl.frozen 0
    have f1 := hbl.frozen 1
    have f2 := hbl.frozen 2
    simp only [List.getElem?_toArray, List.getElem?_cons_zero, List.getElem?_cons_succ] at d0 d1 d2
    have hltb := hbl.lt
    have hfin := hid (AuUp.ret (w := w) (Q := AuSz 2000) (P' := P + 40000000) (a := b) hqb.sz (hob.base (show w.heap.size + 1 ≤ w3.heap.size by have := hzAe.out; omega)) (hr4) (by omega) ((KeepB.of_below hBA).trans (hkk)) hR (.int .i64 b.al) (.slice B1 zs.length e1) (.slice B2 b.ac.length e2))
    clear hbl hob hr4 hk4 hkk hqb
    go_wp2
    refine bodyPost_ret (v := .agg #[.int .i64 b.al, .slice B1 zs.length e1, .slice B2 b.ac.length e2]) (by simp [results, Tryd.results106, go_sem, d0, d1, d2]) rfl ?_
    exact hfin.out

end Go.Proofs.YtjhlbeamfngebaaDoor

/- The drawing kit: l5Any. -/
namespace Go.Proofs.YtjhlbeamfngebaaDoor
open Go.RowKit Go.BigFrame AG

/-- The automaton is replaced by one that has just been made. -/
theorem AuSt.assign {K : Nat → Prop} {w0 wr w1 : World} {gs : Nat} {v1 v2 v1' v2' : Value} {a a' : Au} {xs xs' : List RowV} (h : AuSt K w0 wr gs v1 v2 a xs) (hK : ∀ b, K b → b < w0.heap.size) (hk : KeepB K wr w1) (ho : AuOwn w1 wr.heap.size v1' v2' a' xs') :
    AuSt K w0 (((w1.setCell ⟨gs, 0, none⟩ (.int .i64 a'.al)).setCell ⟨gs, 1, none⟩ v1').setCell ⟨gs, 2, none⟩ v2') gs v1' v2' a' xs' := by
  have hge := h.ge
  have hlt := h.blk.lt
  have hz := h.keep.size
  have hb := h.blk.keep hk fun e => by have := hK _ e; omega
  have hk2 : KeepB (fun b => b = gs) w1 (((w1.setCell ⟨gs, 0, none⟩ (.int .i64 a'.al)).setCell ⟨gs, 1, none⟩ v1').setCell ⟨gs, 2, none⟩ v2') := (((KeepB.refl _ w1).setCell _ _ (by simp)).setCell _ _ (by simp)).setCell _ _ (by simp)
  exact ⟨(((h.keep.trans hk).setCell _ _ (fun e => by simp at e; omega)).setCell _ _ (fun e => by simp at e; omega)).setCell _ _ (fun e => by simp at e; omega), h.ge, (ho.keepNew hk2 (fun b e => by omega)).base (by omega), by simpa using ((hb.set_ 0 (.int .i64 a'.al)).set_ 1 v1').set_ 2 v2'⟩


end Go.Proofs.YtjhlbeamfngebaaDoor

/- The drawing kit: DrawSystemOf, DrawMinimizeAutomaton. -/
namespace Go.Proofs.YtjhlbeamfngebaaDoor
open Go.RowKit Go.BigFrame AG

/-- Some automaton comes back, made since. -/
def DrawAu (w : World) (e : Ending) (w' : World) : Prop := ∃ (a : Au) (A B : Option Addr) (c d : Nat) (xs : List RowV), e = .returned (a.val A c B d) ∧ AuSz 3000 a ∧ AuOwn w' w.heap.size (.slice A a.nx.length c) (.slice B a.ac.length d) a xs ∧ Below w.heap.size w w'
theorem DrawAu.ret {w w1 : World} {a : Au} {A B : Option Addr} {c d : Nat} {xs : List RowV} (h1 : AuSz 3000 a) (ho : AuOwn w1 (w.heap.size + 1) (.slice A a.nx.length c) (.slice B a.ac.length d) a xs) (hb : Below w.heap.size w w1) (u1 u2 u3 : Value) :
    DrawAu w (.returned (.agg #[.int .i64 a.al, .slice A a.nx.length c, .slice B a.ac.length d])) (((w1.setCell ⟨w.heap.size, 0, none⟩ u1).setCell ⟨w.heap.size, 1, none⟩ u2).setCell ⟨w.heap.size, 2, none⟩ u3) := by
  have hk2 : KeepB (fun b => b = w.heap.size) w1 (((w1.setCell ⟨w.heap.size, 0, none⟩ u1).setCell ⟨w.heap.size, 1, none⟩ u2).setCell ⟨w.heap.size, 2, none⟩ u3) := (((KeepB.refl _ w1).setCell _ _ (by simp)).setCell _ _ (by simp)).setCell _ _ (by simp)
  exact ⟨a, A, B, c, d, xs, rfl, h1, (ho.keepNew hk2 (fun b e => by omega)).base (by omega), ((hb.setCell (by simp) _).setCell (by simp) _).setCell (by simp) _⟩



end Go.Proofs.YtjhlbeamfngebaaDoor

/- The drawing kit: two automata (l4Pair, DrawSameLanguage). -/
namespace Go.Proofs.YtjhlbeamfngebaaDoor
open Go.RowKit Go.BigFrame AG

theorem RaQ.sz {al : Int} {n N : Nat} {a : Au} (h : RaQ al n a) (hn : n ≤ N) (h6 : 6 ≤ N) : AuSz N a := ⟨by have := h.2.1; omega, by have := h.2.2.1; omega, fun r hr => by have := h.2.2.2 r hr; omega⟩
/-- A statement at a block's end may be cut around too. -/
theorem cut_here2 {P : Program} {c : Code} {Q : Exit → Act → World → Prop} {a : Act} {w : World} (h : ∀ K : Act → World → Prop, (∀ a w, Q .normal a w → K a w) → c.wp P (Exit.then K Q) a w) : c.wp P Q a w := by
  refine wp_mono (h (fun a w => Q .normal a w) fun _ _ q => q) ?_
  intro e a' w' hq
  cases e <;> exact hq
/-- Another automaton's variable is stored into. -/
theorem AuSt.other {K : Nat → Prop} {w0 w1 : World} {g1 g2 : Nat} {u1 u2 : Value} {b : Au} {ys : List RowV} {cs : Array Value} (h : AuSt K w0 w1 g2 u1 u2 b ys) (hb : Blk w1 g1 26 cs) (hge : w0.heap.size ≤ g1) (hne : g1 ≠ g2) (x0 x1 x2 : Value) :
    AuSt K w0 (((w1.setCell ⟨g1, 0, none⟩ x0).setCell ⟨g1, 1, none⟩ x1).setCell ⟨g1, 2, none⟩ x2) g2 u1 u2 b ys := by
  have hkB : KeepB (fun b => b = g1) w1 (((w1.setCell ⟨g1, 0, none⟩ x0).setCell ⟨g1, 1, none⟩ x1).setCell ⟨g1, 2, none⟩ x2) := (((KeepB.refl _ w1).setCell _ _ (by simp)).setCell _ _ (by simp)).setCell _ _ (by simp)
  exact ⟨((h.keep.setCell _ _ (fun e => by simp at e; omega)).setCell _ _ (fun e => by simp at e; omega)).setCell _ _ (fun e => by simp at e; omega), h.ge, ⟨h.own.rows.keep hkB (own_ne h.own.rows.own hb (by decide)) fun y hy => own_ne (h.own.rows.rows y hy) hb (by decide), h.own.eq, own_keep h.own.acc hkB (own_ne h.own.acc hb (by decide))⟩, h.blk.keep hkB (by omega)⟩
/-- Two automata in two blocks. -/
structure TwoAu (w0 wr : World) (R P N g1 g2 : Nat) (a b : Au) (A B A' B' : Option Addr) (c d c' d' : Nat) (xs ys : List RowV) : Prop where
  s : AuSt (fun b => b = R) w0 wr g1 (.slice A a.nx.length c) (.slice B a.ac.length d) a xs
  t : AuSt (fun b => b = R) w0 wr g2 (.slice A' b.nx.length c') (.slice B' b.ac.length d') b ys
  ne : g1 ≠ g2
  rd : RdUp wr R P
  za : AuSz N a
  zb : AuSz N b
def TwoEx (w0 wr : World) (R P N g1 g2 : Nat) : Prop := ∃ (a b : Au) (A B A' B' : Option Addr) (c d c' d' : Nat) (xs ys : List RowV), TwoAu w0 wr R P N g1 g2 a b A B A' B' c d c' d' xs ys
section
variable {w0 wr w1 : World} {R P P' N N' g1 g2 : Nat} {a b a1 : Au} {A B A' B' A1 B1 : Option Addr} {c d c' d' c1 d1 : Nat} {xs ys xs1 : List RowV}
theorem TwoAu.ex (h : TwoAu w0 wr R P N g1 g2 a b A B A' B' c d c' d' xs ys) : TwoEx w0 wr R P N g1 g2 := ⟨_, _, _, _, _, _, _, _, _, _, _, _, h⟩
theorem TwoAu.call (h : TwoAu w0 wr R P N g1 g2 a b A B A' B' c d c' d' xs ys) (hk : KeepB (fun b => b = R) wr w1) (hr : RdUp w1 R P') (hR : R < w0.heap.size) : TwoAu w0 w1 R P' N g1 g2 a b A B A' B' c d c' d' xs ys :=
  have hK : ∀ b, b = R → b < w0.heap.size := fun b e => by omega
  ⟨h.s.keepK hK hk, h.t.keepK hK hk, h.ne, hr, h.za, h.zb⟩
theorem TwoAu.more (h : TwoAu w0 wr R P N g1 g2 a b A B A' B' c d c' d' xs ys) (hP : P ≤ P') (hN : N ≤ N') : TwoAu w0 wr R P' N' g1 g2 a b A B A' B' c d c' d' xs ys :=
  ⟨h.s, h.t, h.ne, h.rd.more hP, h.za.up hN, h.zb.up hN⟩
theorem TwoAu.setA (h : TwoAu w0 wr R P N g1 g2 a b A B A' B' c d c' d' xs ys) (hR : R < w0.heap.size) (hk : KeepB (fun b => b = R) wr w1) (hr : RdUp w1 R P') (hz : AuSz N' a1) (hN : N ≤ N') {m : Nat} (ho : AuOwn w1 m (.slice A1 a1.nx.length c1) (.slice B1 a1.ac.length d1) a1 xs1) (hm : wr.heap.size ≤ m) :
    TwoAu w0 (((w1.setCell ⟨g1, 0, none⟩ (.int .i64 a1.al)).setCell ⟨g1, 1, none⟩ (.slice A1 a1.nx.length c1)).setCell ⟨g1, 2, none⟩ (.slice B1 a1.ac.length d1)) R P' N' g1 g2 a1 b A1 B1 A' B' c1 d1 c' d' xs1 ys := by
  have hK : ∀ b, b = R → b < w0.heap.size := fun b e => by omega
  have h1 := h.s.ge
  have hkB : KeepB (fun b => b = g1) w1 (((w1.setCell ⟨g1, 0, none⟩ (.int .i64 a1.al)).setCell ⟨g1, 1, none⟩ (.slice A1 a1.nx.length c1)).setCell ⟨g1, 2, none⟩ (.slice B1 a1.ac.length d1)) := (((KeepB.refl _ w1).setCell _ _ (by simp)).setCell _ _ (by simp)).setCell _ _ (by simp)
  exact ⟨h.s.assign hK hk (ho.base hm), (h.t.keepK hK hk).other (h.s.keepK hK hk).blk h.s.ge h.ne _ _ _, h.ne, hr.keep hkB (by omega), hz, h.zb.up hN⟩
theorem TwoAu.setB (h : TwoAu w0 wr R P N g1 g2 a b A B A' B' c d c' d' xs ys) (hR : R < w0.heap.size) (hk : KeepB (fun b => b = R) wr w1) (hr : RdUp w1 R P') (hz : AuSz N' a1) (hN : N ≤ N') {m : Nat} (ho : AuOwn w1 m (.slice A1 a1.nx.length c1) (.slice B1 a1.ac.length d1) a1 xs1) (hm : wr.heap.size ≤ m) :
    TwoAu w0 (((w1.setCell ⟨g2, 0, none⟩ (.int .i64 a1.al)).setCell ⟨g2, 1, none⟩ (.slice A1 a1.nx.length c1)).setCell ⟨g2, 2, none⟩ (.slice B1 a1.ac.length d1)) R P' N' g1 g2 a a1 A B A1 B1 c d c1 d1 xs xs1 := by
  have hK : ∀ b, b = R → b < w0.heap.size := fun b e => by omega
  have h1 := h.t.ge
  have hkB : KeepB (fun b => b = g2) w1 (((w1.setCell ⟨g2, 0, none⟩ (.int .i64 a1.al)).setCell ⟨g2, 1, none⟩ (.slice A1 a1.nx.length c1)).setCell ⟨g2, 2, none⟩ (.slice B1 a1.ac.length d1)) := (((KeepB.refl _ w1).setCell _ _ (by simp)).setCell _ _ (by simp)).setCell _ _ (by simp)
  exact ⟨(h.s.keepK hK hk).other (h.t.keepK hK hk).blk h.t.ge (Ne.symm h.ne) _ _ _, h.t.assign hK hk (ho.base hm), h.ne, hr.keep hkB (by omega), h.za.up hN, hz⟩
end
/-- Two automata come back, made since; the reader has moved on to P at most. -/
def PairAu (R P : Nat) (w : World) (e : Ending) (w' : World) : Prop := ∃ (a b : Au) (A B A' B' : Option Addr) (c d c' d' : Nat) (xs ys : List RowV), e = .returned (.tuple #[a.val A c B d, b.val A' c' B' d']) ∧ AuSz 9000 a ∧ AuSz 9000 b ∧
  AuOwn w' w.heap.size (.slice A a.nx.length c) (.slice B a.ac.length d) a xs ∧ AuOwn w' w.heap.size (.slice A' b.nx.length c') (.slice B' b.ac.length d') b ys ∧ RdUp w' R P ∧ KeepB (fun b => b = R) w w'
theorem PairAu.drew {R P : Nat} {w w' : World} {e : Ending} (h : PairAu R P w e w') : PairAu R P w e w'.drew := by
  obtain ⟨a, b, A, B, A', B', c, d, c', d', xs, ys, he, z1, z2, h1, h2, h3, h4⟩ := h
  have hb : Below w'.heap.size w' w'.drew := (Below.refl _ _).drew
  exact ⟨a, b, A, B, A', B', c, d, c', d', xs, ys, he, z1, z2, h1.later hb, h2.later hb, h3.later hb, h4.trans (KeepB.of_below hb)⟩
theorem TwoAu.fin {w w0 wr : World} {R P P' N g1 g2 : Nat} {a b : Au} {A B A' B' : Option Addr} {c d c' d' : Nat} {xs ys : List RowV} (h : TwoAu w0 wr R P N g1 g2 a b A B A' B' c d c' d' xs ys) (hb : Below w.heap.size w w0) (hsz : w.heap.size + 2 ≤ w0.heap.size) (hR : R < w.heap.size) (hP : P ≤ P') (hN : N ≤ 9000) {x0 x1 x2 x3 x4 x5 : Value} :
    PairAu R P' w (.returned (.tuple #[.agg #[.int .i64 a.al, .slice A a.nx.length c, .slice B a.ac.length d], .agg #[.int .i64 b.al, .slice A' b.nx.length c', .slice B' b.ac.length d']]))
      ((((((wr.setCell ⟨w.heap.size, 0, none⟩ x0).setCell ⟨w.heap.size, 1, none⟩ x1).setCell ⟨w.heap.size, 2, none⟩ x2).setCell ⟨w.heap.size + 1, 0, none⟩ x3).setCell ⟨w.heap.size + 1, 1, none⟩ x4).setCell ⟨w.heap.size + 1, 2, none⟩ x5) := by
  have hk : KeepB (fun b => b = w.heap.size ∨ b = w.heap.size + 1) wr ((((((wr.setCell ⟨w.heap.size, 0, none⟩ x0).setCell ⟨w.heap.size, 1, none⟩ x1).setCell ⟨w.heap.size, 2, none⟩ x2).setCell ⟨w.heap.size + 1, 0, none⟩ x3).setCell ⟨w.heap.size + 1, 1, none⟩ x4).setCell ⟨w.heap.size + 1, 2, none⟩ x5) := ((((((KeepB.refl _ wr).setCell _ _ (by simp)).setCell _ _ (by simp)).setCell _ _ (by simp)).setCell _ _ (by simp)).setCell _ _ (by simp)).setCell _ _ (by simp)
  refine ⟨a, b, A, B, A', B', c, d, c', d', xs, ys, rfl, h.za.up hN, h.zb.up hN, (h.s.own.keepNew hk (fun b e => by omega)).base (by omega), (h.t.own.keepNew hk (fun b e => by omega)).base (by omega), (h.rd.more hP).keep hk (by omega), ?_⟩
  exact ((((((((KeepB.of_below hb).trans h.s.keep).setCell _ _ (by simp)).setCell _ _ (by simp)).setCell _ _ (by simp)).setCell _ _ (fun hh => by have : w.heap.size + 1 < w.heap.size := hh; omega)).setCell _ _ (fun hh => by have : w.heap.size + 1 < w.heap.size := hh; omega)).setCell _ _ (fun hh => by have : w.heap.size + 1 < w.heap.size := hh; omega))

set_option maxRecDepth 100000 in
set_option maxHeartbeats 16000000 in
theorem l4Pair_up (R P : Nat) (w : World) (hP : P + 800000000 ≤ 1125899906842624) (hr : RdUp w R P) :
    Calls Tryd.prog 44 #[.pointer (some ⟨R, 0, none⟩)] w (PairAu R (P + 300000000) w) := by
  have hR := hr.lt
  have hres2 := (Blk.new w 26 #[.int .i64 0, .slice none 0 0, .slice none 0 0]).alloc (.cells #[.int .i64 0, .slice none 0 0, .slice none 0 0] 26)
  have hres3 := Blk.new (w.alloc (.cells #[.int .i64 0, .slice none 0 0, .slice none 0 0] 26)) 26 #[.int .i64 0, .slice none 0 0, .slice none 0 0]
  have hb0 : Below w.heap.size w ((w.alloc (.cells #[.int .i64 0, .slice none 0 0, .slice none 0 0] 26)).alloc (.cells #[.int .i64 0, .slice none 0 0, .slice none 0 0] 26)) := ((Below.refl _ _).alloc (Nat.le_refl _) _).alloc (by simp) _
  have hsz0 : ((w.alloc (.cells #[.int .i64 0, .slice none 0 0, .slice none 0 0] 26)).alloc (.cells #[.int .i64 0, .slice none 0 0, .slice none 0 0] 26)).heap.size = w.heap.size + 2 := by simp
  simp only [World.size_alloc] at hres3
  generalize hw0 : ((w.alloc (.cells #[.int .i64 0, .slice none 0 0, .slice none 0 0] 26)).alloc (.cells #[.int .i64 0, .slice none 0 0, .slice none 0 0] 26)) = w0 at hres2 hres3 hb0 hsz0
  have hr0 := hid (hr.later hb0)
  have hR0 : R < w0.heap.size := by omega
  have hK : ∀ b, b = R → b < w0.heap.size := fun b e => by omega
  replace hres2 := hid hres2
  replace hres3 := hid hres3
  replace hsz0 := hid hsz0
  clear hr
  go_enter Tryd.func44, Tryd.ntmps44
  go_wp2_with fail
  refine (l3Draw_up R P w0 (by omega) hr0.out).mono ?_
  rintro e w1 ⟨a1, v1, v2, xs1, rfl, hz1, ho1, hr1, hk1⟩
  obtain ⟨A1, c1, B1, d1, e1, e2, hat1⟩ := ho1.at_
  subst e1 e2
  have hba : Below w1.heap.size w1 (w1.alloc (.cells #[.int .i64 a1.al, .slice A1 a1.nx.length c1, .slice B1 a1.ac.length d1] 26)) := (Below.refl _ _).alloc (Nat.le_refl _) _
  have hs1 := AuSt.of (K := fun b => b = R) ho1 hk1
  have hrd1 := hid (hr1.later hba)
  generalize hwa : w1.alloc (.cells #[.int .i64 a1.al, .slice A1 a1.nx.length c1, .slice B1 a1.ac.length d1] 26) = wa at hs1 hrd1 hba
  replace hs1 := hid hs1
  have hkz := hk1.size
  have hza := hs1.out.blk.lt
  have y0 := hs1.out.blk.cell 0
  have y1 := hs1.out.blk.cell 1
  have y2 := hs1.out.blk.cell 2
  simp only [List.getElem?_toArray, List.getElem?_cons_zero, List.getElem?_cons_succ] at y0 y1 y2
  have hat1' : Hid (AuAt wa A1 c1 B1 d1 a1) := hid (hat1.later hba)
  replace hk1 := hid hk1
  clear ho1 hr1 hat1 hw0
  go_wp2_with fail
  refine (l4Change_up R (P + 40000000) 2000 a1 A1 B1 c1 d1 wa (by omega) (by omega) hz1 hrd1.out hat1'.out).mono ?_
  clear y0 y1 y2
  rintro e w2 ⟨a2, v1, v2, xs2, rfl, hz2, ho2, hr2, hk2⟩
  obtain ⟨A2, c2, B2, d2, e1, e2, hat2⟩ := ho2.at_
  subst e1 e2
  have hh2 := hid hat2
  have hrr2 := hid hr2
  have hkk2 := hid hk2
  have hzk2 := hk2.size
  clear hat2 hr2 hk2 ho2 hwa
  go_wp2_with fail
  refine (l4Change_up R (P + 40000000 + 4000000) 2001 a2 A2 B2 c2 d2 w2 (by omega) (by omega) hz2 hrr2.out hh2.out).mono ?_
  rintro e w3 ⟨a3, v1, v2, xs3, rfl, hz3, ho3, hr3, hk3⟩
  obtain ⟨A3, c3, B3, d3, e1, e2, hat3⟩ := ho3.at_
  subst e1 e2
  have hzk3 := hk3.size
  have hbb : Below w3.heap.size w3 (w3.alloc (.cells #[.int .i64 a3.al, .slice A3 a3.nx.length c3, .slice B3 a3.ac.length d3] 26)) := (Below.refl _ _).alloc (Nat.le_refl _) _
  have hT2 : TwoAu w0 (w3.alloc (.cells #[.int .i64 a3.al, .slice A3 a3.nx.length c3, .slice B3 a3.ac.length d3] 26)) R (P + 48000000) 2002 w1.heap.size w3.heap.size a1 a3 A1 B1 A3 B3 c1 d1 c3 d3 xs1 xs3 :=
    ⟨((hs1.out.keepK hK hkk2.out).keepK hK hk3).later hbb, AuSt.of (K := fun b => b = R) (ho3.base (by omega)) ((hs1.out.keep.trans hkk2.out).trans hk3), by omega, (hr3.later hbb).more (by omega), hz1.up (by omega), hz3.up (by omega)⟩
  generalize hwb : w3.alloc (.cells #[.int .i64 a3.al, .slice A3 a3.nx.length c3, .slice B3 a3.ac.length d3] 26) = wb at hT2 hbb
  replace hT2 := hid hT2
  clear hbb hs1 hk3 hr3 ho3 hat3 hkk2 hrr2 hh2 hrd1 hat1' hk1
  go_wp2_with fail
  refine (pick_up R (P + 48000000) 4 wb (by omega) (by omega) hT2.out.rd).mono ?_
  rintro e w4 ⟨j, rfl, hj0, hj1, hr4, hk4⟩
  have hT3 := hid (hT2.out.call hk4 hr4 hR0)
  have hb4 := hk4.size
  have hgl1 := hT3.out.s.ge
  have hgl2 := hT3.out.t.ge
  clear hr4 hk4 hT2 hwb
  go_upto_if 15 with fail
  refine cut_here2 fun KC hKC => ?_
  go_cut [] (fun wx => TwoEx w0 wx R (P + 100000000) 7000 w1.heap.size w3.heap.size)
  case first =>
    by_cases h0 : j = 0
    · subst h0
      have y0 := hT3.out.s.blk.cell 0
      have y1 := hT3.out.s.blk.cell 1
      have y2 := hT3.out.s.blk.cell 2
      simp only [List.getElem?_toArray, List.getElem?_cons_zero, List.getElem?_cons_succ] at y0 y1 y2
      go_wp2_with fail
      refine (l3Over_up R (P + 48000000 + 1) a1.al w4 (by omega) hT3.out.rd).mono ?_
      clear y0 y1 y2
      rintro e w5 ⟨a5, v1, v2, xs5, rfl, hz5, ho5, hr5, hk5⟩
      obtain ⟨A5, c5, B5, d5, e1, e2, hat5⟩ := ho5.at_
      subst e1 e2
      have hlt1 := hT3.out.s.blk.lt
      have hlt2 := hT3.out.t.blk.lt
      have hge1 := hT3.out.s.ge
      have hge2 := hT3.out.t.ge
      have hT6 := hid ((hT3.out.setB hR0 hk5 hr5 (N' := 7000) (hz5.sz.up (by omega)) (by omega) ho5 (by omega)).more (P' := P + 100000000) (N' := 7000) (by omega) (Nat.le_refl _))
      have hbq := hT3.out.t.blk.keep hk5 (by omega)
      have f0 := hbq.frozen 0
      have f1 := hbq.frozen 1
      have f2 := hbq.frozen 2
      have x0 := hbq.cell 0
      have x1 := hbq.cell 1
      have x2 := hbq.cell 2
      simp only [List.getElem?_toArray, List.getElem?_cons_zero, List.getElem?_cons_succ] at x0 x1 x2
      have hlq := hbq.lt
      replace hbq := hid hbq
      replace ho5 := hid ho5
      replace hr5 := hid hr5
      replace hk5 := hid hk5
      replace hat5 := hid hat5
      go_wp2_with fail
      go_meet
      exact hT6.out.ex
    · have h0b : ((j : Int) == 0) = false := by simpa using h0
      replace h0 := hid h0
      by_cases h1 : j = 1
      · subst h1
        have y0 := hT3.out.s.blk.cell 0
        have y1 := hT3.out.s.blk.cell 1
        have y2 := hT3.out.s.blk.cell 2
        simp only [List.getElem?_toArray, List.getElem?_cons_zero, List.getElem?_cons_succ] at y0 y1 y2
        have hat0 : Hid (AuAt w4 A1 c1 B1 d1 a1) := hid (by
          obtain ⟨A', c', B', d', e1, e2, h⟩ := hT3.out.s.own.at_
          cases e1
          cases e2
          exact h)
        have hz0 := hT3.out.za
        go_wp2_with fail
        refine (l4Change_up R (P + 48000000 + 1) 2002 a1 A1 B1 c1 d1 w4 (by omega) (by omega) hz0 hT3.out.rd hat0.out).mono ?_
        clear y0 y1 y2
        rintro e w6 ⟨a6, v1, v2, xs6, rfl, hz6, ho6, hr6, hk6⟩
        obtain ⟨A6, c6, B6, d6, e1, e2, hat6⟩ := ho6.at_
        subst e1 e2
        have hlt1 := hT3.out.s.blk.lt
        have hlt2 := hT3.out.t.blk.lt
        have hge1 := hT3.out.s.ge
        have hge2 := hT3.out.t.ge
        have hT6 := hid ((hT3.out.setB hR0 hk6 hr6 (N' := 7000) (hz6.up (by omega)) (by omega) ho6 (by omega)).more (P' := P + 100000000) (N' := 7000) (by omega) (Nat.le_refl _))
        have hbq := hT3.out.t.blk.keep hk6 (by omega)
        have f0 := hbq.frozen 0
        have f1 := hbq.frozen 1
        have f2 := hbq.frozen 2
        have x0 := hbq.cell 0
        have x1 := hbq.cell 1
        have x2 := hbq.cell 2
        simp only [List.getElem?_toArray, List.getElem?_cons_zero, List.getElem?_cons_succ] at x0 x1 x2
        have hlq := hbq.lt
        replace hbq := hid hbq
        replace ho6 := hid ho6
        replace hr6 := hid hr6
        replace hk6 := hid hk6
        replace hat6 := hid hat6
        go_wp2_with fail
        go_meet
        exact hT6.out.ex
      · have h1b : ((j : Int) == 1) = false := by simpa using h1
        replace h1 := hid h1
        go_wp2_with fail
        go_meet
        exact (hT3.out.more (by omega) (by omega)).ex
  case rest =>
    refine hKC _ _ ?_
    clear hT3 hz1 hz2 hz3
    obtain ⟨a, b, A, B, A', B', c, d, c', d', xs, ys, hT4⟩ := hcut
    replace hT4 := hid hT4
    go_wp2_with fail
    refine (pick_up R (P + 100000000) 20 wc (by omega) (by omega) hT4.out.rd).mono ?_
    rintro e w8 ⟨j2, rfl, hj20, hj21, hr8, hk8⟩
    have hT8 := hid (hT4.out.call hk8 hr8 hR0)
    clear hr8 hk8 hT4
    go_upto_if 28 with fail
    refine cut_here2 fun KD hKD => ?_
    go_cut [] (fun wx => TwoEx w0 wx R (P + 250000000) 9000 w1.heap.size w3.heap.size)
    case first =>
      by_cases h0 : j2 = 0
      · subst h0
        have y0 := hT8.out.s.blk.cell 0
        have y1 := hT8.out.s.blk.cell 1
        have y2 := hT8.out.s.blk.cell 2
        simp only [List.getElem?_toArray, List.getElem?_cons_zero, List.getElem?_cons_succ] at y0 y1 y2
        have hat0 : Hid (AuAt w8 A c B d a) := hid (by
          obtain ⟨A', c', B', d', e1, e2, h⟩ := hT8.out.s.own.at_
          cases e1
          cases e2
          exact h)
        have hz0 := hT8.out.za
        go_wp2_with fail
        refine (l3Wrong_up R (P + 100000000 + 1) 7000 a A B c d w8 (by omega) (by omega) (hz0.up (by omega)) hT8.out.rd hat0.out).mono ?_
        clear y0 y1 y2
        rintro e w21 ⟨a21, v1, v2, xs21, rfl, hz21, ho21, hr21, hk21⟩
        obtain ⟨A21, c21, B21, d21, e1, e2, hat21⟩ := ho21.at_
        subst e1 e2
        have hh21 := hid hat21
        have hrr21 := hid hr21
        have hkk21 := hid hk21
        clear hat21 hr21 hk21 ho21
        go_wp2_with fail
        refine (l3Wrong_up R (P + 100000000 + 1 + 4000000) 7013 a21 A21 B21 c21 d21 w21 (by omega) (by omega) hz21 hrr21.out hh21.out).mono ?_
        rintro e w22 ⟨a22, v1, v2, xs22, rfl, hz22, ho22, hr22, hk22⟩
        obtain ⟨A22, c22, B22, d22, e1, e2, hat22⟩ := ho22.at_
        subst e1 e2
        have hh22 := hid hat22
        have hrr22 := hid hr22
        have hkk22 := hid (hkk21.out.trans hk22)
        clear hat22 hr22 hk22 ho22
        go_wp2_with fail
        refine (l3Wrong_up R (P + 100000000 + 1 + 4000000 + 4000000) 7026 a22 A22 B22 c22 d22 w22 (by omega) (by omega) hz22 hrr22.out hh22.out).mono ?_
        rintro e w23 ⟨a23, v1, v2, xs23, rfl, hz23, ho23, hr23, hk23⟩
        obtain ⟨A23, c23, B23, d23, e1, e2, hat23⟩ := ho23.at_
        subst e1 e2
        have hkk23 := hkk22.out.trans hk23
        have hsz23 := hkk22.out.size
        have hlt1 := hT8.out.s.blk.lt
        have hlt2 := hT8.out.t.blk.lt
        have hge1 := hT8.out.s.ge
        have hge2 := hT8.out.t.ge
        have hT6 := hid ((hT8.out.setA hR0 hkk23 hr23 (N' := 9000) (hz23.up (by omega)) (by omega) ho23 (by have := hkk22.out.size; omega)).more (P' := P + 250000000) (N' := 9000) (by omega) (Nat.le_refl _))
        have hbq := hT8.out.s.blk.keep hkk23 (by omega)
        have f0 := hbq.frozen 0
        have f1 := hbq.frozen 1
        have f2 := hbq.frozen 2
        have x0 := hbq.cell 0
        have x1 := hbq.cell 1
        have x2 := hbq.cell 2
        simp only [List.getElem?_toArray, List.getElem?_cons_zero, List.getElem?_cons_succ] at x0 x1 x2
        have hlq := hbq.lt
        replace hbq := hid hbq
        replace ho23 := hid ho23
        replace hr23 := hid hr23
        replace hk23 := hid hk23
        replace hat23 := hid hat23
        go_wp2_with fail
        go_meet
        exact hT6.out.ex
      · have h0b : ((j2 : Int) == 0) = false := by simpa using h0
        replace h0 := hid h0
        by_cases h1 : j2 = 1
        · subst h1
          have y0 := hT8.out.t.blk.cell 0
          have y1 := hT8.out.t.blk.cell 1
          have y2 := hT8.out.t.blk.cell 2
          simp only [List.getElem?_toArray, List.getElem?_cons_zero, List.getElem?_cons_succ] at y0 y1 y2
          have hat0 : Hid (AuAt w8 A' c' B' d' b) := hid (by
            obtain ⟨A', c', B', d', e1, e2, h⟩ := hT8.out.t.own.at_
            cases e1
            cases e2
            exact h)
          have hz0 := hT8.out.zb
          go_wp2_with fail
          refine (l3Wrong_up R (P + 100000000 + 1) 7000 b A' B' c' d' w8 (by omega) (by omega) (hz0.up (by omega)) hT8.out.rd hat0.out).mono ?_
          clear y0 y1 y2
          rintro e w21 ⟨a21, v1, v2, xs21, rfl, hz21, ho21, hr21, hk21⟩
          obtain ⟨A21, c21, B21, d21, e1, e2, hat21⟩ := ho21.at_
          subst e1 e2
          have hh21 := hid hat21
          have hrr21 := hid hr21
          have hkk21 := hid hk21
          clear hat21 hr21 hk21 ho21
          go_wp2_with fail
          refine (l3Wrong_up R (P + 100000000 + 1 + 4000000) 7013 a21 A21 B21 c21 d21 w21 (by omega) (by omega) hz21 hrr21.out hh21.out).mono ?_
          rintro e w22 ⟨a22, v1, v2, xs22, rfl, hz22, ho22, hr22, hk22⟩
          obtain ⟨A22, c22, B22, d22, e1, e2, hat22⟩ := ho22.at_
          subst e1 e2
          have hh22 := hid hat22
          have hrr22 := hid hr22
          have hkk22 := hid (hkk21.out.trans hk22)
          clear hat22 hr22 hk22 ho22
          go_wp2_with fail
          refine (l3Wrong_up R (P + 100000000 + 1 + 4000000 + 4000000) 7026 a22 A22 B22 c22 d22 w22 (by omega) (by omega) hz22 hrr22.out hh22.out).mono ?_
          rintro e w23 ⟨a23, v1, v2, xs23, rfl, hz23, ho23, hr23, hk23⟩
          obtain ⟨A23, c23, B23, d23, e1, e2, hat23⟩ := ho23.at_
          subst e1 e2
          have hkk23 := hkk22.out.trans hk23
          have hsz23 := hkk22.out.size
          have hlt1 := hT8.out.s.blk.lt
          have hlt2 := hT8.out.t.blk.lt
          have hge1 := hT8.out.s.ge
          have hge2 := hT8.out.t.ge
          have hT6 := hid ((hT8.out.setB hR0 hkk23 hr23 (N' := 9000) (hz23.up (by omega)) (by omega) ho23 (by have := hkk22.out.size; omega)).more (P' := P + 250000000) (N' := 9000) (by omega) (Nat.le_refl _))
          have hbq := hT8.out.t.blk.keep hkk23 (by omega)
          have f0 := hbq.frozen 0
          have f1 := hbq.frozen 1
          have f2 := hbq.frozen 2
          have x0 := hbq.cell 0
          have x1 := hbq.cell 1
          have x2 := hbq.cell 2
          simp only [List.getElem?_toArray, List.getElem?_cons_zero, List.getElem?_cons_succ] at x0 x1 x2
          have hlq := hbq.lt
          replace hbq := hid hbq
          replace ho23 := hid ho23
          replace hr23 := hid hr23
          replace hk23 := hid hk23
          replace hat23 := hid hat23
          go_wp2_with fail
          go_meet
          exact hT6.out.ex
        · have h1b : ((j2 : Int) == 1) = false := by simpa using h1
          replace h1 := hid h1
          by_cases h2 : j2 = 2
          · subst h2
            go_wp2_with fail
            refine (l3Draw_up R (P + 100000000 + 1) w8 (by omega) hT8.out.rd).mono ?_
            rintro e w9 ⟨a9, v1, v2, xs9, rfl, hz9, ho9, hr9, hk9⟩
            obtain ⟨A9, c9, B9, d9, e1, e2, hat9⟩ := ho9.at_
            subst e1 e2
            have hlt1 := hT8.out.s.blk.lt
            have hlt2 := hT8.out.t.blk.lt
            have hge1 := hT8.out.s.ge
            have hge2 := hT8.out.t.ge
            have hT6 := hid ((hT8.out.setB hR0 hk9 hr9 (N' := 9000) (hz9.up (by omega)) (by omega) ho9 (by omega)).more (P' := P + 250000000) (N' := 9000) (by omega) (Nat.le_refl _))
            have hbq := hT8.out.t.blk.keep hk9 (by omega)
            have f0 := hbq.frozen 0
            have f1 := hbq.frozen 1
            have f2 := hbq.frozen 2
            have x0 := hbq.cell 0
            have x1 := hbq.cell 1
            have x2 := hbq.cell 2
            simp only [List.getElem?_toArray, List.getElem?_cons_zero, List.getElem?_cons_succ] at x0 x1 x2
            have hlq := hbq.lt
            replace hbq := hid hbq
            replace ho9 := hid ho9
            replace hr9 := hid hr9
            replace hk9 := hid hk9
            replace hat9 := hid hat9
            go_wp2_with fail
            go_meet
            exact hT6.out.ex
          · have h2b : ((j2 : Int) == 2) = false := by simpa using h2
            replace h2 := hid h2
            by_cases h3 : j2 = 3
            · subst h3
              go_wp2_with fail
              refine (l3Big_up R (P + 100000000 + 1) w8 (by omega) hT8.out.rd).mono ?_
              rintro e w10 ⟨a10, v1, v2, xs10, rfl, hz10, ho10, hr10, hk10⟩
              obtain ⟨A10, c10, B10, d10, e1, e2, hat10⟩ := ho10.at_
              subst e1 e2
              have hlt1 := hT8.out.s.blk.lt
              have hlt2 := hT8.out.t.blk.lt
              have hge1 := hT8.out.s.ge
              have hge2 := hT8.out.t.ge
              have hsz10 := hk10.size
              have hT10 := (hT8.out.setA hR0 hk10 hr10 (N' := 7000) (hz10.sz (by omega) (by omega)) (by omega) ho10 (by omega))
              have hbq := hT8.out.s.blk.keep hk10 (by omega)
              have f0 := hbq.frozen 0
              have f1 := hbq.frozen 1
              have f2 := hbq.frozen 2
              have x0 := hbq.cell 0
              have x1 := hbq.cell 1
              have x2 := hbq.cell 2
              simp only [List.getElem?_toArray, List.getElem?_cons_zero, List.getElem?_cons_succ] at x0 x1 x2
              have hlq := hbq.lt
              obtain ⟨wD, hwD⟩ : ∃ wD, ((w10.setCell ⟨w1.heap.size, 0, none⟩ (.int .i64 a10.al)).setCell ⟨w1.heap.size, 1, none⟩ (.slice A10 a10.nx.length c10)).setCell ⟨w1.heap.size, 2, none⟩ (.slice B10 a10.ac.length d10) = wD := ⟨_, rfl⟩
              rw [hwD] at hT10
              replace hT10 := hid hT10
              replace hbq := hid hbq
              clear ho10 hr10 hk10 hat10
              go_upto_region 17 with fail
              (try rw [hwD])
              clear x0 x1 x2 f0 f1 f2 hwD hbq
              have y0 := hT10.out.s.blk.cell 0
              have y1 := hT10.out.s.blk.cell 1
              have y2 := hT10.out.s.blk.cell 2
              simp only [List.getElem?_toArray, List.getElem?_cons_zero, List.getElem?_cons_succ] at y0 y1 y2
              have hat0 : Hid (AuAt wD A10 c10 B10 d10 a10) := hid (by
                obtain ⟨A', c', B', d', e1, e2, h⟩ := hT10.out.s.own.at_
                cases e1
                cases e2
                exact h)
              have hz0 := hT10.out.za
              go_wp2_with fail
              refine (l4Change_up R (P + 100000000 + 1 + 20000000) 7000 a10 A10 B10 c10 d10 wD (by omega) (by omega) hz0 hT10.out.rd hat0.out).mono ?_
              clear y0 y1 y2 hlt1 hlt2 hge1 hge2
              rintro e w11 ⟨a11, v1, v2, xs11, rfl, hz11, ho11, hr11, hk11⟩
              obtain ⟨A11, c11, B11, d11, e1, e2, hat11⟩ := ho11.at_
              subst e1 e2
              have hlt1 := hT10.out.s.blk.lt
              have hlt2 := hT10.out.t.blk.lt
              have hge1 := hT10.out.s.ge
              have hge2 := hT10.out.t.ge
              have hT6 := hid ((hT10.out.setB hR0 hk11 hr11 (N' := 9000) (hz11.up (by omega)) (by omega) ho11 (by omega)).more (P' := P + 250000000) (N' := 9000) (by omega) (Nat.le_refl _))
              have hbq := hT10.out.t.blk.keep hk11 (by omega)
              have f0 := hbq.frozen 0
              have f1 := hbq.frozen 1
              have f2 := hbq.frozen 2
              have x0 := hbq.cell 0
              have x1 := hbq.cell 1
              have x2 := hbq.cell 2
              simp only [List.getElem?_toArray, List.getElem?_cons_zero, List.getElem?_cons_succ] at x0 x1 x2
              have hlq := hbq.lt
              replace hbq := hid hbq
              replace ho11 := hid ho11
              replace hr11 := hid hr11
              replace hk11 := hid hk11
              replace hat11 := hid hat11
              go_wp2_with fail
              go_meet
              exact hT6.out.ex
            · have h3b : ((j2 : Int) == 3) = false := by simpa using h3
              replace h3 := hid h3
              go_wp2_with fail
              go_meet
              exact (hT8.out.more (by omega) (by omega)).ex
    case rest =>
      refine hKD _ _ ?_
      clear hT8
      obtain ⟨a, b, A, B, A', B', c, d, c', d', xs, ys, hT⟩ := hcut
      have hk := hT.s.keep
      have hb2 := hres2.out.keep hk (by omega)
      have hb3 := hres3.out.keep hk (by omega)
      have c0 := hT.s.blk.cell 0
      have c1 := hT.s.blk.cell 1
      have c2 := hT.s.blk.cell 2
      simp only [List.getElem?_toArray, List.getElem?_cons_zero, List.getElem?_cons_succ] at c0 c1 c2
      have q0 := hT.t.blk.cell 0
      have q1 := hT.t.blk.cell 1
      have q2 := hT.t.blk.cell 2
      simp only [List.getElem?_toArray, List.getElem?_cons_zero, List.getElem?_cons_succ] at q0 q1 q2
      have r0 := hb2.cell 0
      have r1 := hb2.cell 1
      have r2 := hb2.cell 2
      have r3 := hb3.cell 0
      have r4 := hb3.cell 1
      have r5 := hb3.cell 2
      have f0 := hb2.frozen 0
      have f1 := hb2.frozen 1
      have f2 := hb2.frozen 2
      have f3 := hb3.frozen 0
      have f4 := hb3.frozen 1
      have f5 := hb3.frozen 2
      simp only [List.getElem?_toArray, List.getElem?_cons_zero, List.getElem?_cons_succ] at r0 r1 r2 r3 r4 r5
      have s0 := hsz0.out
      have n1 : w1.heap.size ≠ w.heap.size := by omega
      have n2 : w1.heap.size ≠ w.heap.size + 1 := by omega
      have n3 : w3.heap.size ≠ w.heap.size := by omega
      have n4 : w3.heap.size ≠ w.heap.size + 1 := by omega
      have l1 := hT.s.blk.lt
      have l2 := hT.t.blk.lt
      have l3 := hb2.lt
      have l4 := hb3.lt
      have hfin := hid (hT.fin (hb0) (by omega : w.heap.size + 2 ≤ w0.heap.size) hR (P' := P + 300000000) (by omega) (by omega) (x0 := .int .i64 a.al) (x1 := .slice A a.nx.length c) (x2 := .slice B a.ac.length d) (x3 := .int .i64 b.al) (x4 := .slice A' b.nx.length c') (x5 := .slice B' b.ac.length d'))
      clear hb2 hb3 hk hT
      go_wp2_with fail
      go_region
      go_wp2
      refine bodyPost_ret (v := .tuple #[.agg #[.int .i64 a.al, .slice A a.nx.length c, .slice B a.ac.length d], .agg #[.int .i64 b.al, .slice A' b.nx.length c', .slice B' b.ac.length d']]) (by simp [results, Tryd.results44, go_sem, r0, r1, r2, r3, r4, r5]) rfl ?_
      exact hfin.out.drew

def DrawPairAu (w : World) (e : Ending) (w' : World) : Prop := ∃ (a b : Au) (A B A' B' : Option Addr) (c d c' d' : Nat), e = .returned (.tuple #[a.val A c B d, b.val A' c' B' d']) ∧ AuAt w' A c B d a ∧ AuAt w' A' c' B' d' b ∧ Below w.heap.size w w'
theorem DrawPairAu.of {w w1 wr : World} {a b : Au} {A B A' B' : Option Addr} {c d c' d' : Nat} {xs ys : List RowV} (h1 : AuOwn wr w1.heap.size (.slice A a.nx.length c) (.slice B a.ac.length d) a xs) (h2 : AuOwn wr w1.heap.size (.slice A' b.nx.length c') (.slice B' b.ac.length d') b ys) (hz : w.heap.size + 2 ≤ w1.heap.size) (hb : Below w.heap.size w wr) (x0 x1 x2 x3 x4 x5 : Value) :
    DrawPairAu w (.returned (.tuple #[.agg #[.int .i64 a.al, .slice A a.nx.length c, .slice B a.ac.length d], .agg #[.int .i64 b.al, .slice A' b.nx.length c', .slice B' b.ac.length d']])) ((((((wr.setCell ⟨w.heap.size, 0, none⟩ x0).setCell ⟨w.heap.size, 1, none⟩ x1).setCell ⟨w.heap.size, 2, none⟩ x2).setCell ⟨w.heap.size + 1, 0, none⟩ x3).setCell ⟨w.heap.size + 1, 1, none⟩ x4).setCell ⟨w.heap.size + 1, 2, none⟩ x5) := by
  have hk : KeepB (fun b => b = w.heap.size ∨ b = w.heap.size + 1) wr ((((((wr.setCell ⟨w.heap.size, 0, none⟩ x0).setCell ⟨w.heap.size, 1, none⟩ x1).setCell ⟨w.heap.size, 2, none⟩ x2).setCell ⟨w.heap.size + 1, 0, none⟩ x3).setCell ⟨w.heap.size + 1, 1, none⟩ x4).setCell ⟨w.heap.size + 1, 2, none⟩ x5) := ((((((KeepB.refl _ wr).setCell _ _ (by simp)).setCell _ _ (by simp)).setCell _ _ (by simp)).setCell _ _ (by simp)).setCell _ _ (by simp)).setCell _ _ (by simp)
  have g1 := (h1.keepNew hk fun b e => by omega).read
  have g2 := (h2.keepNew hk fun b e => by omega).read
  exact ⟨a, b, A, B, A', B', c, d, c', d', rfl, g1, g2, KeepB.below hb hk hb.size (fun k hk => by omega)⟩

set_option maxRecDepth 100000 in
set_option maxHeartbeats 4000000 in
theorem drawSameLanguage_any (A0 : Option Addr) (n c0 : Nat) (w : World) (hn : n ≤ c0) (hc : c0 ≤ 9223372036854775807) (hx : CodeAt w A0 n) :
    Calls Tryd.prog 11 #[.slice A0 n c0] w (DrawPairAu w) := by
  have hres2 := (Blk.new w 26 #[.int .i64 0, .slice none 0 0, .slice none 0 0]).alloc (.cells #[.int .i64 0, .slice none 0 0, .slice none 0 0] 26)
  have hres3 := Blk.new (w.alloc (.cells #[.int .i64 0, .slice none 0 0, .slice none 0 0] 26)) 26 #[.int .i64 0, .slice none 0 0, .slice none 0 0]
  have hb0 : Below w.heap.size w ((w.alloc (.cells #[.int .i64 0, .slice none 0 0, .slice none 0 0] 26)).alloc (.cells #[.int .i64 0, .slice none 0 0, .slice none 0 0] 26)) := ((Below.refl _ _).alloc (Nat.le_refl _) _).alloc (by simp) _
  have hz0 : ((w.alloc (.cells #[.int .i64 0, .slice none 0 0, .slice none 0 0] 26)).alloc (.cells #[.int .i64 0, .slice none 0 0, .slice none 0 0] 26)).heap.size = w.heap.size + 2 := by simp
  simp only [World.size_alloc] at hres3
  generalize hw0 : ((w.alloc (.cells #[.int .i64 0, .slice none 0 0, .slice none 0 0] 26)).alloc (.cells #[.int .i64 0, .slice none 0 0, .slice none 0 0] 26)) = w0 at hres2 hres3 hb0 hz0
  have hx0 : CodeAt w0 A0 n := fun h => by
    obtain ⟨b, o, h1, h2, h3⟩ := hx h
    refine ⟨b, o, h1, by omega, fun i hi => ?_⟩
    obtain ⟨y, h4, h5⟩ := h3 i hi
    exact ⟨y, h4, by rw [hb0.cell (by simpa using h2)]; exact h5⟩
  replace hres2 := hid hres2
  replace hres3 := hid hres3
  replace hz0 := hid hz0
  replace hx := hid hx
  replace hx0 := hid hx0
  go_enter Tryd.func11, Tryd.ntmps11
  go_wp2_with fail
  refine (l19Open_any A0 n c0 w0 hn hc hx0.out).mono ?_
  rintro e w1 ⟨R, rfl, hR, hr1, hb1⟩
  replace hr1 := hid hr1
  have hz1 := hb1.size
  clear hw0
  go_wp2_with fail
  refine (l4Pair_up R 0 w1 (by omega) hr1.out).mono ?_
  rintro e w2 ⟨a, b, A, B, A', B', c, d, c', d', xs, ys, rfl, -, -, h1, h2, -, h4⟩
  unfold AG.Au.val
  have hzz := hz0.out
  have hB2 : Below w0.heap.size w0 w2 := KeepB.below hb1 h4 hb1.size (fun k hk => by omega)
  have hfin := hid (DrawPairAu.of (w := w) h1 h2 (by omega) (hb0.trans (hB2.mono (by omega))) (.int .i64 a.al) (.slice A a.nx.length c) (.slice B a.ac.length d) (.int .i64 b.al) (.slice A' b.nx.length c') (.slice B' b.ac.length d'))
  have hbl2 := hres2.out.below hB2 (by omega)
  have hbl3 := hres3.out.below hB2 (by omega)
  have d0 := hbl2.cell 0
  have d1 := hbl2.cell 1
  have d2 := hbl2.cell 2
  have e0 := hbl3.cell 0
  have e1 := hbl3.cell 1
  have e2 := hbl3.cell 2
  have f0 := hbl2.frozen 0
  have f1 := hbl2.frozen 1
  have f2 := hbl2.frozen 2
  have g0 := hbl3.frozen 0
  have g1 := hbl3.frozen 1
  have g2 := hbl3.frozen 2
  simp only [List.getElem?_toArray, List.getElem?_cons_zero, List.getElem?_cons_succ] at d0 d1 d2 e0 e1 e2
  have hl2 := hbl2.lt
  have hl3 := hbl3.lt
  clear h1 h2 h4 hbl2 hbl3 hB2 hb1
  go_wp2
  refine bodyPost_ret (v := .tuple #[.agg #[.int .i64 a.al, .slice A a.nx.length c, .slice B a.ac.length d], .agg #[.int .i64 b.al, .slice A' b.nx.length c', .slice B' b.ac.length d']]) (by simp [results, Tryd.results11, go_sem, d0, d1, d2, e0, e1, e2]) rfl ?_
  exact hfin.out

end Go.Proofs.YtjhlbeamfngebaaDoor

/- The two tables of math/bits that the cards list: what a walk reads of them, and a world that holds them. -/
namespace Go.Proofs.YtjhlbeamfngebaaDoor
open Go.ChangeShapes Go.WideShapes Go.ChangeAt Go.RowKit AG

theorem g64 : Tryd.prog.globalNamed "math/bits.deBruijn64tab" = some 1 := by kernel_rfl
theorem g64Type : (Tryd.prog.globals[1]?).map (·.type) = some 198 := by kernel_rfl
theorem g64Under : Tryd.prog.underlying 198 = some (.array 64 5) := by kernel_rfl
theorem u8Under : Tryd.prog.underlying 5 = some (.int .u8) := by kernel_rfl
theorem u8Cells : Tryd.prog.cellsOf 5 = 1 := by kernel_rfl
theorem g64Cells : Tryd.prog.cellsOf 198 = 64 := by kernel_rfl

def layTab (zs : List Nat) : Obj → Obj
  | .cells _ t frozen => .cells (zs.map fun n => Value.int .u8 (Int.ofNat n)).toArray t frozen
  | o => o

theorem tab_of_laid3 {W : World} (h : laidMetH Tryd.prog [("math/bits.deBruijn32tab", Rows.laid_math_bits_deBruijn32tab), ("math/bits.deBruijn64tab", Rows.laid_math_bits_deBruijn64tab), ("internal/strconv.uint64pow10", Rows.laid_internal_strconv_uint64pow10)] W) : Tab W := by
  have h1 : laidMet Tryd.prog [("math/bits.deBruijn32tab", Rows.laid_math_bits_deBruijn32tab), ("math/bits.deBruijn64tab", Rows.laid_math_bits_deBruijn64tab), ("internal/strconv.uint64pow10", Rows.laid_internal_strconv_uint64pow10)] W := h
  have h2 : laidMet Tryd.prog (("math/bits.deBruijn64tab", Lib.tabData .u8 (Lib.deBruijn64tab.map Int.ofNat)) :: [("internal/strconv.uint64pow10", Rows.laid_internal_strconv_uint64pow10)]) W := laidMet.tail h1
  have h3 := Lib.tabIs_of_head g64 g64Type g64Under u8Under u8Cells g64Cells h2
  intro j hj
  rw [h3.cell g64 j (by simpa using hj)]
  simp [List.getD, hj]
def layTabW (zs : List Nat) : Obj → Obj
  | .cells _ t frozen => .cells (zs.map fun n => Value.int .u64 (Int.ofNat n)).toArray t frozen
  | o => o
/-- The same, and the table of powers of ten. -/
noncomputable def laidWorld3 (os : Os) : World :=
  { World.holding Tryd.prog os ⟨#[], #[], []⟩ with heap := (((World.holding Tryd.prog os ⟨#[], #[], []⟩).heap.modify 0 (layTab Lib.deBruijn32tab)).modify 1 (layTab Lib.deBruijn64tab)).modify 2 (layTabW ((List.range 20).map fun i => 10 ^ i)) }

end Go.Proofs.YtjhlbeamfngebaaDoor

/- The reference's l5Order. -/
namespace Go.Proofs.YtjhlbeamfngebaaDoor
open Go.RowKit Go.BigFrame Go.Maps AG

/-- A list of numbers under way. -/
structure OrdSt (w0 wr : World) (v : Value) (ns : List Nat) : Prop where
  below : Below w0.heap.size w0 wr
  own : wr.ownsRow w0.heap.size 3 1 v ns.length (natVals ns)
theorem OrdSt.later {w0 wr w' : World} {v : Value} {ns : List Nat} (h : OrdSt w0 wr v ns) (hb : Below wr.heap.size wr w') : OrdSt w0 w' v ns := ⟨h.below.trans (hb.mono h.below.size), own_later_ h.own hb⟩
theorem OrdSt.app {w0 wr w1 : World} {v v' : Value} {ns : List Nat} {o : Obj} {x : Nat} (h : OrdSt w0 wr v ns) (hg : (wr.alloc o).grownBy w1 v.ownBlock)
    (ho : w1.ownsRow w0.heap.size 3 1 v' (ns.length + 1) (natVals ns ++ [.int .i64 (x : Nat)])) : OrdSt w0 w1 v' (ns ++ [x]) := by
  have hkA : KeepB (fun b => v.ownBlock = some b) wr w1 := ((KeepB.refl _ wr).alloc o).grown hg fun k hk _ => hk
  refine ⟨hkA.below h.below h.below.size fun b e => own_block h.own b e, ?_⟩
  rw [List.length_append]
  unfold natVals at ho ⊢
  simpa using ho
theorem OrdSt.new (w0 : World) (x : Nat) : OrdSt w0 (w0.alloc (.cells #[.int .i64 (x : Nat)] 3)) (.slice (some ⟨w0.heap.size, 0, none⟩) 1 1) [x] :=
  ⟨(Below.refl _ _).alloc (Nat.le_refl _) _, ⟨rfl, .inr ⟨w0.heap.size, 1, #[.int .i64 (x : Nat)], rfl, Nat.le_refl _, heap_alloc_self _ _, Nat.le_refl _, by unfold maxLen; omega, rfl, rfl⟩⟩⟩
theorem OrdSt.new0 (w0 : World) : OrdSt w0 (w0.alloc (.cells #[] 3)) (.slice (some ⟨w0.heap.size, 0, none⟩) 0 0) [] :=
  ⟨(Below.refl _ _).alloc (Nat.le_refl _) _, ⟨rfl, .inr ⟨w0.heap.size, 0, #[], rfl, Nat.le_refl _, heap_alloc_self _ _, Nat.le_refl _, Nat.zero_le _, rfl, rfl⟩⟩⟩

/-- A row of a table, read. -/
theorem row_read {w0 : World} {A : Option Addr} {rs : List (List Int)} {q : Nat} (h : RowsAt w0 w0.heap.size A rs) (hq : q < rs.length) :
    ∃ (b o : Nat) (r : List Int) (Ai : Option Addr) (ci : Nat), A = some ⟨b, o, none⟩ ∧ b < w0.heap.size ∧ Hid (r = rs[q]) ∧ Hid (∀ wr, Below w0.heap.size w0 wr → wr.cell? ⟨b, o + q, none⟩ = some (.slice Ai r.length ci)) ∧ r.length ≤ ci ∧ ci ≤ 9223372036854775807 ∧ Hid (IntsAt w0 w0.heap.size Ai r) := by
  obtain ⟨b, o, hA, hlt, hE⟩ := h (by omega)
  obtain ⟨Ai, ci, h1, h2, h3, h4⟩ := hE q hq
  exact ⟨b, o, rs[q], Ai, ci, hA, hlt, hid rfl, hid fun wr hb => (hb.cell (p := ⟨b, o + q, none⟩) (by simpa using hlt)).trans h1, h2, h3, hid h4⟩
end Go.Proofs.YtjhlbeamfngebaaDoor

/- The reference's l5Trim. -/
namespace Go.Proofs.YtjhlbeamfngebaaDoor
open Go.RowKit Go.BigFrame Go.Maps AG

/-- No list. -/
def nilF : Value × List Value := (.slice none 0 0, [])
theorem Fam3.app0 {w w1 : World} {base : Nat} {l1 l2 : List (Value × List Value)} {f : Value × List Value} {v' : Value} {ys' : List Value} (h : Fam3 w base (l1 ++ f :: l2)) (hg : w.grownBy w1 f.1.ownBlock)
    (ho : w1.ownsRow base 3 1 v' ys'.length ys') (hat : v'.ownBlock = f.1.ownBlock ∨ v'.ownBlock = some w.heap.size) : Fam3 w1 base (l1 ++ (v', ys') :: l2) := by
  obtain ⟨h2, h3⟩ := h
  rw [List.pairwise_append, List.pairwise_cons] at h3
  have hkA : KeepB (fun b => f.1.ownBlock = some b) w w1 := (KeepB.refl _ w).grown hg fun k hk _ => hk
  have hlt : ∀ y ∈ l1 ++ f :: l2, ∀ g, y.1.ownBlock = some g → g < w.heap.size := fun y hy g e => ((h2 y hy).lt g e).2
  refine ⟨fun y hy => ?_, ?_⟩
  · rw [List.mem_append, List.mem_cons] at hy
    rcases hy with hy | rfl | hy
    · exact own_keep (h2 y (by simp [hy])) hkA fun g hg e => h3.2.2 y hy f List.mem_cons_self g hg e
    · exact ho
    · exact own_keep (h2 y (by simp [hy])) hkA fun g hg e => h3.2.1.1 y hy g e hg
  · rw [List.pairwise_append, List.pairwise_cons]
    refine ⟨h3.1, ⟨fun y hy k e e' => ?_, h3.2.1.2⟩, fun a ha b hb k e e' => ?_⟩
    · have := hlt y (by simp [hy]) k e'
      rcases hat with h | h
      · exact h3.2.1.1 y hy k (by rw [← h]; exact e) e'
      · rw [h] at e; injection e with e; omega
    · have := hlt a (by simp [ha]) k e
      rcases List.mem_cons.1 hb with rfl | hb
      · rcases hat with h | h
        · exact h3.2.2 a ha f List.mem_cons_self k e (by rw [← h]; exact e')
        · rw [h] at e'; injection e' with e'; omega
      · exact h3.2.2 a ha b (List.mem_cons_of_mem _ hb) k e e'
theorem L6.app0 {w2 wr w1 : World} {gO : Nat} {al : Int} {vR vA : Value} {xs : List RowV} {acs : List Bool} {l1 l2 : List (Value × List Value)} {f : Value × List Value} {v' : Value} {ys' : List Value} (h : L6 w2 wr gO al vR xs vA acs (l1 ++ f :: l2)) (hg : wr.grownBy w1 f.1.ownBlock)
    (ho : w1.ownsRow w2.heap.size 3 1 v' ys'.length ys') (hat : v'.ownBlock = f.1.ownBlock ∨ v'.ownBlock = some wr.heap.size) : L6 w2 w1 gO al vR xs vA acs (l1 ++ (v', ys') :: l2) := by
  have hf := h.fam.rows f (by simp)
  have hkA : KeepB (fun b => f.1.ownBlock = some b) wr w1 := (KeepB.refl _ wr).grown hg fun k hk _ => hk
  exact ⟨hkA.below h.below h.below.size fun b e => own_block hf b e, h.ge, h.fam.app0 hg ho hat, own_keep h.tab hkA fun g hg e => own_ne_own h.tab hf (by decide) g g hg e rfl, own_keep h.acc hkA fun g hg e => own_ne_own h.acc hf (by decide) g g hg e rfl, h.blk.keep hkA fun e => own_ne hf h.blk (by decide) _ e rfl⟩
theorem L6.start (w1 : World) (al : Int) : L6 w1 (w1.alloc (.cells #[.int .i64 al, .slice none 0 0, .slice none 0 0] 26)) w1.heap.size al (.slice none 0 0) [] (.slice none 0 0) [] (nilF :: famOf []) := by
  refine ⟨(Below.refl _ _).alloc (Nat.le_refl _) _, Nat.le_refl _, ⟨fun f hf => ?_, ?_⟩, World.ownsRow_nil _ _ _ _, World.ownsRow_nil _ _ _ _, Blk.new _ _ _⟩
  · change f ∈ [nilF] at hf
    rw [List.mem_singleton] at hf
    subst hf
    exact World.ownsRow_nil _ _ _ _
  · exact List.pairwise_singleton _ _


end Go.Proofs.YtjhlbeamfngebaaDoor

/- The reference's l5Same. -/
namespace Go.Proofs.YtjhlbeamfngebaaDoor
open Go.RowKit Go.BigFrame Go.Maps AG

/-- What is known of an automaton's rows. -/
structure RowP (a : Au) (nx : Nat → Nat → Nat) (L : List Nat) : Prop where
  row : ∀ q (h : q < a.nx.length), (a.nx[q]).length = L.length
  at_ : ∀ q (h : q < a.nx.length) k (hk : k < L.length) (hk' : k < (a.nx[q]).length), (a.nx[q])[k] = ((nx q L[k] : Nat) : Int)
  go : ∀ q, q < a.nx.length → ∀ l, nx q l < a.nx.length
  six : L.length ≤ 6
  sig : ∀ (c : List Nat) p q, p < a.nx.length → q < a.nx.length → (sigA a c p = sigA a c q ↔ c.getD p 0 = c.getD q 0 ∧ ∀ l ∈ L, c.getD (nx p l) 0 = c.getD (nx q l) 0)
  sigF : ∀ (c : List Nat) q, q < a.nx.length → sigA a c q = c.getD q 0 :: L.map fun l => c.getD (nx q l) 0
theorem rowP {a : Au} (hok : auOk a = true) : RowP a (goA a) (letters a.al) :=
  ⟨fun q h => (row_at hok h).2.1, fun q h k hk hk' => (goA_at hok h hk hk').symm, fun q h l => goA_lt hok h, letters_len6 _, fun c p q hp hq => sigA_eq hok c hp hq, fun c q hq => by
    obtain ⟨e1, e2, -⟩ := row_at hok hq
    unfold sigA
    rw [e1]
    congr 1
    refine List.ext_getElem (by simp [e2]) fun k h1 h2 => ?_
    rw [List.getElem_map, List.getElem_map]
    have hk : k < (letters a.al).length := by simpa using h2
    have hk' : k < (a.nx[q]).length := by rw [e2]; exact hk
    rw [← goA_at hok hq hk hk']
    rfl⟩
theorem getD_at {c : List Nat} {i : Nat} (h : i < c.length) : c.getD i 0 = c[i] := by
  rw [List.getD_eq_getElem?_getD, List.getElem?_eq_getElem h]
  rfl


end Go.Proofs.YtjhlbeamfngebaaDoor

/- The reference's l5Refine. -/
namespace Go.Proofs.YtjhlbeamfngebaaDoor
open Go.RowKit Go.BigFrame Go.Maps AG

def idxL {α : Type} [DecidableEq α] (l : List α) (x : α) : Nat := l.idxOf x
theorem idxL_lt {α : Type} [DecidableEq α] {l : List α} {x : α} (h : x ∈ l) : idxL l x < l.length := List.idxOf_lt_length_iff.2 h
theorem numb_snocL {α : Type} [DecidableEq α] (ks : List α) (k : α) : numb (ks ++ [k]) = numb ks ++ [if k ∈ ks then idxL (dd ks) k else (dd ks).length] := numb_snoc ks k
theorem keys_take {a : Au} (c : List Nat) {i : Nat} (hi : i < a.nx.length) : (keysA a c).take (i + 1) = (keysA a c).take i ++ [sigA a c i] := by
  rw [List.take_succ_eq_append_getElem (by rw [keysA_len]; exact hi), keysA_get]
end Go.Proofs.YtjhlbeamfngebaaDoor

/- The reference's l5Minimal. -/
namespace Go.Proofs.YtjhlbeamfngebaaDoor
open Go.RowKit Go.BigFrame Go.Maps AG

def MinsTo (a : Au) (w : World) (e : Ending) (w' : World) : Prop :=
  Below w.heap.size w w' ∧ ∃ v1 v2 xs, e = .returned (.agg #[.int .i64 a.al, v1, v2]) ∧ AuOwn w' w.heap.size v1 v2 (minA a) xs
/-- What is known of the classes of an automaton. -/
structure QuoP (x : Au) (nx : Nat → Nat → Nat) (L : List Nat) : Prop where
  len : (clsA x).length = x.nx.length
  rep : ∀ j, j < clsC x → j ∈ clsA x ∧ (clsA x).idxOf j = repA x j ∧ repA x j < x.nx.length
  row : ∀ j, j < clsC x → quotRow x j = (L.map fun l => cA x (nx (repA x j) l)).map fun (n : Nat) => (n : Int)
  cls : ∀ t (h : t < (clsA x).length), (clsA x)[t] = cA x t
  le : clsC x ≤ x.nx.length
theorem quoP {x : Au} (hok : auOk x = true) : QuoP x (goA x) (letters x.al) := by
  refine ⟨clsA_len x, fun j hj => ⟨numb_hits _ hj, rfl, (repA_lt hj).1⟩, fun j hj => ?_, fun t h => clsA_get x h, clsC_le x⟩
  have hq := (repA_lt hj).1
  obtain ⟨e1, e2, e3⟩ := row_at hok hq
  unfold quotRow
  rw [e1]
  refine List.ext_getElem (by simp [e2]) fun k h1 h2 => ?_
  rw [List.getElem_map, List.getElem_map, List.getElem_map]
  have hk : k < (letters x.al).length := by simpa using h2
  have hk' : k < (x.nx[repA x j]).length := by rw [e2]; exact hk
  rw [← goA_at hok hq hk hk']
  rfl


end Go.Proofs.YtjhlbeamfngebaaDoor

/- The reference's MinimizeAutomaton and IsMinimal. -/
namespace Go.Proofs.YtjhlbeamfngebaaDoor
open Go.RowKit Go.BigFrame Go.Maps AG

noncomputable def minX (a : Au) : Au := if auOk a = true then minA a else auNil
end Go.Proofs.YtjhlbeamfngebaaDoor

/- The library's strconv.Itoa at small numbers. -/
namespace Go.Proofs.YtjhlbeamfngebaaDoor
open Go.RowKit Go.BigFrame AG

theorem ba_of (x : ByteArray) (l : List UInt8) (h : x.data.toList = l) : x = baOf l := by
  subst h
  cases x
  simp [baOf]
theorem decL_dec {i : Nat} (h : i < 100) : Lib.decDigits i = decL i := by
  unfold decL
  by_cases h10 : i < 10
  · rw [if_pos h10, Lib.decDigits_one h10]
  · rw [if_neg h10, Lib.decDigits_two h10 h]

set_option maxHeartbeats 2000000 in
set_option maxRecDepth 100000 in
theorem small_any (i : Nat) (h : i < 100) (w : World) :
    Calls Tryd.prog 200 #[.int .i64 (i : Nat)] w fun e w' => e = .returned (.string (baOf (decL i))) ∧ w = w' := by
  have hd := hid (decL_dec h)
  go_enter Tryd.func200, Tryd.ntmps200
  go_name_bytes_deep 45 SM hSM
  have eSM : SM = Lib.smalls := by rw [← hSM]; decide +kernel
  subst eSM
  clear hSM
  go_name_bytes_deep 30 DG hDG
  have eDG : DG = Lib.digits36 := by rw [← hDG]; decide +kernel
  subst eDG
  clear hDG
  by_cases h10 : i < 10
  · have hsl : ∀ w, (Instr.slice 9 (.string Lib.digits36) (some (.int .i64 (i : Int))) (some (.int .i64 ((i : Int) + 1))) none).run Tryd.prog w = .ok (.string (Lib.digits36.extract i (i + 1))) w := fun w => by
      rw [run_slice_string w 9 Lib.digits36 .i64 .i64 _ _ Tryd.underlying9 (by omega) (by omega) (by rw [Lib.digits36_size]; omega), show ((i : Int)).toNat = i by omega, show ((i : Int) + 1).toNat = i + 1 by omega]
    go_wp2
    go_ret
    refine ⟨?_, by first | rfl | trivial⟩
    show Ending.returned (Value.string (Lib.digits36.extract i (i + 1))) = _
    rw [ba_of (Lib.digits36.extract i (i + 1)) (decL i) (by rw [Lib.extract_data, ← hd.out]; exact Lib.digits36_piece h10)]
  · have hsl : ∀ w, (Instr.slice 9 (.string Lib.smalls) (some (.int .i64 ((i : Int) * 2))) (some (.int .i64 ((i : Int) * 2 + 2))) none).run Tryd.prog w = .ok (.string (Lib.smalls.extract (i * 2) (i * 2 + 2))) w := fun w => by
      rw [run_slice_string w 9 Lib.smalls .i64 .i64 _ _ Tryd.underlying9 (by omega) (by omega) (by rw [Lib.smalls_size]; omega), show ((i : Int) * 2).toNat = i * 2 by omega, show ((i : Int) * 2 + 2).toNat = i * 2 + 2 by omega]
    go_wp2
    go_ret
    refine ⟨?_, by first | rfl | trivial⟩
    show Ending.returned (Value.string (Lib.smalls.extract (i * 2) (i * 2 + 2))) = _
    rw [ba_of (Lib.smalls.extract (i * 2) (i * 2 + 2)) (decL i) (by rw [Lib.extract_data, ← hd.out]; exact Lib.smalls_piece h10 h)]

set_option maxHeartbeats 2000000 in
set_option maxRecDepth 100000 in
theorem formatInt_any (i : Nat) (h : i < 100) (w : World) :
    Calls Tryd.prog 197 #[.int .i64 (i : Nat), .int .i64 10] w fun e w' => e = .returned (.string (baOf (decL i))) ∧ w = w' := by
  have k1 : (0 : Int) ≤ (i : Int) := by omega
  have k2 : (i : Int) < 100 := by omega
  go_enter Tryd.func197, Tryd.ntmps197
  go_wp2_with fail
  refine (small_any i h w).mono ?_
  rintro e w' ⟨rfl, rfl⟩
  go_wp2_with fail
  go_ret
  exact ⟨rfl, by first | rfl | trivial⟩
set_option maxHeartbeats 2000000 in
set_option maxRecDepth 100000 in
theorem itoaIn_any (i : Nat) (h : i < 100) (w : World) :
    Calls Tryd.prog 190 #[.int .i64 (i : Nat)] w fun e w' => e = .returned (.string (baOf (decL i))) ∧ w = w' := by
  go_enter Tryd.func190, Tryd.ntmps190
  go_wp2_with fail
  refine (formatInt_any i h w).mono ?_
  rintro e w' ⟨rfl, rfl⟩
  go_wp2_with fail
  go_ret
  exact ⟨rfl, by first | rfl | trivial⟩
set_option maxHeartbeats 2000000 in
set_option maxRecDepth 100000 in
theorem itoa_any (i : Nat) (h : i < 100) (w : World) :
    Calls Tryd.prog 166 #[.int .i64 (i : Nat)] w fun e w' => e = .returned (.string (baOf (decL i))) ∧ w = w' := by
  go_enter Tryd.func166, Tryd.ntmps166
  go_wp2_with fail
  refine (itoaIn_any i h w).mono ?_
  rintro e w' ⟨rfl, rfl⟩
  go_wp2_with fail
  go_ret
  exact ⟨rfl, by first | rfl | trivial⟩

end Go.Proofs.YtjhlbeamfngebaaDoor

/- The program's classesOf. -/
namespace Go.Proofs.YtjhlbeamfngebaaDoor
open Go.RowKit Go.BigFrame Go.Maps AG

theorem idxL_new {α : Type} [DecidableEq α] {l : List α} {x : α} (h : x ∉ l) : idxL (l ++ [x]) x = l.length := by
  unfold idxL
  rw [List.idxOf_append, if_neg h]
  simp
theorem idxL_old {α : Type} [DecidableEq α] {l m : List α} {x : α} (h : x ∈ l) : idxL (l ++ m) x = idxL l x := idx_pre h
theorem keyS_ne {x y : List UInt8} (h : x ≠ y) : Lit.string x ≠ Lit.string y := fun e => by
  injection e with e
  exact h e
/-- A map that has the numbers of the keys. -/
structure MapIxS (D : DataW Unit) (ks : List (List UInt8)) : Prop where
  isMap : Maps.IsMap D
  tidy : Maps.Tidy D
  has : ∀ x, Maps.has D (.string x) = decide (x ∈ ks)
  at_ : ∀ x ∈ ks, D.atKey (.string x) (.lit (.int .i64 0)) = .lit (.int .i64 ((idxL ks x : Nat) : Int))
  size : Maps.size D = ks.length
theorem MapIxS.empty : MapIxS (.map []) [] := ⟨Maps.isMap_empty, Maps.tidy_empty, fun T => by simp; rfl, fun T h => (by cases h), rfl⟩
theorem MapIxS.put {D : DataW Unit} {ks : List (List UInt8)} (h : MapIxS D ks) {k : List UInt8} (hk : k ∉ ks) : MapIxS (D.put (.string k) (.lit (.int .i64 ((ks.length : Nat) : Int)))) (ks ++ [k]) := by
  have hlit : WideAt.IsKeyLit (Lit.string k) := trivial
  refine ⟨h.isMap.put _ _, h.tidy.put hlit _, fun x => ?_, fun x hx => ?_, ?_⟩
  · by_cases e : x = k
    · subst e
      rw [Maps.has_put_same h.isMap hlit]
      simp
    · rw [Maps.has_put_other (keyS_ne e), h.has x]
      simp [e]
  · by_cases e : x = k
    · subst e
      rw [Maps.atKey_put_same h.isMap hlit, idxL_new hk]
    · have hx' : x ∈ ks := by
        rcases List.mem_append.1 hx with h | h
        · exact h
        · exact absurd (List.mem_singleton.1 h) e
      rw [Maps.atKey_put_other (keyS_ne e), h.at_ x hx', idxL_old hx']
  · rw [Maps.size_put h.tidy, h.has k, decide_eq_false hk, h.size]
    simp

/-- The keys as texts. -/
def keysT (a : Au) (c : List Nat) (q : Nat) : List (List UInt8) := ((keysA a c).take q).map keyL
theorem keysT_succ {a : Au} (c : List Nat) {q : Nat} (hq : q < a.nx.length) : keysT a c (q + 1) = keysT a c q ++ [keyL (sigA a c q)] := by
  unfold keysT
  rw [keys_take c hq, List.map_append]
  rfl
theorem keysT_len {a : Au} (c : List Nat) {q : Nat} (hq : q ≤ a.nx.length) : (keysT a c q).length = q := by
  unfold keysT
  rw [List.length_map, List.length_take, keysA_len]
  omega
theorem keysT_all {a : Au} {c : List Nat} (h : ∀ x ∈ c, x ≤ 12) : numb (keysT a c a.nx.length) = refA a c ∧ (dd (keysT a c a.nx.length)).length = refC a c := by
  unfold keysT
  rw [List.take_of_length_le (by rw [keysA_len]; exact Nat.le_refl _)]
  exact key_numb h
def nxtF (a : Au) (c : List Nat) (q p : Nat) : Nat := if p < q then (numb (keysT a c q)).getD p 0 else 0
theorem nxtF_old {a : Au} {c : List Nat} {q : Nat} (hq : q < a.nx.length) (p : Nat) (hp : p ≠ q) : nxtF a c (q + 1) p = nxtF a c q p := by
  unfold nxtF
  by_cases h : p < q
  · rw [if_pos h, if_pos (by omega), keysT_succ c hq, numb_snocL]
    rw [List.getD_eq_getElem?_getD, List.getD_eq_getElem?_getD, List.getElem?_append_left (by rw [numb_len, keysT_len c (by omega)]; exact h)]
  · rw [if_neg h, if_neg (by omega)]
theorem nxtF_new {a : Au} {c : List Nat} {q : Nat} (hq : q < a.nx.length) : nxtF a c (q + 1) q = if keyL (sigA a c q) ∈ keysT a c q then idxL (dd (keysT a c q)) (keyL (sigA a c q)) else (dd (keysT a c q)).length := by
  unfold nxtF
  rw [if_pos (by omega), keysT_succ c hq, numb_snocL]
  have hl : (numb (keysT a c q)).length = q := by rw [numb_len, keysT_len c (by omega)]
  rw [List.getD_eq_getElem?_getD, List.getElem?_append_right (by omega), hl]
  simp
theorem nxtF_all {a : Au} {c : List Nat} (h : ∀ x ∈ c, x ≤ 12) {p : Nat} (hp : p < a.nx.length) : nxtF a c a.nx.length p = (refA a c).getD p 0 := by
  unfold nxtF
  rw [if_pos hp, (keysT_all h).1]

theorem map_far {H : Type} {w : World} {P : Program} {k : TypeId} {R : Value → Option (DataW H × List MemPlace)} {b n : Nat} {D : DataW H} (h : w.ownsMap P k R b n D) (p : Addr) (v : Value) (hne : b ≠ p.block) : (w.setCell p v).ownsMap P k R b n D := by
  obtain ⟨es, clock, hb, F, hs, hD⟩ := h
  exact ⟨es, clock, (Below.heap_setCell _ _ _ _ hne).trans hb, F, hs, hD⟩

def ClsPost (a : Au) (w : World) (e : Ending) (w' : World) : Prop :=
  ∃ g, e = .returned (.slice (some ⟨g, 0, none⟩) a.nx.length a.nx.length) ∧ w.heap.size ≤ g ∧ NatsAt w' w'.heap.size (some ⟨g, 0, none⟩) (clsA a) ∧ Below w.heap.size w w'

theorem mapLawS : Keyed Tryd.prog 9 := string_keyed Tryd.underlying9

set_option maxRecDepth 100000 in
set_option maxHeartbeats 8000000 in
theorem classesOf_any (a : Au) (A B : Option Addr) (c d : Nat) (w : World) (hok : auOk a = true) (ha : AuAt w A c B d a) :
    Calls Tryd.prog 114 #[a.val A c B d] w (ClsPost a w) := by
  obtain ⟨-, hn1, hn12, hn3, -⟩ := (auOk_iff a).1 hok
  have hmm := @run_makeMap Tryd.prog
  obtain ⟨i0, hi, hz0', hz1, hz2⟩ := info_parts infoInt
  have hmk := fun W => run_make_rowN (P := Tryd.prog) 72 3 i0 _ Tryd.underlying72 hi hz0' .i64 .i64 a.nx.length a.nx.length (Nat.le_refl _) (by rw [hz2]; omega) (by omega) W
  rw [hz1] at hmk
  clear hz1 hz0' hz2 hi
  obtain ⟨w0, hw0, hz0, hB0, hS⟩ := boxed w #[Value.int IntKind.i64 a.al, Value.slice A a.nx.length c, Value.slice B a.ac.length d] 26
  have ha0 := hid (ha.later hB0)
  have p1 := hS 1 _ rfl _ (Below.refl _ _)
  have hSp := hid (fun w' (hb : Below w0.heap.size w0 w') => And.intro (hS 1 _ rfl w' (hb.mono hz0)) (hS 2 _ rfl w' (hb.mono hz0)))
  obtain ⟨L, nx, hP⟩ : ∃ L nx, Hid (RowP a nx L) := ⟨_, _, hid (rowP hok)⟩
  have hsix := hP.out.six
  have hok' := hid hok
  have hcn : a.nx.length * 1 = a.nx.length := Nat.mul_one _
  rw [hcn] at hmk
  have hzero : Hid (NumsIn (madeCells #[Value.int IntKind.i64 0] a.nx.length) a.nx.length (fun _ => 0)) := hid (by
    refine ⟨by rw [size_madeCells], fun p hp => ?_⟩
    have h1 := toList_madeCells_one (Value.int IntKind.i64 0) a.nx.length
    rw [← Array.getElem?_toList, h1, List.getElem?_replicate, if_pos hp]
    rfl)
  have hacl : a.ac.length = a.nx.length := hn3
  replace hacl := hid hacl
  clear hok hS hn3 hcn
  replace ha := hid ha
  unfold AG.Au.val
  go_enter Tryd.func114, Tryd.ntmps114
  go_upto_region 2 with fail
  obtain ⟨w2, hw2⟩ : ∃ w2, w0.alloc (.cells (madeCells #[Value.int IntKind.i64 0] a.nx.length) 3) = w2 := ⟨_, rfl⟩
  have hblk2 : Blk w2 w0.heap.size 3 (madeCells #[Value.int IntKind.i64 0] a.nx.length) := by rw [← hw2]; exact Blk.new _ _ _
  have hB2' : Below w0.heap.size w0 w2 := by rw [← hw2]; exact (Below.refl _ _).alloc (Nat.le_refl _) _
  rw [hw2]
  clear hw2 p1 hw0
  have hbl2 := hid hblk2
  have hz2 := hblk2.lt
  clear hblk2
  go_wp2_with fail
  go_loopw [21] (fun qv wr => ∃ (q : Nat) (ds : Array Value), qv = .int .i64 (q : Nat) ∧ q ≤ a.nx.length ∧ Blk wr w0.heap.size 3 ds ∧ NumsIn ds a.nx.length (fun p => if p < q then (cls0 a).getD p 0 else 0) ∧ KeepB (fun b => b = w0.heap.size) w2 wr) (fun qv _ => a.nx.length - (intOf qv).toNat)
  case atStart => exact ⟨0, _, rfl, Nat.zero_le _, hbl2.out, hzero.out.congr (fun p => by simp), KeepB.refl _ _⟩
  case round =>
    clear hbl2
    obtain ⟨q, ds, rfl, hq, hdk, hdi, hkp⟩ := hrel
    have hBm : Below w0.heap.size w0 wr := KeepB.below hB2' hkp hB2'.size fun b e => by omega
    have hzm := hBm.size
    by_cases hql : q < a.nx.length
    · obtain ⟨p1, p2⟩ := hSp.out wr hBm
      obtain ⟨bB, oB, hBe, hbB, hEB⟩ := (ha0.out.acc.later hBm) (by have := hacl.out; omega)
      subst hBe
      have hqa : q < a.ac.length := by have := hacl.out; omega
      have e0 := hEB q hqa
      have hc0 : Hid ((cls0 a).getD q 0 = if a.ac[q] = true then 1 else 0) := hid (by
        have h1 : (cls0 a)[q]? = some (if a.ac.getD q false = true then 1 else 0) := by
          show ((List.range a.nx.length).map fun q => if a.ac.getD q false = true then 1 else 0)[q]? = _
          simp [hql]
        rw [List.getD_eq_getElem?_getD, h1, List.getD_eq_getElem?_getD, List.getElem?_eq_getElem hqa]
        rfl)
      obtain ⟨t, ht⟩ : ∃ t, t = a.ac[q] := ⟨_, rfl⟩
      rw [← ht] at e0 hc0
      have k1 : (0 : Int) ≤ (q : Int) ∧ (q : Int) < (a.ac.length : Int) ∧ (q : Int) < (a.nx.length : Int) := by omega
      have hdk' := hid hdk
      have hdi' := hid hdi
      have hkp' := hid hkp
      replace hEB := hid hEB
      obtain ⟨v0, d0⟩ := hdk.some_ (i := q) (by rw [hdi.size]; exact hql)
      have z0 := hdk.frozen q
      clear ht hdk hdi hkp
      cases t
      · have hnx : Hid (NumsIn ds a.nx.length (fun p => if p < q + 1 then (cls0 a).getD p 0 else 0)) := hid (hdi'.out.congr fun p => by
          by_cases e : p = q
          · subst e
            rw [if_neg (by omega), if_pos (by omega), hc0.out]
            rfl
          · by_cases h : p < q
            · rw [if_pos h, if_pos (by omega)]
            · rw [if_neg h, if_neg (by omega)])
        clear d0 z0
        go_wp2_with fail
        go_roundw
        case rel => exact ⟨q + 1, ds, by go_num, by omega, hdk'.out, hnx.out, hkp'.out⟩
        case measure => simp [intOf]; omega
      · have hnx : Hid (NumsIn (ds.setIfInBounds q (.int .i64 1)) a.nx.length (fun p => if p < q + 1 then (cls0 a).getD p 0 else 0)) := hid (hdi'.out.set_ hql (by rw [if_pos (by omega), hc0.out]; rfl) fun p hp => by
          by_cases h : p < q
          · rw [if_pos h, if_pos (by omega)]
          · rw [if_neg h, if_neg (by omega)])
        have hbk2 := hid (hdk'.out.set_ q (.int .i64 1))
        have hkp2 := hid (hkp'.out.setCell ⟨w0.heap.size, q, none⟩ (.int .i64 1) fun _ => rfl)
        go_wp2_with fail
        go_roundw
        case rel => exact ⟨q + 1, _, by go_num, by omega, hbk2.out, hnx.out, hkp2.out⟩
        case measure => simp [intOf]; omega
    · obtain rfl : q = a.nx.length := by omega
      have hb3 := hBm
      have hC0 : Hid (∃ ds, Blk wr w0.heap.size 3 ds ∧ NumsIn ds a.nx.length (fun p => (clsI a 0).getD p 0)) := hid ⟨ds, hdk, hdi.size, fun p hp => by
        have h1 := hdi.at_ p hp
        rw [if_pos hp] at h1
        exact h1⟩
      replace hdk := hid hdk
      replace hdi := hid hdi
      replace hkp := hid hkp
      go_wp2_with fail
      obtain ⟨w3, rfl⟩ : ∃ w3 : World, w3 = wr := ⟨_, rfl⟩
      go_loopw [3, 5] (fun cv nv wr => ∃ (m g x : Nat) (cs : Array Value), cv = .slice (some ⟨g, 0, none⟩) a.nx.length a.nx.length ∧ nv = .int .i64 (x : Nat) ∧ x = cntI a m ∧ w0.heap.size ≤ g ∧ Blk wr g 3 cs ∧ NumsIn cs a.nx.length (fun p => (clsI a m).getD p 0) ∧ Below w0.heap.size w0 wr) (fun _ nv _ => a.nx.length - (intOf nv).toNat)
      case atStart =>
        obtain ⟨ds, h1, h2⟩ := hC0.out
        exact ⟨0, _, 0, ds, rfl, rfl, rfl, Nat.le_refl _, h1, h2, hb3⟩
      case round =>
        clear hC0
        obtain ⟨m, g, x, cs, rfl, rfl, hx, hg, hblk, hin, hb⟩ := hrel
        obtain ⟨wo, rfl⟩ : ∃ wo : World, wo = wr := ⟨_, rfl⟩
        obtain ⟨C, hC, hCle, hCnx, hCcnt⟩ : ∃ C, Hid (C = clsI a m) ∧ Hid (∀ y ∈ C, y ≤ 12) ∧ Hid (refA a C = clsI a (m + 1)) ∧ Hid (refC a C = cntI a (m + 1)) := ⟨_, hid rfl, hid (clsI_le hok'.out m), hid rfl, hid rfl⟩
        rw [← hC.out] at hin
        have hxn : x ≤ a.nx.length := by rw [hx]; exact cntI_le a m
        have hglt := hblk.lt
        have hzo := hb.size
        go_upto_region 11 with fail
        have hmade := World.ownsMap_made (H := Unit) wo Tryd.prog 9 (plainElem Tryd.prog 3)
        obtain ⟨w4, hw4⟩ : ∃ w4, wo.alloc (.map #[] 0) = w4 := ⟨_, rfl⟩
        have hB4 : Below wo.heap.size wo w4 := by rw [← hw4]; exact (Below.refl _ _).alloc (Nat.le_refl _) _
        have hz4 : w4.heap.size = wo.heap.size + 1 := by rw [← hw4]; simp
        rw [hw4] at hmade ⊢
        obtain ⟨w5, hw5⟩ : ∃ w5, w4.alloc (.cells (madeCells #[Value.int IntKind.i64 0] a.nx.length) 3) = w5 := ⟨_, rfl⟩
        have hmade5 := hmade.alloc (.cells (madeCells #[Value.int IntKind.i64 0] a.nx.length) 3)
        have hblk5 : Blk w5 w4.heap.size 3 (madeCells #[Value.int IntKind.i64 0] a.nx.length) := by rw [← hw5]; exact Blk.new _ _ _
        have hB45 : Below w4.heap.size w4 w5 := by rw [← hw5]; exact (Below.refl _ _).alloc (Nat.le_refl _) _
        have hB5 := hB4.trans (hB45.mono hB4.size)
        rw [hw5] at hmade5 ⊢
        rw [hz4] at hblk5
        have hz5 := hblk5.lt
        have hcls5 := hid (hblk.below hB5 hglt)
        have hbo5 := hb.trans (hB5.mono hzo)
        have hin' := hid hin
        obtain ⟨p1, p2⟩ := hSp.out w5 hbo5
        have hmade5' := hid hmade5
        have hbk5 := hid hblk5
        replace hblk := hid hblk
        replace hx := hid hx
        clear hw4 hw5 hmade hmade5 hblk5 hin hB45
        go_wp2_with fail
        go_loopw [40] (fun qv wr => ∃ (q : Nat) (D : DataW Unit) (ds : Array Value), qv = .int .i64 (q : Nat) ∧ q ≤ a.nx.length ∧ Blk wr (wo.heap.size + 1) 3 ds ∧ NumsIn ds a.nx.length (nxtF a C q) ∧ wr.ownsMap Tryd.prog 9 (plainElem Tryd.prog 3) wo.heap.size q D ∧ MapIxS D (dd (keysT a C q)) ∧ KeepB (fun b => b = wo.heap.size ∨ b = wo.heap.size + 1) w5 wr) (fun qv _ => a.nx.length - (intOf qv).toNat)
        case atStart => exact ⟨0, _, _, rfl, Nat.zero_le _, hbk5.out, hzero.out.congr (fun p => by simp [nxtF]), hmade5'.out, MapIxS.empty, KeepB.refl _ _⟩
        case round =>
          clear hbk5 hmade5' p1 p2
          obtain ⟨q, D, ds, rfl, hq, hdk, hdi, hmap, hix, hkp⟩ := hrel
          obtain ⟨wp, rfl⟩ : ∃ wp : World, wp = wr := ⟨_, rfl⟩
          have hBq : Below wo.heap.size wo wp := KeepB.below hB5 hkp hB5.size fun b e => by omega
          have hBp := hb.trans (hBq.mono hzo)
          have hzp := hBp.size
          have hzop := hBq.size
          have hcq := hid (hcls5.out.keep hkp (by omega))
          by_cases hql : q < a.nx.length
          · obtain ⟨bR, oR, r, Ai, ci, hRe, hbR, hr, hr0, h1, h2, h3⟩ := row_read ha0.out.rows hql
            subst hRe
            have r0 := hr0.out wp hBp
            have hrlen : r.length = L.length := by rw [hr.out]; exact hP.out.row q hql
            have hrk : Hid (∀ k (hk : k < L.length) (hk' : k < r.length), r[k] = ((nx q L[k] : Nat) : Int)) := hid (by
              have h := hP.out.at_ q hql
              rw [← hr.out] at h
              exact h)
            have hcell : Hid (∀ w', Below wp.heap.size wp w' → ∀ t, t < a.nx.length → w'.cell? ⟨g, t, none⟩ = some (.int .i64 (C.getD t 0 : Nat))) := hid fun w' hb' t ht => by
              rw [(hcq.out.below hb' hcq.out.lt).cell t]
              exact hin'.out.at_ t ht
            have c0 := hcell.out wp (Below.refl _ _) q hql
            obtain ⟨cq, hcq0⟩ : ∃ cq, Hid (cq = C.getD q 0) := ⟨_, hid rfl⟩
            rw [← hcq0.out] at c0
            have hcq12 : cq ≤ 12 := by rw [hcq0.out]; exact getD_le hCle.out q
            have hsig : Hid (sigA a C q = cq :: L.map fun l => C.getD (nx q l) 0) := hid (by rw [hP.out.sigF C q hql, hcq0.out])
            have k1 : (0 : Int) ≤ (q : Int) ∧ (q : Int) < (a.nx.length : Int) := by omega
            have hdk' := hid hdk
            have hdi' := hid hdi
            have hmap' := hid hmap
            have hix' := hid hix
            have hkp' := hid hkp
            have hko : Hid (baOf (keyL [cq]) = baOf (decL cq)) := hid (by simp [keyL, keyTl])
            clear hdk hdi hmap hix hkp
            go_wp2_with fail
            refine (itoa_any cq (by omega) wp).mono ?_
            rintro e w6 ⟨rfl, rfl⟩
            rw [← hko.out]
            go_wp2_with fail
            go_loopw [10, 52] (fun sv kv wr => ∃ (k : Nat) (ts : List Nat), sv = .string (baOf (keyL (cq :: ts))) ∧ kv = .int .i64 (k : Nat) ∧ k ≤ L.length ∧ ts = (L.take k).map (fun l => C.getD (nx q l) 0) ∧ Below wp.heap.size wp wr) (fun _ kv _ => L.length - (intOf kv).toNat)
            case atStart => exact ⟨0, [], rfl, rfl, Nat.zero_le _, by simp, Below.refl _ _⟩
            case round =>
              obtain ⟨k, ts, rfl, rfl, hk, hts, hbw⟩ := hrel
              have htl : ts.length = k := by rw [hts, List.length_map, List.length_take]; omega
              have hBw := hBp.trans (hbw.mono hzp)
              by_cases hkl : k < L.length
              · obtain ⟨bi, oi, hie, hbi, hEi⟩ := (h3.out.later hBw) (by omega)
                subst hie
                have e0 := hEi k (by omega)
                rw [hrk.out k hkl (by omega)] at e0
                have hzn := hP.out.go q hql L[k]
                obtain ⟨z, hz'⟩ : ∃ z, Hid (z = nx q L[k]) := ⟨_, hid rfl⟩
                rw [← hz'.out] at e0 hzn
                have e1 := hcell.out wr hbw z hzn
                obtain ⟨u, hu⟩ : ∃ u, Hid (u = C.getD z 0) := ⟨_, hid rfl⟩
                rw [← hu.out] at e1
                have hu12 : u ≤ 12 := by rw [hu.out]; exact getD_le hCle.out z
                have hts2 : Hid (ts ++ [u] = (L.take (k + 1)).map (fun l => C.getD (nx q l) 0)) := hid (by
                  rw [List.take_succ_eq_append_getElem hkl, List.map_append, ← hts, hu.out, hz'.out]
                  rfl)
                have hcat : Hid (baOf (keyL (cq :: ts)) ++ ((⟨#[44]⟩ : ByteArray) ++ baOf (decL u)) = baOf (keyL (cq :: (ts ++ [u])))) := hid (by
                  rw [keyL_snoc, show (⟨#[44]⟩ : ByteArray) = baOf [44] from rfl, baOf_append, baOf_append]
                  rfl)
                obtain ⟨S1, hS1⟩ : ∃ S, Hid (S = baOf (keyL (cq :: ts))) := ⟨_, hid rfl⟩
                obtain ⟨S2, hS2⟩ : ∃ S, Hid (S = baOf (decL u)) := ⟨_, hid rfl⟩
                have hs1 : S1.size ≤ 100 := by
                  rw [hS1.out, baOf_size]
                  have := keyL_len (cq :: ts)
                  rw [List.length_cons] at this
                  omega
                have hs2 : S2.size ≤ 100 := by
                  rw [hS2.out, baOf_size]
                  have := decL_len u
                  omega
                have hs3 : ((⟨#[44]⟩ : ByteArray) ++ S2).size ≤ 101 := by
                  rw [ByteArray.size_append]
                  show 1 + S2.size ≤ 101
                  omega
                rw [← hS1.out, ← hS2.out] at hcat
                rw [← hS1.out]
                have k2 : (0 : Int) ≤ (k : Int) ∧ (k : Int) < (r.length : Int) ∧ (0 : Int) ≤ (z : Int) ∧ (z : Int) < (a.nx.length : Int) := by omega
                have hit := hid (itoa_any u (by omega) wr)
                rw [← hS2.out] at hit
                replace hts := hid hts
                replace htl := hid htl
                replace hEi := hid hEi
                go_wp2_with fail
                refine hit.out.mono ?_
                rintro e w7 ⟨rfl, rfl⟩
                go_wp2_with fail
                go_roundw
                case rel => exact ⟨k + 1, ts ++ [u], by rw [hcat.out], by go_num, by omega, hts2.out, hbw⟩
                case measure => simp [intOf]; omega
              · obtain rfl : k = L.length := by omega
                have hkk0 : cq :: ts = sigA a C q := by
                  rw [hsig.out, hts, List.take_length]
                rw [hkk0]
                obtain ⟨kk, hkk⟩ : ∃ kk, Hid (kk = keyL (sigA a C q)) := ⟨_, hid rfl⟩
                obtain ⟨KS, hKS⟩ : ∃ S, Hid (S = baOf kk) := ⟨_, hid rfl⟩
                rw [← hkk.out, ← hKS.out]
                have hkl100 : kk.length ≤ 100 := by
                  rw [hkk.out, ← hkk0]
                  have := keyL_len (cq :: ts)
                  rw [List.length_cons] at this
                  omega
                have hkey : Hid (keyOf Tryd.prog 9 (.string KS) = some (.string kk)) := hid (by
                  rw [Go.WideMaps.keyOf_string_mk Tryd.underlying9 (by rw [hKS.out, baOf_size]; unfold maxLen; omega), hKS.out, baOf_list])
                have hmw := hid (hmap'.out.kept (grown_of_below hbw) (by simp))
                have hdw := hid (hdk'.out.below hbw hdk'.out.lt)
                have hkw := hid (hkp'.out.trans (.of_below hbw))
                have hsz : Hid (Maps.size D = (dd (keysT a C q)).length) := hid hix'.out.size
                obtain ⟨nn, hnn⟩ : ∃ nn, Hid (nn = (dd (keysT a C q)).length) := ⟨_, hid rfl⟩
                rw [← hnn.out] at hsz
                have hnnl : nn ≤ 12 := by
                  rw [hnn.out]
                  have h1 := dd_len (keysT a C q)
                  rw [keysT_len C hq] at h1
                  omega
                have hsuc := hid (keysT_succ C hql)
                have hold := hid (fun p (hp : p ≠ q) => nxtF_old (c := C) hql p hp)
                have hnew := hid (nxtF_new (c := C) hql)
                rw [← hkk.out] at hsuc hnew
                have hgN : wo.heap.size + 1 < wr.heap.size := by have := hbw.size; have := hdk'.out.lt; omega
                replace hts := hid hts
                replace htl := hid htl
                replace hkk0 := hid hkk0
                by_cases hmem : kk ∈ keysT a C q
                · have hhas : Hid (Maps.has D (.string kk) = true) := hid (by rw [hix'.out.has kk]; exact decide_eq_true ((dd_mem _ _).2 hmem))
                  obtain ⟨v, hv⟩ : ∃ v, Hid (v = idxL (dd (keysT a C q)) kk) := ⟨_, hid rfl⟩
                  have hvl : v < 13 := by
                    have h1 := idxL_lt ((dd_mem _ _).2 hmem)
                    rw [← hv.out, ← hnn.out] at h1
                    omega
                  have hat : Hid (D.atKey (.string kk) (.lit (.int .i64 0)) = .lit (.int .i64 ((v : Nat) : Int))) := hid (by rw [hix'.out.at_ kk ((dd_mem _ _).2 hmem), hv.out])
                  have hnx : Hid (NumsIn (ds.setIfInBounds q (.int .i64 (v : Nat))) a.nx.length (nxtF a C (q + 1))) := hid (hdi'.out.set_ hql (by rw [hnew.out, if_pos hmem, hv.out]) hold.out)
                  have hix2 : Hid (MapIxS D (dd (keysT a C (q + 1)))) := hid (by
                    rw [hsuc.out, dd_snoc, addD_old ((dd_mem _ _).2 hmem)]
                    exact hix'.out)
                  obtain ⟨v0, d0⟩ := hdw.out.some_ (i := q) (by rw [hdi'.out.size]; exact hql)
                  have z0 := hdw.out.frozen q
                  have hbk2 := hid (hdw.out.set_ q (.int .i64 (v : Nat)))
                  have hmp2 := hid ((map_far hmw.out ⟨wo.heap.size + 1, q, none⟩ (.int .i64 (v : Nat)) (by simp)).mono (Nat.le_succ q))
                  have hkp2 := hid (hkw.out.setCell ⟨wo.heap.size + 1, q, none⟩ (.int .i64 (v : Nat)) fun _ => .inr rfl)
                  replace hmem := hid hmem
                  go_wp2_with (at_lookup; refine wpList_lookup_own_ok_int _ rfl _ _ 174 rfl 9 3 .i64 mapLawS Tryd.underlying174 Tryd.underlying3 (zeroInt _) wo.heap.size q D rfl hmw.out _ _ rfl hkey.out ?_; intro c' hat' hwc'; obtain rfl : c' = (v : Int) := (by have e := hat'.symm.trans hat.out; injection e with e; injection e); rw [hhas.out])
                  go_roundw
                  case rel => exact ⟨q + 1, D, _, by go_num, by omega, hbk2.out, hnx.out, hmp2.out, hix2.out, hkp2.out⟩
                  case measure => simp [intOf]; omega
                · have hnd : kk ∉ dd (keysT a C q) := fun h => hmem ((dd_mem _ _).1 h)
                  have hhas : Hid (Maps.has D (.string kk) = false) := hid (by rw [hix'.out.has kk]; exact decide_eq_false hnd)
                  have hnx : Hid (NumsIn (ds.setIfInBounds q (.int .i64 (nn : Nat))) a.nx.length (nxtF a C (q + 1))) := hid (hdi'.out.set_ hql (by rw [hnew.out, if_neg hmem, hnn.out]) hold.out)
                  have hix2 : Hid (MapIxS (D.put (.string kk) (.lit (.int .i64 ((nn : Nat) : Int)))) (dd (keysT a C (q + 1)))) := hid (by
                    rw [hsuc.out, dd_snoc, addD_new hnd, hnn.out]
                    exact hix'.out.put hnd)
                  have hpl : plainElem (H := Unit) Tryd.prog 3 (.int .i64 (nn : Nat)) = some (.lit (.int .i64 ((nn : Nat) : Int)), []) := plainElem_int Tryd.underlying3 (wf64 (by omega) (by omega))
                  replace hmem := hid hmem
                  replace hnd := hid hnd
                  go_wp2_with (first
                    | (at_lookup; refine wpList_lookup_own_ok_int _ rfl _ _ 174 rfl 9 3 .i64 mapLawS Tryd.underlying174 Tryd.underlying3 (zeroInt _) wo.heap.size q D rfl hmw.out _ _ rfl hkey.out ?_; intro c' hat' hwc'; rw [hhas.out])
                    | (at_len; refine wpList_len_own _ rfl _ 174 rfl 9 3 Tryd.underlying174 _ wo.heap.size q D rfl hmw.out ?_; rw [hsz.out])
                    | (at_mapUpdate; refine wpList_mapUpdate_own _ rfl _ _ _ 174 rfl 9 3 mapLawS Tryd.underlying174 _ wo.heap.size q D rfl hmw.out (by unfold maxLen; omega) _ _ _ rfl rfl hkey.out _ [] hpl ?_; intro w9 hown9 hgrow9; have hk9 : KeepB (fun b => b = wo.heap.size) wr w9 := (KeepB.refl _ wr).grown hgrow9 (fun k hk _ => by injection hk with hk; exact hk.symm); have hb9 : Blk w9 (wo.heap.size + 1) 3 ds := hdw.out.keep hk9 (by omega); obtain ⟨v0, d0⟩ := hb9.some_ (i := q) (by rw [hdi'.out.size]; exact hql); have z0 := hb9.frozen q; have hbk2 := hid (hb9.set_ q (.int .i64 (nn : Nat))); have hmp2 := hid (map_far hown9 ⟨wo.heap.size + 1, q, none⟩ (.int .i64 (nn : Nat)) (by simp)); have hkp2 := hid ((hkw.out.trans (hk9.mono fun b h => .inl h)).setCell ⟨wo.heap.size + 1, q, none⟩ (.int .i64 (nn : Nat)) fun _ => .inr rfl); replace hb9 := hid hb9; clear hown9 hgrow9 hk9))
                  go_roundw
                  case rel => exact ⟨q + 1, _, _, by go_num, by omega, hbk2.out, hnx.out, hmp2.out, hix2.out, hkp2.out⟩
                  case measure => simp [intOf]; omega
          · obtain rfl : q = a.nx.length := by omega
            obtain ⟨y, hy⟩ : ∃ y, Hid (y = cntI a (m + 1)) := ⟨_, hid rfl⟩
            have hall := hid (keysT_all (a := a) hCle.out)
            have hsz : Hid (Maps.size D = y) := hid (by rw [hix.size, hall.out.2, hCcnt.out, hy.out])
            have hyl : y ≤ a.nx.length := by rw [hy.out]; exact cntI_le a _
            have hxy : x ≤ y := by rw [hx.out, hy.out]; exact cntI_mono a m
            have hnin : Hid (NumsIn ds a.nx.length (fun p => (clsI a (m + 1)).getD p 0)) := hid ⟨hdi.size, fun p hp => by
              rw [hdi.at_ p hp, nxtF_all hCle.out hp, hCnx.out]⟩
            have hmw := hid hmap
            have hdw := hid hdk
            have hB := hB0.trans (hBp.mono hB0.size)
            replace hkp := hid hkp
            clear hdk hdi hmap hix
            by_cases hxe : y = x
            · have hq1 : ((y : Int) == (x : Int)) = true := by simp; omega
              have hm : m ≠ 0 := by
                rintro rfl
                have h0 : cntI a 0 = 0 := rfl
                have h1 := cntI_one hok'.out
                have h2 := hx.out
                have h3 := hy.out
                rw [h0] at h2
                rw [Nat.zero_add] at h3
                omega
              obtain ⟨m', hm'⟩ : ∃ m', m = m' + 1 := ⟨m - 1, by omega⟩
              have hstop := hid (cls_stop hok'.out (i := m') (by
                have h2 := hx.out
                have h3 := hy.out
                rw [hm'] at h2 h3
                rw [show m' + 2 = m' + 1 + 1 from rfl, ← h3, ← h2]
                omega))
              have hfin : Hid (NatsAt wp wp.heap.size (some ⟨wo.heap.size + 1, 0, none⟩) (clsA a)) := hid (fun hl => ⟨wo.heap.size + 1, 0, rfl, hdw.out.lt, fun i hi => by
                have hil : i < a.nx.length := by rw [clsA_len] at hi; exact hi
                rw [Nat.zero_add, hdw.out.cell i, hnin.out.at_ i hil]
                rw [hm', show m' + 1 + 1 = m' + 2 from rfl, hstop.out.1, getD_at hi]⟩)
              replace hxe := hid hxe
              replace hm' := hid hm'
              go_wp2_with (at_len; refine wpList_len_own _ rfl _ 174 rfl 9 3 Tryd.underlying174 _ wo.heap.size a.nx.length D rfl hmw.out ?_; rw [hsz.out])
              go_ret
              exact ⟨_, rfl, by omega, hfin.out, hB⟩
            · have hq1 : ((y : Int) == (x : Int)) = false := by simp; omega
              go_wp2_with (at_len; refine wpList_len_own _ rfl _ 174 rfl 9 3 Tryd.underlying174 _ wo.heap.size a.nx.length D rfl hmw.out ?_; rw [hsz.out])
              go_roundw
              case rel => exact ⟨m + 1, wo.heap.size + 1, y, ds, rfl, rfl, hy.out, by omega, hdw.out, hnin.out, hBp⟩
              case measure => simp [intOf]; omega

end Go.Proofs.YtjhlbeamfngebaaDoor

/- The program's minimize, MinimizeAutomaton, IsMinimal. -/
namespace Go.Proofs.YtjhlbeamfngebaaDoor
open Go.RowKit Go.BigFrame Go.Maps AG

set_option maxRecDepth 100000 in
set_option maxHeartbeats 4000000 in
theorem minimize_any (a : Au) (A B : Option Addr) (c d : Nat) (w : World) (hok : auOk a = true) (ha : AuAt w A c B d a) :
    Calls Tryd.prog 51 #[a.val A c B d] w (MinsTo a w) := by
  obtain ⟨-, hn1, hn12, hn3, -⟩ := (auOk_iff a).1 hok
  obtain ⟨i0, hi, hz0, hz1, hz2⟩ := info_parts infoInt
  obtain ⟨j0, hj0, hy0, hy1, hy2⟩ := info_parts infoInts
  obtain ⟨b0, hbi, hb0, hb1', hb2'⟩ := info_parts infoBool
  obtain ⟨w0, hw0, hzz0, hB0, hS, -⟩ := boxed2 w #[Value.int IntKind.i64 a.al, Value.slice A a.nx.length c, Value.slice B a.ac.length d] 26 #[Value.int IntKind.i64 0, Value.slice none 0 0, Value.slice none 0 0] 26
  have hres : Blk w0 (w.heap.size + 1) 26 #[Value.int IntKind.i64 0, Value.slice none 0 0, Value.slice none 0 0] := by
    rw [← hw0]
    have := Blk.new (w.alloc (.cells #[Value.int IntKind.i64 a.al, Value.slice A a.nx.length c, Value.slice B a.ac.length d] 26)) 26 #[Value.int IntKind.i64 0, Value.slice none 0 0, Value.slice none 0 0]
    simpa using this
  have ha0 := hid (ha.later hB0)
  have p0 := hS 0 _ rfl _ (Below.refl _ _)
  have p1 := hS 1 _ rfl _ (Below.refl _ _)
  have p2 := hS 2 _ rfl _ (Below.refl _ _)
  have hcls := hid (classesOf_any a A B c d w0 hok ha0.out)
  obtain ⟨L, nx, hP, hQ⟩ : ∃ L nx, Hid (RowP a nx L) ∧ Hid (QuoP a nx L) := ⟨_, _, hid (rowP hok), hid (quoP hok)⟩
  have hqok := hid (quotA_ok hok)
  obtain ⟨tx, htx⟩ := trimOpt_some hqok.out
  replace htx := hid htx
  have hn3' := hid hn3
  have hclt : Hid (∀ t, t < a.nx.length → cA a t < clsC a) := hid fun t h => cA_lt h
  clear hok hn3
  replace ha := hid ha
  replace hres := hid hres
  unfold AG.Au.val
  unfold AG.Au.val at hcls
  go_enter Tryd.func51, Tryd.ntmps51
  go_wp2_with fail
  refine hcls.out.mono ?_
  rintro e w1 ⟨g, rfl, hg0, hNC, hb1⟩
  have hB1 := hB0.trans (hb1.mono hB0.size)
  have hz01 := hb1.size
  have hU1 := hid (fun w' (hb : Below w1.heap.size w1 w') => And.intro (hS 1 _ rfl w' ((hb1.trans (hb.mono hz01)).mono hzz0)) (hS 2 _ rfl w' ((hb1.trans (hb.mono hz01)).mono hzz0)))
  have q0 := hS 0 _ rfl w1 (hb1.mono hzz0)
  have ha1 := hid (ha0.out.later hb1)
  have hres1 := hid (hres.out.below hb1 hres.out.lt)
  have hst0 := hid (L6.start w1 a.al)
  obtain ⟨bO, oO, hAe, hgl, hEO⟩ := hNC (by rw [hQ.out.len]; omega)
  injection hAe with e1
  injection e1 with e1 e2
  subst e1
  subst e2
  have hcell : Hid (∀ w', Below w1.heap.size w1 w' → ∀ t, t < a.nx.length → w'.cell? ⟨g, t, none⟩ = some (.int .i64 (cA a t : Nat))) := hid fun w' hb t ht => by
    have h1 := hEO t (by rw [hQ.out.len]; exact ht)
    rw [Nat.zero_add, hQ.out.cls t (by rw [hQ.out.len]; exact ht)] at h1
    exact (hb.cell (p := ⟨g, t, none⟩) (by simpa using hgl)).trans h1
  clear p0 p1 p2 hcls hNC hEO hw0 hS
  go_wp2_with fail
  go_loopw [17] (fun qv wr => ∃ (q m : Nat) (vR vA : Value) (xs : List RowV), qv = .int .i64 (q : Nat) ∧ q ≤ a.nx.length ∧ m = clsTo a q ∧ m ≤ q ∧ L6 w1 wr w1.heap.size a.al vR xs vA ((List.range m).map fun j => a.ac.getD (repA a j) false) (nilF :: famOf xs) ∧ xs.map (·.r) = (List.range m).map (quotRow a)) (fun qv _ => a.nx.length - (intOf qv).toNat)
  case atStart => exact ⟨0, 0, _, _, [], rfl, Nat.zero_le _, (clsTo_zero a).symm, Nat.zero_le _, hst0.out, rfl⟩
  case round =>
    clear hst0 q0
    obtain ⟨q, m, vR, vA, xs, rfl, hq, hm, hmq, hst, hxs⟩ := hrel
    have hxl : xs.length = m := by
      have := congrArg List.length hxs
      rw [List.length_map, List.length_map, List.length_range] at this
      omega
    obtain ⟨AR, cR, rfl, -, -⟩ := own_slice hst.tab
    obtain ⟨AA, cA', rfl, -, -⟩ := own_slice hst.acc
    have hxl4 : xs.length ≤ 12 := by omega
    replace hxs := hid hxs
    obtain ⟨acs, hacs⟩ : ∃ acs, Hid (acs = (List.range m).map fun j => a.ac.getD (repA a j) false) := ⟨_, hid rfl⟩
    rw [← hacs.out] at hst
    have hal2 : acs.length ≤ 12 := by rw [hacs.out, List.length_map, List.length_range]; omega
    have hBm := hst.below
    have hszm := hBm.size
    by_cases hql : q < a.nx.length
    · have hstep := clsTo_step hql
      rw [← hm] at hstep
      have c0 := hcell.out wr hBm q hql
      obtain ⟨cq, hcq⟩ : ∃ cq, Hid (cq = cA a q) := ⟨_, hid rfl⟩
      rw [← hcq.out] at c0 hstep
      have d1 := hst.blk.cell 1
      simp only [List.getElem?_toArray, List.getElem?_cons_zero, List.getElem?_cons_succ] at d1
      have k1 : (0 : Int) ≤ (q : Int) ∧ (q : Int) < (a.nx.length : Int) := by omega
      have hm' := hid hm
      rcases hstep with ⟨hlt, hto⟩ | ⟨heq, hto, hrep⟩
      · have hl1 : ((cq : Int) < (xs.length : Int)) := by omega
        have hst' := hid hst
        replace hto := hid hto
        replace hm := hid hm
        replace hxl := hid hxl
        clear hst
        go_wp2_with fail
        go_roundw
        case rel => exact ⟨q + 1, m, _, _, xs, by go_num, by omega, by rw [hto.out], by omega, by have := hst'.out; rw [hacs.out] at this; exact this, hxs.out⟩
        case measure => simp [intOf]; omega
      · have hl1 : ¬ ((cq : Int) < (xs.length : Int)) := by omega
        have hqa : q < a.ac.length := by have := hn3'.out; omega
        have hmc : m < clsC a := by rw [← heq, hcq.out]; exact hclt.out q hql
        have hfr := hid (hst.fs_ fun h => h.nil_)
        obtain ⟨p1, p2⟩ := hU1.out wr hBm
        obtain ⟨bR, oR, r, Ai, ci, hRe, hbR, hr, hr0, h1, h2, h3⟩ := row_read ha1.out.rows hql
        subst hRe
        have r0 := hr0.out wr hBm
        have hrlen : r.length = L.length := by rw [hr.out]; exact hP.out.row q hql
        have hsix := hP.out.six
        have hrk : Hid (∀ k (hk : k < L.length) (hk' : k < r.length), r[k] = ((nx q L[k] : Nat) : Int)) := hid (by
          have h := hP.out.at_ q hql
          rw [← hr.out] at h
          exact h)
        have hQr := hid (hQ.out.row m hmc)
        rw [hrep] at hQr
        replace hst := hid hst
        replace hto := hid hto
        replace hm := hid hm
        replace heq := hid heq
        replace hrep := hid hrep
        replace hxl := hid hxl
        replace hBm := hid hBm
        go_wp2_with fail
        obtain ⟨wo, rfl⟩ : ∃ wo : World, wo = wr := ⟨_, rfl⟩
        go_loopw [7, 33] (fun vW kv wr => ∃ (k : Nat) (row : List Nat) (AW : Option Addr) (cW : Nat), vW = .slice AW row.length cW ∧ kv = .int .i64 (k : Nat) ∧ k ≤ L.length ∧ row = (L.take k).map (fun l => cA a (nx q l)) ∧ L6 w1 wr w1.heap.size a.al (.slice AR xs.length cR) xs (.slice AA acs.length cA') acs (nilF :: (.slice AW row.length cW, natVals row) :: famOf xs)) (fun _ kv _ => L.length - (intOf kv).toNat)
        case atStart => exact ⟨0, [], _, 0, rfl, rfl, Nat.zero_le _, by simp, hfr.out⟩
        case round =>
          clear hfr c0 d1 p1 p2 r0
          obtain ⟨k, row, AW, cW, rfl, rfl, hk, hrow, hst2⟩ := hrel
          have hrl : row.length = k := by rw [hrow, List.length_map, List.length_take]; omega
          have hBm := hst2.below
          have hszm := hBm.size
          have hrl4 : row.length ≤ 6 := by omega
          by_cases hkl : k < L.length
          · obtain ⟨bi, oi, hie, hbi', hEi⟩ := (h3.out.later hBm) (by omega)
            subst hie
            have e0 := hEi k (by omega)
            rw [hrk.out k hkl (by omega)] at e0
            have hzn := hP.out.go q hql L[k]
            obtain ⟨z, hz'⟩ : ∃ z, Hid (z = nx q L[k]) := ⟨_, hid rfl⟩
            rw [← hz'.out] at e0 hzn
            have o0 := hcell.out wr hBm z hzn
            obtain ⟨t, ht⟩ : ∃ t, Hid (t = cA a z) := ⟨_, hid rfl⟩
            rw [← ht.out] at o0
            have hrow2 : Hid (row ++ [t] = (L.take (k + 1)).map (fun l => cA a (nx q l))) := hid (by
              rw [List.take_succ_eq_append_getElem hkl, List.map_append, ← hrow, ht.out, hz'.out]
              rfl)
            have k2 : (0 : Int) ≤ (k : Int) ∧ (k : Int) < (r.length : Int) ∧ (0 : Int) ≤ (z : Int) ∧ (z : Int) < (a.nx.length : Int) := by omega
            have hoW := hid (hst2.own (v := .slice AW row.length cW) (row := row) (List.mem_cons_of_mem _ List.mem_cons_self))
            replace hst2 := hid hst2
            replace hrl := hid hrl
            replace hrow := hid hrow
            replace hEi := hid hEi
            replace hBm := hid hBm
            go_wp2_with (at_builtin; refine wpList_append_own_at _ rfl _ _ 72 rfl w1.heap.size 3 i0 (.int .i64 0) 1 8 Tryd.underlying72 hi hz0 hz1 hz2 rfl (by decide) _ _ _ rfl (hoW.out.alloc _) ⟨wr.heap.size, 0, none⟩ 1 1 [.int .i64 (t : Nat)] rfl rfl (cell_one_new _ _ _) (by intro u hu; simp at hu; subst hu; rfl) (by unfold maxLen; omega) (by omega) (by first | omega | (simp; omega)) ?_; intro v8 w8 hO8 hg8 _ hat8; obtain ⟨Av8, cv8, ev8, -, -⟩ := own_slice hO8; subst ev8; replace hO8 := hid hO8; replace hg8 := hid hg8; replace hat8 := hid hat8)
            have hst8 := hid (hst2.out.app (l1 := [nilF]) (ys' := natVals (row ++ [t])) hg8.out (by rw [natVals_len, List.length_append]; have := hO8.out; unfold natVals at this ⊢; simpa using this) hat8.out)
            go_roundw
            case rel => exact ⟨k + 1, row ++ [t], _, _, by rw [List.length_append]; rfl, by go_num, by omega, hrow2.out, by have := hst8.out; rw [List.length_append]; exact this⟩
            case measure => simp [intOf]; omega
          · obtain rfl : k = L.length := by omega
            have hxs2 : Hid ((xs ++ [(⟨row.map fun (n : Nat) => (n : Int), AW, cW⟩ : RowV)]).map (·.r) = (List.range (m + 1)).map (quotRow a)) := hid (by
              have h1 := hrow
              rw [List.take_length] at h1
              rw [List.map_append, hxs.out, List.range_succ, List.map_append, List.map_singleton, List.map_singleton, hQr.out, h1])
            obtain ⟨tb, htb⟩ : ∃ tb, Hid (tb = a.ac[q]) := ⟨_, hid rfl⟩
            have hacs2 : Hid (acs ++ [tb] = (List.range (m + 1)).map fun j => a.ac.getD (repA a j) false) := hid (by
              rw [hacs.out, List.range_succ, List.map_append, List.map_singleton, hrep.out, htb.out, List.getD_eq_getElem?_getD, List.getElem?_eq_getElem hqa]
              rfl)
            obtain ⟨bB, oB, hBe, hbB, hEB⟩ := ha1.out.acc (by omega)
            subst hBe
            have hEB' := hid hEB
            replace hrl := hid hrl
            replace hrow := hid hrow
            replace hBm := hid hBm
            clear hEB
            have c1 := hst2.blk.cell 1
            simp only [List.getElem?_toArray, List.getElem?_cons_zero, List.getElem?_cons_succ] at c1
            have hoR := hid hst2.tab
            have hbk := hid hst2.blk
            have hgO := hst2.blk.lt
            have hszr := hst2.below.size
            have hst2' := hid hst2
            clear hst2
            go_wp2_with (at_builtin; refine wpList_append_own_at _ rfl _ _ 23 rfl w1.heap.size 72 j0 (.slice none 0 0) 1 24 Tryd.underlying23 hj0 hy0 hy1 hy2 rfl (by decide) _ _ _ rfl (hoR.out.alloc _) ⟨wr.heap.size, 0, none⟩ 1 1 [.slice AW row.length cW] rfl rfl (cell_one_new _ _ _) (by intro u hu; simp at hu; subst hu; rfl) (by unfold maxLen; omega) (by omega) (by first | omega | (simp; omega)) ?_; intro v5 w5 hO5 hg5 _ hat5; obtain ⟨Av5, cv5, ev5, -, -⟩ := own_slice hO5; subst ev5; have hbk5 : Blk w5 w1.heap.size 26 #[.int .i64 a.al, .slice AR xs.length cR, .slice AA acs.length cA'] := (hbk.out.alloc _).keep ((KeepB.refl (fun b => (Value.slice AR xs.length cR).ownBlock = some b) _).grown hg5 (fun k hk _ => hk)) (fun e => own_ne hoR.out hbk.out (by decide) _ e rfl); have d1 := hbk5.cell 1; have z1 := hbk5.frozen 1; simp only [List.getElem?_toArray, List.getElem?_cons_zero, List.getElem?_cons_succ] at d1; have hst5 := hid (hst2'.out.row hg5 (by have := hO5; simpa using this)); replace hbk5 := hid hbk5; clear hO5 hg5 hat5)
            obtain ⟨w6, hw6⟩ : ∃ w6, w5.setCell ⟨w1.heap.size, 1, none⟩ (.slice Av5 (xs.length + 1) cv5) = w6 := ⟨_, rfl⟩
            rw [hw6] at hst5 ⊢
            have hst6 := hst5.out
            have hB6 := hst6.below
            have hz6 := hB6.size
            have c2 := hst6.blk.cell 2
            simp only [List.getElem?_toArray, List.getElem?_cons_zero, List.getElem?_cons_succ] at c2
            have hgO6 := hst6.blk.lt
            have x0 : ∀ x', (Fam w6.heap.size w6 x').cell? ⟨w1.heap.size, 2, none⟩ = some (.slice AA acs.length cA') := fun x' => by rw [(Fam.below w6.heap.size w6 x').cell (by simpa using hgO6)]; exact c2
            obtain ⟨p1, p2⟩ := hU1.out w6 hB6
            have e1 := (hB6.cell (p := ⟨bB, oB + q, none⟩) (by simpa using hbB)).trans (hEB'.out q hqa)
            rw [← htb.out] at e1
            have hlw6 : w.heap.size < w6.heap.size := by omega
            have hbB6 : bB < w6.heap.size := by omega
            have x1 : ∀ x', (Fam w6.heap.size w6 x').cell? ⟨w.heap.size, 2, none⟩ = some (.slice (some ⟨bB, oB, none⟩) a.ac.length d) := fun x' => by rw [(Fam.below w6.heap.size w6 x').cell (by simpa using hlw6)]; exact p2
            have x3 : ∀ x', (Fam w6.heap.size w6 x').cell? ⟨bB, oB + q, none⟩ = some (.bool tb) := fun x' => by rw [(Fam.below w6.heap.size w6 x').cell (by simpa using hbB6)]; exact e1
            have k3 : (0 : Int) ≤ (q : Int) ∧ (q : Int) < (a.ac.length : Int) := by omega
            clear p1 p2 e1
            have hst6' := hid hst6
            replace hB6 := hid hB6
            clear hw6 hst5 hst6 c1 c2 d1 z1
            refine wp_region_grow 8 w6.heap.size w6 (fun _ _ _ => True) (by kernel_rfl) (by kernel_rfl) (Nat.le_refl _) (Below.refl _ _) ?_
            simp only [List.take_succ_cons, List.take_zero, List.drop_succ_cons, List.drop_zero]
            (repeat (refine grow_quiet (by rfl) (by rfl) (by rfl) ?_; intro K hK; go_big_quiet_op; go_big_quiet_on))
            refine grow_new (by rfl) (fun b => .slice (some ⟨b, 0, none⟩) 1 1) 4 #[.bool tb] (fun _ => by go_simp) (fun _ => rfl) (Nat.le_refl _) fun g3 hg3 => ?_
            simp only [Act.put, List.setIfInBounds_toArray, List.set_cons_zero, List.set_cons_succ]
            refine grow_nil ?_
            intro w7 hb7 hf
            obtain ⟨g3', hge, -, hblk3⟩ := hf _ List.mem_cons_self
            cases hge
            have hnew3 := hid (Blk.news hblk3)
            clear hblk3 hf x0 x1 x3
            have hst7 := hst6'.out.later hb7
            have hoA := hid hst7.acc
            have hz7 := hst7.below.size
            have hbk7 := hid hst7.blk
            have hgO7 := hst7.blk.lt
            have hst7' := hid hst7
            clear hst7
            go_wp2_with (at_builtin; refine wpList_append_own_at _ rfl _ _ 24 rfl w1.heap.size 4 b0 (.bool false) 1 1 Tryd.underlying24 hbi hb0 hb1' hb2' rfl (by decide) _ _ _ rfl (hoA.out) ⟨g3, 0, none⟩ 1 1 [.bool tb] rfl rfl hnew3.out (by intro u hu; simp at hu; subst hu; rfl) (by unfold maxLen; omega) (by omega) (by first | omega | (simp; omega)) ?_; intro v8 w8 hO8 hg8 _ hat8; obtain ⟨Av8, cv8, ev8, -, -⟩ := own_slice hO8; subst ev8; have hbk8 : Blk w8 w1.heap.size 26 _ := hbk7.out.keep ((KeepB.refl (fun b => (Value.slice AA acs.length cA').ownBlock = some b) _).grown hg8 (fun k hk _ => hk)) (fun e => own_ne hoA.out hbk7.out (by decide) _ e rfl); have d2 := hbk8.cell 2; have z2 := hbk8.frozen 2; simp only [List.getElem?_toArray, List.getElem?_cons_zero, List.getElem?_cons_succ] at d2; have hst8 := hid (hst7'.out.put (t := tb) hg8 hO8); replace hbk8 := hid hbk8; clear hO8 hg8 hat8)
            go_roundw
            case rel =>
              have h8 := hst8.out
              rw [hacs2.out] at h8
              exact ⟨q + 1, m + 1, _, _, _, by go_num, by omega, by rw [hto.out], by omega, h8, hxs2.out⟩
            case measure => simp [intOf]; omega
    · obtain rfl : q = a.nx.length := by omega
      have hme : Hid (m = clsC a) := hid (by rw [hm, clsTo_all])
      have hro := hid (hst.fam.rowsOwn hst.tab)
      have hac := hst.acc
      have hbk := hst.blk
      have d0 := hbk.cell 0
      have d1 := hbk.cell 1
      have d2 := hbk.cell 2
      simp only [List.getElem?_toArray, List.getElem?_cons_zero, List.getElem?_cons_succ] at d0 d1 d2
      have hau : Hid (AuOwn wr w1.heap.size (.slice AR xs.length cR) (.slice AA acs.length cA') (quotA a) xs) := hid (by
        have h1 := hacs.out
        have h2 := hxs.out
        rw [hme.out] at h1 h2
        refine ⟨hro.out, h2, ?_⟩
        show wr.ownsRow w1.heap.size 4 1 _ ((List.range (clsC a)).map fun j => a.ac.getD (repA a j) false).length (boolVals ((List.range (clsC a)).map fun j => a.ac.getD (repA a j) false))
        rw [← h1]
        exact hac)
      obtain ⟨A9, c9, B9, d9, he1, he2, hat9⟩ := hau.out.at_
      injection he1 with f1 f2 f3
      injection he2 with f4 f5 f6
      subst f1 f3 f4 f6
      have htr := hid (trim_any (quotA a) AR AA cR cA' tx wr hqok.out htx.out hat9)
      unfold AG.Au.val at htr
      rw [← f2, ← f5, show (quotA a).al = a.al from rfl] at htr
      have hBr := hB1.trans (hBm.mono hB1.size)
      have hresr := hid (hres1.out.below hBm hres1.out.lt)
      replace hst := hid hst
      replace hac := hid hac
      replace hbk := hid hbk
      replace hBm := hid hBm
      replace hat9 := hid hat9
      replace f2 := hid f2
      replace f5 := hid f5
      replace hm := hid hm
      replace hxl := hid hxl
      go_wp2_with fail
      refine htr.out.mono ?_
      rintro e w9 ⟨hb9, v1, v2, ys, rfl, hau9⟩
      rw [show trimA (quotA a) = minA a from rfl, show (quotA a).al = a.al from rfl] at *
      obtain ⟨b, hb⟩ : ∃ b, Hid (b = minA a) := ⟨_, hid rfl⟩
      rw [← hb.out] at hau9
      obtain ⟨A', c', B', d', rfl, rfl, -⟩ := hau9.at_
      have hres9 := hresr.out.below hb9 hresr.out.lt
      have q0 := hres9.cell 0
      have q1 := hres9.cell 1
      have q2 := hres9.cell 2
      have f0 := hres9.frozen 0
      have f1 := hres9.frozen 1
      have f2 := hres9.frozen 2
      simp only [List.getElem?_toArray, List.getElem?_cons_zero, List.getElem?_cons_succ] at q0 q1 q2
      have hB9 := hBr.trans (hb9.mono hBr.size)
      have hz9 := hb9.size
      have hlt2 : w.heap.size + 1 < wr.heap.size := by omega
      replace hau9 := hid hau9
      replace hres9 := hid hres9
      clear d0 d1 d2 htr
      go_wp2
      refine bodyPost_ret (v := .agg #[.int .i64 a.al, .slice A' b.nx.length c', .slice B' b.ac.length d']) (by simp [results, Tryd.results51, go_sem, q0, q1, q2]) rfl ?_
      refine ⟨by (repeat (first | exact Below.refl _ _ | assumption | refine Below.drew ?_ | refine Below.alloc ?_ (by first | omega | (simp; done) | (simp; omega)) _ | refine Below.setCell ?_ (by first | omega | (simp; done) | (simp; omega)) _)), _, _, ys, rfl, ?_⟩
      rw [← hb.out]
      exact (((hau9.out.setFar hlt2 _).setFar hlt2 _).setFar hlt2 _).base (by omega)

set_option maxRecDepth 100000 in
set_option maxHeartbeats 4000000 in
theorem implMinimizeAutomaton_any (a : Au) (A B : Option Addr) (c d : Nat) (w : World) (ha : AuAt w A c B d a) :
    Calls Tryd.prog 14 #[a.val A c B d] w (PrPost w (minX a) (auOk a)) := by
  obtain ⟨w0, hw0, hz0, hB0, hS, -⟩ := boxed2 w #[Value.int IntKind.i64 a.al, Value.slice A a.nx.length c, Value.slice B a.ac.length d] 26 #[Value.int IntKind.i64 0, Value.slice none 0 0, Value.slice none 0 0] 26
  have hres : Blk w0 (w.heap.size + 1) 26 #[Value.int IntKind.i64 0, Value.slice none 0 0, Value.slice none 0 0] := by
    rw [← hw0]
    have := Blk.new (w.alloc (.cells #[Value.int IntKind.i64 a.al, Value.slice A a.nx.length c, Value.slice B a.ac.length d] 26)) 26 #[Value.int IntKind.i64 0, Value.slice none 0 0, Value.slice none 0 0]
    simpa using this
  have ha0 := hid (ha.later hB0)
  have p0 := hS 0 _ rfl _ (Below.refl _ _)
  have p1 := hS 1 _ rfl _ (Below.refl _ _)
  have p2 := hS 2 _ rfl _ (Below.refl _ _)
  obtain ⟨ok, hok⟩ : ∃ ok, Hid (ok = auOk a) := ⟨_, hid rfl⟩
  obtain ⟨b, hb⟩ : ∃ b, Hid (b = minX a) := ⟨_, hid rfl⟩
  replace ha := hid ha
  replace hres := hid hres
  rw [← hb.out, ← hok.out]
  unfold AG.Au.val
  go_enter Tryd.func14, Tryd.ntmps14
  go_wp2_with fail
  refine (implAutomatonValid_any a A B c d w0 ha0.out).mono ?_
  rintro e w1 ⟨rfl, hb1⟩
  rw [← hok.out]
  have hB1 := hB0.trans (hb1.mono hB0.size)
  have hz1 := hb1.size
  have hC1 := hb1.mono hz0
  clear p0 p1 p2 hw0
  cases hokc : ok
  case false =>
    have hbn : Hid (b = auNil) := hid (by rw [hb.out]; unfold minX; rw [← hok.out, hokc]; rfl)
    have hresr := hres.out.below hb1 hres.out.lt
    have q0 := hresr.cell 0
    have q1 := hresr.cell 1
    have q2 := hresr.cell 2
    have f0 := hresr.frozen 0
    have f1 := hresr.frozen 1
    have f2 := hresr.frozen 2
    simp only [List.getElem?_toArray, List.getElem?_cons_zero, List.getElem?_cons_succ] at q0 q1 q2
    subst hokc
    replace hresr := hid hresr
    go_wp2
    refine bodyPost_ret (v := .tuple #[.agg #[.int .i64 0, .slice none 0 0, .slice none 0 0], .bool false]) (by simp [results, Tryd.results14, go_sem, q0, q1, q2]) rfl ?_
    rw [hbn.out]
    exact ⟨by (repeat (first | exact Below.refl _ _ | assumption | refine Below.drew ?_ | refine Below.alloc ?_ (by first | omega | (simp; done) | (simp; omega)) _ | refine Below.setCell ?_ (by first | omega | (simp; done) | (simp; omega)) _)), _, _, _, rfl, AuOwn.nil _ _⟩
  case true =>
  have hoT := hok.out
  rw [hokc] at hoT
  have hbm : Hid (b = minA a) := hid (by rw [hb.out]; unfold minX; rw [← hoT]; rfl)
  have hbal : Hid (b.al = a.al) := hid (by rw [hbm.out]; exact minA_al hoT.symm)
  have hmin := hid (minimize_any a A B c d w1 hoT.symm (ha0.out.later hb1))
  replace hoT := hid hoT
  subst hokc
  have p0 := hS 0 _ rfl _ hC1
  have p1 := hS 1 _ rfl _ hC1
  have p2 := hS 2 _ rfl _ hC1
  go_wp2_with fail
  refine hmin.out.mono ?_
  rintro e w2 ⟨hb2, v1, v2, xs, rfl, hau⟩
  rw [← hbm.out] at hau
  obtain ⟨A', c', B', d', rfl, rfl, -⟩ := hau.at_
  have hresr := hres.out.below (hb1.trans (hb2.mono hz1)) hres.out.lt
  have hB2 := hB1.trans (hb2.mono hB1.size)
  have hz2 := hb2.size
  have q0 := hresr.cell 0
  have q1 := hresr.cell 1
  have q2 := hresr.cell 2
  have f0 := hresr.frozen 0
  have f1 := hresr.frozen 1
  have f2 := hresr.frozen 2
  simp only [List.getElem?_toArray, List.getElem?_cons_zero, List.getElem?_cons_succ] at q0 q1 q2
  have hlt2 : w.heap.size + 1 < w1.heap.size := by omega
  replace hau := hid hau
  replace hresr := hid hresr
  clear p0 p1 p2 hS hmin
  go_wp2
  refine bodyPost_ret (v := .tuple #[.agg #[.int .i64 a.al, .slice A' b.nx.length c', .slice B' b.ac.length d'], .bool true]) (by simp [results, Tryd.results14, go_sem, q0, q1, q2]) rfl ?_
  exact ⟨by (repeat (first | exact Below.refl _ _ | assumption | refine Below.drew ?_ | refine Below.alloc ?_ (by first | omega | (simp; done) | (simp; omega)) _ | refine Below.setCell ?_ (by first | omega | (simp; done) | (simp; omega)) _)), _, _, xs, by rw [hbal.out], (((hau.out.setFar hlt2 _).setFar hlt2 _).setFar hlt2 _).base (by omega)⟩


end Go.Proofs.YtjhlbeamfngebaaDoor
