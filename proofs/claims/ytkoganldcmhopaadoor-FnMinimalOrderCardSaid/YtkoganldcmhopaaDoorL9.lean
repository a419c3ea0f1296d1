/- Lemmas, part 9: several texts in one. -/
import Derived.Test.YtkoganldcmhopaaDoorL8
import Derived.Test.YtkoganldcmhopaaDoorL7
import Derived.Lib.SliceRun
import Derived.Test.YtkoganldcmhopaaDoorL2
import Derived.Test.YtkoganldcmhopaaDoorL1
import Derived.Test.YtkoganldcmhopaaDoorL3
import Derived.Test.YtkoganldcmhopaaDoorL6
import Derived.Deep.DeepCutAuto
import Derived.Test.YtkoganldcmhopaaDoorCards
import Derived.Test.YtkoganldcmhopaaDoorTie
import Derived.WalkKit
import Derived.ProofKit
import Derived.OpenShut
import Derived.Deep.DeepHandedRow
import Derived.Lib.LaidTab
import Derived.Stop.LaidErr
import Derived.Test.YtkoganldcmhopaaDoorL5
set_option linter.unusedSimpArgs false
set_option linter.unusedVariables false

/- The drawing kit: l3Draw. -/
namespace Go.Proofs.YtkoganldcmhopaaDoor
open Go.RowKit Go.BigFrame AG

theorem OvQ.sz {al : Int} {a : Au} (h : OvQ al a) : AuSz 2000 a := ⟨by have := h.2.2.1; omega, by have := h.2.2.1; have := h.2.2.2.1; omega, fun r hr => by have := h.2.2.2.2 r hr; omega⟩
set_option maxRecDepth 100000 in
set_option maxHeartbeats 4000000 in
theorem l3Draw_up (R P : Nat) (w : World) (hP : P + 400000000 ≤ 1125899906842624) (hr : RdUp w R P) :
    Calls Tryd.prog 109 #[.pointer (some ⟨R, 0, none⟩)] w (AuUp (AuSz 2000) R (P + 40000000) w) := by
  have hR := hr.lt
  obtain ⟨wA, hwA, hzA, hBA, -⟩ := boxed w #[.int .i64 0, .slice none 0 0, .slice none 0 0] 26
  have hzAe : Hid (wA.heap.size = w.heap.size + 1) := hid (by rw [← hwA]; simp)
  have hres : Hid (Blk wA w.heap.size 26 #[.int .i64 0, .slice none 0 0, .slice none 0 0]) := hid (by rw [← hwA]; exact Blk.new _ _ _)
  have hrA := hid (hr.later hBA)
  replace hr := hid hr
  go_enter Tryd.func109, Tryd.ntmps109
  go_wp2_with fail
  refine (pick_up R P 3 wA (by omega) (by omega) hrA.out).mono ?_
  rintro e wp ⟨j, rfl, hj0, hj1, hrp, hkp⟩
  clear hwA hj1
  replace hrp := hid hrp
  replace hkp := hid hkp
  by_cases hj : j = 0
  · subst hj
    go_wp2_with fail
    refine (l3Texts_any wp).mono ?_
    rintro e wt ⟨xs, hxl, hxs, rfl, hcell, hlt, hbt⟩
    have hrt := hid (hrp.out.later hbt)
    have hRt := hrp.out.lt
    replace hcell := hid hcell
    replace hxs := hid hxs
    replace hxl := hid hxl
    go_wp2_with fail
    refine (of_up R (P + 1) wp.heap.size 0 12 12 xs wt hxl.out (by omega) (by omega) (by omega) (by omega) hlt (fun i h => hcell.out i h) hrt.out).mono ?_
    rintro e wo ⟨x, hx, rfl, hro, hko⟩
    have hx60 : x.size ≤ 900 := by have := hxs.out x hx; omega
    replace hro := hid hro
    replace hko := hid hko
    clear hx
    go_wp2_with fail
    refine (parseAutomaton_any x wo hx60).mono ?_
    rintro e wq ⟨a, v1, v2, ys, ok, rfl, hq, ho, hbq⟩
    obtain ⟨A1, c1, e1, -, -⟩ := own_slice ho.rows.own
    obtain ⟨A2, c2, e2, -, -⟩ := own_slice ho.acc
    subst e1 e2
    have kq0 : KeepB (fun b => b = R) wA wq := ((hkp.out.trans (KeepB.of_below hbt)).trans hko.out).trans (KeepB.of_below hbq)
    have hba : Below wq.heap.size wq (wq.alloc (.cells #[.int .i64 a.al, .slice A1 ys.length c1, .slice A2 a.ac.length c2] 26)) := (Below.refl _ _).alloc (Nat.le_refl _) _
    have hnb := Blk.new wq 26 #[.int .i64 a.al, .slice A1 ys.length c1, .slice A2 a.ac.length c2]
    have hrq := hid ((hro.out.later hbq).later hba)
    have hkq := hid (kq0.trans (KeepB.of_below hba))
    have hoq := hid (ho.later hba)
    have hzo : wA.heap.size ≤ wo.heap.size := ((hkp.out.trans (KeepB.of_below hbt)).trans hko.out).size
    have hsq : wq.heap.size < (wq.alloc (.cells #[.int .i64 a.al, .slice A1 ys.length c1, .slice A2 a.ac.length c2] 26)).heap.size := by simp
    replace hq := hid hq
    replace hnb := hid hnb
    clear ho
    go_upto_region 3 with fail
    generalize hwa : wq.alloc (.cells #[.int .i64 a.al, .slice A1 ys.length c1, .slice A2 a.ac.length c2] 26) = wa at *
    clear hwa
    cases ok
    · go_wp2_with fail
      refine (num_lit R (P + 1 + 1) [3, 6, 7, 5, 1, 0, 2] wa _ (by decide) (by decide) (by omega) (hrq.out)).mono ?_
      rintro e w3 ⟨al, hal, rfl, hr3, hk3⟩
      replace hr3 := hid hr3
      replace hk3 := hid hk3
      clear hal
      go_wp2_with fail
      refine (l3Over_up R (P + 1 + 1 + 1) al w3 (by omega) hr3.out).mono ?_
      rintro e w4 ⟨b, u1, u2, zs, rfl, hqb, hob, hr4, hk4⟩
      obtain ⟨B1, e1, g1, -, -⟩ := own_slice hob.rows.own
      obtain ⟨B2, e2, g2, -, -⟩ := own_slice hob.acc
      subst g1 g2
      have hkk := ((hkq.out).trans hk3.out).trans hk4
      have hz3 : wA.heap.size ≤ w3.heap.size := ((hkq.out).trans hk3.out).size
      have hbl := hres.out.keep (hkk) (by omega)
      have d0 := hbl.cell 0
      have d1 := hbl.cell 1
      have d2 := hbl.cell 2
      have f0 := hbl.frozen 0
      have f1 := hbl.frozen 1
      have f2 := hbl.frozen 2
      simp only [List.getElem?_toArray, List.getElem?_cons_zero, List.getElem?_cons_succ] at d0 d1 d2
      have hltb := hbl.lt
      have hfin := hid (AuUp.ret (w := w) (Q := AuSz 2000) (P' := P + 40000000) (a := b) hqb.sz (hob.base (show w.heap.size + 1 ≤ w3.heap.size by have := hzAe.out; omega)) (hr4) (by omega) ((KeepB.of_below hBA).trans (hkk)) hR (.int .i64 b.al) (.slice B1 zs.length e1) (.slice B2 b.ac.length e2))
      clear hbl hob hr4 hk4 hkk hqb
      go_wp2
      refine bodyPost_ret (v := .agg #[.int .i64 b.al, .slice B1 zs.length e1, .slice B2 b.ac.length e2]) (by simp [results, Tryd.results109, go_sem, d0, d1, d2]) rfl ?_
      exact hfin.out
    · have c0 := hnb.out.cell 0
      have c1' := hnb.out.cell 1
      have c2' := hnb.out.cell 2
      simp only [List.getElem?_toArray, List.getElem?_cons_zero, List.getElem?_cons_succ] at c0 c1' c2'
      have hbl := hres.out.keep (hkq.out) (by omega)
      have d0 := hbl.cell 0
      have d1 := hbl.cell 1
      have d2 := hbl.cell 2
      have f0 := hbl.frozen 0
      have f1 := hbl.frozen 1
      have f2 := hbl.frozen 2
      simp only [List.getElem?_toArray, List.getElem?_cons_zero, List.getElem?_cons_succ] at d0 d1 d2
      have hltb := hbl.lt
      have hfin := hid (AuUp.ret (w := w) (Q := AuSz 2000) (P' := P + 40000000) (a := a) hq.out (hoq.out.base (show w.heap.size + 1 ≤ wo.heap.size by have := hzAe.out; omega)) (hrq.out) (by omega) ((KeepB.of_below hBA).trans (hkq.out)) hR (.int .i64 a.al) (.slice A1 ys.length c1) (.slice A2 a.ac.length c2))
      clear hbl
      go_wp2
      refine bodyPost_ret (v := .agg #[.int .i64 a.al, .slice A1 ys.length c1, .slice A2 a.ac.length c2]) (by simp [results, Tryd.results109, go_sem, d0, d1, d2]) rfl ?_
      exact hfin.out
  · have hjb : ((j : Int) == 0) = false := by simp; omega
    replace hj := hid hj
    go_wp2_with fail
    refine (num_lit R (P + 1) [3, 6, 7, 5, 1, 0, 2] wp _ (by decide) (by decide) (by omega) (hrp.out)).mono ?_
    rintro e w3 ⟨al, hal, rfl, hr3, hk3⟩
    replace hr3 := hid hr3
    replace hk3 := hid hk3
    clear hal
    go_wp2_with fail
    refine (l3Over_up R (P + 1 + 1) al w3 (by omega) hr3.out).mono ?_
    rintro e w4 ⟨b, u1, u2, zs, rfl, hqb, hob, hr4, hk4⟩
    obtain ⟨B1, e1, g1, -, -⟩ := own_slice hob.rows.own
    obtain ⟨B2, e2, g2, -, -⟩ := own_slice hob.acc
    subst g1 g2
    have hkk := ((hkp.out).trans hk3.out).trans hk4
    have hz3 : wA.heap.size ≤ w3.heap.size := ((hkp.out).trans hk3.out).size
    have hbl := hres.out.keep (hkk) (by omega)
    have d0 := hbl.cell 0
    have d1 := hbl.cell 1
    have d2 := hbl.cell 2
    have f0 := hbl.frozen 0
    have f1 := hbl.frozen 1
    have f2 := hbl.frozen 2
    simp only [List.getElem?_toArray, List.getElem?_cons_zero, List.getElem?_cons_succ] at d0 d1 d2
    have hltb := hbl.lt
    have hfin := hid (AuUp.ret (w := w) (Q := AuSz 2000) (P' := P + 40000000) (a := b) hqb.sz (hob.base (show w.heap.size + 1 ≤ w3.heap.size by have := hzAe.out; omega)) (hr4) (by omega) ((KeepB.of_below hBA).trans (hkk)) hR (.int .i64 b.al) (.slice B1 zs.length e1) (.slice B2 b.ac.length e2))
    clear hbl hob hr4 hk4 hkk hqb
    go_wp2
    refine bodyPost_ret (v := .agg #[.int .i64 b.al, .slice B1 zs.length e1, .slice B2 b.ac.length e2]) (by simp [results, Tryd.results109, go_sem, d0, d1, d2]) rfl ?_
    exact hfin.out

end Go.Proofs.YtkoganldcmhopaaDoor

/- The drawing kit: l5Any. -/
namespace Go.Proofs.YtkoganldcmhopaaDoor
open Go.RowKit Go.BigFrame AG

/-- The automaton is replaced by one that has just been made. -/
theorem AuSt.assign {K : Nat → Prop} {w0 wr w1 : World} {gs : Nat} {v1 v2 v1' v2' : Value} {a a' : Au} {xs xs' : List RowV} (h : AuSt K w0 wr gs v1 v2 a xs) (hK : ∀ b, K b → b < w0.heap.size) (hk : KeepB K wr w1) (ho : AuOwn w1 wr.heap.size v1' v2' a' xs') :
    AuSt K w0 (((w1.setCell ⟨gs, 0, none⟩ (.int .i64 a'.al)).setCell ⟨gs, 1, none⟩ v1').setCell ⟨gs, 2, none⟩ v2') gs v1' v2' a' xs' := by
  have hge := h.ge
  have hlt := h.blk.lt
  have hz := h.keep.size
  have hb := h.blk.keep hk fun e => by have := hK _ e; omega
  have hk2 : KeepB (fun b => b = gs) w1 (((w1.setCell ⟨gs, 0, none⟩ (.int .i64 a'.al)).setCell ⟨gs, 1, none⟩ v1').setCell ⟨gs, 2, none⟩ v2') := (((KeepB.refl _ w1).setCell _ _ (by simp)).setCell _ _ (by simp)).setCell _ _ (by simp)
  exact ⟨(((h.keep.trans hk).setCell _ _ (fun e => by simp at e; omega)).setCell _ _ (fun e => by simp at e; omega)).setCell _ _ (fun e => by simp at e; omega), h.ge, (ho.keepNew hk2 (fun b e => by omega)).base (by omega), by simpa using ((hb.set_ 0 (.int .i64 a'.al)).set_ 1 v1').set_ 2 v2'⟩

set_option maxRecDepth 100000 in
set_option maxHeartbeats 8000000 in
theorem l5Any_up (R P : Nat) (w : World) (hP : P + 600000000 ≤ 1125899906842624) (hr : RdUp w R P) :
    Calls Tryd.prog 55 #[.pointer (some ⟨R, 0, none⟩)] w (AuUp (AuSz 3000) R (P + 100000000) w) := by
  have hR := hr.lt
  obtain ⟨wA, hwA, hzA, hBA, -⟩ := boxed w #[.int .i64 0, .slice none 0 0, .slice none 0 0] 26
  have hzAe : Hid (wA.heap.size = w.heap.size + 1) := hid (by rw [← hwA]; simp)
  have hres : Hid (Blk wA w.heap.size 26 #[.int .i64 0, .slice none 0 0, .slice none 0 0]) := hid (by rw [← hwA]; exact Blk.new _ _ _)
  have hK : ∀ b, b = R → b < wA.heap.size := fun b e => by have := hzAe.out; omega
  have hrA := hid (hr.later hBA)
  replace hr := hid hr
  go_enter Tryd.func55, Tryd.ntmps55
  go_wp2_with fail
  refine (l3Draw_up R P wA (by omega) hrA.out).mono ?_
  rintro e wd ⟨a0, v1, v2, xs0, rfl, hz0, ho0, hrd0, hk0⟩
  obtain ⟨A0, c0, B0, d0, e1, e2, -⟩ := ho0.at_
  subst e1 e2
  have hs0' := AuSt.of (K := fun b => b = R) ho0 hk0
  have hrd0' := hrd0.later ((Below.refl _ wd).alloc (Nat.le_refl _) (.cells #[.int .i64 a0.al, .slice A0 a0.nx.length c0, .slice B0 a0.ac.length d0] 26))
  obtain ⟨gs, hgs⟩ : ∃ gs, Hid (gs = wd.heap.size) := ⟨_, hid rfl⟩
  obtain ⟨w0, hw0⟩ : ∃ w0, Hid (wd.alloc (.cells #[.int .i64 a0.al, .slice A0 a0.nx.length c0, .slice B0 a0.ac.length d0] 26) = w0) := ⟨_, hid rfl⟩
  rw [hw0.out] at hrd0' hs0'
  rw [← hgs.out] at hs0'
  have hs0 := hid hs0'
  have hRgs : R < gs := by have := hs0'.ge; have := hzAe.out; omega
  have hgsR : gs ≠ R := by have := hs0'.ge; have := hzAe.out; omega
  replace hrd0 := hid hrd0'
  replace ho0 := hid ho0
  replace hk0 := hid hk0
  clear hs0' hrd0' hwA
  go_upto_region 2 with fail
  rw [hw0.out, ← hgs.out]
  clear hw0
  go_wp2_with fail
  refine (pick_up R (P + 40000000) 3 w0 (by omega) (by omega) hrd0.out).mono ?_
  rintro e w00 ⟨j0, rfl, hj0, hj1, hr00, hk00⟩
  have hs00 := hid (hs0.out.keepK hK hk00)
  replace hr00 := hid hr00
  obtain ⟨jn, rfl⟩ := Int.eq_ofNat_of_zero_le hj0
  have hjn : jn ≤ 2 := by omega
  clear hj0 hj1 hk00
  go_wp2_with fail
  go_loopw [4] (fun iv wr => ∃ (j : Nat) (a : Au) (xs : List RowV) (A B : Option Addr) (c d : Nat), iv = .int .i64 (j : Nat) ∧ j ≤ 2 ∧ AuSt (fun b => b = R) wA wr gs (.slice A a.nx.length c) (.slice B a.ac.length d) a xs ∧ AuSz (2002 - j) a ∧ RdUp wr R (P + 40000001 + (2 - j) * 4000000)) (fun iv _ => (intOf iv).toNat)
  case atStart => exact ⟨jn, a0, xs0, A0, B0, c0, d0, rfl, hjn, hs00.out, hz0.up (by omega), hr00.out.more (by omega)⟩
  case round =>
    obtain ⟨j, a1, xs1, A1, B1, c1, d1, rfl, hj2, hs1, hz1, hrd1⟩ := hrel
    have hat1 : Hid (AuAt wr A1 c1 B1 d1 a1) := hid (by
      obtain ⟨A', c', B', d', e1, e2, h⟩ := hs1.own.at_
      cases e1
      cases e2
      exact h)
    replace hs1 := hid hs1
    replace hrd1 := hid hrd1
    by_cases hj0 : j = 0
    · have hji : ¬ ((0 : Int) < (j : Int)) := by omega
      go_wp2_with fail
      refine (pick_up R (P + 40000001 + (2 - j) * 4000000) 10 wr (by omega) (by omega) hrd1.out).mono ?_
      rintro e w1p ⟨q1, rfl, -, -, hrp, hkp⟩
      have hs1p := hid (hs1.out.keepK hK hkp)
      have hrd1p := hid hrp
      clear hrp hkp
      by_cases hq1 : q1 = 0
      · have hqb1 : ((q1 : Int) == 0) = true := by simpa using hq1
        replace hq1 := hid hq1
        go_wp2_with fail
        refine (l3Big_up R (P + 40000001 + (2 - j) * 4000000 + 1) w1p (by omega) hrd1p.out).mono ?_

        rintro e wq2 ⟨a2, v1, v2, xs2, rfl, hz2, ho2, hrq2, hk2⟩
        obtain ⟨A2, c2, B2, d2, e1, e2, -⟩ := ho2.at_
        subst e1 e2
        have hs2 := hid (hs1p.out.assign hK hk2 ho2)
        have hbq := hs1p.out.blk.keep hk2 hgsR
        have x0 := hbq.cell 0
        have x1 := hbq.cell 1
        have x2 := hbq.cell 2
        have z0 := hbq.frozen 0
        have z1 := hbq.frozen 1
        have z2 := hbq.frozen 2
        simp only [List.getElem?_toArray, List.getElem?_cons_zero, List.getElem?_cons_succ] at x0 x1 x2
        have hbql := hbq.lt
        have hrd2 := hid (hrq2.keep (((((KeepB.refl (fun b => b = gs) wq2).setCell ⟨gs, 0, none⟩ (.int .i64 a2.al) (fun _ => rfl)).setCell ⟨gs, 1, none⟩ (.slice A2 a2.nx.length c2) (fun _ => rfl)).setCell ⟨gs, 2, none⟩ (.slice B2 a2.ac.length d2) (fun _ => rfl))) (fun k hk => by omega))
        obtain ⟨w2, hw2⟩ : ∃ w2, Hid (((wq2.setCell ⟨gs, 0, none⟩ (.int .i64 a2.al)).setCell ⟨gs, 1, none⟩ (.slice A2 a2.nx.length c2)).setCell ⟨gs, 2, none⟩ (.slice B2 a2.ac.length d2) = w2) := ⟨_, hid rfl⟩
        rw [hw2.out] at hs2 hrd2
        replace ho2 := hid ho2
        replace hrq2 := hid hrq2
        replace hk2 := hid hk2
        replace hbq := hid hbq
        go_upto_region 8 with fail
        rw [hw2.out]
        clear x0 x1 x2 z0 z1 z2
        have hz2' : AuSz 2100 a2 := ⟨by have := hz2.2.1; omega, by have := hz2.2.2.1; omega, fun r hr => by have := hz2.2.2.2 r hr; omega⟩
        replace hz2 := hid hz2
        have hat2 : Hid (AuAt w2 A2 c2 B2 d2 a2) := hid (by
          obtain ⟨A', c', B', d', e1, e2, h⟩ := hs2.out.own.at_
          cases e1
          cases e2
          exact h)

        go_wp2_with fail
        refine (pick_up R (P + 40000001 + (2 - j) * 4000000 + 1 + 20000000) 6 w2 (by omega) (by omega) hrd2.out).mono ?_
        rintro e w2p ⟨q2, rfl, -, -, hrp, hkp⟩
        have hs2p := hid (hs2.out.keepK hK hkp)
        have hrd2p := hid hrp
        clear hrp hkp
        by_cases hq2 : q2 = 0
        · have hqb2 : ((q2 : Int) == 0) = true := by simpa using hq2
          replace hq2 := hid hq2
          have hs2q := hs2p

          have y0 := hs2p.out.blk.cell 0
          have y1 := hs2p.out.blk.cell 1
          have y2 := hs2p.out.blk.cell 2
          simp only [List.getElem?_toArray, List.getElem?_cons_zero, List.getElem?_cons_succ] at y0 y1 y2
          have hatp := hid (show AuAt w2p A2 c2 B2 d2 a2 from by
            obtain ⟨A', c', B', d', e1, e2, h⟩ := hs2p.out.own.at_
            cases e1
            cases e2
            exact h)
          go_wp2_with fail
          refine (l3Wrong_up R (P + 40000001 + (2 - j) * 4000000 + 1 + 20000000 + 1) 2100 a2 A2 B2 c2 d2 w2p (by omega) (by omega) hz2' hrd2p.out hatp.out).mono ?_
          clear y0 y1 y2

          rintro e wq9 ⟨a9, v1, v2, xs9, rfl, hz9, ho9, hrq9, hk9⟩
          obtain ⟨A9, c9, B9, d9, e1, e2, -⟩ := ho9.at_
          subst e1 e2
          have hs9 := hid (hs2p.out.assign hK hk9 ho9)
          have hbq := hs2p.out.blk.keep hk9 hgsR
          have x0 := hbq.cell 0
          have x1 := hbq.cell 1
          have x2 := hbq.cell 2
          have z0 := hbq.frozen 0
          have z1 := hbq.frozen 1
          have z2 := hbq.frozen 2
          simp only [List.getElem?_toArray, List.getElem?_cons_zero, List.getElem?_cons_succ] at x0 x1 x2
          have hbql := hbq.lt
          have hrd9 := hid (hrq9.keep (((((KeepB.refl (fun b => b = gs) wq9).setCell ⟨gs, 0, none⟩ (.int .i64 a9.al) (fun _ => rfl)).setCell ⟨gs, 1, none⟩ (.slice A9 a9.nx.length c9) (fun _ => rfl)).setCell ⟨gs, 2, none⟩ (.slice B9 a9.ac.length d9) (fun _ => rfl))) (fun k hk => by omega))
          obtain ⟨w9, hw9⟩ : ∃ w9, Hid (((wq9.setCell ⟨gs, 0, none⟩ (.int .i64 a9.al)).setCell ⟨gs, 1, none⟩ (.slice A9 a9.nx.length c9)).setCell ⟨gs, 2, none⟩ (.slice B9 a9.ac.length d9) = w9) := ⟨_, hid rfl⟩
          rw [hw9.out] at hs9 hrd9
          replace ho9 := hid ho9
          replace hrq9 := hid hrq9
          replace hk9 := hid hk9
          replace hbq := hid hbq
          go_upto_region 10 with fail
          rw [hw9.out]
          clear x0 x1 x2 z0 z1 z2

          have y0 := hs9.out.blk.cell 0
          have y1 := hs9.out.blk.cell 1
          have y2 := hs9.out.blk.cell 2
          simp only [List.getElem?_toArray, List.getElem?_cons_zero, List.getElem?_cons_succ] at y0 y1 y2

          have hbl := hres.out.keep hs9.out.keep (by omega)
          have d0' := hbl.cell 0
          have d1' := hbl.cell 1
          have d2' := hbl.cell 2
          have f0 := hbl.frozen 0
          have f1 := hbl.frozen 1
          have f2 := hbl.frozen 2
          simp only [List.getElem?_toArray, List.getElem?_cons_zero, List.getElem?_cons_succ] at d0' d1' d2'
          have hltb := hbl.lt
          have hown := hs9.out.own
          rw [hzAe.out] at hown
          have hfin := hid (AuUp.ret (Q := AuSz 3000) (P' := P + 100000000) (hz9.up (by omega)) hown hrd9.out (by omega) ((KeepB.of_below hBA).trans hs9.out.keep) hR (.int .i64 a9.al) (.slice A9 a9.nx.length c9) (.slice B9 a9.ac.length d9))
          replace hbl := hid hbl
          replace hown := hid hown
          go_wp2
          refine bodyPost_ret (v := .agg #[.int .i64 a9.al, .slice A9 a9.nx.length c9, .slice B9 a9.ac.length d9]) (by simp [results, Tryd.results55, go_sem, d0', d1', d2']) rfl ?_
          exact hfin.out
        · have hqb2 : ((q2 : Int) == 0) = false := by simpa using hq2
          replace hq2 := hid hq2
          go_upto_region 10 with fail

          have y0 := hs2p.out.blk.cell 0
          have y1 := hs2p.out.blk.cell 1
          have y2 := hs2p.out.blk.cell 2
          simp only [List.getElem?_toArray, List.getElem?_cons_zero, List.getElem?_cons_succ] at y0 y1 y2

          have hbl := hres.out.keep hs2p.out.keep (by omega)
          have d0' := hbl.cell 0
          have d1' := hbl.cell 1
          have d2' := hbl.cell 2
          have f0 := hbl.frozen 0
          have f1 := hbl.frozen 1
          have f2 := hbl.frozen 2
          simp only [List.getElem?_toArray, List.getElem?_cons_zero, List.getElem?_cons_succ] at d0' d1' d2'
          have hltb := hbl.lt
          have hown := hs2p.out.own
          rw [hzAe.out] at hown
          have hfin := hid (AuUp.ret (Q := AuSz 3000) (P' := P + 100000000) (hz2'.up (by omega)) hown hrd2p.out (by omega) ((KeepB.of_below hBA).trans hs2p.out.keep) hR (.int .i64 a2.al) (.slice A2 a2.nx.length c2) (.slice B2 a2.ac.length d2))
          replace hbl := hid hbl
          replace hown := hid hown
          go_wp2
          refine bodyPost_ret (v := .agg #[.int .i64 a2.al, .slice A2 a2.nx.length c2, .slice B2 a2.ac.length d2]) (by simp [results, Tryd.results55, go_sem, d0', d1', d2']) rfl ?_
          exact hfin.out
      · have hqb1 : ((q1 : Int) == 0) = false := by simpa using hq1
        replace hq1 := hid hq1
        go_upto_region 8 with fail
        have hs3 := hs1p
        have hrd3 := hrd1p
        have hz3' : AuSz 2100 a1 := hz1.up (by omega)
        have hat3 : Hid (AuAt w1p A1 c1 B1 d1 a1) := hid (by
          obtain ⟨A', c', B', d', e1, e2, h⟩ := hs1p.out.own.at_
          cases e1
          cases e2
          exact h)

        go_wp2_with fail
        refine (pick_up R (P + 40000001 + (2 - j) * 4000000 + 1) 6 w1p (by omega) (by omega) hrd3.out).mono ?_
        rintro e w3p ⟨q3, rfl, -, -, hrp, hkp⟩
        have hs3p := hid (hs3.out.keepK hK hkp)
        have hrd3p := hid hrp
        clear hrp hkp
        by_cases hq2 : q3 = 0
        · have hqb2 : ((q3 : Int) == 0) = true := by simpa using hq2
          replace hq2 := hid hq2
          have hs3q := hs3p

          have y0 := hs3p.out.blk.cell 0
          have y1 := hs3p.out.blk.cell 1
          have y2 := hs3p.out.blk.cell 2
          simp only [List.getElem?_toArray, List.getElem?_cons_zero, List.getElem?_cons_succ] at y0 y1 y2
          have hatp := hid (show AuAt w3p A1 c1 B1 d1 a1 from by
            obtain ⟨A', c', B', d', e1, e2, h⟩ := hs3p.out.own.at_
            cases e1
            cases e2
            exact h)
          go_wp2_with fail
          refine (l3Wrong_up R (P + 40000001 + (2 - j) * 4000000 + 1 + 1) 2100 a1 A1 B1 c1 d1 w3p (by omega) (by omega) hz3' hrd3p.out hatp.out).mono ?_
          clear y0 y1 y2

          rintro e wq9 ⟨a9, v1, v2, xs9, rfl, hz9, ho9, hrq9, hk9⟩
          obtain ⟨A9, c9, B9, d9, e1, e2, -⟩ := ho9.at_
          subst e1 e2
          have hs9 := hid (hs3p.out.assign hK hk9 ho9)
          have hbq := hs3p.out.blk.keep hk9 hgsR
          have x0 := hbq.cell 0
          have x1 := hbq.cell 1
          have x2 := hbq.cell 2
          have z0 := hbq.frozen 0
          have z1 := hbq.frozen 1
          have z2 := hbq.frozen 2
          simp only [List.getElem?_toArray, List.getElem?_cons_zero, List.getElem?_cons_succ] at x0 x1 x2
          have hbql := hbq.lt
          have hrd9 := hid (hrq9.keep (((((KeepB.refl (fun b => b = gs) wq9).setCell ⟨gs, 0, none⟩ (.int .i64 a9.al) (fun _ => rfl)).setCell ⟨gs, 1, none⟩ (.slice A9 a9.nx.length c9) (fun _ => rfl)).setCell ⟨gs, 2, none⟩ (.slice B9 a9.ac.length d9) (fun _ => rfl))) (fun k hk => by omega))
          obtain ⟨w9, hw9⟩ : ∃ w9, Hid (((wq9.setCell ⟨gs, 0, none⟩ (.int .i64 a9.al)).setCell ⟨gs, 1, none⟩ (.slice A9 a9.nx.length c9)).setCell ⟨gs, 2, none⟩ (.slice B9 a9.ac.length d9) = w9) := ⟨_, hid rfl⟩
          rw [hw9.out] at hs9 hrd9
          replace ho9 := hid ho9
          replace hrq9 := hid hrq9
          replace hk9 := hid hk9
          replace hbq := hid hbq
          go_upto_region 10 with fail
          rw [hw9.out]
          clear x0 x1 x2 z0 z1 z2

          have y0 := hs9.out.blk.cell 0
          have y1 := hs9.out.blk.cell 1
          have y2 := hs9.out.blk.cell 2
          simp only [List.getElem?_toArray, List.getElem?_cons_zero, List.getElem?_cons_succ] at y0 y1 y2

          have hbl := hres.out.keep hs9.out.keep (by omega)
          have d0' := hbl.cell 0
          have d1' := hbl.cell 1
          have d2' := hbl.cell 2
          have f0 := hbl.frozen 0
          have f1 := hbl.frozen 1
          have f2 := hbl.frozen 2
          simp only [List.getElem?_toArray, List.getElem?_cons_zero, List.getElem?_cons_succ] at d0' d1' d2'
          have hltb := hbl.lt
          have hown := hs9.out.own
          rw [hzAe.out] at hown
          have hfin := hid (AuUp.ret (Q := AuSz 3000) (P' := P + 100000000) (hz9.up (by omega)) hown hrd9.out (by omega) ((KeepB.of_below hBA).trans hs9.out.keep) hR (.int .i64 a9.al) (.slice A9 a9.nx.length c9) (.slice B9 a9.ac.length d9))
          replace hbl := hid hbl
          replace hown := hid hown
          go_wp2
          refine bodyPost_ret (v := .agg #[.int .i64 a9.al, .slice A9 a9.nx.length c9, .slice B9 a9.ac.length d9]) (by simp [results, Tryd.results55, go_sem, d0', d1', d2']) rfl ?_
          exact hfin.out
        · have hqb2 : ((q3 : Int) == 0) = false := by simpa using hq2
          replace hq2 := hid hq2
          go_upto_region 10 with fail

          have y0 := hs3p.out.blk.cell 0
          have y1 := hs3p.out.blk.cell 1
          have y2 := hs3p.out.blk.cell 2
          simp only [List.getElem?_toArray, List.getElem?_cons_zero, List.getElem?_cons_succ] at y0 y1 y2

          have hbl := hres.out.keep hs3p.out.keep (by omega)
          have d0' := hbl.cell 0
          have d1' := hbl.cell 1
          have d2' := hbl.cell 2
          have f0 := hbl.frozen 0
          have f1 := hbl.frozen 1
          have f2 := hbl.frozen 2
          simp only [List.getElem?_toArray, List.getElem?_cons_zero, List.getElem?_cons_succ] at d0' d1' d2'
          have hltb := hbl.lt
          have hown := hs3p.out.own
          rw [hzAe.out] at hown
          have hfin := hid (AuUp.ret (Q := AuSz 3000) (P' := P + 100000000) (hz3'.up (by omega)) hown hrd3p.out (by omega) ((KeepB.of_below hBA).trans hs3p.out.keep) hR (.int .i64 a1.al) (.slice A1 a1.nx.length c1) (.slice B1 a1.ac.length d1))
          replace hbl := hid hbl
          replace hown := hid hown
          go_wp2
          refine bodyPost_ret (v := .agg #[.int .i64 a1.al, .slice A1 a1.nx.length c1, .slice B1 a1.ac.length d1]) (by simp [results, Tryd.results55, go_sem, d0', d1', d2']) rfl ?_
          exact hfin.out
    · have hji : (0 : Int) < (j : Int) := by omega
      have y0 := hs1.out.blk.cell 0
      have y1 := hs1.out.blk.cell 1
      have y2 := hs1.out.blk.cell 2
      simp only [List.getElem?_toArray, List.getElem?_cons_zero, List.getElem?_cons_succ] at y0 y1 y2
      go_wp2_with fail
      refine (l4Change_up R (P + 40000001 + (2 - j) * 4000000) (2002 - j) a1 A1 B1 c1 d1 wr (by omega) (by omega) hz1 hrd1.out hat1.out).mono ?_
      clear y0 y1 y2
      rintro e wq2 ⟨a2, v1, v2, xs2, rfl, hz2, ho2, hrq2, hk2⟩
      obtain ⟨A2, c2, B2, d2, e1, e2, -⟩ := ho2.at_
      subst e1 e2
      have hs2 := hid (hs1.out.assign hK hk2 ho2)
      have hbq := hs1.out.blk.keep hk2 hgsR
      have x0 := hbq.cell 0
      have x1 := hbq.cell 1
      have x2 := hbq.cell 2
      have z0 := hbq.frozen 0
      have z1 := hbq.frozen 1
      have z2 := hbq.frozen 2
      simp only [List.getElem?_toArray, List.getElem?_cons_zero, List.getElem?_cons_succ] at x0 x1 x2
      have hbql := hbq.lt
      have hrd2 := hid (hrq2.keep (((((KeepB.refl (fun b => b = gs) wq2).setCell ⟨gs, 0, none⟩ (.int .i64 a2.al) (fun _ => rfl)).setCell ⟨gs, 1, none⟩ (.slice A2 a2.nx.length c2) (fun _ => rfl)).setCell ⟨gs, 2, none⟩ (.slice B2 a2.ac.length d2) (fun _ => rfl))) (fun k hk => by omega))
      obtain ⟨w2, hw2⟩ : ∃ w2, Hid (((wq2.setCell ⟨gs, 0, none⟩ (.int .i64 a2.al)).setCell ⟨gs, 1, none⟩ (.slice A2 a2.nx.length c2)).setCell ⟨gs, 2, none⟩ (.slice B2 a2.ac.length d2) = w2) := ⟨_, hid rfl⟩
      rw [hw2.out] at hs2 hrd2
      replace ho2 := hid ho2
      replace hrq2 := hid hrq2
      replace hk2 := hid hk2
      replace hbq := hid hbq
      go_wp2_with fail
      rw [hw2.out]
      clear x0 x1 x2 z0 z1 z2
      go_wp2_with fail
      go_roundw
      case rel => exact ⟨j - 1, a2, xs2, A2, B2, c2, d2, by go_num, by omega, hs2.out, hz2.up (by omega), hrd2.out.more (by omega)⟩
      case measure => simp [intOf]; omega

end Go.Proofs.YtkoganldcmhopaaDoor

/- The drawing kit: DrawSystemOf, DrawMinimizeAutomaton. -/
namespace Go.Proofs.YtkoganldcmhopaaDoor
open Go.RowKit Go.BigFrame AG

/-- Some automaton comes back, made since. -/
def DrawAu (w : World) (e : Ending) (w' : World) : Prop := ∃ (a : Au) (A B : Option Addr) (c d : Nat) (xs : List RowV), e = .returned (a.val A c B d) ∧ AuSz 3000 a ∧ AuOwn w' w.heap.size (.slice A a.nx.length c) (.slice B a.ac.length d) a xs ∧ Below w.heap.size w w'
theorem DrawAu.ret {w w1 : World} {a : Au} {A B : Option Addr} {c d : Nat} {xs : List RowV} (h1 : AuSz 3000 a) (ho : AuOwn w1 (w.heap.size + 1) (.slice A a.nx.length c) (.slice B a.ac.length d) a xs) (hb : Below w.heap.size w w1) (u1 u2 u3 : Value) :
    DrawAu w (.returned (.agg #[.int .i64 a.al, .slice A a.nx.length c, .slice B a.ac.length d])) (((w1.setCell ⟨w.heap.size, 0, none⟩ u1).setCell ⟨w.heap.size, 1, none⟩ u2).setCell ⟨w.heap.size, 2, none⟩ u3) := by
  have hk2 : KeepB (fun b => b = w.heap.size) w1 (((w1.setCell ⟨w.heap.size, 0, none⟩ u1).setCell ⟨w.heap.size, 1, none⟩ u2).setCell ⟨w.heap.size, 2, none⟩ u3) := (((KeepB.refl _ w1).setCell _ _ (by simp)).setCell _ _ (by simp)).setCell _ _ (by simp)
  exact ⟨a, A, B, c, d, xs, rfl, h1, (ho.keepNew hk2 (fun b e => by omega)).base (by omega), ((hb.setCell (by simp) _).setCell (by simp) _).setCell (by simp) _⟩

set_option maxRecDepth 100000 in
set_option maxHeartbeats 4000000 in
theorem drawMinimizeAutomaton_any (A : Option Addr) (n c : Nat) (w : World) (hn : n ≤ c) (hc : c ≤ 9223372036854775807) (hx : CodeAt w A n) :
    Calls Tryd.prog 39 #[.slice A n c] w (DrawAu w) := by
  have hres := Blk.new w 26 #[.int .i64 0, .slice none 0 0, .slice none 0 0]
  have hb0 : Below w.heap.size w (w.alloc (.cells #[.int .i64 0, .slice none 0 0, .slice none 0 0] 26)) := (Below.refl _ _).alloc (Nat.le_refl _) _
  generalize hw0 : w.alloc (.cells #[.int .i64 0, .slice none 0 0, .slice none 0 0] 26) = w0 at hres hb0
  have hz0 : w0.heap.size = w.heap.size + 1 := by rw [← hw0]; simp
  have hx0 : CodeAt w0 A n := fun h => by
    obtain ⟨b, o, h1, h2, h3⟩ := hx h
    refine ⟨b, o, h1, by omega, fun i hi => ?_⟩
    obtain ⟨y, h4, h5⟩ := h3 i hi
    exact ⟨y, h4, by rw [hb0.cell (by simpa using h2)]; exact h5⟩
  replace hres := hid hres
  replace hz0 := hid hz0
  replace hx := hid hx
  replace hx0 := hid hx0
  go_enter Tryd.func39, Tryd.ntmps39
  go_wp2_with fail
  refine (l19Open_any A n c w0 hn hc hx0.out).mono ?_
  rintro e w1 ⟨R, rfl, hR, hr1, hb1⟩
  replace hr1 := hid hr1
  have hz1 := hb1.size
  clear hw0
  go_wp2_with fail
  refine (l5Any_up R 0 w1 (by omega) hr1.out).mono ?_
  rintro e w2 ⟨a, v1, v2, xs, rfl, hsz, ho, -, hk2⟩
  obtain ⟨A1, c1, B1, d1, e1, e2, -⟩ := ho.at_
  subst e1 e2
  have hB2 : Below w0.heap.size w0 w2 := KeepB.below hb1 hk2 hb1.size (fun k hk => by omega)
  have hbl := hres.out.below hB2 (by have := hz0.out; omega)
  have d0 := hbl.cell 0
  have d1' := hbl.cell 1
  have d2 := hbl.cell 2
  have f0 := hbl.frozen 0
  have f1 := hbl.frozen 1
  have f2 := hbl.frozen 2
  simp only [List.getElem?_toArray, List.getElem?_cons_zero, List.getElem?_cons_succ] at d0 d1' d2
  have hlt := hbl.lt
  have hfin := hid (DrawAu.ret (w := w) hsz (ho.base (by have := hz0.out; omega)) (hb0.trans (hB2.mono hb0.size)) (.int .i64 a.al) (.slice A1 a.nx.length c1) (.slice B1 a.ac.length d1))
  replace ho := hid ho
  replace hk2 := hid hk2
  replace hB2 := hid hB2
  replace hbl := hid hbl
  replace hb0 := hid hb0
  go_wp2
  refine bodyPost_ret (v := .agg #[.int .i64 a.al, .slice A1 a.nx.length c1, .slice B1 a.ac.length d1]) (by simp [results, Tryd.results39, go_sem, d0, d1', d2]) rfl ?_
  exact hfin.out

end Go.Proofs.YtkoganldcmhopaaDoor

/- slices.Clone at []bool and []int. -/
namespace AG
open Go Go.RowKit
theorem wpList_append_copy {P : Program} {ops : Array Oper} {rest : List Oper} {o : Oper} {a : Act} {w : World} {Q : Exit → Act → World → Prop} (hgd : o.guard = none) (s x : Operand) (t : TypeId)
    (ho : o.op = .call { callee := .builtin .append, args := #[s, x], argTypes := #[t, t] })
    (base : Nat) (e : TypeId) (i : TypeInfo) (z : Value) (size bytes : Nat) (ht : P.underlying t = some (.slice e)) (hi : P.info? e = some i) (hz : i.zero = some z)
    (hsize : i.size = size) (hby : i.bytes = bytes) (hzs : z.cells.size = size) (g : Nat) (hs : a.eval s = .slice (some ⟨g, 0, none⟩) 0 0) (hg : w.heap[g]? = some (.cells #[] e (0, 0))) (hbg : base ≤ g) (hbase : base ≤ w.heap.size)
    (A : Option Addr) (m c : Nat) (news : List Value) (hx : a.eval x = .slice A m c) (hl : news.length = m * size) (hA : 0 < m → ∃ a, A = some a ∧ ∀ j u, news[j]? = some u → w.cell? (a.add j) = some u) (h1 : ∀ u ∈ news, u.oneCell' = true)
    (h63 : m ≤ maxLen) (hbytes : m * bytes ≤ 140737488355328)
    (h : ∀ v' w', w'.ownsRow base e size v' m news → Below w.heap.size w w' → wpList P ops Q rest (a.put o.dst v') w') :
    wpList P ops Q (o :: rest) a w := by
  refine wpList_plain hgd fun K hK => ?_
  obtain ⟨v', w', hr, h2, h3⟩ := run_append_copy (P := P) w base t o.type e i z size bytes ht hi hz hsize hby hzs g hg hbg hbase A m c news hl hA h1 h63 hbytes
  unfold Oper.wp execOp
  simp only [ho, resolve, invoke, builtin, Sem.run_bind, Sem.run_pure, Result.andThen_ok, List.map_toArray, List.map_cons, List.map_nil, hs, hx, hr]
  exact hK _ _ (h v' w' h2 h3)
end AG
namespace Go.Proofs.YtkoganldcmhopaaDoor
open Go.RowKit Go.BigFrame AG
/-- A copy, made since. -/
def CloneP (w : World) (T : TypeId) (n : Nat) (vs : List Value) (e : Ending) (w' : World) : Prop := ∃ v, e = .returned v ∧ w'.ownsRow w.heap.size T 1 v n vs ∧ Below w.heap.size w w'

set_option maxRecDepth 100000 in
set_option maxHeartbeats 4000000 in
theorem clone_bool (B : Option Addr) (xs : List Bool) (d : Nat) (w : World) (hn : xs.length ≤ 1000000) (hd : xs.length ≤ d) (hd2 : d ≤ 9223372036854775807) (hx : BoolsAt w w.heap.size B xs) :
    Calls Tryd.prog 125 #[.slice B xs.length d] w (CloneP w 4 xs.length (boolVals xs)) := by
  obtain ⟨b0, hb, bz0, bz1, bz2⟩ := info_parts infoBools
  obtain ⟨m, hm⟩ : ∃ m, Hid (m = xs.length) := ⟨_, hid rfl⟩
  rw [← hm.out] at hn hd ⊢
  have hnews := hid (fun h : 0 < xs.length => BoolsAt.news hx h)
  replace hx := hid hx
  have q22 : ∀ (w : World) (a : Option Addr) (n c n' c' : Nat), (binOp .eql 24 (.slice a n c) (.slice none n' c')).run Tryd.prog w = .ok (.bool a.isNone) w := fun w a n c n' c' => Lib.run_eql_slice_nil w _ _ a n c n' c' Tryd.underlying24
  cases B with
  | none =>
    have hm0 : m = 0 := by
      rcases Nat.eq_zero_or_pos m with h | h
      · exact h
      · obtain ⟨a, ha, -⟩ := hnews.out (by rw [← hm.out]; exact h)
        cases ha
    have hxs : xs = [] := List.eq_nil_of_length_eq_zero (by have := hm.out; omega)
    subst hm0 hxs
    go_enter Tryd.func125, Tryd.ntmps125
    go_wp2_with fail
    go_ret
    exact ⟨_, rfl, World.ownsRow_nil _ _ _ _, Below.refl _ _⟩
  | some ad =>
    go_enter Tryd.func125, Tryd.ntmps125
    have hb1 : Below w.heap.size w (w.alloc (.cells #[] 4)) := (Below.refl _ _).alloc (Nat.le_refl _) _
    have hfc := heap_alloc_new w (.cells #[] 4)
    replace hfc := hid hfc
    replace hb1 := hid hb1
    have hxl := hid (hx.out.later hb1.out)
    go_wp2_with (at_builtin; refine wpList_append_copy rfl _ _ 24 rfl w.heap.size 4 b0 (.bool false) 1 1 Tryd.underlying24 hb bz0 bz1 bz2 rfl w.heap.size rfl hfc.out (Nat.le_refl _) (by simp) (some ad) m d (boolVals xs) rfl (by rw [boolVals_len, Nat.mul_one]; exact hm.out.symm) (fun h => BoolsAt.news hxl.out (by rw [← hm.out]; exact h)) (boolVals_one _) (by unfold maxLen; omega) (by omega) ?_; intro v5 w5 hO5 hB5; replace hO5 := hid hO5; replace hB5 := hid hB5)
    go_ret
    exact ⟨_, rfl, hO5.out, hb1.out.trans (hB5.out.mono (by simp))⟩

set_option maxRecDepth 100000 in
set_option maxHeartbeats 4000000 in
theorem clone_int (B : Option Addr) (xs : List Int) (d : Nat) (w : World) (hn : xs.length ≤ 1000000) (hd : xs.length ≤ d) (hd2 : d ≤ 9223372036854775807) (hx : IntsAt w w.heap.size B xs) :
    Calls Tryd.prog 126 #[.slice B xs.length d] w (CloneP w 3 xs.length (intVals xs)) := by
  obtain ⟨b0, hb, bz0, bz1, bz2⟩ := info_parts infoInt
  obtain ⟨m, hm⟩ : ∃ m, Hid (m = xs.length) := ⟨_, hid rfl⟩
  rw [← hm.out] at hn hd ⊢
  have hnews := hid (fun h : 0 < xs.length => IntsAt.news hx h)
  replace hx := hid hx
  have q22 : ∀ (w : World) (a : Option Addr) (n c n' c' : Nat), (binOp .eql 52 (.slice a n c) (.slice none n' c')).run Tryd.prog w = .ok (.bool a.isNone) w := fun w a n c n' c' => Lib.run_eql_slice_nil w _ _ a n c n' c' Tryd.underlying52
  cases B with
  | none =>
    have hm0 : m = 0 := by
      rcases Nat.eq_zero_or_pos m with h | h
      · exact h
      · obtain ⟨a, ha, -⟩ := hnews.out (by rw [← hm.out]; exact h)
        cases ha
    have hxs : xs = [] := List.eq_nil_of_length_eq_zero (by have := hm.out; omega)
    subst hm0 hxs
    go_enter Tryd.func126, Tryd.ntmps126
    go_wp2_with fail
    go_ret
    exact ⟨_, rfl, World.ownsRow_nil _ _ _ _, Below.refl _ _⟩
  | some ad =>
    go_enter Tryd.func126, Tryd.ntmps126
    have hb1 : Below w.heap.size w (w.alloc (.cells #[] 3)) := (Below.refl _ _).alloc (Nat.le_refl _) _
    have hfc := heap_alloc_new w (.cells #[] 3)
    replace hfc := hid hfc
    replace hb1 := hid hb1
    have hxl := hid (hx.out.later hb1.out)
    go_wp2_with (at_builtin; refine wpList_append_copy rfl _ _ 52 rfl w.heap.size 3 b0 (.int .i64 0) 1 8 Tryd.underlying52 hb bz0 bz1 bz2 rfl w.heap.size rfl hfc.out (Nat.le_refl _) (by simp) (some ad) m d (intVals xs) rfl (by rw [intVals_len, Nat.mul_one]; exact hm.out.symm) (fun h => IntsAt.news hxl.out (by rw [← hm.out]; exact h)) (intVals_one _) (by unfold maxLen; omega) (by omega) ?_; intro v5 w5 hO5 hB5; replace hO5 := hid hO5; replace hB5 := hid hB5)
    go_ret
    exact ⟨_, rfl, hO5.out, hb1.out.trans (hB5.out.mono (by simp))⟩

end Go.Proofs.YtkoganldcmhopaaDoor

/- impl.copyAutomaton. -/
namespace Go.Proofs.YtkoganldcmhopaaDoor
open Go.RowKit Go.BigFrame AG

set_option maxRecDepth 100000 in
set_option maxHeartbeats 8000000 in
theorem copyAutomaton_any (a : Au) (A B : Option Addr) (c d : Nat) (w : World) (hsz : AuSz 1000000 a) (ha : AuAt w A c B d a) :
    Calls Tryd.prog 65 #[a.val A c B d] w (AuNew a w) := by
  obtain ⟨i0, hi, hz0, hz1, hz2⟩ := info_parts infoInt
  obtain ⟨j0, hj, jz0, jz1, jz2⟩ := info_parts infoRows
  obtain ⟨b0, hb, bz0, bz1, bz2⟩ := info_parts infoBools
  obtain ⟨s1, s2, s3⟩ := hsz
  obtain ⟨w0, hw0, hz00, hB0, hS, -⟩ := boxed2 w #[Value.int IntKind.i64 a.al, Value.slice A a.nx.length c, Value.slice B a.ac.length d] 26 #[Value.int IntKind.i64 0, Value.slice none 0 0, Value.slice none 0 0] 26
  have hres : Hid (Blk w0 (w.heap.size + 1) 26 #[Value.int IntKind.i64 0, Value.slice none 0 0, Value.slice none 0 0]) := hid (by
    rw [← hw0]
    have := Blk.new (w.alloc (.cells #[Value.int IntKind.i64 a.al, Value.slice A a.nx.length c, Value.slice B a.ac.length d] 26)) 26 #[Value.int IntKind.i64 0, Value.slice none 0 0, Value.slice none 0 0]
    simpa using this)
  have hz0e : Hid (w0.heap.size = w.heap.size + 2) := hid (by rw [← hw0]; simp)
  have ha0 := hid (ha.later hB0)
  have hcl := ha.cl
  have hcm := ha.cm
  have hdl := ha.dl
  have hdm := ha.dm
  have p0 := hS 0 _ rfl _ (Below.refl _ _)
  have p1 := hS 1 _ rfl _ (Below.refl _ _)
  have p2 := hS 2 _ rfl _ (Below.refl _ _)
  replace ha := hid ha
  have q0 := GK.BI.cell p0
  have q2 := GK.BI.cell p2
  unfold AG.Au.val
  go_enter Tryd.func65, Tryd.ntmps65
  go_upto_region 1 with fail
  clear p0 p1 p2 hw0
  have hacc0 := hid ha0.out.acc
  refine GK.wp_region 7 [7] 200 (KeepB fun _ => False) (GK.BI w0) (fun _ u w' => w'.ownsRow w0.heap.size 4 1 u a.ac.length (boolVals a.ac)) (by kernel_rfl) (by kernel_rfl) (GK.BI.way w0) (by decide) (Below.refl _ _).drew ?_
  simp only [List.take_succ_cons, List.take_zero]
  (repeat (refine GK.grow_quiet w0 (by rfl) (by rfl) ?_; intro K hK; go_big_quiet_op; go_big_quiet_on))
  refine GK.grow_call (by rfl) GK.own_steady (fun m wq hm hbq hf => ?_) ?_
  · go_simp
    exact ⟨rfl, (clone_bool B a.ac d wq s2 hdl hdm (hacc0.out.later hbq)).mono fun e w' ⟨v, h1, h2, h3⟩ => ⟨v, h1, GK.BI.after hbq h3, own_base h2 (GK.BI.size hbq)⟩⟩
  rintro v ⟨_, wq, -, hv⟩
  obtain ⟨A2, c2, hve, hc2, hc2'⟩ := own_slice hv
  subst hve
  clear hv wq
  simp only [Act.put, List.setIfInBounds_toArray, List.set_cons_zero, List.set_cons_succ]
  (repeat (refine GK.grow_quiet w0 (by rfl) (by rfl) ?_; intro K hK; go_big_quiet_op; go_big_quiet_on))
  refine GK.grow_new (K := fun _ => False) (by rfl) _ (fun b => .pointer (some ⟨b, 0, none⟩)) 26 #[.int .i64 0, .slice none 0 0, .slice none 0 0] (fun _ => by go_simp) rfl (fun _ _ o h => GK.BI.alloc o h) (fun _ _ h => GK.BI.size h) (fun _ h => h.elim) (fun gs hgs => ?_)
  simp only [Act.put, List.setIfInBounds_toArray, List.set_cons_zero, List.set_cons_succ]
  refine GK.grow_nil ?_
  intro w2 hw2 hf
  simp only [List.filterMap_cons, List.filterMap_nil, List.getElem?_cons_zero, List.getElem?_cons_succ]
  obtain ⟨gs', e1, -, hblk⟩ := hf _ List.mem_cons_self
  cases e1
  have hown := hf _ (List.mem_cons_of_mem _ List.mem_cons_self)
  replace hw2 : Below w0.heap.size w0 w2 := hw2
  clear hf q0 q2
  have hblk' : Blk w2 gs 26 #[.int .i64 0, .slice none 0 0, .slice none 0 0] := hblk
  have hown' : w2.ownsRow w0.heap.size 4 1 (.slice A2 a.ac.length c2) a.ac.length (boolVals a.ac) := hown
  have hgl := hblk'.lt
  have c0 := hblk'.cell 0
  have c1 := hblk'.cell 1
  have c2x := hblk'.cell 2
  have f0 := hblk'.frozen 0
  have f1 := hblk'.frozen 1
  have f2 := hblk'.frozen 2
  simp only [List.getElem?_toArray, List.getElem?_cons_zero, List.getElem?_cons_succ] at c0 c1 c2x
  have hneO : (Value.slice A2 a.ac.length c2).ownBlock ≠ some gs := fun e => own_ne hown' hblk' (by decide) gs e rfl
  obtain ⟨w3, hw3⟩ : ∃ w3, Hid (((w2.setCell ⟨gs, 0, none⟩ (.int .i64 a.al)).setCell ⟨gs, 1, none⟩ (.slice none 0 0)).setCell ⟨gs, 2, none⟩ (.slice A2 a.ac.length c2) = w3) := ⟨_, hid rfl⟩
  have hst : Hid (AuSt (fun _ => False) w0 w3 gs (.slice none 0 0) (.slice A2 a.ac.length c2) ⟨a.al, [], a.ac⟩ []) := hid (by
    rw [← hw3.out]
    exact ⟨KeepB.of_below (((hw2.setCell (by simpa using hgs) _).setCell (by simpa using hgs) _).setCell (by simpa using hgs) _), hgs, ⟨⟨World.ownsRow_nil _ _ _ _, fun x hx => (by cases hx), List.Pairwise.nil⟩, rfl, ownsRow_setCell_other (ownsRow_setCell_other (ownsRow_setCell_other hown' hneO _) hneO _) hneO _⟩,
      by simpa using ((hblk'.set_ 0 (.int .i64 a.al)).set_ 1 (.slice none 0 0)).set_ 2 (.slice A2 a.ac.length c2)⟩)
  have hB03 : ∀ {wr : World} {v1 v2 : Value} {x : Au} {ys : List RowV}, AuSt (fun _ => False) w0 wr gs v1 v2 x ys → Below w0.heap.size w0 wr := fun h => ⟨h.keep.os, h.keep.tape, h.keep.output, h.keep.size, fun i hi => h.keep.block i hi (fun h => h)⟩
  replace hblk := hid hblk
  replace hown := hid hown
  replace hown' := hid hown'
  replace hblk' := hid hblk'
  go_upto_region 2 with fail
  rw [hw3.out]
  have p1 := hS 1 _ rfl _ ((hB03 hst.out).mono hz00)
  clear c0 c1 c2x f0 f1 f2
  go_wp2_with fail
  clear p1
  go_loopw [15] (fun iv wr => ∃ (i : Nat) (v1 : Value) (xs : List RowV), iv = .int .i64 (i : Nat) ∧ i ≤ a.nx.length ∧ AuSt (fun _ => False) w0 wr gs v1 (.slice A2 a.ac.length c2) ⟨a.al, a.nx.take i, a.ac⟩ xs) (fun iv _ => a.nx.length - (intOf iv).toNat)
  case atStart => exact ⟨0, _, _, rfl, by omega, hst.out⟩
  case round =>
    obtain ⟨i, v1, xs, rfl, hi', hs⟩ := hrel
    obtain ⟨A1, c1, e1, -, -⟩ := own_slice hs.own.rows.own
    subst e1
    have hbr := hB03 hs
    by_cases hlt : i < a.nx.length
    · obtain ⟨bR, oR, hRe, hbR, hER⟩ := ha0.out.rows (by omega)
      subst hRe
      obtain ⟨Ai, ci, r0, h1, h2, h3⟩ := hER i hlt
      rw [← hbr.cell (by simpa using hbR)] at r0
      have htk : Hid (a.nx.take (i + 1) = a.nx.take i ++ [a.nx[i]]) := hid (List.take_succ_eq_append_getElem hlt)
      obtain ⟨r, hr⟩ : ∃ r, Hid (r = a.nx[i]) := ⟨_, hid rfl⟩
      have hrl := s3 _ (List.getElem_mem hlt)
      rw [← hr.out] at r0 h1 h3 htk hrl
      have hxl : xs.length ≤ 1000000 := by have := hs.len; have h4 : (a.nx.take i).length ≤ i := by rw [List.length_take]; omega
                                           show xs.length ≤ _; have h5 : xs.length = (a.nx.take i).length := this; omega
      have k1 : (0 : Int) ≤ (i : Int) ∧ (i : Int) < (a.nx.length : Int) := by omega
      have k2 := hs.blk.cell 1
      simp only [List.getElem?_toArray, List.getElem?_cons_zero, List.getElem?_cons_succ] at k2
      have hgsr := hs.blk.lt
      have q1 := GK.BI.cell k2
      have h3r := hid (h3.later hbr)
      have hlow : Hid (∀ y ∈ xs, ∀ k, y.v.ownBlock = some k → k < wr.heap.size) := hid fun y hy k e => (hs.rowLt hy e).2
      have hbrz := hbr.size
      replace hs := hid hs
      replace hER := hid hER
      replace h3 := hid h3
      go_upto_region 5 with fail
      clear k2 r0
      refine GK.wp_region 5 [5, 6, 7] 200 (KeepB fun _ => False) (GK.BI wr) (fun _ u w' => w'.ownsRow wr.heap.size 3 1 u r.length (intVals r)) (by kernel_rfl) (by kernel_rfl) (GK.BI.way wr) (by decide) (Below.refl _ _).drew ?_
      simp only [List.take_succ_cons, List.take_zero]
      (repeat (refine GK.grow_quiet wr (by rfl) (by rfl) ?_; intro K hK; go_big_quiet_op; go_big_quiet_on))
      refine GK.grow_call (by rfl) GK.own_steady (fun m wq hm hbq hf => ?_) ?_
      · go_simp
        exact ⟨rfl, (clone_int Ai r ci wq hrl h1 h2 (h3r.out.later hbq)).mono fun e w' ⟨v, h1, h2, h3⟩ => ⟨v, h1, GK.BI.after hbq h3, own_base h2 (GK.BI.size hbq)⟩⟩
      rintro v ⟨_, wq, -, hv⟩
      obtain ⟨Ar, cr, hve, hcr, hcr'⟩ := own_slice hv
      subst hve
      clear hv wq
      simp only [Act.put, List.setIfInBounds_toArray, List.set_cons_zero, List.set_cons_succ]
      refine GK.grow_new (K := fun _ => False) (by rfl) _ (fun b => .slice (some ⟨b, 0, none⟩) 1 1) 52 #[.slice Ar r.length cr] (fun _ => by go_simp) rfl (fun _ _ o h => GK.BI.alloc o h) (fun _ _ h => GK.BI.size h) (fun _ h => h.elim) (fun bb hbb2 => ?_)
      simp only [Act.put, List.setIfInBounds_toArray, List.set_cons_zero, List.set_cons_succ]
      refine GK.grow_nil ?_
      intro w4 hw4 hf
      simp only [List.filterMap_cons, List.filterMap_nil, List.getElem?_cons_zero, List.getElem?_cons_succ]
      obtain ⟨bb', e1, -, hblk4⟩ := hf _ List.mem_cons_self
      cases e1
      have hor : w4.ownsRow wr.heap.size 3 1 (.slice Ar r.length cr) r.length (intVals r) := hf _ (List.mem_cons_of_mem _ List.mem_cons_self)
      replace hw4 : Below wr.heap.size wr w4 := hw4
      clear hf q1
      have hs4 := hs.out.later hw4
      have hown4 := hs4.own.rows.own
      have hbl4 := hs4.blk
      have ag : (Value.slice A1 xs.length c1).ownBlock ≠ some gs := fun e => own_ne hown4 hbl4 (by decide) _ e rfl
      have hbl4' := hbl4.lt
      have k2 := hbl4.cell 1
      have f2 := hbl4.frozen 1
      simp only [List.getElem?_toArray, List.getElem?_cons_zero, List.getElem?_cons_succ] at k2
      replace hs4 := hid hs4
      have hz4 := hw4.size
      have hor' := hid hor
      clear hor
      refine wpList_append_own_at _ (by rfl) _ _ 23 (by rfl) w0.heap.size 52 j0 (.slice none 0 0) 1 24 Tryd.underlying23 hj jz0 jz1 jz2 rfl (by decide) _ xs.length (rowVals xs) (by rfl) hown4 ⟨bb, 0, none⟩ 1 1 [.slice Ar r.length cr] (by rfl) (by rfl) (World.news_of_block hblk4) ?c1 ?c3 ?c4 ?c5 ?_
      case c1 => simp [Value.oneCell']
      case c3 => unfold maxLen; omega
      case c4 => omega
      case c5 => have := hs4.out.keep.size; omega
      intro v9 w9 hown9 hgrow hnil9 hat9
      obtain ⟨A9, c9, hv9, -, -⟩ := own_slice hown9
      subst hv9
      have c2'' : w9.cell? ⟨gs, 1, none⟩ = some (.slice A1 xs.length c1) := by rw [hgrow.cell_far _ (by simpa using hbl4') (Ne.symm ag)]; exact k2
      have f2'' : w9.frozen? ⟨gs, 1, none⟩ = false := by rw [hgrow.frozen_far _ (by simpa using hbl4') (Ne.symm ag)]; exact f2
      have hfin := hid (hs4.out.row (x := ⟨r, Ar, cr⟩) (own_base (show w4.ownsRow wr.heap.size 3 1 (.slice Ar r.length cr) r.length (intVals r) from hor'.out) hbrz) (fun y hy k e e2 => by have := hlow.out y hy k e; have := (hor'.out.lt k e2).1; omega) hgrow hown9)
      clear hown4 hbl4 hown9 hgrow k2 f2
      go_wp2_with fail
      go_roundw
      case rel => exact ⟨i + 1, _, _, by go_num, by omega, by rw [htk.out]; exact hfin.out⟩
      case measure => simp [intOf]; omega
    · rw [List.take_of_length_le (by omega)] at hs
      have hxl : xs.length = a.nx.length := hs.len
      rw [hxl] at hs
      have k0 := hs.blk.cell 0
      have k1 := hs.blk.cell 1
      have k2 := hs.blk.cell 2
      have hbl := hres.out.below hbr (by have := hz0e.out; omega)
      have d0 := hbl.cell 0
      have d1 := hbl.cell 1
      have d2 := hbl.cell 2
      have f0 := hbl.frozen 0
      have f1 := hbl.frozen 1
      have f2 := hbl.frozen 2
      simp only [List.getElem?_toArray, List.getElem?_cons_zero, List.getElem?_cons_succ] at d0 d1 d2 k0 k1 k2
      have hltb := hbl.lt
      have hfin : Hid (AuNew a w (.returned (.agg #[.int .i64 a.al, .slice A1 a.nx.length c1, .slice A2 a.ac.length c2])) (((wr.setCell ⟨w.heap.size + 1, 0, none⟩ (.int .i64 a.al)).setCell ⟨w.heap.size + 1, 1, none⟩ (.slice A1 a.nx.length c1)).setCell ⟨w.heap.size + 1, 2, none⟩ (.slice A2 a.ac.length c2))) := hid (by
        have hk2 : KeepB (fun b => b = w.heap.size + 1) wr (((wr.setCell ⟨w.heap.size + 1, 0, none⟩ (.int .i64 a.al)).setCell ⟨w.heap.size + 1, 1, none⟩ (.slice A1 a.nx.length c1)).setCell ⟨w.heap.size + 1, 2, none⟩ (.slice A2 a.ac.length c2)) := (((KeepB.refl _ wr).setCell _ _ (by simp)).setCell _ _ (by simp)).setCell _ _ (by simp)
        refine ⟨_, _, xs, rfl, (hs.own.keepNew hk2 (fun b e => by have := hz0e.out; omega)).base (by have := hz0e.out; omega), ?_⟩
        exact (((hB0.trans (hbr.mono (by have := hz0e.out; omega))).setCell (by simp) _).setCell (by simp) _).setCell (by simp) _)
      replace hs := hid hs
      replace hxl := hid hxl
      clear hbl
      go_wp2
      refine bodyPost_ret (v := .agg #[.int .i64 a.al, .slice A1 a.nx.length c1, .slice A2 a.ac.length c2]) (by simp [results, Tryd.results65, go_sem, d0, d1, d2]) rfl ?_
      exact hfin.out

end Go.Proofs.YtkoganldcmhopaaDoor

/- A system with only some of its states: the program's subSystem, the reference's l2Keep. -/
namespace Go.Proofs.YtkoganldcmhopaaDoor
open Go.RowKit Go.BigFrame AG

/-- The result under way: its own block gs, its edges a row that the call owns. -/
structure SubSt (w0 wr : World) (gs : Nat) (al st : Int) (v : Value) (es : List Ed) : Prop where
  blk : Blk wr gs 30 #[.int .i64 al, .int .i64 st, v]
  own : wr.ownsRow w0.heap.size 66 3 v es.length (edCells es)
  low : w0.heap.size ≤ gs
  keep : Below w0.heap.size w0 wr
theorem SubSt.later {w0 wr w1 : World} {gs : Nat} {al st : Int} {v : Value} {es : List Ed} (h : SubSt w0 wr gs al st v es) (hb : Below wr.heap.size wr w1) : SubSt w0 w1 gs al st v es :=
  ⟨h.blk.below hb h.blk.lt, own_later h.own hb, h.low, h.keep.trans (hb.mono h.keep.size)⟩
theorem SubSt.add {w0 wr w1 : World} {gs gg cap : Nat} {al st : Int} {v : Value} {es : List Ed} {x : Ed} (h : SubSt w0 wr gs al st v es)
    (hown : w1.ownsRow w0.heap.size 66 3 (.slice (some ⟨gg, 0, none⟩) (es.length + 1) cap) (es.length + 1) (edCells es ++ [.int .i64 x.f, .int .i64 x.l, .int .i64 x.t])) (hg : wr.grownBy w1 v.ownBlock) :
    SubSt w0 (w1.setCell ⟨gs, 2, none⟩ (.slice (some ⟨gg, 0, none⟩) (es.length + 1) cap)) gs al st (.slice (some ⟨gg, 0, none⟩) (es.length + 1) cap) (es ++ [x]) := by
  have hne : v.ownBlock ≠ some gs := fun e => own_ne h.own h.blk (by decide) gs e rfl
  have hb1 : Blk w1 gs 30 #[.int .i64 al, .int .i64 st, v] := by
    have := hg.block gs h.blk.lt (Ne.symm hne)
    exact this.trans h.blk
  have hne2 : (Value.slice (some ⟨gg, 0, none⟩) (es.length + 1) cap).ownBlock ≠ some gs := fun e => own_ne hown hb1 (by decide) gs e rfl
  refine ⟨by simpa using hb1.set_ 2 (.slice (some ⟨gg, 0, none⟩) (es.length + 1) cap), ?_, h.low, ?_⟩
  · have e : (es ++ [x]).length = es.length + 1 := by simp
    rw [e, edCells_append]
    exact ownsRow_setCell_other hown hne2 _
  · exact Below.setCell (h.keep.grown hg h.keep.size (fun k hk => (h.own.lt k hk).1)) (by have := h.low; simpa using this) _

end Go.Proofs.YtkoganldcmhopaaDoor

/- The reference's SystemOf. -/
namespace Go.Proofs.YtkoganldcmhopaaDoor
open Go.RowKit Go.BigFrame AG

def SoPost (w : World) (x : Sy) (ok : Bool) (e : Ending) (w' : World) : Prop := ∃ (A : Option Addr) (c : Nat), e = .returned (.tuple #[x.val A c, .bool ok]) ∧ x.es.length ≤ c ∧ c ≤ 9223372036854775807 ∧ EdsAt w' w'.heap.size A x.es ∧ FreshA w.heap.size A ∧ Below w.heap.size w w'
def SoOwn (w : World) (x : Sy) (ok : Bool) (e : Ending) (w' : World) : Prop := ∃ (A : Option Addr) (c : Nat), e = .returned (.tuple #[x.val A c, .bool ok]) ∧ OwnEds w' w.heap.size (.slice A x.es.length c) x.es ∧ Below w.heap.size w w'
theorem SoOwn.read {w : World} {x : Sy} {ok : Bool} {e : Ending} {w' : World} (h : SoOwn w x ok e w') : SoPost w x ok e w' := by
  obtain ⟨A, c, h1, h2, h3⟩ := h
  obtain ⟨A', c', e', k1, k2, k3, k4⟩ := OwnEds.read h2
  cases e'
  exact ⟨A, c, h1, k1, k2, k3, k4, h3⟩

/-- The system under way, and the letters. -/
structure SoSt (w0 wr : World) (gs : Nat) (al st : Int) (v : Value) (es : List Ed) (lv : Value) (L : List Nat) : Prop where
  sub : SubSt w0 wr gs al st v es
  list : OwnNats wr w0.heap.size lv L
theorem SoSt.later {w0 wr w1 : World} {gs : Nat} {al st : Int} {v lv : Value} {es : List Ed} {L : List Nat} (h : SoSt w0 wr gs al st v es lv L) (hb : Below wr.heap.size wr w1) : SoSt w0 w1 gs al st v es lv L := ⟨h.sub.later hb, own_later h.list hb⟩
theorem SoSt.add {w0 wr w1 : World} {gs gg cap : Nat} {al st : Int} {v lv : Value} {es : List Ed} {L : List Nat} {x : Ed} (h : SoSt w0 wr gs al st v es lv L)
    (hown : w1.ownsRow w0.heap.size 66 3 (.slice (some ⟨gg, 0, none⟩) (es.length + 1) cap) (es.length + 1) (edCells es ++ [.int .i64 x.f, .int .i64 x.l, .int .i64 x.t])) (hg : wr.grownBy w1 v.ownBlock) :
    SoSt w0 (w1.setCell ⟨gs, 2, none⟩ (.slice (some ⟨gg, 0, none⟩) (es.length + 1) cap)) gs al st (.slice (some ⟨gg, 0, none⟩) (es.length + 1) cap) (es ++ [x]) lv L := by
  have hbl : wr.grownBy w1 v.ownBlock := hg
  refine ⟨h.sub.add hown hg, ?_⟩
  have k2 : KeepB (fun b => v.ownBlock = some b ∨ b = gs) wr (w1.setCell ⟨gs, 2, none⟩ (.slice (some ⟨gg, 0, none⟩) (es.length + 1) cap)) := ((((KeepB.refl _ wr).grown hg (fun k hk _ => hk)).mono fun _ h => .inl h).setCell _ _ fun _ => .inr rfl)
  exact own_keep h.list k2 fun g hg hk => by
    rcases hk with hk | hk
    · exact own_ne_own h.list h.sub.own (by decide) g g hg hk rfl
    · exact own_ne h.list h.sub.blk (by decide) g hg hk

end Go.Proofs.YtkoganldcmhopaaDoor

/- The program's SystemOf. -/
namespace Go.Proofs.YtkoganldcmhopaaDoor
open Go.RowKit Go.BigFrame AG

structure SoSt2 (w0 wr : World) (gs : Nat) (al st : Int) (v : Value) (es : List Ed) (lv : Value) (L : List Nat) (mv : Value) (M : List Nat) : Prop where
  so : SoSt w0 wr gs al st v es lv L
  mem : OwnNats wr w0.heap.size mv M
theorem SoSt2.later {w0 wr w1 : World} {gs : Nat} {al st : Int} {v lv mv : Value} {es : List Ed} {L M : List Nat} (h : SoSt2 w0 wr gs al st v es lv L mv M) (hb : Below wr.heap.size wr w1) : SoSt2 w0 w1 gs al st v es lv L mv M := ⟨h.so.later hb, own_later h.mem hb⟩
theorem SoSt2.add {w0 wr w1 : World} {gs gg cap : Nat} {al st : Int} {v lv mv : Value} {es : List Ed} {L M : List Nat} {x : Ed} (h : SoSt2 w0 wr gs al st v es lv L mv M)
    (hown : w1.ownsRow w0.heap.size 66 3 (.slice (some ⟨gg, 0, none⟩) (es.length + 1) cap) (es.length + 1) (edCells es ++ [.int .i64 x.f, .int .i64 x.l, .int .i64 x.t])) (hg : wr.grownBy w1 v.ownBlock) :
    SoSt2 w0 (w1.setCell ⟨gs, 2, none⟩ (.slice (some ⟨gg, 0, none⟩) (es.length + 1) cap)) gs al st (.slice (some ⟨gg, 0, none⟩) (es.length + 1) cap) (es ++ [x]) lv L mv M :=
  ⟨h.so.add hown hg, (SoSt.add (lv := mv) (L := M) ⟨h.so.sub, h.mem⟩ hown hg).list⟩

end Go.Proofs.YtkoganldcmhopaaDoor

/- The two tables of math/bits that the cards list: what a walk reads of them, and a world that holds them. -/
namespace Go.Proofs.YtkoganldcmhopaaDoor
open Go.ChangeShapes Go.WideShapes Go.ChangeAt Go.RowKit AG

theorem g64 : Tryd.prog.globalNamed "math/bits.deBruijn64tab" = some 1 := by kernel_rfl
theorem g64Type : (Tryd.prog.globals[1]?).map (·.type) = some 177 := by kernel_rfl
theorem g64Under : Tryd.prog.underlying 177 = some (.array 64 5) := by kernel_rfl
theorem u8Under : Tryd.prog.underlying 5 = some (.int .u8) := by kernel_rfl
theorem u8Cells : Tryd.prog.cellsOf 5 = 1 := by kernel_rfl
theorem g64Cells : Tryd.prog.cellsOf 177 = 64 := by kernel_rfl

def layTab (zs : List Nat) : Obj → Obj
  | .cells _ t frozen => .cells (zs.map fun n => Value.int .u8 (Int.ofNat n)).toArray t frozen
  | o => o

theorem tab_of_laid3 {W : World} (h : laidMetH Tryd.prog [("math/bits.deBruijn32tab", Rows.laid_math_bits_deBruijn32tab), ("math/bits.deBruijn64tab", Rows.laid_math_bits_deBruijn64tab), ("internal/strconv.uint64pow10", Rows.laid_internal_strconv_uint64pow10)] W) : Tab W := by
  have h1 : laidMet Tryd.prog [("math/bits.deBruijn32tab", Rows.laid_math_bits_deBruijn32tab), ("math/bits.deBruijn64tab", Rows.laid_math_bits_deBruijn64tab), ("internal/strconv.uint64pow10", Rows.laid_internal_strconv_uint64pow10)] W := h
  have h2 : laidMet Tryd.prog (("math/bits.deBruijn64tab", Lib.tabData .u8 (Lib.deBruijn64tab.map Int.ofNat)) :: [("internal/strconv.uint64pow10", Rows.laid_internal_strconv_uint64pow10)]) W := laidMet.tail h1
  have h3 := Lib.tabIs_of_head g64 g64Type g64Under u8Under u8Cells g64Cells h2
  intro j hj
  rw [h3.cell g64 j (by simpa using hj)]
  simp [List.getD, hj]
def layTabW (zs : List Nat) : Obj → Obj
  | .cells _ t frozen => .cells (zs.map fun n => Value.int .u64 (Int.ofNat n)).toArray t frozen
  | o => o
/-- The same, and the table of powers of ten. -/
noncomputable def laidWorld3 (os : Os) : World :=
  { World.holding Tryd.prog os ⟨#[], #[], []⟩ with heap := (((World.holding Tryd.prog os ⟨#[], #[], []⟩).heap.modify 0 (layTab Lib.deBruijn32tab)).modify 1 (layTab Lib.deBruijn64tab)).modify 2 (layTabW ((List.range 20).map fun i => 10 ^ i)) }

end Go.Proofs.YtkoganldcmhopaaDoor

/- The reference's l5Order. -/
namespace Go.Proofs.YtkoganldcmhopaaDoor
open Go.RowKit Go.BigFrame Go.Maps AG

/-- A list of numbers under way. -/
structure OrdSt (w0 wr : World) (v : Value) (ns : List Nat) : Prop where
  below : Below w0.heap.size w0 wr
  own : wr.ownsRow w0.heap.size 3 1 v ns.length (natVals ns)
theorem OrdSt.later {w0 wr w' : World} {v : Value} {ns : List Nat} (h : OrdSt w0 wr v ns) (hb : Below wr.heap.size wr w') : OrdSt w0 w' v ns := ⟨h.below.trans (hb.mono h.below.size), own_later_ h.own hb⟩
theorem OrdSt.app {w0 wr w1 : World} {v v' : Value} {ns : List Nat} {o : Obj} {x : Nat} (h : OrdSt w0 wr v ns) (hg : (wr.alloc o).grownBy w1 v.ownBlock)
    (ho : w1.ownsRow w0.heap.size 3 1 v' (ns.length + 1) (natVals ns ++ [.int .i64 (x : Nat)])) : OrdSt w0 w1 v' (ns ++ [x]) := by
  have hkA : KeepB (fun b => v.ownBlock = some b) wr w1 := ((KeepB.refl _ wr).alloc o).grown hg fun k hk _ => hk
  refine ⟨hkA.below h.below h.below.size fun b e => own_block h.own b e, ?_⟩
  rw [List.length_append]
  unfold natVals at ho ⊢
  simpa using ho
theorem OrdSt.new (w0 : World) (x : Nat) : OrdSt w0 (w0.alloc (.cells #[.int .i64 (x : Nat)] 3)) (.slice (some ⟨w0.heap.size, 0, none⟩) 1 1) [x] :=
  ⟨(Below.refl _ _).alloc (Nat.le_refl _) _, ⟨rfl, .inr ⟨w0.heap.size, 1, #[.int .i64 (x : Nat)], rfl, Nat.le_refl _, heap_alloc_self _ _, Nat.le_refl _, by unfold maxLen; omega, rfl, rfl⟩⟩⟩
theorem OrdSt.new0 (w0 : World) : OrdSt w0 (w0.alloc (.cells #[] 3)) (.slice (some ⟨w0.heap.size, 0, none⟩) 0 0) [] :=
  ⟨(Below.refl _ _).alloc (Nat.le_refl _) _, ⟨rfl, .inr ⟨w0.heap.size, 0, #[], rfl, Nat.le_refl _, heap_alloc_self _ _, Nat.le_refl _, Nat.zero_le _, rfl, rfl⟩⟩⟩

/-- A row of a table, read. -/
theorem row_read {w0 : World} {A : Option Addr} {rs : List (List Int)} {q : Nat} (h : RowsAt w0 w0.heap.size A rs) (hq : q < rs.length) :
    ∃ (b o : Nat) (r : List Int) (Ai : Option Addr) (ci : Nat), A = some ⟨b, o, none⟩ ∧ b < w0.heap.size ∧ Hid (r = rs[q]) ∧ Hid (∀ wr, Below w0.heap.size w0 wr → wr.cell? ⟨b, o + q, none⟩ = some (.slice Ai r.length ci)) ∧ r.length ≤ ci ∧ ci ≤ 9223372036854775807 ∧ Hid (IntsAt w0 w0.heap.size Ai r) := by
  obtain ⟨b, o, hA, hlt, hE⟩ := h (by omega)
  obtain ⟨Ai, ci, h1, h2, h3, h4⟩ := hE q hq
  exact ⟨b, o, rs[q], Ai, ci, hA, hlt, hid rfl, hid fun wr hb => (hb.cell (p := ⟨b, o + q, none⟩) (by simpa using hlt)).trans h1, h2, h3, hid h4⟩
/-- What is known of an automaton's nodes. -/
structure OrdP (a : Au) (nx : Nat → Nat → Nat) (L : List Nat) (x : List Nat × List (List Nat)) : Prop where
  num : numRes nx L 0 a.nx.length = some x
  lt : ∀ i, ∀ q ∈ nsAt nx L 0 i, q < a.nx.length
  len : ∀ i, (nsAt nx L 0 i).length ≤ a.nx.length
  row : ∀ q (h : q < a.nx.length), (a.nx[q]).length = L.length
  at_ : ∀ q (h : q < a.nx.length) k (hk : k < L.length) (hk' : k < (a.nx[q]).length), (a.nx[q])[k] = ((nx q L[k] : Nat) : Int)
  go : ∀ q, q < a.nx.length → ∀ l, nx q l < a.nx.length
  six : L.length ≤ 6
theorem ordP {a : Au} (hok : auOk a = true) {x : List Nat × List (List Nat)} (hx : trimOpt a = some x) : OrdP a (goA a) (letters a.al) x := by
  have h1 := ((auOk_iff a).1 hok).2.1
  have hall : ∀ i, ∀ q ∈ nsAt (goA a) (letters a.al) 0 i, q < a.nx.length := fun i => nsAt_all (P := fun q => q < a.nx.length) (by omega) (fun q hq l _ => goA_lt hok hq) i
  exact ⟨hx, hall, fun i => nodup_bound _ _ (nsAt_nodup _ _ _ i) (hall i), fun q h => (row_at hok h).2.1, fun q h k hk hk' => (goA_at hok h hk hk').symm, fun q h l => goA_lt hok h, letters_len6 _⟩

set_option maxRecDepth 100000 in
set_option maxHeartbeats 4000000 in
theorem l5Order_any (a : Au) (A B : Option Addr) (c d : Nat) (x : List Nat × List (List Nat)) (w : World) (hok : auOk a = true) (hx : trimOpt a = some x) (ha : AuAt w A c B d a) :
    Calls Tryd.prog 185 #[a.val A c B d] w fun e w' => ∃ v, e = .returned v ∧ OwnNats w' w.heap.size v x.1 ∧ Below w.heap.size w w' := by
  obtain ⟨-, hn1, hn12, -, -⟩ := (auOk_iff a).1 hok
  obtain ⟨i0, hi, hz0, hz1, hz2⟩ := info_parts infoInt
  obtain ⟨w0, hw0, hzz0, hB0, hS⟩ := boxed w #[Value.int IntKind.i64 a.al, Value.slice A a.nx.length c, Value.slice B a.ac.length d] 26
  have ha0 := hid (ha.later hB0)
  obtain ⟨L, nx, hP⟩ : ∃ L nx, Hid (OrdP a nx L x) := ⟨_, _, hid (ordP hok hx)⟩
  have hst0 := hid (OrdSt.new w0 0)
  have hS1 := hid (fun w' (hb : Below w0.heap.size w0 w') => hS 1 _ rfl w' (hb.mono hzz0))
  clear hok hx hS
  replace ha := hid ha
  unfold AG.Au.val
  go_enter Tryd.func185, Tryd.ntmps185
  go_wp2_with fail
  go_loopw [3, 4] (fun vN iv wr => ∃ (i : Nat) (AN : Option Addr) (cN : Nat), vN = .slice AN (nsAt nx L 0 i).length cN ∧ iv = .int .i64 (i : Nat) ∧ OrdSt w0 wr (.slice AN (nsAt nx L 0 i).length cN) (nsAt nx L 0 i) ∧ (∀ j, j < i → j < (nsAt nx L 0 j).length)) (fun _ iv _ => a.nx.length - (intOf iv).toNat)
  case atStart => exact ⟨0, _, _, rfl, rfl, hst0.out, fun j hj => by omega⟩
  case round =>
    clear hst0 hw0
    obtain ⟨i, AN, cN, rfl, rfl, hst, hjs⟩ := hrel
    have hle := hP.out.len i
    by_cases hlt : i < (nsAt nx L 0 i).length
    · have hBm := hst.below
      have hszm := hBm.size
      obtain ⟨A1, c1, he1, hc1, hc1', hN1⟩ := OwnN.read hst.own
      cases he1
      obtain ⟨bN, oN, hAe, hbN, hEN⟩ := hN1 (by omega)
      subst hAe
      have a0 := hEN i hlt
      obtain ⟨q, hq⟩ : ∃ q, Hid (q = (nsAt nx L 0 i)[i]) := ⟨_, hid rfl⟩
      rw [← hq.out] at a0
      have hqn : q < a.nx.length := hP.out.lt i q (by rw [hq.out]; exact List.getElem_mem _)
      have hns := hid (NumSt.start hlt (show (nsAt nx L 0 i)[i]? = some q by rw [List.getElem?_eq_getElem hlt, hq.out]))
      obtain ⟨bR, oR, r, Ai, ci, hRe, hbR, hr, hr0, h1, h2, h3⟩ := row_read ha0.out.rows hqn
      subst hRe
      have r0 := hr0.out wr hBm
      have hbR' : bR < wr.heap.size := by omega
      have hrl : r.length = L.length := by rw [hr.out]; exact hP.out.row q hqn
      have hrk : Hid (∀ k (hk : k < L.length) (hk' : k < r.length), r[k] = ((nx q L[k] : Nat) : Int)) := hid (by
        have h := hP.out.at_ q hqn
        rw [← hr.out] at h
        exact h)
      have p1 := hS1.out wr hBm
      have hlw : w.heap.size < wr.heap.size := by omega
      have y0 : ∀ x', (Fam wr.heap.size wr x').cell? ⟨w.heap.size, 1, none⟩ = some (.slice (some ⟨bR, oR, none⟩) a.nx.length c) := fun x' => by rw [(Fam.below wr.heap.size wr x').cell (by simpa using hlw)]; exact p1
      have y1 : ∀ x', (Fam wr.heap.size wr x').cell? ⟨bN, oN + i, none⟩ = some (.int .i64 (q : Nat)) := fun x' => by rw [(Fam.below wr.heap.size wr x').cell (by simpa using hbN)]; exact a0
      have y2 : ∀ x', (Fam wr.heap.size wr x').cell? ⟨bR, oR + q, none⟩ = some (.slice Ai r.length ci) := fun x' => by rw [(Fam.below wr.heap.size wr x').cell (by simpa using hbR')]; exact r0
      have k1 : (0 : Int) ≤ (i : Int) ∧ (i : Int) < ((nsAt nx L 0 i).length : Int) ∧ (0 : Int) ≤ (q : Int) ∧ (q : Int) < (a.nx.length : Int) := by omega
      obtain ⟨n1, hn1'⟩ : ∃ n1, Hid (n1 = nsAt nx L 0 i) := ⟨_, hid rfl⟩
      rw [← hn1'.out] at hst hle hlt hns k1 ⊢
      have hst' := hid hst
      replace hEN := hid hEN
      replace hN1 := hid hN1
      replace hjs := hid hjs
      clear hst p1 a0 r0
      go_wp2_with fail
      refine wp_region_fam wr.heap.size wr (by kernel_rfl) (by kernel_rfl) (Below.refl _ _) ?_
      (repeat (go_big_quiet_step (fail)))
      refine wpQuiet_nil ?_
      intro w5 hw5
      replace hw5 := Fam.out hw5
      have hst5 := hid (hst'.out.later hw5)
      clear y0 y1 y2
      go_wp2_with fail
      obtain ⟨wo, rfl⟩ : ∃ wo : World, wo = wr := ⟨_, rfl⟩
      go_loopw [3, 6] (fun vN kv w6 => ∃ (k : Nat) (ns row : List Nat) (AN : Option Addr) (cN : Nat), vN = .slice AN ns.length cN ∧ kv = .int .i64 (k : Nat) ∧ NumSt nx L 0 i k ns row q ∧ OrdSt w0 w6 (.slice AN ns.length cN) ns) (fun _ kv _ => L.length - (intOf kv).toNat)
      case atStart => exact ⟨0, n1, [], _, _, rfl, rfl, hns.out, hst5.out⟩
      case round =>
        clear hst5 hns
        obtain ⟨k, ns, row, AN2, cN2, rfl, rfl, hns, hst6⟩ := hrel
        have hBm6 := hst6.below
        have hszm6 := hBm6.size
        have hk := hns.hk
        by_cases hkl : k < L.length
        · obtain ⟨bi, oi, hie, hbi, hEi⟩ := (h3.out.later hBm6) (by omega)
          subst hie
          have c0 := hEi k (by omega)
          have hz := hrk.out k hkl (by omega)
          obtain ⟨z, hz'⟩ : ∃ z, Hid (z = nx q L[k]) := ⟨_, hid rfl⟩
          rw [hz, ← hz'.out] at c0
          have hnxt := hns.next hkl
          rw [← hz'.out] at hnxt
          have k2 : (0 : Int) ≤ (k : Int) ∧ (k : Int) < (r.length : Int) := by omega
          have hzn : z < a.nx.length := by rw [hz'.out]; exact hP.out.go q hqn _
          have hle2 : ns.length ≤ 24 := by
            have h6 := hP.out.six
            have h7 := rowN_len nx q (L.take k) (nsAt nx L 0 i)
            rw [← hns.hns, List.length_take, ← hn1'.out] at h7
            omega
          obtain ⟨A2, c2, he2, hc2, hc2', hN2⟩ := OwnN.read hst6.own
          cases he2
          have hN2' := hid hN2
          replace hst6 := hid hst6
          replace hnxt := hid hnxt
          replace hns := hid hns
          replace hEi := hid hEi
          replace hz := hid hz
          clear hN2
          go_wp2_with fail
          refine (l4In_any ns z AN2 cN2 wr hc2 hc2' hN2'.out).mono ?_
          rintro e w7 ⟨rfl, rfl⟩
          by_cases hmem : z ∈ ns
          · have hadd : Hid (addN ns z = ns) := hid (by unfold addN; rw [if_pos hmem])
            rw [hadd.out] at hnxt
            rw [decide_eq_true hmem]
            replace hmem := hid hmem
            go_wp2_with fail
            go_roundw
            case rel => exact ⟨k + 1, ns, _, _, _, rfl, by go_num, hnxt.out, hst6.out⟩
            case measure => simp [intOf]; omega
          · have hadd : Hid (addN ns z = ns ++ [z]) := hid (by unfold addN; rw [if_neg hmem])
            rw [hadd.out] at hnxt
            rw [decide_eq_false hmem]
            replace hmem := hid hmem
            go_wp2_with (at_builtin; refine wpList_append_own_at _ rfl _ _ 52 rfl w0.heap.size 3 i0 (.int .i64 0) 1 8 Tryd.underlying52 hi hz0 hz1 hz2 rfl (by decide) _ _ _ rfl (hst6.out.own.alloc _) ⟨wr.heap.size, 0, none⟩ 1 1 [.int .i64 (z : Nat)] rfl rfl (cell_one_new _ _ _) (by intro u hu; simp at hu; subst hu; rfl) (by unfold maxLen; omega) (by omega) (by first | omega | (simp; omega)) ?_; intro v7 w7 hO7 hg7 _ hat7; obtain ⟨Av7, cv7, ev7, -, -⟩ := own_slice hO7; subst ev7; have hst7 := hid (hst6.out.app (x := z) hg7 hO7); clear hO7 hg7 hat7)
            go_roundw
            case rel => exact ⟨k + 1, ns ++ [z], _, _, _, by rw [List.length_append]; rfl, by go_num, hnxt.out, by have := hst7.out; rw [List.length_append]; exact this⟩
            case measure => simp [intOf]; omega
        · obtain rfl : k = L.length := by omega
          obtain ⟨hd1, -⟩ := hns.done
          have hjs2 : Hid (∀ j, j < i + 1 → j < (nsAt nx L 0 j).length) := hid fun j hj => by
            by_cases e : j = i
            · subst e; exact hns.hi
            · exact hjs.out j (by omega)
          have hsix := hP.out.six
          replace hns := hid hns
          replace hst6 := hid hst6
          replace hd1 := hid hd1
          go_wp2_with fail
          go_roundw
          case rel => exact ⟨i + 1, _, _, by rw [← hd1.out], by go_num, by rw [← hd1.out]; exact hst6.out, hjs2.out⟩
          case measure => simp [intOf]; omega
    · have hend := hid (numRes_ends (lim := a.nx.length) hjs (by omega) hle)
      have hxn : Hid (x.1 = nsAt nx L 0 i) := hid (by
        have h1 := hP.out.num
        rw [hend.out] at h1
        injection h1 with h1
        rw [← h1])
      have hfin : Hid (OwnNats wr w.heap.size (.slice AN (nsAt nx L 0 i).length cN) x.1) := hid (by
        rw [hxn.out]
        exact own_base hst.own hB0.size)
      have hB := hB0.trans (hst.below.mono hB0.size)
      replace hst := hid hst
      replace hjs := hid hjs
      go_wp2_with fail
      go_ret
      exact ⟨_, rfl, hfin.out, hB⟩

end Go.Proofs.YtkoganldcmhopaaDoor

/- The reference's l5Trim. -/
namespace Go.Proofs.YtkoganldcmhopaaDoor
open Go.RowKit Go.BigFrame Go.Maps AG

/-- No list. -/
def nilF : Value × List Value := (.slice none 0 0, [])
theorem Fam3.app0 {w w1 : World} {base : Nat} {l1 l2 : List (Value × List Value)} {f : Value × List Value} {v' : Value} {ys' : List Value} (h : Fam3 w base (l1 ++ f :: l2)) (hg : w.grownBy w1 f.1.ownBlock)
    (ho : w1.ownsRow base 3 1 v' ys'.length ys') (hat : v'.ownBlock = f.1.ownBlock ∨ v'.ownBlock = some w.heap.size) : Fam3 w1 base (l1 ++ (v', ys') :: l2) := by
  obtain ⟨h2, h3⟩ := h
  rw [List.pairwise_append, List.pairwise_cons] at h3
  have hkA : KeepB (fun b => f.1.ownBlock = some b) w w1 := (KeepB.refl _ w).grown hg fun k hk _ => hk
  have hlt : ∀ y ∈ l1 ++ f :: l2, ∀ g, y.1.ownBlock = some g → g < w.heap.size := fun y hy g e => ((h2 y hy).lt g e).2
  refine ⟨fun y hy => ?_, ?_⟩
  · rw [List.mem_append, List.mem_cons] at hy
    rcases hy with hy | rfl | hy
    · exact own_keep (h2 y (by simp [hy])) hkA fun g hg e => h3.2.2 y hy f List.mem_cons_self g hg e
    · exact ho
    · exact own_keep (h2 y (by simp [hy])) hkA fun g hg e => h3.2.1.1 y hy g e hg
  · rw [List.pairwise_append, List.pairwise_cons]
    refine ⟨h3.1, ⟨fun y hy k e e' => ?_, h3.2.1.2⟩, fun a ha b hb k e e' => ?_⟩
    · have := hlt y (by simp [hy]) k e'
      rcases hat with h | h
      · exact h3.2.1.1 y hy k (by rw [← h]; exact e) e'
      · rw [h] at e; injection e with e; omega
    · have := hlt a (by simp [ha]) k e
      rcases List.mem_cons.1 hb with rfl | hb
      · rcases hat with h | h
        · exact h3.2.2 a ha f List.mem_cons_self k e (by rw [← h]; exact e')
        · rw [h] at e'; injection e' with e'; omega
      · exact h3.2.2 a ha b (List.mem_cons_of_mem _ hb) k e e'
theorem L6.app0 {w2 wr w1 : World} {gO : Nat} {al : Int} {vR vA : Value} {xs : List RowV} {acs : List Bool} {l1 l2 : List (Value × List Value)} {f : Value × List Value} {v' : Value} {ys' : List Value} (h : L6 w2 wr gO al vR xs vA acs (l1 ++ f :: l2)) (hg : wr.grownBy w1 f.1.ownBlock)
    (ho : w1.ownsRow w2.heap.size 3 1 v' ys'.length ys') (hat : v'.ownBlock = f.1.ownBlock ∨ v'.ownBlock = some wr.heap.size) : L6 w2 w1 gO al vR xs vA acs (l1 ++ (v', ys') :: l2) := by
  have hf := h.fam.rows f (by simp)
  have hkA : KeepB (fun b => f.1.ownBlock = some b) wr w1 := (KeepB.refl _ wr).grown hg fun k hk _ => hk
  exact ⟨hkA.below h.below h.below.size fun b e => own_block hf b e, h.ge, h.fam.app0 hg ho hat, own_keep h.tab hkA fun g hg e => own_ne_own h.tab hf (by decide) g g hg e rfl, own_keep h.acc hkA fun g hg e => own_ne_own h.acc hf (by decide) g g hg e rfl, h.blk.keep hkA fun e => own_ne hf h.blk (by decide) _ e rfl⟩
theorem L6.start (w1 : World) (al : Int) : L6 w1 (w1.alloc (.cells #[.int .i64 al, .slice none 0 0, .slice none 0 0] 26)) w1.heap.size al (.slice none 0 0) [] (.slice none 0 0) [] (nilF :: famOf []) := by
  refine ⟨(Below.refl _ _).alloc (Nat.le_refl _) _, Nat.le_refl _, ⟨fun f hf => ?_, ?_⟩, World.ownsRow_nil _ _ _ _, World.ownsRow_nil _ _ _ _, Blk.new _ _ _⟩
  · change f ∈ [nilF] at hf
    rw [List.mem_singleton] at hf
    subst hf
    exact World.ownsRow_nil _ _ _ _
  · exact List.pairwise_singleton _ _

theorem trimRows_eq {a : Au} {x : List Nat × List (List Nat)} (hx : trimOpt a = some x) : trimA a = ⟨a.al, toRows (x.1.map (rowOf (goA a) (letters a.al) x.1)), x.1.map fun q => a.ac.getD q false⟩ := by
  rw [trimA_eq hx, ← (numRes_spec hx).2.1]

set_option maxRecDepth 100000 in
set_option maxHeartbeats 4000000 in
theorem l5Trim_any (a : Au) (A B : Option Addr) (c d : Nat) (x : List Nat × List (List Nat)) (w : World) (hok : auOk a = true) (hx : trimOpt a = some x) (ha : AuAt w A c B d a) :
    Calls Tryd.prog 154 #[a.val A c B d] w (TrimsTo a w) := by
  obtain ⟨-, hn1, hn12, hn3, -⟩ := (auOk_iff a).1 hok
  obtain ⟨i0, hi, hz0, hz1, hz2⟩ := info_parts infoInt
  obtain ⟨j0, hj0, hy0, hy1, hy2⟩ := info_parts infoInts
  obtain ⟨b0, hbi, hb0, hb1', hb2'⟩ := info_parts infoBool
  obtain ⟨w0, hw0, hzz0, hB0, hS, -⟩ := boxed2 w #[Value.int IntKind.i64 a.al, Value.slice A a.nx.length c, Value.slice B a.ac.length d] 26 #[Value.int IntKind.i64 0, Value.slice none 0 0, Value.slice none 0 0] 26
  have hres : Blk w0 (w.heap.size + 1) 26 #[Value.int IntKind.i64 0, Value.slice none 0 0, Value.slice none 0 0] := by
    rw [← hw0]
    have := Blk.new (w.alloc (.cells #[Value.int IntKind.i64 a.al, Value.slice A a.nx.length c, Value.slice B a.ac.length d] 26)) 26 #[Value.int IntKind.i64 0, Value.slice none 0 0, Value.slice none 0 0]
    simpa using this
  have ha0 := hid (ha.later hB0)
  have p0 := hS 0 _ rfl _ (Below.refl _ _)
  have p1 := hS 1 _ rfl _ (Below.refl _ _)
  have p2 := hS 2 _ rfl _ (Below.refl _ _)
  have hord := hid (l5Order_any a A B c d x w0 hok hx ha0.out)
  have htr := hid (trimRows_eq hx)
  obtain ⟨L, nx, hP, htr2⟩ : ∃ L nx, Hid (OrdP a nx L x) ∧ Hid (trimA a = ⟨a.al, toRows (x.1.map (rowOf nx L x.1)), x.1.map fun q => a.ac.getD q false⟩) := ⟨_, _, hid (ordP hok hx), htr⟩
  have hN12 : x.1.length ≤ 12 := Nat.le_trans (numRes_len hx).1 hn12
  have hNlt : Hid (∀ q ∈ x.1, q < a.nx.length) := hid (trimOpt_lt hok hx)
  have hNin : Hid (∀ q ∈ x.1, ∀ l ∈ L, nx q l ∈ x.1) := hid (numRes_spec hP.out.num).2.2.2.2.2
  have hn3' := hid hn3
  clear hok hx htr hn3
  replace ha := hid ha
  replace hres := hid hres
  unfold AG.Au.val
  go_enter Tryd.func154, Tryd.ntmps154
  go_wp2_with fail
  refine hord.out.mono ?_
  rintro e w1 ⟨v, rfl, hown1, hb1⟩
  obtain ⟨AO, cO, rfl, hcO, hcO', hNO⟩ := OwnNats.read hown1
  have hB1 := hB0.trans (hb1.mono hB0.size)
  have hz1' := hb1.size
  have hS1 := hid (fun w' (hb : Below w1.heap.size w1 w') => And.intro (hS 0 _ rfl w' ((hb1.trans (hb.mono hz1')).mono hzz0)) (And.intro (hS 1 _ rfl w' ((hb1.trans (hb.mono hz1')).mono hzz0)) (hS 2 _ rfl w' ((hb1.trans (hb.mono hz1')).mono hzz0))))
  have ha1 := hid (ha0.out.later hb1)
  have hres1 := hid (hres.out.below hb1 hres.out.lt)
  have hst0 := hid (L6.start w1 a.al)
  obtain ⟨N, hN⟩ : ∃ N, Hid (N = x.1) := ⟨_, hid rfl⟩
  rw [← hN.out] at hNO hcO hN12 hNlt hNin htr2 ⊢
  have hNO' := hid hNO
  clear p0 p1 p2 hord hown1 hNO hw0
  have p0 := (hS1.out w1 (Below.refl _ _)).1
  go_wp2_with fail
  go_loopw [5] (fun iv wr => ∃ (i : Nat) (vR vA : Value) (xs : List RowV), iv = .int .i64 (i : Nat) ∧ i ≤ N.length ∧ L6 w1 wr w1.heap.size a.al vR xs vA ((N.take i).map fun q => a.ac.getD q false) (nilF :: famOf xs) ∧ xs.map (·.r) = toRows ((N.take i).map (rowOf nx L N))) (fun iv _ => N.length - (intOf iv).toNat)
  case atStart => exact ⟨0, _, _, [], rfl, Nat.zero_le _, hst0.out, rfl⟩
  case round =>
    clear hst0 p0
    obtain ⟨i, vR, vA, xs, rfl, hiN, hst, hxs⟩ := hrel
    have hxl : xs.length = i := by
      have := congrArg List.length hxs
      rw [List.length_map, toRows_len, List.length_map, List.length_take] at this
      omega
    obtain ⟨AR, cR, rfl, -, -⟩ := own_slice hst.tab
    obtain ⟨AA, cA, rfl, -, -⟩ := own_slice hst.acc
    have hxl4 : xs.length ≤ 12 := by omega
    replace hxl := hid hxl
    replace hxs := hid hxs
    obtain ⟨acs, hacs⟩ : ∃ acs, Hid (acs = (N.take i).map fun q => a.ac.getD q false) := ⟨_, hid rfl⟩
    rw [← hacs.out] at hst
    have hal2 : acs.length ≤ 12 := by rw [hacs.out, List.length_map, List.length_take]; omega
    by_cases hlt : i < N.length
    · have hfr := hid hst.fresh
      obtain ⟨q, hq⟩ : ∃ q, Hid (q = N[i]) := ⟨_, hid rfl⟩
      have hqN : Hid (q ∈ N) := hid (by rw [hq.out]; exact List.getElem_mem _)
      have hqn : q < a.nx.length := hNlt.out q hqN.out
      have hqa : q < a.ac.length := by have := hn3'.out; omega
      replace hst := hid hst
      go_wp2_with fail
      obtain ⟨wo, rfl⟩ : ∃ wo : World, wo = wr := ⟨_, rfl⟩
      go_loopw [6, 7] (fun vW kv wr => ∃ (k : Nat) (row : List Nat) (AW : Option Addr) (cW : Nat), vW = .slice AW row.length cW ∧ kv = .int .i64 (k : Nat) ∧ k ≤ L.length ∧ row = (L.take k).map (fun l => N.idxOf (nx q l)) ∧ L6 w1 wr w1.heap.size a.al (.slice AR xs.length cR) xs (.slice AA acs.length cA) acs (nilF :: (.slice AW row.length cW, natVals row) :: famOf xs)) (fun _ kv _ => L.length - (intOf kv).toNat)
      case atStart => exact ⟨0, [], _, 0, rfl, rfl, Nat.zero_le _, by simp, hfr.out⟩
      case round =>
        clear hfr
        obtain ⟨k, row, AW, cW, rfl, rfl, hk, hrow, hst2⟩ := hrel
        have hrl : row.length = k := by rw [hrow, List.length_map, List.length_take]; omega
        have hsix := hP.out.six
        have hBm := hst2.below
        have hszm := hBm.size
        obtain ⟨bR, oR, r, Ai, ci, hRe, hbR, hr, hr0, h1, h2, h3⟩ := row_read ha1.out.rows hqn
        subst hRe
        have r0 := hr0.out wr hBm
        have hbR' : bR < wr.heap.size := by omega
        have hrlen : r.length = L.length := by rw [hr.out]; exact hP.out.row q hqn
        have hrk : Hid (∀ k (hk : k < L.length) (hk' : k < r.length), r[k] = ((nx q L[k] : Nat) : Int)) := hid (by
          have h := hP.out.at_ q hqn
          rw [← hr.out] at h
          exact h)
        obtain ⟨bO, oO, hAe, hbO, hEO⟩ := hNO'.out (by omega)
        subst hAe
        have hbO' : bO < wr.heap.size := by omega
        have o0 := (hBm.cell (p := ⟨bO, oO + i, none⟩) (by simpa using hbO)).trans (hEO i hlt)
        rw [← hq.out] at o0
        obtain ⟨-, p1, p2⟩ := hS1.out wr hBm
        have hlw : w.heap.size < wr.heap.size := by omega
        have y0 : ∀ x', (Fam wr.heap.size wr x').cell? ⟨w.heap.size, 1, none⟩ = some (.slice (some ⟨bR, oR, none⟩) a.nx.length c) := fun x' => by rw [(Fam.below wr.heap.size wr x').cell (by simpa using hlw)]; exact p1
        have y1 : ∀ x', (Fam wr.heap.size wr x').cell? ⟨bO, oO + i, none⟩ = some (.int .i64 (q : Nat)) := fun x' => by rw [(Fam.below wr.heap.size wr x').cell (by simpa using hbO')]; exact o0
        have y2 : ∀ x', (Fam wr.heap.size wr x').cell? ⟨bR, oR + q, none⟩ = some (.slice Ai r.length ci) := fun x' => by rw [(Fam.below wr.heap.size wr x').cell (by simpa using hbR')]; exact r0
        have k1 : (0 : Int) ≤ (i : Int) ∧ (i : Int) < (N.length : Int) ∧ (0 : Int) ≤ (q : Int) ∧ (q : Int) < (a.nx.length : Int) := by omega
        have hst2' := hid hst2
        replace hrl := hid hrl
        replace hrow := hid hrow
        replace hEO := hid hEO
        have hBm' := hid hBm
        clear hst2 p1 o0 r0
        go_wp2_with fail
        refine wp_region_fam wr.heap.size wr (by kernel_rfl) (by kernel_rfl) (Below.refl _ _) ?_
        (repeat (go_big_quiet_step (fail)))
        refine wpQuiet_nil ?_
        intro w5 hw5
        replace hw5 := Fam.out hw5
        have hst5 := hid (hst2'.out.later hw5)
        have hB5 := hst5.out.below
        have hz5 := hB5.size
        clear y0 y1 y2
        by_cases hkl : k < L.length
        · obtain ⟨bi, oi, hie, hbi', hEi⟩ := (h3.out.later hB5) (by omega)
          subst hie
          have e0 := hEi k (by omega)
          have hz := hrk.out k hkl (by omega)
          obtain ⟨z, hz'⟩ : ∃ z, Hid (z = nx q L[k]) := ⟨_, hid rfl⟩
          rw [hz, ← hz'.out] at e0
          have hzN : Hid (z ∈ N) := hid (by rw [hz'.out]; exact hNin.out q hqN.out _ (List.getElem_mem _))
          obtain ⟨t, ht⟩ : ∃ t, Hid (t = N.idxOf z) := ⟨_, hid rfl⟩
          have htl : t < N.length := by rw [ht.out]; exact List.idxOf_lt_length_iff.2 hzN.out
          have hrow2 : Hid (row ++ [t] = (L.take (k + 1)).map (fun l => N.idxOf (nx q l))) := hid (by
            rw [List.take_succ_eq_append_getElem hkl, List.map_append, ← hrow.out, ht.out, hz'.out]
            rfl)
          obtain ⟨-, p1, p2⟩ := hS1.out w5 hB5
          have o0 := (hB5.cell (p := ⟨bO, oO + i, none⟩) (by simpa using hbO)).trans (hEO.out i hlt)
          rw [← hq.out] at o0
          have r0 := hr0.out w5 hB5
          have hbR5 : bR < w5.heap.size := by omega
          have hbO5 : bO < w5.heap.size := by omega
          have hlw5 : w.heap.size < w5.heap.size := by omega
          have y0 : ∀ x', (Fam w5.heap.size w5 x').cell? ⟨w.heap.size, 1, none⟩ = some (.slice (some ⟨bR, oR, none⟩) a.nx.length c) := fun x' => by rw [(Fam.below w5.heap.size w5 x').cell (by simpa using hlw5)]; exact p1
          have y1 : ∀ x', (Fam w5.heap.size w5 x').cell? ⟨bO, oO + i, none⟩ = some (.int .i64 (q : Nat)) := fun x' => by rw [(Fam.below w5.heap.size w5 x').cell (by simpa using hbO5)]; exact o0
          have y2 : ∀ x', (Fam w5.heap.size w5 x').cell? ⟨bR, oR + q, none⟩ = some (.slice (some ⟨bi, oi, none⟩) r.length ci) := fun x' => by rw [(Fam.below w5.heap.size w5 x').cell (by simpa using hbR5)]; exact r0
          have y3 : ∀ x', (Fam w5.heap.size w5 x').cell? ⟨bi, oi + k, none⟩ = some (.int .i64 (z : Nat)) := fun x' => by rw [(Fam.below w5.heap.size w5 x').cell (by simpa using hbi')]; exact e0
          have hNr : Hid (∀ w', Below w5.heap.size w5 w' → NatsAt w' w'.heap.size (some ⟨bO, oO, none⟩) N) := hid fun w' hb => (hNO'.out.later hB5).later hb
          have k2 : (0 : Int) ≤ (k : Int) ∧ (k : Int) < (r.length : Int) := by omega
          have hrl4 : row.length ≤ 6 := by have := hrl.out; omega
          replace hEi := hid hEi
          replace hz := hid hz
          clear p1 p2 o0 r0 e0
          go_wp2_with fail
          refine wp_region_grow 15 w5.heap.size w5 (fun _ u _ => u = .int .i64 (t : Nat)) (by kernel_rfl) (by kernel_rfl) (Nat.le_refl _) (Below.refl _ _) ?_
          simp only [List.take_succ_cons, List.take_zero, List.drop_succ_cons, List.drop_zero]
          (repeat (refine grow_quiet (by rfl) (by rfl) (by rfl) ?_; intro K hK; go_big_quiet_op; go_big_quiet_on))
          refine grow_val (.int .i64 (t : Nat)) (by rfl) (by rfl) rfl (fun wq hbq _ => ?_) ?_
          · go_simp
            refine ⟨rfl, (l5Index_any N z (some ⟨bO, oO, none⟩) cO wq hzN.out hcO hcO' (hNr.out wq hbq)).mono ?_⟩
            rintro e w9 ⟨rfl, rfl⟩
            exact ⟨by rw [ht.out], Below.refl _ _⟩
          simp only [Act.put, List.setIfInBounds_toArray, List.set_cons_zero, List.set_cons_succ]
          (repeat (refine grow_quiet (by rfl) (by rfl) (by rfl) ?_; intro K hK; go_big_quiet_op; go_big_quiet_on))
          refine grow_new (by rfl) (fun b => .slice (some ⟨b, 0, none⟩) 1 1) 3 #[.int .i64 (t : Nat)] (fun _ => by go_simp) (fun _ => rfl) (Nat.le_refl _) fun g3 hg3 => ?_
          simp only [Act.put, List.setIfInBounds_toArray, List.set_cons_zero, List.set_cons_succ]
          refine grow_nil ?_
          intro w7 hb7 hf
          obtain ⟨g3', hge, -, hblk3⟩ := hf _ List.mem_cons_self
          cases hge
          have hnew3 := hid (Blk.news hblk3)
          clear hblk3 hf y0 y1 y2 y3
          have hst7 := hst5.out.later hb7
          have hz7 := hst7.below.size
          have hoW := hid (hst7.own (v := .slice AW row.length cW) (row := row) (List.mem_cons_of_mem _ List.mem_cons_self))
          replace hst7 := hid hst7
          go_wp2_with (at_builtin; refine wpList_append_own_at _ rfl _ _ 52 rfl w1.heap.size 3 i0 (.int .i64 0) 1 8 Tryd.underlying52 hi hz0 hz1 hz2 rfl (by decide) _ _ _ rfl hoW.out ⟨g3, 0, none⟩ 1 1 [.int .i64 (t : Nat)] rfl rfl hnew3.out (by intro u hu; simp at hu; subst hu; rfl) (by unfold maxLen; omega) (by omega) (by first | omega | (simp; omega)) ?_; intro v8 w8 hO8 hg8 _ hat8; obtain ⟨Av8, cv8, ev8, -, -⟩ := own_slice hO8; subst ev8; replace hO8 := hid hO8; replace hg8 := hid hg8; replace hat8 := hid hat8)
          have hst8 := hid (hst7.out.app0 (l1 := [nilF]) (ys' := natVals (row ++ [t])) hg8.out (by rw [natVals_len, List.length_append]; have := hO8.out; unfold natVals at this ⊢; simpa using this) hat8.out)
          go_roundw
          case rel => exact ⟨k + 1, row ++ [t], _, _, by rw [List.length_append]; rfl, by go_num, by omega, hrow2.out, by have := hst8.out; rw [List.length_append]; exact this⟩
          case measure => simp [intOf]; omega
        · obtain rfl : k = L.length := by omega
          have hxs2 : Hid ((xs ++ [(⟨row.map fun (n : Nat) => (n : Int), AW, cW⟩ : RowV)]).map (·.r) = toRows ((N.take (i + 1)).map (rowOf nx L N))) := hid (by
            have h1 := hrow.out
            rw [List.take_length] at h1
            rw [List.map_append, hxs.out, List.take_succ_eq_append_getElem hlt, List.map_append]
            unfold toRows
            rw [List.map_append, ← hq.out, h1]
            rfl)
          obtain ⟨tb, htb⟩ : ∃ tb, Hid (tb = a.ac[q]) := ⟨_, hid rfl⟩
          have hacs2 : Hid (acs ++ [tb] = (N.take (i + 1)).map fun q => a.ac.getD q false) := hid (by
            rw [hacs.out, List.take_succ_eq_append_getElem hlt, List.map_append, List.map_singleton, ← hq.out, htb.out, List.getD_eq_getElem?_getD, List.getElem?_eq_getElem hqa]
            rfl)
          obtain ⟨bB, oB, hBe, hbB, hEB⟩ := ha1.out.acc (by omega)
          subst hBe
          have hEB' := hid hEB
          have hrl4 : row.length ≤ 6 := by have := hrl.out; omega
          have hst2 := hst5.out
          clear hst5 hEB p2
          obtain ⟨wr, rfl⟩ : ∃ wr : World, wr = w5 := ⟨_, rfl⟩
          have c1 := hst2.blk.cell 1
          simp only [List.getElem?_toArray, List.getElem?_cons_zero, List.getElem?_cons_succ] at c1
          have hoR := hid hst2.tab
          have hbk := hid hst2.blk
          have hgO := hst2.blk.lt
          have hszr := hst2.below.size
          have hst2' := hid hst2
          clear hst2
          go_wp2_with (at_builtin; refine wpList_append_own_at _ rfl _ _ 23 rfl w1.heap.size 52 j0 (.slice none 0 0) 1 24 Tryd.underlying23 hj0 hy0 hy1 hy2 rfl (by decide) _ _ _ rfl (hoR.out.alloc _) ⟨wr.heap.size, 0, none⟩ 1 1 [.slice AW row.length cW] rfl rfl (cell_one_new _ _ _) (by intro u hu; simp at hu; subst hu; rfl) (by unfold maxLen; omega) (by omega) (by first | omega | (simp; omega)) ?_; intro v5 w5 hO5 hg5 _ hat5; obtain ⟨Av5, cv5, ev5, -, -⟩ := own_slice hO5; subst ev5; have hbk5 : Blk w5 w1.heap.size 26 #[.int .i64 a.al, .slice AR xs.length cR, .slice AA acs.length cA] := (hbk.out.alloc _).keep ((KeepB.refl (fun b => (Value.slice AR xs.length cR).ownBlock = some b) _).grown hg5 (fun k hk _ => hk)) (fun e => own_ne hoR.out hbk.out (by decide) _ e rfl); have d1 := hbk5.cell 1; have z1 := hbk5.frozen 1; simp only [List.getElem?_toArray, List.getElem?_cons_zero, List.getElem?_cons_succ] at d1; have hst5 := hid (hst2'.out.row hg5 (by have := hO5; simpa using this)); replace hbk5 := hid hbk5; clear hO5 hg5 hat5)
          obtain ⟨w6, hw6⟩ : ∃ w6, w5.setCell ⟨w1.heap.size, 1, none⟩ (.slice Av5 (xs.length + 1) cv5) = w6 := ⟨_, rfl⟩
          rw [hw6] at hst5 ⊢
          have hst6 := hst5.out
          have hB6 := hst6.below
          have hz6 := hB6.size
          have c2 := hst6.blk.cell 2
          simp only [List.getElem?_toArray, List.getElem?_cons_zero, List.getElem?_cons_succ] at c2
          have hgO6 := hst6.blk.lt
          have x0 : ∀ x', (Fam w6.heap.size w6 x').cell? ⟨w1.heap.size, 2, none⟩ = some (.slice AA acs.length cA) := fun x' => by rw [(Fam.below w6.heap.size w6 x').cell (by simpa using hgO6)]; exact c2
          obtain ⟨-, p1, p2⟩ := hS1.out w6 hB6
          have o0 := (hB6.cell (p := ⟨bO, oO + i, none⟩) (by simpa using hbO)).trans (hEO.out i hlt)
          rw [← hq.out] at o0
          have e1 := (hB6.cell (p := ⟨bB, oB + q, none⟩) (by simpa using hbB)).trans (hEB'.out q hqa)
          rw [← htb.out] at e1
          have hlw6 : w.heap.size < w6.heap.size := by omega
          have hbO6 : bO < w6.heap.size := by omega
          have hbB6 : bB < w6.heap.size := by omega
          have x1 : ∀ x', (Fam w6.heap.size w6 x').cell? ⟨w.heap.size, 2, none⟩ = some (.slice (some ⟨bB, oB, none⟩) a.ac.length d) := fun x' => by rw [(Fam.below w6.heap.size w6 x').cell (by simpa using hlw6)]; exact p2
          have x2 : ∀ x', (Fam w6.heap.size w6 x').cell? ⟨bO, oO + i, none⟩ = some (.int .i64 (q : Nat)) := fun x' => by rw [(Fam.below w6.heap.size w6 x').cell (by simpa using hbO6)]; exact o0
          have x3 : ∀ x', (Fam w6.heap.size w6 x').cell? ⟨bB, oB + q, none⟩ = some (.bool tb) := fun x' => by rw [(Fam.below w6.heap.size w6 x').cell (by simpa using hbB6)]; exact e1
          have k3 : (0 : Int) ≤ (i : Int) ∧ (i : Int) < (N.length : Int) ∧ (0 : Int) ≤ (q : Int) ∧ (q : Int) < (a.ac.length : Int) := by omega
          clear p1 p2 o0 e1
          have hst6' := hid hst6
          replace hB6 := hid hB6
          clear hw6 hst5 hst6 c1 c2 d1 z1
          refine wp_region_grow 11 w6.heap.size w6 (fun _ _ _ => True) (by kernel_rfl) (by kernel_rfl) (Nat.le_refl _) (Below.refl _ _) ?_
          simp only [List.take_succ_cons, List.take_zero, List.drop_succ_cons, List.drop_zero]
          (repeat (refine grow_quiet (by rfl) (by rfl) (by rfl) ?_; intro K hK; go_big_quiet_op; go_big_quiet_on))
          refine grow_new (by rfl) (fun b => .slice (some ⟨b, 0, none⟩) 1 1) 4 #[.bool tb] (fun _ => by go_simp) (fun _ => rfl) (Nat.le_refl _) fun g3 hg3 => ?_
          simp only [Act.put, List.setIfInBounds_toArray, List.set_cons_zero, List.set_cons_succ]
          refine grow_nil ?_
          intro w7 hb7 hf
          obtain ⟨g3', hge, -, hblk3⟩ := hf _ List.mem_cons_self
          cases hge
          have hnew3 := hid (Blk.news hblk3)
          clear hblk3 hf x0 x1 x2 x3
          have hst7 := hst6'.out.later hb7
          have hoA := hid hst7.acc
          have hz7 := hst7.below.size
          have hbk7 := hid hst7.blk
          have hgO7 := hst7.blk.lt
          have hst7' := hid hst7
          clear hst7
          go_wp2_with (at_builtin; refine wpList_append_own_at _ rfl _ _ 24 rfl w1.heap.size 4 b0 (.bool false) 1 1 Tryd.underlying24 hbi hb0 hb1' hb2' rfl (by decide) _ _ _ rfl (hoA.out) ⟨g3, 0, none⟩ 1 1 [.bool tb] rfl rfl hnew3.out (by intro u hu; simp at hu; subst hu; rfl) (by unfold maxLen; omega) (by omega) (by first | omega | (simp; omega)) ?_; intro v8 w8 hO8 hg8 _ hat8; obtain ⟨Av8, cv8, ev8, -, -⟩ := own_slice hO8; subst ev8; have hbk8 : Blk w8 w1.heap.size 26 _ := hbk7.out.keep ((KeepB.refl (fun b => (Value.slice AA acs.length cA).ownBlock = some b) _).grown hg8 (fun k hk _ => hk)) (fun e => own_ne hoA.out hbk7.out (by decide) _ e rfl); have d2 := hbk8.cell 2; have z2 := hbk8.frozen 2; simp only [List.getElem?_toArray, List.getElem?_cons_zero, List.getElem?_cons_succ] at d2; have hst8 := hid (hst7'.out.put (t := tb) hg8 hO8); replace hbk8 := hid hbk8; clear hO8 hg8 hat8)
          go_roundw
          case rel =>
            have h8 := hst8.out
            rw [hacs2.out] at h8
            exact ⟨i + 1, _, _, _, by go_num, by omega, h8, hxs2.out⟩
          case measure => simp [intOf]; omega
    · obtain rfl : i = N.length := by omega
      have hro := hid (hst.fam.rowsOwn hst.tab)
      have hac := hst.acc
      have hBm := hst.below
      have hbk := hst.blk
      have d0 := hbk.cell 0
      have d1 := hbk.cell 1
      have d2 := hbk.cell 2
      have hresr := hres1.out.below hBm hres1.out.lt
      have q0 := hresr.cell 0
      have q1 := hresr.cell 1
      have q2 := hresr.cell 2
      have f0 := hresr.frozen 0
      have f1 := hresr.frozen 1
      have f2 := hresr.frozen 2
      simp only [List.getElem?_toArray, List.getElem?_cons_zero, List.getElem?_cons_succ] at q0 q1 q2 d0 d1 d2
      have hBr := hB1.trans (hBm.mono hB1.size)
      have hau : Hid (AuOwn wr w1.heap.size (.slice AR xs.length cR) (.slice AA acs.length cA) (trimA a) xs) := hid (by
        have h1 := hacs.out
        have h2 := hxs.out
        rw [List.take_length] at h1 h2
        rw [htr2.out]
        refine ⟨hro.out, h2, ?_⟩
        show wr.ownsRow w1.heap.size 4 1 _ (N.map fun q => a.ac.getD q false).length (boolVals (N.map fun q => a.ac.getD q false))
        rw [← h1]
        exact hac)
      have hlt2 : w.heap.size + 1 < w1.heap.size := by omega
      replace hst := hid hst
      replace hac := hid hac
      replace hbk := hid hbk
      replace hBm := hid hBm
      replace hresr := hid hresr
      obtain ⟨nA, hnA⟩ : ∃ nA, Hid (nA = acs.length) := ⟨_, hid rfl⟩
      rw [← hnA.out] at hau d2
      go_wp2
      refine bodyPost_ret (v := .agg #[.int .i64 a.al, .slice AR xs.length cR, .slice AA nA cA]) (by simp [results, Tryd.results154, go_sem, q0, q1, q2]) rfl ?_
      exact ⟨by (repeat (first | exact Below.refl _ _ | assumption | refine Below.drew ?_ | refine Below.alloc ?_ (by first | omega | (simp; done) | (simp; omega)) _ | refine Below.setCell ?_ (by first | omega | (simp; done) | (simp; omega)) _)), _, _, xs, rfl, (((hau.out.setFar hlt2 _).setFar hlt2 _).setFar hlt2 _).base (by omega)⟩

end Go.Proofs.YtkoganldcmhopaaDoor

/- The reference's l5Same. -/
namespace Go.Proofs.YtkoganldcmhopaaDoor
open Go.RowKit Go.BigFrame Go.Maps AG

/-- What is known of an automaton's rows. -/
structure RowP (a : Au) (nx : Nat → Nat → Nat) (L : List Nat) : Prop where
  row : ∀ q (h : q < a.nx.length), (a.nx[q]).length = L.length
  at_ : ∀ q (h : q < a.nx.length) k (hk : k < L.length) (hk' : k < (a.nx[q]).length), (a.nx[q])[k] = ((nx q L[k] : Nat) : Int)
  go : ∀ q, q < a.nx.length → ∀ l, nx q l < a.nx.length
  six : L.length ≤ 6
  sig : ∀ (c : List Nat) p q, p < a.nx.length → q < a.nx.length → (sigA a c p = sigA a c q ↔ c.getD p 0 = c.getD q 0 ∧ ∀ l ∈ L, c.getD (nx p l) 0 = c.getD (nx q l) 0)
  sigF : ∀ (c : List Nat) q, q < a.nx.length → sigA a c q = c.getD q 0 :: L.map fun l => c.getD (nx q l) 0
theorem rowP {a : Au} (hok : auOk a = true) : RowP a (goA a) (letters a.al) :=
  ⟨fun q h => (row_at hok h).2.1, fun q h k hk hk' => (goA_at hok h hk hk').symm, fun q h l => goA_lt hok h, letters_len6 _, fun c p q hp hq => sigA_eq hok c hp hq, fun c q hq => by
    obtain ⟨e1, e2, -⟩ := row_at hok hq
    unfold sigA
    rw [e1]
    congr 1
    refine List.ext_getElem (by simp [e2]) fun k h1 h2 => ?_
    rw [List.getElem_map, List.getElem_map]
    have hk : k < (letters a.al).length := by simpa using h2
    have hk' : k < (a.nx[q]).length := by rw [e2]; exact hk
    rw [← goA_at hok hq hk hk']
    rfl⟩
theorem getD_at {c : List Nat} {i : Nat} (h : i < c.length) : c.getD i 0 = c[i] := by
  rw [List.getD_eq_getElem?_getD, List.getElem?_eq_getElem h]
  rfl

set_option maxRecDepth 100000 in
set_option maxHeartbeats 4000000 in
theorem l5Same_any (a : Au) (A B AC : Option Addr) (c d cC : Nat) (cls : List Nat) (i j : Nat) (w : World) (hok : auOk a = true) (hcl : cls.length = a.nx.length) (hi : i < a.nx.length) (hj : j < a.nx.length) (hcC : cls.length ≤ cC) (hcC' : cC ≤ 9223372036854775807) (hC : NatsAt w w.heap.size AC cls) (ha : AuAt w A c B d a) :
    Calls Tryd.prog 202 #[a.val A c B d, .slice AC cls.length cC, .int .i64 (i : Nat), .int .i64 (j : Nat)] w fun e w' => e = .returned (.bool (decide (sigA a cls i = sigA a cls j))) ∧ Below w.heap.size w w' := by
  obtain ⟨-, hn1, hn12, -, -⟩ := (auOk_iff a).1 hok
  obtain ⟨w0, hw0, hzz0, hB0, hS⟩ := boxed w #[Value.int IntKind.i64 a.al, Value.slice A a.nx.length c, Value.slice B a.ac.length d] 26
  have ha0 := hid (ha.later hB0)
  have hC0 := hC.later hB0
  obtain ⟨L, nx, hP⟩ : ∃ L nx, Hid (RowP a nx L) := ⟨_, _, hid (rowP hok)⟩
  have hS1 := hid (fun w' (hb : Below w0.heap.size w0 w') => hS 1 _ rfl w' (hb.mono hzz0))
  obtain ⟨bC, oC, hCe, hbC, hEC⟩ := hC0 (by omega)
  subst hCe
  have hcell : Hid (∀ w', Below w0.heap.size w0 w' → ∀ t (h : t < a.nx.length), w'.cell? ⟨bC, oC + t, none⟩ = some (.int .i64 (cls.getD t 0 : Nat))) := hid fun w' hb t h => by
    rw [getD_at (by omega)]
    exact (hb.cell (p := ⟨bC, oC + t, none⟩) (by simpa using hbC)).trans (hEC t (by omega))
  have hiff := hid (hP.out.sig cls i j hi hj)
  obtain ⟨D, hD⟩ : ∃ D, Hid (D = decide (sigA a cls i = sigA a cls j)) := ⟨_, hid rfl⟩
  rw [← hD.out]
  have hfacts : Hid ((cls.getD i 0 ≠ cls.getD j 0 → D = false) ∧ (∀ l ∈ L, cls.getD (nx i l) 0 ≠ cls.getD (nx j l) 0 → D = false) ∧ (cls.getD i 0 = cls.getD j 0 → (∀ l ∈ L, cls.getD (nx i l) 0 = cls.getD (nx j l) 0) → D = true)) := hid (by
    rw [hD.out]
    refine ⟨fun h => decide_eq_false fun h' => h (hiff.out.1 h').1, fun l hl h => decide_eq_false fun h' => h ((hiff.out.1 h').2 l hl), fun h1 h2 => decide_eq_true (hiff.out.2 ⟨h1, h2⟩)⟩)
  have y0 : ∀ x', (Fam w0.heap.size w0 x').cell? ⟨bC, oC + i, none⟩ = some (.int .i64 (cls.getD i 0 : Nat)) := fun x' => hcell.out _ (Fam.below _ _ x') i hi
  have y1 : ∀ x', (Fam w0.heap.size w0 x').cell? ⟨bC, oC + j, none⟩ = some (.int .i64 (cls.getD j 0 : Nat)) := fun x' => hcell.out _ (Fam.below _ _ x') j hj
  obtain ⟨ci, hci⟩ : ∃ ci, Hid (ci = cls.getD i 0) := ⟨_, hid rfl⟩
  obtain ⟨cj, hcj⟩ : ∃ cj, Hid (cj = cls.getD j 0) := ⟨_, hid rfl⟩
  rw [← hci.out] at y0 hfacts
  rw [← hcj.out] at y1 hfacts
  have k1 : (0 : Int) ≤ (i : Int) ∧ (i : Int) < (cls.length : Int) ∧ (0 : Int) ≤ (j : Int) ∧ (j : Int) < (cls.length : Int) := by omega
  have k0 : (i : Int) < (a.nx.length : Int) ∧ (j : Int) < (a.nx.length : Int) := by omega
  clear hok hS hiff hD hEC hC hC0
  replace ha := hid ha
  replace hcl := hid hcl
  unfold AG.Au.val
  by_cases hne : ci = cj
  case neg =>
    have hq : ((ci : Int) != (cj : Int)) = true := by simp; omega
    have hDf := hid (hfacts.out.1 hne)
    replace hne := hid hne
    go_enter Tryd.func202, Tryd.ntmps202
    go_wp2_with fail
    refine wp_region_fam w0.heap.size w0 (by kernel_rfl) (by kernel_rfl) (Below.refl _ _) ?_
    (repeat (go_big_quiet_step (fail)))
    refine wpQuiet_nil ?_
    intro w5 hw5
    replace hw5 := Fam.out hw5
    clear y0 y1
    go_wp2_with fail
    go_ret
    exact ⟨ret_bool (by rw [hDf.out]), hB0.trans (hw5.mono hB0.size)⟩
  have hq : ((ci : Int) != (cj : Int)) = false := by simp; omega
  replace hne := hid hne
  go_enter Tryd.func202, Tryd.ntmps202
  go_wp2_with fail
  refine wp_region_fam w0.heap.size w0 (by kernel_rfl) (by kernel_rfl) (Below.refl _ _) ?_
  (repeat (go_big_quiet_step (fail)))
  refine wpQuiet_nil ?_
  intro w5 hw5
  replace hw5 := hid (Fam.out hw5)
  clear y0 y1
  obtain ⟨bR, oR, r, Ai, cri, hRe, hbR, hr, hr0, h1, h2, h3⟩ := row_read ha0.out.rows hi
  subst hRe
  obtain ⟨bR2, oR2, s, As, crs, hRe2, hbR2, hs, hs0, g1, g2, g3⟩ := row_read ha0.out.rows hj
  injection hRe2 with hRe2
  injection hRe2 with e1 e2
  subst e1
  subst e2
  have hrlen : r.length = L.length := by rw [hr.out]; exact hP.out.row i hi
  have hslen : s.length = L.length := by rw [hs.out]; exact hP.out.row j hj
  have hrk : Hid (∀ k (hk : k < L.length) (hk' : k < r.length), r[k] = ((nx i L[k] : Nat) : Int)) := hid (by
    have h := hP.out.at_ i hi
    rw [← hr.out] at h
    exact h)
  have hsk : Hid (∀ k (hk : k < L.length) (hk' : k < s.length), s[k] = ((nx j L[k] : Nat) : Int)) := hid (by
    have h := hP.out.at_ j hj
    rw [← hs.out] at h
    exact h)
  go_wp2_with fail
  go_loopw [9] (fun kv wr => ∃ k : Nat, kv = .int .i64 (k : Nat) ∧ k ≤ L.length ∧ Below w0.heap.size w0 wr ∧ ∀ k' (h : k' < L.length), k' < k → cls.getD (nx i L[k']) 0 = cls.getD (nx j L[k']) 0) (fun kv _ => L.length - (intOf kv).toNat)
  case atStart => exact ⟨0, rfl, Nat.zero_le _, hw5.out, fun k' _ h => absurd h (Nat.not_lt_zero _)⟩
  case round =>
    obtain ⟨k, rfl, hk, hb, hall⟩ := hrel
    have p1 := hS1.out wr hb
    have r0 := hr0.out wr hb
    by_cases hkl : k < L.length
    · obtain ⟨bi, oi, hie, hbi, hEi⟩ := (h3.out.later hb) (by omega)
      subst hie
      obtain ⟨bj, oj, hje, hbj, hEj⟩ := (g3.out.later hb) (by omega)
      subst hje
      have e1 := hEi k (by omega)
      have e2 := hEj k (by omega)
      rw [hrk.out k hkl (by omega)] at e1
      rw [hsk.out k hkl (by omega)] at e2
      have zi := hP.out.go i hi L[k]
      have zj := hP.out.go j hj L[k]
      have e3 := hcell.out wr hb _ zi
      have e4 := hcell.out wr hb _ zj
      have s0 := hs0.out wr hb
      obtain ⟨ti, hti⟩ : ∃ ti, Hid (ti = nx i L[k]) := ⟨_, hid rfl⟩
      obtain ⟨tj, htj⟩ : ∃ tj, Hid (tj = nx j L[k]) := ⟨_, hid rfl⟩
      rw [← hti.out] at e1 e3 zi
      rw [← htj.out] at e2 e4 zj
      obtain ⟨u, hu⟩ : ∃ u, Hid (u = cls.getD ti 0) := ⟨_, hid rfl⟩
      obtain ⟨v, hv⟩ : ∃ v, Hid (v = cls.getD tj 0) := ⟨_, hid rfl⟩
      rw [← hu.out] at e3
      rw [← hv.out] at e4
      have hlw : w.heap.size < wr.heap.size := by have := hb.size; omega
      have hlR : bR < wr.heap.size := by have := hb.size; omega
      have hlC : bC < wr.heap.size := by have := hb.size; omega
      have y0 : ∀ x', (Fam wr.heap.size wr x').cell? ⟨w.heap.size, 1, none⟩ = some (.slice (some ⟨bR, oR, none⟩) a.nx.length c) := fun x' => by rw [(Fam.below wr.heap.size wr x').cell (by simpa using hlw)]; exact p1
      have y1 : ∀ x', (Fam wr.heap.size wr x').cell? ⟨bR, oR + i, none⟩ = some (.slice (some ⟨bi, oi, none⟩) r.length cri) := fun x' => by rw [(Fam.below wr.heap.size wr x').cell (by simpa using hlR)]; exact r0
      have y2 : ∀ x', (Fam wr.heap.size wr x').cell? ⟨bR, oR + j, none⟩ = some (.slice (some ⟨bj, oj, none⟩) s.length crs) := fun x' => by rw [(Fam.below wr.heap.size wr x').cell (by simpa using hlR)]; exact s0
      have y3 : ∀ x', (Fam wr.heap.size wr x').cell? ⟨bi, oi + k, none⟩ = some (.int .i64 (ti : Nat)) := fun x' => by rw [(Fam.below wr.heap.size wr x').cell (by simpa using hbi)]; exact e1
      have y4 : ∀ x', (Fam wr.heap.size wr x').cell? ⟨bj, oj + k, none⟩ = some (.int .i64 (tj : Nat)) := fun x' => by rw [(Fam.below wr.heap.size wr x').cell (by simpa using hbj)]; exact e2
      have y5 : ∀ x', (Fam wr.heap.size wr x').cell? ⟨bC, oC + ti, none⟩ = some (.int .i64 (u : Nat)) := fun x' => by rw [(Fam.below wr.heap.size wr x').cell (by simpa using hlC)]; exact e3
      have y6 : ∀ x', (Fam wr.heap.size wr x').cell? ⟨bC, oC + tj, none⟩ = some (.int .i64 (v : Nat)) := fun x' => by rw [(Fam.below wr.heap.size wr x').cell (by simpa using hlC)]; exact e4
      have k2 : (0 : Int) ≤ (k : Int) ∧ (k : Int) < (r.length : Int) ∧ (k : Int) < (s.length : Int) := by omega
      have k3 : (0 : Int) ≤ (ti : Int) ∧ (ti : Int) < (cls.length : Int) ∧ (0 : Int) ≤ (tj : Int) ∧ (tj : Int) < (cls.length : Int) := by have := hcl.out; omega
      have hB := hB0.trans (hb.mono hB0.size)
      replace hEi := hid hEi
      replace hEj := hid hEj
      replace hall := hid hall
      clear e1 e2 e3 e4 s0
      by_cases huv : u = v
      case neg =>
        have hq2 : ((u : Int) != (v : Int)) = true := by simp; omega
        have hDf := hid (hfacts.out.2.1 L[k] (List.getElem_mem _) (by rw [← hti.out, ← htj.out, ← hu.out, ← hv.out]; exact huv))
        replace huv := hid huv
        go_wp2_with fail
        refine wp_region_fam wr.heap.size wr (by kernel_rfl) (by kernel_rfl) (Below.refl _ _) ?_
        (repeat (go_big_quiet_step (fail)))
        refine wpQuiet_nil ?_
        intro w6 hw6
        replace hw6 := Fam.out hw6
        clear y0 y1 y2 y3 y4 y5 y6
        go_wp2_with fail
        go_ret
        exact ⟨ret_bool (by rw [hDf.out]), hB.trans (hw6.mono hB.size)⟩
      have hq2 : ((u : Int) != (v : Int)) = false := by simp; omega
      replace huv := hid huv
      go_wp2_with fail
      refine wp_region_fam wr.heap.size wr (by kernel_rfl) (by kernel_rfl) (Below.refl _ _) ?_
      (repeat (go_big_quiet_step (fail)))
      refine wpQuiet_nil ?_
      intro w6 hw6
      replace hw6 := hid (Fam.out hw6)
      clear y0 y1 y2 y3 y4 y5 y6
      go_wp2_with fail
      go_roundw
      case rel =>
        refine ⟨k + 1, by go_num, by omega, hb.trans (hw6.out.mono hb.size), fun k' h' hk' => ?_⟩
        by_cases e : k' = k
        · subst e
          rw [← hti.out, ← htj.out, ← hu.out, ← hv.out]
          exact huv.out
        · exact hall.out k' h' (by omega)
      case measure => simp [intOf]; omega
    · obtain rfl : k = L.length := by omega
      have hDt := hid (hfacts.out.2.2 hne.out fun l hl => by
        obtain ⟨k', h', rfl⟩ := List.mem_iff_getElem.1 hl
        exact hall k' h' h')
      replace hall := hid hall
      have hB := hB0.trans (hb.mono hB0.size)
      go_wp2_with fail
      go_ret
      exact ⟨ret_bool (by rw [hDt.out]), hB⟩

end Go.Proofs.YtkoganldcmhopaaDoor

/- The reference's l5Refine. -/
namespace Go.Proofs.YtkoganldcmhopaaDoor
open Go.RowKit Go.BigFrame Go.Maps AG

def idxL {α : Type} [DecidableEq α] (l : List α) (x : α) : Nat := l.idxOf x
theorem idxL_lt {α : Type} [DecidableEq α] {l : List α} {x : α} (h : x ∈ l) : idxL l x < l.length := List.idxOf_lt_length_iff.2 h
theorem numb_getL {α : Type} [DecidableEq α] (ks : List α) {i : Nat} (h : i < ks.length) : (numb ks).getD i 0 = idxL (dd ks) ks[i] := numb_getD ks h
theorem numb_snocL {α : Type} [DecidableEq α] (ks : List α) (k : α) : numb (ks ++ [k]) = numb ks ++ [if k ∈ ks then idxL (dd ks) k else (dd ks).length] := numb_snoc ks k
theorem keys_take {a : Au} (c : List Nat) {i : Nat} (hi : i < a.nx.length) : (keysA a c).take (i + 1) = (keysA a c).take i ++ [sigA a c i] := by
  rw [List.take_succ_eq_append_getElem (by rw [keysA_len]; exact hi), keysA_get]
theorem keys_in {a : Au} (c : List Nat) {i j : Nat} (hi : i < a.nx.length) (hj : j < i) : ∃ h : j < ((keysA a c).take i).length, ((keysA a c).take i)[j] = sigA a c j := by
  have h : j < ((keysA a c).take i).length := by rw [List.length_take, keysA_len]; omega
  exact ⟨h, by rw [List.getElem_take, keysA_get]⟩
theorem ref_found {a : Au} {c : List Nat} {i j : Nat} (hi : i < a.nx.length) (hj : j < i) (h : sigA a c j = sigA a c i) : (numb ((keysA a c).take i)).getD j 0 = idxL (dd ((keysA a c).take i)) (sigA a c i) ∧ sigA a c i ∈ (keysA a c).take i := by
  obtain ⟨h1, h2⟩ := keys_in c hi hj
  refine ⟨by rw [numb_getL _ h1, h2, h], ?_⟩
  rw [← h, ← h2]
  exact List.getElem_mem h1
theorem ref_none {a : Au} {c : List Nat} {i : Nat} (hi : i < a.nx.length) (h : ∀ j, j < i → sigA a c j ≠ sigA a c i) : sigA a c i ∉ (keysA a c).take i := by
  intro hm
  obtain ⟨j, hj, e⟩ := List.mem_iff_getElem.1 hm
  have hji : j < i := by rw [List.length_take] at hj; omega
  obtain ⟨h1, h2⟩ := keys_in c hi hji
  exact h j hji (by rw [← h2]; exact e)
theorem ref_old {a : Au} {c : List Nat} {i : Nat} (hi : i < a.nx.length) (h : sigA a c i ∈ (keysA a c).take i) : numb ((keysA a c).take (i + 1)) = numb ((keysA a c).take i) ++ [idxL (dd ((keysA a c).take i)) (sigA a c i)] ∧ (dd ((keysA a c).take (i + 1))).length = (dd ((keysA a c).take i)).length := by
  rw [keys_take c hi, numb_snocL, if_pos h, dd_snoc, addD_old ((dd_mem _ _).2 h)]
  exact ⟨rfl, rfl⟩
theorem ref_new {a : Au} {c : List Nat} {i : Nat} (hi : i < a.nx.length) (h : sigA a c i ∉ (keysA a c).take i) : numb ((keysA a c).take (i + 1)) = numb ((keysA a c).take i) ++ [(dd ((keysA a c).take i)).length] ∧ (dd ((keysA a c).take (i + 1))).length = (dd ((keysA a c).take i)).length + 1 := by
  rw [keys_take c hi, numb_snocL, if_neg h, dd_snoc, addD_new (fun h' => h ((dd_mem _ _).1 h'))]
  exact ⟨rfl, by simp⟩
theorem ref_all (a : Au) (c : List Nat) : numb ((keysA a c).take a.nx.length) = refA a c ∧ (dd ((keysA a c).take a.nx.length)).length = refC a c := by
  rw [List.take_of_length_le (by rw [keysA_len]; exact Nat.le_refl _)]
  exact ⟨rfl, rfl⟩
theorem ref_len {a : Au} (c : List Nat) {i : Nat} (hi : i ≤ a.nx.length) : (numb ((keysA a c).take i)).length = i ∧ (dd ((keysA a c).take i)).length ≤ i := by
  have h := dd_len ((keysA a c).take i)
  rw [List.length_take, keysA_len] at h
  rw [numb_len, List.length_take, keysA_len]
  omega

set_option maxRecDepth 100000 in
set_option maxHeartbeats 4000000 in
theorem l5Refine_any (a : Au) (A B AC : Option Addr) (c d cC : Nat) (cls : List Nat) (w : World) (hok : auOk a = true) (hcl : cls.length = a.nx.length) (hcC : cls.length ≤ cC) (hcC' : cC ≤ 9223372036854775807) (hC : NatsAt w w.heap.size AC cls) (ha : AuAt w A c B d a) :
    Calls Tryd.prog 186 #[a.val A c B d, .slice AC cls.length cC] w fun e w' => ∃ v, e = .returned (.tuple #[v, .int .i64 (refC a cls : Nat)]) ∧ OwnNats w' w.heap.size v (refA a cls) ∧ Below w.heap.size w w' := by
  obtain ⟨-, hn1, hn12, -, -⟩ := (auOk_iff a).1 hok
  obtain ⟨i0, hi0, hz0, hz1, hz2⟩ := info_parts infoInt
  obtain ⟨w0, hw0, hzz0, hB0, hS⟩ := boxed w #[Value.int IntKind.i64 a.al, Value.slice A a.nx.length c, Value.slice B a.ac.length d] 26
  have ha0 := hid (ha.later hB0)
  have hC0 := hid (hC.later hB0)
  have hS1 := hid (fun w' (hb : Below w0.heap.size w0 w') => And.intro (hS 0 _ rfl w' (hb.mono hzz0)) (And.intro (hS 1 _ rfl w' (hb.mono hzz0)) (hS 2 _ rfl w' (hb.mono hzz0))))
  have hst0 := hid (OrdSt.new0 w0)
  have hok' := hid hok
  have hcl' := hid hcl
  clear hok hS hC
  replace ha := hid ha
  unfold AG.Au.val
  go_enter Tryd.func186, Tryd.ntmps186
  go_wp2_with fail
  go_loopw [6, 7, 8] (fun vO nv iv wr => ∃ (i : Nat) (o : List Nat) (nn : Nat) (AO : Option Addr) (cO : Nat), vO = .slice AO o.length cO ∧ nv = .int .i64 (nn : Nat) ∧ iv = .int .i64 (i : Nat) ∧ i ≤ cls.length ∧ numb ((keysA a cls).take i) = o ∧ (dd ((keysA a cls).take i)).length = nn ∧ OrdSt w0 wr (.slice AO o.length cO) o) (fun _ _ iv _ => cls.length - (intOf iv).toNat)
  case atStart => exact ⟨0, [], 0, _, _, rfl, rfl, rfl, Nat.zero_le _, by simp [numb], by simp [dd], hst0.out⟩
  case round =>
    clear hst0 hw0
    obtain ⟨i, o, nn, AO, cO, rfl, rfl, rfl, hiN, ho, hnn, hst⟩ := hrel
    obtain ⟨hol, hnl⟩ := ref_len (a := a) cls (i := i) (by omega)
    rw [ho] at hol
    rw [hnn] at hnl
    by_cases hlt : i < cls.length
    · have hin : i < a.nx.length := by omega
      have hst' := hid hst
      have hszo := hst.below.size
      clear hst
      obtain ⟨oc, hoc⟩ : ∃ oc, Hid (oc = idxL (dd ((keysA a cls).take i)) (sigA a cls i)) := ⟨_, hid rfl⟩
      replace ho := hid ho
      replace hnn := hid hnn
      replace hol := hid hol
      replace hcl := hid hcl
      go_wp2_with fail
      obtain ⟨wo, rfl⟩ : ∃ wo : World, wo = wr := ⟨_, rfl⟩
      go_loopw [9, 10] (fun cv jv wr => ∃ (j : Nat) (x : Int), cv = .int .i64 x ∧ jv = .int .i64 (j : Nat) ∧ j ≤ i ∧ Below wo.heap.size wo wr ∧ ((x = -1 ∧ ∀ j', j' < j → sigA a cls j' ≠ sigA a cls i) ∨ (x = (oc : Nat) ∧ sigA a cls i ∈ (keysA a cls).take i))) (fun _ jv _ => i - (intOf jv).toNat)
      case atStart => exact ⟨0, -1, rfl, rfl, Nat.zero_le _, Below.refl _ _, .inl ⟨rfl, fun j' h => absurd h (Nat.not_lt_zero _)⟩⟩
      case round =>
        obtain ⟨j, x, rfl, rfl, hji, hb, hx⟩ := hrel
        have hst6 := hid (hst'.out.later hb)
        have hB6 := hst6.out.below
        have hz6 := hB6.size
        rcases hx with ⟨rfl, hno⟩ | ⟨rfl, hyes⟩
        · by_cases hjl : j < i
          · obtain ⟨p0, p1, p2⟩ := hS1.out wr hB6
            have hno' := hid hno
            have har := hid (ha0.out.later hB6)
            have hCr := hid (hC0.out.later hB6)
            have hjn : j < a.nx.length := by omega
            replace hB6 := hid hB6
            clear hno
            go_wp2_with fail
            refine (l5Same_any a A B AC c d cC cls i j wr hok'.out hcl.out hin hjn hcC hcC' hCr.out har.out).mono ?_
            rintro e w7 ⟨rfl, hb7⟩
            have hb67 := hid (hb.trans (hb7.mono hb.size))
            have hst7 := hid (hst6.out.later hb7)
            by_cases hs : sigA a cls i = sigA a cls j
            · rw [decide_eq_true hs]
              have hf := hid (ref_found hin hjl hs.symm)
              replace hs := hid hs
              obtain ⟨A7, c7, he7, hc7, hc7', hN7⟩ := OwnN.read hst7.out.own
              cases he7
              obtain ⟨bO, oO, hAe, hbO, hEO⟩ := hN7 (by have := hol.out; omega)
              subst hAe
              have e0 := hEO j (by have := hol.out; omega)
              have e1 : o[j]'(by have := hol.out; omega) = oc := by
                have h1 := hf.out.1
                rw [ho.out, getD_at (by have := hol.out; omega), ← hoc.out] at h1
                exact h1
              rw [e1] at e0
              have k1 : (0 : Int) ≤ (j : Int) ∧ (j : Int) < (o.length : Int) := by have := hol.out; omega
              replace e1 := hid e1
              replace hEO := hid hEO
              replace hN7 := hid hN7
              clear p0 p1 p2
              go_wp2_with fail
              go_roundw
              case rel => exact ⟨j + 1, _, rfl, by go_num, by omega, hb67.out, .inr ⟨rfl, hf.out.2⟩⟩
              case measure => simp [intOf]; omega
            · rw [decide_eq_false hs]
              replace hs := hid hs
              clear p0 p1 p2
              go_wp2_with fail
              go_roundw
              case rel =>
                refine ⟨j + 1, -1, rfl, by go_num, by omega, hb67.out, .inl ⟨rfl, fun j' hj' => ?_⟩⟩
                by_cases e : j' = j
                · subst e
                  exact fun h => hs.out h.symm
                · exact hno'.out j' (by omega)
              case measure => simp [intOf]; omega
          · obtain rfl : i = j := by omega
            have hnew := hid (ref_new hin (ref_none hin hno))
            rw [ho.out, hnn.out] at hnew
            replace hno := hid hno
            have hol12 : o.length ≤ 12 := by have := hol.out; omega
            replace hB6 := hid hB6
            go_wp2_with (at_builtin; refine wpList_append_own_at _ rfl _ _ 52 rfl w0.heap.size 3 i0 (.int .i64 0) 1 8 Tryd.underlying52 hi0 hz0 hz1 hz2 rfl (by decide) _ _ _ rfl (hst6.out.own.alloc _) ⟨wr.heap.size, 0, none⟩ 1 1 [.int .i64 (nn : Nat)] rfl rfl (cell_one_new _ _ _) (by intro u hu; simp at hu; subst hu; rfl) (by unfold maxLen; omega) (by omega) (by first | omega | (simp; omega)) ?_; intro v7 w7 hO7 hg7 _ hat7; obtain ⟨Av7, cv7, ev7, -, -⟩ := own_slice hO7; subst ev7; have hst7 := hid (hst6.out.app (x := nn) hg7 hO7); clear hO7 hg7 hat7)
            go_roundw
            case rel => exact ⟨i + 1, o ++ [nn], nn + 1, _, _, by rw [List.length_append]; rfl, by first | rfl | go_num, by go_num, by omega, hnew.out.1, hnew.out.2, by have := hst7.out; rw [List.length_append]; exact this⟩
            case measure => simp [intOf]; omega
        · have hnew := hid (ref_old hin hyes)
          rw [ho.out, hnn.out, ← hoc.out] at hnew
          have hol12 : o.length ≤ 12 := by have := hol.out; omega
          have hocl : oc < 13 := by
            have h1 := idxL_lt ((dd_mem _ _).2 hyes)
            rw [← hoc.out, hnn.out] at h1
            omega
          have hoc0 : ¬ ((oc : Int) < 0) := by omega
          replace hyes := hid hyes
          replace hB6 := hid hB6
          by_cases hjl : j < i
          · have hjj : ((j : Int) < (i : Int)) := by omega
            go_wp2_with (at_builtin; refine wpList_append_own_at _ rfl _ _ 52 rfl w0.heap.size 3 i0 (.int .i64 0) 1 8 Tryd.underlying52 hi0 hz0 hz1 hz2 rfl (by decide) _ _ _ rfl (hst6.out.own.alloc _) ⟨wr.heap.size, 0, none⟩ 1 1 [.int .i64 (oc : Nat)] rfl rfl (cell_one_new _ _ _) (by intro u hu; simp at hu; subst hu; rfl) (by unfold maxLen; omega) (by omega) (by first | omega | (simp; omega)) ?_; intro v7 w7 hO7 hg7 _ hat7; obtain ⟨Av7, cv7, ev7, -, -⟩ := own_slice hO7; subst ev7; have hst7 := hid (hst6.out.app (x := oc) hg7 hO7); clear hO7 hg7 hat7)
            go_roundw
            case rel => exact ⟨i + 1, o ++ [oc], nn, _, _, by rw [List.length_append]; rfl, by first | rfl | go_num, by go_num, by omega, hnew.out.1, hnew.out.2, by have := hst7.out; rw [List.length_append]; exact this⟩
            case measure => simp [intOf]; omega
          · have hjj : ¬ ((j : Int) < (i : Int)) := by omega
            go_wp2_with (at_builtin; refine wpList_append_own_at _ rfl _ _ 52 rfl w0.heap.size 3 i0 (.int .i64 0) 1 8 Tryd.underlying52 hi0 hz0 hz1 hz2 rfl (by decide) _ _ _ rfl (hst6.out.own.alloc _) ⟨wr.heap.size, 0, none⟩ 1 1 [.int .i64 (oc : Nat)] rfl rfl (cell_one_new _ _ _) (by intro u hu; simp at hu; subst hu; rfl) (by unfold maxLen; omega) (by omega) (by first | omega | (simp; omega)) ?_; intro v7 w7 hO7 hg7 _ hat7; obtain ⟨Av7, cv7, ev7, -, -⟩ := own_slice hO7; subst ev7; have hst7 := hid (hst6.out.app (x := oc) hg7 hO7); clear hO7 hg7 hat7)
            go_roundw
            case rel => exact ⟨i + 1, o ++ [oc], nn, _, _, by rw [List.length_append]; rfl, by first | rfl | go_num, by go_num, by omega, hnew.out.1, hnew.out.2, by have := hst7.out; rw [List.length_append]; exact this⟩
            case measure => simp [intOf]; omega
    · obtain rfl : i = cls.length := by omega
      have hfin := hid (ref_all a cls)
      rw [← hcl, ho, hnn] at hfin
      have hown := hid (own_base hst.own hB0.size)
      have hB := hB0.trans (hst.below.mono hB0.size)
      replace ho := hid ho
      replace hnn := hid hnn
      replace hst := hid hst
      go_wp2_with fail
      go_ret2
      exact ⟨_, congrArg (fun n : Nat => Ending.returned (.tuple #[.slice AO o.length cO, .int .i64 (n : Nat)])) hfin.out.2, by rw [← hfin.out.1]; exact hown.out, hB⟩

end Go.Proofs.YtkoganldcmhopaaDoor
