/- Lemmas, part 10: several texts in one. -/
import Derived.Test.YtkoganldcmhopaaDoorK9
import Derived.Test.YtkoganldcmhopaaDoorK4
import Derived.Test.YtkoganldcmhopaaDoorK2
import Derived.BigRegion
import Derived.Test.YtkoganldcmhopaaDoorK6
import Derived.Test.YtkoganldcmhopaaDoorK5
import Derived.Laws.IdiomStrings
import Derived.Laws.BytesString
import Derived.Maps.AppendAt
import Derived.Test.YtkoganldcmhopaaDoorK1
import Derived.Deep.Quiet
import Derived.Test.YtkoganldcmhopaaDoorK7
import Derived.Test.YtkoganldcmhopaaDoorK8
import Derived.Test.YtkoganldcmhopaaDoorCards
import Derived.Test.YtkoganldcmhopaaDoorTie
import Derived.WalkKit
import Derived.ProofKit
import Derived.OpenShut
import Derived.Deep.DeepHandedRow
import Derived.Lib.LaidTab
import Derived.Stop.LaidErr
import Derived.Deep.Slices
import Derived.Deep.Fields
import Derived.ChangeSame
import Derived.ChangeSlices
import Derived.Lib.SmallJoins
set_option linter.unusedSimpArgs false
set_option linter.unusedVariables false

/- The drawing kit: l5Any. -/
namespace Go.Proofs.YtkoganldcmhopaaDoor
open Go.RowKit Go.BigFrame AG

/-- The automaton is replaced by one that has just been made. -/
theorem AuSt.assign {K : Nat → Prop} {w0 wr w1 : World} {gs : Nat} {v1 v2 v1' v2' : Value} {a a' : Au} {xs xs' : List RowV} (h : AuSt K w0 wr gs v1 v2 a xs) (hK : ∀ b, K b → b < w0.heap.size) (hk : KeepB K wr w1) (ho : AuOwn w1 wr.heap.size v1' v2' a' xs') :
    AuSt K w0 (((w1.setCell ⟨gs, 0, none⟩ (.int .i64 a'.al)).setCell ⟨gs, 1, none⟩ v1').setCell ⟨gs, 2, none⟩ v2') gs v1' v2' a' xs' := by
  have hge := h.ge
  have hlt := h.blk.lt
  have hz := h.keep.size
  have hb := h.blk.keep hk fun e => by have := hK _ e; omega
  have hk2 : KeepB (fun b => b = gs) w1 (((w1.setCell ⟨gs, 0, none⟩ (.int .i64 a'.al)).setCell ⟨gs, 1, none⟩ v1').setCell ⟨gs, 2, none⟩ v2') := (((KeepB.refl _ w1).setCell _ _ (by simp)).setCell _ _ (by simp)).setCell _ _ (by simp)
  exact ⟨(((h.keep.trans hk).setCell _ _ (fun e => by simp at e; omega)).setCell _ _ (fun e => by simp at e; omega)).setCell _ _ (fun e => by simp at e; omega), h.ge, (ho.keepNew hk2 (fun b e => by omega)).base (by omega), by simpa using ((hb.set_ 0 (.int .i64 a'.al)).set_ 1 v1').set_ 2 v2'⟩

set_option maxRecDepth 100000 in
set_option maxHeartbeats 8000000 in
theorem l5Any_up (R P : Nat) (w : World) (hP : P + 600000000 ≤ 1125899906842624) (hr : RdUp w R P) :
    Calls Tryd.prog 55 #[.pointer (some ⟨R, 0, none⟩)] w (AuUp (AuSz 3000) R (P + 100000000) w) := by
  have hR := hr.lt
  obtain ⟨wA, hwA, hzA, hBA, -⟩ := boxed w #[.int .i64 0, .slice none 0 0, .slice none 0 0] 26
  have hzAe : Hid (wA.heap.size = w.heap.size + 1) := hid (by rw [← hwA]; simp)
  have hres : Hid (Blk wA w.heap.size 26 #[.int .i64 0, .slice none 0 0, .slice none 0 0]) := hid (by rw [← hwA]; exact Blk.new _ _ _)
  have hK : ∀ b, b = R → b < wA.heap.size := fun b e => by have := hzAe.out; omega
  have hrA := hid (hr.later hBA)
  replace hr := hid hr
  go_enter Tryd.func55, Tryd.ntmps55
  go_wp2_with fail
  refine (l3Draw_up R P wA (by omega) hrA.out).mono ?_
  rintro e wd ⟨a0, v1, v2, xs0, rfl, hz0, ho0, hrd0, hk0⟩
  obtain ⟨A0, c0, B0, d0, e1, e2, -⟩ := ho0.at_
  subst e1 e2
  have hs0' := AuSt.of (K := fun b => b = R) ho0 hk0
  have hrd0' := hrd0.later ((Below.refl _ wd).alloc (Nat.le_refl _) (.cells #[.int .i64 a0.al, .slice A0 a0.nx.length c0, .slice B0 a0.ac.length d0] 26))
  obtain ⟨gs, hgs⟩ : ∃ gs, Hid (gs = wd.heap.size) := ⟨_, hid rfl⟩
  obtain ⟨w0, hw0⟩ : ∃ w0, Hid (wd.alloc (.cells #[.int .i64 a0.al, .slice A0 a0.nx.length c0, .slice B0 a0.ac.length d0] 26) = w0) := ⟨_, hid rfl⟩
  rw [hw0.out] at hrd0' hs0'
  rw [← hgs.out] at hs0'
  have hs0 := hid hs0'
  have hRgs : R < gs := by have := hs0'.ge; have := hzAe.out; omega
  have hgsR : gs ≠ R := by have := hs0'.ge; have := hzAe.out; omega
  replace hrd0 := hid hrd0'
  replace ho0 := hid ho0
  replace hk0 := hid hk0
  clear hs0' hrd0' hwA
  go_upto_region 2 with fail
  rw [hw0.out, ← hgs.out]
  clear hw0
  go_wp2_with fail
  refine (pick_up R (P + 40000000) 3 w0 (by omega) (by omega) hrd0.out).mono ?_
  rintro e w00 ⟨j0, rfl, hj0, hj1, hr00, hk00⟩
  have hs00 := hid (hs0.out.keepK hK hk00)
  replace hr00 := hid hr00
  obtain ⟨jn, rfl⟩ := Int.eq_ofNat_of_zero_le hj0
  have hjn : jn ≤ 2 := by omega
  clear hj0 hj1 hk00
  go_wp2_with fail
  go_loopw [4] (fun iv wr => ∃ (j : Nat) (a : Au) (xs : List RowV) (A B : Option Addr) (c d : Nat), iv = .int .i64 (j : Nat) ∧ j ≤ 2 ∧ AuSt (fun b => b = R) wA wr gs (.slice A a.nx.length c) (.slice B a.ac.length d) a xs ∧ AuSz (2002 - j) a ∧ RdUp wr R (P + 40000001 + (2 - j) * 4000000)) (fun iv _ => (intOf iv).toNat)
  case atStart => exact ⟨jn, a0, xs0, A0, B0, c0, d0, rfl, hjn, hs00.out, hz0.up (by omega), hr00.out.more (by omega)⟩
  case round =>
    obtain ⟨j, a1, xs1, A1, B1, c1, d1, rfl, hj2, hs1, hz1, hrd1⟩ := hrel
    have hat1 : Hid (AuAt wr A1 c1 B1 d1 a1) := hid (by
      obtain ⟨A', c', B', d', e1, e2, h⟩ := hs1.own.at_
      cases e1
      cases e2
      exact h)
    replace hs1 := hid hs1
    replace hrd1 := hid hrd1
    by_cases hj0 : j = 0
    · have hji : ¬ ((0 : Int) < (j : Int)) := by omega
      go_wp2_with fail
      refine (pick_up R (P + 40000001 + (2 - j) * 4000000) 10 wr (by omega) (by omega) hrd1.out).mono ?_
      rintro e w1p ⟨q1, rfl, -, -, hrp, hkp⟩
      have hs1p := hid (hs1.out.keepK hK hkp)
      have hrd1p := hid hrp
      clear hrp hkp
      by_cases hq1 : q1 = 0
      · have hqb1 : ((q1 : Int) == 0) = true := by simpa using hq1
        replace hq1 := hid hq1
        go_wp2_with fail
        refine (l3Big_up R (P + 40000001 + (2 - j) * 4000000 + 1) w1p (by omega) hrd1p.out).mono ?_

        rintro e wq2 ⟨a2, v1, v2, xs2, rfl, hz2, ho2, hrq2, hk2⟩
        obtain ⟨A2, c2, B2, d2, e1, e2, -⟩ := ho2.at_
        subst e1 e2
        have hs2 := hid (hs1p.out.assign hK hk2 ho2)
        have hbq := hs1p.out.blk.keep hk2 hgsR
        have x0 := hbq.cell 0
        have x1 := hbq.cell 1
        have x2 := hbq.cell 2
        have z0 := hbq.frozen 0
        have z1 := hbq.frozen 1
        have z2 := hbq.frozen 2
        simp only [List.getElem?_toArray, List.getElem?_cons_zero, List.getElem?_cons_succ] at x0 x1 x2
        have hbql := hbq.lt
        have hrd2 := hid (hrq2.keep (((((KeepB.refl (fun b => b = gs) wq2).setCell ⟨gs, 0, none⟩ (.int .i64 a2.al) (fun _ => rfl)).setCell ⟨gs, 1, none⟩ (.slice A2 a2.nx.length c2) (fun _ => rfl)).setCell ⟨gs, 2, none⟩ (.slice B2 a2.ac.length d2) (fun _ => rfl))) (fun k hk => by omega))
        obtain ⟨w2, hw2⟩ : ∃ w2, Hid (((wq2.setCell ⟨gs, 0, none⟩ (.int .i64 a2.al)).setCell ⟨gs, 1, none⟩ (.slice A2 a2.nx.length c2)).setCell ⟨gs, 2, none⟩ (.slice B2 a2.ac.length d2) = w2) := ⟨_, hid rfl⟩
        rw [hw2.out] at hs2 hrd2
        replace ho2 := hid ho2
        replace hrq2 := hid hrq2
        replace hk2 := hid hk2
        replace hbq := hid hbq
        go_upto_region 8 with fail
        rw [hw2.out]
        clear x0 x1 x2 z0 z1 z2
        have hz2' : AuSz 2100 a2 := ⟨by have := hz2.2.1; omega, by have := hz2.2.2.1; omega, fun r hr => by have := hz2.2.2.2 r hr; omega⟩
        replace hz2 := hid hz2
        have hat2 : Hid (AuAt w2 A2 c2 B2 d2 a2) := hid (by
          obtain ⟨A', c', B', d', e1, e2, h⟩ := hs2.out.own.at_
          cases e1
          cases e2
          exact h)

        go_wp2_with fail
        refine (pick_up R (P + 40000001 + (2 - j) * 4000000 + 1 + 20000000) 6 w2 (by omega) (by omega) hrd2.out).mono ?_
        rintro e w2p ⟨q2, rfl, -, -, hrp, hkp⟩
        have hs2p := hid (hs2.out.keepK hK hkp)
        have hrd2p := hid hrp
        clear hrp hkp
        by_cases hq2 : q2 = 0
        · have hqb2 : ((q2 : Int) == 0) = true := by simpa using hq2
          replace hq2 := hid hq2
          have hs2q := hs2p

          have y0 := hs2p.out.blk.cell 0
          have y1 := hs2p.out.blk.cell 1
          have y2 := hs2p.out.blk.cell 2
          simp only [List.getElem?_toArray, List.getElem?_cons_zero, List.getElem?_cons_succ] at y0 y1 y2
          have hatp := hid (show AuAt w2p A2 c2 B2 d2 a2 from by
            obtain ⟨A', c', B', d', e1, e2, h⟩ := hs2p.out.own.at_
            cases e1
            cases e2
            exact h)
          go_wp2_with fail
          refine (l3Wrong_up R (P + 40000001 + (2 - j) * 4000000 + 1 + 20000000 + 1) 2100 a2 A2 B2 c2 d2 w2p (by omega) (by omega) hz2' hrd2p.out hatp.out).mono ?_
          clear y0 y1 y2

          rintro e wq9 ⟨a9, v1, v2, xs9, rfl, hz9, ho9, hrq9, hk9⟩
          obtain ⟨A9, c9, B9, d9, e1, e2, -⟩ := ho9.at_
          subst e1 e2
          have hs9 := hid (hs2p.out.assign hK hk9 ho9)
          have hbq := hs2p.out.blk.keep hk9 hgsR
          have x0 := hbq.cell 0
          have x1 := hbq.cell 1
          have x2 := hbq.cell 2
          have z0 := hbq.frozen 0
          have z1 := hbq.frozen 1
          have z2 := hbq.frozen 2
          simp only [List.getElem?_toArray, List.getElem?_cons_zero, List.getElem?_cons_succ] at x0 x1 x2
          have hbql := hbq.lt
          have hrd9 := hid (hrq9.keep (((((KeepB.refl (fun b => b = gs) wq9).setCell ⟨gs, 0, none⟩ (.int .i64 a9.al) (fun _ => rfl)).setCell ⟨gs, 1, none⟩ (.slice A9 a9.nx.length c9) (fun _ => rfl)).setCell ⟨gs, 2, none⟩ (.slice B9 a9.ac.length d9) (fun _ => rfl))) (fun k hk => by omega))
          obtain ⟨w9, hw9⟩ : ∃ w9, Hid (((wq9.setCell ⟨gs, 0, none⟩ (.int .i64 a9.al)).setCell ⟨gs, 1, none⟩ (.slice A9 a9.nx.length c9)).setCell ⟨gs, 2, none⟩ (.slice B9 a9.ac.length d9) = w9) := ⟨_, hid rfl⟩
          rw [hw9.out] at hs9 hrd9
          replace ho9 := hid ho9
          replace hrq9 := hid hrq9
          replace hk9 := hid hk9
          replace hbq := hid hbq
          go_upto_region 10 with fail
          rw [hw9.out]
          clear x0 x1 x2 z0 z1 z2

          have y0 := hs9.out.blk.cell 0
          have y1 := hs9.out.blk.cell 1
          have y2 := hs9.out.blk.cell 2
          simp only [List.getElem?_toArray, List.getElem?_cons_zero, List.getElem?_cons_succ] at y0 y1 y2

          have hbl := hres.out.keep hs9.out.keep (by omega)
          have d0' := hbl.cell 0
          have d1' := hbl.cell 1
          have d2' := hbl.cell 2
          have f0 := hbl.frozen 0
          have f1 := hbl.frozen 1
          have f2 := hbl.frozen 2
          simp only [List.getElem?_toArray, List.getElem?_cons_zero, List.getElem?_cons_succ] at d0' d1' d2'
          have hltb := hbl.lt
          have hown := hs9.out.own
          rw [hzAe.out] at hown
          have hfin := hid (AuUp.ret (Q := AuSz 3000) (P' := P + 100000000) (hz9.up (by omega)) hown hrd9.out (by omega) ((KeepB.of_below hBA).trans hs9.out.keep) hR (.int .i64 a9.al) (.slice A9 a9.nx.length c9) (.slice B9 a9.ac.length d9))
          replace hbl := hid hbl
          replace hown := hid hown
          go_wp2
          refine bodyPost_ret (v := .agg #[.int .i64 a9.al, .slice A9 a9.nx.length c9, .slice B9 a9.ac.length d9]) (by simp [results, Tryd.results55, go_sem, d0', d1', d2']) rfl ?_
          exact hfin.out
        · have hqb2 : ((q2 : Int) == 0) = false := by simpa using hq2
          replace hq2 := hid hq2
          go_upto_region 10 with fail

          have y0 := hs2p.out.blk.cell 0
          have y1 := hs2p.out.blk.cell 1
          have y2 := hs2p.out.blk.cell 2
          simp only [List.getElem?_toArray, List.getElem?_cons_zero, List.getElem?_cons_succ] at y0 y1 y2

          have hbl := hres.out.keep hs2p.out.keep (by omega)
          have d0' := hbl.cell 0
          have d1' := hbl.cell 1
          have d2' := hbl.cell 2
          have f0 := hbl.frozen 0
          have f1 := hbl.frozen 1
          have f2 := hbl.frozen 2
          simp only [List.getElem?_toArray, List.getElem?_cons_zero, List.getElem?_cons_succ] at d0' d1' d2'
          have hltb := hbl.lt
          have hown := hs2p.out.own
          rw [hzAe.out] at hown
          have hfin := hid (AuUp.ret (Q := AuSz 3000) (P' := P + 100000000) (hz2'.up (by omega)) hown hrd2p.out (by omega) ((KeepB.of_below hBA).trans hs2p.out.keep) hR (.int .i64 a2.al) (.slice A2 a2.nx.length c2) (.slice B2 a2.ac.length d2))
          replace hbl := hid hbl
          replace hown := hid hown
          go_wp2
          refine bodyPost_ret (v := .agg #[.int .i64 a2.al, .slice A2 a2.nx.length c2, .slice B2 a2.ac.length d2]) (by simp [results, Tryd.results55, go_sem, d0', d1', d2']) rfl ?_
          exact hfin.out
      · have hqb1 : ((q1 : Int) == 0) = false := by simpa using hq1
        replace hq1 := hid hq1
        go_upto_region 8 with fail
        have hs3 := hs1p
        have hrd3 := hrd1p
        have hz3' : AuSz 2100 a1 := hz1.up (by omega)
        have hat3 : Hid (AuAt w1p A1 c1 B1 d1 a1) := hid (by
          obtain ⟨A', c', B', d', e1, e2, h⟩ := hs1p.out.own.at_
          cases e1
          cases e2
          exact h)

        go_wp2_with fail
        refine (pick_up R (P + 40000001 + (2 - j) * 4000000 + 1) 6 w1p (by omega) (by omega) hrd3.out).mono ?_
        rintro e w3p ⟨q3, rfl, -, -, hrp, hkp⟩
        have hs3p := hid (hs3.out.keepK hK hkp)
        have hrd3p := hid hrp
        clear hrp hkp
        by_cases hq2 : q3 = 0
        · have hqb2 : ((q3 : Int) == 0) = true := by simpa using hq2
          replace hq2 := hid hq2
          have hs3q := hs3p

          have y0 := hs3p.out.blk.cell 0
          have y1 := hs3p.out.blk.cell 1
          have y2 := hs3p.out.blk.cell 2
          simp only [List.getElem?_toArray, List.getElem?_cons_zero, List.getElem?_cons_succ] at y0 y1 y2
          have hatp := hid (show AuAt w3p A1 c1 B1 d1 a1 from by
            obtain ⟨A', c', B', d', e1, e2, h⟩ := hs3p.out.own.at_
            cases e1
            cases e2
            exact h)
          go_wp2_with fail
          refine (l3Wrong_up R (P + 40000001 + (2 - j) * 4000000 + 1 + 1) 2100 a1 A1 B1 c1 d1 w3p (by omega) (by omega) hz3' hrd3p.out hatp.out).mono ?_
          clear y0 y1 y2

          rintro e wq9 ⟨a9, v1, v2, xs9, rfl, hz9, ho9, hrq9, hk9⟩
          obtain ⟨A9, c9, B9, d9, e1, e2, -⟩ := ho9.at_
          subst e1 e2
          have hs9 := hid (hs3p.out.assign hK hk9 ho9)
          have hbq := hs3p.out.blk.keep hk9 hgsR
          have x0 := hbq.cell 0
          have x1 := hbq.cell 1
          have x2 := hbq.cell 2
          have z0 := hbq.frozen 0
          have z1 := hbq.frozen 1
          have z2 := hbq.frozen 2
          simp only [List.getElem?_toArray, List.getElem?_cons_zero, List.getElem?_cons_succ] at x0 x1 x2
          have hbql := hbq.lt
          have hrd9 := hid (hrq9.keep (((((KeepB.refl (fun b => b = gs) wq9).setCell ⟨gs, 0, none⟩ (.int .i64 a9.al) (fun _ => rfl)).setCell ⟨gs, 1, none⟩ (.slice A9 a9.nx.length c9) (fun _ => rfl)).setCell ⟨gs, 2, none⟩ (.slice B9 a9.ac.length d9) (fun _ => rfl))) (fun k hk => by omega))
          obtain ⟨w9, hw9⟩ : ∃ w9, Hid (((wq9.setCell ⟨gs, 0, none⟩ (.int .i64 a9.al)).setCell ⟨gs, 1, none⟩ (.slice A9 a9.nx.length c9)).setCell ⟨gs, 2, none⟩ (.slice B9 a9.ac.length d9) = w9) := ⟨_, hid rfl⟩
          rw [hw9.out] at hs9 hrd9
          replace ho9 := hid ho9
          replace hrq9 := hid hrq9
          replace hk9 := hid hk9
          replace hbq := hid hbq
          go_upto_region 10 with fail
          rw [hw9.out]
          clear x0 x1 x2 z0 z1 z2

          have y0 := hs9.out.blk.cell 0
          have y1 := hs9.out.blk.cell 1
          have y2 := hs9.out.blk.cell 2
          simp only [List.getElem?_toArray, List.getElem?_cons_zero, List.getElem?_cons_succ] at y0 y1 y2

          have hbl := hres.out.keep hs9.out.keep (by omega)
          have d0' := hbl.cell 0
          have d1' := hbl.cell 1
          have d2' := hbl.cell 2
          have f0 := hbl.frozen 0
          have f1 := hbl.frozen 1
          have f2 := hbl.frozen 2
          simp only [List.getElem?_toArray, List.getElem?_cons_zero, List.getElem?_cons_succ] at d0' d1' d2'
          have hltb := hbl.lt
          have hown := hs9.out.own
          rw [hzAe.out] at hown
          have hfin := hid (AuUp.ret (Q := AuSz 3000) (P' := P + 100000000) (hz9.up (by omega)) hown hrd9.out (by omega) ((KeepB.of_below hBA).trans hs9.out.keep) hR (.int .i64 a9.al) (.slice A9 a9.nx.length c9) (.slice B9 a9.ac.length d9))
          replace hbl := hid hbl
          replace hown := hid hown
          go_wp2
          refine bodyPost_ret (v := .agg #[.int .i64 a9.al, .slice A9 a9.nx.length c9, .slice B9 a9.ac.length d9]) (by simp [results, Tryd.results55, go_sem, d0', d1', d2']) rfl ?_
          exact hfin.out
        · have hqb2 : ((q3 : Int) == 0) = false := by simpa using hq2
          replace hq2 := hid hq2
          go_upto_region 10 with fail

          have y0 := hs3p.out.blk.cell 0
          have y1 := hs3p.out.blk.cell 1
          have y2 := hs3p.out.blk.cell 2
          simp only [List.getElem?_toArray, List.getElem?_cons_zero, List.getElem?_cons_succ] at y0 y1 y2

          have hbl := hres.out.keep hs3p.out.keep (by omega)
          have d0' := hbl.cell 0
          have d1' := hbl.cell 1
          have d2' := hbl.cell 2
          have f0 := hbl.frozen 0
          have f1 := hbl.frozen 1
          have f2 := hbl.frozen 2
          simp only [List.getElem?_toArray, List.getElem?_cons_zero, List.getElem?_cons_succ] at d0' d1' d2'
          have hltb := hbl.lt
          have hown := hs3p.out.own
          rw [hzAe.out] at hown
          have hfin := hid (AuUp.ret (Q := AuSz 3000) (P' := P + 100000000) (hz3'.up (by omega)) hown hrd3p.out (by omega) ((KeepB.of_below hBA).trans hs3p.out.keep) hR (.int .i64 a1.al) (.slice A1 a1.nx.length c1) (.slice B1 a1.ac.length d1))
          replace hbl := hid hbl
          replace hown := hid hown
          go_wp2
          refine bodyPost_ret (v := .agg #[.int .i64 a1.al, .slice A1 a1.nx.length c1, .slice B1 a1.ac.length d1]) (by simp [results, Tryd.results55, go_sem, d0', d1', d2']) rfl ?_
          exact hfin.out
    · have hji : (0 : Int) < (j : Int) := by omega
      have y0 := hs1.out.blk.cell 0
      have y1 := hs1.out.blk.cell 1
      have y2 := hs1.out.blk.cell 2
      simp only [List.getElem?_toArray, List.getElem?_cons_zero, List.getElem?_cons_succ] at y0 y1 y2
      go_wp2_with fail
      refine (l4Change_up R (P + 40000001 + (2 - j) * 4000000) (2002 - j) a1 A1 B1 c1 d1 wr (by omega) (by omega) hz1 hrd1.out hat1.out).mono ?_
      clear y0 y1 y2
      rintro e wq2 ⟨a2, v1, v2, xs2, rfl, hz2, ho2, hrq2, hk2⟩
      obtain ⟨A2, c2, B2, d2, e1, e2, -⟩ := ho2.at_
      subst e1 e2
      have hs2 := hid (hs1.out.assign hK hk2 ho2)
      have hbq := hs1.out.blk.keep hk2 hgsR
      have x0 := hbq.cell 0
      have x1 := hbq.cell 1
      have x2 := hbq.cell 2
      have z0 := hbq.frozen 0
      have z1 := hbq.frozen 1
      have z2 := hbq.frozen 2
      simp only [List.getElem?_toArray, List.getElem?_cons_zero, List.getElem?_cons_succ] at x0 x1 x2
      have hbql := hbq.lt
      have hrd2 := hid (hrq2.keep (((((KeepB.refl (fun b => b = gs) wq2).setCell ⟨gs, 0, none⟩ (.int .i64 a2.al) (fun _ => rfl)).setCell ⟨gs, 1, none⟩ (.slice A2 a2.nx.length c2) (fun _ => rfl)).setCell ⟨gs, 2, none⟩ (.slice B2 a2.ac.length d2) (fun _ => rfl))) (fun k hk => by omega))
      obtain ⟨w2, hw2⟩ : ∃ w2, Hid (((wq2.setCell ⟨gs, 0, none⟩ (.int .i64 a2.al)).setCell ⟨gs, 1, none⟩ (.slice A2 a2.nx.length c2)).setCell ⟨gs, 2, none⟩ (.slice B2 a2.ac.length d2) = w2) := ⟨_, hid rfl⟩
      rw [hw2.out] at hs2 hrd2
      replace ho2 := hid ho2
      replace hrq2 := hid hrq2
      replace hk2 := hid hk2
      replace hbq := hid hbq
      go_wp2_with fail
      rw [hw2.out]
      clear x0 x1 x2 z0 z1 z2
      go_wp2_with fail
      go_roundw
      case rel => exact ⟨j - 1, a2, xs2, A2, B2, c2, d2, by go_num, by omega, hs2.out, hz2.up (by omega), hrd2.out.more (by omega)⟩
      case measure => simp [intOf]; omega

end Go.Proofs.YtkoganldcmhopaaDoor

/- The drawing kit: DrawSystemOf, DrawMinimizeAutomaton. -/
namespace Go.Proofs.YtkoganldcmhopaaDoor
open Go.RowKit Go.BigFrame AG

/-- Some automaton comes back, made since. -/
def DrawAu (w : World) (e : Ending) (w' : World) : Prop := ∃ (a : Au) (A B : Option Addr) (c d : Nat) (xs : List RowV), e = .returned (a.val A c B d) ∧ AuSz 3000 a ∧ AuOwn w' w.heap.size (.slice A a.nx.length c) (.slice B a.ac.length d) a xs ∧ Below w.heap.size w w'
theorem DrawAu.ret {w w1 : World} {a : Au} {A B : Option Addr} {c d : Nat} {xs : List RowV} (h1 : AuSz 3000 a) (ho : AuOwn w1 (w.heap.size + 1) (.slice A a.nx.length c) (.slice B a.ac.length d) a xs) (hb : Below w.heap.size w w1) (u1 u2 u3 : Value) :
    DrawAu w (.returned (.agg #[.int .i64 a.al, .slice A a.nx.length c, .slice B a.ac.length d])) (((w1.setCell ⟨w.heap.size, 0, none⟩ u1).setCell ⟨w.heap.size, 1, none⟩ u2).setCell ⟨w.heap.size, 2, none⟩ u3) := by
  have hk2 : KeepB (fun b => b = w.heap.size) w1 (((w1.setCell ⟨w.heap.size, 0, none⟩ u1).setCell ⟨w.heap.size, 1, none⟩ u2).setCell ⟨w.heap.size, 2, none⟩ u3) := (((KeepB.refl _ w1).setCell _ _ (by simp)).setCell _ _ (by simp)).setCell _ _ (by simp)
  exact ⟨a, A, B, c, d, xs, rfl, h1, (ho.keepNew hk2 (fun b e => by omega)).base (by omega), ((hb.setCell (by simp) _).setCell (by simp) _).setCell (by simp) _⟩

set_option maxRecDepth 100000 in
set_option maxHeartbeats 4000000 in
theorem drawSystemOf_any (A : Option Addr) (n c : Nat) (w : World) (hn : n ≤ c) (hc : c ≤ 9223372036854775807) (hx : CodeAt w A n) :
    Calls Tryd.prog 15 #[.slice A n c] w (DrawAu w) := by
  have hres := Blk.new w 26 #[.int .i64 0, .slice none 0 0, .slice none 0 0]
  have hb0 : Below w.heap.size w (w.alloc (.cells #[.int .i64 0, .slice none 0 0, .slice none 0 0] 26)) := (Below.refl _ _).alloc (Nat.le_refl _) _
  generalize hw0 : w.alloc (.cells #[.int .i64 0, .slice none 0 0, .slice none 0 0] 26) = w0 at hres hb0
  have hz0 : w0.heap.size = w.heap.size + 1 := by rw [← hw0]; simp
  have hx0 : CodeAt w0 A n := fun h => by
    obtain ⟨b, o, h1, h2, h3⟩ := hx h
    refine ⟨b, o, h1, by omega, fun i hi => ?_⟩
    obtain ⟨y, h4, h5⟩ := h3 i hi
    exact ⟨y, h4, by rw [hb0.cell (by simpa using h2)]; exact h5⟩
  replace hres := hid hres
  replace hz0 := hid hz0
  replace hx := hid hx
  replace hx0 := hid hx0
  go_enter Tryd.func15, Tryd.ntmps15
  go_wp2_with fail
  refine (l19Open_any A n c w0 hn hc hx0.out).mono ?_
  rintro e w1 ⟨R, rfl, hR, hr1, hb1⟩
  replace hr1 := hid hr1
  have hz1 := hb1.size
  clear hw0
  go_wp2_with fail
  refine (l5Any_up R 0 w1 (by omega) hr1.out).mono ?_
  rintro e w2 ⟨a, v1, v2, xs, rfl, hsz, ho, -, hk2⟩
  obtain ⟨A1, c1, B1, d1, e1, e2, -⟩ := ho.at_
  subst e1 e2
  have hB2 : Below w0.heap.size w0 w2 := KeepB.below hb1 hk2 hb1.size (fun k hk => by omega)
  have hbl := hres.out.below hB2 (by have := hz0.out; omega)
  have d0 := hbl.cell 0
  have d1' := hbl.cell 1
  have d2 := hbl.cell 2
  have f0 := hbl.frozen 0
  have f1 := hbl.frozen 1
  have f2 := hbl.frozen 2
  simp only [List.getElem?_toArray, List.getElem?_cons_zero, List.getElem?_cons_succ] at d0 d1' d2
  have hlt := hbl.lt
  have hfin := hid (DrawAu.ret (w := w) hsz (ho.base (by have := hz0.out; omega)) (hb0.trans (hB2.mono hb0.size)) (.int .i64 a.al) (.slice A1 a.nx.length c1) (.slice B1 a.ac.length d1))
  replace ho := hid ho
  replace hk2 := hid hk2
  replace hB2 := hid hB2
  replace hbl := hid hbl
  replace hb0 := hid hb0
  go_wp2
  refine bodyPost_ret (v := .agg #[.int .i64 a.al, .slice A1 a.nx.length c1, .slice B1 a.ac.length d1]) (by simp [results, Tryd.results15, go_sem, d0, d1', d2]) rfl ?_
  exact hfin.out

end Go.Proofs.YtkoganldcmhopaaDoor

/- Both IsDeterministic return detB. -/
namespace Go.Proofs.YtkoganldcmhopaaDoor
open Go.RowKit Go.BigFrame AG

theorem detB_false {s : Sy} {k : Nat} (h : ¬ detAt s (reachAll s) (k + 1)) : detB s = false := by
  unfold detB
  have : ¬ detAt s (reachAll s) s.es.length := fun h' => h fun i hi _ => h' i hi (by omega)
  simp [this]

theorem detAt.next {s : Sy} {S k : Nat} (h : detAt s S k) (hlt : k + 1 < s.es.length) (hn : ¬ (Has (S : Int) s.es[k].f.toNat = true ∧ s.es[k].f = s.es[k + 1].f ∧ s.es[k].l = s.es[k + 1].l)) : detAt s S (k + 1) := fun i hi hik => by
  by_cases e : i = k
  · subst e
    exact hn
  · exact h i hi (by omega)

set_option maxHeartbeats 1000000 in
theorem implIsDeterministic_any (s : Sy) (A : Option Addr) (c : Nat) (w : World) (hl : s.es.length ≤ c) (hc : c ≤ 9223372036854775807) (hT : Tab w) (hr : EdsAt w w.heap.size A s.es) :
    Calls Tryd.prog 21 #[s.val A c] w fun e w' => e = .returned (.bool (detB s)) ∧ Below w.heap.size w w' := by
  unfold Sy.val
  replace hr := hid hr
  replace hT := hid hT
  cases hok : sysOk s
  all_goals
    replace hok := hid hok
    go_enter Tryd.func21, Tryd.ntmps21
    go_wp2_with fail
    obtain ⟨w0, hw0, hz0, hB0, hS0, hS1, hS2⟩ := boxed3 w (Value.int IntKind.i64 s.al) (Value.int IntKind.i64 s.st) (Value.slice A s.es.length c) 30
    rw [hw0]
    clear hw0
    have hr0 := hid (hr.out.later hB0)
    refine (implSystemValid_any s A c w0 hl hc hr0.out).mono ?_
    rintro e w1 ⟨rfl, hb1⟩
    rw [hok.out]
    have hB1 : Below w.heap.size w w1 := hB0.trans (hb1.mono (by omega))
    have hb1' := hb1.mono hz0
  · go_wp2
    go_ret
    exact ⟨ret_bool (by unfold detB; rw [hok.out]; rfl), hB1⟩
  · have hr1 := hid (hr0.out.later hb1)
    have hT1 := hid (hT.out.later hB1)
    go_wp2_with fail
    refine (implReachableStates_any s A c w1 hl hc hT1.out hr1.out).mono ?_
    rintro e w2 ⟨rfl, hb2⟩
    rw [hok.out, if_pos rfl]
    have hb2' : Below (w.heap.size + 1) w0 w2 := hb1'.trans (hb2.mono (Nat.le_trans hz0 hb1.size))
    have hin := hid (sysOk_in hok.out)
    go_wp2_with fail
    go_loopw [4] (fun i wr => ∃ k : Nat, i = .int .i64 (k + 1 : Nat) ∧ (k = 0 ∨ k + 1 ≤ s.es.length) ∧ detAt s (reachAll s) k ∧ Below (w.heap.size + 1) w0 wr) (fun i _ => s.es.length + 1 - (intOf i).toNat)
    case atStart => exact ⟨0, rfl, .inl rfl, fun i _ h => by omega, hb2'⟩
    case round =>
      obtain ⟨k, rfl, hk, hdet, hb⟩ := hrel
      replace hdet := hid hdet
      by_cases hlt : k + 1 < s.es.length
      · obtain ⟨b, o, rfl, hB, hE⟩ := hr.out.get hB0 (Nat.le_succ w.heap.size) hlt
        obtain ⟨e0, e1, e2⟩ := hE k (by omega)
        obtain ⟨f0, f1, f2⟩ := hE (k + 1) hlt
        replace hE := hid hE
        replace e0 := e0 _ hb
        replace e1 := e1 _ hb
        replace e2 := e2 _ hb
        replace f0 := f0 _ hb
        replace f1 := f1 _ hb
        replace f2 := f2 _ hb
        have q0 := hS0 _ hb
        have q1 := hS1 _ hb
        have q2 := hS2 _ hb
        have hzr := hb.size
        have up : ∀ (B' O' : Nat) (v : Value), B' < wr.heap.size → wr.cell? ⟨B', O', none⟩ = some v → ∀ X Y : Array Value, ((wr.alloc (Obj.cells X 66)).alloc (Obj.cells Y 66)).cell? ⟨B', O', none⟩ = some v := fun B' O' v hB' h X Y => by
          rw [World.cell?_alloc_lt (h := by simp; omega), World.cell?_alloc_lt (h := by simpa using hB')]
          exact h
        have u2 := up _ _ _ (by omega) q2
        have v0 := up _ _ _ (by omega) e0
        have v1 := up _ _ _ (by omega) e1
        have v2 := up _ _ _ (by omega) e2
        have w0' := up _ _ _ (by omega) f0
        have w1' := up _ _ _ (by omega) f1
        have w2' := up _ _ _ (by omega) f2
        have up1 : ∀ (B' O' : Nat) (v : Value), B' < wr.heap.size → wr.cell? ⟨B', O', none⟩ = some v → ∀ X : Array Value, (wr.alloc (Obj.cells X 66)).cell? ⟨B', O', none⟩ = some v := fun B' O' v hB' h X => by
          rw [World.cell?_alloc_lt (h := by simpa using hB')]
          exact h
        have x2 := up1 _ _ _ (by omega) q2
        have y0 := up1 _ _ _ (by omega) e0
        have y1 := up1 _ _ _ (by omega) e1
        have y2 := up1 _ _ _ (by omega) e2
        have z0 := up1 _ _ _ (by omega) f0
        have z1 := up1 _ _ _ (by omega) f1
        have z2 := up1 _ _ _ (by omega) f2
        replace up := hid up
        replace up1 := hid up1
        obtain ⟨fa, fb, _⟩ := hin.out s.es[k] (List.getElem_mem _)
        have hasZ : Hid (HasZ (reachAll s : Nat) s.es[k].f = Has (reachAll s : Nat) s.es[k].f.toNat) := hid (by unfold HasZ; rw [decide_eq_true fa]; rfl)
        have hbx := hb.mono (Nat.le_succ w.heap.size)
        go_wp2_with fail
        go_region
        all_goals
          go_wp2_with (go_at_call 67; refine (has_any _ _ _ (by omega)).mono ?_; rintro e w' ⟨rfl, rfl⟩)
        all_goals
          first
          | (refine ⟨⟨k + 1, by go_num, .inr (by omega), detAt.next hdet.out hlt ?_, ?_⟩, by simp [intOf]; omega⟩
             · rintro ⟨h1, h2, h3⟩
               rw [← hasZ.out] at h1
               first
               | contradiction
               | exact absurd (beq_iff_eq.mpr h3) (ne_true_of_eq_false ‹_›)
             · (repeat (first | exact Below.refl _ _ | assumption | refine Below.drew ?_ | refine Below.alloc ?_ (by first | omega | (simp; done) | (simp; omega)) _ | refine Below.setCell ?_ (by first | omega | (simp; done) | (simp; omega)) _)))
          | (go_ret
             refine ⟨ret_bool (detB_false (k := k) fun h => h k hlt (by omega) ⟨?_, ?_, ?_⟩).symm, hB0.trans (by (repeat (first | exact Below.refl _ _ | assumption | refine Below.drew ?_ | refine Below.alloc ?_ (by first | omega | (simp; done) | (simp; omega)) _ | refine Below.setCell ?_ (by first | omega | (simp; done) | (simp; omega)) _)))⟩
             · rw [← hasZ.out]; assumption
             · assumption
             · exact beq_iff_eq.mp (by assumption))
      · have hall : Hid (detB s = true) := hid (by
          unfold detB
          rw [hok.out]
          simp only [Bool.true_and, decide_eq_true_eq]
          exact fun i hi _ => hdet.out i hi (by omega))
        go_wp2
        go_ret
        exact ⟨ret_bool hall.out.symm, hB0.trans (hb.mono (by omega))⟩

end Go.Proofs.YtkoganldcmhopaaDoor

/- The drawing kit: l2Big, l2Any. -/
namespace Go.Proofs.YtkoganldcmhopaaDoor
open Go.RowKit Go.BigFrame AG

theorem RndSt.call {w wr w1 : World} {R P gs : Nat} {al st : Int} {lv : Value} {ls : List Nat} {N N' : Nat} {v : Value} {es : List Ed} (h : RndSt w wr R P gs al st lv ls N v es) (hR : R < w.heap.size) (hgs : w.heap.size < gs) (hN : N ≤ N') (hr : RdUp w1 R (P + N')) (hk : KeepB (fun b => b = R) wr w1) :
    RndSt w w1 R P gs al st lv ls N' v es :=
  ⟨by have := h.len; omega, h.blk.keep hk (by omega), own_keep h.own hk (fun g hg => by have := (h.own.lt g hg).1; omega), own_keep h.list hk (fun g hg => by have := (World.ownsRow.lt h.list g hg).1; omega), hr, h.keep.trans hk, h.res.keep hk (by omega)⟩
theorem RndSt.more {w wr : World} {R P gs : Nat} {al st : Int} {lv : Value} {ls : List Nat} {N N' : Nat} {v : Value} {es : List Ed} (h : RndSt w wr R P gs al st lv ls N v es) (hN : N ≤ N') : RndSt w wr R P gs al st lv ls N' v es :=
  ⟨by have := h.len; omega, h.blk, h.own, h.list, h.rd.more (by omega), h.keep, h.res⟩
/-- As SyUp, with an edge at least. -/
def SyUp1 (R P L : Nat) (w : World) (e : Ending) (w' : World) : Prop :=
  ∃ (s : Sy) (A : Option Addr) (c : Nat), e = .returned (s.val A c) ∧ s.es.length ≤ c ∧ c ≤ 9223372036854775807 ∧ s.es.length ≤ L ∧ EdsAt w' w'.heap.size A s.es ∧ FreshA w.heap.size A ∧ RdUp w' R P ∧ KeepB (fun b => b = R) w w' ∧ 1 ≤ s.es.length
theorem SyUp1.of {R P L : Nat} {w w' : World} {s : Sy} {A : Option Addr} {c : Nat} (h : SyUp R P L w (.returned (s.val A c)) w') (hn : 1 ≤ s.es.length) : SyUp1 R P L w (.returned (s.val A c)) w' := by
  obtain ⟨s', A', c', e, a1, a2, a3, a4, a5, a6, a7⟩ := h
  have hl : s'.es.length = s.es.length := by
    unfold Sy.val at e
    injection e with e
    injection e with e
    simp at e
    exact e.2.2.2.1.symm
  exact ⟨s', A', c', e, a1, a2, a3, a4, a5, a6, a7, by omega⟩

end Go.Proofs.YtkoganldcmhopaaDoor

/- Restricted words: the reference's RestrictWord, the program's restrict. -/
namespace Go.Proofs.YtkoganldcmhopaaDoor
open Go.RowKit Go.BigFrame AG

def byteVals (l : List UInt8) : List Value := l.map fun b => Value.int .u8 (b.toNat : Int)

/-- string(b) of owned bytes. -/
theorem conv_own {w : World} {B : Nat} {v : Value} {l : List UInt8} (h : w.ownsRow B 5 1 v l.length (byteVals l)) : (convert 22 9 v).run Tryd.prog w = .ok (.string ⟨l.toArray⟩) w := by
  by_cases h0 : 0 < l.length
  · obtain ⟨g, cap, rfl, h1, h2, h3, h4, h5⟩ := own_shape h h0
    refine run_convert_bytes_back (P := Tryd.prog) w 22 9 5 ⟨g, 0, none⟩ cap l Tryd.underlying22 Tryd.underlying5 Tryd.underlying9 (fun j hj => ?_)
    have := h5 j (.int .u8 (l[j].toNat : Int)) (by unfold byteVals; simp [List.getElem?_eq_getElem hj])
    rw [show ((⟨g, 0, none⟩ : Addr).add j) = ⟨g, j, none⟩ from by unfold Addr.add; split <;> simp_all]
    exact this
  · obtain ⟨A, c, rfl, -, -⟩ := own_slice h
    obtain rfl : l = [] := List.length_eq_zero_iff.1 (by omega)
    rw [show ([] : List UInt8).length = 0 from rfl, run_convert_bytes_string w 22 9 5 A 0 c Tryd.underlying22 Tryd.underlying5 Tryd.underlying9]
    cases A <;> simp [Conv.bytesToString, loadCells]
    all_goals rfl

end Go.Proofs.YtkoganldcmhopaaDoor

/- The states behind a word: both StatesAfter and HasTrace. -/
namespace Go.Proofs.YtkoganldcmhopaaDoor
open Go.RowKit Go.BigFrame AG

set_option maxRecDepth 100000 in
set_option maxHeartbeats 1000000 in
theorem implStatesAfter_any (s : Sy) (A : Option Addr) (c : Nat) (x : ByteArray) (w : World) (hz : x.size ≤ 9223372036854775807) (hl : s.es.length ≤ c) (hc : c ≤ 9223372036854775807) (hT : Tab w) (hr : EdsAt w w.heap.size A s.es) :
    Calls Tryd.prog 74 #[s.val A c, .string x] w fun e w' => e = .returned (.int .i64 (aft s x : Nat)) ∧ Below w.heap.size w w' := by
  unfold Sy.val
  replace hr := hid hr
  replace hT := hid hT
  cases hok : sysOk s
  · have hfin : Hid (aft s x = 0) := hid (by unfold aft; rw [hok]; rfl)
    replace hok := hid hok
    go_enter Tryd.func74, Tryd.ntmps74
    go_wp2_with fail
    obtain ⟨w0, hw0, hz0, hB0, hS0, hS1, hS2⟩ := boxed3 w (Value.int IntKind.i64 s.al) (Value.int IntKind.i64 s.st) (Value.slice A s.es.length c) 30
    rw [hw0]
    clear hw0
    have hr0 := hid ((hr.out.keep hB0).more (show w.heap.size ≤ w0.heap.size by omega))
    refine (implSystemValid_any s A c w0 hl hc hr0.out).mono ?_
    rintro e w1 ⟨rfl, hb1⟩
    rw [hok.out]
    have hB1 : Below w.heap.size w w1 := hB0.trans (hb1.mono (by omega))
    have hb1' := hb1.mono hz0
    go_wp2
    go_ret
    exact ⟨ret_int (by rw [hfin.out]; rfl), hB1⟩
  · cases hwi : within x s.al
    all_goals
      have hok2 := hid hok
      have hwi2 := hid hwi
      replace hok := hid hok
      replace hwi := hid hwi
      go_enter Tryd.func74, Tryd.ntmps74
      go_wp2_with fail
      obtain ⟨w0, hw0, hz0, hB0, hS0, hS1, hS2⟩ := boxed3 w (Value.int IntKind.i64 s.al) (Value.int IntKind.i64 s.st) (Value.slice A s.es.length c) 30
      rw [hw0]
      clear hw0
      have hr0 := hid ((hr.out.keep hB0).more (show w.heap.size ≤ w0.heap.size by omega))
      refine (implSystemValid_any s A c w0 hl hc hr0.out).mono ?_
      rintro e w1 ⟨rfl, hb1⟩
      rw [hok.out]
      have hB1 : Below w.heap.size w w1 := hB0.trans (hb1.mono (by omega))
      have hb1' := hb1.mono hz0
      have hr1 := hid (hr0.out.later hb1)
      have q0 := hS0 _ hb1'
      have q1 := hS1 _ hb1'
      have q2 := hS2 _ hb1'
    · have hfin : Hid (aft s x = 0) := hid (by unfold aft; rw [hok2.out, hwi2.out]; rfl)
      go_wp2_with (go_at_call 128; refine (implWordWithin_any x s.al _ hz).mono ?_; rintro e w' ⟨rfl, rfl⟩; rw [hwi.out])
      go_ret
      exact ⟨ret_int (by rw [hfin.out]; rfl), hB1⟩
    · have hfin : Hid (aft s x = runTo s x x.size) := hid (by unfold aft; rw [hok2.out, hwi2.out]; rfl)
      have h5 := within_size hwi2.out
      go_wp2_with (first
        | (go_at_call 128; refine (implWordWithin_any x s.al _ hz).mono ?_; rintro e w' ⟨rfl, rfl⟩; rw [hwi.out])
        | (go_at_call 120; refine (movesOf_any s A c _ (sysOk_in hok2.out) hl hc hr1.out).mono ?_; rintro e w2 ⟨g, rfl, hg, hb2⟩))
      have hB2 : Below w.heap.size w w2 := hB1.trans (hb2.mono hB1.size)
      have hT2 := hid (hT.out.later hB2)
      replace hg := hid hg
      go_loopw [6, 7] (fun st i wr => ∃ (T k : Nat), st = .int .i64 T ∧ i = .int .i64 k ∧ k ≤ x.size ∧ T = runTo s x k ∧ Below w2.heap.size w2 wr) (fun _ i _ => x.size - (intOf i).toNat)
      case atStart => exact ⟨1, 0, rfl, rfl, by omega, rfl, Below.refl _ _⟩
      case round =>
        obtain ⟨T, k, rfl, rfl, hk, hT', hb⟩ := hrel
        have hTl : T < 65536 := by rw [hT']; exact runTo_lt s x k
        replace hT' := hid hT'
        have hB3 : Below w.heap.size w wr := hB2.trans (hb.mono hB2.size)
        by_cases hlt : k < x.size
        · by_cases hT0 : T = 0
          · have hd : ((T : Int) != 0) = false := by subst hT0; rfl
            have hfin2 := hid (runTo_done (s := s) (w := x) (k := k) (by rw [← hT'.out]; exact hT0) hk)
            replace hT0 := hid hT0
            go_wp2
            go_ret
            exact ⟨ret_int (by rw [hfin.out, hfin2.out, hT0.out]), hB3⟩
          · have hd : ((T : Int) != 0) = true := by simpa using hT0
            replace hT0 := hid hT0
            have hlr := wordOk_at (within_word hwi2.out) hlt
            have hle := ltr_ok hlr
            obtain ⟨l, hll⟩ := Int.eq_ofNat_of_zero_le hlr.1
            have hl6 : l < 6 := by omega
            have hnx : Hid (unionOf (mv s) T l = runTo s x (k + 1)) := hid (by rw [runTo, unionOf_mv s (sysOk_in hok2.out), ← hll, hT'.out])
            have hle2 : Hid (ltr x k = (l : Int)) := hid (by rw [hle, hll])
            have hgr := hid (hg.out.later hb)
            have hTr := hid (hT2.out.later hb)
            have hzr := hb.size
            replace hll := hid hll
            replace hle := hid hle
            go_wp2_with (first
              | (go_at_call 130; refine (letterAt_any x k _ hlt).mono ?_; rintro e w' ⟨rfl, rfl⟩; rw [hle2.out])
              | (go_at_call 124; refine (step_any (mv s) g T l _ hl6 (fun q => mv_lt s q l) hTl hTr.out hgr.out).mono ?_; rintro e w3 ⟨rfl, hb3⟩))
            have hb4 := hb.trans (hb3.mono hzr)
            go_roundw
            case rel => exact ⟨_, k + 1, rfl, by go_num, by omega, hnx.out, hb4⟩
            case measure => simp [intOf]; omega
        · obtain rfl : k = x.size := by omega
          go_wp2
          go_ret
          exact ⟨ret_int (by rw [hfin.out, hT'.out]), hB3⟩

set_option maxRecDepth 100000 in
set_option maxHeartbeats 1000000 in
theorem implHasTrace_any (s : Sy) (A : Option Addr) (c : Nat) (x : ByteArray) (w : World) (hz : x.size ≤ 9223372036854775807) (hl : s.es.length ≤ c) (hc : c ≤ 9223372036854775807) (hT : Tab w) (hr : EdsAt w w.heap.size A s.es) :
    Calls Tryd.prog 25 #[s.val A c, .string x] w fun e w' => e = .returned (.bool (hasTr s x)) ∧ Below w.heap.size w w' := by
  unfold Sy.val
  replace hr := hid hr
  replace hT := hid hT
  have hfin : Hid (hasTr s x = ((aft s x : Int) != 0)) := hid (by unfold hasTr; rw [Bool.eq_iff_iff]; simp)
  go_enter Tryd.func25, Tryd.ntmps25
  go_wp2_with fail
  obtain ⟨w0, hw0, hz0, hB0, hS0, hS1, hS2⟩ := boxed3 w (Value.int IntKind.i64 s.al) (Value.int IntKind.i64 s.st) (Value.slice A s.es.length c) 30
  rw [hw0]
  clear hw0
  have hr0 := hid ((hr.out.keep hB0).more (show w.heap.size ≤ w0.heap.size by omega))
  have hT0 := hid (hT.out.later hB0)
  refine (implStatesAfter_any s A c x w0 hz hl hc hT0.out hr0.out).mono ?_
  rintro e w1 ⟨rfl, hb1⟩
  have hB1 : Below w.heap.size w w1 := hB0.trans (hb1.mono (by omega))
  go_wp2
  go_ret
  exact ⟨ret_bool (by rw [hfin.out]), hB1⟩

end Go.Proofs.YtkoganldcmhopaaDoor

/- The law FnSameTrim. -/
namespace Go.Proofs.YtkoganldcmhopaaDoor
open Go.RowKit Go.BigFrame AG

set_option maxRecDepth 100000 in
set_option maxHeartbeats 4000000 in
theorem agSystems_same (s : Sy) (A B : Option Addr) (c d : Nat) (w : World) (hl : s.es.length ≤ c) (hc : c ≤ 9223372036854775807) (hm : s.es.length ≤ d) (hd : d ≤ 9223372036854775807) (hr : EdsAt w w.heap.size A s.es) (hs : EdsAt w w.heap.size B s.es) :
    Calls Tryd.prog 18 #[s.val A c, s.val B d] w fun e w' => e = .returned (.bool true) ∧ Below w.heap.size w w' := by
  unfold Sy.val
  obtain ⟨w0, hw0, hz0, hB0, hS, hU⟩ := boxed2 w #[Value.int IntKind.i64 s.al, Value.int IntKind.i64 s.st, Value.slice A s.es.length c] 30 #[Value.int IntKind.i64 s.al, Value.int IntKind.i64 s.st, Value.slice B s.es.length d] 30
  have p0 := hS 0 _ rfl _ (Below.refl _ _)
  have p1 := hS 1 _ rfl _ (Below.refl _ _)
  have p2 := hS 2 _ rfl _ (Below.refl _ _)
  have q0 := hU 0 _ rfl _ (Below.refl _ _)
  have q1 := hU 1 _ rfl _ (Below.refl _ _)
  have q2 := hU 2 _ rfl _ (Below.refl _ _)
  have hr0 := hid (hr.later hB0)
  have hs0 := hid (hs.later hB0)
  replace hr := hid hr
  replace hs := hid hs
  go_enter Tryd.func18, Tryd.ntmps18
  go_wp2_with fail
  go_loopw [5] (fun i wr => ∃ k : Nat, i = .int .i64 (k : Nat) ∧ k ≤ s.es.length ∧ Below w0.heap.size w0 wr) (fun i _ => s.es.length - (intOf i).toNat)
  case atStart => exact ⟨0, rfl, by omega, Below.refl _ _⟩
  case round =>
    clear p0 p1 p2 q0 q1 q2
    obtain ⟨k, rfl, hk, hb⟩ := hrel
    have hC := hb.mono hz0
    have p0 := hS 0 _ rfl _ hC
    have p1 := hS 1 _ rfl _ hC
    have p2 := hS 2 _ rfl _ hC
    have q0 := hU 0 _ rfl _ hC
    have q1 := hU 1 _ rfl _ hC
    have q2 := hU 2 _ rfl _ hC
    by_cases hlt : k < s.es.length
    · obtain ⟨b, o, hA, hbb, hE⟩ := hr0.out (by omega)
      obtain ⟨b', o', hA', hbb', hE'⟩ := hs0.out (by omega)
      subst hA
      subst hA'
      obtain ⟨e0, e1, e2⟩ := hE k hlt
      obtain ⟨g0, g1, g2⟩ := hE' k hlt
      rw [← hb.cell (by simpa using hbb)] at e0 e1 e2
      rw [← hb.cell (by simpa using hbb')] at g0 g1 g2
      obtain ⟨⟨xf, xl, xt⟩, hx⟩ : ∃ x, x = s.es[k] := ⟨_, rfl⟩
      rw [← hx] at e0 e1 e2 g0 g1 g2
      simp only at e0 e1 e2 g0 g1 g2
      have k1 : (0 : Int) ≤ (k : Int) ∧ (k : Int) < (s.es.length : Int) := by omega
      have x0 := GK.BI.cell p2
      have x1 := GK.BI.cell q2
      have y0 := GK.BI.cell e0
      have y1 := GK.BI.cell e1
      have y2 := GK.BI.cell e2
      have z0 := GK.BI.cell g0
      have z1 := GK.BI.cell g1
      have z2 := GK.BI.cell g2
      replace hE := hid hE
      replace hE' := hid hE'
      replace hx := hid hx
      go_wp2_with fail
      clear p0 p1 p2 q0 q1 q2 e0 e1 e2 g0 g1 g2
      refine GK.wp_region 11 [] 200 (KeepB fun _ => False) (GK.BI wr) (fun _ _ _ => True) (by kernel_rfl) (by kernel_rfl) (GK.BI.way wr) (by decide) (Below.refl _ _).drew ?_
      simp only [List.take_succ_cons, List.take_zero]
      (repeat (refine GK.grow_quiet wr (by rfl) (by rfl) ?_; intro K hK; go_big_quiet_op; go_big_quiet_on))
      refine GK.grow_nil ?_
      intro w4 hw4 _
      simp only [List.filterMap_nil]
      replace hw4 : Below wr.heap.size wr w4 := hw4
      have hB4 := hid (hb.trans (hw4.mono hb.size))
      clear x0 x1 y0 y1 y2 z0 z1 z2
      go_wp2_with fail
      go_roundw
      case rel => exact ⟨k + 1, by go_num, by omega, hB4.out⟩
      case measure => simp [intOf]; omega
    · obtain rfl : k = s.es.length := by omega
      go_wp2_with fail
      go_ret
      exact ⟨rfl, hB0.trans (hb.mono (by have := hB0.size; exact this))⟩

def DrawOne (w : World) (e : Ending) (w' : World) : Prop := ∃ (s : Sy) (A : Option Addr) (c : Nat), e = .returned (s.val A c) ∧ s.es.length ≤ c ∧ c ≤ 9223372036854775807 ∧ s.es.length ≤ 1000000 ∧ EdsAt w' w'.heap.size A s.es ∧ FreshA w.heap.size A ∧ Below w.heap.size w w'
theorem DrawOne.ret {w w0 w1 : World} {s : Sy} {A : Option Addr} {c : Nat} (h1 : s.es.length ≤ c) (h2 : c ≤ 9223372036854775807) (h3 : s.es.length ≤ 1000000) (h4 : EdsAt w1 w1.heap.size A s.es) (h5 : FreshA (w.heap.size + 1) A) (h7 : Below w.heap.size w w1) (v1 v2 v3 : Value) :
    DrawOne w (.returned (.agg #[.int .i64 s.al, .int .i64 s.st, .slice A s.es.length c])) (((w1.setCell ⟨w.heap.size, 0, none⟩ v1).setCell ⟨w.heap.size, 1, none⟩ v2).setCell ⟨w.heap.size, 2, none⟩ v3) := by
  have hne : ∀ b o, A = some ⟨b, o, none⟩ → 0 < s.es.length → b ≠ w.heap.size := fun b o hA _ => by have := h5 b o hA; omega
  refine ⟨s, A, c, rfl, h1, h2, h3, ?_, fun b o hA => by have := h5 b o hA; omega, ?_⟩
  · simpa [World.setCell] using ((h4.stored v1 hne).stored v2 hne).stored v3 hne
  · exact ((h7.setCell (by simp) _).setCell (by simp) _).setCell (by simp) _

end Go.Proofs.YtkoganldcmhopaaDoor

/- The law FnSystemBack. -/
namespace Go.Proofs.YtkoganldcmhopaaDoor
open Go.RowKit Go.BigFrame Go.Maps AG

theorem back_same {a : Au} (h : soOk a = true) (hk : prK (soS a) (soS a).al = true) : sameLB (prA (soS a) (soS a).al) (safX a) = true := by
  have hok := (soOk_iff.1 h).1
  have ex : safX a = safA a := by unfold safX; rw [if_pos hok]
  have eal : (safA a).al = a.al := rfl
  rw [ex]
  refine sameLB_iff.2 ⟨?_, fun r hr => ?_⟩
  · have e1 : (prA (soS a) (soS a).al).al = a.al := by rw [prA_al hk]; exact soS_al h
    unfold cmpAu
    rw [auOk_prA hk, safA_ok hok, e1, eal]
    simp
  · rw [prA_al hk, soS_al h] at hr
    exact back_law h hk hr

set_option maxRecDepth 100000 in
set_option maxHeartbeats 16000000 in
theorem FnSystemBack_any (A : Option Addr) (n c : Nat) (w : World) (hn : n ≤ c) (hc : c ≤ 9223372036854775807) (hT : Tab w) (hx : CodeAt w A n) :
    Calls Tryd.prog 3 #[.slice A n c] w fun e w' => e = .returned (.bool true) ∧ Below w.heap.size w w' := by
  replace hT := hid hT
  replace hx := hid hx
  by_cases hlen : 1048576 < n
  · have hgt : (1048576 : Int) < (n : Int) := by omega
    go_enter Tryd.func3, Tryd.ntmps3
    go_wp2
    go_ret
    exact ⟨rfl, Below.refl _ _⟩
  have hgt : ¬ ((1048576 : Int) < (n : Int)) := by omega
  go_enter Tryd.func3, Tryd.ntmps3
  go_wp2_with fail
  have BW_w : Below w.heap.size w w := Below.refl _ _
  refine (drawSystemOf_any A n c w hn hc hx.out).mono ?_
  rintro e w1 ⟨a, Aa, Ba, ca, da, xsa, rfl, hsza, hau, hb_w1⟩
  unfold AG.Au.val
  have BW_w1 := BW_w.trans (hb_w1.mono BW_w.size)
  have ta := hau.at_
  obtain ⟨_, _, _, _, e1, e2, ta⟩ := ta
  cases e1
  cases e2
  replace ta := hid ta
  clear hau
  replace hsza := hid hsza
  have BTa_w1 : Below w1.heap.size w1 w1 := Below.refl _ _
  go_upto_region 4 with fail
  obtain ⟨w2, hw_w2, hz_w2, hb_w2, hS_w2⟩ := boxed w1 #[.int .i64 a.al, .slice Aa a.nx.length ca, .slice Ba a.ac.length da] 26
  rw [hw_w2]
  clear hw_w2
  have ha0 := fun w' (hb : Below w2.heap.size w2 w') => hS_w2 0 _ rfl w' (hb.mono hz_w2)
  have ha1 := fun w' (hb : Below w2.heap.size w2 w') => hS_w2 1 _ rfl w' (hb.mono hz_w2)
  have ha2 := fun w' (hb : Below w2.heap.size w2 w') => hS_w2 2 _ rfl w' (hb.mono hz_w2)
  replace ha0 := hid ha0
  replace ha1 := hid ha1
  replace ha2 := hid ha2
  clear hS_w2
  have BW_w2 := BW_w1.trans (hb_w2.mono BW_w1.size)
  have BTa_w2 := BTa_w1.trans (hb_w2.mono BTa_w1.size)
  have Ba_w2 : Below w2.heap.size w2 w2 := Below.refl _ _
  obtain ⟨S, hS1⟩ : ∃ S, Hid (S = soS a) := ⟨_, hid rfl⟩
  obtain ⟨ok, hok⟩ : ∃ ok, Hid (ok = soOk a) := ⟨_, hid rfl⟩
  have pa0 := ha0.out _ Ba_w2
  have pa1 := ha1.out _ Ba_w2
  have pa2 := ha2.out _ Ba_w2
  go_wp2_with fail
  have hc_s := hid (implSystemOf_any a Aa Ba ca da w2 (hT.out.later BW_w2) (ta.out.later BTa_w2))
  rw [← hS1.out, ← hok.out] at hc_s
  refine hc_s.out.mono ?_
  clear hc_s
  clear pa0 pa1 pa2
  rintro e w3 hpost
  replace hpost := SoOwn.read hpost
  obtain ⟨As, cs, rfl, ls1, ls2, es3, -, hb_w3⟩ := hpost
  unfold Sy.val
  have BW_w3 := BW_w2.trans (hb_w3.mono BW_w2.size)
  have BTa_w3 := BTa_w2.trans (hb_w3.mono BTa_w2.size)
  have Ba_w3 := Ba_w2.trans (hb_w3.mono Ba_w2.size)
  have es := hid es3
  have BEs_w3 : Below w3.heap.size w3 w3 := Below.refl _ _
  clear es3
  go_upto_region 5 with fail
  obtain ⟨w4, hw_w4, hz_w4, hb_w4, hS_w4⟩ := boxed w3 #[.int .i64 S.al, .int .i64 S.st, .slice As S.es.length cs] 30
  rw [hw_w4]
  clear hw_w4
  have hs0 := fun w' (hb : Below w4.heap.size w4 w') => hS_w4 0 _ rfl w' (hb.mono hz_w4)
  have hs1 := fun w' (hb : Below w4.heap.size w4 w') => hS_w4 1 _ rfl w' (hb.mono hz_w4)
  have hs2 := fun w' (hb : Below w4.heap.size w4 w') => hS_w4 2 _ rfl w' (hb.mono hz_w4)
  replace hs0 := hid hs0
  replace hs1 := hid hs1
  replace hs2 := hid hs2
  clear hS_w4
  have BW_w4 := BW_w3.trans (hb_w4.mono BW_w3.size)
  have BTa_w4 := BTa_w3.trans (hb_w4.mono BTa_w3.size)
  have Ba_w4 := Ba_w3.trans (hb_w4.mono Ba_w3.size)
  have BEs_w4 := BEs_w3.trans (hb_w4.mono BEs_w3.size)
  have Bs_w4 : Below w4.heap.size w4 w4 := Below.refl _ _
  have pa0 := ha0.out _ Ba_w4
  have pa1 := ha1.out _ Ba_w4
  have pa2 := ha2.out _ Ba_w4
  go_wp2_with fail
  have hc_t := hid (specSystemOf_any a Aa Ba ca da w4 (ta.out.later BTa_w4))
  rw [← hS1.out, ← hok.out] at hc_t
  refine hc_t.out.mono ?_
  clear hc_t
  clear pa0 pa1 pa2
  rintro e w5 hpost
  obtain ⟨At, ct, rfl, lt1, lt2, et3, -, hb_w5⟩ := hpost
  unfold Sy.val
  have BW_w5 := BW_w4.trans (hb_w5.mono BW_w4.size)
  have BTa_w5 := BTa_w4.trans (hb_w5.mono BTa_w4.size)
  have Ba_w5 := Ba_w4.trans (hb_w5.mono Ba_w4.size)
  have BEs_w5 := BEs_w4.trans (hb_w5.mono BEs_w4.size)
  have Bs_w5 := Bs_w4.trans (hb_w5.mono Bs_w4.size)
  have et := hid et3
  have BEt_w5 : Below w5.heap.size w5 w5 := Below.refl _ _
  clear et3
  go_upto_region 6 with fail
  obtain ⟨w6, hw_w6, hz_w6, hb_w6, hS_w6⟩ := boxed w5 #[.int .i64 S.al, .int .i64 S.st, .slice At S.es.length ct] 30
  rw [hw_w6]
  clear hw_w6
  have ht0 := fun w' (hb : Below w6.heap.size w6 w') => hS_w6 0 _ rfl w' (hb.mono hz_w6)
  have ht1 := fun w' (hb : Below w6.heap.size w6 w') => hS_w6 1 _ rfl w' (hb.mono hz_w6)
  have ht2 := fun w' (hb : Below w6.heap.size w6 w') => hS_w6 2 _ rfl w' (hb.mono hz_w6)
  replace ht0 := hid ht0
  replace ht1 := hid ht1
  replace ht2 := hid ht2
  clear hS_w6
  have BW_w6 := BW_w5.trans (hb_w6.mono BW_w5.size)
  have BTa_w6 := BTa_w5.trans (hb_w6.mono BTa_w5.size)
  have Ba_w6 := Ba_w5.trans (hb_w6.mono Ba_w5.size)
  have BEs_w6 := BEs_w5.trans (hb_w6.mono BEs_w5.size)
  have Bs_w6 := Bs_w5.trans (hb_w6.mono Bs_w5.size)
  have BEt_w6 := BEt_w5.trans (hb_w6.mono BEt_w5.size)
  have Bt_w6 : Below w6.heap.size w6 w6 := Below.refl _ _
  have ps0 := hs0.out _ Bs_w6
  have ps1 := hs1.out _ Bs_w6
  have ps2 := hs2.out _ Bs_w6
  have pt0 := ht0.out _ Bt_w6
  have pt1 := ht1.out _ Bt_w6
  have pt2 := ht2.out _ Bt_w6
  go_wp2_with fail
  refine (agSystems_same S As At cs ct w6 ls1 ls2 lt1 lt2 (es.out.later BEs_w6) (et.out.later BEt_w6)).mono ?_
  clear ps0 ps1 ps2 pt0 pt1 pt2
  rintro e w7 ⟨rfl, hb_w7⟩
  have BW_w7 := BW_w6.trans (hb_w7.mono BW_w6.size)
  have BTa_w7 := BTa_w6.trans (hb_w7.mono BTa_w6.size)
  have Ba_w7 := Ba_w6.trans (hb_w7.mono Ba_w6.size)
  have BEs_w7 := BEs_w6.trans (hb_w7.mono BEs_w6.size)
  have Bs_w7 := Bs_w6.trans (hb_w7.mono Bs_w6.size)
  have BEt_w7 := BEt_w6.trans (hb_w7.mono BEt_w6.size)
  have Bt_w7 := Bt_w6.trans (hb_w7.mono Bt_w6.size)
  cases hokc : ok
  case false =>
    have ps0 := hs0.out _ Bs_w7
    have ps1 := hs1.out _ Bs_w7
    have ps2 := hs2.out _ Bs_w7
    have pt0 := ht0.out _ Bt_w7
    have pt1 := ht1.out _ Bt_w7
    have pt2 := ht2.out _ Bt_w7
    go_wp2_with fail
    refine (agSystems_same S As At cs ct w7 ls1 ls2 lt1 lt2 (es.out.later BEs_w7) (et.out.later BEt_w7)).mono ?_
    clear ps0 ps1 ps2 pt0 pt1 pt2
    rintro e w8 ⟨rfl, hb_w8⟩
    have BW_w8 := BW_w7.trans (hb_w8.mono BW_w7.size)
    have BTa_w8 := BTa_w7.trans (hb_w8.mono BTa_w7.size)
    have Ba_w8 := Ba_w7.trans (hb_w8.mono Ba_w7.size)
    have BEs_w8 := BEs_w7.trans (hb_w8.mono BEs_w7.size)
    have Bs_w8 := Bs_w7.trans (hb_w8.mono Bs_w7.size)
    have BEt_w8 := BEt_w7.trans (hb_w8.mono BEt_w7.size)
    have Bt_w8 := Bt_w7.trans (hb_w8.mono Bt_w7.size)
    go_wp2_with fail
    go_ret
    exact ⟨rfl, BW_w8⟩
  case true =>
  have hso : Hid (soOk a = true) := hid (by rw [← hok.out, hokc])
  have hdet : Hid (detB S = true) := hid (by rw [hS1.out]; exact det_so hso.out)
  obtain ⟨b, hb'⟩ : ∃ b, Hid (b = prA S S.al) := ⟨_, hid rfl⟩
  obtain ⟨fine, hfine⟩ : ∃ ok, Hid (ok = prK S S.al) := ⟨_, hid rfl⟩
  subst hokc
  have ps0 := hs0.out _ Bs_w7
  have ps1 := hs1.out _ Bs_w7
  have ps2 := hs2.out _ Bs_w7
  go_wp2_with fail
  have hc_b := hid (implDeterminize_any S As cs w7 ls1 ls2 (hT.out.later BW_w7) (es.out.later BEs_w7))
  rw [← hb'.out, ← hfine.out] at hc_b
  refine hc_b.out.mono ?_
  clear hc_b
  clear ps0 ps1 ps2
  rintro e w9 ⟨hb_w9, v1, v2, xs, rfl, hau⟩
  obtain ⟨Ab, cb, Bb, db, rfl, rfl, tb⟩ := hau.at_
  replace tb := hid tb
  clear hau
  have BW_w9 := BW_w7.trans (hb_w9.mono BW_w7.size)
  have BTa_w9 := BTa_w7.trans (hb_w9.mono BTa_w7.size)
  have Ba_w9 := Ba_w7.trans (hb_w9.mono Ba_w7.size)
  have BEs_w9 := BEs_w7.trans (hb_w9.mono BEs_w7.size)
  have Bs_w9 := Bs_w7.trans (hb_w9.mono Bs_w7.size)
  have BEt_w9 := BEt_w7.trans (hb_w9.mono BEt_w7.size)
  have Bt_w9 := Bt_w7.trans (hb_w9.mono Bt_w7.size)
  have BTb_w9 : Below w9.heap.size w9 w9 := Below.refl _ _
  go_upto_region 9 with fail
  obtain ⟨w10, hw_w10, hz_w10, hb_w10, hS_w10⟩ := boxed w9 #[.int .i64 b.al, .slice Ab b.nx.length cb, .slice Bb b.ac.length db] 26
  rw [hw_w10]
  clear hw_w10
  have hb0 := fun w' (hb : Below w10.heap.size w10 w') => hS_w10 0 _ rfl w' (hb.mono hz_w10)
  have hb1 := fun w' (hb : Below w10.heap.size w10 w') => hS_w10 1 _ rfl w' (hb.mono hz_w10)
  have hb2 := fun w' (hb : Below w10.heap.size w10 w') => hS_w10 2 _ rfl w' (hb.mono hz_w10)
  replace hb0 := hid hb0
  replace hb1 := hid hb1
  replace hb2 := hid hb2
  clear hS_w10
  have BW_w10 := BW_w9.trans (hb_w10.mono BW_w9.size)
  have BTa_w10 := BTa_w9.trans (hb_w10.mono BTa_w9.size)
  have Ba_w10 := Ba_w9.trans (hb_w10.mono Ba_w9.size)
  have BEs_w10 := BEs_w9.trans (hb_w10.mono BEs_w9.size)
  have Bs_w10 := Bs_w9.trans (hb_w10.mono Bs_w9.size)
  have BEt_w10 := BEt_w9.trans (hb_w10.mono BEt_w9.size)
  have Bt_w10 := Bt_w9.trans (hb_w10.mono Bt_w9.size)
  have BTb_w10 := BTb_w9.trans (hb_w10.mono BTb_w9.size)
  have Bb_w10 : Below w10.heap.size w10 w10 := Below.refl _ _
  have pa0 := ha0.out _ Ba_w10
  have pa1 := ha1.out _ Ba_w10
  have pa2 := ha2.out _ Ba_w10
  go_wp2_with fail
  obtain ⟨x, hxs⟩ : ∃ x, Hid (x = safX a) := ⟨_, hid rfl⟩
  have hc_x := hid (implSafetyPart_any a Aa Ba ca da w10 (ta.out.later BTa_w10))
  refine hc_x.out.mono ?_
  clear hc_x
  clear pa0 pa1 pa2
  rintro e w11 hpost
  unfold SafOwn at hpost
  rw [← hxs.out] at hpost
  obtain ⟨v1, v2, xs, rfl, hau, hb_w11⟩ := hpost
  obtain ⟨Ax, cx, Bx, dx, rfl, rfl, tx⟩ := hau.at_
  replace tx := hid tx
  clear hau
  have BW_w11 := BW_w10.trans (hb_w11.mono BW_w10.size)
  have BTa_w11 := BTa_w10.trans (hb_w11.mono BTa_w10.size)
  have Ba_w11 := Ba_w10.trans (hb_w11.mono Ba_w10.size)
  have BEs_w11 := BEs_w10.trans (hb_w11.mono BEs_w10.size)
  have Bs_w11 := Bs_w10.trans (hb_w11.mono Bs_w10.size)
  have BEt_w11 := BEt_w10.trans (hb_w11.mono BEt_w10.size)
  have Bt_w11 := Bt_w10.trans (hb_w11.mono Bt_w10.size)
  have BTb_w11 := BTb_w10.trans (hb_w11.mono BTb_w10.size)
  have Bb_w11 := Bb_w10.trans (hb_w11.mono Bb_w10.size)
  have BTx_w11 : Below w11.heap.size w11 w11 := Below.refl _ _
  go_upto_region 10 with fail
  obtain ⟨w12, hw_w12, hz_w12, hb_w12, hS_w12⟩ := boxed w11 #[.int .i64 x.al, .slice Ax x.nx.length cx, .slice Bx x.ac.length dx] 26
  rw [hw_w12]
  clear hw_w12
  have hx0 := fun w' (hb : Below w12.heap.size w12 w') => hS_w12 0 _ rfl w' (hb.mono hz_w12)
  have hx1 := fun w' (hb : Below w12.heap.size w12 w') => hS_w12 1 _ rfl w' (hb.mono hz_w12)
  have hx2 := fun w' (hb : Below w12.heap.size w12 w') => hS_w12 2 _ rfl w' (hb.mono hz_w12)
  replace hx0 := hid hx0
  replace hx1 := hid hx1
  replace hx2 := hid hx2
  clear hS_w12
  have BW_w12 := BW_w11.trans (hb_w12.mono BW_w11.size)
  have BTa_w12 := BTa_w11.trans (hb_w12.mono BTa_w11.size)
  have Ba_w12 := Ba_w11.trans (hb_w12.mono Ba_w11.size)
  have BEs_w12 := BEs_w11.trans (hb_w12.mono BEs_w11.size)
  have Bs_w12 := Bs_w11.trans (hb_w12.mono Bs_w11.size)
  have BEt_w12 := BEt_w11.trans (hb_w12.mono BEt_w11.size)
  have Bt_w12 := Bt_w11.trans (hb_w12.mono Bt_w11.size)
  have BTb_w12 := BTb_w11.trans (hb_w12.mono BTb_w11.size)
  have Bb_w12 := Bb_w11.trans (hb_w12.mono Bb_w11.size)
  have BTx_w12 := BTx_w11.trans (hb_w12.mono BTx_w11.size)
  have Bx_w12 : Below w12.heap.size w12 w12 := Below.refl _ _
  have ps0 := hs0.out _ Bs_w12
  have ps1 := hs1.out _ Bs_w12
  have ps2 := hs2.out _ Bs_w12
  go_wp2_with fail
  refine (implIsDeterministic_any S As cs w12 ls1 ls2 (hT.out.later BW_w12) (es.out.later BEs_w12)).mono ?_
  clear ps0 ps1 ps2
  rintro e w13 ⟨rfl, hb_w13⟩
  have BW_w13 := BW_w12.trans (hb_w13.mono BW_w12.size)
  have BTa_w13 := BTa_w12.trans (hb_w13.mono BTa_w12.size)
  have Ba_w13 := Ba_w12.trans (hb_w13.mono Ba_w12.size)
  have BEs_w13 := BEs_w12.trans (hb_w13.mono BEs_w12.size)
  have Bs_w13 := Bs_w12.trans (hb_w13.mono Bs_w12.size)
  have BEt_w13 := BEt_w12.trans (hb_w13.mono BEt_w12.size)
  have Bt_w13 := Bt_w12.trans (hb_w13.mono Bt_w12.size)
  have BTb_w13 := BTb_w12.trans (hb_w13.mono BTb_w12.size)
  have Bb_w13 := Bb_w12.trans (hb_w13.mono Bb_w12.size)
  have BTx_w13 := BTx_w12.trans (hb_w13.mono BTx_w12.size)
  have Bx_w13 := Bx_w12.trans (hb_w13.mono Bx_w12.size)
  rw [hdet.out]
  cases hfc : fine
  case false =>
    go_wp2_with fail
    go_ret
    exact ⟨rfl, BW_w13⟩
  case true =>
  have hsame : Hid (sameLB b x = true) := hid (by
    have k1 := hfine.out
    rw [hfc, hS1.out] at k1
    rw [hb'.out, hxs.out, hS1.out]
    exact back_same hso.out k1.symm)
  subst hfc
  have pb0 := hb0.out _ Bb_w13
  have pb1 := hb1.out _ Bb_w13
  have pb2 := hb2.out _ Bb_w13
  have px0 := hx0.out _ Bx_w13
  have px1 := hx1.out _ Bx_w13
  have px2 := hx2.out _ Bx_w13
  go_wp2_with fail
  refine (implSameLanguage_any b x Ab Bb Ax Bx cb db cx dx w13 (tb.out.later BTb_w13) (tx.out.later BTx_w13)).mono ?_
  clear pb0 pb1 pb2 px0 px1 px2
  rintro e w14 ⟨rfl, hb_w14⟩
  have BW_w14 := BW_w13.trans (hb_w14.mono BW_w13.size)
  have BTa_w14 := BTa_w13.trans (hb_w14.mono BTa_w13.size)
  have Ba_w14 := Ba_w13.trans (hb_w14.mono Ba_w13.size)
  have BEs_w14 := BEs_w13.trans (hb_w14.mono BEs_w13.size)
  have Bs_w14 := Bs_w13.trans (hb_w14.mono Bs_w13.size)
  have BEt_w14 := BEt_w13.trans (hb_w14.mono BEt_w13.size)
  have Bt_w14 := Bt_w13.trans (hb_w14.mono Bt_w13.size)
  have BTb_w14 := BTb_w13.trans (hb_w14.mono BTb_w13.size)
  have Bb_w14 := Bb_w13.trans (hb_w14.mono Bb_w13.size)
  have BTx_w14 := BTx_w13.trans (hb_w14.mono BTx_w13.size)
  have Bx_w14 := Bx_w13.trans (hb_w14.mono Bx_w13.size)
  rw [hsame.out]
  go_wp2_with fail
  go_ret
  exact ⟨rfl, BW_w14⟩

end Go.Proofs.YtkoganldcmhopaaDoor

/- The two tables of math/bits that the cards list: what a walk reads of them, and a world that holds them. -/
namespace Go.Proofs.YtkoganldcmhopaaDoor
open Go.ChangeShapes Go.WideShapes Go.ChangeAt Go.RowKit AG

theorem g64 : Tryd.prog.globalNamed "math/bits.deBruijn64tab" = some 1 := by kernel_rfl
theorem g64Type : (Tryd.prog.globals[1]?).map (·.type) = some 177 := by kernel_rfl
theorem g64Under : Tryd.prog.underlying 177 = some (.array 64 5) := by kernel_rfl
theorem u8Under : Tryd.prog.underlying 5 = some (.int .u8) := by kernel_rfl
theorem u8Cells : Tryd.prog.cellsOf 5 = 1 := by kernel_rfl
theorem g64Cells : Tryd.prog.cellsOf 177 = 64 := by kernel_rfl

theorem tab_of_laid {W : World} (h : laidMetH Tryd.prog [("math/bits.deBruijn32tab", Rows.laid_math_bits_deBruijn32tab), ("math/bits.deBruijn64tab", Rows.laid_math_bits_deBruijn64tab)] W) : Tab W := by
  have h1 : laidMet Tryd.prog [("math/bits.deBruijn32tab", Rows.laid_math_bits_deBruijn32tab), ("math/bits.deBruijn64tab", Rows.laid_math_bits_deBruijn64tab)] W := h
  have h2 : laidMet Tryd.prog (("math/bits.deBruijn64tab", Lib.tabData .u8 (Lib.deBruijn64tab.map Int.ofNat)) :: []) W := laidMet.tail h1
  have h3 := Lib.tabIs_of_head g64 g64Type g64Under u8Under u8Cells g64Cells h2
  intro j hj
  rw [h3.cell g64 j (by simpa using hj)]
  simp [List.getD, hj]

def layTab (zs : List Nat) : Obj → Obj
  | .cells _ t frozen => .cells (zs.map fun n => Value.int .u8 (Int.ofNat n)).toArray t frozen
  | o => o

/-- A world for the witness: the settled one, the two tables holding what their initialisers lay. -/
noncomputable def laidWorld (os : Os) : World :=
  { World.holding Tryd.prog os ⟨#[], #[], []⟩ with heap := ((World.holding Tryd.prog os ⟨#[], #[], []⟩).heap.modify 0 (layTab Lib.deBruijn32tab)).modify 1 (layTab Lib.deBruijn64tab) }

end Go.Proofs.YtkoganldcmhopaaDoor

/- How a slice of edges, a system, a slice of systems read as data: opened to cells. -/
namespace AG
open Go Go.RowKit Go.ChangeShapes Go.WideShapes Go.Deep

section
variable {H : Type} {enc : TypeId × Value → H} {P : Program} {w : World} {base : Nat} {spare : Nat → Bool} {held : Bool}
theorem add_at (b o n : Nat) : (⟨b, o, none⟩ : Addr).add n = ⟨b, o + n, none⟩ := by
  unfold Addr.add
  split
  · subst_vars; rfl
  · rfl

end

section
variable {H : Type} {enc : TypeId × Value → H} {P : Program}
/-- An argument reads behind the call as it did. -/
theorem trod_later {t : TypeId} (hl : laidOutB P = true) (hr : P.readableRec t = true) (hrow : t < P.types.size) {W W' : World} {v : Value} {d : DataW H} {ps : List MemPlace} {sp : Nat → Bool}
    (h : DataW.Trod enc P W 0 (fun _ => true) true t v d ps) (hb : Below W.heap.size W W') (hlt : ∀ x ∈ ps, x.block < W.heap.size) (hsp : ∀ x ∈ ps, sp x.block = true) : DataW.Trod enc P W' 0 sp true t v d ps :=
  WideElems.Trod_stays hl hr hrow h (fun x hx => hb.same (hlt x hx)) hsp
/-- The row's last step where of the world behind the call 'Below' is known. -/
theorem post_of_below {f : Func} {s : ChangeSpec} {apart fresh handsOn again : Bool} {W W' : World} {args : Array Value} {v : Value} {ds gs : List (DataW H)} {before pa pv : List MemPlace}
    (hW : DataW.Whole enc P f.params.toList s.vars apart W args.toList ds gs before)
    (hres : ∀ (b : Nat) (sp : Nat → Bool) (hd : Bool), DataW.TrodAll enc P W' b sp hd f.resultTypes.toList (v.resultList f.resultTypes.size) (s.fn H (ds ++ gs)).results [])
    (hargs : ∀ sp : Nat → Bool, (∀ p ∈ before, sp p.block = true) → DataW.TrodAll enc P W' 0 sp true f.params.toList args.toList (s.fn H (ds ++ gs)).args pa)
    (hvars : ∀ sp : Nat → Bool, (∀ p ∈ before, sp p.block = true) → DataW.TrodVars enc P W' sp s.vars (s.fn H (ds ++ gs)).vars pv)
    (hps : before = pa ++ pv) (hb : Below W.heap.size W W')
    (hok : ∀ (j : Nat) (t : TypeId) (r : Value), f.resultTypes[j]? = some t → (v.resultList f.resultTypes.size)[j]? = some r → Value.okWide P W' .any 0 t r) :
    s.post enc P f apart fresh handsOn again W args v W' := by
  have hlt : ∀ p ∈ before, p.block < W.heap.size := fun p hp => hW.lt p hp
  have hold : ∀ p ∈ before, (fun b => decide (b < W.heap.size)) p.block = true := fun p hp => by simpa using hlt p hp
  refine ⟨ds, gs, before, [], pa, pv, hW, hres _ _ _, hargs _ hold, hvars _ hold, World.keptBut_mono (fun p hp => ⟨hp, ?_⟩) (hb.frame (· ∈ before)), fun _ => ?_⟩
  · rw [hps, List.mem_append] at hp
    exact Or.inr hp
  · obtain ⟨_, _, _, _, _, hz, hn⟩ := hW
    refine ⟨hok, _, _, ([] ++ pa) ++ pv, ⟨[] ++ pa, pv, trodAll_append (hargs _ (fun _ _ => rfl)) (hres _ _ _), hvars _ (fun _ _ => rfl), rfl, ?_, ?_⟩, ?_⟩
    · intro b off hp
      have hin : MemPlace.cell b off ∈ before := by rw [hps]; simpa using hp
      rw [hb.frozen (hlt _ hin)]
      exact hz b off hin
    · intro ha
      have := hn ha
      rw [hps] at this
      simpa using this
    · intro p hp _
      rw [hps]
      simpa using hp
end
end AG

/- A slice of bytes that came in. -/
namespace Go.Proofs.YtkoganldcmhopaaDoor
open Go.RowKit Go.ChangeShapes Go.WideShapes AG

theorem cells_u8 : Tryd.prog.cellsOf 5 = 1 := by kernel_rfl

theorem open_code {H : Type} {enc : TypeId × Value → H} {W : World} {A : Option Addr} {n c fuel : Nat} {x : DataW H × List MemPlace} (h : DataW.trod enc Tryd.prog W 0 (fun _ => true) true fuel 22 [.slice A n c] = some x) :
    n ≤ c ∧ c ≤ 9223372036854775807 ∧ CodeAt W A n := by
  rcases open_ints Tryd.underlying22 Tryd.underlying5 cells_u8 h with ⟨hcs, _⟩ | ⟨a, len, cap, zs, hcs, _, hl, hm, hz, _, hcell, hwf⟩
  · simp only [List.cons.injEq, Value.slice.injEq, and_true] at hcs
    obtain ⟨rfl, rfl, rfl⟩ := hcs
    exact ⟨Nat.le_refl _, by omega, fun h => by omega⟩
  · simp only [List.cons.injEq, Value.slice.injEq, and_true] at hcs
    obtain ⟨rfl, rfl, rfl⟩ := hcs
    unfold maxLen at hm
    simp only [if_true] at hz
    refine ⟨hl, by omega, fun hn => ?_⟩
    obtain ⟨b, o, sp⟩ := a
    have hsp : sp = none := by simpa [Addr.add] using World.cell?_spot (hcell 0 (by omega))
    subst hsp
    refine ⟨b, o, rfl, World.block_lt_of_cell? _ _ (by simpa [Addr.add] using hcell 0 (by omega)), fun i hi => ?_⟩
    have h1 := hcell i (by omega)
    rw [add_at] at h1
    have hmem : zs.getD i 0 ∈ zs := by
      have : i < zs.length := by omega
      rw [List.getD_eq_getElem?_getD, List.getElem?_eq_getElem this]
      exact List.getElem_mem _
    have h2 := hwf _ hmem
    have h3 : 0 ≤ zs.getD i 0 ∧ zs.getD i 0 < 256 := by
      have h4 : IntKind.u8.min ≤ zs.getD i 0 ∧ zs.getD i 0 ≤ IntKind.u8.max := by simpa [Lit.wf] using h2
      have e1 : IntKind.u8.min = 0 := by decide
      have e2 : IntKind.u8.max = 255 := by decide
      omega
    obtain ⟨y, hy⟩ := Int.eq_ofNat_of_zero_le h3.1
    rw [hy] at h1
    exact ⟨y, by omega, h1⟩

end Go.Proofs.YtkoganldcmhopaaDoor

/- Closed facts on the whole program, each a lemma of its own: the rows of all laws of the seat use them. -/
namespace Go.Proofs.YtkoganldcmhopaaDoor
open Go.ChangeShapes Go.WideShapes Go.ChangeAt Go.RowKit AG
theorem and2 {a b : Bool} (h : a = true) (k : b = true) : (a && b) = true := by rw [h, k]; rfl
theorem whLaid : laidOutB Tryd.prog = true := by kernel_rfl
theorem whRowed : mapsRowed Tryd.prog = true := by kernel_rfl
theorem whHeard : Tryd.prog.stopsHeard = true := by kernel_rfl
theorem whMay : Tryd.prog.mayEnter = true := by kernel_rfl
theorem whLift : Tryd.prog.liftsFinal = false := by kernel_rfl
theorem whMake : (Tryd.prog.make == some Rows.fnMinimizeRow.make) = true := by kernel_rfl
theorem whMain : Tryd.prog.mainIs = some (Rows.fnMinimizeCard.stood.harness.1, Rows.fnMinimizeCard.stood.harness.2.toList) := by kernel_rfl
theorem whLooks : false = Tryd.prog.looks [] := by kernel_rfl
end Go.Proofs.YtkoganldcmhopaaDoor
