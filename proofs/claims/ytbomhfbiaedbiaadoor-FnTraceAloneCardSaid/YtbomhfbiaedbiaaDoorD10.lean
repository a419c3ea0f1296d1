/- The drawing kit: l2Draw. -/
import Derived.Test.YtbomhfbiaedbiaaDoorD9
import Derived.Test.YtbomhfbiaedbiaaDoorD3
namespace Go.Proofs.YtbomhfbiaedbiaaDoor
open Go.RowKit Go.BigFrame AG

set_option maxRecDepth 100000 in
set_option maxHeartbeats 4000000 in
theorem l2Draw_up (R P : Nat) (w : World) (hP : P + 200000 ≤ 1125899906842624) (hr : RdUp w R P) :
    Calls Tryd.prog 126 #[.pointer (some ⟨R, 0, none⟩)] w (SyUp R (P + 2000) 1536 w) := by
  have hR := hr.lt
  have hres := Blk.new w 36 #[.int .i64 0, .int .i64 0, .slice none 0 0]
  have hb0 : Below w.heap.size w (w.alloc (.cells #[.int .i64 0, .int .i64 0, .slice none 0 0] 36)) := (Below.refl _ _).alloc (Nat.le_refl _) _
  generalize hw0 : w.alloc (.cells #[.int .i64 0, .int .i64 0, .slice none 0 0] 36) = w0 at hres hb0
  have hz0 : w0.heap.size = w.heap.size + 1 := by rw [← hw0]; simp
  have hr0 := hid (hr.later hb0)
  replace hr := hid hr
  replace hres := hid hres
  replace hz0 := hid hz0
  go_enter Tryd.func126, Tryd.ntmps126
  go_wp2_with fail
  refine (pick_up R P 3 w0 (by omega) (by omega) hr0.out).mono ?_
  rintro e wp ⟨j, rfl, hj0, hj1, hrp, hkp⟩
  clear hw0 hj1
  by_cases hj : j = 0
  · subst hj
    replace hrp := hid hrp
    replace hkp := hid hkp
    go_wp2_with fail
    refine (l2Texts_any wp).mono ?_
    rintro e wt ⟨xs, hxl, hxs, rfl, hcell, hlt, hbt⟩
    have hrt := hid (hrp.out.later hbt)
    have hRt := hrp.out.lt
    replace hcell := hid hcell
    replace hxs := hid hxs
    replace hxl := hid hxl
    go_wp2_with fail
    refine (of_up R (P + 1) wp.heap.size 0 11 11 xs wt hxl.out (by omega) (by omega) (by omega) (by omega) hlt (fun i h => hcell.out i h) hrt.out).mono ?_
    rintro e wo ⟨x, hx, rfl, hro, hko⟩
    have hx60 : x.size ≤ 900 := by have := hxs.out x hx; omega
    replace hro := hid hro
    replace hko := hid hko
    clear hx
    go_wp2_with fail
    refine (parseSystem_any x wo hx60).mono ?_
    rintro e wq ⟨s, A, c, ok, rfl, h1, h2, h3, h4, h5, h6⟩
    unfold Sy.val
    have kq0 : KeepB (fun b => b = R) w0 wq := ((hkp.out.trans (KeepB.of_below hbt)).trans hko.out).trans (KeepB.of_below h6)
    have hnb := Blk.new wq 36 #[.int .i64 s.al, .int .i64 s.st, .slice A s.es.length c]
    have hba : Below wq.heap.size wq (wq.alloc (.cells #[.int .i64 s.al, .int .i64 s.st, .slice A s.es.length c] 36)) := (Below.refl _ _).alloc (Nat.le_refl _) _
    have hrq := hid ((hro.out.later h6).later hba)
    have hkq := hid (kq0.trans (KeepB.of_below hba))
    replace h4 := hid (h4.later hba)
    have h5' : Hid (FreshA (w.heap.size + 1) A) := hid (fun b o hA => by have := h5 b o hA; have := (hkp.out.trans (KeepB.of_below hbt)).size; have := hko.out.size; have := hz0.out; omega)
    clear h5 h6
    have hsq : wq.heap.size < (wq.alloc (.cells #[.int .i64 s.al, .int .i64 s.st, .slice A s.es.length c] 36)).heap.size := by simp
    generalize hwa : wq.alloc (.cells #[.int .i64 s.al, .int .i64 s.st, .slice A s.es.length c] 36) = wa at *
    cases ok
    · go_wp2_with fail
      clear hwa
      refine (num_lit R (P + 2) [3, 6, 7, 5, 1, 0, 12] wa _ (by decide) (by decide) (by omega) hrq.out).mono ?_
      rintro e w1 ⟨al, hal, rfl, hr1, hk1⟩
      replace hr1 := hid hr1
      replace hk1 := hid hk1
      clear hal
      go_wp2_with fail
      refine (num_lit R (P + 2 + 1) [3, 2, 4, 1, 5] w1 _ (by decide) (by decide) (by omega) hr1.out).mono ?_
      rintro e w2 ⟨st, hst, rfl, hr2, hk2⟩
      have hst2 : st ≤ 16 := by simp at hst; omega
      replace hr2 := hid hr2
      replace hk2 := hid hk2
      clear hst
      go_wp2_with fail
      refine (num_lit R (P + 2 + 2) [3, 2, 4, 6] w2 _ (by decide) (by decide) (by omega) hr2.out).mono ?_
      rintro e w3 ⟨few, hfew, rfl, hr3, hk3⟩
      have hf : few ≤ 9223372036854775807 := by simp at hfew; omega
      replace hr3 := hid hr3
      replace hk3 := hid hk3
      clear hfew
      go_wp2_with fail
      refine (l2Random_up R (P + 2 + 3) al st few w3 (by omega) hst2 hf hr3.out).mono ?_
      rintro e w4 ⟨s, A, c, rfl, h1, h2, h3, h4, h5, h6, h7⟩
      unfold Sy.val
      have K1 : KeepB (fun b => b = R) w0 w3 := ((hkq.out.trans hk1.out).trans hk2.out).trans hk3.out
      have K2 : KeepB (fun b => b = R) w0 w4 := K1.trans h7
      have hbl := hres.out.keep K2 (by omega)
      have d0 := hbl.cell 0
      have d1 := hbl.cell 1
      have d2 := hbl.cell 2
      have f0 := hbl.frozen 0
      have f1 := hbl.frozen 1
      have f2 := hbl.frozen 2
      simp only [List.getElem?_toArray, List.getElem?_cons_zero, List.getElem?_cons_succ] at d0 d1 d2
      have hfin := hid (SyUp.ret (w := w) h1 h2 h3 h4 (fun b o hA => by have := h5 b o hA; have := K1.size; have := hz0.out; omega) (h6.more (by omega : P + 2 + 3 + 1536 ≤ P + 2000)) ((KeepB.of_below hb0).trans K2) hR (.int .i64 s.al) (.int .i64 s.st) (.slice A s.es.length c))
      have hlt := hbl.lt
      clear h4 h5 h6 h7 hbl K1 K2
      go_wp2
      refine bodyPost_ret (v := .agg #[.int .i64 s.al, .int .i64 s.st, .slice A s.es.length c]) (by simp [results, Tryd.results126, go_sem, d0, d1, d2]) rfl ?_
      exact hfin.out
    · have c0 := hnb.cell 0
      have c1 := hnb.cell 1
      have c2 := hnb.cell 2
      have hbl := hres.out.keep hkq.out (by omega)
      have d0 := hbl.cell 0
      have d1 := hbl.cell 1
      have d2 := hbl.cell 2
      have f0 := hbl.frozen 0
      have f1 := hbl.frozen 1
      have f2 := hbl.frozen 2
      simp only [List.getElem?_toArray, List.getElem?_cons_zero, List.getElem?_cons_succ] at d0 d1 d2 c0 c1 c2
      have hfin := hid (SyUp.ret (w := w) h1 h2 (show s.es.length ≤ 1536 by omega) h4.out h5'.out (hrq.out.more (by omega : P + 1 + 1 ≤ P + 2000)) ((KeepB.of_below hb0).trans hkq.out) hR (.int .i64 s.al) (.int .i64 s.st) (.slice A s.es.length c))
      have hlt2 := hbl.lt
      replace hnb := hid hnb
      replace hbl := hid hbl
      go_wp2
      refine bodyPost_ret (v := .agg #[.int .i64 s.al, .int .i64 s.st, .slice A s.es.length c]) (by simp [results, Tryd.results126, go_sem, d0, d1, d2]) rfl ?_
      exact hfin.out
  · have hjb : ((j : Int) == 0) = false := by simp; omega
    replace hj := hid hj
    have hrq := hid hrp
    have hkq := hid hkp
    clear hrp hkp
    go_wp2_with fail
    refine (num_lit R (P + 1) [3, 6, 7, 5, 1, 0, 12] wp _ (by decide) (by decide) (by omega) hrq.out).mono ?_
    rintro e w1 ⟨al, hal, rfl, hr1, hk1⟩
    replace hr1 := hid hr1
    replace hk1 := hid hk1
    clear hal
    go_wp2_with fail
    refine (num_lit R (P + 1 + 1) [3, 2, 4, 1, 5] w1 _ (by decide) (by decide) (by omega) hr1.out).mono ?_
    rintro e w2 ⟨st, hst, rfl, hr2, hk2⟩
    have hst2 : st ≤ 16 := by simp at hst; omega
    replace hr2 := hid hr2
    replace hk2 := hid hk2
    clear hst
    go_wp2_with fail
    refine (num_lit R (P + 1 + 2) [3, 2, 4, 6] w2 _ (by decide) (by decide) (by omega) hr2.out).mono ?_
    rintro e w3 ⟨few, hfew, rfl, hr3, hk3⟩
    have hf : few ≤ 9223372036854775807 := by simp at hfew; omega
    replace hr3 := hid hr3
    replace hk3 := hid hk3
    clear hfew
    go_wp2_with fail
    refine (l2Random_up R (P + 1 + 3) al st few w3 (by omega) hst2 hf hr3.out).mono ?_
    rintro e w4 ⟨s, A, c, rfl, h1, h2, h3, h4, h5, h6, h7⟩
    unfold Sy.val
    have K1 : KeepB (fun b => b = R) w0 w3 := ((hkq.out.trans hk1.out).trans hk2.out).trans hk3.out
    have K2 : KeepB (fun b => b = R) w0 w4 := K1.trans h7
    have hbl := hres.out.keep K2 (by omega)
    have d0 := hbl.cell 0
    have d1 := hbl.cell 1
    have d2 := hbl.cell 2
    have f0 := hbl.frozen 0
    have f1 := hbl.frozen 1
    have f2 := hbl.frozen 2
    simp only [List.getElem?_toArray, List.getElem?_cons_zero, List.getElem?_cons_succ] at d0 d1 d2
    have hfin := hid (SyUp.ret (w := w) h1 h2 h3 h4 (fun b o hA => by have := h5 b o hA; have := K1.size; have := hz0.out; omega) (h6.more (by omega : P + 1 + 3 + 1536 ≤ P + 2000)) ((KeepB.of_below hb0).trans K2) hR (.int .i64 s.al) (.int .i64 s.st) (.slice A s.es.length c))
    have hlt := hbl.lt
    clear h4 h5 h6 h7 hbl K1 K2
    go_wp2
    refine bodyPost_ret (v := .agg #[.int .i64 s.al, .int .i64 s.st, .slice A s.es.length c]) (by simp [results, Tryd.results126, go_sem, d0, d1, d2]) rfl ?_
    exact hfin.out

end Go.Proofs.YtbomhfbiaedbiaaDoor
