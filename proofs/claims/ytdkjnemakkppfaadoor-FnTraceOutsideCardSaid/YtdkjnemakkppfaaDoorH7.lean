/- Lemmas, part 7: several texts in one. -/
import Derived.Test.YtdkjnemakkppfaaDoorH6
import Derived.Test.YtdkjnemakkppfaaDoorH5
import Derived.Test.YtdkjnemakkppfaaDoorH3
import Derived.Test.YtdkjnemakkppfaaDoorH2
import Derived.Test.YtdkjnemakkppfaaDoorH4
import Derived.Test.YtdkjnemakkppfaaDoorH1
set_option linter.unusedSimpArgs false
set_option linter.unusedVariables false

/- The drawing kit once more: l2Wrong; the edges of a drawn system lead to few states, or to none that is allowed. -/
namespace Go.Proofs.YtdkjnemakkppfaaDoor
open Go.RowKit Go.BigFrame AG

def QW (s : Sy) : Prop := ∀ e ∈ s.es, e.t ≤ 9 ∨ 16 ≤ e.t
theorem QT.wide {s : Sy} (h : QT s) : QW s := fun e he => .inl (h.2 e he)
theorem qw_set {s : Sy} (h : QW s) {al st : Int} {k : Nat} {y : Ed} (hy : y.t ≤ 9 ∨ 16 ≤ y.t) : QW ⟨al, st, s.es.set k y⟩ := by
  intro e he
  rcases List.mem_or_eq_of_mem_set he with he | he
  · exact h e he
  · rw [he]; exact hy
theorem qw_app {s : Sy} (h : QW s) {al st : Int} {y : Ed} (hy : y.t ≤ 9 ∨ 16 ≤ y.t) : QW ⟨al, st, s.es ++ [y]⟩ := by
  intro e he
  rcases List.mem_append.1 he with he | he
  · exact h e he
  · rw [List.mem_singleton.1 he]; exact hy

set_option maxRecDepth 100000 in
set_option maxHeartbeats 8000000 in
theorem l2Wrong_few (R P L : Nat) (s : Sy) (A : Option Addr) (c : Nat) (w : World) (hP : P + 3000000 ≤ 1125899906842624) (hl : s.es.length ≤ c) (hc : c ≤ 9223372036854775807) (hL : s.es.length ≤ L) (hL2 : L ≤ 100000)
    (hqs : QW s) (hs : EdsAt w w.heap.size A s.es) (hr : RdUp w R P) :
    Calls Tryd.prog 51 #[.pointer (some ⟨R, 0, none⟩), s.val A c] w (SyUpQ QW R (P + 400000) (L + 1) w) := by
  obtain ⟨i0, hi, hz0, hz1, hz2⟩ := info_parts infoEd
  have hR := hr.lt
  replace hqs := hid hqs
  unfold Sy.val
  have hres := (Blk.new (w.alloc (.cells #[.int .i64 s.al, .int .i64 s.st, .slice A s.es.length c] 28)) 28 #[.int .i64 0, .int .i64 0, .slice none 0 0])
  have hpar := (Blk.new w 28 #[.int .i64 s.al, .int .i64 s.st, .slice A s.es.length c]).alloc (.cells #[.int .i64 0, .int .i64 0, .slice none 0 0] 28)
  have hb0 : Below w.heap.size w ((w.alloc (.cells #[.int .i64 s.al, .int .i64 s.st, .slice A s.es.length c] 28)).alloc (.cells #[.int .i64 0, .int .i64 0, .slice none 0 0] 28)) := ((Below.refl _ _).alloc (Nat.le_refl _) _).alloc (by simp) _
  have hsz0 : ((w.alloc (.cells #[.int .i64 s.al, .int .i64 s.st, .slice A s.es.length c] 28)).alloc (.cells #[.int .i64 0, .int .i64 0, .slice none 0 0] 28)).heap.size = w.heap.size + 2 := by simp
  simp only [World.size_alloc] at hres
  generalize hw0 : (w.alloc (.cells #[.int .i64 s.al, .int .i64 s.st, .slice A s.es.length c] 28)).alloc (.cells #[.int .i64 0, .int .i64 0, .slice none 0 0] 28) = w0 at hres hb0 hsz0 hpar
  have p0 := hpar.cell 0
  have p1 := hpar.cell 1
  have p2 := hpar.cell 2
  simp only [List.getElem?_toArray, List.getElem?_cons_zero, List.getElem?_cons_succ] at p0 p1 p2
  have q0 := GK.BI.cell p0
  have q1 := GK.BI.cell p1
  have q2 := GK.BI.cell p2
  have hr0 := hid (hr.later hb0)
  have hs0 := hid (hs.later hb0)
  replace hr := hid hr
  replace hs := hid hs
  replace hres := hid hres
  replace hsz0 := hid hsz0
  clear p0 p1 p2 hpar
  go_enter Tryd.func51, Tryd.ntmps51
  go_wp2_with fail
  refine GK.wp_region 10 [10] 200 (KeepB fun _ => False) (GK.BI w0) (fun _ _ _ => True) (by kernel_rfl) (by kernel_rfl) (GK.BI.way w0) (by decide) (Below.refl _ _).drew ?_
  simp only [List.take_succ_cons, List.take_zero]
  (repeat (refine GK.grow_quiet w0 (by rfl) (by rfl) ?_; intro K hK; go_big_quiet_op; go_big_quiet_on))
  refine GK.grow_new (K := fun _ => False) (by rfl) _ (fun b => .slice (some ⟨b, 0, none⟩) 0 0) 59 #[] (fun _ => by go_simp) rfl (fun _ _ o h => GK.BI.alloc o h) (fun _ _ h => GK.BI.size h) (fun _ h => h.elim) (fun b hb => ?_)
  simp only [Act.put, List.setIfInBounds_toArray, List.set_cons_zero, List.set_cons_succ]
  (repeat (refine GK.grow_quiet w0 (by rfl) (by rfl) ?_; intro K hK; go_big_quiet_op; go_big_quiet_on))
  refine GK.grow_copy (by rfl) _ _ 26 (by rfl) 59 i0 (.agg #[.int .i64 0, .int .i64 0, .int .i64 0]) 3 24 Tryd.underlying26 hi hz0 hz1 hz2 rfl b (by rfl) (fun w hf => ?_) A s.es.length c (edCells s.es) (by rfl) (edCells_len _) (fun hn => EdsAt.news hs0.out hn) (edCells_one _) (by unfold maxLen; omega) (by omega) fun v hv => ?_
  · obtain ⟨b', e1, e2, e3⟩ := hf _ List.mem_cons_self (by kernel_rfl)
    cases e1
    exact ⟨e2, e3⟩
  obtain ⟨Av, cv, hve, -, -⟩ : ∃ Av cv, v = .slice Av s.es.length cv ∧ s.es.length ≤ cv ∧ cv ≤ 9223372036854775807 := by obtain ⟨_, _, hv⟩ := hv; exact own_slice hv
  subst hve
  clear hv
  simp only [Act.put, List.setIfInBounds_toArray, List.set_cons_zero, List.set_cons_succ]
  (repeat (refine GK.grow_quiet w0 (by rfl) (by rfl) ?_; intro K hK; go_big_quiet_op; go_big_quiet_on))
  refine GK.grow_new (K := fun _ => False) (by rfl) _ (fun b => .pointer (some ⟨b, 0, none⟩)) 28 #[.int .i64 0, .int .i64 0, .slice none 0 0] (fun _ => by go_simp) rfl (fun _ _ o h => GK.BI.alloc o h) (fun _ _ h => GK.BI.size h) (fun _ h => h.elim) (fun gs hgs => ?_)
  simp only [Act.put, List.setIfInBounds_toArray, List.set_cons_zero, List.set_cons_succ]
  refine GK.grow_nil ?_
  intro w1 hw1 hf
  simp only [List.filterMap_cons, List.filterMap_nil, List.getElem?_cons_zero, List.getElem?_cons_succ]
  obtain ⟨gs', e1, -, hblk⟩ := hf _ List.mem_cons_self
  cases e1
  have hown := hf _ (List.mem_cons_of_mem _ List.mem_cons_self)
  replace hw1 : Below w0.heap.size w0 w1 := hw1
  clear hf q0 q1 q2 hw0
  have hblk' : Blk w1 gs 28 #[.int .i64 0, .int .i64 0, .slice none 0 0] := hblk
  have hgl := hblk'.lt
  have c0 := hblk'.cell 0
  have c1 := hblk'.cell 1
  have c2 := hblk'.cell 2
  have f0 := hblk'.frozen 0
  have f1 := hblk'.frozen 1
  have f2 := hblk'.frozen 2
  simp only [List.getElem?_toArray, List.getElem?_cons_zero, List.getElem?_cons_succ] at c0 c1 c2
  have hneO : (Value.slice Av s.es.length cv).ownBlock ≠ some gs := fun e => own_ne hown hblk' (by decide) gs e rfl
  have hO : OutSt w0 (((w1.setCell ⟨gs, 0, none⟩ (.int .i64 s.al)).setCell ⟨gs, 1, none⟩ (.int .i64 s.st)).setCell ⟨gs, 2, none⟩ (.slice Av s.es.length cv)) R P w0.heap.size gs s.al s.st (.slice Av s.es.length cv) s.es L := by
    have hsz := hsz0.out
    have hkk : KeepB (fun b => b = gs) w1 (((w1.setCell ⟨gs, 0, none⟩ (.int .i64 s.al)).setCell ⟨gs, 1, none⟩ (.int .i64 s.st)).setCell ⟨gs, 2, none⟩ (.slice Av s.es.length cv)) := (((KeepB.refl _ w1).setCell _ _ (by simp)).setCell _ _ (by simp)).setCell _ _ (by simp)
    refine ⟨by simpa using ((hblk'.set_ 0 (.int .i64 s.al)).set_ 1 (.int .i64 s.st)).set_ 2 (.slice Av s.es.length cv), ownsRow_setCell_other (ownsRow_setCell_other (ownsRow_setCell_other hown hneO _) hneO _) hneO _, hL, (hr0.out.later hw1).keep hkk (by omega), ?_, Nat.le_refl _, hgs⟩
    exact (((KeepB.of_below hw1).setCell _ _ (by simp; omega)).setCell _ _ (by simp; omega)).setCell _ _ (by simp; omega)
  have hO' : ∃ w2, ((w1.setCell ⟨gs, 0, none⟩ (.int .i64 s.al)).setCell ⟨gs, 1, none⟩ (.int .i64 s.st)).setCell ⟨gs, 2, none⟩ (.slice Av s.es.length cv) = w2 := ⟨_, rfl⟩
  obtain ⟨w2, hw2⟩ := hO'
  rw [hw2] at hO
  replace hO := hid hO
  have hcopy := hid hblk'
  clear hblk hblk' hown hneO c0 c1 c2 f0 f1 f2
  have c0 := hO.out.blk.cell 0
  have c1 := hO.out.blk.cell 1
  have c2 := hO.out.blk.cell 2
  simp only [List.getElem?_toArray, List.getElem?_cons_zero, List.getElem?_cons_succ] at c0 c1 c2
  have hf0 := hcopy.out.frozen 0
  have hf1 := hcopy.out.frozen 1
  have hf2 := hcopy.out.frozen 2
  have hm0 := hcopy.out.cell 0
  have hm1 := hcopy.out.cell 1
  have hm2 := hcopy.out.cell 2
  simp only [List.getElem?_toArray, List.getElem?_cons_zero, List.getElem?_cons_succ] at hm0 hm1 hm2
  go_wp2_with fail
  refine (pick_up R P s.es.length w2 (by omega) (by omega) hO.out.rd).mono ?_
  rintro e w3 ⟨k, rfl, hk0, hk1, hr3, hk3⟩
  have hR0 : Hid (R < w0.heap.size) := hid (by have := hsz0.out; omega)
  have hO3 := hid (hO.out.call hk3 hr3 hR0.out)
  clear hr3 hk3 hw2 hO c0 c1 c2 hf0 hf1 hf2 hm0 hm1 hm2 hcopy
  go_wp2_with fail
  refine (pick_up R (P + 1) 30 w3 (by omega) (by omega) hO3.out.rd).mono ?_
  rintro e w4 ⟨j, rfl, hj0, hj1, hr4, hk4⟩
  have hO4 := hid (hO3.out.call hk4 hr4 hR0.out)
  clear hr4 hk4 hO3 hj0 hj1
  obtain ⟨kn, rfl⟩ := Int.eq_ofNat_of_zero_le hk0
  have hkn : 0 < s.es.length → kn < s.es.length := fun h => by omega
  replace hkn := hid hkn
  clear hk0 hk1
  have c0 := hO4.out.blk.cell 0
  have c1 := hO4.out.blk.cell 1
  have c2 := hO4.out.blk.cell 2
  have g0 := hO4.out.blk.frozen 0
  have g1 := hO4.out.blk.frozen 1
  have g2 := hO4.out.blk.frozen 2
  have hgl4 := hO4.out.blk.lt
  simp only [List.getElem?_toArray, List.getElem?_cons_zero, List.getElem?_cons_succ] at c0 c1 c2
  by_cases hj0 : j = 0
  · subst hj0
    go_wp2_with fail
    refine (num_lit R (P + 2) [64, (-1), 1, 63] w4 _ (by decide) (by decide) (by omega) hO4.out.rd).mono ?_
    rintro e w5 ⟨x, hx, rfl, hr5, hk5⟩
    clear hx
    have hO5 := hid (hO4.out.call hk5 hr5 hR0.out)
    clear hr5 hk5 c0 c1 c2 g0 g1 g2
    have c0 := hO5.out.blk.cell 0
    have g0 := hO5.out.blk.frozen 0
    simp only [List.getElem?_toArray, List.getElem?_cons_zero, List.getElem?_cons_succ] at c0
    obtain ⟨w6, hw6⟩ : ∃ w6, w5.setCell ⟨gs, 0, none⟩ (.int .i64 x) = w6 := ⟨_, rfl⟩
    have hX := hid (hO5.out.set0 hR0.out x)
    rw [hw6] at hX
    have hgl5 := hO5.out.blk.lt
    have k0 := hX.out.blk.cell 0
    have k1 := hX.out.blk.cell 1
    have k2 := hX.out.blk.cell 2
    have hbl := hid (hres.out.keep hX.out.keep (by have := hsz0.out; omega))
    have d0 := hbl.out.cell 0
    have d1 := hbl.out.cell 1
    have d2 := hbl.out.cell 2
    have y0 := hbl.out.frozen 0
    have y1 := hbl.out.frozen 1
    have y2 := hbl.out.frozen 2
    have hlt := hbl.out.lt
    simp only [List.getElem?_toArray, List.getElem?_cons_zero, List.getElem?_cons_succ] at d0 d1 d2 k0 k1 k2
    have hfin := hid ((hX.out.up hb0 (P' := P + 400000) (L' := L + 1) (by omega) (by omega)).finQ (Q := QW) (by first | exact hqs.out | exact qw_set hqs.out (hqs.out (s.es[kn]'hkl) (List.getElem_mem hkl)) | exact qw_set hqs.out hx9.out | exact qw_app hqs.out hx9.out | exact qw_app hqs.out (by rw [hx.out]; exact hqs.out (s.es[kn]'hkl) (List.getElem_mem hkl))) hR (ρ := w.heap.size + 1) (by omega) (by have := hsz0.out; omega) (.int .i64 x) (.int .i64 s.st) (.slice Av s.es.length cv))
    go_wp2
    refine bodyPost_ret (v := .agg #[.int .i64 x, .int .i64 s.st, .slice Av s.es.length cv]) (by simp [results, Tryd.results51, go_sem, d0, d1, d2]) rfl ?_
    exact hfin.out
  · have hjb0 : ((j : Int) == 0) = false := by simpa using hj0
    replace hj0 := hid hj0
    by_cases hj1 : j = 1
    · subst hj1
      go_wp2_with fail
      refine (num_lit R (P + 2) [0, 17, (-1), 16, 1] w4 _ (by decide) (by decide) (by omega) hO4.out.rd).mono ?_
      rintro e w5 ⟨x, hx, rfl, hr5, hk5⟩
      clear hx
      have hO5 := hid (hO4.out.call hk5 hr5 hR0.out)
      clear hr5 hk5 c0 c1 c2 g0 g1 g2
      have c0 := hO5.out.blk.cell 1
      have g0 := hO5.out.blk.frozen 1
      simp only [List.getElem?_toArray, List.getElem?_cons_zero, List.getElem?_cons_succ] at c0
      obtain ⟨w6, hw6⟩ : ∃ w6, w5.setCell ⟨gs, 1, none⟩ (.int .i64 x) = w6 := ⟨_, rfl⟩
      have hX := hid (hO5.out.set1 hR0.out x)
      rw [hw6] at hX
      have hgl5 := hO5.out.blk.lt
      have k0 := hX.out.blk.cell 0
      have k1 := hX.out.blk.cell 1
      have k2 := hX.out.blk.cell 2
      have hbl := hid (hres.out.keep hX.out.keep (by have := hsz0.out; omega))
      have d0 := hbl.out.cell 0
      have d1 := hbl.out.cell 1
      have d2 := hbl.out.cell 2
      have y0 := hbl.out.frozen 0
      have y1 := hbl.out.frozen 1
      have y2 := hbl.out.frozen 2
      have hlt := hbl.out.lt
      simp only [List.getElem?_toArray, List.getElem?_cons_zero, List.getElem?_cons_succ] at d0 d1 d2 k0 k1 k2
      have hfin := hid ((hX.out.up hb0 (P' := P + 400000) (L' := L + 1) (by omega) (by omega)).finQ (Q := QW) (by first | exact hqs.out | exact qw_set hqs.out (hqs.out (s.es[kn]'hkl) (List.getElem_mem hkl)) | exact qw_set hqs.out hx9.out | exact qw_app hqs.out hx9.out | exact qw_app hqs.out (by rw [hx.out]; exact hqs.out (s.es[kn]'hkl) (List.getElem_mem hkl))) hR (ρ := w.heap.size + 1) (by omega) (by have := hsz0.out; omega) (.int .i64 s.al) (.int .i64 x) (.slice Av s.es.length cv))
      go_wp2
      refine bodyPost_ret (v := .agg #[.int .i64 s.al, .int .i64 x, .slice Av s.es.length cv]) (by simp [results, Tryd.results51, go_sem, d0, d1, d2]) rfl ?_
      exact hfin.out
    · have hjb1 : ((j : Int) == 1) = false := by simpa using hj1
      replace hj1 := hid hj1
      by_cases hj2 : j = 2
      · subst hj2
        by_cases hn : s.es.length = 0
        · have hn2 : decide (0 < s.es.length) = false := decide_eq_false (by omega)
          have hX := hO4
          replace hn := hid hn
          have k0 := hX.out.blk.cell 0
          have k1 := hX.out.blk.cell 1
          have k2 := hX.out.blk.cell 2
          have hbl := hid (hres.out.keep hX.out.keep (by have := hsz0.out; omega))
          have d0 := hbl.out.cell 0
          have d1 := hbl.out.cell 1
          have d2 := hbl.out.cell 2
          have y0 := hbl.out.frozen 0
          have y1 := hbl.out.frozen 1
          have y2 := hbl.out.frozen 2
          have hlt := hbl.out.lt
          simp only [List.getElem?_toArray, List.getElem?_cons_zero, List.getElem?_cons_succ] at d0 d1 d2 k0 k1 k2
          have hfin := hid ((hX.out.up hb0 (P' := P + 400000) (L' := L + 1) (by omega) (by omega)).finQ (Q := QW) (by first | exact hqs.out | exact qw_set hqs.out (hqs.out (s.es[kn]'hkl) (List.getElem_mem hkl)) | exact qw_set hqs.out hx9.out | exact qw_app hqs.out hx9.out | exact qw_app hqs.out (by rw [hx.out]; exact hqs.out (s.es[kn]'hkl) (List.getElem_mem hkl))) hR (ρ := w.heap.size + 1) (by omega) (by have := hsz0.out; omega) (.int .i64 s.al) (.int .i64 s.st) (.slice Av s.es.length cv))
          go_wp2
          refine bodyPost_ret (v := .agg #[.int .i64 s.al, .int .i64 s.st, .slice Av s.es.length cv]) (by simp [results, Tryd.results51, go_sem, d0, d1, d2]) rfl ?_
          exact hfin.out
        · have hkl := hkn.out (by omega)
          obtain ⟨g, cap, hve, hg1, hg2, -, -, -⟩ := own_shape hO4.out.own (by omega)
          cases hve
          have hn2 : (0 : Int) < (s.es.length : Int) := by omega
          have i1 : (0 : Int) ≤ (kn : Int) ∧ (kn : Int) < (s.es.length : Int) := by omega
          have hgsR : gs ≠ R := by have := hO4.out.hgs; have := hR0.out; omega
          have q2 := RI.cell hO4.out.rd c2 hgsR
          replace hn := hid hn
          clear c0 c1 g0 g1 g2
          go_wp2_with fail
          clear c2
          refine GK.wp_region 8 [8] 200 (KeepB fun b => b = R) (RI w4 R (P + 2)) (fun _ u _ => ∃ x : Int, u = .int .i64 x ∧ (x ≤ 9 ∨ 16 ≤ x)) (by kernel_rfl) (by kernel_rfl) (RI.way w4 R (P + 2)) (by decide) (RI.drew hO4.out.rd) ?_
          simp only [List.take_succ_cons, List.take_zero]
          (repeat (refine GK.grow_quiet w4 (by rfl) (by rfl) ?_; intro K hK; go_big_quiet_op; go_big_quiet_on))
          refine GK.grow_new (K := fun b => b = R) (by rfl) w4.heap.size (fun b => .slice (some ⟨b, 0, none⟩) 4 4) 3 #[.int .i64 (-1), .int .i64 16, .int .i64 0, .int .i64 2] (fun _ => by go_simp) rfl (fun _ _ o h => RI.alloc o h) (fun _ _ h => RI.size h) (fun k hk => by have := hO4.out.rd.lt; omega) (fun b hb => ?_)
          simp only [Act.put, List.setIfInBounds_toArray, List.set_cons_zero, List.set_cons_succ]
          (repeat (refine GK.grow_quiet w4 (by rfl) (by rfl) ?_; intro K hK; go_big_quiet_op; go_big_quiet_on))
          refine GK.grow_call (by rfl) (fun u w w' _ h => h) (fun m wq hm hbq hf => ?_) ?_
          · obtain ⟨b', z1, z2, z3⟩ := hf _ List.mem_cons_self (by kernel_rfl)
            cases z1
            have hlt4 := hO4.out.rd.lt
            go_simp
            exact ⟨rfl, (num_blk R (P + 2 + m * 10000) b [(-1), 16, 0, 2] wq _ (by decide) (by decide) (by omega) z3 (by omega) hbq.2).mono fun e w' ⟨x, hx, h2, h3, h4⟩ => ⟨_, h2, RI.call hbq h4 h3 (by omega), x, rfl, by simp at hx; omega⟩⟩
          rintro u ⟨_, _, _, x, rfl, hx9⟩
          replace hx9 := hid hx9
          simp only [Act.put, List.setIfInBounds_toArray, List.set_cons_zero, List.set_cons_succ]
          (repeat (refine GK.grow_quiet w4 (by rfl) (by rfl) ?_; intro K hK; go_big_quiet_op; go_big_quiet_on))
          refine GK.grow_nil ?_
          intro w5 hw5 _
          simp only [List.filterMap_cons, List.filterMap_nil, List.getElem?_cons_zero, List.getElem?_cons_succ]
          have hO5 := hid (hO4.out.call hw5.1 hw5.2 hR0.out)
          clear q2
          have hcg := World.ownsRow.cellAt hO5.out.own (kn * 3) (by omega)
          rw [(edCells_at s.es kn hkl).1] at hcg
          have hfg := World.ownsRow.frozenAt hO5.out.own (kn * 3)
          obtain ⟨w6, hw6⟩ : ∃ w6, w5.setCell ⟨g, kn * 3, none⟩ (.int .i64 x) = w6 := ⟨_, rfl⟩
          have hX := hid (hO5.out.edit hR0.out kn (kn * 3) ⟨x, (s.es[kn]'hkl).l, (s.es[kn]'hkl).t⟩ x hkl (edCells_set0 hkl x))
          rw [hw6] at hX
          have hgl5 := hO5.out.blk.lt
          have hsl : (s.es.set kn ⟨x, (s.es[kn]'hkl).l, (s.es[kn]'hkl).t⟩).length = s.es.length := List.length_set
          have k0 := hX.out.blk.cell 0
          have k1 := hX.out.blk.cell 1
          have k2 := hX.out.blk.cell 2
          have hbl := hid (hres.out.keep hX.out.keep (by have := hsz0.out; omega))
          have d0 := hbl.out.cell 0
          have d1 := hbl.out.cell 1
          have d2 := hbl.out.cell 2
          have y0 := hbl.out.frozen 0
          have y1 := hbl.out.frozen 1
          have y2 := hbl.out.frozen 2
          have hlt := hbl.out.lt
          simp only [List.getElem?_toArray, List.getElem?_cons_zero, List.getElem?_cons_succ] at d0 d1 d2 k0 k1 k2
          have hfin := hid (OutSt.finQ' (Q := QW) hsl (hX.out.up hb0 (P' := P + 400000) (L' := L + 1) (by omega) (by omega)) (by first | exact hqs.out | exact qw_set hqs.out (hqs.out (s.es[kn]'hkl) (List.getElem_mem hkl)) | exact qw_set hqs.out hx9.out | exact qw_app hqs.out hx9.out | exact qw_app hqs.out (by rw [hx.out]; exact hqs.out (s.es[kn]'hkl) (List.getElem_mem hkl))) hR (ρ := w.heap.size + 1) (by omega) (by have := hsz0.out; omega) (.int .i64 s.al) (.int .i64 s.st) (.slice (some ⟨g, 0, none⟩) s.es.length cv))
          go_wp2
          refine bodyPost_ret (v := .agg #[.int .i64 s.al, .int .i64 s.st, .slice (some ⟨g, 0, none⟩) s.es.length cv]) (by simp [results, Tryd.results51, go_sem, d0, d1, d2]) rfl ?_
          exact hfin.out
      · have hjb2 : ((j : Int) == 2) = false := by simpa using hj2
        replace hj2 := hid hj2
        by_cases hj3 : j = 3
        · subst hj3
          by_cases hn : s.es.length = 0
          · have hn2 : decide (0 < s.es.length) = false := decide_eq_false (by omega)
            have hX := hO4
            replace hn := hid hn
            have k0 := hX.out.blk.cell 0
            have k1 := hX.out.blk.cell 1
            have k2 := hX.out.blk.cell 2
            have hbl := hid (hres.out.keep hX.out.keep (by have := hsz0.out; omega))
            have d0 := hbl.out.cell 0
            have d1 := hbl.out.cell 1
            have d2 := hbl.out.cell 2
            have y0 := hbl.out.frozen 0
            have y1 := hbl.out.frozen 1
            have y2 := hbl.out.frozen 2
            have hlt := hbl.out.lt
            simp only [List.getElem?_toArray, List.getElem?_cons_zero, List.getElem?_cons_succ] at d0 d1 d2 k0 k1 k2
            have hfin := hid ((hX.out.up hb0 (P' := P + 400000) (L' := L + 1) (by omega) (by omega)).finQ (Q := QW) (by first | exact hqs.out | exact qw_set hqs.out (hqs.out (s.es[kn]'hkl) (List.getElem_mem hkl)) | exact qw_set hqs.out hx9.out | exact qw_app hqs.out hx9.out | exact qw_app hqs.out (by rw [hx.out]; exact hqs.out (s.es[kn]'hkl) (List.getElem_mem hkl))) hR (ρ := w.heap.size + 1) (by omega) (by have := hsz0.out; omega) (.int .i64 s.al) (.int .i64 s.st) (.slice Av s.es.length cv))
            go_wp2
            refine bodyPost_ret (v := .agg #[.int .i64 s.al, .int .i64 s.st, .slice Av s.es.length cv]) (by simp [results, Tryd.results51, go_sem, d0, d1, d2]) rfl ?_
            exact hfin.out
          · have hkl := hkn.out (by omega)
            obtain ⟨g, cap, hve, hg1, hg2, -, -, -⟩ := own_shape hO4.out.own (by omega)
            cases hve
            have hn2 : (0 : Int) < (s.es.length : Int) := by omega
            have i1 : (0 : Int) ≤ (kn : Int) ∧ (kn : Int) < (s.es.length : Int) := by omega
            have hgsR : gs ≠ R := by have := hO4.out.hgs; have := hR0.out; omega
            have q2 := RI.cell hO4.out.rd c2 hgsR
            replace hn := hid hn
            clear c0 c1 g0 g1 g2
            go_wp2_with fail
            clear c2
            refine GK.wp_region 8 [8] 200 (KeepB fun b => b = R) (RI w4 R (P + 2)) (fun _ u _ => ∃ x : Int, u = .int .i64 x ∧ (x ≤ 9 ∨ 16 ≤ x)) (by kernel_rfl) (by kernel_rfl) (RI.way w4 R (P + 2)) (by decide) (RI.drew hO4.out.rd) ?_
            simp only [List.take_succ_cons, List.take_zero]
            (repeat (refine GK.grow_quiet w4 (by rfl) (by rfl) ?_; intro K hK; go_big_quiet_op; go_big_quiet_on))
            refine GK.grow_new (K := fun b => b = R) (by rfl) w4.heap.size (fun b => .slice (some ⟨b, 0, none⟩) 4 4) 3 #[.int .i64 (-1), .int .i64 16, .int .i64 0, .int .i64 3] (fun _ => by go_simp) rfl (fun _ _ o h => RI.alloc o h) (fun _ _ h => RI.size h) (fun k hk => by have := hO4.out.rd.lt; omega) (fun b hb => ?_)
            simp only [Act.put, List.setIfInBounds_toArray, List.set_cons_zero, List.set_cons_succ]
            (repeat (refine GK.grow_quiet w4 (by rfl) (by rfl) ?_; intro K hK; go_big_quiet_op; go_big_quiet_on))
            refine GK.grow_call (by rfl) (fun u w w' _ h => h) (fun m wq hm hbq hf => ?_) ?_
            · obtain ⟨b', z1, z2, z3⟩ := hf _ List.mem_cons_self (by kernel_rfl)
              cases z1
              have hlt4 := hO4.out.rd.lt
              go_simp
              exact ⟨rfl, (num_blk R (P + 2 + m * 10000) b [(-1), 16, 0, 3] wq _ (by decide) (by decide) (by omega) z3 (by omega) hbq.2).mono fun e w' ⟨x, hx, h2, h3, h4⟩ => ⟨_, h2, RI.call hbq h4 h3 (by omega), x, rfl, by simp at hx; omega⟩⟩
            rintro u ⟨_, _, _, x, rfl, hx9⟩
            replace hx9 := hid hx9
            simp only [Act.put, List.setIfInBounds_toArray, List.set_cons_zero, List.set_cons_succ]
            (repeat (refine GK.grow_quiet w4 (by rfl) (by rfl) ?_; intro K hK; go_big_quiet_op; go_big_quiet_on))
            refine GK.grow_nil ?_
            intro w5 hw5 _
            simp only [List.filterMap_cons, List.filterMap_nil, List.getElem?_cons_zero, List.getElem?_cons_succ]
            have hO5 := hid (hO4.out.call hw5.1 hw5.2 hR0.out)
            clear q2
            have hcg := World.ownsRow.cellAt hO5.out.own (kn * 3 + 2) (by omega)
            rw [(edCells_at s.es kn hkl).2.2] at hcg
            have hfg := World.ownsRow.frozenAt hO5.out.own (kn * 3 + 2)
            obtain ⟨w6, hw6⟩ : ∃ w6, w5.setCell ⟨g, kn * 3 + 2, none⟩ (.int .i64 x) = w6 := ⟨_, rfl⟩
            have hX := hid (hO5.out.edit hR0.out kn (kn * 3 + 2) ⟨(s.es[kn]'hkl).f, (s.es[kn]'hkl).l, x⟩ x hkl (edCells_set2 hkl x))
            rw [hw6] at hX
            have hgl5 := hO5.out.blk.lt
            have hsl : (s.es.set kn ⟨(s.es[kn]'hkl).f, (s.es[kn]'hkl).l, x⟩).length = s.es.length := List.length_set
            have k0 := hX.out.blk.cell 0
            have k1 := hX.out.blk.cell 1
            have k2 := hX.out.blk.cell 2
            have hbl := hid (hres.out.keep hX.out.keep (by have := hsz0.out; omega))
            have d0 := hbl.out.cell 0
            have d1 := hbl.out.cell 1
            have d2 := hbl.out.cell 2
            have y0 := hbl.out.frozen 0
            have y1 := hbl.out.frozen 1
            have y2 := hbl.out.frozen 2
            have hlt := hbl.out.lt
            simp only [List.getElem?_toArray, List.getElem?_cons_zero, List.getElem?_cons_succ] at d0 d1 d2 k0 k1 k2
            have hfin := hid (OutSt.finQ' (Q := QW) hsl (hX.out.up hb0 (P' := P + 400000) (L' := L + 1) (by omega) (by omega)) (by first | exact hqs.out | exact qw_set hqs.out (hqs.out (s.es[kn]'hkl) (List.getElem_mem hkl)) | exact qw_set hqs.out hx9.out | exact qw_app hqs.out hx9.out | exact qw_app hqs.out (by rw [hx.out]; exact hqs.out (s.es[kn]'hkl) (List.getElem_mem hkl))) hR (ρ := w.heap.size + 1) (by omega) (by have := hsz0.out; omega) (.int .i64 s.al) (.int .i64 s.st) (.slice (some ⟨g, 0, none⟩) s.es.length cv))
            go_wp2
            refine bodyPost_ret (v := .agg #[.int .i64 s.al, .int .i64 s.st, .slice (some ⟨g, 0, none⟩) s.es.length cv]) (by simp [results, Tryd.results51, go_sem, d0, d1, d2]) rfl ?_
            exact hfin.out
        · have hjb3 : ((j : Int) == 3) = false := by simpa using hj3
          replace hj3 := hid hj3
          by_cases hj4 : j = 4
          · subst hj4
            by_cases hn : s.es.length = 0
            · have hn2 : decide (0 < s.es.length) = false := decide_eq_false (by omega)
              have hX := hO4
              replace hn := hid hn
              have k0 := hX.out.blk.cell 0
              have k1 := hX.out.blk.cell 1
              have k2 := hX.out.blk.cell 2
              have hbl := hid (hres.out.keep hX.out.keep (by have := hsz0.out; omega))
              have d0 := hbl.out.cell 0
              have d1 := hbl.out.cell 1
              have d2 := hbl.out.cell 2
              have y0 := hbl.out.frozen 0
              have y1 := hbl.out.frozen 1
              have y2 := hbl.out.frozen 2
              have hlt := hbl.out.lt
              simp only [List.getElem?_toArray, List.getElem?_cons_zero, List.getElem?_cons_succ] at d0 d1 d2 k0 k1 k2
              have hfin := hid ((hX.out.up hb0 (P' := P + 400000) (L' := L + 1) (by omega) (by omega)).finQ (Q := QW) (by first | exact hqs.out | exact qw_set hqs.out (hqs.out (s.es[kn]'hkl) (List.getElem_mem hkl)) | exact qw_set hqs.out hx9.out | exact qw_app hqs.out hx9.out | exact qw_app hqs.out (by rw [hx.out]; exact hqs.out (s.es[kn]'hkl) (List.getElem_mem hkl))) hR (ρ := w.heap.size + 1) (by omega) (by have := hsz0.out; omega) (.int .i64 s.al) (.int .i64 s.st) (.slice Av s.es.length cv))
              go_wp2
              refine bodyPost_ret (v := .agg #[.int .i64 s.al, .int .i64 s.st, .slice Av s.es.length cv]) (by simp [results, Tryd.results51, go_sem, d0, d1, d2]) rfl ?_
              exact hfin.out
            · have hkl := hkn.out (by omega)
              obtain ⟨g, cap, hve, hg1, hg2, -, -, -⟩ := own_shape hO4.out.own (by omega)
              cases hve
              have hn2 : (0 : Int) < (s.es.length : Int) := by omega
              have i1 : (0 : Int) ≤ (kn : Int) ∧ (kn : Int) < (s.es.length : Int) := by omega
              have hgsR : gs ≠ R := by have := hO4.out.hgs; have := hR0.out; omega
              have q2 := RI.cell hO4.out.rd c2 hgsR
              replace hn := hid hn
              clear c0 c1 g0 g1 g2
              go_wp2_with fail
              clear c2
              refine GK.wp_region 8 [8] 200 (KeepB fun b => b = R) (RI w4 R (P + 2)) (fun _ u _ => ∃ x : Int, u = .int .i64 x ∧ (x ≤ 9 ∨ 16 ≤ x)) (by kernel_rfl) (by kernel_rfl) (RI.way w4 R (P + 2)) (by decide) (RI.drew hO4.out.rd) ?_
              simp only [List.take_succ_cons, List.take_zero]
              (repeat (refine GK.grow_quiet w4 (by rfl) (by rfl) ?_; intro K hK; go_big_quiet_op; go_big_quiet_on))
              refine GK.grow_new (K := fun b => b = R) (by rfl) w4.heap.size (fun b => .slice (some ⟨b, 0, none⟩) 5 5) 3 #[.int .i64 (-1), .int .i64 6, .int .i64 70, .int .i64 5, .int .i64 0] (fun _ => by go_simp) rfl (fun _ _ o h => RI.alloc o h) (fun _ _ h => RI.size h) (fun k hk => by have := hO4.out.rd.lt; omega) (fun b hb => ?_)
              simp only [Act.put, List.setIfInBounds_toArray, List.set_cons_zero, List.set_cons_succ]
              (repeat (refine GK.grow_quiet w4 (by rfl) (by rfl) ?_; intro K hK; go_big_quiet_op; go_big_quiet_on))
              refine GK.grow_call (by rfl) (fun u w w' _ h => h) (fun m wq hm hbq hf => ?_) ?_
              · obtain ⟨b', z1, z2, z3⟩ := hf _ List.mem_cons_self (by kernel_rfl)
                cases z1
                have hlt4 := hO4.out.rd.lt
                go_simp
                exact ⟨rfl, (num_blk R (P + 2 + m * 10000) b [(-1), 6, 70, 5, 0] wq _ (by decide) (by decide) (by omega) z3 (by omega) hbq.2).mono fun e w' ⟨x, hx, h2, h3, h4⟩ => ⟨_, h2, RI.call hbq h4 h3 (by omega), x, rfl, by simp at hx; omega⟩⟩
              rintro u ⟨_, _, _, x, rfl, hx9⟩
              replace hx9 := hid hx9
              simp only [Act.put, List.setIfInBounds_toArray, List.set_cons_zero, List.set_cons_succ]
              (repeat (refine GK.grow_quiet w4 (by rfl) (by rfl) ?_; intro K hK; go_big_quiet_op; go_big_quiet_on))
              refine GK.grow_nil ?_
              intro w5 hw5 _
              simp only [List.filterMap_cons, List.filterMap_nil, List.getElem?_cons_zero, List.getElem?_cons_succ]
              have hO5 := hid (hO4.out.call hw5.1 hw5.2 hR0.out)
              clear q2
              have hcg := World.ownsRow.cellAt hO5.out.own (kn * 3 + 1) (by omega)
              rw [(edCells_at s.es kn hkl).2.1] at hcg
              have hfg := World.ownsRow.frozenAt hO5.out.own (kn * 3 + 1)
              obtain ⟨w6, hw6⟩ : ∃ w6, w5.setCell ⟨g, kn * 3 + 1, none⟩ (.int .i64 x) = w6 := ⟨_, rfl⟩
              have hX := hid (hO5.out.edit hR0.out kn (kn * 3 + 1) ⟨(s.es[kn]'hkl).f, x, (s.es[kn]'hkl).t⟩ x hkl (edCells_set1 hkl x))
              rw [hw6] at hX
              have hgl5 := hO5.out.blk.lt
              have hsl : (s.es.set kn ⟨(s.es[kn]'hkl).f, x, (s.es[kn]'hkl).t⟩).length = s.es.length := List.length_set
              have k0 := hX.out.blk.cell 0
              have k1 := hX.out.blk.cell 1
              have k2 := hX.out.blk.cell 2
              have hbl := hid (hres.out.keep hX.out.keep (by have := hsz0.out; omega))
              have d0 := hbl.out.cell 0
              have d1 := hbl.out.cell 1
              have d2 := hbl.out.cell 2
              have y0 := hbl.out.frozen 0
              have y1 := hbl.out.frozen 1
              have y2 := hbl.out.frozen 2
              have hlt := hbl.out.lt
              simp only [List.getElem?_toArray, List.getElem?_cons_zero, List.getElem?_cons_succ] at d0 d1 d2 k0 k1 k2
              have hfin := hid (OutSt.finQ' (Q := QW) hsl (hX.out.up hb0 (P' := P + 400000) (L' := L + 1) (by omega) (by omega)) (by first | exact hqs.out | exact qw_set hqs.out (hqs.out (s.es[kn]'hkl) (List.getElem_mem hkl)) | exact qw_set hqs.out hx9.out | exact qw_app hqs.out hx9.out | exact qw_app hqs.out (by rw [hx.out]; exact hqs.out (s.es[kn]'hkl) (List.getElem_mem hkl))) hR (ρ := w.heap.size + 1) (by omega) (by have := hsz0.out; omega) (.int .i64 s.al) (.int .i64 s.st) (.slice (some ⟨g, 0, none⟩) s.es.length cv))
              go_wp2
              refine bodyPost_ret (v := .agg #[.int .i64 s.al, .int .i64 s.st, .slice (some ⟨g, 0, none⟩) s.es.length cv]) (by simp [results, Tryd.results51, go_sem, d0, d1, d2]) rfl ?_
              exact hfin.out
          · have hjb4 : ((j : Int) == 4) = false := by simpa using hj4
            replace hj4 := hid hj4
            by_cases hj5 : j = 5
            · subst hj5
              by_cases hn : s.es.length = 0
              · have hn2 : decide (0 < s.es.length) = false := decide_eq_false (by omega)
                have hX := hO4
                replace hn := hid hn
                have k0 := hX.out.blk.cell 0
                have k1 := hX.out.blk.cell 1
                have k2 := hX.out.blk.cell 2
                have hbl := hid (hres.out.keep hX.out.keep (by have := hsz0.out; omega))
                have d0 := hbl.out.cell 0
                have d1 := hbl.out.cell 1
                have d2 := hbl.out.cell 2
                have y0 := hbl.out.frozen 0
                have y1 := hbl.out.frozen 1
                have y2 := hbl.out.frozen 2
                have hlt := hbl.out.lt
                simp only [List.getElem?_toArray, List.getElem?_cons_zero, List.getElem?_cons_succ] at d0 d1 d2 k0 k1 k2
                have hfin := hid ((hX.out.up hb0 (P' := P + 400000) (L' := L + 1) (by omega) (by omega)).finQ (Q := QW) (by first | exact hqs.out | exact qw_set hqs.out (hqs.out (s.es[kn]'hkl) (List.getElem_mem hkl)) | exact qw_set hqs.out hx9.out | exact qw_app hqs.out hx9.out | exact qw_app hqs.out (by rw [hx.out]; exact hqs.out (s.es[kn]'hkl) (List.getElem_mem hkl))) hR (ρ := w.heap.size + 1) (by omega) (by have := hsz0.out; omega) (.int .i64 s.al) (.int .i64 s.st) (.slice Av s.es.length cv))
                go_wp2
                refine bodyPost_ret (v := .agg #[.int .i64 s.al, .int .i64 s.st, .slice Av s.es.length cv]) (by simp [results, Tryd.results51, go_sem, d0, d1, d2]) rfl ?_
                exact hfin.out
              · have hkl := hkn.out (by omega)
                obtain ⟨g, cap, hve, hg1, hg2, -, -, -⟩ := own_shape hO4.out.own (by omega)
                cases hve
                have hn2 : (0 : Int) < (s.es.length : Int) := by omega
                have i1 : (0 : Int) ≤ (kn : Int) ∧ (kn : Int) < (s.es.length : Int) := by omega
                obtain ⟨e0, e1, e2⟩ := edCells_at s.es kn hkl
                have r0 := World.ownsRow.cellAt hO4.out.own (kn * 3) (by omega)
                have r1 := World.ownsRow.cellAt hO4.out.own (kn * 3 + 1) (by omega)
                have r2 := World.ownsRow.cellAt hO4.out.own (kn * 3 + 2) (by omega)
                rw [e0] at r0
                rw [e1] at r1
                rw [e2] at r2
                obtain ⟨x, hx⟩ : ∃ x, x = s.es[kn] := ⟨_, rfl⟩
                rw [← hx] at r0 r1 r2
                replace hx := hid hx
                have q2 := GK.BI.cell c2
                have q3 := GK.BI.cell r0
                have q4 := GK.BI.cell r1
                have q5 := GK.BI.cell r2
                replace hn := hid hn
                clear c0 c1 c2 g0 g1 g2 r0 r1 r2 e0 e1 e2
                go_wp2_with fail
                refine GK.wp_region 8 [8, 9, 10] 200 (KeepB fun _ => False) (GK.BI w4) (fun _ _ _ => True) (by kernel_rfl) (by kernel_rfl) (GK.BI.way w4) (by decide) (Below.refl _ _).drew ?_
                simp only [List.take_succ_cons, List.take_zero]
                (repeat (refine GK.grow_quiet w4 (by rfl) (by rfl) ?_; intro K hK; go_big_quiet_op; go_big_quiet_on))
                refine GK.grow_new (K := fun _ => False) (by rfl) _ (fun b => .slice (some ⟨b, 0, none⟩) 1 1) 59 #[.int .i64 x.f, .int .i64 x.l, .int .i64 x.t] (fun _ => by go_simp) rfl (fun _ _ o h => GK.BI.alloc o h) (fun _ _ h => GK.BI.size h) (fun _ h => h.elim) (fun b hb => ?_)
                simp only [Act.put, List.setIfInBounds_toArray, List.set_cons_zero, List.set_cons_succ]
                refine GK.grow_nil ?_
                intro w5 hw5 hf
                obtain ⟨b', z1, z2, hblk5⟩ := hf _ List.mem_cons_self
                cases z1
                clear hf q2 q3 q4 q5
                simp only [List.filterMap_cons, List.filterMap_nil, List.getElem?_cons_zero, List.getElem?_cons_succ]
                replace hw5 : Below w4.heap.size w4 w5 := hw5
                have hO5 := hid (hO4.out.later hw5 hR0.out)
                refine wpList_append_own_at _ (by rfl) _ _ 26 (by rfl) w0.heap.size 59 i0 (.agg #[.int .i64 0, .int .i64 0, .int .i64 0]) 3 24 Tryd.underlying26 hi hz0 hz1 hz2 rfl (by decide) _ s.es.length (edCells s.es) (by rfl) hO5.out.own ⟨b, 0, none⟩ 1 1 [.int .i64 x.f, .int .i64 x.l, .int .i64 x.t] (by rfl) (by rfl) (World.news_of_block hblk5) ?c1 ?c3 ?c4 ?c5 ?_
                case c1 => simp [Value.oneCell']
                case c3 => unfold maxLen; omega
                case c4 => omega
                case c5 => have := hO5.out.keep.size; omega
                intro v6 w6 hown6 hgrow6 hnil6 hat6
                obtain ⟨A6, c6, rfl, -, -⟩ := own_slice hown6
                have ag := hO5.out.ne
                have hgl5 := hO5.out.blk.lt
                have c2' : w6.cell? ⟨gs, 2, none⟩ = some (.slice (some ⟨g, 0, none⟩) s.es.length cv) := by rw [hgrow6.cell_far _ (by simpa using hgl5) (Ne.symm ag)]; exact hO5.out.blk.cell 2
                have f2' : w6.frozen? ⟨gs, 2, none⟩ = false := by rw [hgrow6.frozen_far _ (by simpa using hgl5) (Ne.symm ag)]; exact hO5.out.blk.frozen 2
                obtain ⟨w7, hw7⟩ : ∃ w7, w6.setCell ⟨gs, 2, none⟩ (.slice A6 (s.es.length + 1) c6) = w7 := ⟨_, rfl⟩
                have hX := hid (hO5.out.add (x := x) hR0.out hown6 hgrow6 hat6)
                rw [hw7] at hX
                have hsl : (s.es ++ [(x : Ed)]).length = s.es.length + 1 := by simp
                have hgl6 := hgrow6.size
                clear hown6 hgrow6 hnil6 hat6 ag
                have k0 := hX.out.blk.cell 0
                have k1 := hX.out.blk.cell 1
                have k2 := hX.out.blk.cell 2
                have hbl := hid (hres.out.keep hX.out.keep (by have := hsz0.out; omega))
                have d0 := hbl.out.cell 0
                have d1 := hbl.out.cell 1
                have d2 := hbl.out.cell 2
                have y0 := hbl.out.frozen 0
                have y1 := hbl.out.frozen 1
                have y2 := hbl.out.frozen 2
                have hlt := hbl.out.lt
                simp only [List.getElem?_toArray, List.getElem?_cons_zero, List.getElem?_cons_succ] at d0 d1 d2 k0 k1 k2
                have hfin := hid (OutSt.finQ' (Q := QW) hsl (hX.out.up hb0 (P' := P + 400000) (L' := L + 1) (by omega) (by omega)) (by first | exact hqs.out | exact qw_set hqs.out (hqs.out (s.es[kn]'hkl) (List.getElem_mem hkl)) | exact qw_set hqs.out hx9.out | exact qw_app hqs.out hx9.out | exact qw_app hqs.out (by rw [hx.out]; exact hqs.out (s.es[kn]'hkl) (List.getElem_mem hkl))) hR (ρ := w.heap.size + 1) (by omega) (by have := hsz0.out; omega) (.int .i64 s.al) (.int .i64 s.st) (.slice A6 (s.es.length + 1) c6))
                go_wp2
                refine bodyPost_ret (v := .agg #[.int .i64 s.al, .int .i64 s.st, .slice A6 (s.es.length + 1) c6]) (by simp [results, Tryd.results51, go_sem, d0, d1, d2]) rfl ?_
                exact hfin.out
            · have hjb5 : ((j : Int) == 5) = false := by simpa using hj5
              replace hj5 := hid hj5
              by_cases hj6 : j = 6
              · subst hj6
                have hgsR : gs ≠ R := by have := hO4.out.hgs; have := hR0.out; omega
                have q2 := RI.cell hO4.out.rd c2 hgsR
                clear c0 c1 g0 g1 g2
                go_wp2_with fail
                clear c2
                refine GK.wp_region 10 [10, 11, 12] 200 (KeepB fun b => b = R) (RI w4 R (P + 2)) (fun _ u _ => ∃ x : Int, u = .int .i64 x ∧ (x ≤ 9 ∨ 16 ≤ x)) (by kernel_rfl) (by kernel_rfl) (RI.way w4 R (P + 2)) (by decide) (RI.drew hO4.out.rd) ?_
                simp only [List.take_succ_cons, List.take_zero]
                (repeat (refine GK.grow_quiet w4 (by rfl) (by rfl) ?_; intro K hK; go_big_quiet_op; go_big_quiet_on))
                refine GK.grow_call (by rfl) (fun u w w' _ h => h) (fun m wq hm hbq hf => ?_) ?_
                · go_simp
                  exact ⟨rfl, (pick_up R (P + 2 + m * 10000) 4 wq (by omega) (by omega) hbq.2).mono fun e w' ⟨x, h2, _, hx, h3, h4⟩ => ⟨_, h2, RI.call hbq h4 h3 (by omega), x, rfl, .inl (by omega)⟩⟩
                rintro u ⟨_, _, _, x1, rfl, _⟩
                simp only [Act.put, List.setIfInBounds_toArray, List.set_cons_zero, List.set_cons_succ]
                (repeat (refine GK.grow_quiet w4 (by rfl) (by rfl) ?_; intro K hK; go_big_quiet_op; go_big_quiet_on))
                refine GK.grow_call (by rfl) (fun u w w' _ h => h) (fun m wq hm hbq hf => ?_) ?_
                · go_simp
                  exact ⟨rfl, (pick_up R (P + 2 + m * 10000) 3 wq (by omega) (by omega) hbq.2).mono fun e w' ⟨x, h2, _, hx, h3, h4⟩ => ⟨_, h2, RI.call hbq h4 h3 (by omega), x, rfl, .inl (by omega)⟩⟩
                rintro u ⟨_, _, _, x2, rfl, _⟩
                simp only [Act.put, List.setIfInBounds_toArray, List.set_cons_zero, List.set_cons_succ]
                (repeat (refine GK.grow_quiet w4 (by rfl) (by rfl) ?_; intro K hK; go_big_quiet_op; go_big_quiet_on))
                refine GK.grow_call (by rfl) (fun u w w' _ h => h) (fun m wq hm hbq hf => ?_) ?_
                · go_simp
                  exact ⟨rfl, (pick_up R (P + 2 + m * 10000) 4 wq (by omega) (by omega) hbq.2).mono fun e w' ⟨x, h2, _, hx, h3, h4⟩ => ⟨_, h2, RI.call hbq h4 h3 (by omega), x, rfl, .inl (by omega)⟩⟩
                rintro u ⟨_, _, _, x3, rfl, hx9⟩
                replace hx9 := hid hx9
                simp only [Act.put, List.setIfInBounds_toArray, List.set_cons_zero, List.set_cons_succ]
                (repeat (refine GK.grow_quiet w4 (by rfl) (by rfl) ?_; intro K hK; go_big_quiet_op; go_big_quiet_on))
                refine GK.grow_new (K := fun b => b = R) (by rfl) w4.heap.size (fun b => .slice (some ⟨b, 0, none⟩) 1 1) 59 #[.int .i64 x1, .int .i64 x2, .int .i64 x3] (fun _ => by go_simp) rfl (fun _ _ o h => RI.alloc o h) (fun _ _ h => RI.size h) (fun k hk => by have := hO4.out.rd.lt; omega) (fun b hb => ?_)
                simp only [Act.put, List.setIfInBounds_toArray, List.set_cons_zero, List.set_cons_succ]
                refine GK.grow_nil ?_
                intro w5 hw5 hf
                obtain ⟨b', z1, z2, hblk5⟩ := hf _ List.mem_cons_self
                cases z1
                clear hf q2
                simp only [List.filterMap_cons, List.filterMap_nil, List.getElem?_cons_zero, List.getElem?_cons_succ]
                have hO5 := hid (hO4.out.call hw5.1 hw5.2 hR0.out)
                refine wpList_append_own_at _ (by rfl) _ _ 26 (by rfl) w0.heap.size 59 i0 (.agg #[.int .i64 0, .int .i64 0, .int .i64 0]) 3 24 Tryd.underlying26 hi hz0 hz1 hz2 rfl (by decide) _ s.es.length (edCells s.es) (by rfl) hO5.out.own ⟨b, 0, none⟩ 1 1 [.int .i64 x1, .int .i64 x2, .int .i64 x3] (by rfl) (by rfl) (World.news_of_block hblk5) ?c1 ?c3 ?c4 ?c5 ?_
                case c1 => simp [Value.oneCell']
                case c3 => unfold maxLen; omega
                case c4 => omega
                case c5 => have := hO5.out.keep.size; omega
                intro v6 w6 hown6 hgrow6 hnil6 hat6
                obtain ⟨A6, c6, rfl, -, -⟩ := own_slice hown6
                have ag := hO5.out.ne
                have hgl5 := hO5.out.blk.lt
                have c2' : w6.cell? ⟨gs, 2, none⟩ = some (.slice Av s.es.length cv) := by rw [hgrow6.cell_far _ (by simpa using hgl5) (Ne.symm ag)]; exact hO5.out.blk.cell 2
                have f2' : w6.frozen? ⟨gs, 2, none⟩ = false := by rw [hgrow6.frozen_far _ (by simpa using hgl5) (Ne.symm ag)]; exact hO5.out.blk.frozen 2
                obtain ⟨w7, hw7⟩ : ∃ w7, w6.setCell ⟨gs, 2, none⟩ (.slice A6 (s.es.length + 1) c6) = w7 := ⟨_, rfl⟩
                have hX := hid (hO5.out.add (x := (⟨x1, x2, x3⟩ : Ed)) hR0.out hown6 hgrow6 hat6)
                rw [hw7] at hX
                have hsl : (s.es ++ [(⟨x1, x2, x3⟩ : Ed)]).length = s.es.length + 1 := by simp
                have hgl6 := hgrow6.size
                clear hown6 hgrow6 hnil6 hat6 ag
                have k0 := hX.out.blk.cell 0
                have k1 := hX.out.blk.cell 1
                have k2 := hX.out.blk.cell 2
                have hbl := hid (hres.out.keep hX.out.keep (by have := hsz0.out; omega))
                have d0 := hbl.out.cell 0
                have d1 := hbl.out.cell 1
                have d2 := hbl.out.cell 2
                have y0 := hbl.out.frozen 0
                have y1 := hbl.out.frozen 1
                have y2 := hbl.out.frozen 2
                have hlt := hbl.out.lt
                simp only [List.getElem?_toArray, List.getElem?_cons_zero, List.getElem?_cons_succ] at d0 d1 d2 k0 k1 k2
                have hfin := hid (OutSt.finQ' (Q := QW) hsl (hX.out.up hb0 (P' := P + 400000) (L' := L + 1) (by omega) (by omega)) (by first | exact hqs.out | exact qw_set hqs.out (hqs.out (s.es[kn]'hkl) (List.getElem_mem hkl)) | exact qw_set hqs.out hx9.out | exact qw_app hqs.out hx9.out | exact qw_app hqs.out (by rw [hx.out]; exact hqs.out (s.es[kn]'hkl) (List.getElem_mem hkl))) hR (ρ := w.heap.size + 1) (by omega) (by have := hsz0.out; omega) (.int .i64 s.al) (.int .i64 s.st) (.slice A6 (s.es.length + 1) c6))
                go_wp2
                refine bodyPost_ret (v := .agg #[.int .i64 s.al, .int .i64 s.st, .slice A6 (s.es.length + 1) c6]) (by simp [results, Tryd.results51, go_sem, d0, d1, d2]) rfl ?_
                exact hfin.out
              · have hjb6 : ((j : Int) == 6) = false := by simpa using hj6
                replace hj6 := hid hj6
                have hX := hO4
                have k0 := hX.out.blk.cell 0
                have k1 := hX.out.blk.cell 1
                have k2 := hX.out.blk.cell 2
                have hbl := hid (hres.out.keep hX.out.keep (by have := hsz0.out; omega))
                have d0 := hbl.out.cell 0
                have d1 := hbl.out.cell 1
                have d2 := hbl.out.cell 2
                have y0 := hbl.out.frozen 0
                have y1 := hbl.out.frozen 1
                have y2 := hbl.out.frozen 2
                have hlt := hbl.out.lt
                simp only [List.getElem?_toArray, List.getElem?_cons_zero, List.getElem?_cons_succ] at d0 d1 d2 k0 k1 k2
                have hfin := hid ((hX.out.up hb0 (P' := P + 400000) (L' := L + 1) (by omega) (by omega)).finQ (Q := QW) (by first | exact hqs.out | exact qw_set hqs.out (hqs.out (s.es[kn]'hkl) (List.getElem_mem hkl)) | exact qw_set hqs.out hx9.out | exact qw_app hqs.out hx9.out | exact qw_app hqs.out (by rw [hx.out]; exact hqs.out (s.es[kn]'hkl) (List.getElem_mem hkl))) hR (ρ := w.heap.size + 1) (by omega) (by have := hsz0.out; omega) (.int .i64 s.al) (.int .i64 s.st) (.slice Av s.es.length cv))
                go_wp2
                refine bodyPost_ret (v := .agg #[.int .i64 s.al, .int .i64 s.st, .slice Av s.es.length cv]) (by simp [results, Tryd.results51, go_sem, d0, d1, d2]) rfl ?_
                exact hfin.out

end Go.Proofs.YtdkjnemakkppfaaDoor

/- The drawing kit once more: l2Big is deterministic. -/
namespace Go.Proofs.YtdkjnemakkppfaaDoor
open Go.RowKit Go.BigFrame AG

/-- No two edges with the same state and letter. -/
def DE (es : List Ed) : Prop := es.Pairwise fun a b => a.f ≠ b.f ∨ a.l ≠ b.l
def DEk (es : List Ed) (k : Nat) : Prop := DE es ∧ ∀ e ∈ es, e.f < (k : Int)
theorem DEk.nil : DEk [] 0 := ⟨List.Pairwise.nil, fun e h => (by cases h)⟩
theorem DEk.one {es : List Ed} {k : Nat} (h : DEk es k) (d : Nat) : DEk (es ++ [(⟨k, 0, d⟩ : Ed)]) (k + 1) := by
  refine ⟨List.pairwise_append.2 ⟨h.1, List.pairwise_singleton _ _, fun a ha b hb => ?_⟩, fun e he => ?_⟩
  · rw [List.mem_singleton.1 hb]
    have := h.2 a ha
    exact .inl (by show a.f ≠ (k : Int); omega)
  · rcases List.mem_append.1 he with he | he
    · have := h.2 e he; omega
    · rw [List.mem_singleton.1 he]; show (k : Int) < _; omega
theorem DEk.two {es : List Ed} {k : Nat} (h : DEk es k) (d : Nat) (x : Int) : DEk (es ++ [(⟨k, 0, d⟩ : Ed)] ++ [(⟨k, 1, x⟩ : Ed)]) (k + 1) := by
  have h1 := h.one d
  refine ⟨List.pairwise_append.2 ⟨h1.1, List.pairwise_singleton _ _, fun a ha b hb => ?_⟩, fun e he => ?_⟩
  · rw [List.mem_singleton.1 hb]
    rcases List.mem_append.1 ha with ha | ha
    · have := h.2 a ha
      exact .inl (by show a.f ≠ (k : Int); omega)
    · rw [List.mem_singleton.1 ha]
      exact .inr (by show (0 : Int) ≠ 1; decide)
  · rcases List.mem_append.1 he with he | he
    · exact h1.2 e he
    · rw [List.mem_singleton.1 he]; show (k : Int) < _; omega
theorem RndSt.post3 {Q : Sy → Prop} {w wr : World} {R P P' L : Nat} {al st : Int} {lv : Value} {ls : List Nat} {N : Nat} {A : Option Addr} {c : Nat} {es : List Ed} (h : RndSt w wr R P (w.heap.size + 1) al st lv ls N (.slice A es.length c) es) (hq : Q ⟨al, st, es⟩) (hL : es.length ≤ L) (hP : P + N ≤ P') (hR : R < w.heap.size) (v1 v2 v3 : Value) :
    SyUpQ Q R P' L w (.returned (.agg #[.int .i64 al, .int .i64 st, .slice A es.length c])) (((wr.setCell ⟨w.heap.size, 0, none⟩ v1).setCell ⟨w.heap.size, 1, none⟩ v2).setCell ⟨w.heap.size, 2, none⟩ v3) := by
  obtain ⟨A', c', hv, h1, h2, h3, h4⟩ := h.own.read
  cases hv
  exact SyUpQ.ret (w := w) (s := ⟨al, st, es⟩) hq h1 h2 hL h3 (fun b o hA => by have := h4 b o hA; omega) (h.rd.more hP) h.keep hR v1 v2 v3

set_option maxRecDepth 100000 in
set_option maxHeartbeats 8000000 in
theorem l2Big_few (R P : Nat) (w : World) (hP : P + 5000000 ≤ 1125899906842624) (hr : RdUp w R P) :
    Calls Tryd.prog 50 #[.pointer (some ⟨R, 0, none⟩)] w (SyUpQ (fun s => 1 ≤ s.es.length ∧ DE s.es) R (P + 2000000) 32 w) := by
  obtain ⟨i0, hi, hz0, hz1, hz2⟩ := info_parts infoEd
  have hR := hr.lt
  have H0 : RndSt w ((w.alloc (.cells #[.int .i64 0, .int .i64 0, .slice none 0 0] 28)).alloc (.cells #[.int .i64 3, .int .i64 16, .slice none 0 0] 28)) R P (w.heap.size + 1) 3 16 (.slice none 0 0) [] 0 (.slice none 0 0) [] :=
    RndSt.begin hr (World.ownsRow_nil _ _ _ _) (Below.refl _ _)
  replace hr := hid hr
  replace H0 := hid H0
  go_enter Tryd.func50, Tryd.ntmps50
  go_wp2_with fail
  go_loopw [4] (fun i wr => ∃ (k : Nat) (v : Value) (es : List Ed), i = .int .i64 k ∧ k ≤ 16 ∧ k ≤ es.length ∧ es.length ≤ k * 2 ∧ DEk es k ∧ RndSt w wr R P (w.heap.size + 1) 3 16 (.slice none 0 0) [] (k * 110000) v es) (fun i _ => 16 - (intOf i).toNat)
  case atStart => exact ⟨0, _, [], rfl, by omega, by simp, by simp, DEk.nil, H0.out⟩
  case round =>
    obtain ⟨k, v, es, rfl, hk, hk1, hk2, hde, hs⟩ := hrel
    replace hde := hid hde
    obtain ⟨Av, cv, hve, -, -⟩ := own_slice hs.own
    subst hve
    have c0 := hs.blk.cell 0
    have c1 := hs.blk.cell 1
    have c2 := hs.blk.cell 2
    simp only [List.getElem?_toArray, List.getElem?_cons_zero, List.getElem?_cons_succ] at c0 c1 c2
    have hbl := hs.blk.lt
    by_cases hlt : k < 16
    · obtain ⟨d, hd⟩ : ∃ d : Nat, d = (k + 1) % 16 := ⟨_, rfl⟩
      have e1 : Int.tmod ((k : Int) + 1) 16 = (d : Int) := by rw [Int.tmod_eq_emod_of_nonneg (by omega)]; omega
      have e2 : IntKind.i64.wrap ((k : Int) + 1) = (k : Int) + 1 := IntWalk.i64_in _ (by omega)
      have q1 := GK.BI.cell c1
      have q2 := GK.BI.cell c2
      have ag : (Value.slice Av es.length cv).ownBlock ≠ some (w.heap.size + 1) := fun e => by have := (hs.own.lt _ e).1; omega
      replace hs := hid hs
      replace hd := hid hd
      go_wp2_with fail
      clear c0 c1 c2
      refine GK.wp_region 10 [10, 11, 12] 200 (KeepB fun _ => False) (GK.BI wr) (fun _ _ _ => True) (by kernel_rfl) (by kernel_rfl) (GK.BI.way wr) (by decide) (Below.refl _ _).drew ?_
      simp only [List.take_succ_cons, List.take_zero]
      (repeat (refine GK.grow_quiet wr (by rfl) (by rfl) ?_; intro K hK; go_big_quiet_op; go_big_quiet_on))
      refine GK.grow_new (K := fun _ => False) (by rfl) _ (fun b => .slice (some ⟨b, 0, none⟩) 1 1) 59 #[.int .i64 (k : Nat), .int .i64 0, .int .i64 (d : Nat)] (fun _ => by go_simp) rfl (fun _ _ o h => GK.BI.alloc o h) (fun _ _ h => GK.BI.size h) (fun _ h => h.elim) (fun b hb => ?_)
      simp only [Act.put, List.setIfInBounds_toArray, List.set_cons_zero, List.set_cons_succ]
      refine GK.grow_nil ?_
      intro w4 hw4 hf
      obtain ⟨g', hge, hge2, hblk⟩ := hf _ List.mem_cons_self
      cases hge
      clear hf q1 q2 e1 e2
      replace hw4 : Below wr.heap.size wr w4 := hw4
      simp only [List.filterMap_cons, List.filterMap_nil, List.getElem?_cons_zero, List.getElem?_cons_succ]
      have hS4 := hid (hs.out.later hw4)
      have z4 := hw4.size
      refine wpList_append_own_at _ (by rfl) _ _ 26 (by rfl) (w.heap.size + 1 + 1) 59 i0 (.agg #[.int .i64 0, .int .i64 0, .int .i64 0]) 3 24 Tryd.underlying26 hi hz0 hz1 hz2 rfl (by decide) _ es.length (edCells es) (by rfl) hS4.out.own ⟨b, 0, none⟩ 1 1 [.int .i64 (k : Nat), .int .i64 0, .int .i64 (d : Nat)] (by rfl) (by rfl) (World.news_of_block hblk) ?c1 ?c3 ?c4 ?c5 ?_
      case c1 => simp [Value.oneCell']
      case c3 => unfold maxLen; omega
      case c4 => omega
      case c5 => omega
      intro v5 w5 hown5 hgrow hnil5 hat5
      obtain ⟨A5, c5, hv5, -, -⟩ := own_slice hown5
      subst hv5
      have c2' : w5.cell? ⟨w.heap.size + 1, 2, none⟩ = some (.slice Av es.length cv) := by rw [hgrow.cell_far _ (by simp; omega) (Ne.symm ag)]; exact hS4.out.blk.cell 2
      have f2' : w5.frozen? ⟨w.heap.size + 1, 2, none⟩ = false := by rw [hgrow.frozen_far _ (by simp; omega) (Ne.symm ag)]; exact hS4.out.blk.frozen 2
      have hl5 : (es ++ [(⟨k, 0, d⟩ : Ed)]).length = es.length + 1 := by simp
      have h6 := (hS4.out.more (by omega : k * 110000 ≤ k * 110000 + 1000)).add' (x := ⟨k, 0, d⟩) (by have := hS4.out.len; omega) hR (by omega) hown5 hgrow
      obtain ⟨w6, hw6⟩ : ∃ w6, w5.setCell ⟨w.heap.size + 1, 2, none⟩ (.slice A5 (es.length + 1) c5) = w6 := ⟨_, rfl⟩
      rw [hw6] at h6
      rw [← hl5] at h6
      replace h6 := hid h6
      clear hown5 hgrow hnil5 hat5
      have ag6 : (Value.slice A5 (es.length + 1) c5).ownBlock ≠ some (w.heap.size + 1) := fun e => by have h61 := h6.out.own; unfold OwnEds at h61; rw [hl5] at h61; have := (World.ownsRow.lt h61 _ e).1; omega
      go_wp2_with fail
      refine (pick_up R (P + (k * 110000 + 1000)) 3 w6 (by omega) (by omega) h6.out.rd).mono ?_
      rintro e w7 ⟨j, rfl, hj0, hj1, hr7, hk7⟩
      have h7 := hid (h6.out.call (N' := k * 110000 + 2000) hR (by omega) (by omega) (hr7.more (by omega)) hk7)
      have hbl7 := h7.out.blk.lt
      clear hr7 hk7 hj1 hw6 c2' f2'
      by_cases hj : j = 0
      · subst hj
        have c1 := h7.out.blk.cell 1
        have c2 := h7.out.blk.cell 2
        simp only [List.getElem?_toArray, List.getElem?_cons_zero, List.getElem?_cons_succ] at c1 c2
        rw [hl5] at c2
        have q1 := RI.cell h7.out.rd c1 (by omega)
        have q2 := RI.cell h7.out.rd c2 (by omega)
        go_wp2_with fail
        clear c1 c2
        refine GK.wp_region 9 [9, 10, 11] 200 (KeepB fun b => b = R) (RI w7 R (P + (k * 110000 + 2000))) (fun _ u _ => ∃ x : Int, u = .int .i64 x) (by kernel_rfl) (by kernel_rfl) (RI.way w7 R _) (by decide) (RI.drew h7.out.rd) ?_
        simp only [List.take_succ_cons, List.take_zero]
        (repeat (refine GK.grow_quiet w7 (by rfl) (by rfl) ?_; intro K hK; go_big_quiet_op; go_big_quiet_on))
        refine GK.grow_call (by rfl) (fun u w w' _ h => h) (fun m wq hm hbq hf => ?_) ?_
        · go_simp
          exact ⟨rfl, (pick_up R (P + (k * 110000 + 2000) + m * 10000) 16 wq (by omega) (by omega) hbq.2).mono fun e w' ⟨x, h2, _, _, h3, h4⟩ => ⟨_, h2, RI.call hbq h4 h3 (by omega), x, rfl⟩⟩
        rintro u ⟨_, _, _, x, rfl⟩
        simp only [Act.put, List.setIfInBounds_toArray, List.set_cons_zero, List.set_cons_succ]
        (repeat (refine GK.grow_quiet w7 (by rfl) (by rfl) ?_; intro K hK; go_big_quiet_op; go_big_quiet_on))
        refine GK.grow_new (K := fun b => b = R) (by rfl) w7.heap.size (fun b => .slice (some ⟨b, 0, none⟩) 1 1) 59 #[.int .i64 (k : Nat), .int .i64 1, .int .i64 x] (fun _ => by go_simp) rfl (fun _ _ o h => RI.alloc o h) (fun _ _ h => RI.size h) (fun k hk => by omega) (fun b hb => ?_)
        simp only [Act.put, List.setIfInBounds_toArray, List.set_cons_zero, List.set_cons_succ]
        refine GK.grow_nil ?_
        intro w8 hw8 hf
        obtain ⟨g', hge, hge2, hblk8⟩ := hf _ List.mem_cons_self
        cases hge
        clear hf q1 q2
        simp only [List.filterMap_cons, List.filterMap_nil, List.getElem?_cons_zero, List.getElem?_cons_succ]
        have h8 := h7.out.call (N' := k * 110000 + 92000) hR (by omega) (by omega) (hw8.2.more (by omega)) hw8.1
        have hbl8 := h8.blk.lt
        have hown8 := h8.own
        unfold OwnEds at hown8
        rw [hl5] at hown8
        replace h8 := hid h8
        refine wpList_append_own_at _ (by rfl) _ _ 26 (by rfl) (w.heap.size + 1 + 1) 59 i0 (.agg #[.int .i64 0, .int .i64 0, .int .i64 0]) 3 24 Tryd.underlying26 hi hz0 hz1 hz2 rfl (by decide) _ (es.length + 1) (edCells (es ++ [⟨k, 0, d⟩])) (by rfl) hown8 ⟨b, 0, none⟩ 1 1 [.int .i64 (k : Nat), .int .i64 1, .int .i64 x] (by rfl) (by rfl) (World.news_of_block hblk8) ?c1 ?c3 ?c4 ?c5 ?_
        case c1 => simp [Value.oneCell']
        case c3 => unfold maxLen; omega
        case c4 => omega
        case c5 => omega
        intro v9 w9 hown9 hgrow hnil9 hat9
        obtain ⟨A9, c9, hv9, -, -⟩ := own_slice hown9
        subst hv9
        have c2' : w9.cell? ⟨w.heap.size + 1, 2, none⟩ = some (.slice A5 (es.length + 1) c5) := by rw [hgrow.cell_far _ (by simp; omega) (Ne.symm ag6), ← hl5]; exact h8.out.blk.cell 2
        have f2' : w9.frozen? ⟨w.heap.size + 1, 2, none⟩ = false := by rw [hgrow.frozen_far _ (by simp; omega) (Ne.symm ag6)]; exact h8.out.blk.frozen 2
        have hown9' := hown9
        rw [show es.length + 1 + 1 = (es ++ [(⟨k, 0, d⟩ : Ed)]).length + 1 from by rw [hl5]] at hown9'
        have hfin := (h8.out.more (by omega : k * 110000 + 92000 ≤ (k + 1) * 110000)).add' (x := ⟨k, 1, x⟩) (by have := h8.out.len; omega) hR (by omega) hown9' (by rw [hl5]; exact hgrow)
        rw [hl5] at hfin
        replace hfin := hid hfin
        clear hown9 hown9' hown8 hgrow hnil9 hat9
        go_wp2_with fail
        go_roundw
        case rel => exact ⟨k + 1, _, _, by go_num, by omega, by simp; omega, by simp; omega, hde.out.two d x, hfin.out⟩
        case measure => simp [intOf]; omega
      · have hjb : ((j : Int) == 0) = false := by simpa using hj
        replace hj := hid hj
        have hfin := hid (h7.out.more (by omega : k * 110000 + 2000 ≤ (k + 1) * 110000))
        rw [hl5] at hfin
        go_wp2_with fail
        go_roundw
        case rel => exact ⟨k + 1, _, _, by go_num, by omega, by simp; omega, by simp; omega, hde.out.one d, hfin.out⟩
        case measure => simp [intOf]; omega
    · obtain rfl : k = 16 := by omega
      have d0 := hs.res.cell 0
      have d1 := hs.res.cell 1
      have d2 := hs.res.cell 2
      have f0 := hs.res.frozen 0
      have f1 := hs.res.frozen 1
      have f2 := hs.res.frozen 2
      simp only [List.getElem?_toArray, List.getElem?_cons_zero, List.getElem?_cons_succ] at d0 d1 d2
      have hfin := hid (hs.post3 (Q := fun s => 1 ≤ s.es.length ∧ DE s.es) (P' := P + 2000000) (L := 32) ⟨by show 1 ≤ es.length; omega, hde.out.1⟩ (by omega) (by omega) hR (.int .i64 3) (.int .i64 16) (.slice Av es.length cv))
      have hvl := hs.res.lt
      replace hs := hid hs
      go_wp2
      refine bodyPost_ret (v := .agg #[.int .i64 3, .int .i64 16, .slice Av es.length cv]) (by simp [results, Tryd.results50, go_sem, d0, d1, d2]) rfl ?_
      exact hfin.out

end Go.Proofs.YtdkjnemakkppfaaDoor

/- The drawing kit once more: l6Pair: the second system has few states, or is deterministic. -/
namespace Go.Proofs.YtdkjnemakkppfaaDoor
open Go.RowKit Go.BigFrame AG

def PairUpQ (R P L : Nat) (w : World) (e : Ending) (w' : World) : Prop :=
  ∃ (s t : Sy) (A B : Option Addr) (c d : Nat), e = .returned (.tuple #[s.val A c, t.val B d]) ∧ (QW t ∨ DE t.es) ∧ GotSy w w' R L (fun _ => False) s A c ∧ GotSy w w' R L (fun _ => False) t B d ∧ RdUp w' R P ∧ KeepB (fun b => b = R) w w'

theorem PairUpQ.drew {R P L : Nat} {w w' : World} {e : Ending} (h : PairUpQ R P L w e w') : PairUpQ R P L w e w'.drew := by
  obtain ⟨s, t, A, B, c, d, he, hq, h1, h2, h3, h4⟩ := h
  have hb : Below w'.heap.size w' w'.drew := (Below.refl _ _).drew
  exact ⟨s, t, A, B, c, d, he, hq, h1.keep (KeepB.of_below (K := fun _ => False) hb) (fun _ _ h => h), h2.keep (KeepB.of_below (K := fun _ => False) hb) (fun _ _ h => h), h3.later hb, h4.trans (KeepB.of_below hb)⟩
theorem TwoSt.finQ {w w0 wr : World} {R P P' L L' b4 b5 : Nat} {s t : Sy} {A B : Option Addr} {c d : Nat} (h : TwoSt w0 wr R P L b4 b5 s t A B c d) (hq : QW t ∨ DE t.es) (hb : Below w.heap.size w w0) (hsz : w.heap.size + 2 ≤ w0.heap.size) (hR : R < w.heap.size) (hP : P ≤ P') (hL : L ≤ L') {v1 v2 v3 v4 v5 v6 : Value} :
    PairUpQ R P' L' w (.returned (.tuple #[.agg #[.int .i64 s.al, .int .i64 s.st, .slice A s.es.length c], .agg #[.int .i64 t.al, .int .i64 t.st, .slice B t.es.length d]]))
      ((((((wr.setCell ⟨w.heap.size, 0, none⟩ v1).setCell ⟨w.heap.size, 1, none⟩ v2).setCell ⟨w.heap.size, 2, none⟩ v3).setCell ⟨w.heap.size + 1, 0, none⟩ v4).setCell ⟨w.heap.size + 1, 1, none⟩ v5).setCell ⟨w.heap.size + 1, 2, none⟩ v6) := by
  have hk : KeepB (fun b => b = w.heap.size ∨ b = w.heap.size + 1) wr ((((((wr.setCell ⟨w.heap.size, 0, none⟩ v1).setCell ⟨w.heap.size, 1, none⟩ v2).setCell ⟨w.heap.size, 2, none⟩ v3).setCell ⟨w.heap.size + 1, 0, none⟩ v4).setCell ⟨w.heap.size + 1, 1, none⟩ v5).setCell ⟨w.heap.size + 1, 2, none⟩ v6) :=
    ((((((KeepB.refl _ wr).setCell _ _ (by simp)).setCell _ _ (by simp)).setCell _ _ (by simp)).setCell _ _ (by simp)).setCell _ _ (by simp)).setCell _ _ (by simp)
  have hg : ∀ {s : Sy} {A : Option Addr} {c : Nat}, GotSy w0 wr R L (fun b => b = b4 ∨ b = b5) s A c → GotSy w ((((((wr.setCell ⟨w.heap.size, 0, none⟩ v1).setCell ⟨w.heap.size, 1, none⟩ v2).setCell ⟨w.heap.size, 2, none⟩ v3).setCell ⟨w.heap.size + 1, 0, none⟩ v4).setCell ⟨w.heap.size + 1, 1, none⟩ v5).setCell ⟨w.heap.size + 1, 2, none⟩ v6) R L' (fun _ => False) s A c := fun {s A c} g => by
    have g2 := g.keep hk fun b h1 h2 => by omega
    exact ⟨g2.le, g2.top, by have := g2.len; omega, g2.at_, fun b o e => by have := g2.fresh b o e; omega, fun _ _ _ _ h => h⟩
  refine ⟨s, t, A, B, c, d, rfl, hq, hg h.sg, hg h.tg, (h.rd.more hP).keep hk (by omega), ?_⟩
  exact ((((((((KeepB.of_below hb).trans h.keep).setCell _ _ (by simp)).setCell _ _ (by simp)).setCell _ _ (by simp)).setCell _ _ (fun hh => by have : w.heap.size + 1 < w.heap.size := hh; omega)).setCell _ _ (fun hh => by have : w.heap.size + 1 < w.heap.size := hh; omega)).setCell _ _ (fun hh => by have : w.heap.size + 1 < w.heap.size := hh; omega))

set_option maxRecDepth 100000 in
set_option maxHeartbeats 16000000 in
theorem l6Pair_few (R P : Nat) (w : World) (hP : P + 50000000 ≤ 1125899906842624) (hr : RdUp w R P) :
    Calls Tryd.prog 57 #[.pointer (some ⟨R, 0, none⟩)] w (PairUpQ R (P + 20000000) 40000 w) := by
  have hR := hr.lt
  have hres2 := (Blk.new w 28 #[.int .i64 0, .int .i64 0, .slice none 0 0]).alloc (.cells #[.int .i64 0, .int .i64 0, .slice none 0 0] 28)
  have hres3 := Blk.new (w.alloc (.cells #[.int .i64 0, .int .i64 0, .slice none 0 0] 28)) 28 #[.int .i64 0, .int .i64 0, .slice none 0 0]
  have hb0 : Below w.heap.size w ((w.alloc (.cells #[.int .i64 0, .int .i64 0, .slice none 0 0] 28)).alloc (.cells #[.int .i64 0, .int .i64 0, .slice none 0 0] 28)) := ((Below.refl _ _).alloc (Nat.le_refl _) _).alloc (by simp) _
  have hsz0 : ((w.alloc (.cells #[.int .i64 0, .int .i64 0, .slice none 0 0] 28)).alloc (.cells #[.int .i64 0, .int .i64 0, .slice none 0 0] 28)).heap.size = w.heap.size + 2 := by simp
  simp only [World.size_alloc] at hres3
  generalize hw0 : (w.alloc (.cells #[.int .i64 0, .int .i64 0, .slice none 0 0] 28)).alloc (.cells #[.int .i64 0, .int .i64 0, .slice none 0 0] 28) = w0 at hres2 hres3 hb0 hsz0
  have hr0 := hid (hr.later hb0)
  have hR0 : R < w0.heap.size := by omega
  replace hres2 := hid hres2
  replace hres3 := hid hres3
  replace hsz0 := hid hsz0
  clear hr
  go_enter Tryd.func57, Tryd.ntmps57
  go_wp2_with fail
  refine (l2Draw_few R P w0 (by omega) hr0.out).mono ?_
  rintro e w1 ⟨s, A, c, rfl, hqs, a1, a2, a3, a4, a5, a6, a7⟩
  unfold Sy.val
  replace hqs := hid hqs
  have hz1 := a7.size
  have hba : Below w1.heap.size w1 (w1.alloc (.cells #[.int .i64 s.al, .int .i64 s.st, .slice A s.es.length c] 28)) := (Below.refl _ _).alloc (Nat.le_refl _) _
  have hs1 := hid (a4.later hba)
  have hnb := Blk.new w1 28 #[.int .i64 s.al, .int .i64 s.st, .slice A s.es.length c]
  have hkr1 := hid (a7.trans (KeepB.of_below hba))
  have hrd1 := hid (a6.later hba)
  have hfa := hid a5
  have hfar : Hid (∀ b o, A = some ⟨b, o, none⟩ → 0 < s.es.length → b < w1.heap.size) := hid (fun b o e hn => by obtain ⟨b', o', e', hb', -⟩ := a4 hn; rw [e] at e'; cases e'; exact hb')
  generalize hwa : w1.alloc (.cells #[.int .i64 s.al, .int .i64 s.st, .slice A s.es.length c] 28) = wa at hs1 hnb hkr1 hrd1 hba
  have hza : w1.heap.size < wa.heap.size := hnb.lt
  clear a4 a5 a6 a7 hw0
  have c0 := hnb.cell 0
  have c1 := hnb.cell 1
  have c2 := hnb.cell 2
  simp only [List.getElem?_toArray, List.getElem?_cons_zero, List.getElem?_cons_succ] at c0 c1 c2
  go_wp2_with fail
  refine (l6Change_few R (P + 2000) 1536 s A c wa (by omega) a1 a2 a3 (by omega) hqs.out hs1.out (fun b o e => by have := hfa.out b o e; omega) hrd1.out).mono ?_
  rintro e w2 ⟨t, B, d, rfl, hqt, b1, b2, b3, b4, b5, b6, b7⟩
  unfold Sy.val
  replace hqt := hid hqt
  have hz2 := b7.size
  have hbb : Below w2.heap.size w2 (w2.alloc (.cells #[.int .i64 t.al, .int .i64 t.st, .slice B t.es.length d] 28)) := (Below.refl _ _).alloc (Nat.le_refl _) _
  have hT2 : TwoSt w0 (w2.alloc (.cells #[.int .i64 t.al, .int .i64 t.st, .slice B t.es.length d] 28)) R (P + 2000 + 4000000) 3073 w1.heap.size w2.heap.size s t A B c d := by
    refine ⟨(hnb.keep b7 (by omega)).alloc _, Blk.new w2 _ _, ⟨a1, a2, by omega, (EdsAt.keepR hs1.out b7 (fun b o e => by have := hfa.out b o e; omega)).later hbb, hfa.out, fun hn b o e hk => ?_⟩, ⟨b1, b2, b3, b4.later hbb, fun b o e => by have := b5 b o e; omega, fun hn b o e hk => ?_⟩, b6.later hbb, (hkr1.out.trans b7).trans (KeepB.of_below hbb), by omega, by omega, by omega⟩
    · have := hfar.out b o e hn; omega
    · obtain ⟨b', o', e', hb', -⟩ := b4 hn
      rw [e] at e'; cases e'
      have := b5 b o e
      omega
  generalize hwb : w2.alloc (.cells #[.int .i64 t.al, .int .i64 t.st, .slice B t.es.length d] 28) = wb at hT2 hbb
  replace hT2 := hid hT2
  clear b4 b5 b6 b7 hbb hs1 hnb hkr1 hrd1 hfa hfar hwa hba c0 c1 c2
  go_wp2_with fail
  refine (pick_up R (P + 2000 + 4000000) 4 wb (by omega) (by omega) hT2.out.rd).mono ?_
  rintro e w3 ⟨j, rfl, hj0, hj1, hr3, hk3⟩
  have hT3 := hid (hT2.out.call hk3 hr3 hR0)
  clear hr3 hk3 hT2 hwb
  go_upto_if 13 with fail
  refine cut_here fun KC hKC => ?_
  go_cut [] (fun wx => ∃ (t : Sy) (B : Option Addr) (d : Nat), QT t ∧ TwoSt w0 wx R (P + 9000000) 7000 w1.heap.size w2.heap.size s t A B c d)
  case first =>
    by_cases h0 : j = 0
    · subst h0
      have c0 := hT3.out.sb.cell 0
      simp only [List.getElem?_toArray, List.getElem?_cons_zero, List.getElem?_cons_succ] at c0
      have hneR : w1.heap.size ≠ R := by omega
      have q0 := RI.cell hT3.out.rd c0 hneR
      go_wp2_with fail
      clear c0
      refine GK.wp_region 9 [9, 10] 200 (KeepB fun b => b = R) (RI w3 R (P + 2000 + 4000000 + 1)) (fun _ u _ => ∃ x : Int, u = .int .i64 x ∧ x ≤ 4) (by kernel_rfl) (by kernel_rfl) (RI.way w3 R _) (by decide) (RI.drew hT3.out.rd) ?_
      simp only [List.take_succ_cons, List.take_zero]
      (repeat (refine GK.grow_quiet w3 (by rfl) (by rfl) ?_; intro K hK; go_big_quiet_op; go_big_quiet_on))
      refine GK.grow_new (K := fun b => b = R) (by rfl) w3.heap.size (fun b => .slice (some ⟨b, 0, none⟩) 4 4) 3 #[.int .i64 2, .int .i64 3, .int .i64 1, .int .i64 4] (fun _ => by go_simp) rfl (fun _ _ o h => RI.alloc o h) (fun _ _ h => RI.size h) (fun k hk => by have := hT3.out.rd.lt; omega) (fun g hg => ?_)
      simp only [Act.put, List.setIfInBounds_toArray, List.set_cons_zero, List.set_cons_succ]
      (repeat (refine GK.grow_quiet w3 (by rfl) (by rfl) ?_; intro K hK; go_big_quiet_op; go_big_quiet_on))
      refine GK.grow_call (by rfl) (fun u w w' _ h => h) (fun m wq hm hbq hf => ?_) ?_
      · obtain ⟨b', z1, z2, z3⟩ := hf _ List.mem_cons_self (by kernel_rfl)
        cases z1
        have hlt4 := hT3.out.rd.lt
        go_simp
        exact ⟨rfl, (num_blk R (P + 2000 + 4000000 + 1 + m * 10000) g [2, 3, 1, 4] wq _ (by decide) (by decide) (by omega) z3 (by omega) hbq.2).mono fun e w' ⟨x, h1, h2, h3, h4⟩ => ⟨_, h2, RI.call hbq h4 h3 (by omega), x, rfl, by simp at h1; omega⟩⟩
      rintro u ⟨_, _, _, x1, rfl, hx1⟩
      simp only [Act.put, List.setIfInBounds_toArray, List.set_cons_zero, List.set_cons_succ]
      (repeat (refine GK.grow_quiet w3 (by rfl) (by rfl) ?_; intro K hK; go_big_quiet_op; go_big_quiet_on))
      refine GK.grow_new (K := fun b => b = R) (by rfl) w3.heap.size (fun b => .slice (some ⟨b, 0, none⟩) 2 2) 3 #[.int .i64 2, .int .i64 3] (fun _ => by go_simp) rfl (fun _ _ o h => RI.alloc o h) (fun _ _ h => RI.size h) (fun k hk => by have := hT3.out.rd.lt; omega) (fun g2 hg2 => ?_)
      simp only [Act.put, List.setIfInBounds_toArray, List.set_cons_zero, List.set_cons_succ]
      (repeat (refine GK.grow_quiet w3 (by rfl) (by rfl) ?_; intro K hK; go_big_quiet_op; go_big_quiet_on))
      refine GK.grow_call (by rfl) (fun u w w' _ h => h) (fun m wq hm hbq hf => ?_) ?_
      · obtain ⟨b', z1, z2, z3⟩ := hf _ List.mem_cons_self (by kernel_rfl)
        cases z1
        have hlt4 := hT3.out.rd.lt
        go_simp
        exact ⟨rfl, (num_blk R (P + 2000 + 4000000 + 1 + m * 10000) g2 [2, 3] wq _ (by decide) (by decide) (by omega) z3 (by omega) hbq.2).mono fun e w' ⟨x, h1, h2, h3, h4⟩ => ⟨_, h2, RI.call hbq h4 h3 (by omega), x, rfl, by simp at h1; omega⟩⟩
      rintro u ⟨_, _, _, x2, rfl, hx2⟩
      simp only [Act.put, List.setIfInBounds_toArray, List.set_cons_zero, List.set_cons_succ]
      refine GK.grow_nil ?_
      intro w4 hw4 _
      simp only [List.filterMap_cons, List.filterMap_nil, List.getElem?_cons_zero, List.getElem?_cons_succ]
      have hT4 := hid (hT3.out.call hw4.1 hw4.2 hR0)
      clear q0 hw4
      go_wp2_with fail
      refine (l2Random_few R _ s.al x1 x2 w4 (by omega) (by omega) (by omega) hT4.out.rd).mono ?_
      rintro e w5 ⟨t', B', d', rfl, hqr, a1, a2, a3, a4, a5, a6, a7⟩
      have hqt' : Hid (QT t') := hid ⟨by rw [hqr.1]; omega, fun e he => by have := hqr.2 e he; omega⟩
      replace hqr := hid hqr
      unfold Sy.val
      have hT5 := (hT4.out.call a7 a6 hR0).more (L' := 7000) (Nat.le_refl _) (by omega)
      have h4l := hT4.out.sb.lt
      have h5l := hT4.out.tb.lt
      have hG := GotSy.new (w := w0) (R := R) (L := 7000) (K := fun b => b = w1.heap.size ∨ b = w2.heap.size) a1 a2 (by omega) a4 a5 hT4.out.keep.size (by rintro b (e | e) <;> omega)
      have hT6 := hid ((hT5.setT hG hR0).more (P' := P + 9000000) (L' := 7000) (by omega) (Nat.le_refl _))
      have f0 := hT5.tb.frozen 0
      have f1 := hT5.tb.frozen 1
      have f2 := hT5.tb.frozen 2
      have d0 := hT5.tb.cell 0
      have d1 := hT5.tb.cell 1
      have d2 := hT5.tb.cell 2
      simp only [List.getElem?_toArray, List.getElem?_cons_zero, List.getElem?_cons_succ] at d0 d1 d2
      have h5l5 := hT5.tb.lt
      clear a4 a5 a6 a7 hT5 hG
      go_wp2_with fail
      go_meet
      exact ⟨t', B', d', hqt'.out, hT6.out⟩
    · have h0b : ((j : Int) == 0) = false := by simpa using h0
      replace h0 := hid h0
      by_cases h1 : j = 1
      · subst h1
        have d0 := hT3.out.tb.cell 0
        have d1 := hT3.out.tb.cell 1
        have d2 := hT3.out.tb.cell 2
        simp only [List.getElem?_toArray, List.getElem?_cons_zero, List.getElem?_cons_succ] at d0 d1 d2
        go_wp2_with fail
        refine (l6Change_few R (P + 2000 + 4000000 + 1) 3073 t B d w3 (by omega) hT3.out.tg.le hT3.out.tg.top hT3.out.tg.len (by omega) hqt.out hT3.out.tg.at_ (fun b o e => by have := hT3.out.tg.fresh b o e; omega) hT3.out.rd).mono ?_
        rintro e w5 ⟨t', B', d', rfl, hqt', a1, a2, a3, a4, a5, a6, a7⟩
        replace hqt' := hid hqt'
        unfold Sy.val
        clear d0 d1 d2
        have hT5 := (hT3.out.call a7 a6 hR0).more (L' := 7000) (Nat.le_refl _) (by omega)
        have h4l := hT3.out.sb.lt
        have h5l := hT3.out.tb.lt
        have hG := GotSy.new (w := w0) (R := R) (L := 7000) (K := fun b => b = w1.heap.size ∨ b = w2.heap.size) a1 a2 (by omega) a4 a5 hT3.out.keep.size (by rintro b (e | e) <;> omega)
        have hT6 := hid ((hT5.setT hG hR0).more (P' := P + 9000000) (L' := 7000) (by omega) (Nat.le_refl _))
        have f0 := hT5.tb.frozen 0
        have f1 := hT5.tb.frozen 1
        have f2 := hT5.tb.frozen 2
        have d0 := hT5.tb.cell 0
        have d1 := hT5.tb.cell 1
        have d2 := hT5.tb.cell 2
        simp only [List.getElem?_toArray, List.getElem?_cons_zero, List.getElem?_cons_succ] at d0 d1 d2
        have h5l5 := hT5.tb.lt
        clear a4 a5 a6 a7 hT5 hG
        go_wp2_with fail
        go_meet
        exact ⟨t', B', d', hqt'.out, hT6.out⟩
      · have h1b : ((j : Int) == 1) = false := by simpa using h1
        replace h1 := hid h1
        go_wp2_with fail
        go_meet
        exact ⟨t, B, d, hqt.out, hT3.out.more (by omega) (by omega)⟩
  case rest =>
    refine hKC _ _ ?_
    clear hT3
    obtain ⟨t, B, d, hqt, hT3⟩ := hcut
    replace hqt := hid hqt
    replace hT3 := hid hT3
    go_wp2_with fail
    refine (pick_up R (P + 9000000) 24 wc (by omega) (by omega) hT3.out.rd).mono ?_
    rintro e w8 ⟨j2, rfl, hj20, hj21, hr8, hk8⟩
    have hT8 := hid (hT3.out.call hk8 hr8 hR0)
    clear hr8 hk8 hT3
    go_upto_if 32 with fail
    refine cut_here fun KD hKD => ?_
    go_cut [] (fun wx => ∃ (s t : Sy) (A B : Option Addr) (c d : Nat), (QW t ∨ DE t.es) ∧ TwoSt w0 wx R (P + 15000000) 8000 w1.heap.size w2.heap.size s t A B c d)
    case first =>
      by_cases h0 : j2 = 0
      · subst h0
        have d0 := hT8.out.sb.cell 0
        have d1 := hT8.out.sb.cell 1
        have d2 := hT8.out.sb.cell 2
        simp only [List.getElem?_toArray, List.getElem?_cons_zero, List.getElem?_cons_succ] at d0 d1 d2
        go_wp2_with fail
        refine (l2Wrong_few R (P + 9000001) 7000 s A c w8 (by omega) hT8.out.sg.le hT8.out.sg.top hT8.out.sg.len (by omega) hqs.out.wide hT8.out.sg.at_ hT8.out.rd).mono ?_
        rintro e w9 ⟨s1, A1, c1, rfl, hq1, a1, a2, a3, a4, a5, a6, a7⟩
        replace hq1 := hid hq1
        unfold Sy.val
        clear d0 d1 d2
        have hT9 := hid (hT8.out.call a7 a6 hR0)
        have hE9 := hid a4
        have hr9 := hid a6
        clear a4 a5 a6 a7
        go_wp2_with fail
        refine (l2Wrong_few R (P + 9000001 + 400000) 7001 s1 A1 c1 w9 (by omega) a1 a2 a3 (by omega) hq1.out hE9.out hr9.out).mono ?_
        rintro e w10 ⟨s2, A2, c2, rfl, hq2, e1, e2, e3, e4, e5, e6, e7⟩
        replace hq2 := hid hq2
        unfold Sy.val
        have hT10 := hid (hT9.out.call e7 e6 hR0)
        have hE10 := hid e4
        have hr10 := hid e6
        clear a1 a2 a3 e4 e5 e6 e7
        go_wp2_with fail
        refine (l2Wrong_few R (P + 9000001 + 400000 + 400000) 7002 s2 A2 c2 w10 (by omega) e1 e2 e3 (by omega) hq2.out hE10.out hr10.out).mono ?_
        rintro e w11 ⟨s3, A3, c3, rfl, hq3, a1, a2, a3, a4, a5, a6, a7⟩
        replace hq3 := hid hq3
        unfold Sy.val
        clear e1 e2 e3
        have h4l := hT10.out.sb.lt
        have h5l := hT10.out.tb.lt
        have hG := GotSy.new (w := w0) (R := R) (L := 8000) (K := fun b => b = w1.heap.size ∨ b = w2.heap.size) a1 a2 (by omega) a4 a5 hT10.out.keep.size (by rintro b (e | e) <;> omega)
        have hT5 := (hT10.out.call a7 a6 hR0).more (L' := 8000) (Nat.le_refl _) (by omega)
        have hT6 := hid ((hT5.setS hG hR0).more (P' := P + 15000000) (L' := 8000) (by omega) (Nat.le_refl _))
        have f0 := hT5.sb.frozen 0
        have f1 := hT5.sb.frozen 1
        have f2 := hT5.sb.frozen 2
        have d0 := hT5.sb.cell 0
        have d1 := hT5.sb.cell 1
        have d2 := hT5.sb.cell 2
        simp only [List.getElem?_toArray, List.getElem?_cons_zero, List.getElem?_cons_succ] at d0 d1 d2
        have h5l5 := hT5.sb.lt
        clear a4 a5 a6 a7 hT5 hG
        go_wp2_with fail
        go_meet
        exact ⟨_, _, _, _, _, _, .inl hqt.out.wide, hT6.out⟩
      · have h0b : ((j2 : Int) == 0) = false := by simpa using h0
        replace h0 := hid h0
        by_cases h1 : j2 = 1
        · subst h1
          have d0 := hT8.out.tb.cell 0
          have d1 := hT8.out.tb.cell 1
          have d2 := hT8.out.tb.cell 2
          simp only [List.getElem?_toArray, List.getElem?_cons_zero, List.getElem?_cons_succ] at d0 d1 d2
          go_wp2_with fail
          refine (l2Wrong_few R (P + 9000001) 7000 t B d w8 (by omega) hT8.out.tg.le hT8.out.tg.top hT8.out.tg.len (by omega) hqt.out.wide hT8.out.tg.at_ hT8.out.rd).mono ?_
          rintro e w9 ⟨s1, A1, c1, rfl, hq1, a1, a2, a3, a4, a5, a6, a7⟩
          replace hq1 := hid hq1
          unfold Sy.val
          clear d0 d1 d2
          have hT9 := hid (hT8.out.call a7 a6 hR0)
          have hE9 := hid a4
          have hr9 := hid a6
          clear a4 a5 a6 a7
          go_wp2_with fail
          refine (l2Wrong_few R (P + 9000001 + 400000) 7001 s1 A1 c1 w9 (by omega) a1 a2 a3 (by omega) hq1.out hE9.out hr9.out).mono ?_
          rintro e w10 ⟨s2, A2, c2, rfl, hq2, e1, e2, e3, e4, e5, e6, e7⟩
          replace hq2 := hid hq2
          unfold Sy.val
          have hT10 := hid (hT9.out.call e7 e6 hR0)
          have hE10 := hid e4
          have hr10 := hid e6
          clear a1 a2 a3 e4 e5 e6 e7
          go_wp2_with fail
          refine (l2Wrong_few R (P + 9000001 + 400000 + 400000) 7002 s2 A2 c2 w10 (by omega) e1 e2 e3 (by omega) hq2.out hE10.out hr10.out).mono ?_
          rintro e w11 ⟨s3, A3, c3, rfl, hq3, a1, a2, a3, a4, a5, a6, a7⟩
          replace hq3 := hid hq3
          unfold Sy.val
          clear e1 e2 e3
          have h4l := hT10.out.sb.lt
          have h5l := hT10.out.tb.lt
          have hG := GotSy.new (w := w0) (R := R) (L := 8000) (K := fun b => b = w1.heap.size ∨ b = w2.heap.size) a1 a2 (by omega) a4 a5 hT10.out.keep.size (by rintro b (e | e) <;> omega)
          have hT5 := (hT10.out.call a7 a6 hR0).more (L' := 8000) (Nat.le_refl _) (by omega)
          have hT6 := hid ((hT5.setT hG hR0).more (P' := P + 15000000) (L' := 8000) (by omega) (Nat.le_refl _))
          have f0 := hT5.tb.frozen 0
          have f1 := hT5.tb.frozen 1
          have f2 := hT5.tb.frozen 2
          have d0 := hT5.tb.cell 0
          have d1 := hT5.tb.cell 1
          have d2 := hT5.tb.cell 2
          simp only [List.getElem?_toArray, List.getElem?_cons_zero, List.getElem?_cons_succ] at d0 d1 d2
          have h5l5 := hT5.tb.lt
          clear a4 a5 a6 a7 hT5 hG
          go_wp2_with fail
          go_meet
          exact ⟨_, _, _, _, _, _, .inl hq3.out, hT6.out⟩
        · have h1b : ((j2 : Int) == 1) = false := by simpa using h1
          replace h1 := hid h1
          by_cases h2 : j2 = 2
          · subst h2
            go_wp2_with fail
            refine (l2Draw_few R (P + 9000001) w8 (by omega) hT8.out.rd).mono ?_
            rintro e w9 ⟨s1, A1, c1, rfl, hqd, a1, a2, a3, a4, a5, a6, a7⟩
            replace hqd := hid hqd
            unfold Sy.val
            have h4l := hT8.out.sb.lt
            have h5l := hT8.out.tb.lt
            have hG := GotSy.new (w := w0) (R := R) (L := 8000) (K := fun b => b = w1.heap.size ∨ b = w2.heap.size) a1 a2 (by omega) a4 a5 hT8.out.keep.size (by rintro b (e | e) <;> omega)
            have hT5 := (hT8.out.call a7 a6 hR0).more (L' := 8000) (Nat.le_refl _) (by omega)
            have hT6 := hid ((hT5.setT hG hR0).more (P' := P + 15000000) (L' := 8000) (by omega) (Nat.le_refl _))
            have f0 := hT5.tb.frozen 0
            have f1 := hT5.tb.frozen 1
            have f2 := hT5.tb.frozen 2
            have d0 := hT5.tb.cell 0
            have d1 := hT5.tb.cell 1
            have d2 := hT5.tb.cell 2
            simp only [List.getElem?_toArray, List.getElem?_cons_zero, List.getElem?_cons_succ] at d0 d1 d2
            have h5l5 := hT5.tb.lt
            clear a4 a5 a6 a7 hT5 hG
            go_wp2_with fail
            go_meet
            exact ⟨_, _, _, _, _, _, .inl hqd.out.wide, hT6.out⟩
          · have h2b : ((j2 : Int) == 2) = false := by simpa using h2
            replace h2 := hid h2
            by_cases h3 : j2 = 3
            · subst h3
              go_wp2_with fail
              refine (l2Big_few R (P + 9000001) w8 (by omega) hT8.out.rd).mono ?_
              rintro e w9 ⟨s1, A1, c1, rfl, ⟨a8, hde⟩, a1, a2, a3, a4, a5, a6, a7⟩
              replace hde := hid hde
              unfold Sy.val
              have hn4 := hT8.out.sb.lt
              have hn5 := hT8.out.tb.lt
              have hG := GotSy.new (w := w0) (R := R) (L := 8000) (K := fun b => b = w1.heap.size ∨ b = w2.heap.size) a1 a2 (by omega) a4 a5 hT8.out.keep.size (by rintro b (e | e) <;> omega)
              have hT5 := (hT8.out.call a7 a6 hR0).more (L' := 8000) (Nat.le_refl _) (by omega)
              have hT6 := hT5.setS hG hR0
              have f0 := hT5.sb.frozen 0
              have f1 := hT5.sb.frozen 1
              have f2 := hT5.sb.frozen 2
              have d0 := hT5.sb.cell 0
              have d1 := hT5.sb.cell 1
              have d2 := hT5.sb.cell 2
              simp only [List.getElem?_toArray, List.getElem?_cons_zero, List.getElem?_cons_succ] at d0 d1 d2
              have h5l5 := hT5.sb.lt
              obtain ⟨w10, hw10⟩ : ∃ w10, ((w9.setCell ⟨w1.heap.size, 0, none⟩ (.int .i64 s1.al)).setCell ⟨w1.heap.size, 1, none⟩ (.int .i64 s1.st)).setCell ⟨w1.heap.size, 2, none⟩ (.slice A1 s1.es.length c1) = w10 := ⟨_, rfl⟩
              rw [hw10] at hT6
              replace hT6 := hid hT6
              obtain ⟨n, hn⟩ : ∃ n, Hid (s1.es.length = n + 1) := ⟨s1.es.length - 1, hid (by omega)⟩
              clear a4 a5 a6 a7 hT5 hG
              go_upto_region 17 with fail
              clear d0 d1 d2 f0 f1 f2 hw10
              have c0 := hT6.out.sb.cell 0
              have c1' := hT6.out.sb.cell 1
              have c2 := hT6.out.sb.cell 2
              simp only [List.getElem?_toArray, List.getElem?_cons_zero, List.getElem?_cons_succ] at c0 c1' c2
              have q0 := GK.BI.cell c0
              have q1 := GK.BI.cell c1'
              have q2 := GK.BI.cell c2
              have hnl := hn.out
              have k1 : IntKind.i64.wrap ((s1.es.length : Int) - 1) = (n : Int) := by rw [IntWalk.i64_in _ (by omega)]; omega
              have k2 : (0 : Int) ≤ (n : Int) := by omega
              have k3 : (n : Int) ≤ (c1 : Int) := by omega
              have hlt : (s1.es.take n).length = n := by rw [List.length_take]; omega
              have hEt := hid (EdsAt.take hT6.out.sg.at_ n)
              obtain ⟨i0, hi, hz0, hz1, hz2⟩ := info_parts infoEd
              clear c0 c1' c2
              refine GK.wp_region 13 [13, 14] 200 (KeepB fun _ => False) (GK.BI w10) (fun _ _ _ => True) (by kernel_rfl) (by kernel_rfl) (GK.BI.way w10) (by decide) (Below.refl _ _).drew ?_
              simp only [List.take_succ_cons, List.take_zero]
              (repeat (refine GK.grow_quiet w10 (by rfl) (by rfl) ?_; intro K hK; go_big_quiet_op; go_big_quiet_on))
              refine GK.grow_new (K := fun _ => False) (by rfl) _ (fun b => .slice (some ⟨b, 0, none⟩) 0 0) 59 #[] (fun _ => by go_simp) rfl (fun _ _ o h => GK.BI.alloc o h) (fun _ _ h => GK.BI.size h) (fun _ h => h.elim) (fun b hb => ?_)
              simp only [Act.put, List.setIfInBounds_toArray, List.set_cons_zero, List.set_cons_succ]
              (repeat (refine GK.grow_quiet w10 (by rfl) (by rfl) ?_; intro K hK; go_big_quiet_op; go_big_quiet_on))
              refine GK.grow_copy (by rfl) _ _ 26 (by rfl) 59 i0 (.agg #[.int .i64 0, .int .i64 0, .int .i64 0]) 3 24 Tryd.underlying26 hi hz0 hz1 hz2 rfl b (by rfl) (fun w hf => ?_) A1 n c1 (edCells (s1.es.take n)) (by rfl) (by rw [edCells_len, hlt]) (fun hn => EdsAt.news hEt.out (by rw [hlt]; exact hn)) (edCells_one _) (by unfold maxLen; omega) (by omega) fun v hv => ?_
              · obtain ⟨b', e1, e2, e3⟩ := hf _ List.mem_cons_self (by kernel_rfl)
                cases e1
                exact ⟨e2, e3⟩
              obtain ⟨Av, cv, hve, -, -⟩ : ∃ Av cv, v = .slice Av n cv ∧ n ≤ cv ∧ cv ≤ 9223372036854775807 := by obtain ⟨_, _, hv⟩ := hv; exact own_slice hv
              subst hve
              clear hv
              simp only [Act.put, List.setIfInBounds_toArray, List.set_cons_zero, List.set_cons_succ]
              refine GK.grow_nil ?_
              intro w11 hw11 hf
              simp only [List.filterMap_cons, List.filterMap_nil, List.getElem?_cons_zero, List.getElem?_cons_succ]
              have hown := hf _ List.mem_cons_self
              replace hw11 : Below w10.heap.size w10 w11 := hw11
              clear hf q0 q1 q2
              have hown' : OwnEds w11 w10.heap.size (.slice Av n cv) (s1.es.take n) := by unfold OwnEds; rw [hlt]; exact hown
              obtain ⟨A2, c2, hve, e1, e2, e3, e4⟩ := OwnEds.read hown'
              rw [hlt] at hve e1
              cases hve
              have hT7 := (hT6.out.call (KeepB.of_below hw11) (hT6.out.rd.later hw11) hR0)
              have hlw : w1.heap.size < w10.heap.size ∧ w2.heap.size < w10.heap.size := ⟨hT6.out.sb.lt, hT6.out.tb.lt⟩
              have hG := GotSy.new (w := w0) (R := R) (L := 8000) (K := fun b => b = w1.heap.size ∨ b = w2.heap.size) (s := ⟨s1.al, s1.st, s1.es.take n⟩) (by show (s1.es.take n).length ≤ cv; rw [hlt]; exact e1) e2 (by show (s1.es.take n).length ≤ 8000; omega) e3 e4 hT6.out.keep.size (by rintro b (e | e) <;> omega)
              have hT8 := ((hT7.setT hG hR0).more (P' := P + 15000000) (L' := 8000) (by omega) (Nat.le_refl _))
              simp only [hlt] at hT8
              replace hT8 := hid hT8
              have f0 := hT7.tb.frozen 0
              have f1 := hT7.tb.frozen 1
              have f2 := hT7.tb.frozen 2
              have d0 := hT7.tb.cell 0
              have d1 := hT7.tb.cell 1
              have d2 := hT7.tb.cell 2
              simp only [List.getElem?_toArray, List.getElem?_cons_zero, List.getElem?_cons_succ] at d0 d1 d2
              have h5l5 := hT7.tb.lt
              clear hT7 hG hown hown'
              go_wp2_with fail
              go_meet
              exact ⟨_, _, _, _, _, _, .inr (hde.out.sublist (List.take_sublist _ _)), hT8.out⟩
            · have h3b : ((j2 : Int) == 3) = false := by simpa using h3
              replace h3 := hid h3
              go_wp2_with fail
              go_meet
              exact ⟨_, _, _, _, _, _, .inl hqt.out.wide, hT8.out.more (by omega) (by omega)⟩
    case rest =>
      refine hKD _ _ ?_
      clear hT8
      obtain ⟨s, t, A, B, c, d, hqf, hT⟩ := hcut
      replace hqf := hid hqf
      have hk := hT.keep
      have hb2 := hres2.out.keep hk (by omega)
      have hb3 := hres3.out.keep hk (by omega)
      have c0 := hT.sb.cell 0
      have c1 := hT.sb.cell 1
      have c2 := hT.sb.cell 2
      have d0 := hT.tb.cell 0
      have d1 := hT.tb.cell 1
      have d2 := hT.tb.cell 2
      have r0 := hb2.cell 0
      have r1 := hb2.cell 1
      have r2 := hb2.cell 2
      have r3 := hb3.cell 0
      have r4 := hb3.cell 1
      have r5 := hb3.cell 2
      have f0 := hb2.frozen 0
      have f1 := hb2.frozen 1
      have f2 := hb2.frozen 2
      have f3 := hb3.frozen 0
      have f4 := hb3.frozen 1
      have f5 := hb3.frozen 2
      simp only [List.getElem?_toArray, List.getElem?_cons_zero, List.getElem?_cons_succ] at c0 c1 c2 d0 d1 d2 r0 r1 r2 r3 r4 r5
      have s0 := hsz0.out
      have n1 : w1.heap.size ≠ w.heap.size := by omega
      have n2 : w1.heap.size ≠ w.heap.size + 1 := by omega
      have n3 : w2.heap.size ≠ w.heap.size := by omega
      have n4 : w2.heap.size ≠ w.heap.size + 1 := by omega
      have l1 := hT.sb.lt
      have l2 := hT.tb.lt
      have l3 := hb2.lt
      have l4 := hb3.lt
      have hfin := hid (hT.finQ hqf.out (hb0) (by omega : w.heap.size + 2 ≤ w0.heap.size) hR (P' := P + 20000000) (L' := 40000) (by omega) (by omega) (v1 := .int .i64 s.al) (v2 := .int .i64 s.st) (v3 := .slice A s.es.length c) (v4 := .int .i64 t.al) (v5 := .int .i64 t.st) (v6 := .slice B t.es.length d))
      clear hb2 hb3 hk hT
      go_wp2_with fail
      go_region
      go_wp2
      refine bodyPost_ret (v := .tuple #[.agg #[.int .i64 s.al, .int .i64 s.st, .slice A s.es.length c], .agg #[.int .i64 t.al, .int .i64 t.st, .slice B t.es.length d]]) (by simp [results, Tryd.results57, go_sem, r0, r1, r2, r3, r4, r5]) rfl ?_
      exact hfin.out.drew

end Go.Proofs.YtdkjnemakkppfaaDoor

/- The drawing kit once more: DrawFirstTraceOutside. -/
namespace Go.Proofs.YtdkjnemakkppfaaDoor
open Go.RowKit Go.BigFrame AG

def DrawPairQ (w : World) (e : Ending) (w' : World) : Prop := ∃ (s t : Sy) (A B : Option Addr) (c d : Nat), e = .returned (.tuple #[s.val A c, t.val B d]) ∧ (QW t ∨ DE t.es) ∧ s.es.length ≤ c ∧ c ≤ 9223372036854775807 ∧ t.es.length ≤ d ∧ d ≤ 9223372036854775807 ∧
  EdsAt w' w'.heap.size A s.es ∧ EdsAt w' w'.heap.size B t.es ∧ Below w.heap.size w w'
theorem DrawPairQ.of {w w1 wr : World} {R L : Nat} {K J : Nat → Prop} {s t : Sy} {A B : Option Addr} {c d : Nat} (hq : QW t ∨ DE t.es) (h1 : GotSy w1 wr R L K s A c) (h2 : GotSy w1 wr R L J t B d) (hz : w.heap.size + 2 ≤ w1.heap.size) (hb : Below w.heap.size w wr) (v1 v2 v3 v4 v5 v6 : Value) :
    DrawPairQ w (.returned (.tuple #[.agg #[.int .i64 s.al, .int .i64 s.st, .slice A s.es.length c], .agg #[.int .i64 t.al, .int .i64 t.st, .slice B t.es.length d]]))
      ((((((wr.setCell ⟨w.heap.size, 0, none⟩ v1).setCell ⟨w.heap.size, 1, none⟩ v2).setCell ⟨w.heap.size, 2, none⟩ v3).setCell ⟨w.heap.size + 1, 0, none⟩ v4).setCell ⟨w.heap.size + 1, 1, none⟩ v5).setCell ⟨w.heap.size + 1, 2, none⟩ v6) := by
  have hk : KeepB (fun b => b = w.heap.size ∨ b = w.heap.size + 1) wr ((((((wr.setCell ⟨w.heap.size, 0, none⟩ v1).setCell ⟨w.heap.size, 1, none⟩ v2).setCell ⟨w.heap.size, 2, none⟩ v3).setCell ⟨w.heap.size + 1, 0, none⟩ v4).setCell ⟨w.heap.size + 1, 1, none⟩ v5).setCell ⟨w.heap.size + 1, 2, none⟩ v6) :=
    ((((((KeepB.refl _ wr).setCell _ _ (by simp)).setCell _ _ (by simp)).setCell _ _ (by simp)).setCell _ _ (by simp)).setCell _ _ (by simp)).setCell _ _ (by simp)
  exact ⟨s, t, A, B, c, d, rfl, hq, h1.le, h1.top, h2.le, h2.top, (h1.keep hk fun b h1 h2 => by omega).at_, (h2.keep hk fun b h1 h2 => by omega).at_, KeepB.below hb hk hb.size (fun k hk => by omega)⟩

set_option maxRecDepth 100000 in
set_option maxHeartbeats 4000000 in
theorem drawFirstTraceOutside_few (A : Option Addr) (n c : Nat) (w : World) (hn : n ≤ c) (hc : c ≤ 9223372036854775807) (hx : CodeAt w A n) :
    Calls Tryd.prog 21 #[.slice A n c] w (DrawPairQ w) := by
  have hres2 := (Blk.new w 28 #[.int .i64 0, .int .i64 0, .slice none 0 0]).alloc (.cells #[.int .i64 0, .int .i64 0, .slice none 0 0] 28)
  have hres3 := Blk.new (w.alloc (.cells #[.int .i64 0, .int .i64 0, .slice none 0 0] 28)) 28 #[.int .i64 0, .int .i64 0, .slice none 0 0]
  have hb0 : Below w.heap.size w ((w.alloc (.cells #[.int .i64 0, .int .i64 0, .slice none 0 0] 28)).alloc (.cells #[.int .i64 0, .int .i64 0, .slice none 0 0] 28)) := ((Below.refl _ _).alloc (Nat.le_refl _) _).alloc (by simp) _
  have hz0 : ((w.alloc (.cells #[.int .i64 0, .int .i64 0, .slice none 0 0] 28)).alloc (.cells #[.int .i64 0, .int .i64 0, .slice none 0 0] 28)).heap.size = w.heap.size + 2 := by simp
  simp only [World.size_alloc] at hres3
  generalize hw0 : (w.alloc (.cells #[.int .i64 0, .int .i64 0, .slice none 0 0] 28)).alloc (.cells #[.int .i64 0, .int .i64 0, .slice none 0 0] 28) = w0 at hres2 hres3 hb0 hz0
  have hx0 : CodeAt w0 A n := fun h => by
    obtain ⟨b, o, h1, h2, h3⟩ := hx h
    refine ⟨b, o, h1, by omega, fun i hi => ?_⟩
    obtain ⟨y, h4, h5⟩ := h3 i hi
    exact ⟨y, h4, by rw [hb0.cell (by simpa using h2)]; exact h5⟩
  replace hres2 := hid hres2
  replace hres3 := hid hres3
  replace hz0 := hid hz0
  replace hx := hid hx
  replace hx0 := hid hx0
  go_enter Tryd.func21, Tryd.ntmps21
  go_wp2_with fail
  refine (l19Open_any A n c w0 hn hc hx0.out).mono ?_
  rintro e w1 ⟨R, rfl, hR, hr1, hb1⟩
  replace hr1 := hid hr1
  have hz1 := hb1.size
  clear hw0
  go_wp2_with fail
  refine (l6Pair_few R 0 w1 (by omega) hr1.out).mono ?_
  rintro e w2 ⟨s, t, A', B', c', d', rfl, hq, h1, h2, -, h4⟩
  replace hq := hid hq
  unfold Sy.val
  have hzz := hz0.out
  have hB2 : Below w0.heap.size w0 w2 := KeepB.below hb1 h4 hb1.size (fun k hk => by omega)
  have hfin := hid (DrawPairQ.of hq.out h1 h2 (by omega) (hb0.trans (hB2.mono (by omega))) (.int .i64 s.al) (.int .i64 s.st) (.slice A' s.es.length c') (.int .i64 t.al) (.int .i64 t.st) (.slice B' t.es.length d'))
  have hbl2 := hres2.out.below hB2 (by omega)
  have hbl3 := hres3.out.below hB2 (by omega)
  have d0 := hbl2.cell 0
  have d1 := hbl2.cell 1
  have d2 := hbl2.cell 2
  have e0 := hbl3.cell 0
  have e1 := hbl3.cell 1
  have e2 := hbl3.cell 2
  have f0 := hbl2.frozen 0
  have f1 := hbl2.frozen 1
  have f2 := hbl2.frozen 2
  have g0 := hbl3.frozen 0
  have g1 := hbl3.frozen 1
  have g2 := hbl3.frozen 2
  simp only [List.getElem?_toArray, List.getElem?_cons_zero, List.getElem?_cons_succ] at d0 d1 d2 e0 e1 e2
  have hl2 := hbl2.lt
  have hl3 := hbl3.lt
  clear h1 h2 h4 hbl2 hbl3 hB2 hb1
  go_wp2
  refine bodyPost_ret (v := .tuple #[.agg #[.int .i64 s.al, .int .i64 s.st, .slice A' s.es.length c'], .agg #[.int .i64 t.al, .int .i64 t.st, .slice B' t.es.length d']]) (by simp [results, Tryd.results21, go_sem, d0, d1, d2, e0, e1, e2]) rfl ?_
  exact hfin.out

end Go.Proofs.YtdkjnemakkppfaaDoor

/- Plain: the first trace outside of a system of few states, or of a deterministic one, is short; what it is a trace of. -/
namespace Go.Proofs.YtdkjnemakkppfaaDoor
open AG

theorem first_shortN {I : Nat → Prop} {L : List Nat} {nx : Nat → Nat → List Nat} {G : Nat → Prop} {N : Nat} {r : List Nat} {φ : Nat → Nat} (h : FirstW I L nx G r) (hN : ∀ q n, RW I L nx q n → φ n < N)
    (hi : ∀ q q' n n', RW I L nx q n → RW I L nx q' n' → φ n = φ n' → n = n') : r.length < N := by
  obtain ⟨⟨n, hn, hg⟩, hmin⟩ := h
  obtain ⟨ms, hml, hms⟩ := RW_path r n hn
  have hnd : ms.Nodup := by
    rw [List.nodup_iff_pairwise_ne, List.pairwise_iff_getElem]
    intro i j hi hj hij e
    have h1 := (hms i hi).2 (r.drop j) (by rw [e]; exact (hms j hj).1)
    have h2 := hmin _ _ h1 hg
    have h3 : (r.take i ++ r.drop j).length < r.length := by
      rw [List.length_append, List.length_take, List.length_drop]
      omega
    have := rle_len h2
    omega
  have hnd2 : (ms.map φ).Nodup := by
    rw [List.nodup_iff_pairwise_ne, List.pairwise_map]
    rw [List.nodup_iff_pairwise_ne, List.pairwise_iff_getElem] at hnd
    rw [List.pairwise_iff_getElem]
    intro i j h1 h2 hij e
    exact hnd i j h1 h2 hij (hi _ _ _ _ (hms i h1).1 (hms j h2).1 e)
  have := nodup_bound N (ms.map φ) hnd2 fun x hx => by
    obtain ⟨y, hy, rfl⟩ := List.mem_map.1 hx
    obtain ⟨i, hi, rfl⟩ := List.getElem_of_mem hy
    exact hN _ _ (hms i hi).1
  rw [List.length_map] at this
  omega
theorem cmp_get {s t : Sy} (h : cmpOk s t = true) : sysOk s = true ∧ sysOk t = true ∧ s.al = t.al := by
  unfold cmpOk at h
  simp only [Bool.and_eq_true, decide_eq_true_eq] at h
  exact ⟨h.1, h.2.1, h.2.2⟩
/-- As many words as sets of t and states of s at most. -/
theorem out_short {s t : Sy} (hc : cmpOk s t = true) {r : List Nat} (ho : IsOut s t (some r)) {M : Nat} {ψ : Nat → Nat} (h1 : ∀ r, ψ (setW t r) < M) (h2 : ∀ r r', ψ (setW t r) = ψ (setW t r') → setW t r = setW t r') : r.length < 16 * M := by
  obtain ⟨hs, ht, hal⟩ := cmp_get hc
  have hsi := sysOk_in hs
  have hti := sysOk_in ht
  have ht1 : 1 ≤ t.st := (sysOk_st ht).1
  unfold IsOut at ho
  rw [if_pos hc] at ho
  have hz : 0 < 2 ^ t.st.toNat := Nat.two_pow_pos _
  have hf : FirstW (fun n => n ∈ [1]) (letters s.al) (outNx s t (2 ^ t.st.toNat)) (fun n => decide (n % 2 ^ t.st.toNat = 0) = true) r :=
    ⟨(impl_hits hsi hti ht1 r).2 ho.1, fun q n hq hg => ho.2 q ((impl_hits hsi hti ht1 q).1 ⟨n, hq, hg⟩)⟩
  have hd : ∀ q r, (q * 2 ^ t.st.toNat + setW t r) / 2 ^ t.st.toNat = q ∧ (q * 2 ^ t.st.toNat + setW t r) % 2 ^ t.st.toNat = setW t r := fun q r => by
    have hlt := setW_small hti ht1 r
    constructor
    · rw [Nat.mul_comm, Nat.mul_add_div hz, Nat.div_eq_of_lt hlt]; omega
    · rw [Nat.mul_comm, Nat.mul_add_mod, Nat.mod_eq_of_lt hlt]
  have hq16 : ∀ q r, (setW s r).testBit q = true → q < 16 := fun q r h => testBit_lt (n := 16) (setW_lt s r) h
  refine first_shortN (φ := fun n => n / 2 ^ t.st.toNat * M + ψ (n % 2 ^ t.st.toNat)) hf (fun q n hn => ?_) (fun q q' n n' hn hn' e => ?_)
  · obtain ⟨-, p, hp, rfl⟩ := (impl_nodes hsi hti ht1 q n).1 hn
    rw [(hd p q).1, (hd p q).2]
    have a1 := hq16 p q hp
    have a2 := h1 q
    have a3 : p * M ≤ 15 * M := Nat.mul_le_mul_right M (by omega)
    omega
  · obtain ⟨-, p, hp, rfl⟩ := (impl_nodes hsi hti ht1 q n).1 hn
    obtain ⟨-, p', hp', rfl⟩ := (impl_nodes hsi hti ht1 q' n').1 hn'
    rw [(hd p q).1, (hd p q).2, (hd p' q').1, (hd p' q').2] at e
    have a1 := h1 q
    have a2 := h1 q'
    have e1 : p = p' := by
      have b1 : (p * M + ψ (setW t q)) / M = p := by rw [Nat.mul_comm, Nat.mul_add_div (by omega), Nat.div_eq_of_lt a1]; omega
      have b2 : (p' * M + ψ (setW t q')) / M = p' := by rw [Nat.mul_comm, Nat.mul_add_div (by omega), Nat.div_eq_of_lt a2]; omega
      rw [← b1, ← b2, e]
    subst e1
    rw [h2 q q' (by omega)]
theorem set_few {t : Sy} (ht : sysOk t = true) (hq : QW t) : ∀ r, setW t r < 1024
  | [] => by show 1 < _; omega
  | l :: r => by
    show setW t (l :: r) < 2 ^ 10
    refine Nat.lt_pow_two_of_testBit _ fun i hi => ?_
    rw [← Bool.not_eq_true]
    intro hb
    have hb' : (stepSet t (setW t r) (l : Int)).testBit i = true := hb
    unfold stepSet at hb'
    rw [bitsOf_testBit] at hb'
    obtain ⟨h16, e, he, _, _, hte⟩ := hb'
    have := hq e he
    have := sysOk_in ht e he
    omega
theorem de_det {t : Sy} (ht : sysOk t = true) (hd : DE t.es) : detB t = true := by
  refine (detB_iff t).2 ⟨ht, fun i h _ hh => ?_⟩
  have := (List.pairwise_iff_getElem.1 hd) i (i + 1) (by omega) h (by omega)
  rcases this with h1 | h1
  · exact h1 hh.2.1
  · exact h1 hh.2.2
theorem out_len {s t : Sy} (hc : cmpOk s t = true) (hq : QW t ∨ DE t.es) {r : List Nat} (ho : IsOut s t (some r)) : r.length ≤ 50000 := by
  obtain ⟨hs, ht, hal⟩ := cmp_get hc
  rcases hq with hq | hq
  · have := out_short hc ho (M := 1024) (ψ := fun x => x) (set_few ht hq) (fun _ _ h => h)
    omega
  · have hone := det_one (de_det ht hq)
    have := out_short hc ho (M := 17) (ψ := fun x => if x = 0 then 16 else x.log2) (fun r => by
      rcases hone r with h | ⟨q, h16, h, _⟩
      · rw [h]; decide
      · rw [h, if_neg (by have := Nat.two_pow_pos q; omega), Nat.log2_two_pow]
        omega) (fun r r' e => by
      rcases hone r with h | ⟨q, h16, h, _⟩ <;> rcases hone r' with h' | ⟨q', h16', h', _⟩
      · rw [h, h']
      · rw [h, h', if_pos rfl, if_neg (by have := Nat.two_pow_pos q'; omega), Nat.log2_two_pow] at e
        omega
      · rw [h, h', if_pos rfl, if_neg (by have := Nat.two_pow_pos q; omega), Nat.log2_two_pow] at e
        omega
      · rw [h, h', if_neg (by have := Nat.two_pow_pos q; omega), if_neg (by have := Nat.two_pow_pos q'; omega), Nat.log2_two_pow, Nat.log2_two_pow] at e
        rw [h, h', e])
    omega
theorem wordS_cut (l : Nat) (r : List Nat) : (wordS (l :: r)).extract 0 r.length = wordS r := by
  refine word_ext ?_
  rw [wordS_list, ByteArray.data_extract, Array.toList_extract, wordS_list]
  simp only [List.extract_eq_take_drop, List.drop_zero, Nat.sub_zero]
  rw [List.reverse_cons, List.map_append, List.take_left' (by simp)]
/-- What the first trace outside is a trace of. -/
theorem out_law {s t : Sy} (hc : cmpOk s t = true) (hq : QW t ∨ DE t.es) {r : List Nat} (ho : IsOut s t (some r)) :
    0 < (wordS r).size ∧ (wordS r).size ≤ 50000 ∧ hasTr s (wordS r) = true ∧ hasTr t (wordS r) = false ∧ hasTr t ((wordS r).extract 0 ((wordS r).size - 1)) = true := by
  obtain ⟨hs, ht, hal⟩ := cmp_get hc
  have hl := out_len hc hq ho
  unfold IsOut at ho
  rw [if_pos hc] at ho
  obtain ⟨⟨o1, o2, o3⟩, o4⟩ := ho
  have o1' : ∀ l ∈ r, l ∈ letters t.al := by rw [← hal]; exact o1
  match r, hl, o1, o2, o3, o4, o1' with
  | [], _, _, _, o3, _, _ => exact absurd (show (1 : Nat) = 0 from o3) (by decide)
  | l :: r, hl, o1, o2, o3, o4, o1' =>
    have hlr : r.length ≤ 50000 := by simp at hl; omega
    refine ⟨by rw [wordS_size]; simp, by rw [wordS_size]; exact hl, ?_, ?_, ?_⟩
    · rw [hasTr_wordS hs o1 hl]; exact decide_eq_true o2
    · rw [hasTr_wordS ht o1' hl]; exact decide_eq_false fun h => h o3
    · rw [wordS_size, show (l :: r).length - 1 = r.length from rfl, wordS_cut, hasTr_wordS ht (fun x hx => o1' x (List.mem_cons_of_mem _ hx)) hlr]
      refine decide_eq_true fun h0 => ?_
      have h3 : setW s r ≠ 0 := fun e => o2 (by show stepSet s (setW s r) _ = 0; rw [e, stepSet_zero])
      have := rle_len (o4 r ⟨fun x hx => o1 x (List.mem_cons_of_mem _ hx), h3, h0⟩)
      simp at this
      omega

end Go.Proofs.YtdkjnemakkppfaaDoor

/- The program's FirstTraceOutside: its closures. -/
namespace Go.Proofs.YtdkjnemakkppfaaDoor
open Go.RowKit Go.BigFrame AG

theorem tmod_nat (a b : Nat) : Int.tmod (a : Int) (b : Int) = ((a % b : Nat) : Int) := by
  rw [Int.tmod_eq_emod_of_nonneg (by omega)]
  exact (Int.natCast_emod a b).symm
theorem tdiv_nat (a b : Nat) : Int.tdiv (a : Int) (b : Int) = ((a / b : Nat) : Int) := by
  rw [Int.tdiv_eq_ediv_of_nonneg (by omega)]
  exact (Int.natCast_ediv a b).symm

set_option maxRecDepth 100000 in
set_option maxHeartbeats 400000 in
theorem outGoal_any (q z b : Nat) (w : World) (hz : 0 < z) (hz' : z ≤ 65536) (hq : q ≤ 1048576) (hc : w.cell? ⟨b, 0, none⟩ = some (.int .i64 (z : Nat))) :
    Calls Tryd.prog 64 #[.int .i64 (q : Nat), .pointer (some ⟨b, 0, none⟩)] w fun e w' => e = .returned (.bool (decide (q % z = 0))) ∧ Below w.heap.size w w' := by
  go_enter Tryd.func64, Tryd.ntmps64
  go_wp2
  go_ret
  exact ⟨ret_bool (by rw [Bool.eq_iff_iff]; simp; omega), Below.refl _ _⟩

set_option maxRecDepth 100000 in
set_option maxHeartbeats 4000000 in
theorem outNext_any (s t : Sy) (z bN bZ bM gn gm base q l : Nat) (v : Value) (ns : List Nat) (w : World) (hz : 0 < z) (hz' : z ≤ 65536) (hq : q < 16 * z) (hl : l < 6) (hT : Tab w) (hN : w.cell? ⟨bN, 0, none⟩ = some (.pointer (some ⟨gn, 0, none⟩))) (hZ : w.cell? ⟨bZ, 0, none⟩ = some (.int .i64 (z : Nat)))
    (hM : w.cell? ⟨bM, 0, none⟩ = some (.pointer (some ⟨gm, 0, none⟩))) (hm : MvAt w w.heap.size gm (mv s)) (hn : MvAt w w.heap.size gn (mv t)) (hns : ns.length ≤ 4294967296) (hb : base ≤ w.heap.size) (hbZ : bZ < base) (hown : w.ownsRow base 3 1 v ns.length (natVals ns)) :
    Calls Tryd.prog 60 #[.int .i64 (q : Nat), .int .i64 (l : Nat), v, .pointer (some ⟨bN, 0, none⟩), .pointer (some ⟨bZ, 0, none⟩), .pointer (some ⟨bM, 0, none⟩)] w fun e w' =>
      ∃ v', e = .returned v' ∧ w'.ownsRow base 3 1 v' (ns ++ outNx s t z q l).length (natVals (ns ++ outNx s t z q l)) ∧ KeepB (fun b => v.ownBlock = some b) w w' := by
  obtain ⟨i0, hi, hz0, hz1, hz2⟩ := info_parts infoInt
  obtain ⟨X, hX⟩ : ∃ X, X = unionOf (mv t) (q % z) l := ⟨_, rfl⟩
  have hXl : X < 65536 := by rw [hX]; exact unionOf_lt _ _ _
  obtain ⟨M, hM'⟩ : ∃ M, M = mv s (q / z) l := ⟨_, rfl⟩
  have hMl : M < 65536 := by rw [hM']; exact mv_lt _ _ _
  have hrem := tmod_nat q z
  have hquo := tdiv_nat q z
  have hqz : q / z < 16 := Nat.div_lt_of_lt_mul (by rw [Nat.mul_comm]; exact hq)
  have hqm : q % z < 65536 := Nat.lt_of_lt_of_le (Nat.mod_lt q hz) hz'
  have y0 : ∀ x, (Fam w.heap.size w x).cell? ⟨bN, 0, none⟩ = some (.pointer (some ⟨gn, 0, none⟩)) := fun x => by rw [(Fam.below _ _ x).cell (World.block_lt_of_cell? _ _ hN)]; exact hN
  have y1 : ∀ x, (Fam w.heap.size w x).cell? ⟨bZ, 0, none⟩ = some (.int .i64 (z : Nat)) := fun x => by rw [(Fam.below _ _ x).cell (World.block_lt_of_cell? _ _ hZ)]; exact hZ
  have hzn : ((z : Int) == 0) = false := by simp; omega
  have hzi : (0 : Int) < (z : Int) := by omega
  have hqi : (0 : Int) ≤ (q : Int) := by omega
  replace hX := hid hX
  replace hM' := hid hM'
  replace hm := hid hm
  replace hn := hid hn
  replace hT := hid hT
  replace hown := hid hown
  go_enter Tryd.func60, Tryd.ntmps60
  go_wp2_with fail
  refine wp_region_grow 6 w.heap.size w (fun _ u _ => u = .int .i64 (X : Nat)) (by kernel_rfl) (by kernel_rfl) (Nat.le_refl _) (Below.refl _ _) ?_
  simp only [List.take_succ_cons, List.take_zero, List.drop_succ_cons, List.drop_zero]
  (repeat (refine grow_quiet (by rfl) (by rfl) (by rfl) ?_; intro K hK; go_big_quiet_op; go_big_quiet_on))
  refine grow_val (.int .i64 (X : Nat)) (by rfl) (by rfl) rfl (fun wq hbq _ => ?_) ?_
  · go_simp
    refine ⟨rfl, ?_⟩
    rw [← Int.natCast_emod, hX.out]
    exact step_any (mv t) gn (q % z) l wq hl (fun p => mv_lt t p l) hqm (hT.out.later hbq) (hn.out.later hbq)
  simp only [Act.put, List.setIfInBounds_toArray, List.set_cons_zero, List.set_cons_succ]
  refine grow_nil ?_
  intro w1 hb1 hf
  clear hf y0 y1
  have hzb1 := hb1.size
  have y1 : ∀ x, (Fam w1.heap.size w1 x).cell? ⟨bZ, 0, none⟩ = some (.int .i64 (z : Nat)) := fun x => by rw [((hb1.trans ((Fam.below w1.heap.size w1 x).mono hb1.size))).cell (World.block_lt_of_cell? _ _ hZ)]; exact hZ
  have y2 : ∀ x, (Fam w1.heap.size w1 x).cell? ⟨bM, 0, none⟩ = some (.pointer (some ⟨gm, 0, none⟩)) := fun x => by rw [((hb1.trans ((Fam.below w1.heap.size w1 x).mono hb1.size))).cell (World.block_lt_of_cell? _ _ hM)]; exact hM
  have hqn : ((q : Int) / (z : Int)).toNat = q / z := by rw [← Int.natCast_ediv]; exact Int.toNat_natCast _
  have hq16 : ((q : Int) / (z : Int)) < 16 := by rw [← Int.natCast_ediv]; omega
  have hq0 : (0 : Int) ≤ ((q : Int) / (z : Int)) := by rw [← Int.natCast_ediv]; omega
  have hl0 : (0 : Int) ≤ (l : Int) := by omega
  have hl6 : (l : Int) < 6 := by omega
  have y3 : ∀ x, (Fam w1.heap.size w1 x).cell? ⟨gm, q / z * 6 + l, none⟩ = some (.int .i64 (M : Nat)) := fun x => by
    rw [hM'.out]
    exact (hm.out.keep (hb1.trans ((Fam.below w1.heap.size w1 x).mono hb1.size))).2 _ _ hqz hl
  go_wp2_with fail
  refine wp_region_grow 12 w1.heap.size w1 (fun _ u w' => OwnNats w' w.heap.size u (memL M)) (by kernel_rfl) (by kernel_rfl) (Nat.le_refl _) (Below.refl _ _) ?_
  simp only [List.take_succ_cons, List.take_zero, List.drop_succ_cons, List.drop_zero]
  (repeat (refine grow_quiet (by rfl) (by rfl) (by rfl) ?_; intro K hK; go_big_quiet_op; go_big_quiet_on))
  refine grow_call (by rfl) (by rfl) (fun u w w' hb h => ?_) (fun wq hbq _ => ?_) fun u hu => ?_
  · exact own_keep h (.of_below (K := fun _ => False) hb) fun _ _ h => h
  · go_simp
    refine ⟨rfl, (members_any M hMl wq ((hT.out.later hb1).later hbq)).mono ?_⟩
    rintro e w3 ⟨v, rfl, ho, hb3⟩
    exact ⟨v, rfl, hb3, own_base ho (by have := hbq.size; omega)⟩
  obtain ⟨w3', -, ho3'⟩ := hu
  obtain ⟨A3, c3, rfl, hc3, hc3'⟩ := own_slice ho3'
  clear ho3'
  simp only [Act.put, List.setIfInBounds_toArray, List.set_cons_zero, List.set_cons_succ]
  (repeat (refine grow_quiet (by rfl) (by rfl) (by rfl) ?_; intro K hK; go_big_quiet_op; go_big_quiet_on))
  refine grow_nil ?_
  intro w3 hb3 hf
  have ho3 := hf _ List.mem_cons_self
  clear hf
  replace ho3 := hid ho3
  clear y1 y2 y3
  have hB3 : Below w.heap.size w w3 := hb1.trans (hb3.mono hzb1)
  have hz3 := hB3.size
  go_wp2_with fail
  go_loopw [2, 30] (fun ov jv wr => ∃ j : Nat, jv = .int .i64 j ∧ j ≤ (memL M).length ∧ wr.ownsRow base 3 1 ov (ns ++ ((memL M).take j).map fun p => p * z + X).length (natVals (ns ++ ((memL M).take j).map fun p => p * z + X)) ∧ KeepB (fun b => v.ownBlock = some b) w3 wr ∧ (∀ g, ov.ownBlock = some g → v.ownBlock = some g ∨ w3.heap.size ≤ g)) (fun _ jv _ => (memL M).length - (intOf jv).toNat)
  case atStart => exact ⟨0, rfl, by omega, by simpa using own_keep hown.out (.of_below (K := fun _ => False) hB3) (fun _ _ h => h), KeepB.refl _ _, fun g h => .inl h⟩
  case round =>
    obtain ⟨j, rfl, hj, hown2, hkp, hat⟩ := hrel
    have hml := memL_len M
    have hvb : ∀ g, v.ownBlock = some g → base ≤ g ∧ g < w.heap.size := hown.out.lt
    by_cases hjl : j < (memL M).length
    · have hr3 := own_keep ho3.out hkp fun g hg e => by
        have h1 := (hvb g e).2
        have h2 := own_block ho3.out g hg
        omega
      obtain ⟨g3, d3, hve, -, -, -, -, hcell⟩ := own_shape hr3 (by omega)
      injection hve with hv1 hv2 hv3
      subst hv1
      subst hv3
      have n0 := hcell j _ (show ((memL M).map fun (n : Nat) => Value.int .i64 (n : Int))[j]? = some (.int .i64 ((memL M)[j] : Nat)) from by simp [hjl])
      have hp16 := (memL_mem.1 (List.getElem_mem hjl)).1
      have hbZ' := World.block_lt_of_cell? _ _ hZ
      have z0 : wr.cell? ⟨bZ, 0, none⟩ = some (.int .i64 (z : Nat)) := by
        rw [World.cell?_of_block (w := w3) (hkp.block bZ (by have := hB3.size; simp at hbZ'; omega) fun e => by have := (hvb _ e).1; omega), hB3.cell hbZ']
        exact hZ
      have htk : ((memL M).take (j + 1)).map (fun p => p * z + X) = ((memL M).take j).map (fun p => p * z + X) ++ [(memL M)[j] * z + X] := by
        rw [List.take_succ_eq_append_getElem hjl, List.map_append]
        rfl
      obtain ⟨p, hp⟩ : ∃ p, p = (memL M)[j] := ⟨_, rfl⟩
      rw [← hp] at n0 hp16 htk
      have hpz : p * z ≤ 1048576 := Nat.le_trans (Nat.mul_le_mul (show p ≤ 16 by omega) hz') (by omega)
      have hpi : ((p : Int) * (z : Int)) = ((p * z : Nat) : Int) := (Int.natCast_mul p z).symm
      have hpz1 : ((p : Int) * (z : Int)) ≤ 1048576 := by rw [hpi]; omega
      have hpz2 : (0 : Int) ≤ ((p : Int) * (z : Int)) := by rw [hpi]; omega
      have hval : Hid (((p : Int) * (z : Int) + (X : Int)) = ((p * z + X : Nat) : Int)) := hid (by rw [hpi]; omega)
      have hlen : (ns ++ ((memL M).take j).map fun p => p * z + X).length ≤ 4294967312 := by simp; omega
      replace hpi := hid hpi
      replace hp := hid hp
      replace htk := hid htk
      replace hr3 := hid hr3
      replace hcell := hid hcell
      replace hown2 := hid hown2
      replace hat := hid hat
      replace hvb := hid hvb
      have hzr := hkp.size
      go_wp2_with (at_builtin; refine wpList_append_own_at _ rfl _ _ 48 rfl base 3 i0 (.int .i64 0) 1 8 Tryd.underlying48 hi hz0 hz1 hz2 rfl (by decide) _ _ _ rfl (hown2.out.alloc _) ⟨wr.heap.size, 0, none⟩ 1 1 [.int .i64 ((p : Int) * (z : Int) + (X : Int))] rfl rfl (cell_one_new _ _ _) (by intro u hu; simp at hu; subst hu; rfl) (by unfold maxLen; omega) (by omega) (by simp; omega) ?_; intro v5 w5 hO5 hg5 _ hat5; replace hO5 := hid hO5; replace hg5 := hid hg5; replace hat5 := hid hat5)
      go_roundw
      case rel =>
        refine ⟨j + 1, by go_num, by omega, ?_, (hkp.alloc _).grown hg5.out fun g hg hlt => ?_, fun g hg => ?_⟩
        · have h5 := hO5.out
          rw [hval.out] at h5
          rw [htk.out, ← List.append_assoc, List.length_append]
          unfold natVals at h5 ⊢
          rw [List.map_append]
          exact h5
        · rcases hat.out g hg with h | h
          · exact h
          · omega
        · rcases hat5.out with h | h
          · exact hat.out g (h.symm.trans hg)
          · rw [h] at hg
            injection hg with hg
            right
            simp at hg
            omega
      case measure => simp [intOf]; omega
    · have htk : (memL M).take j = memL M := List.take_of_length_le (by omega)
      rw [htk] at hown2
      have hfin : Hid (((memL M).map fun p => p * z + X) = outNx s t z q l) := hid (by unfold outNx; rw [← hX.out, ← hM'.out])
      rw [hfin.out] at hown2
      replace hown2 := hid hown2
      replace hat := hid hat
      replace hvb := hid hvb
      replace htk := hid htk
      have hkf : Hid (KeepB (fun b => v.ownBlock = some b) w wr) := hid ((KeepB.of_below hB3).trans hkp)
      go_wp2
      go_ret
      exact ⟨_, rfl, hown2.out, hkf.out⟩

end Go.Proofs.YtdkjnemakkppfaaDoor
