/- The drawing kit: l2Big, l2Any. -/
import Derived.Test.YtbomhfbiaedbiaaDoorD11
namespace Go.Proofs.YtbomhfbiaedbiaaDoor
open Go.RowKit Go.BigFrame AG

theorem RndSt.call {w wr w1 : World} {R P gs : Nat} {al st : Int} {lv : Value} {ls : List Nat} {N N' : Nat} {v : Value} {es : List Ed} (h : RndSt w wr R P gs al st lv ls N v es) (hR : R < w.heap.size) (hgs : w.heap.size < gs) (hN : N ≤ N') (hr : RdUp w1 R (P + N')) (hk : KeepB (fun b => b = R) wr w1) :
    RndSt w w1 R P gs al st lv ls N' v es :=
  ⟨by have := h.len; omega, h.blk.keep hk (by omega), own_keep h.own hk (fun g hg => by have := (h.own.lt g hg).1; omega), own_keep h.list hk (fun g hg => by have := (World.ownsRow.lt h.list g hg).1; omega), hr, h.keep.trans hk, h.res.keep hk (by omega)⟩
theorem RndSt.more {w wr : World} {R P gs : Nat} {al st : Int} {lv : Value} {ls : List Nat} {N N' : Nat} {v : Value} {es : List Ed} (h : RndSt w wr R P gs al st lv ls N v es) (hN : N ≤ N') : RndSt w wr R P gs al st lv ls N' v es :=
  ⟨by have := h.len; omega, h.blk, h.own, h.list, h.rd.more (by omega), h.keep, h.res⟩
theorem RndSt.post2 {w wr : World} {R P P' L : Nat} {al st : Int} {lv : Value} {ls : List Nat} {N : Nat} {A : Option Addr} {c : Nat} {es : List Ed} (h : RndSt w wr R P (w.heap.size + 1) al st lv ls N (.slice A es.length c) es) (hL : es.length ≤ L) (hP : P + N ≤ P') (hR : R < w.heap.size) (v1 v2 v3 : Value) :
    SyUp R P' L w (.returned (.agg #[.int .i64 al, .int .i64 st, .slice A es.length c])) (((wr.setCell ⟨w.heap.size, 0, none⟩ v1).setCell ⟨w.heap.size, 1, none⟩ v2).setCell ⟨w.heap.size, 2, none⟩ v3) := by
  obtain ⟨A', c', hv, h1, h2, h3, h4⟩ := h.own.read
  cases hv
  exact SyUp.ret (w := w) (s := ⟨al, st, es⟩) h1 h2 hL h3 (fun b o hA => by have := h4 b o hA; omega) (h.rd.more hP) h.keep hR v1 v2 v3

/-- As SyUp, with an edge at least. -/
def SyUp1 (R P L : Nat) (w : World) (e : Ending) (w' : World) : Prop :=
  ∃ (s : Sy) (A : Option Addr) (c : Nat), e = .returned (s.val A c) ∧ s.es.length ≤ c ∧ c ≤ 9223372036854775807 ∧ s.es.length ≤ L ∧ EdsAt w' w'.heap.size A s.es ∧ FreshA w.heap.size A ∧ RdUp w' R P ∧ KeepB (fun b => b = R) w w' ∧ 1 ≤ s.es.length
theorem SyUp1.of {R P L : Nat} {w w' : World} {s : Sy} {A : Option Addr} {c : Nat} (h : SyUp R P L w (.returned (s.val A c)) w') (hn : 1 ≤ s.es.length) : SyUp1 R P L w (.returned (s.val A c)) w' := by
  obtain ⟨s', A', c', e, a1, a2, a3, a4, a5, a6, a7⟩ := h
  have hl : s'.es.length = s.es.length := by
    unfold Sy.val at e
    injection e with e
    injection e with e
    simp at e
    exact e.2.2.2.1.symm
  exact ⟨s', A', c', e, a1, a2, a3, a4, a5, a6, a7, by omega⟩

set_option maxRecDepth 100000 in
set_option maxHeartbeats 8000000 in
theorem l2Big_up (R P : Nat) (w : World) (hP : P + 5000000 ≤ 1125899906842624) (hr : RdUp w R P) :
    Calls Tryd.prog 124 #[.pointer (some ⟨R, 0, none⟩)] w (SyUp1 R (P + 2000000) 32 w) := by
  obtain ⟨i0, hi, hz0, hz1, hz2⟩ := info_parts infoEd
  have hR := hr.lt
  have H0 : RndSt w ((w.alloc (.cells #[.int .i64 0, .int .i64 0, .slice none 0 0] 36)).alloc (.cells #[.int .i64 3, .int .i64 16, .slice none 0 0] 36)) R P (w.heap.size + 1) 3 16 (.slice none 0 0) [] 0 (.slice none 0 0) [] :=
    RndSt.begin hr (World.ownsRow_nil _ _ _ _) (Below.refl _ _)
  replace hr := hid hr
  replace H0 := hid H0
  go_enter Tryd.func124, Tryd.ntmps124
  go_wp2_with fail
  go_loopw [4] (fun i wr => ∃ (k : Nat) (v : Value) (es : List Ed), i = .int .i64 k ∧ k ≤ 16 ∧ k ≤ es.length ∧ es.length ≤ k * 2 ∧ RndSt w wr R P (w.heap.size + 1) 3 16 (.slice none 0 0) [] (k * 110000) v es) (fun i _ => 16 - (intOf i).toNat)
  case atStart => exact ⟨0, _, [], rfl, by omega, by simp, by simp, H0.out⟩
  case round =>
    obtain ⟨k, v, es, rfl, hk, hk1, hk2, hs⟩ := hrel
    obtain ⟨Av, cv, hve, -, -⟩ := own_slice hs.own
    subst hve
    have c0 := hs.blk.cell 0
    have c1 := hs.blk.cell 1
    have c2 := hs.blk.cell 2
    simp only [List.getElem?_toArray, List.getElem?_cons_zero, List.getElem?_cons_succ] at c0 c1 c2
    have hbl := hs.blk.lt
    by_cases hlt : k < 16
    · obtain ⟨d, hd⟩ : ∃ d : Nat, d = (k + 1) % 16 := ⟨_, rfl⟩
      have e1 : Int.tmod ((k : Int) + 1) 16 = (d : Int) := by rw [Int.tmod_eq_emod_of_nonneg (by omega)]; omega
      have e2 : IntKind.i64.wrap ((k : Int) + 1) = (k : Int) + 1 := IntWalk.i64_in _ (by omega)
      have q1 := GK.BI.cell c1
      have q2 := GK.BI.cell c2
      have ag : (Value.slice Av es.length cv).ownBlock ≠ some (w.heap.size + 1) := fun e => by have := (hs.own.lt _ e).1; omega
      replace hs := hid hs
      replace hd := hid hd
      go_wp2_with fail
      clear c0 c1 c2
      refine GK.wp_region 10 [10, 11, 12] 200 (KeepB fun _ => False) (GK.BI wr) (fun _ _ _ => True) (by kernel_rfl) (by kernel_rfl) (GK.BI.way wr) (by decide) (Below.refl _ _).drew ?_
      simp only [List.take_succ_cons, List.take_zero]
      (repeat (refine GK.grow_quiet wr (by rfl) (by rfl) ?_; intro K hK; go_big_quiet_op; go_big_quiet_on))
      refine GK.grow_new (K := fun _ => False) (by rfl) _ (fun b => .slice (some ⟨b, 0, none⟩) 1 1) 76 #[.int .i64 (k : Nat), .int .i64 0, .int .i64 (d : Nat)] (fun _ => by go_simp) rfl (fun _ _ o h => GK.BI.alloc o h) (fun _ _ h => GK.BI.size h) (fun _ h => h.elim) (fun b hb => ?_)
      simp only [Act.put, List.setIfInBounds_toArray, List.set_cons_zero, List.set_cons_succ]
      refine GK.grow_nil ?_
      intro w4 hw4 hf
      obtain ⟨g', hge, hge2, hblk⟩ := hf _ List.mem_cons_self
      cases hge
      clear hf q1 q2 e1 e2
      replace hw4 : Below wr.heap.size wr w4 := hw4
      simp only [List.filterMap_cons, List.filterMap_nil, List.getElem?_cons_zero, List.getElem?_cons_succ]
      have hS4 := hid (hs.out.later hw4)
      have z4 := hw4.size
      refine wpList_append_own_at _ (by rfl) _ _ 34 (by rfl) (w.heap.size + 1 + 1) 76 i0 (.agg #[.int .i64 0, .int .i64 0, .int .i64 0]) 3 24 Tryd.underlying34 hi hz0 hz1 hz2 rfl (by decide) _ es.length (edCells es) (by rfl) hS4.out.own ⟨b, 0, none⟩ 1 1 [.int .i64 (k : Nat), .int .i64 0, .int .i64 (d : Nat)] (by rfl) (by rfl) (World.news_of_block hblk) ?c1 ?c3 ?c4 ?c5 ?_
      case c1 => simp [Value.oneCell']
      case c3 => unfold maxLen; omega
      case c4 => omega
      case c5 => omega
      intro v5 w5 hown5 hgrow hnil5 hat5
      obtain ⟨A5, c5, hv5, -, -⟩ := own_slice hown5
      subst hv5
      have c2' : w5.cell? ⟨w.heap.size + 1, 2, none⟩ = some (.slice Av es.length cv) := by rw [hgrow.cell_far _ (by simp; omega) (Ne.symm ag)]; exact hS4.out.blk.cell 2
      have f2' : w5.frozen? ⟨w.heap.size + 1, 2, none⟩ = false := by rw [hgrow.frozen_far _ (by simp; omega) (Ne.symm ag)]; exact hS4.out.blk.frozen 2
      have hl5 : (es ++ [(⟨k, 0, d⟩ : Ed)]).length = es.length + 1 := by simp
      have h6 := (hS4.out.more (by omega : k * 110000 ≤ k * 110000 + 1000)).add' (x := ⟨k, 0, d⟩) (by have := hS4.out.len; omega) hR (by omega) hown5 hgrow
      obtain ⟨w6, hw6⟩ : ∃ w6, w5.setCell ⟨w.heap.size + 1, 2, none⟩ (.slice A5 (es.length + 1) c5) = w6 := ⟨_, rfl⟩
      rw [hw6] at h6
      rw [← hl5] at h6
      replace h6 := hid h6
      clear hown5 hgrow hnil5 hat5
      have ag6 : (Value.slice A5 (es.length + 1) c5).ownBlock ≠ some (w.heap.size + 1) := fun e => by have h61 := h6.out.own; unfold OwnEds at h61; rw [hl5] at h61; have := (World.ownsRow.lt h61 _ e).1; omega
      go_wp2_with fail
      refine (pick_up R (P + (k * 110000 + 1000)) 3 w6 (by omega) (by omega) h6.out.rd).mono ?_
      rintro e w7 ⟨j, rfl, hj0, hj1, hr7, hk7⟩
      have h7 := hid (h6.out.call (N' := k * 110000 + 2000) hR (by omega) (by omega) (hr7.more (by omega)) hk7)
      have hbl7 := h7.out.blk.lt
      clear hr7 hk7 hj1 hw6 c2' f2'
      by_cases hj : j = 0
      · subst hj
        have c1 := h7.out.blk.cell 1
        have c2 := h7.out.blk.cell 2
        simp only [List.getElem?_toArray, List.getElem?_cons_zero, List.getElem?_cons_succ] at c1 c2
        rw [hl5] at c2
        have q1 := RI.cell h7.out.rd c1 (by omega)
        have q2 := RI.cell h7.out.rd c2 (by omega)
        go_wp2_with fail
        clear c1 c2
        refine GK.wp_region 9 [9, 10, 11] 200 (KeepB fun b => b = R) (RI w7 R (P + (k * 110000 + 2000))) (fun _ u _ => ∃ x : Int, u = .int .i64 x) (by kernel_rfl) (by kernel_rfl) (RI.way w7 R _) (by decide) (RI.drew h7.out.rd) ?_
        simp only [List.take_succ_cons, List.take_zero]
        (repeat (refine GK.grow_quiet w7 (by rfl) (by rfl) ?_; intro K hK; go_big_quiet_op; go_big_quiet_on))
        refine GK.grow_call (by rfl) (fun u w w' _ h => h) (fun m wq hm hbq hf => ?_) ?_
        · go_simp
          exact ⟨rfl, (pick_up R (P + (k * 110000 + 2000) + m * 10000) 16 wq (by omega) (by omega) hbq.2).mono fun e w' ⟨x, h2, _, _, h3, h4⟩ => ⟨_, h2, RI.call hbq h4 h3 (by omega), x, rfl⟩⟩
        rintro u ⟨_, _, _, x, rfl⟩
        simp only [Act.put, List.setIfInBounds_toArray, List.set_cons_zero, List.set_cons_succ]
        (repeat (refine GK.grow_quiet w7 (by rfl) (by rfl) ?_; intro K hK; go_big_quiet_op; go_big_quiet_on))
        refine GK.grow_new (K := fun b => b = R) (by rfl) w7.heap.size (fun b => .slice (some ⟨b, 0, none⟩) 1 1) 76 #[.int .i64 (k : Nat), .int .i64 1, .int .i64 x] (fun _ => by go_simp) rfl (fun _ _ o h => RI.alloc o h) (fun _ _ h => RI.size h) (fun k hk => by omega) (fun b hb => ?_)
        simp only [Act.put, List.setIfInBounds_toArray, List.set_cons_zero, List.set_cons_succ]
        refine GK.grow_nil ?_
        intro w8 hw8 hf
        obtain ⟨g', hge, hge2, hblk8⟩ := hf _ List.mem_cons_self
        cases hge
        clear hf q1 q2
        simp only [List.filterMap_cons, List.filterMap_nil, List.getElem?_cons_zero, List.getElem?_cons_succ]
        have h8 := h7.out.call (N' := k * 110000 + 92000) hR (by omega) (by omega) (hw8.2.more (by omega)) hw8.1
        have hbl8 := h8.blk.lt
        have hown8 := h8.own
        unfold OwnEds at hown8
        rw [hl5] at hown8
        replace h8 := hid h8
        refine wpList_append_own_at _ (by rfl) _ _ 34 (by rfl) (w.heap.size + 1 + 1) 76 i0 (.agg #[.int .i64 0, .int .i64 0, .int .i64 0]) 3 24 Tryd.underlying34 hi hz0 hz1 hz2 rfl (by decide) _ (es.length + 1) (edCells (es ++ [⟨k, 0, d⟩])) (by rfl) hown8 ⟨b, 0, none⟩ 1 1 [.int .i64 (k : Nat), .int .i64 1, .int .i64 x] (by rfl) (by rfl) (World.news_of_block hblk8) ?c1 ?c3 ?c4 ?c5 ?_
        case c1 => simp [Value.oneCell']
        case c3 => unfold maxLen; omega
        case c4 => omega
        case c5 => omega
        intro v9 w9 hown9 hgrow hnil9 hat9
        obtain ⟨A9, c9, hv9, -, -⟩ := own_slice hown9
        subst hv9
        have c2' : w9.cell? ⟨w.heap.size + 1, 2, none⟩ = some (.slice A5 (es.length + 1) c5) := by rw [hgrow.cell_far _ (by simp; omega) (Ne.symm ag6), ← hl5]; exact h8.out.blk.cell 2
        have f2' : w9.frozen? ⟨w.heap.size + 1, 2, none⟩ = false := by rw [hgrow.frozen_far _ (by simp; omega) (Ne.symm ag6)]; exact h8.out.blk.frozen 2
        have hown9' := hown9
        rw [show es.length + 1 + 1 = (es ++ [(⟨k, 0, d⟩ : Ed)]).length + 1 from by rw [hl5]] at hown9'
        have hfin := (h8.out.more (by omega : k * 110000 + 92000 ≤ (k + 1) * 110000)).add' (x := ⟨k, 1, x⟩) (by have := h8.out.len; omega) hR (by omega) hown9' (by rw [hl5]; exact hgrow)
        rw [hl5] at hfin
        replace hfin := hid hfin
        clear hown9 hown9' hown8 hgrow hnil9 hat9
        go_wp2_with fail
        go_roundw
        case rel => exact ⟨k + 1, _, _, by go_num, by omega, by simp; omega, by simp; omega, hfin.out⟩
        case measure => simp [intOf]; omega
      · have hjb : ((j : Int) == 0) = false := by simpa using hj
        replace hj := hid hj
        have hfin := hid (h7.out.more (by omega : k * 110000 + 2000 ≤ (k + 1) * 110000))
        rw [hl5] at hfin
        go_wp2_with fail
        go_roundw
        case rel => exact ⟨k + 1, _, _, by go_num, by omega, by simp; omega, by simp; omega, hfin.out⟩
        case measure => simp [intOf]; omega
    · obtain rfl : k = 16 := by omega
      have d0 := hs.res.cell 0
      have d1 := hs.res.cell 1
      have d2 := hs.res.cell 2
      have f0 := hs.res.frozen 0
      have f1 := hs.res.frozen 1
      have f2 := hs.res.frozen 2
      simp only [List.getElem?_toArray, List.getElem?_cons_zero, List.getElem?_cons_succ] at d0 d1 d2
      have hfin := hid (SyUp1.of (s := ⟨3, 16, es⟩) (A := Av) (c := cv) (hs.post2 (P' := P + 2000000) (L := 32) (by omega) (by omega) hR (.int .i64 3) (.int .i64 16) (.slice Av es.length cv)) (by show 1 ≤ es.length; omega))
      have hvl := hs.res.lt
      replace hs := hid hs
      go_wp2
      refine bodyPost_ret (v := .agg #[.int .i64 3, .int .i64 16, .slice Av es.length cv]) (by simp [results, Tryd.results124, go_sem, d0, d1, d2]) rfl ?_
      exact hfin.out

end Go.Proofs.YtbomhfbiaedbiaaDoor
