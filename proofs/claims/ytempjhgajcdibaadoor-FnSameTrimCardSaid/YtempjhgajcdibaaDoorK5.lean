/- Lemmas, part 5: several texts in one. -/
import Derived.Test.YtempjhgajcdibaaDoorK4
import Derived.Test.YtempjhgajcdibaaDoorK2
import Derived.Deep.DeepCutAuto
set_option linter.unusedSimpArgs false
set_option linter.unusedVariables false

/- The drawing kit: l2Big, l2Any. -/
namespace Go.Proofs.YtempjhgajcdibaaDoor
open Go.RowKit Go.BigFrame AG

theorem EdsAt.keepR {w w' : World} {R : Nat} {A : Option Addr} {es : List Ed} (h : EdsAt w w.heap.size A es) (hk : KeepB (fun b => b = R) w w') (hf : FreshA (R + 1) A) : EdsAt w' w'.heap.size A es := fun hl => by
  obtain ⟨b, o, hA, hb, hE⟩ := h hl
  have h1 := hf b o hA
  refine ⟨b, o, hA, Nat.lt_of_lt_of_le hb hk.size, fun i hi => ?_⟩
  rw [KeepB.cell_ hk hb (by show ¬ b = R; omega), KeepB.cell_ hk hb (by show ¬ b = R; omega), KeepB.cell_ hk hb (by show ¬ b = R; omega)]
  exact hE i hi

theorem RndSt.call {w wr w1 : World} {R P gs : Nat} {al st : Int} {lv : Value} {ls : List Nat} {N N' : Nat} {v : Value} {es : List Ed} (h : RndSt w wr R P gs al st lv ls N v es) (hR : R < w.heap.size) (hgs : w.heap.size < gs) (hN : N ≤ N') (hr : RdUp w1 R (P + N')) (hk : KeepB (fun b => b = R) wr w1) :
    RndSt w w1 R P gs al st lv ls N' v es :=
  ⟨by have := h.len; omega, h.blk.keep hk (by omega), own_keep h.own hk (fun g hg => by have := (h.own.lt g hg).1; omega), own_keep h.list hk (fun g hg => by have := (World.ownsRow.lt h.list g hg).1; omega), hr, h.keep.trans hk, h.res.keep hk (by omega)⟩
theorem RndSt.more {w wr : World} {R P gs : Nat} {al st : Int} {lv : Value} {ls : List Nat} {N N' : Nat} {v : Value} {es : List Ed} (h : RndSt w wr R P gs al st lv ls N v es) (hN : N ≤ N') : RndSt w wr R P gs al st lv ls N' v es :=
  ⟨by have := h.len; omega, h.blk, h.own, h.list, h.rd.more (by omega), h.keep, h.res⟩
theorem RndSt.post2 {w wr : World} {R P P' L : Nat} {al st : Int} {lv : Value} {ls : List Nat} {N : Nat} {A : Option Addr} {c : Nat} {es : List Ed} (h : RndSt w wr R P (w.heap.size + 1) al st lv ls N (.slice A es.length c) es) (hL : es.length ≤ L) (hP : P + N ≤ P') (hR : R < w.heap.size) (v1 v2 v3 : Value) :
    SyUp R P' L w (.returned (.agg #[.int .i64 al, .int .i64 st, .slice A es.length c])) (((wr.setCell ⟨w.heap.size, 0, none⟩ v1).setCell ⟨w.heap.size, 1, none⟩ v2).setCell ⟨w.heap.size, 2, none⟩ v3) := by
  obtain ⟨A', c', hv, h1, h2, h3, h4⟩ := h.own.read
  cases hv
  exact SyUp.ret (w := w) (s := ⟨al, st, es⟩) h1 h2 hL h3 (fun b o hA => by have := h4 b o hA; omega) (h.rd.more hP) h.keep hR v1 v2 v3

/-- As SyUp, with an edge at least. -/
def SyUp1 (R P L : Nat) (w : World) (e : Ending) (w' : World) : Prop :=
  ∃ (s : Sy) (A : Option Addr) (c : Nat), e = .returned (s.val A c) ∧ s.es.length ≤ c ∧ c ≤ 9223372036854775807 ∧ s.es.length ≤ L ∧ EdsAt w' w'.heap.size A s.es ∧ FreshA w.heap.size A ∧ RdUp w' R P ∧ KeepB (fun b => b = R) w w' ∧ 1 ≤ s.es.length
theorem SyUp1.of {R P L : Nat} {w w' : World} {s : Sy} {A : Option Addr} {c : Nat} (h : SyUp R P L w (.returned (s.val A c)) w') (hn : 1 ≤ s.es.length) : SyUp1 R P L w (.returned (s.val A c)) w' := by
  obtain ⟨s', A', c', e, a1, a2, a3, a4, a5, a6, a7⟩ := h
  have hl : s'.es.length = s.es.length := by
    unfold Sy.val at e
    injection e with e
    injection e with e
    simp at e
    exact e.2.2.2.1.symm
  exact ⟨s', A', c', e, a1, a2, a3, a4, a5, a6, a7, by omega⟩

set_option maxRecDepth 100000 in
set_option maxHeartbeats 8000000 in
theorem l2Big_up (R P : Nat) (w : World) (hP : P + 5000000 ≤ 1125899906842624) (hr : RdUp w R P) :
    Calls Tryd.prog 117 #[.pointer (some ⟨R, 0, none⟩)] w (SyUp1 R (P + 2000000) 32 w) := by
  obtain ⟨i0, hi, hz0, hz1, hz2⟩ := info_parts infoEd
  have hR := hr.lt
  have H0 : RndSt w ((w.alloc (.cells #[.int .i64 0, .int .i64 0, .slice none 0 0] 25)).alloc (.cells #[.int .i64 3, .int .i64 16, .slice none 0 0] 25)) R P (w.heap.size + 1) 3 16 (.slice none 0 0) [] 0 (.slice none 0 0) [] :=
    RndSt.begin hr (World.ownsRow_nil _ _ _ _) (Below.refl _ _)
  replace hr := hid hr
  replace H0 := hid H0
  go_enter Tryd.func117, Tryd.ntmps117
  go_wp2_with fail
  go_loopw [4] (fun i wr => ∃ (k : Nat) (v : Value) (es : List Ed), i = .int .i64 k ∧ k ≤ 16 ∧ k ≤ es.length ∧ es.length ≤ k * 2 ∧ RndSt w wr R P (w.heap.size + 1) 3 16 (.slice none 0 0) [] (k * 110000) v es) (fun i _ => 16 - (intOf i).toNat)
  case atStart => exact ⟨0, _, [], rfl, by omega, by simp, by simp, H0.out⟩
  case round =>
    obtain ⟨k, v, es, rfl, hk, hk1, hk2, hs⟩ := hrel
    obtain ⟨Av, cv, hve, -, -⟩ := own_slice hs.own
    subst hve
    have c0 := hs.blk.cell 0
    have c1 := hs.blk.cell 1
    have c2 := hs.blk.cell 2
    simp only [List.getElem?_toArray, List.getElem?_cons_zero, List.getElem?_cons_succ] at c0 c1 c2
    have hbl := hs.blk.lt
    by_cases hlt : k < 16
    · obtain ⟨d, hd⟩ : ∃ d : Nat, d = (k + 1) % 16 := ⟨_, rfl⟩
      have e1 : Int.tmod ((k : Int) + 1) 16 = (d : Int) := by rw [Int.tmod_eq_emod_of_nonneg (by omega)]; omega
      have e2 : IntKind.i64.wrap ((k : Int) + 1) = (k : Int) + 1 := IntWalk.i64_in _ (by omega)
      have q1 := GK.BI.cell c1
      have q2 := GK.BI.cell c2
      have ag : (Value.slice Av es.length cv).ownBlock ≠ some (w.heap.size + 1) := fun e => by have := (hs.own.lt _ e).1; omega
      replace hs := hid hs
      replace hd := hid hd
      go_wp2_with fail
      clear c0 c1 c2
      refine GK.wp_region 10 [10, 11, 12] 200 (KeepB fun _ => False) (GK.BI wr) (fun _ _ _ => True) (by kernel_rfl) (by kernel_rfl) (GK.BI.way wr) (by decide) (Below.refl _ _).drew ?_
      simp only [List.take_succ_cons, List.take_zero]
      (repeat (refine GK.grow_quiet wr (by rfl) (by rfl) ?_; intro K hK; go_big_quiet_op; go_big_quiet_on))
      refine GK.grow_new (K := fun _ => False) (by rfl) _ (fun b => .slice (some ⟨b, 0, none⟩) 1 1) 64 #[.int .i64 (k : Nat), .int .i64 0, .int .i64 (d : Nat)] (fun _ => by go_simp) rfl (fun _ _ o h => GK.BI.alloc o h) (fun _ _ h => GK.BI.size h) (fun _ h => h.elim) (fun b hb => ?_)
      simp only [Act.put, List.setIfInBounds_toArray, List.set_cons_zero, List.set_cons_succ]
      refine GK.grow_nil ?_
      intro w4 hw4 hf
      obtain ⟨g', hge, hge2, hblk⟩ := hf _ List.mem_cons_self
      cases hge
      clear hf q1 q2 e1 e2
      replace hw4 : Below wr.heap.size wr w4 := hw4
      simp only [List.filterMap_cons, List.filterMap_nil, List.getElem?_cons_zero, List.getElem?_cons_succ]
      have hS4 := hid (hs.out.later hw4)
      have z4 := hw4.size
      refine wpList_append_own_at _ (by rfl) _ _ 23 (by rfl) (w.heap.size + 1 + 1) 64 i0 (.agg #[.int .i64 0, .int .i64 0, .int .i64 0]) 3 24 Tryd.underlying23 hi hz0 hz1 hz2 rfl (by decide) _ es.length (edCells es) (by rfl) hS4.out.own ⟨b, 0, none⟩ 1 1 [.int .i64 (k : Nat), .int .i64 0, .int .i64 (d : Nat)] (by rfl) (by rfl) (World.news_of_block hblk) ?c1 ?c3 ?c4 ?c5 ?_
      case c1 => simp [Value.oneCell']
      case c3 => unfold maxLen; omega
      case c4 => omega
      case c5 => omega
      intro v5 w5 hown5 hgrow hnil5 hat5
      obtain ⟨A5, c5, hv5, -, -⟩ := own_slice hown5
      subst hv5
      have c2' : w5.cell? ⟨w.heap.size + 1, 2, none⟩ = some (.slice Av es.length cv) := by rw [hgrow.cell_far _ (by simp; omega) (Ne.symm ag)]; exact hS4.out.blk.cell 2
      have f2' : w5.frozen? ⟨w.heap.size + 1, 2, none⟩ = false := by rw [hgrow.frozen_far _ (by simp; omega) (Ne.symm ag)]; exact hS4.out.blk.frozen 2
      have hl5 : (es ++ [(⟨k, 0, d⟩ : Ed)]).length = es.length + 1 := by simp
      have h6 := (hS4.out.more (by omega : k * 110000 ≤ k * 110000 + 1000)).add' (x := ⟨k, 0, d⟩) (by have := hS4.out.len; omega) hR (by omega) hown5 hgrow
      obtain ⟨w6, hw6⟩ : ∃ w6, w5.setCell ⟨w.heap.size + 1, 2, none⟩ (.slice A5 (es.length + 1) c5) = w6 := ⟨_, rfl⟩
      rw [hw6] at h6
      rw [← hl5] at h6
      replace h6 := hid h6
      clear hown5 hgrow hnil5 hat5
      have ag6 : (Value.slice A5 (es.length + 1) c5).ownBlock ≠ some (w.heap.size + 1) := fun e => by have h61 := h6.out.own; unfold OwnEds at h61; rw [hl5] at h61; have := (World.ownsRow.lt h61 _ e).1; omega
      go_wp2_with fail
      refine (pick_up R (P + (k * 110000 + 1000)) 3 w6 (by omega) (by omega) h6.out.rd).mono ?_
      rintro e w7 ⟨j, rfl, hj0, hj1, hr7, hk7⟩
      have h7 := hid (h6.out.call (N' := k * 110000 + 2000) hR (by omega) (by omega) (hr7.more (by omega)) hk7)
      have hbl7 := h7.out.blk.lt
      clear hr7 hk7 hj1 hw6 c2' f2'
      by_cases hj : j = 0
      · subst hj
        have c1 := h7.out.blk.cell 1
        have c2 := h7.out.blk.cell 2
        simp only [List.getElem?_toArray, List.getElem?_cons_zero, List.getElem?_cons_succ] at c1 c2
        rw [hl5] at c2
        have q1 := RI.cell h7.out.rd c1 (by omega)
        have q2 := RI.cell h7.out.rd c2 (by omega)
        go_wp2_with fail
        clear c1 c2
        refine GK.wp_region 9 [9, 10, 11] 200 (KeepB fun b => b = R) (RI w7 R (P + (k * 110000 + 2000))) (fun _ u _ => ∃ x : Int, u = .int .i64 x) (by kernel_rfl) (by kernel_rfl) (RI.way w7 R _) (by decide) (RI.drew h7.out.rd) ?_
        simp only [List.take_succ_cons, List.take_zero]
        (repeat (refine GK.grow_quiet w7 (by rfl) (by rfl) ?_; intro K hK; go_big_quiet_op; go_big_quiet_on))
        refine GK.grow_call (by rfl) (fun u w w' _ h => h) (fun m wq hm hbq hf => ?_) ?_
        · go_simp
          exact ⟨rfl, (pick_up R (P + (k * 110000 + 2000) + m * 10000) 16 wq (by omega) (by omega) hbq.2).mono fun e w' ⟨x, h2, _, _, h3, h4⟩ => ⟨_, h2, RI.call hbq h4 h3 (by omega), x, rfl⟩⟩
        rintro u ⟨_, _, _, x, rfl⟩
        simp only [Act.put, List.setIfInBounds_toArray, List.set_cons_zero, List.set_cons_succ]
        (repeat (refine GK.grow_quiet w7 (by rfl) (by rfl) ?_; intro K hK; go_big_quiet_op; go_big_quiet_on))
        refine GK.grow_new (K := fun b => b = R) (by rfl) w7.heap.size (fun b => .slice (some ⟨b, 0, none⟩) 1 1) 64 #[.int .i64 (k : Nat), .int .i64 1, .int .i64 x] (fun _ => by go_simp) rfl (fun _ _ o h => RI.alloc o h) (fun _ _ h => RI.size h) (fun k hk => by omega) (fun b hb => ?_)
        simp only [Act.put, List.setIfInBounds_toArray, List.set_cons_zero, List.set_cons_succ]
        refine GK.grow_nil ?_
        intro w8 hw8 hf
        obtain ⟨g', hge, hge2, hblk8⟩ := hf _ List.mem_cons_self
        cases hge
        clear hf q1 q2
        simp only [List.filterMap_cons, List.filterMap_nil, List.getElem?_cons_zero, List.getElem?_cons_succ]
        have h8 := h7.out.call (N' := k * 110000 + 92000) hR (by omega) (by omega) (hw8.2.more (by omega)) hw8.1
        have hbl8 := h8.blk.lt
        have hown8 := h8.own
        unfold OwnEds at hown8
        rw [hl5] at hown8
        replace h8 := hid h8
        refine wpList_append_own_at _ (by rfl) _ _ 23 (by rfl) (w.heap.size + 1 + 1) 64 i0 (.agg #[.int .i64 0, .int .i64 0, .int .i64 0]) 3 24 Tryd.underlying23 hi hz0 hz1 hz2 rfl (by decide) _ (es.length + 1) (edCells (es ++ [⟨k, 0, d⟩])) (by rfl) hown8 ⟨b, 0, none⟩ 1 1 [.int .i64 (k : Nat), .int .i64 1, .int .i64 x] (by rfl) (by rfl) (World.news_of_block hblk8) ?c1 ?c3 ?c4 ?c5 ?_
        case c1 => simp [Value.oneCell']
        case c3 => unfold maxLen; omega
        case c4 => omega
        case c5 => omega
        intro v9 w9 hown9 hgrow hnil9 hat9
        obtain ⟨A9, c9, hv9, -, -⟩ := own_slice hown9
        subst hv9
        have c2' : w9.cell? ⟨w.heap.size + 1, 2, none⟩ = some (.slice A5 (es.length + 1) c5) := by rw [hgrow.cell_far _ (by simp; omega) (Ne.symm ag6), ← hl5]; exact h8.out.blk.cell 2
        have f2' : w9.frozen? ⟨w.heap.size + 1, 2, none⟩ = false := by rw [hgrow.frozen_far _ (by simp; omega) (Ne.symm ag6)]; exact h8.out.blk.frozen 2
        have hown9' := hown9
        rw [show es.length + 1 + 1 = (es ++ [(⟨k, 0, d⟩ : Ed)]).length + 1 from by rw [hl5]] at hown9'
        have hfin := (h8.out.more (by omega : k * 110000 + 92000 ≤ (k + 1) * 110000)).add' (x := ⟨k, 1, x⟩) (by have := h8.out.len; omega) hR (by omega) hown9' (by rw [hl5]; exact hgrow)
        rw [hl5] at hfin
        replace hfin := hid hfin
        clear hown9 hown9' hown8 hgrow hnil9 hat9
        go_wp2_with fail
        go_roundw
        case rel => exact ⟨k + 1, _, _, by go_num, by omega, by simp; omega, by simp; omega, hfin.out⟩
        case measure => simp [intOf]; omega
      · have hjb : ((j : Int) == 0) = false := by simpa using hj
        replace hj := hid hj
        have hfin := hid (h7.out.more (by omega : k * 110000 + 2000 ≤ (k + 1) * 110000))
        rw [hl5] at hfin
        go_wp2_with fail
        go_roundw
        case rel => exact ⟨k + 1, _, _, by go_num, by omega, by simp; omega, by simp; omega, hfin.out⟩
        case measure => simp [intOf]; omega
    · obtain rfl : k = 16 := by omega
      have d0 := hs.res.cell 0
      have d1 := hs.res.cell 1
      have d2 := hs.res.cell 2
      have f0 := hs.res.frozen 0
      have f1 := hs.res.frozen 1
      have f2 := hs.res.frozen 2
      simp only [List.getElem?_toArray, List.getElem?_cons_zero, List.getElem?_cons_succ] at d0 d1 d2
      have hfin := hid (SyUp1.of (s := ⟨3, 16, es⟩) (A := Av) (c := cv) (hs.post2 (P' := P + 2000000) (L := 32) (by omega) (by omega) hR (.int .i64 3) (.int .i64 16) (.slice Av es.length cv)) (by show 1 ≤ es.length; omega))
      have hvl := hs.res.lt
      replace hs := hid hs
      go_wp2
      refine bodyPost_ret (v := .agg #[.int .i64 3, .int .i64 16, .slice Av es.length cv]) (by simp [results, Tryd.results117, go_sem, d0, d1, d2]) rfl ?_
      exact hfin.out

end Go.Proofs.YtempjhgajcdibaaDoor

/- The drawing kit's pick, whatever number is asked for. -/
namespace Go.Proofs.YtempjhgajcdibaaDoor
open Go.RowKit Go.BigFrame AG

set_option maxRecDepth 100000 in
set_option maxHeartbeats 2000000 in
theorem pick_anyF (R : Nat) (A : Option Addr) (n c p : Nat) (m : Int) (w : World) (hp : p < 1125899906842624) (hr : RdAt w R A n c p) :
    Calls Tryd.prog 62 #[.pointer (some ⟨R, 0, none⟩), .int .i64 m] w fun e w' => ∃ k : Int, e = .returned (.int .i64 k) ∧ 0 ≤ k ∧ (k < m ∨ k = 0) ∧ RdAt w' R A n c (p + 1) ∧ KeepB (fun b => b = R) w w' := by
  have hblk := hr.blk
  have hR := hblk.lt
  have e0 : w.cell? ⟨R, 0, none⟩ = some (.slice A n c) := by rw [hblk.cell]; rfl
  have e1 : w.cell? ⟨R, 1, none⟩ = some (.int .i64 (p : Int)) := by rw [hblk.cell]; rfl
  have hfr : w.frozen? ⟨R, 1, none⟩ = false := hblk.frozen 1
  have hlen := hr.len
  have hcap := hr.cap
  have htop := hr.top
  replace hr := hid hr
  replace hblk := hid hblk
  have hst := hid (hr.out.step (v := .int .i64 ((p : Int) + 1)) hp rfl)
  by_cases hm1 : m < 1
  · go_enter Tryd.func62, Tryd.ntmps62
    go_wp2
    go_ret
    exact ⟨0, rfl, by omega, .inr rfl, hst.out.1, hst.out.2⟩
  · have hm0 : (m == 0) = false := by simp; omega
    by_cases hn : n = 0
    · subst hn
      go_enter Tryd.func62, Tryd.ntmps62
      go_wp2
      go_ret
      exact ⟨0, rfl, by omega, .inr rfl, hst.out.1, hst.out.2⟩
    · obtain ⟨b, o, rfl, hltR, hx⟩ := hr.out.bytes (by omega)
      have hne : b ≠ R := by omega
      have hlt : b < w.heap.size := by omega
      have hn0 : ((n : Int) == 0) = false := by simp; omega
      by_cases hpn : p < n
      · obtain ⟨x, hx1, hx2⟩ := hx p hpn
        have hmod : 0 ≤ (x : Int) % m ∧ (x : Int) % m < m := ⟨Int.emod_nonneg _ (by omega), Int.emod_lt_of_pos _ (by omega)⟩
        replace hx := hid hx
        replace hmod := hid hmod
        have hneA : (⟨R, 1, none⟩ : Addr) ≠ ⟨b, o + p, none⟩ := addr_ne hne
        go_enter Tryd.func62, Tryd.ntmps62
        go_wp2
        go_ret
        exact ⟨_, rfl, hmod.out.1, .inl hmod.out.2, hst.out.1, hst.out.2⟩
      · have hw1 := hst.out.1
        obtain ⟨i1, hi1⟩ : ∃ i1, i1 = p % n := ⟨_, rfl⟩
        obtain ⟨i2, hi2⟩ : ∃ i2, i2 = (p * 7 + 3) % n := ⟨_, rfl⟩
        obtain ⟨q, hq⟩ : ∃ q, q = p / n := ⟨_, rfl⟩
        have hi1n : i1 < n := by rw [hi1]; exact Nat.mod_lt _ (by omega)
        have hi2n : i2 < n := by rw [hi2]; exact Nat.mod_lt _ (by omega)
        have hqp : q ≤ p := by rw [hq]; exact Nat.div_le_self _ _
        have k1 : (p : Int) % (n : Int) = (i1 : Int) := by rw [hi1]; omega
        have k2 : ((p : Int) * 7 + 3) % (n : Int) = (i2 : Int) := by rw [hi2]; simp
        have k3 : (p : Int) / (n : Int) = (q : Int) := by rw [hq]; omega
        obtain ⟨b', o', hA', -, hx'⟩ := hw1.bytes (by omega)
        injection hA' with hA'
        injection hA' with hA1 hA2
        subst hA1 hA2
        obtain ⟨x1, hx1, hy1⟩ := hx' i1 hi1n
        obtain ⟨x2, hx2, hy2⟩ := hx' i2 hi2n
        have hblk1 := hw1.blk
        replace hx := hid hx
        replace hx' := hid hx'
        replace hi1 := hid hi1
        replace hi2 := hid hi2
        replace hq := hid hq
        obtain ⟨w1, hw1e⟩ : ∃ w1, w1 = w.setCell ⟨R, 1, none⟩ (.int .i64 ((p : Int) + 1)) := ⟨_, rfl⟩
        rw [← hw1e] at hy1 hy2 hblk1
        have g0 : ∀ y, (Fam w1.heap.size w1 y).cell? ⟨R, 0, none⟩ = some (.slice (some ⟨b, o, none⟩) n c) := fun y => by rw [(Fam.below _ _ y).cell (by simpa using hblk1.lt), hblk1.cell]; rfl
        have hb1 : b < w1.heap.size := by rw [hw1e]; simpa using hlt
        have g1 : ∀ y, (Fam w1.heap.size w1 y).cell? ⟨b, o + i1, none⟩ = some (.int .u8 (x1 : Int)) := fun y => by rw [(Fam.below _ _ y).cell (by simpa using hb1)]; exact hy1
        have g2 : ∀ y, (Fam w1.heap.size w1 y).cell? ⟨b, o + i2, none⟩ = some (.int .u8 (x2 : Int)) := fun y => by rw [(Fam.below _ _ y).cell (by simpa using hb1)]; exact hy2
        replace hw1e := hid hw1e
        replace hw1 := hid hw1
        replace hblk1 := hid hblk1
        clear hy1 hy2
        have hxor := hid (xor_nonneg (a := (x1 : Int) * 131 + x2 * 1117 + p * 29 + q * 53) (b := ((x1 : Int) * 131 + x2 * 1117 + p * 29 + q * 53) / 64) (by omega) (by omega))
        go_enter Tryd.func62, Tryd.ntmps62
        go_wp2_with fail
        rw [← hw1e.out]
        refine wp_region_fam w1.heap.size w1 (by kernel_rfl) (by kernel_rfl) (Below.refl _ _) ?_
        (repeat (go_big_quiet_step (fail)))
        refine wpQuiet_nil ?_
        intro w2 hw2
        replace hw2 := Fam.out hw2
        go_wp2
        go_ret
        have hw1' : RdAt w1 R (some ⟨b, o, none⟩) n c (p + 1) := by rw [hw1e.out]; exact hw1.out
        have hk1 : KeepB (fun b => b = R) w w1 := by rw [hw1e.out]; exact hst.out.2
        exact ⟨_, rfl, Int.tmod_nonneg _ hxor.out.1, .inl (Int.tmod_lt_of_pos _ (by omega)), hw1'.later hw2, hk1.trans (KeepB.of_below hw2)⟩

theorem pick_upF (R P : Nat) (m : Int) (w : World) (hP : P < 1125899906842624) (h : RdUp w R P) :
    Calls Tryd.prog 62 #[.pointer (some ⟨R, 0, none⟩), .int .i64 m] w (PickPost R P m w) := by
  obtain ⟨A, n, c, p, h1, h2⟩ := h
  exact (pick_anyF R A n c p m w (by omega) h2).mono fun e w' ⟨k, a1, a2, a3, a4, a5⟩ => ⟨k, a1, a2, a3, ⟨A, n, c, p + 1, by omega, a4⟩, a5⟩

end Go.Proofs.YtempjhgajcdibaaDoor

/- The drawing kit: l6Change. -/
namespace Go.Proofs.YtempjhgajcdibaaDoor
open Go.RowKit Go.BigFrame AG

/-- What l6Change holds: the copy as far as it is made, and the edge x. -/
structure ChSt (w0 wr : World) (R P gs ge : Nat) (al st : Int) (v : Value) (es : List Ed) (L : Nat) (x : Ed) : Prop where
  out : OutSt w0 wr R P w0.heap.size gs al st v es L
  ed : Blk wr ge 64 #[.int .i64 x.f, .int .i64 x.l, .int .i64 x.t]
  far : ∀ k, v.ownBlock = some k → ge < k
  lt : gs < ge
theorem ChSt.call {w0 wr w1 : World} {R P P' gs ge : Nat} {al st : Int} {v : Value} {es : List Ed} {L : Nat} {x : Ed} (h : ChSt w0 wr R P gs ge al st v es L x) (hk : KeepB (fun b => b = R) wr w1) (hr : RdUp w1 R P') (hR : R < w0.heap.size) : ChSt w0 w1 R P' gs ge al st v es L x :=
  ⟨h.out.call hk hr hR, h.ed.keep hk (by have := h.lt; have := h.out.hgs; omega), h.far, h.lt⟩
theorem ChSt.later {w0 wr w1 : World} {R P gs ge : Nat} {al st : Int} {v : Value} {es : List Ed} {L : Nat} {x : Ed} (h : ChSt w0 wr R P gs ge al st v es L x) (hb : Below wr.heap.size wr w1) (hR : R < w0.heap.size) : ChSt w0 w1 R P gs ge al st v es L x := h.call (KeepB.of_below hb) (h.out.rd.later hb) hR
theorem ChSt.more {w0 wr : World} {R P P' gs ge : Nat} {al st : Int} {v : Value} {es : List Ed} {L L' : Nat} {x : Ed} (h : ChSt w0 wr R P gs ge al st v es L x) (hP : P ≤ P') (hL : L ≤ L') : ChSt w0 wr R P' gs ge al st v es L' x :=
  ⟨⟨h.out.blk, h.out.own, by have := h.out.len; omega, h.out.rd.more hP, h.out.keep, h.out.hB, h.out.hgs⟩, h.ed, h.far, h.lt⟩
theorem ChSt.add {w0 wr w1 : World} {R P gs ge : Nat} {al st : Int} {v v' : Value} {es : List Ed} {L : Nat} {x y : Ed} (h : ChSt w0 wr R P gs ge al st v es L x) (hR : R < w0.heap.size)
    (hown : w1.ownsRow w0.heap.size 64 3 v' (es.length + 1) (edCells es ++ [.int .i64 y.f, .int .i64 y.l, .int .i64 y.t])) (hg : wr.grownBy w1 v.ownBlock) (hat : v'.ownBlock = v.ownBlock ∨ v'.ownBlock = some wr.heap.size) :
    ChSt w0 (w1.setCell ⟨gs, 2, none⟩ v') R P gs ge al st v' (es ++ [y]) (L + 1) x := by
  have h1 := h.lt
  have hge := h.ed.lt
  have k1 : KeepB (fun b => v.ownBlock = some b) wr w1 := (KeepB.refl _ wr).grown hg (fun k hk _ => hk)
  have k2 : KeepB (fun b => v.ownBlock = some b ∨ b = gs) wr (w1.setCell ⟨gs, 2, none⟩ v') := (k1.mono fun _ h => .inl h).setCell _ _ fun _ => .inr rfl
  refine ⟨h.out.add hR hown hg hat, h.ed.keep k2 (by rintro (hk | hk); (have := h.far _ hk; omega); omega), fun k hk => ?_, h1⟩
  rcases hat with e | e
  · rw [e] at hk; exact h.far k hk
  · rw [e] at hk; injection hk with hk; omega

set_option maxRecDepth 100000 in
set_option maxHeartbeats 16000000 in
theorem l6Change_up (R P L : Nat) (s : Sy) (A : Option Addr) (c : Nat) (w : World) (hP : P + 9000000 ≤ 1125899906842624) (hl : s.es.length ≤ c) (hc : c ≤ 9223372036854775807) (hL : s.es.length ≤ L) (hL2 : L ≤ 40000)
    (hs : EdsAt w w.heap.size A s.es) (hf : FreshA (R + 1) A) (hr : RdUp w R P) :
    Calls Tryd.prog 113 #[.pointer (some ⟨R, 0, none⟩), s.val A c] w (SyUp R (P + 4000000) (2 * L + 1) w) := by
  obtain ⟨i0, hi, hz0, hz1, hz2⟩ := info_parts infoEd
  have hR := hr.lt
  unfold Sy.val
  have hres := (Blk.new (w.alloc (.cells #[.int .i64 s.al, .int .i64 s.st, .slice A s.es.length c] 25)) 25 #[.int .i64 0, .int .i64 0, .slice none 0 0])
  have hpar := (Blk.new w 25 #[.int .i64 s.al, .int .i64 s.st, .slice A s.es.length c]).alloc (.cells #[.int .i64 0, .int .i64 0, .slice none 0 0] 25)
  have hb0 : Below w.heap.size w ((w.alloc (.cells #[.int .i64 s.al, .int .i64 s.st, .slice A s.es.length c] 25)).alloc (.cells #[.int .i64 0, .int .i64 0, .slice none 0 0] 25)) := ((Below.refl _ _).alloc (Nat.le_refl _) _).alloc (by simp) _
  have hsz0 : ((w.alloc (.cells #[.int .i64 s.al, .int .i64 s.st, .slice A s.es.length c] 25)).alloc (.cells #[.int .i64 0, .int .i64 0, .slice none 0 0] 25)).heap.size = w.heap.size + 2 := by simp
  simp only [World.size_alloc] at hres
  generalize hw0 : (w.alloc (.cells #[.int .i64 s.al, .int .i64 s.st, .slice A s.es.length c] 25)).alloc (.cells #[.int .i64 0, .int .i64 0, .slice none 0 0] 25) = w0 at hres hb0 hsz0 hpar
  have p0 := hpar.cell 0
  have p1 := hpar.cell 1
  have p2 := hpar.cell 2
  simp only [List.getElem?_toArray, List.getElem?_cons_zero, List.getElem?_cons_succ] at p0 p1 p2
  have hR0 : R < w0.heap.size := by omega
  have hr0 := hr.later hb0
  have hs0 := hid (hs.later hb0)
  have hpp := hid (show _ ∧ _ ∧ _ from ⟨p0, p1, p2⟩)
  have hO1 : OutSt w0 (w0.alloc (.cells #[.int .i64 s.al, .int .i64 s.st, .slice none 0 0] 25)) R P w0.heap.size w0.heap.size s.al s.st (.slice none 0 0) [] 0 :=
    ⟨Blk.new _ _ _, World.ownsRow_nil _ _ _ _, Nat.le_refl _, hr0.later ((Below.refl _ _).alloc (Nat.le_refl _) _), (KeepB.refl _ _).alloc _, Nat.le_refl _, Nat.le_refl _⟩
  have hgs : w0.heap.size < (w0.alloc (.cells #[.int .i64 s.al, .int .i64 s.st, .slice none 0 0] 25)).heap.size := by simp
  have hO1' := hid hO1
  have hpk : ∀ wx, KeepB (fun b => b = R) w0 wx → Hid (wx.cell? ⟨w.heap.size, 0, none⟩ = some (.int .i64 s.al) ∧ wx.cell? ⟨w.heap.size, 1, none⟩ = some (.int .i64 s.st) ∧ wx.cell? ⟨w.heap.size, 2, none⟩ = some (.slice A s.es.length c)) := fun wx hk =>
    hid ⟨by rw [KeepB.cell_ hk (p := ⟨w.heap.size, 0, none⟩) (by show w.heap.size < _; omega) (by show ¬ w.heap.size = R; omega)]; exact hpp.out.1, by rw [KeepB.cell_ hk (p := ⟨w.heap.size, 1, none⟩) (by show w.heap.size < _; omega) (by show ¬ w.heap.size = R; omega)]; exact hpp.out.2.1, by rw [KeepB.cell_ hk (p := ⟨w.heap.size, 2, none⟩) (by show w.heap.size < _; omega) (by show ¬ w.heap.size = R; omega)]; exact hpp.out.2.2⟩
  replace hres := hid hres
  replace hsz0 := hid hsz0
  replace hf := hid hf
  have hp1 := hpk _ hO1'.out.keep
  have a0 := hp1.out.1
  have a1 := hp1.out.2.1
  have a2 := hp1.out.2.2
  clear hs hr hr0 hO1 hpar hgs
  go_enter Tryd.func113, Tryd.ntmps113
  go_wp2_with fail
  refine (pick_up R P ((s.es.length : Int) + 2) _ (by omega) (by omega) hO1'.out.rd).mono ?_
  rintro e w2 ⟨q, rfl, hq0, hq1, hr2, hk2⟩
  have hO2 := hid (hO1'.out.call hk2 hr2 hR0)
  clear hr2 hk2 hO1' hw0 p0 p1 p2 hq0 hq1 a0 a1 a2 hp1
  have hneR : w.heap.size ≠ R := by omega
  have hp2 := hpk w2 hO2.out.keep
  have c1 := hp2.out.2.1
  have q1 := RI.cell hO2.out.rd c1 hneR
  go_wp2_with fail
  clear c1
  refine GK.wp_region 10 [10] 200 (KeepB fun b => b = R) (RI w2 R (P + 1)) (fun _ u _ => ∃ x : Int, u = .int .i64 x) (by kernel_rfl) (by kernel_rfl) (RI.way w2 R _) (by decide) (RI.drew hO2.out.rd) ?_
  simp only [List.take_succ_cons, List.take_zero]
  (repeat (refine GK.grow_quiet w2 (by rfl) (by rfl) ?_; intro K hK; go_big_quiet_op; go_big_quiet_on))
  refine GK.grow_call (by rfl) (fun u w w' _ h => h) (fun m wq hm hbq hf => ?_) ?_
  · go_simp
    exact ⟨rfl, (pick_upF R (P + 1 + m * 10000) s.st wq (by omega) hbq.2).mono fun e w' ⟨x, h2, _, _, h3, h4⟩ => ⟨_, h2, RI.call hbq h4 h3 (by omega), x, rfl⟩⟩
  rintro u ⟨_, _, _, x1, rfl⟩
  simp only [Act.put, List.setIfInBounds_toArray, List.set_cons_zero, List.set_cons_succ]
  (repeat (refine GK.grow_quiet w2 (by rfl) (by rfl) ?_; intro K hK; go_big_quiet_op; go_big_quiet_on))
  refine GK.grow_call (by rfl) (fun u w w' _ h => h) (fun m wq hm hbq hf => ?_) ?_
  · go_simp
    exact ⟨rfl, (pick_upF R (P + 1 + m * 10000) s.st wq (by omega) hbq.2).mono fun e w' ⟨x, h2, _, _, h3, h4⟩ => ⟨_, h2, RI.call hbq h4 h3 (by omega), x, rfl⟩⟩
  rintro u ⟨_, _, _, x2, rfl⟩
  simp only [Act.put, List.setIfInBounds_toArray, List.set_cons_zero, List.set_cons_succ]
  (repeat (refine GK.grow_quiet w2 (by rfl) (by rfl) ?_; intro K hK; go_big_quiet_op; go_big_quiet_on))
  have hO2h := hO2.out.keep.size
  have hO2b := hO2.out.blk.lt
  refine GK.grow_new (K := fun b => b = R) (by rfl) w2.heap.size (fun b => .pointer (some ⟨b, 0, none⟩)) 64 #[.int .i64 0, .int .i64 0, .int .i64 0] (fun _ => by go_simp) rfl (fun _ _ o h => RI.alloc o h) (fun _ _ h => RI.size h) (fun k hk => by omega) (fun ge hge => ?_)
  simp only [Act.put, List.setIfInBounds_toArray, List.set_cons_zero, List.set_cons_succ]
  refine GK.grow_nil ?_
  intro w3 hw3 hfx
  obtain ⟨g', z1, z2, hblk⟩ := hfx _ List.mem_cons_self
  cases z1
  clear hfx q1
  simp only [List.filterMap_cons, List.filterMap_nil, List.getElem?_cons_zero, List.getElem?_cons_succ]
  have hblk3 : Blk w3 ge 64 #[.int .i64 0, .int .i64 0, .int .i64 0] := hblk
  have hO3 := hO2.out.call hw3.1 hw3.2 hR0
  have hE4 : ChSt w0 (((w3.setCell ⟨ge, 0, none⟩ (.int .i64 x1)).setCell ⟨ge, 1, none⟩ (.int .i64 0)).setCell ⟨ge, 2, none⟩ (.int .i64 x2)) R (P + 1 + 10 * 10000) w0.heap.size ge s.al s.st (.slice none 0 0) [] 0 ⟨x1, 0, x2⟩ := by
    have hk : KeepB (fun b => b = ge) w3 (((w3.setCell ⟨ge, 0, none⟩ (.int .i64 x1)).setCell ⟨ge, 1, none⟩ (.int .i64 0)).setCell ⟨ge, 2, none⟩ (.int .i64 x2)) := (((KeepB.refl _ w3).setCell _ _ (by simp)).setCell _ _ (by simp)).setCell _ _ (by simp)
    refine ⟨⟨hO3.blk.keep hk (by omega), World.ownsRow_nil _ _ _ _, Nat.le_refl _, hO3.rd.keep hk (by omega), ((hO3.keep.setCell _ _ (by simp; omega)).setCell _ _ (by simp; omega)).setCell _ _ (by simp; omega), Nat.le_refl _, Nat.le_refl _⟩, ?_, (fun k hk => by cases hk), by omega⟩
    simpa using ((hblk3.set_ 0 (.int .i64 x1)).set_ 1 (.int .i64 0)).set_ 2 (.int .i64 x2)
  have d0 := hblk3.cell 0
  have d1 := hblk3.cell 1
  have d2 := hblk3.cell 2
  have f0 := hblk3.frozen 0
  have f1 := hblk3.frozen 1
  have f2 := hblk3.frozen 2
  simp only [List.getElem?_toArray, List.getElem?_cons_zero, List.getElem?_cons_succ] at d0 d1 d2
  have hgl3 := hblk3.lt
  obtain ⟨w4, hw4⟩ : ∃ w4, ((w3.setCell ⟨ge, 0, none⟩ (.int .i64 x1)).setCell ⟨ge, 1, none⟩ (.int .i64 0)).setCell ⟨ge, 2, none⟩ (.int .i64 x2) = w4 := ⟨_, rfl⟩
  rw [hw4] at hE4
  replace hE4 := hid hE4
  have hp4 := hpk w4 hE4.out.out.keep
  have c0 := hp4.out.1
  clear hO3 hblk hblk3 hw3
  go_wp2_with fail
  refine (l1Letters_any s.al w4).mono ?_
  rintro e w5 ⟨lv, rfl, hown, hb5⟩
  clear hw4 d0 d1 d2 f0 f1 f2 c0
  have hE5 := hid ((hE4.out.later hb5 hR0).more (P' := P + 200000) (L' := 0) (by omega) (by omega))
  obtain ⟨ls, hls⟩ : ∃ ls, Hid (ls = letters s.al) := ⟨_, hid rfl⟩
  rw [← hls.out] at hown
  have hl6 : ls.length ≤ 6 := by rw [hls.out]; exact lettersTo_len s.al 6
  obtain ⟨Al, cl, hvl, hcl, hcl'⟩ := own_slice hown
  subst hvl
  have hRl : R < w4.heap.size := by have := hE4.out.out.keep.size; omega
  replace hown := hid hown
  go_upto_region 5 with fail
  go_cut [9] (fun sm wx => ∃ b : Bool, sm = .bool b ∧ (b = true → 0 < ls.length) ∧ ChSt w0 wx R (P + 200001) w0.heap.size ge s.al s.st (.slice none 0 0) [] 0 ⟨x1, 0, x2⟩ ∧ OwnNats wx w4.heap.size (.slice Al ls.length cl) ls)
  case first =>
    by_cases hl0 : ls.length = 0
    · go_wp2_with fail
      go_meet
      exact ⟨false, rfl, by simp, hE5.out.more (by omega) (by omega), hown.out⟩
    · have e0 : (0 : Int) < (ls.length : Int) := by omega
      replace hl0 := hid hl0
      go_wp2_with fail
      refine (pick_up R (P + 200000) 2 w5 (by omega) (by omega) hE5.out.out.rd).mono ?_
      rintro e w6 ⟨j, rfl, hj0, hj1, hr6, hk6⟩
      have hE6 := hid (hE5.out.call hk6 hr6 hR0)
      have hown6 := hid (own_keep hown.out hk6 (fun g hg => by have := (World.ownsRow.lt hown.out g hg).1; omega))
      clear hr6 hk6 hj1
      by_cases hj : j = 0
      · subst hj
        go_wp2_with fail
        go_meet
        exact ⟨true, rfl, fun _ => by omega, hE6.out, hown6.out⟩
      · have hjb : ((j : Int) == 0) = false := by simpa using hj
        replace hj := hid hj
        go_wp2_with fail
        go_meet
        exact ⟨false, rfl, by simp, hE6.out, hown6.out⟩
  case rest =>
    clear hE5 hown
    obtain ⟨b, rfl, hbl, hE, hown⟩ := hcut
    replace hE := hid hE
    replace hown := hid hown
    go_upto_if 42 with fail
    go_cut [] (fun wx => ∃ y : Ed, ChSt w0 wx R (P + 200002) w0.heap.size ge s.al s.st (.slice none 0 0) [] 0 y)
    case first =>
      cases b
      · go_wp2_with fail
        go_meet
        exact ⟨_, hE.out.more (by omega) (by omega)⟩
      · have hl0 := hbl rfl
        clear hbl
        have hE6 := hE
        go_wp2_with fail
        refine (pick_up R (P + 200001) ls.length _ (by omega) (by omega) hE.out.out.rd).mono ?_
        rintro e w7 ⟨j, rfl, hj0, hj1, hr7, hk7⟩
        obtain ⟨q2, rfl⟩ := Int.eq_ofNat_of_zero_le hj0
        have hql : q2 < ls.length := by omega
        have hE7 := hid (hE.out.call hk7 hr7 hR0)
        have hown7 := hid (own_keep hown.out hk7 (fun g hg => by have := (World.ownsRow.lt hown.out g hg).1; omega))
        clear hr7 hk7 hj0 hj1
        obtain ⟨g, cap, hve, hg1, hg2, -, -, hLL⟩ := own_nats hown7.out (by omega)
        cases hve
        have l0 := hLL q2 hql
        obtain ⟨l, hl'⟩ : ∃ l : Nat, l = ls[q2] := ⟨_, rfl⟩
        rw [← hl'] at l0
        replace hl' := hid hl'
        replace hLL := hid hLL
        have i1 : (0 : Int) ≤ (q2 : Int) ∧ (q2 : Int) < (ls.length : Int) := by omega
        have d1 := hE7.out.ed.cell 1
        have f1 := hE7.out.ed.frozen 1
        simp only [List.getElem?_toArray, List.getElem?_cons_zero, List.getElem?_cons_succ] at d1
        have hgl7 := hE7.out.ed.lt
        go_wp2_with fail
        go_meet
        have hk : KeepB (fun b => b = ge) w7 (w7.setCell ⟨ge, 1, none⟩ (.int .i64 (l : Nat))) := (KeepB.refl _ w7).setCell _ _ (by simp)
        have h7 := hE7.out
        have hgl := h7.lt
        exact ⟨⟨x1, l, x2⟩, ⟨h7.out.blk.keep hk (by omega), World.ownsRow_nil _ _ _ _, Nat.le_refl _, h7.out.rd.keep hk (by omega), h7.out.keep.setCell _ _ (by simp; omega), Nat.le_refl _, Nat.le_refl _⟩, by simpa using h7.ed.set_ 1 (.int .i64 (l : Nat)), (fun k hk => by cases hk), hgl⟩
    case rest =>
      clear hE hown hbl
      obtain ⟨y, hE⟩ := hcut
      replace hE := hid hE
      go_wp2_with fail
      go_loopw [9, 10] (fun mv iv wr => ∃ (m : Bool) (k : Nat) (v : Value) (es : List Ed), mv = .bool m ∧ iv = .int .i64 k ∧ k ≤ s.es.length ∧ ChSt w0 wr R (P + 200002) w0.heap.size ge s.al s.st v es (2 * k) y) (fun _ iv _ => s.es.length - (intOf iv).toNat)
      case atStart => exact ⟨b, 0, _, [], rfl, rfl, by omega, hE.out⟩
      case round =>
        obtain ⟨m, k, v, es, rfl, rfl, hk, hs⟩ := hrel
        clear hE
        replace hs := hid hs
        have hpw := hpk wr hs.out.out.keep
        have p2 := hpw.out.2.2
        by_cases hlt : k < s.es.length
        · have hlt' : (k : Int) < (s.es.length : Int) := by omega
          obtain ⟨sb, so, hA, hsb, hEs⟩ := hs0.out (by omega)
          have hsR : sb ≠ R := by have := hf.out sb so hA; omega
          obtain ⟨z, hz⟩ : ∃ z, Hid (z = s.es[k]) := ⟨_, hid rfl⟩
          have hzc : ∀ wx, KeepB (fun b => b = R) w0 wx → Hid (wx.cell? ⟨sb, so + k * 3, none⟩ = some (.int .i64 z.f) ∧ wx.cell? ⟨sb, so + k * 3 + 1, none⟩ = some (.int .i64 z.l) ∧ wx.cell? ⟨sb, so + k * 3 + 2, none⟩ = some (.int .i64 z.t)) := fun wx hkx => by
            have e := hEs k hlt
            rw [hz.out]
            exact hid ⟨by rw [KeepB.cell_ hkx hsb hsR]; exact e.1, by rw [KeepB.cell_ hkx hsb hsR]; exact e.2.1, by rw [KeepB.cell_ hkx hsb hsR]; exact e.2.2⟩
          have i1 : (0 : Int) ≤ (k : Int) ∧ (k : Int) < (s.es.length : Int) := by omega
          subst hA
          replace hEs := hid hEs
          replace hf := hid hf
          go_upto_region 11 with fail
          clear p2 hpw
          go_cut [67] (fun tv wx => ∃ tb : Bool, tv = .bool tb ∧ ChSt w0 wx R (P + 200002) w0.heap.size ge s.al s.st v es (2 * k) y)
          case first =>
            cases m
            · refine GK.wp_region 10 [] 200 (KeepB fun _ => False) (GK.BI wr) (fun _ u _ => u = .bool (edgeLt y z)) (by kernel_rfl) (by kernel_rfl) (GK.BI.way wr) (by decide) (Below.refl _ _).drew ?_
              simp only [List.take_succ_cons, List.take_zero]
              (repeat (refine GK.grow_quiet wr (by rfl) (by rfl) ?_; intro K hK; go_big_quiet_op; go_big_quiet_on))
              (repeat (refine GK.grow_skip (by rfl) ?_; simp only [Act.put, List.setIfInBounds_toArray, List.set_cons_zero, List.set_cons_succ]))
              (repeat (refine GK.grow_quiet wr (by rfl) (by rfl) ?_; intro K hK; go_big_quiet_op; go_big_quiet_on))
              refine GK.grow_nil ?_
              intro w4 hw4 _
              replace hw4 : Below wr.heap.size wr w4 := hw4
              simp only [List.filterMap_cons, List.filterMap_nil, List.getElem?_cons_zero, List.getElem?_cons_succ]
              have hS4 := hid (hs.out.later hw4 hR0)
              go_wp2_with fail
              go_meet
              exact ⟨_, rfl, hS4.out⟩
            · have hzw := hzc wr hs.out.out.keep
              have hpw := hpk wr hs.out.out.keep
              have q0 := GK.BI.cell hzw.out.1
              have q1 := GK.BI.cell hzw.out.2.1
              have q2 := GK.BI.cell hzw.out.2.2
              have q3 := GK.BI.cell hpw.out.2.2
              have y0 := hs.out.ed.cell 0
              have y1 := hs.out.ed.cell 1
              have y2 := hs.out.ed.cell 2
              simp only [List.getElem?_toArray, List.getElem?_cons_zero, List.getElem?_cons_succ] at y0 y1 y2
              replace y0 := GK.BI.cell y0
              replace y1 := GK.BI.cell y1
              replace y2 := GK.BI.cell y2
              refine GK.wp_region 10 [] 200 (KeepB fun _ => False) (GK.BI wr) (fun _ u _ => u = .bool (edgeLt y z)) (by kernel_rfl) (by kernel_rfl) (GK.BI.way wr) (by decide) (Below.refl _ _).drew ?_
              simp only [List.take_succ_cons, List.take_zero]
              (repeat (refine GK.grow_quiet wr (by rfl) (by rfl) ?_; intro K hK; go_big_quiet_op; go_big_quiet_on))
              refine GK.grow_call (by rfl) (fun u w w' _ h => h) (fun mm wq hm hbq hf => ?_) ?_
              · go_simp
                exact ⟨rfl, (l2Before_any y z wq).mono fun e w' ⟨h2, h3⟩ => ⟨h2, GK.BI.after hbq h3⟩⟩
              rintro u ⟨_, _, _, rfl⟩
              simp only [Act.put, List.setIfInBounds_toArray, List.set_cons_zero, List.set_cons_succ]
              (repeat (refine GK.grow_quiet wr (by rfl) (by rfl) ?_; intro K hK; go_big_quiet_op; go_big_quiet_on))
              refine GK.grow_nil ?_
              intro w4 hw4 _
              replace hw4 : Below wr.heap.size wr w4 := hw4
              simp only [List.filterMap_cons, List.filterMap_nil, List.getElem?_cons_zero, List.getElem?_cons_succ]
              have hS4 := hid (hs.out.later hw4 hR0)
              clear q0 q1 q2 q3 y0 y1 y2
              go_wp2_with fail
              go_meet
              exact ⟨_, rfl, hS4.out⟩
          case rest =>
            clear hs
            obtain ⟨tb, rfl, hs⟩ := hcut
            replace hs := hid hs
            go_upto_if 67 with fail
            go_cut [9] (fun mv wx => ∃ (m : Bool) (v : Value) (es : List Ed), mv = .bool m ∧ ChSt w0 wx R (P + 200002) w0.heap.size ge s.al s.st v es (2 * k + 1) y)
            case first =>
              cases tb
              · go_wp2_with fail
                go_meet
                exact ⟨_, _, _, rfl, hs.out.more (Nat.le_refl _) (by omega)⟩
              · obtain ⟨Av, cv, hve, hcv, hcv'⟩ := own_slice hs.out.out.own
                subst hve
                have g2 := hs.out.out.blk.cell 2
                have y0 := hs.out.ed.cell 0
                have y1 := hs.out.ed.cell 1
                have y2 := hs.out.ed.cell 2
                simp only [List.getElem?_toArray, List.getElem?_cons_zero, List.getElem?_cons_succ] at g2 y0 y1 y2
                have gl := hs.out.out.blk.lt
                have el := hs.out.ed.lt
                have hown := hid hs.out.out.own
                have hlen := hs.out.out.len
                go_wp2_with (at_builtin; refine wpList_append_own_at _ (by rfl) _ _ 23 (by rfl) w0.heap.size 64 i0 (.agg #[.int .i64 0, .int .i64 0, .int .i64 0]) 3 24 Tryd.underlying23 hi hz0 hz1 hz2 rfl (by decide) _ es.length (edCells es) (by rfl) (hown.out.alloc _) ⟨wc.heap.size, 0, none⟩ 1 1 [.int .i64 y.f, .int .i64 y.l, .int .i64 y.t] (by rfl) (by rfl) (World.news_of_block (heap_alloc_new wc _)) ?c1 ?c3 ?c4 ?c5 ?_)
                case c1 => simp [Value.oneCell']
                case c3 => unfold maxLen; omega
                case c4 => omega
                case c5 => have := hs.out.out.keep.size; simp; omega
                intro v9 w9 hown9 hgrow9 hnil9 hat9
                obtain ⟨A9, c9, hv9, -, -⟩ := own_slice hown9
                subst hv9
                have hL := hs.out.later ((Below.refl _ wc).alloc (Nat.le_refl _) (.cells #[.int .i64 y.f, .int .i64 y.l, .int .i64 y.t] 64)) hR0
                have ag := hL.out.ne
                have gll := hL.out.blk.lt
                have g2' : w9.cell? ⟨w0.heap.size, 2, none⟩ = some (.slice Av es.length cv) := by rw [hgrow9.cell_far _ gll (Ne.symm ag)]; exact hL.out.blk.cell 2
                have f2' : w9.frozen? ⟨w0.heap.size, 2, none⟩ = false := by rw [hgrow9.frozen_far _ gll (Ne.symm ag)]; exact hL.out.blk.frozen 2
                have h9 := hid (hL.add hR0 hown9 hgrow9 (by rw [World.size_alloc]; exact hat9))
                clear hown9 hgrow9 hnil9 hat9 hL g2 y0 y1 y2 ag
                go_wp2_with fail
                go_meet
                exact ⟨false, _, _, rfl, h9.out⟩
            case rest =>
              clear hs
              obtain ⟨m, v, es, rfl, hs⟩ := hcut
              replace hs := hid hs
              go_upto_region 14 with fail
              go_cut [83] (fun tv wx => ∃ tb : Bool, tv = .bool tb ∧ ChSt w0 wx R (P + 200002) w0.heap.size ge s.al s.st v es (2 * k + 1) y)
              case first =>
                cases m
                · refine GK.wp_region 10 [] 200 (KeepB fun _ => False) (GK.BI wc) (fun _ _ _ => True) (by kernel_rfl) (by kernel_rfl) (GK.BI.way wc) (by decide) (Below.refl _ _).drew ?_
                  simp only [List.take_succ_cons, List.take_zero]
                  (repeat (refine GK.grow_quiet wc (by rfl) (by rfl) ?_; intro K hK; go_big_quiet_op; go_big_quiet_on))
                  (repeat (refine GK.grow_skip (by rfl) ?_; simp only [Act.put, List.setIfInBounds_toArray, List.set_cons_zero, List.set_cons_succ]))
                  (repeat (refine GK.grow_quiet wc (by rfl) (by rfl) ?_; intro K hK; go_big_quiet_op; go_big_quiet_on))
                  refine GK.grow_nil ?_
                  intro w4 hw4 _
                  replace hw4 : Below wc.heap.size wc w4 := hw4
                  simp only [List.filterMap_cons, List.filterMap_nil, List.getElem?_cons_zero, List.getElem?_cons_succ]
                  have hS4 := hid (hs.out.later hw4 hR0)
                  go_wp2_with fail
                  go_meet
                  exact ⟨_, rfl, hS4.out⟩
                · have hzw := hzc wc hs.out.out.keep
                  have hpw := hpk wc hs.out.out.keep
                  have q0 := GK.BI.cell hzw.out.1
                  have q1 := GK.BI.cell hzw.out.2.1
                  have q2 := GK.BI.cell hzw.out.2.2
                  have q3 := GK.BI.cell hpw.out.2.2
                  have y0 := hs.out.ed.cell 0
                  have y1 := hs.out.ed.cell 1
                  have y2 := hs.out.ed.cell 2
                  simp only [List.getElem?_toArray, List.getElem?_cons_zero, List.getElem?_cons_succ] at y0 y1 y2
                  replace y0 := GK.BI.cell y0
                  replace y1 := GK.BI.cell y1
                  replace y2 := GK.BI.cell y2
                  refine GK.wp_region 10 [] 200 (KeepB fun _ => False) (GK.BI wc) (fun _ _ _ => True) (by kernel_rfl) (by kernel_rfl) (GK.BI.way wc) (by decide) (Below.refl _ _).drew ?_
                  simp only [List.take_succ_cons, List.take_zero]
                  (repeat (refine GK.grow_quiet wc (by rfl) (by rfl) ?_; intro K hK; go_big_quiet_op; go_big_quiet_on))
                  by_cases a1 : y.f = z.f <;> by_cases a2 : y.l = z.l <;> by_cases a3 : y.t = z.t
                  all_goals
                    (repeat (refine GK.grow_quiet wc (by rfl) (by rfl) ?_; intro K hK; go_big_quiet_op; go_big_quiet_on))
                    refine GK.grow_nil ?_
                    intro w4 hw4 _
                    replace hw4 : Below wc.heap.size wc w4 := hw4
                    simp only [List.filterMap_cons, List.filterMap_nil, List.getElem?_cons_zero, List.getElem?_cons_succ]
                    have hS4 := hid (hs.out.later hw4 hR0)
                    clear q0 q1 q2 q3 y0 y1 y2
                    go_wp2_with fail
                    go_meet
                    exact ⟨_, rfl, hS4.out⟩
              case rest =>
                clear hs
                obtain ⟨tb, rfl, hs⟩ := hcut
                replace hs := hid hs
                go_upto_if 83 with fail
                go_cut [9] (fun mv wx => ∃ (m : Bool), mv = .bool m ∧ ChSt w0 wx R (P + 200002) w0.heap.size ge s.al s.st v es (2 * k + 1) y)
                case first =>
                  cases tb
                  · go_wp2_with fail
                    go_meet
                    exact ⟨_, rfl, hs.out⟩
                  · go_wp2_with fail
                    go_meet
                    exact ⟨_, rfl, hs.out⟩
                case rest =>
                  clear hs
                  obtain ⟨m, rfl, hs⟩ := hcut
                  replace hs := hid hs
                  by_cases hg : (k : Int) = q
                  · have hgb : ((k : Int) != q) = false := by simp [hg]
                    replace hg := hid hg
                    go_wp2_with fail
                    go_roundw
                    case rel => exact ⟨m, k + 1, _, _, rfl, by go_num, by omega, hs.out.more (Nat.le_refl _) (by omega)⟩
                    case measure => simp [intOf]; omega
                  · have hgb : ((k : Int) != q) = true := by simp [hg]
                    replace hg := hid hg
                    obtain ⟨Av, cv, hve, hcv, hcv'⟩ := own_slice hs.out.out.own
                    subst hve
                    have hzw := hzc wc hs.out.out.keep
                    have hpw := hpk wc hs.out.out.keep
                    have q0 := GK.BI.cell hzw.out.1
                    have q1 := GK.BI.cell hzw.out.2.1
                    have q2 := GK.BI.cell hzw.out.2.2
                    have q3 := GK.BI.cell hpw.out.2.2
                    have g2 := hs.out.out.blk.cell 2
                    simp only [List.getElem?_toArray, List.getElem?_cons_zero, List.getElem?_cons_succ] at g2
                    replace g2 := GK.BI.cell g2
                    have ag := hid hs.out.out.ne
                    have hlen := hs.out.out.len
                    go_wp2_with fail
                    refine GK.wp_region 8 [8, 9, 10] 200 (KeepB fun _ => False) (GK.BI wc) (fun _ _ _ => True) (by kernel_rfl) (by kernel_rfl) (GK.BI.way wc) (by decide) (Below.refl _ _).drew ?_
                    simp only [List.take_succ_cons, List.take_zero]
                    (repeat (refine GK.grow_quiet wc (by rfl) (by rfl) ?_; intro K hK; go_big_quiet_op; go_big_quiet_on))
                    refine GK.grow_new (K := fun _ => False) (by rfl) _ (fun b => .slice (some ⟨b, 0, none⟩) 1 1) 64 #[.int .i64 z.f, .int .i64 z.l, .int .i64 z.t] (fun _ => by go_simp) rfl (fun _ _ o h => GK.BI.alloc o h) (fun _ _ h => GK.BI.size h) (fun _ h => h.elim) (fun nb hnb => ?_)
                    simp only [Act.put, List.setIfInBounds_toArray, List.set_cons_zero, List.set_cons_succ]
                    refine GK.grow_nil ?_
                    intro w4 hw4 hfx
                    obtain ⟨g', hge', hge2', hblk⟩ := hfx _ List.mem_cons_self
                    cases hge'
                    clear hfx q0 q1 q2 q3 g2
                    replace hw4 : Below wc.heap.size wc w4 := hw4
                    simp only [List.filterMap_cons, List.filterMap_nil, List.getElem?_cons_zero, List.getElem?_cons_succ]
                    have hS4 := hid (hs.out.later hw4 hR0)
                    have hb0s := hS4.out.out.keep.size
                    refine wpList_append_own_at _ (by rfl) _ _ 23 (by rfl) w0.heap.size 64 i0 (.agg #[.int .i64 0, .int .i64 0, .int .i64 0]) 3 24 Tryd.underlying23 hi hz0 hz1 hz2 rfl (by decide) _ es.length (edCells es) (by rfl) hS4.out.out.own ⟨nb, 0, none⟩ 1 1 [.int .i64 z.f, .int .i64 z.l, .int .i64 z.t] (by rfl) (by rfl) (World.news_of_block hblk) ?c1 ?c3 ?c4 ?c5 ?_
                    case c1 => simp [Value.oneCell']
                    case c3 => unfold maxLen; omega
                    case c4 => omega
                    case c5 => omega
                    intro v9 w9 hown9 hgrow9 hnil9 hat9
                    obtain ⟨A9, c9, hv9, -, -⟩ := own_slice hown9
                    subst hv9
                    have gll := hS4.out.out.blk.lt
                    have g2' : w9.cell? ⟨w0.heap.size, 2, none⟩ = some (.slice Av es.length cv) := by rw [hgrow9.cell_far _ gll (Ne.symm ag.out)]; exact hS4.out.out.blk.cell 2
                    have f2' : w9.frozen? ⟨w0.heap.size, 2, none⟩ = false := by rw [hgrow9.frozen_far _ gll (Ne.symm ag.out)]; exact hS4.out.out.blk.frozen 2
                    have h9 := hid ((hS4.out.add (y := z) hR0 hown9 hgrow9 hat9).more (P' := P + 200002) (L' := 2 * (k + 1)) (Nat.le_refl _) (by omega))
                    clear hown9 hgrow9 hnil9 hat9
                    go_wp2_with fail
                    go_roundw
                    case rel => exact ⟨m, k + 1, _, _, rfl, by go_num, by omega, h9.out⟩
                    case measure => simp [intOf]; omega
        · have hlt' : ¬ (k : Int) < (s.es.length : Int) := by omega
          cases m
          · obtain ⟨Av, cv, hve, hcv, hcv'⟩ := own_slice hs.out.out.own
            subst hve
            have hbl := hres.out.keep hs.out.out.keep (by omega)
            have d0 := hbl.cell 0
            have d1 := hbl.cell 1
            have d2 := hbl.cell 2
            have f0 := hbl.frozen 0
            have f1 := hbl.frozen 1
            have f2 := hbl.frozen 2
            have r0 := hs.out.out.blk.cell 0
            have r1 := hs.out.out.blk.cell 1
            have r2 := hs.out.out.blk.cell 2
            simp only [List.getElem?_toArray, List.getElem?_cons_zero, List.getElem?_cons_succ] at d0 d1 d2 r0 r1 r2
            have hlt9 := hbl.lt
            have hlt8 := hs.out.out.blk.lt
            have hfin := hid ((hs.out.out.up hb0 (P' := P + 4000000) (L' := 2 * L + 1) (by omega) (by omega)).fin (ρ := w.heap.size + 1) hR (by omega) (by have := hsz0.out; omega) (.int .i64 s.al) (.int .i64 s.st) (.slice Av es.length cv))
            clear hbl
            go_wp2
            refine bodyPost_ret (v := .agg #[.int .i64 s.al, .int .i64 s.st, .slice Av es.length cv]) (by simp [results, Tryd.results113, go_sem, d0, d1, d2]) rfl ?_
            exact hfin.out
          · obtain ⟨Av, cv, hve, hcv, hcv'⟩ := own_slice hs.out.out.own
            subst hve
            have g2 := hs.out.out.blk.cell 2
            have y0 := hs.out.ed.cell 0
            have y1 := hs.out.ed.cell 1
            have y2 := hs.out.ed.cell 2
            simp only [List.getElem?_toArray, List.getElem?_cons_zero, List.getElem?_cons_succ] at g2 y0 y1 y2
            have gl := hs.out.out.blk.lt
            have el := hs.out.ed.lt
            have hown := hid hs.out.out.own
            have hlen := hs.out.out.len
            go_wp2_with (at_builtin; refine wpList_append_own_at _ (by rfl) _ _ 23 (by rfl) w0.heap.size 64 i0 (.agg #[.int .i64 0, .int .i64 0, .int .i64 0]) 3 24 Tryd.underlying23 hi hz0 hz1 hz2 rfl (by decide) _ es.length (edCells es) (by rfl) (hown.out.alloc _) ⟨wr.heap.size, 0, none⟩ 1 1 [.int .i64 y.f, .int .i64 y.l, .int .i64 y.t] (by rfl) (by rfl) (World.news_of_block (heap_alloc_new wr _)) ?c1 ?c3 ?c4 ?c5 ?_)
            case c1 => simp [Value.oneCell']
            case c3 => unfold maxLen; omega
            case c4 => omega
            case c5 => have := hs.out.out.keep.size; simp; omega
            intro v9 w9 hown9 hgrow9 hnil9 hat9
            obtain ⟨A9, c9, hv9, -, -⟩ := own_slice hown9
            subst hv9
            have hL := hs.out.later ((Below.refl _ wr).alloc (Nat.le_refl _) (.cells #[.int .i64 y.f, .int .i64 y.l, .int .i64 y.t] 64)) hR0
            have ag := hL.out.ne
            have gll := hL.out.blk.lt
            have g2' : w9.cell? ⟨w0.heap.size, 2, none⟩ = some (.slice Av es.length cv) := by rw [hgrow9.cell_far _ gll (Ne.symm ag)]; exact hL.out.blk.cell 2
            have f2' : w9.frozen? ⟨w0.heap.size, 2, none⟩ = false := by rw [hgrow9.frozen_far _ gll (Ne.symm ag)]; exact hL.out.blk.frozen 2
            have h9 := hid (hL.add hR0 hown9 hgrow9 (by rw [World.size_alloc]; exact hat9))
            clear hown9 hgrow9 hnil9 hat9 hL g2 y0 y1 y2 ag
            have hbl := hres.out.keep h9.out.out.keep (by omega)
            have d0 := hbl.cell 0
            have d1 := hbl.cell 1
            have d2 := hbl.cell 2
            have f0 := hbl.frozen 0
            have f1 := hbl.frozen 1
            have f2 := hbl.frozen 2
            have r0 := h9.out.out.blk.cell 0
            have r1 := h9.out.out.blk.cell 1
            have r2 := h9.out.out.blk.cell 2
            simp only [List.getElem?_toArray, List.getElem?_cons_zero, List.getElem?_cons_succ] at d0 d1 d2 r0 r1 r2
            have hlt9 := hbl.lt
            have hlt8 := h9.out.out.blk.lt
            have hfin := hid ((h9.out.out.up hb0 (P' := P + 4000000) (L' := 2 * L + 1) (by omega) (by omega)).fin' (ρ := w.heap.size + 1) (n := es.length + 1) (by simp) hR (by omega) (by have := hsz0.out; omega) (.int .i64 s.al) (.int .i64 s.st) (.slice A9 (es.length + 1) c9))
            obtain ⟨w10, hw10⟩ : ∃ w10, w9.setCell ⟨w0.heap.size, 2, none⟩ (.slice A9 (es.length + 1) c9) = w10 := ⟨_, rfl⟩
            rw [hw10] at hfin d0 d1 d2 f0 f1 f2 r0 r1 r2 hlt9 hlt8
            clear hbl
            go_wp2
            refine bodyPost_ret (v := .agg #[.int .i64 s.al, .int .i64 s.st, .slice A9 (es.length + 1) c9]) (by simp [results, Tryd.results113, go_sem, d0, d1, d2]) rfl ?_
            exact hfin.out

end Go.Proofs.YtempjhgajcdibaaDoor

/- The drawing kit: l6Pair. -/
namespace Go.Proofs.YtempjhgajcdibaaDoor
open Go.RowKit Go.BigFrame AG

/-- A system that was drawn since w, whose edges lie in no block of K. -/
structure GotSy (w wr : World) (R L : Nat) (K : Nat → Prop) (s : Sy) (A : Option Addr) (c : Nat) : Prop where
  le : s.es.length ≤ c
  top : c ≤ 9223372036854775807
  len : s.es.length ≤ L
  at_ : EdsAt wr wr.heap.size A s.es
  fresh : FreshA w.heap.size A
  far : 0 < s.es.length → ∀ b o, A = some ⟨b, o, none⟩ → ¬ K b
theorem GotSy.keep {w wr w1 : World} {R L : Nat} {K J : Nat → Prop} {s : Sy} {A : Option Addr} {c : Nat} (h : GotSy w wr R L K s A c) (hk : KeepB J wr w1) (hJ : ∀ b, w.heap.size ≤ b → J b → K b) : GotSy w w1 R L K s A c := by
  refine ⟨h.le, h.top, h.len, fun hn => ?_, h.fresh, h.far⟩
  obtain ⟨b, o, hA, hb, hE⟩ := h.at_ hn
  have h1 := h.fresh b o hA
  have h2 := h.far hn b o hA
  have hnb : ¬ J b := fun e => h2 (hJ b h1 e)
  refine ⟨b, o, hA, Nat.lt_of_lt_of_le hb hk.size, fun i hi => ?_⟩
  rw [KeepB.cell_ hk hb hnb, KeepB.cell_ hk hb hnb, KeepB.cell_ hk hb hnb]
  exact hE i hi
theorem GotSy.call {w wr w1 : World} {R L : Nat} {K : Nat → Prop} {s : Sy} {A : Option Addr} {c : Nat} (h : GotSy w wr R L K s A c) (hk : KeepB (fun b => b = R) wr w1) (hR : R < w.heap.size) : GotSy w w1 R L K s A c := h.keep hk fun b h1 h2 => by omega
theorem GotSy.more {w wr : World} {R L L' : Nat} {K : Nat → Prop} {s : Sy} {A : Option Addr} {c : Nat} (h : GotSy w wr R L K s A c) (hL : L ≤ L') : GotSy w wr R L' K s A c := ⟨h.le, h.top, by have := h.len; omega, h.at_, h.fresh, h.far⟩
/-- What a drawing call gives is apart from all that was there. -/
theorem GotSy.new {w wr w1 : World} {R L : Nat} {K : Nat → Prop} {s : Sy} {A : Option Addr} {c : Nat} (h1 : s.es.length ≤ c) (h2 : c ≤ 9223372036854775807) (h3 : s.es.length ≤ L) (h4 : EdsAt w1 w1.heap.size A s.es) (h5 : FreshA wr.heap.size A) (hw : w.heap.size ≤ wr.heap.size) (hK : ∀ b, K b → b < wr.heap.size) : GotSy w w1 R L K s A c :=
  ⟨h1, h2, h3, h4, fun b o e => by have := h5 b o e; omega, fun _ b o e hk => by have := h5 b o e; have := hK b hk; omega⟩

/-- Two systems in two blocks. -/
structure TwoSt (w wr : World) (R P L b4 b5 : Nat) (s t : Sy) (A B : Option Addr) (c d : Nat) : Prop where
  sb : Blk wr b4 25 #[.int .i64 s.al, .int .i64 s.st, .slice A s.es.length c]
  tb : Blk wr b5 25 #[.int .i64 t.al, .int .i64 t.st, .slice B t.es.length d]
  sg : GotSy w wr R L (fun b => b = b4 ∨ b = b5) s A c
  tg : GotSy w wr R L (fun b => b = b4 ∨ b = b5) t B d
  rd : RdUp wr R P
  keep : KeepB (fun b => b = R) w wr
  l4 : w.heap.size ≤ b4
  l5 : w.heap.size ≤ b5
  ne : b4 ≠ b5
theorem TwoSt.call {w wr w1 : World} {R P P' L b4 b5 : Nat} {s t : Sy} {A B : Option Addr} {c d : Nat} (h : TwoSt w wr R P L b4 b5 s t A B c d) (hk : KeepB (fun b => b = R) wr w1) (hr : RdUp w1 R P') (hR : R < w.heap.size) : TwoSt w w1 R P' L b4 b5 s t A B c d :=
  ⟨h.sb.keep hk (by have := h.l4; omega), h.tb.keep hk (by have := h.l5; omega), h.sg.call hk hR, h.tg.call hk hR, hr, h.keep.trans hk, h.l4, h.l5, h.ne⟩
theorem TwoSt.more {w wr : World} {R P P' L L' b4 b5 : Nat} {s t : Sy} {A B : Option Addr} {c d : Nat} (h : TwoSt w wr R P L b4 b5 s t A B c d) (hP : P ≤ P') (hL : L ≤ L') : TwoSt w wr R P' L' b4 b5 s t A B c d :=
  ⟨h.sb, h.tb, h.sg.more hL, h.tg.more hL, h.rd.more hP, h.keep, h.l4, h.l5, h.ne⟩
theorem TwoSt.setS {w wr : World} {R P L b4 b5 : Nat} {s t s' : Sy} {A B A' : Option Addr} {c d c' : Nat} (h : TwoSt w wr R P L b4 b5 s t A B c d) (hs : GotSy w wr R L (fun b => b = b4 ∨ b = b5) s' A' c') (hR : R < w.heap.size) :
    TwoSt w (((wr.setCell ⟨b4, 0, none⟩ (.int .i64 s'.al)).setCell ⟨b4, 1, none⟩ (.int .i64 s'.st)).setCell ⟨b4, 2, none⟩ (.slice A' s'.es.length c')) R P L b4 b5 s' t A' B c' d := by
  have hk : KeepB (fun b => b = b4) wr (((wr.setCell ⟨b4, 0, none⟩ (.int .i64 s'.al)).setCell ⟨b4, 1, none⟩ (.int .i64 s'.st)).setCell ⟨b4, 2, none⟩ (.slice A' s'.es.length c')) := (((KeepB.refl _ wr).setCell _ _ (by simp)).setCell _ _ (by simp)).setCell _ _ (by simp)
  have h4 := h.l4
  have h5 := h.l5
  have hne := h.ne
  refine ⟨by simpa using ((h.sb.set_ 0 (.int .i64 s'.al)).set_ 1 (.int .i64 s'.st)).set_ 2 (.slice A' s'.es.length c'), h.tb.keep hk (by omega), hs.keep hk (fun b _ e => .inl e), h.tg.keep hk (fun b _ e => .inl e), h.rd.keep hk (by omega), ?_, h4, h5, hne⟩
  exact ((h.keep.setCell _ _ (by simp; omega)).setCell _ _ (by simp; omega)).setCell _ _ (by simp; omega)
theorem TwoSt.setT {w wr : World} {R P L b4 b5 : Nat} {s t t' : Sy} {A B B' : Option Addr} {c d d' : Nat} (h : TwoSt w wr R P L b4 b5 s t A B c d) (ht : GotSy w wr R L (fun b => b = b4 ∨ b = b5) t' B' d') (hR : R < w.heap.size) :
    TwoSt w (((wr.setCell ⟨b5, 0, none⟩ (.int .i64 t'.al)).setCell ⟨b5, 1, none⟩ (.int .i64 t'.st)).setCell ⟨b5, 2, none⟩ (.slice B' t'.es.length d')) R P L b4 b5 s t' A B' c d' := by
  have hk : KeepB (fun b => b = b5) wr (((wr.setCell ⟨b5, 0, none⟩ (.int .i64 t'.al)).setCell ⟨b5, 1, none⟩ (.int .i64 t'.st)).setCell ⟨b5, 2, none⟩ (.slice B' t'.es.length d')) := (((KeepB.refl _ wr).setCell _ _ (by simp)).setCell _ _ (by simp)).setCell _ _ (by simp)
  have h4 := h.l4
  have h5 := h.l5
  have hne := h.ne
  refine ⟨h.sb.keep hk (by omega), by simpa using ((h.tb.set_ 0 (.int .i64 t'.al)).set_ 1 (.int .i64 t'.st)).set_ 2 (.slice B' t'.es.length d'), h.sg.keep hk (fun b _ e => .inr e), ht.keep hk (fun b _ e => .inr e), h.rd.keep hk (by omega), ?_, h4, h5, hne⟩
  exact ((h.keep.setCell _ _ (by simp; omega)).setCell _ _ (by simp; omega)).setCell _ _ (by simp; omega)

/-- A statement at a block's end may be cut around too. -/
theorem cut_here {P : Program} {c : Code} {Q : Exit → Act → World → Prop} {a : Act} {w : World} (h : ∀ K : Act → World → Prop, (∀ a w, Q .normal a w → K a w) → c.wp P (Exit.then K Q) a w) : c.wp P Q a w := by
  refine wp_mono (h (fun a w => Q .normal a w) fun _ _ q => q) ?_
  intro e a' w' hq
  cases e <;> exact hq

theorem EdsAt.take {w : World} {B : Nat} {A : Option Addr} {es : List Ed} (h : EdsAt w B A es) (n : Nat) : EdsAt w B A (es.take n) := fun hn => by
  rw [List.length_take] at hn
  obtain ⟨b, o, h1, h2, h3⟩ := h (by omega)
  refine ⟨b, o, h1, h2, fun i hi => ?_⟩
  have := h3 i (by rw [List.length_take] at hi; omega)
  simpa [List.getElem_take] using this

def PairUp (R P L : Nat) (w : World) (e : Ending) (w' : World) : Prop :=
  ∃ (s t : Sy) (A B : Option Addr) (c d : Nat), e = .returned (.tuple #[s.val A c, t.val B d]) ∧ GotSy w w' R L (fun _ => False) s A c ∧ GotSy w w' R L (fun _ => False) t B d ∧ RdUp w' R P ∧ KeepB (fun b => b = R) w w'

theorem PairUp.drew {R P L : Nat} {w w' : World} {e : Ending} (h : PairUp R P L w e w') : PairUp R P L w e w'.drew := by
  obtain ⟨s, t, A, B, c, d, he, h1, h2, h3, h4⟩ := h
  have hb : Below w'.heap.size w' w'.drew := (Below.refl _ _).drew
  exact ⟨s, t, A, B, c, d, he, h1.keep (KeepB.of_below (K := fun _ => False) hb) (fun _ _ h => h), h2.keep (KeepB.of_below (K := fun _ => False) hb) (fun _ _ h => h), h3.later hb, h4.trans (KeepB.of_below hb)⟩
theorem TwoSt.fin {w w0 wr : World} {R P P' L L' b4 b5 : Nat} {s t : Sy} {A B : Option Addr} {c d : Nat} (h : TwoSt w0 wr R P L b4 b5 s t A B c d) (hb : Below w.heap.size w w0) (hsz : w.heap.size + 2 ≤ w0.heap.size) (hR : R < w.heap.size) (hP : P ≤ P') (hL : L ≤ L') {v1 v2 v3 v4 v5 v6 : Value} :
    PairUp R P' L' w (.returned (.tuple #[.agg #[.int .i64 s.al, .int .i64 s.st, .slice A s.es.length c], .agg #[.int .i64 t.al, .int .i64 t.st, .slice B t.es.length d]]))
      ((((((wr.setCell ⟨w.heap.size, 0, none⟩ v1).setCell ⟨w.heap.size, 1, none⟩ v2).setCell ⟨w.heap.size, 2, none⟩ v3).setCell ⟨w.heap.size + 1, 0, none⟩ v4).setCell ⟨w.heap.size + 1, 1, none⟩ v5).setCell ⟨w.heap.size + 1, 2, none⟩ v6) := by
  have hk : KeepB (fun b => b = w.heap.size ∨ b = w.heap.size + 1) wr ((((((wr.setCell ⟨w.heap.size, 0, none⟩ v1).setCell ⟨w.heap.size, 1, none⟩ v2).setCell ⟨w.heap.size, 2, none⟩ v3).setCell ⟨w.heap.size + 1, 0, none⟩ v4).setCell ⟨w.heap.size + 1, 1, none⟩ v5).setCell ⟨w.heap.size + 1, 2, none⟩ v6) :=
    ((((((KeepB.refl _ wr).setCell _ _ (by simp)).setCell _ _ (by simp)).setCell _ _ (by simp)).setCell _ _ (by simp)).setCell _ _ (by simp)).setCell _ _ (by simp)
  have hg : ∀ {s : Sy} {A : Option Addr} {c : Nat}, GotSy w0 wr R L (fun b => b = b4 ∨ b = b5) s A c → GotSy w ((((((wr.setCell ⟨w.heap.size, 0, none⟩ v1).setCell ⟨w.heap.size, 1, none⟩ v2).setCell ⟨w.heap.size, 2, none⟩ v3).setCell ⟨w.heap.size + 1, 0, none⟩ v4).setCell ⟨w.heap.size + 1, 1, none⟩ v5).setCell ⟨w.heap.size + 1, 2, none⟩ v6) R L' (fun _ => False) s A c := fun {s A c} g => by
    have g2 := g.keep hk fun b h1 h2 => by omega
    exact ⟨g2.le, g2.top, by have := g2.len; omega, g2.at_, fun b o e => by have := g2.fresh b o e; omega, fun _ _ _ _ h => h⟩
  refine ⟨s, t, A, B, c, d, rfl, hg h.sg, hg h.tg, (h.rd.more hP).keep hk (by omega), ?_⟩
  exact ((((((((KeepB.of_below hb).trans h.keep).setCell _ _ (by simp)).setCell _ _ (by simp)).setCell _ _ (by simp)).setCell _ _ (fun hh => by have : w.heap.size + 1 < w.heap.size := hh; omega)).setCell _ _ (fun hh => by have : w.heap.size + 1 < w.heap.size := hh; omega)).setCell _ _ (fun hh => by have : w.heap.size + 1 < w.heap.size := hh; omega))

set_option maxRecDepth 100000 in
set_option maxHeartbeats 16000000 in
theorem l6Pair_up (R P : Nat) (w : World) (hP : P + 50000000 ≤ 1125899906842624) (hr : RdUp w R P) :
    Calls Tryd.prog 53 #[.pointer (some ⟨R, 0, none⟩)] w (PairUp R (P + 20000000) 40000 w) := by
  have hR := hr.lt
  have hres2 := (Blk.new w 25 #[.int .i64 0, .int .i64 0, .slice none 0 0]).alloc (.cells #[.int .i64 0, .int .i64 0, .slice none 0 0] 25)
  have hres3 := Blk.new (w.alloc (.cells #[.int .i64 0, .int .i64 0, .slice none 0 0] 25)) 25 #[.int .i64 0, .int .i64 0, .slice none 0 0]
  have hb0 : Below w.heap.size w ((w.alloc (.cells #[.int .i64 0, .int .i64 0, .slice none 0 0] 25)).alloc (.cells #[.int .i64 0, .int .i64 0, .slice none 0 0] 25)) := ((Below.refl _ _).alloc (Nat.le_refl _) _).alloc (by simp) _
  have hsz0 : ((w.alloc (.cells #[.int .i64 0, .int .i64 0, .slice none 0 0] 25)).alloc (.cells #[.int .i64 0, .int .i64 0, .slice none 0 0] 25)).heap.size = w.heap.size + 2 := by simp
  simp only [World.size_alloc] at hres3
  generalize hw0 : (w.alloc (.cells #[.int .i64 0, .int .i64 0, .slice none 0 0] 25)).alloc (.cells #[.int .i64 0, .int .i64 0, .slice none 0 0] 25) = w0 at hres2 hres3 hb0 hsz0
  have hr0 := hid (hr.later hb0)
  have hR0 : R < w0.heap.size := by omega
  replace hres2 := hid hres2
  replace hres3 := hid hres3
  replace hsz0 := hid hsz0
  clear hr
  go_enter Tryd.func53, Tryd.ntmps53
  go_wp2_with fail
  refine (l2Draw_up R P w0 (by omega) hr0.out).mono ?_
  rintro e w1 ⟨s, A, c, rfl, a1, a2, a3, a4, a5, a6, a7⟩
  unfold Sy.val
  have hz1 := a7.size
  have hba : Below w1.heap.size w1 (w1.alloc (.cells #[.int .i64 s.al, .int .i64 s.st, .slice A s.es.length c] 25)) := (Below.refl _ _).alloc (Nat.le_refl _) _
  have hs1 := hid (a4.later hba)
  have hnb := Blk.new w1 25 #[.int .i64 s.al, .int .i64 s.st, .slice A s.es.length c]
  have hkr1 := hid (a7.trans (KeepB.of_below hba))
  have hrd1 := hid (a6.later hba)
  have hfa := hid a5
  have hfar : Hid (∀ b o, A = some ⟨b, o, none⟩ → 0 < s.es.length → b < w1.heap.size) := hid (fun b o e hn => by obtain ⟨b', o', e', hb', -⟩ := a4 hn; rw [e] at e'; cases e'; exact hb')
  generalize hwa : w1.alloc (.cells #[.int .i64 s.al, .int .i64 s.st, .slice A s.es.length c] 25) = wa at hs1 hnb hkr1 hrd1 hba
  have hza : w1.heap.size < wa.heap.size := hnb.lt
  clear a4 a5 a6 a7 hw0
  have c0 := hnb.cell 0
  have c1 := hnb.cell 1
  have c2 := hnb.cell 2
  simp only [List.getElem?_toArray, List.getElem?_cons_zero, List.getElem?_cons_succ] at c0 c1 c2
  go_wp2_with fail
  refine (l6Change_up R (P + 2000) 1536 s A c wa (by omega) a1 a2 a3 (by omega) hs1.out (fun b o e => by have := hfa.out b o e; omega) hrd1.out).mono ?_
  rintro e w2 ⟨t, B, d, rfl, b1, b2, b3, b4, b5, b6, b7⟩
  unfold Sy.val
  have hz2 := b7.size
  have hbb : Below w2.heap.size w2 (w2.alloc (.cells #[.int .i64 t.al, .int .i64 t.st, .slice B t.es.length d] 25)) := (Below.refl _ _).alloc (Nat.le_refl _) _
  have hT2 : TwoSt w0 (w2.alloc (.cells #[.int .i64 t.al, .int .i64 t.st, .slice B t.es.length d] 25)) R (P + 2000 + 4000000) 3073 w1.heap.size w2.heap.size s t A B c d := by
    refine ⟨(hnb.keep b7 (by omega)).alloc _, Blk.new w2 _ _, ⟨a1, a2, by omega, (EdsAt.keepR hs1.out b7 (fun b o e => by have := hfa.out b o e; omega)).later hbb, hfa.out, fun hn b o e hk => ?_⟩, ⟨b1, b2, b3, b4.later hbb, fun b o e => by have := b5 b o e; omega, fun hn b o e hk => ?_⟩, b6.later hbb, (hkr1.out.trans b7).trans (KeepB.of_below hbb), by omega, by omega, by omega⟩
    · have := hfar.out b o e hn; omega
    · obtain ⟨b', o', e', hb', -⟩ := b4 hn
      rw [e] at e'; cases e'
      have := b5 b o e
      omega
  generalize hwb : w2.alloc (.cells #[.int .i64 t.al, .int .i64 t.st, .slice B t.es.length d] 25) = wb at hT2 hbb
  replace hT2 := hid hT2
  clear b4 b5 b6 b7 hbb hs1 hnb hkr1 hrd1 hfa hfar hwa hba c0 c1 c2
  go_wp2_with fail
  refine (pick_up R (P + 2000 + 4000000) 4 wb (by omega) (by omega) hT2.out.rd).mono ?_
  rintro e w3 ⟨j, rfl, hj0, hj1, hr3, hk3⟩
  have hT3 := hid (hT2.out.call hk3 hr3 hR0)
  clear hr3 hk3 hT2 hwb
  go_upto_if 13 with fail
  refine cut_here fun KC hKC => ?_
  go_cut [] (fun wx => ∃ (t : Sy) (B : Option Addr) (d : Nat), TwoSt w0 wx R (P + 9000000) 7000 w1.heap.size w2.heap.size s t A B c d)
  case first =>
    by_cases h0 : j = 0
    · subst h0
      have c0 := hT3.out.sb.cell 0
      simp only [List.getElem?_toArray, List.getElem?_cons_zero, List.getElem?_cons_succ] at c0
      have hneR : w1.heap.size ≠ R := by omega
      have q0 := RI.cell hT3.out.rd c0 hneR
      go_wp2_with fail
      clear c0
      refine GK.wp_region 9 [9, 10] 200 (KeepB fun b => b = R) (RI w3 R (P + 2000 + 4000000 + 1)) (fun _ u _ => ∃ x : Int, u = .int .i64 x ∧ x ≤ 4) (by kernel_rfl) (by kernel_rfl) (RI.way w3 R _) (by decide) (RI.drew hT3.out.rd) ?_
      simp only [List.take_succ_cons, List.take_zero]
      (repeat (refine GK.grow_quiet w3 (by rfl) (by rfl) ?_; intro K hK; go_big_quiet_op; go_big_quiet_on))
      refine GK.grow_new (K := fun b => b = R) (by rfl) w3.heap.size (fun b => .slice (some ⟨b, 0, none⟩) 4 4) 3 #[.int .i64 2, .int .i64 3, .int .i64 1, .int .i64 4] (fun _ => by go_simp) rfl (fun _ _ o h => RI.alloc o h) (fun _ _ h => RI.size h) (fun k hk => by have := hT3.out.rd.lt; omega) (fun g hg => ?_)
      simp only [Act.put, List.setIfInBounds_toArray, List.set_cons_zero, List.set_cons_succ]
      (repeat (refine GK.grow_quiet w3 (by rfl) (by rfl) ?_; intro K hK; go_big_quiet_op; go_big_quiet_on))
      refine GK.grow_call (by rfl) (fun u w w' _ h => h) (fun m wq hm hbq hf => ?_) ?_
      · obtain ⟨b', z1, z2, z3⟩ := hf _ List.mem_cons_self (by kernel_rfl)
        cases z1
        have hlt4 := hT3.out.rd.lt
        go_simp
        exact ⟨rfl, (num_blk R (P + 2000 + 4000000 + 1 + m * 10000) g [2, 3, 1, 4] wq _ (by decide) (by decide) (by omega) z3 (by omega) hbq.2).mono fun e w' ⟨x, h1, h2, h3, h4⟩ => ⟨_, h2, RI.call hbq h4 h3 (by omega), x, rfl, by simp at h1; omega⟩⟩
      rintro u ⟨_, _, _, x1, rfl, hx1⟩
      simp only [Act.put, List.setIfInBounds_toArray, List.set_cons_zero, List.set_cons_succ]
      (repeat (refine GK.grow_quiet w3 (by rfl) (by rfl) ?_; intro K hK; go_big_quiet_op; go_big_quiet_on))
      refine GK.grow_new (K := fun b => b = R) (by rfl) w3.heap.size (fun b => .slice (some ⟨b, 0, none⟩) 2 2) 3 #[.int .i64 2, .int .i64 3] (fun _ => by go_simp) rfl (fun _ _ o h => RI.alloc o h) (fun _ _ h => RI.size h) (fun k hk => by have := hT3.out.rd.lt; omega) (fun g2 hg2 => ?_)
      simp only [Act.put, List.setIfInBounds_toArray, List.set_cons_zero, List.set_cons_succ]
      (repeat (refine GK.grow_quiet w3 (by rfl) (by rfl) ?_; intro K hK; go_big_quiet_op; go_big_quiet_on))
      refine GK.grow_call (by rfl) (fun u w w' _ h => h) (fun m wq hm hbq hf => ?_) ?_
      · obtain ⟨b', z1, z2, z3⟩ := hf _ List.mem_cons_self (by kernel_rfl)
        cases z1
        have hlt4 := hT3.out.rd.lt
        go_simp
        exact ⟨rfl, (num_blk R (P + 2000 + 4000000 + 1 + m * 10000) g2 [2, 3] wq _ (by decide) (by decide) (by omega) z3 (by omega) hbq.2).mono fun e w' ⟨x, h1, h2, h3, h4⟩ => ⟨_, h2, RI.call hbq h4 h3 (by omega), x, rfl, by simp at h1; omega⟩⟩
      rintro u ⟨_, _, _, x2, rfl, hx2⟩
      simp only [Act.put, List.setIfInBounds_toArray, List.set_cons_zero, List.set_cons_succ]
      refine GK.grow_nil ?_
      intro w4 hw4 _
      simp only [List.filterMap_cons, List.filterMap_nil, List.getElem?_cons_zero, List.getElem?_cons_succ]
      have hT4 := hid (hT3.out.call hw4.1 hw4.2 hR0)
      clear q0 hw4
      go_wp2_with fail
      refine (l2Random_up R _ s.al x1 x2 w4 (by omega) (by omega) (by omega) hT4.out.rd).mono ?_
      rintro e w5 ⟨t', B', d', rfl, a1, a2, a3, a4, a5, a6, a7⟩
      unfold Sy.val
      have hT5 := (hT4.out.call a7 a6 hR0).more (L' := 7000) (Nat.le_refl _) (by omega)
      have h4l := hT4.out.sb.lt
      have h5l := hT4.out.tb.lt
      have hG := GotSy.new (w := w0) (R := R) (L := 7000) (K := fun b => b = w1.heap.size ∨ b = w2.heap.size) a1 a2 (by omega) a4 a5 hT4.out.keep.size (by rintro b (e | e) <;> omega)
      have hT6 := hid ((hT5.setT hG hR0).more (P' := P + 9000000) (L' := 7000) (by omega) (Nat.le_refl _))
      have f0 := hT5.tb.frozen 0
      have f1 := hT5.tb.frozen 1
      have f2 := hT5.tb.frozen 2
      have d0 := hT5.tb.cell 0
      have d1 := hT5.tb.cell 1
      have d2 := hT5.tb.cell 2
      simp only [List.getElem?_toArray, List.getElem?_cons_zero, List.getElem?_cons_succ] at d0 d1 d2
      have h5l5 := hT5.tb.lt
      clear a4 a5 a6 a7 hT5 hG
      go_wp2_with fail
      go_meet
      exact ⟨t', B', d', hT6.out⟩
    · have h0b : ((j : Int) == 0) = false := by simpa using h0
      replace h0 := hid h0
      by_cases h1 : j = 1
      · subst h1
        have d0 := hT3.out.tb.cell 0
        have d1 := hT3.out.tb.cell 1
        have d2 := hT3.out.tb.cell 2
        simp only [List.getElem?_toArray, List.getElem?_cons_zero, List.getElem?_cons_succ] at d0 d1 d2
        go_wp2_with fail
        refine (l6Change_up R (P + 2000 + 4000000 + 1) 3073 t B d w3 (by omega) hT3.out.tg.le hT3.out.tg.top hT3.out.tg.len (by omega) hT3.out.tg.at_ (fun b o e => by have := hT3.out.tg.fresh b o e; omega) hT3.out.rd).mono ?_
        rintro e w5 ⟨t', B', d', rfl, a1, a2, a3, a4, a5, a6, a7⟩
        unfold Sy.val
        clear d0 d1 d2
        have hT5 := (hT3.out.call a7 a6 hR0).more (L' := 7000) (Nat.le_refl _) (by omega)
        have h4l := hT3.out.sb.lt
        have h5l := hT3.out.tb.lt
        have hG := GotSy.new (w := w0) (R := R) (L := 7000) (K := fun b => b = w1.heap.size ∨ b = w2.heap.size) a1 a2 (by omega) a4 a5 hT3.out.keep.size (by rintro b (e | e) <;> omega)
        have hT6 := hid ((hT5.setT hG hR0).more (P' := P + 9000000) (L' := 7000) (by omega) (Nat.le_refl _))
        have f0 := hT5.tb.frozen 0
        have f1 := hT5.tb.frozen 1
        have f2 := hT5.tb.frozen 2
        have d0 := hT5.tb.cell 0
        have d1 := hT5.tb.cell 1
        have d2 := hT5.tb.cell 2
        simp only [List.getElem?_toArray, List.getElem?_cons_zero, List.getElem?_cons_succ] at d0 d1 d2
        have h5l5 := hT5.tb.lt
        clear a4 a5 a6 a7 hT5 hG
        go_wp2_with fail
        go_meet
        exact ⟨t', B', d', hT6.out⟩
      · have h1b : ((j : Int) == 1) = false := by simpa using h1
        replace h1 := hid h1
        go_wp2_with fail
        go_meet
        exact ⟨t, B, d, hT3.out.more (by omega) (by omega)⟩
  case rest =>
    refine hKC _ _ ?_
    clear hT3
    obtain ⟨t, B, d, hT3⟩ := hcut
    replace hT3 := hid hT3
    go_wp2_with fail
    refine (pick_up R (P + 9000000) 24 wc (by omega) (by omega) hT3.out.rd).mono ?_
    rintro e w8 ⟨j2, rfl, hj20, hj21, hr8, hk8⟩
    have hT8 := hid (hT3.out.call hk8 hr8 hR0)
    clear hr8 hk8 hT3
    go_upto_if 32 with fail
    refine cut_here fun KD hKD => ?_
    go_cut [] (fun wx => ∃ (s t : Sy) (A B : Option Addr) (c d : Nat), TwoSt w0 wx R (P + 15000000) 8000 w1.heap.size w2.heap.size s t A B c d)
    case first =>
      by_cases h0 : j2 = 0
      · subst h0
        have d0 := hT8.out.sb.cell 0
        have d1 := hT8.out.sb.cell 1
        have d2 := hT8.out.sb.cell 2
        simp only [List.getElem?_toArray, List.getElem?_cons_zero, List.getElem?_cons_succ] at d0 d1 d2
        go_wp2_with fail
        refine (l2Wrong_up R (P + 9000001) 7000 s A c w8 (by omega) hT8.out.sg.le hT8.out.sg.top hT8.out.sg.len (by omega) hT8.out.sg.at_ hT8.out.rd).mono ?_
        rintro e w9 ⟨s1, A1, c1, rfl, a1, a2, a3, a4, a5, a6, a7⟩
        unfold Sy.val
        clear d0 d1 d2
        have hT9 := hid (hT8.out.call a7 a6 hR0)
        have hE9 := hid a4
        have hr9 := hid a6
        clear a4 a5 a6 a7
        go_wp2_with fail
        refine (l2Wrong_up R (P + 9000001 + 400000) 7001 s1 A1 c1 w9 (by omega) a1 a2 a3 (by omega) hE9.out hr9.out).mono ?_
        rintro e w10 ⟨s2, A2, c2, rfl, e1, e2, e3, e4, e5, e6, e7⟩
        unfold Sy.val
        have hT10 := hid (hT9.out.call e7 e6 hR0)
        have hE10 := hid e4
        have hr10 := hid e6
        clear a1 a2 a3 e4 e5 e6 e7
        go_wp2_with fail
        refine (l2Wrong_up R (P + 9000001 + 400000 + 400000) 7002 s2 A2 c2 w10 (by omega) e1 e2 e3 (by omega) hE10.out hr10.out).mono ?_
        rintro e w11 ⟨s3, A3, c3, rfl, a1, a2, a3, a4, a5, a6, a7⟩
        unfold Sy.val
        clear e1 e2 e3
        have h4l := hT10.out.sb.lt
        have h5l := hT10.out.tb.lt
        have hG := GotSy.new (w := w0) (R := R) (L := 8000) (K := fun b => b = w1.heap.size ∨ b = w2.heap.size) a1 a2 (by omega) a4 a5 hT10.out.keep.size (by rintro b (e | e) <;> omega)
        have hT5 := (hT10.out.call a7 a6 hR0).more (L' := 8000) (Nat.le_refl _) (by omega)
        have hT6 := hid ((hT5.setS hG hR0).more (P' := P + 15000000) (L' := 8000) (by omega) (Nat.le_refl _))
        have f0 := hT5.sb.frozen 0
        have f1 := hT5.sb.frozen 1
        have f2 := hT5.sb.frozen 2
        have d0 := hT5.sb.cell 0
        have d1 := hT5.sb.cell 1
        have d2 := hT5.sb.cell 2
        simp only [List.getElem?_toArray, List.getElem?_cons_zero, List.getElem?_cons_succ] at d0 d1 d2
        have h5l5 := hT5.sb.lt
        clear a4 a5 a6 a7 hT5 hG
        go_wp2_with fail
        go_meet
        exact ⟨_, _, _, _, _, _, hT6.out⟩
      · have h0b : ((j2 : Int) == 0) = false := by simpa using h0
        replace h0 := hid h0
        by_cases h1 : j2 = 1
        · subst h1
          have d0 := hT8.out.tb.cell 0
          have d1 := hT8.out.tb.cell 1
          have d2 := hT8.out.tb.cell 2
          simp only [List.getElem?_toArray, List.getElem?_cons_zero, List.getElem?_cons_succ] at d0 d1 d2
          go_wp2_with fail
          refine (l2Wrong_up R (P + 9000001) 7000 t B d w8 (by omega) hT8.out.tg.le hT8.out.tg.top hT8.out.tg.len (by omega) hT8.out.tg.at_ hT8.out.rd).mono ?_
          rintro e w9 ⟨s1, A1, c1, rfl, a1, a2, a3, a4, a5, a6, a7⟩
          unfold Sy.val
          clear d0 d1 d2
          have hT9 := hid (hT8.out.call a7 a6 hR0)
          have hE9 := hid a4
          have hr9 := hid a6
          clear a4 a5 a6 a7
          go_wp2_with fail
          refine (l2Wrong_up R (P + 9000001 + 400000) 7001 s1 A1 c1 w9 (by omega) a1 a2 a3 (by omega) hE9.out hr9.out).mono ?_
          rintro e w10 ⟨s2, A2, c2, rfl, e1, e2, e3, e4, e5, e6, e7⟩
          unfold Sy.val
          have hT10 := hid (hT9.out.call e7 e6 hR0)
          have hE10 := hid e4
          have hr10 := hid e6
          clear a1 a2 a3 e4 e5 e6 e7
          go_wp2_with fail
          refine (l2Wrong_up R (P + 9000001 + 400000 + 400000) 7002 s2 A2 c2 w10 (by omega) e1 e2 e3 (by omega) hE10.out hr10.out).mono ?_
          rintro e w11 ⟨s3, A3, c3, rfl, a1, a2, a3, a4, a5, a6, a7⟩
          unfold Sy.val
          clear e1 e2 e3
          have h4l := hT10.out.sb.lt
          have h5l := hT10.out.tb.lt
          have hG := GotSy.new (w := w0) (R := R) (L := 8000) (K := fun b => b = w1.heap.size ∨ b = w2.heap.size) a1 a2 (by omega) a4 a5 hT10.out.keep.size (by rintro b (e | e) <;> omega)
          have hT5 := (hT10.out.call a7 a6 hR0).more (L' := 8000) (Nat.le_refl _) (by omega)
          have hT6 := hid ((hT5.setT hG hR0).more (P' := P + 15000000) (L' := 8000) (by omega) (Nat.le_refl _))
          have f0 := hT5.tb.frozen 0
          have f1 := hT5.tb.frozen 1
          have f2 := hT5.tb.frozen 2
          have d0 := hT5.tb.cell 0
          have d1 := hT5.tb.cell 1
          have d2 := hT5.tb.cell 2
          simp only [List.getElem?_toArray, List.getElem?_cons_zero, List.getElem?_cons_succ] at d0 d1 d2
          have h5l5 := hT5.tb.lt
          clear a4 a5 a6 a7 hT5 hG
          go_wp2_with fail
          go_meet
          exact ⟨_, _, _, _, _, _, hT6.out⟩
        · have h1b : ((j2 : Int) == 1) = false := by simpa using h1
          replace h1 := hid h1
          by_cases h2 : j2 = 2
          · subst h2
            go_wp2_with fail
            refine (l2Draw_up R (P + 9000001) w8 (by omega) hT8.out.rd).mono ?_
            rintro e w9 ⟨s1, A1, c1, rfl, a1, a2, a3, a4, a5, a6, a7⟩
            unfold Sy.val
            have h4l := hT8.out.sb.lt
            have h5l := hT8.out.tb.lt
            have hG := GotSy.new (w := w0) (R := R) (L := 8000) (K := fun b => b = w1.heap.size ∨ b = w2.heap.size) a1 a2 (by omega) a4 a5 hT8.out.keep.size (by rintro b (e | e) <;> omega)
            have hT5 := (hT8.out.call a7 a6 hR0).more (L' := 8000) (Nat.le_refl _) (by omega)
            have hT6 := hid ((hT5.setT hG hR0).more (P' := P + 15000000) (L' := 8000) (by omega) (Nat.le_refl _))
            have f0 := hT5.tb.frozen 0
            have f1 := hT5.tb.frozen 1
            have f2 := hT5.tb.frozen 2
            have d0 := hT5.tb.cell 0
            have d1 := hT5.tb.cell 1
            have d2 := hT5.tb.cell 2
            simp only [List.getElem?_toArray, List.getElem?_cons_zero, List.getElem?_cons_succ] at d0 d1 d2
            have h5l5 := hT5.tb.lt
            clear a4 a5 a6 a7 hT5 hG
            go_wp2_with fail
            go_meet
            exact ⟨_, _, _, _, _, _, hT6.out⟩
          · have h2b : ((j2 : Int) == 2) = false := by simpa using h2
            replace h2 := hid h2
            by_cases h3 : j2 = 3
            · subst h3
              go_wp2_with fail
              refine (l2Big_up R (P + 9000001) w8 (by omega) hT8.out.rd).mono ?_
              rintro e w9 ⟨s1, A1, c1, rfl, a1, a2, a3, a4, a5, a6, a7, a8⟩
              unfold Sy.val
              have hn4 := hT8.out.sb.lt
              have hn5 := hT8.out.tb.lt
              have hG := GotSy.new (w := w0) (R := R) (L := 8000) (K := fun b => b = w1.heap.size ∨ b = w2.heap.size) a1 a2 (by omega) a4 a5 hT8.out.keep.size (by rintro b (e | e) <;> omega)
              have hT5 := (hT8.out.call a7 a6 hR0).more (L' := 8000) (Nat.le_refl _) (by omega)
              have hT6 := hT5.setS hG hR0
              have f0 := hT5.sb.frozen 0
              have f1 := hT5.sb.frozen 1
              have f2 := hT5.sb.frozen 2
              have d0 := hT5.sb.cell 0
              have d1 := hT5.sb.cell 1
              have d2 := hT5.sb.cell 2
              simp only [List.getElem?_toArray, List.getElem?_cons_zero, List.getElem?_cons_succ] at d0 d1 d2
              have h5l5 := hT5.sb.lt
              obtain ⟨w10, hw10⟩ : ∃ w10, ((w9.setCell ⟨w1.heap.size, 0, none⟩ (.int .i64 s1.al)).setCell ⟨w1.heap.size, 1, none⟩ (.int .i64 s1.st)).setCell ⟨w1.heap.size, 2, none⟩ (.slice A1 s1.es.length c1) = w10 := ⟨_, rfl⟩
              rw [hw10] at hT6
              replace hT6 := hid hT6
              obtain ⟨n, hn⟩ : ∃ n, Hid (s1.es.length = n + 1) := ⟨s1.es.length - 1, hid (by omega)⟩
              clear a4 a5 a6 a7 hT5 hG
              go_upto_region 17 with fail
              clear d0 d1 d2 f0 f1 f2 hw10
              have c0 := hT6.out.sb.cell 0
              have c1' := hT6.out.sb.cell 1
              have c2 := hT6.out.sb.cell 2
              simp only [List.getElem?_toArray, List.getElem?_cons_zero, List.getElem?_cons_succ] at c0 c1' c2
              have q0 := GK.BI.cell c0
              have q1 := GK.BI.cell c1'
              have q2 := GK.BI.cell c2
              have hnl := hn.out
              have k1 : IntKind.i64.wrap ((s1.es.length : Int) - 1) = (n : Int) := by rw [IntWalk.i64_in _ (by omega)]; omega
              have k2 : (0 : Int) ≤ (n : Int) := by omega
              have k3 : (n : Int) ≤ (c1 : Int) := by omega
              have hlt : (s1.es.take n).length = n := by rw [List.length_take]; omega
              have hEt := hid (EdsAt.take hT6.out.sg.at_ n)
              obtain ⟨i0, hi, hz0, hz1, hz2⟩ := info_parts infoEd
              clear c0 c1' c2
              refine GK.wp_region 13 [13, 14] 200 (KeepB fun _ => False) (GK.BI w10) (fun _ _ _ => True) (by kernel_rfl) (by kernel_rfl) (GK.BI.way w10) (by decide) (Below.refl _ _).drew ?_
              simp only [List.take_succ_cons, List.take_zero]
              (repeat (refine GK.grow_quiet w10 (by rfl) (by rfl) ?_; intro K hK; go_big_quiet_op; go_big_quiet_on))
              refine GK.grow_new (K := fun _ => False) (by rfl) _ (fun b => .slice (some ⟨b, 0, none⟩) 0 0) 64 #[] (fun _ => by go_simp) rfl (fun _ _ o h => GK.BI.alloc o h) (fun _ _ h => GK.BI.size h) (fun _ h => h.elim) (fun b hb => ?_)
              simp only [Act.put, List.setIfInBounds_toArray, List.set_cons_zero, List.set_cons_succ]
              (repeat (refine GK.grow_quiet w10 (by rfl) (by rfl) ?_; intro K hK; go_big_quiet_op; go_big_quiet_on))
              refine GK.grow_copy (by rfl) _ _ 23 (by rfl) 64 i0 (.agg #[.int .i64 0, .int .i64 0, .int .i64 0]) 3 24 Tryd.underlying23 hi hz0 hz1 hz2 rfl b (by rfl) (fun w hf => ?_) A1 n c1 (edCells (s1.es.take n)) (by rfl) (by rw [edCells_len, hlt]) (fun hn => EdsAt.news hEt.out (by rw [hlt]; exact hn)) (edCells_one _) (by unfold maxLen; omega) (by omega) fun v hv => ?_
              · obtain ⟨b', e1, e2, e3⟩ := hf _ List.mem_cons_self (by kernel_rfl)
                cases e1
                exact ⟨e2, e3⟩
              obtain ⟨Av, cv, hve, -, -⟩ : ∃ Av cv, v = .slice Av n cv ∧ n ≤ cv ∧ cv ≤ 9223372036854775807 := by obtain ⟨_, _, hv⟩ := hv; exact own_slice hv
              subst hve
              clear hv
              simp only [Act.put, List.setIfInBounds_toArray, List.set_cons_zero, List.set_cons_succ]
              refine GK.grow_nil ?_
              intro w11 hw11 hf
              simp only [List.filterMap_cons, List.filterMap_nil, List.getElem?_cons_zero, List.getElem?_cons_succ]
              have hown := hf _ List.mem_cons_self
              replace hw11 : Below w10.heap.size w10 w11 := hw11
              clear hf q0 q1 q2
              have hown' : OwnEds w11 w10.heap.size (.slice Av n cv) (s1.es.take n) := by unfold OwnEds; rw [hlt]; exact hown
              obtain ⟨A2, c2, hve, e1, e2, e3, e4⟩ := OwnEds.read hown'
              rw [hlt] at hve e1
              cases hve
              have hT7 := (hT6.out.call (KeepB.of_below hw11) (hT6.out.rd.later hw11) hR0)
              have hlw : w1.heap.size < w10.heap.size ∧ w2.heap.size < w10.heap.size := ⟨hT6.out.sb.lt, hT6.out.tb.lt⟩
              have hG := GotSy.new (w := w0) (R := R) (L := 8000) (K := fun b => b = w1.heap.size ∨ b = w2.heap.size) (s := ⟨s1.al, s1.st, s1.es.take n⟩) (by show (s1.es.take n).length ≤ cv; rw [hlt]; exact e1) e2 (by show (s1.es.take n).length ≤ 8000; omega) e3 e4 hT6.out.keep.size (by rintro b (e | e) <;> omega)
              have hT8 := ((hT7.setT hG hR0).more (P' := P + 15000000) (L' := 8000) (by omega) (Nat.le_refl _))
              simp only [hlt] at hT8
              replace hT8 := hid hT8
              have f0 := hT7.tb.frozen 0
              have f1 := hT7.tb.frozen 1
              have f2 := hT7.tb.frozen 2
              have d0 := hT7.tb.cell 0
              have d1 := hT7.tb.cell 1
              have d2 := hT7.tb.cell 2
              simp only [List.getElem?_toArray, List.getElem?_cons_zero, List.getElem?_cons_succ] at d0 d1 d2
              have h5l5 := hT7.tb.lt
              clear hT7 hG hown hown'
              go_wp2_with fail
              go_meet
              exact ⟨_, _, _, _, _, _, hT8.out⟩
            · have h3b : ((j2 : Int) == 3) = false := by simpa using h3
              replace h3 := hid h3
              go_wp2_with fail
              go_meet
              exact ⟨_, _, _, _, _, _, hT8.out.more (by omega) (by omega)⟩
    case rest =>
      refine hKD _ _ ?_
      clear hT8
      obtain ⟨s, t, A, B, c, d, hT⟩ := hcut
      have hk := hT.keep
      have hb2 := hres2.out.keep hk (by omega)
      have hb3 := hres3.out.keep hk (by omega)
      have c0 := hT.sb.cell 0
      have c1 := hT.sb.cell 1
      have c2 := hT.sb.cell 2
      have d0 := hT.tb.cell 0
      have d1 := hT.tb.cell 1
      have d2 := hT.tb.cell 2
      have r0 := hb2.cell 0
      have r1 := hb2.cell 1
      have r2 := hb2.cell 2
      have r3 := hb3.cell 0
      have r4 := hb3.cell 1
      have r5 := hb3.cell 2
      have f0 := hb2.frozen 0
      have f1 := hb2.frozen 1
      have f2 := hb2.frozen 2
      have f3 := hb3.frozen 0
      have f4 := hb3.frozen 1
      have f5 := hb3.frozen 2
      simp only [List.getElem?_toArray, List.getElem?_cons_zero, List.getElem?_cons_succ] at c0 c1 c2 d0 d1 d2 r0 r1 r2 r3 r4 r5
      have s0 := hsz0.out
      have n1 : w1.heap.size ≠ w.heap.size := by omega
      have n2 : w1.heap.size ≠ w.heap.size + 1 := by omega
      have n3 : w2.heap.size ≠ w.heap.size := by omega
      have n4 : w2.heap.size ≠ w.heap.size + 1 := by omega
      have l1 := hT.sb.lt
      have l2 := hT.tb.lt
      have l3 := hb2.lt
      have l4 := hb3.lt
      have hfin := hid (hT.fin (hb0) (by omega : w.heap.size + 2 ≤ w0.heap.size) hR (P' := P + 20000000) (L' := 40000) (by omega) (by omega) (v1 := .int .i64 s.al) (v2 := .int .i64 s.st) (v3 := .slice A s.es.length c) (v4 := .int .i64 t.al) (v5 := .int .i64 t.st) (v6 := .slice B t.es.length d))
      clear hb2 hb3 hk hT
      go_wp2_with fail
      go_region
      go_wp2
      refine bodyPost_ret (v := .tuple #[.agg #[.int .i64 s.al, .int .i64 s.st, .slice A s.es.length c], .agg #[.int .i64 t.al, .int .i64 t.st, .slice B t.es.length d]]) (by simp [results, Tryd.results53, go_sem, r0, r1, r2, r3, r4, r5]) rfl ?_
      exact hfin.out.drew

end Go.Proofs.YtempjhgajcdibaaDoor

/- The drawing kit: the pairs of systems that are drawn for FirstTraceOutside, TracesWithin, SameTraces. -/
namespace Go.Proofs.YtempjhgajcdibaaDoor
open Go.RowKit Go.BigFrame AG

def DrawPair (w : World) (e : Ending) (w' : World) : Prop := ∃ (s t : Sy) (A B : Option Addr) (c d : Nat), e = .returned (.tuple #[s.val A c, t.val B d]) ∧ s.es.length ≤ c ∧ c ≤ 9223372036854775807 ∧ t.es.length ≤ d ∧ d ≤ 9223372036854775807 ∧
  EdsAt w' w'.heap.size A s.es ∧ EdsAt w' w'.heap.size B t.es ∧ Below w.heap.size w w'
theorem DrawPair.of {w w1 wr : World} {R L : Nat} {K J : Nat → Prop} {s t : Sy} {A B : Option Addr} {c d : Nat} (h1 : GotSy w1 wr R L K s A c) (h2 : GotSy w1 wr R L J t B d) (hz : w.heap.size + 2 ≤ w1.heap.size) (hb : Below w.heap.size w wr) (v1 v2 v3 v4 v5 v6 : Value) :
    DrawPair w (.returned (.tuple #[.agg #[.int .i64 s.al, .int .i64 s.st, .slice A s.es.length c], .agg #[.int .i64 t.al, .int .i64 t.st, .slice B t.es.length d]]))
      ((((((wr.setCell ⟨w.heap.size, 0, none⟩ v1).setCell ⟨w.heap.size, 1, none⟩ v2).setCell ⟨w.heap.size, 2, none⟩ v3).setCell ⟨w.heap.size + 1, 0, none⟩ v4).setCell ⟨w.heap.size + 1, 1, none⟩ v5).setCell ⟨w.heap.size + 1, 2, none⟩ v6) := by
  have hk : KeepB (fun b => b = w.heap.size ∨ b = w.heap.size + 1) wr ((((((wr.setCell ⟨w.heap.size, 0, none⟩ v1).setCell ⟨w.heap.size, 1, none⟩ v2).setCell ⟨w.heap.size, 2, none⟩ v3).setCell ⟨w.heap.size + 1, 0, none⟩ v4).setCell ⟨w.heap.size + 1, 1, none⟩ v5).setCell ⟨w.heap.size + 1, 2, none⟩ v6) :=
    ((((((KeepB.refl _ wr).setCell _ _ (by simp)).setCell _ _ (by simp)).setCell _ _ (by simp)).setCell _ _ (by simp)).setCell _ _ (by simp)).setCell _ _ (by simp)
  exact ⟨s, t, A, B, c, d, rfl, h1.le, h1.top, h2.le, h2.top, (h1.keep hk fun b h1 h2 => by omega).at_, (h2.keep hk fun b h1 h2 => by omega).at_, KeepB.below hb hk hb.size (fun k hk => by omega)⟩

set_option maxRecDepth 100000 in
set_option maxHeartbeats 4000000 in
theorem drawSameTraces_any (A : Option Addr) (n c : Nat) (w : World) (hn : n ≤ c) (hc : c ≤ 9223372036854775807) (hx : CodeAt w A n) :
    Calls Tryd.prog 15 #[.slice A n c] w (DrawPair w) := by
  have hres2 := (Blk.new w 25 #[.int .i64 0, .int .i64 0, .slice none 0 0]).alloc (.cells #[.int .i64 0, .int .i64 0, .slice none 0 0] 25)
  have hres3 := Blk.new (w.alloc (.cells #[.int .i64 0, .int .i64 0, .slice none 0 0] 25)) 25 #[.int .i64 0, .int .i64 0, .slice none 0 0]
  have hb0 : Below w.heap.size w ((w.alloc (.cells #[.int .i64 0, .int .i64 0, .slice none 0 0] 25)).alloc (.cells #[.int .i64 0, .int .i64 0, .slice none 0 0] 25)) := ((Below.refl _ _).alloc (Nat.le_refl _) _).alloc (by simp) _
  have hz0 : ((w.alloc (.cells #[.int .i64 0, .int .i64 0, .slice none 0 0] 25)).alloc (.cells #[.int .i64 0, .int .i64 0, .slice none 0 0] 25)).heap.size = w.heap.size + 2 := by simp
  simp only [World.size_alloc] at hres3
  generalize hw0 : (w.alloc (.cells #[.int .i64 0, .int .i64 0, .slice none 0 0] 25)).alloc (.cells #[.int .i64 0, .int .i64 0, .slice none 0 0] 25) = w0 at hres2 hres3 hb0 hz0
  have hx0 : CodeAt w0 A n := fun h => by
    obtain ⟨b, o, h1, h2, h3⟩ := hx h
    refine ⟨b, o, h1, by omega, fun i hi => ?_⟩
    obtain ⟨y, h4, h5⟩ := h3 i hi
    exact ⟨y, h4, by rw [hb0.cell (by simpa using h2)]; exact h5⟩
  replace hres2 := hid hres2
  replace hres3 := hid hres3
  replace hz0 := hid hz0
  replace hx := hid hx
  replace hx0 := hid hx0
  go_enter Tryd.func15, Tryd.ntmps15
  go_wp2_with fail
  refine (l19Open_any A n c w0 hn hc hx0.out).mono ?_
  rintro e w1 ⟨R, rfl, hR, hr1, hb1⟩
  replace hr1 := hid hr1
  have hz1 := hb1.size
  clear hw0
  go_wp2_with fail
  refine (l6Pair_up R 0 w1 (by omega) hr1.out).mono ?_
  rintro e w2 ⟨s, t, A', B', c', d', rfl, h1, h2, -, h4⟩
  unfold Sy.val
  have hzz := hz0.out
  have hB2 : Below w0.heap.size w0 w2 := KeepB.below hb1 h4 hb1.size (fun k hk => by omega)
  have hfin := hid (DrawPair.of h1 h2 (by omega) (hb0.trans (hB2.mono (by omega))) (.int .i64 s.al) (.int .i64 s.st) (.slice A' s.es.length c') (.int .i64 t.al) (.int .i64 t.st) (.slice B' t.es.length d'))
  have hbl2 := hres2.out.below hB2 (by omega)
  have hbl3 := hres3.out.below hB2 (by omega)
  have d0 := hbl2.cell 0
  have d1 := hbl2.cell 1
  have d2 := hbl2.cell 2
  have e0 := hbl3.cell 0
  have e1 := hbl3.cell 1
  have e2 := hbl3.cell 2
  have f0 := hbl2.frozen 0
  have f1 := hbl2.frozen 1
  have f2 := hbl2.frozen 2
  have g0 := hbl3.frozen 0
  have g1 := hbl3.frozen 1
  have g2 := hbl3.frozen 2
  simp only [List.getElem?_toArray, List.getElem?_cons_zero, List.getElem?_cons_succ] at d0 d1 d2 e0 e1 e2
  have hl2 := hbl2.lt
  have hl3 := hbl3.lt
  clear h1 h2 h4 hbl2 hbl3 hB2 hb1
  go_wp2
  refine bodyPost_ret (v := .tuple #[.agg #[.int .i64 s.al, .int .i64 s.st, .slice A' s.es.length c'], .agg #[.int .i64 t.al, .int .i64 t.st, .slice B' t.es.length d']]) (by simp [results, Tryd.results15, go_sem, d0, d1, d2, e0, e1, e2]) rfl ?_
  exact hfin.out

set_option maxRecDepth 100000 in
set_option maxHeartbeats 4000000 in
theorem drawTracesWithin_any (A : Option Addr) (n c : Nat) (w : World) (hn : n ≤ c) (hc : c ≤ 9223372036854775807) (hx : CodeAt w A n) :
    Calls Tryd.prog 34 #[.slice A n c] w (DrawPair w) := by
  have hres2 := (Blk.new w 25 #[.int .i64 0, .int .i64 0, .slice none 0 0]).alloc (.cells #[.int .i64 0, .int .i64 0, .slice none 0 0] 25)
  have hres3 := Blk.new (w.alloc (.cells #[.int .i64 0, .int .i64 0, .slice none 0 0] 25)) 25 #[.int .i64 0, .int .i64 0, .slice none 0 0]
  have hb0 : Below w.heap.size w ((w.alloc (.cells #[.int .i64 0, .int .i64 0, .slice none 0 0] 25)).alloc (.cells #[.int .i64 0, .int .i64 0, .slice none 0 0] 25)) := ((Below.refl _ _).alloc (Nat.le_refl _) _).alloc (by simp) _
  have hz0 : ((w.alloc (.cells #[.int .i64 0, .int .i64 0, .slice none 0 0] 25)).alloc (.cells #[.int .i64 0, .int .i64 0, .slice none 0 0] 25)).heap.size = w.heap.size + 2 := by simp
  simp only [World.size_alloc] at hres3
  generalize hw0 : (w.alloc (.cells #[.int .i64 0, .int .i64 0, .slice none 0 0] 25)).alloc (.cells #[.int .i64 0, .int .i64 0, .slice none 0 0] 25) = w0 at hres2 hres3 hb0 hz0
  have hx0 : CodeAt w0 A n := fun h => by
    obtain ⟨b, o, h1, h2, h3⟩ := hx h
    refine ⟨b, o, h1, by omega, fun i hi => ?_⟩
    obtain ⟨y, h4, h5⟩ := h3 i hi
    exact ⟨y, h4, by rw [hb0.cell (by simpa using h2)]; exact h5⟩
  replace hres2 := hid hres2
  replace hres3 := hid hres3
  replace hz0 := hid hz0
  replace hx := hid hx
  replace hx0 := hid hx0
  go_enter Tryd.func34, Tryd.ntmps34
  go_wp2_with fail
  refine (l19Open_any A n c w0 hn hc hx0.out).mono ?_
  rintro e w1 ⟨R, rfl, hR, hr1, hb1⟩
  replace hr1 := hid hr1
  have hz1 := hb1.size
  clear hw0
  go_wp2_with fail
  refine (l6Pair_up R 0 w1 (by omega) hr1.out).mono ?_
  rintro e w2 ⟨s, t, A', B', c', d', rfl, h1, h2, -, h4⟩
  unfold Sy.val
  have hzz := hz0.out
  have hB2 : Below w0.heap.size w0 w2 := KeepB.below hb1 h4 hb1.size (fun k hk => by omega)
  have hfin := hid (DrawPair.of h1 h2 (by omega) (hb0.trans (hB2.mono (by omega))) (.int .i64 s.al) (.int .i64 s.st) (.slice A' s.es.length c') (.int .i64 t.al) (.int .i64 t.st) (.slice B' t.es.length d'))
  have hbl2 := hres2.out.below hB2 (by omega)
  have hbl3 := hres3.out.below hB2 (by omega)
  have d0 := hbl2.cell 0
  have d1 := hbl2.cell 1
  have d2 := hbl2.cell 2
  have e0 := hbl3.cell 0
  have e1 := hbl3.cell 1
  have e2 := hbl3.cell 2
  have f0 := hbl2.frozen 0
  have f1 := hbl2.frozen 1
  have f2 := hbl2.frozen 2
  have g0 := hbl3.frozen 0
  have g1 := hbl3.frozen 1
  have g2 := hbl3.frozen 2
  simp only [List.getElem?_toArray, List.getElem?_cons_zero, List.getElem?_cons_succ] at d0 d1 d2 e0 e1 e2
  have hl2 := hbl2.lt
  have hl3 := hbl3.lt
  clear h1 h2 h4 hbl2 hbl3 hB2 hb1
  go_wp2
  refine bodyPost_ret (v := .tuple #[.agg #[.int .i64 s.al, .int .i64 s.st, .slice A' s.es.length c'], .agg #[.int .i64 t.al, .int .i64 t.st, .slice B' t.es.length d']]) (by simp [results, Tryd.results34, go_sem, d0, d1, d2, e0, e1, e2]) rfl ?_
  exact hfin.out

set_option maxRecDepth 100000 in
set_option maxHeartbeats 4000000 in
theorem drawFirstTraceOutside_any (A : Option Addr) (n c : Nat) (w : World) (hn : n ≤ c) (hc : c ≤ 9223372036854775807) (hx : CodeAt w A n) :
    Calls Tryd.prog 29 #[.slice A n c] w (DrawPair w) := by
  have hres2 := (Blk.new w 25 #[.int .i64 0, .int .i64 0, .slice none 0 0]).alloc (.cells #[.int .i64 0, .int .i64 0, .slice none 0 0] 25)
  have hres3 := Blk.new (w.alloc (.cells #[.int .i64 0, .int .i64 0, .slice none 0 0] 25)) 25 #[.int .i64 0, .int .i64 0, .slice none 0 0]
  have hb0 : Below w.heap.size w ((w.alloc (.cells #[.int .i64 0, .int .i64 0, .slice none 0 0] 25)).alloc (.cells #[.int .i64 0, .int .i64 0, .slice none 0 0] 25)) := ((Below.refl _ _).alloc (Nat.le_refl _) _).alloc (by simp) _
  have hz0 : ((w.alloc (.cells #[.int .i64 0, .int .i64 0, .slice none 0 0] 25)).alloc (.cells #[.int .i64 0, .int .i64 0, .slice none 0 0] 25)).heap.size = w.heap.size + 2 := by simp
  simp only [World.size_alloc] at hres3
  generalize hw0 : (w.alloc (.cells #[.int .i64 0, .int .i64 0, .slice none 0 0] 25)).alloc (.cells #[.int .i64 0, .int .i64 0, .slice none 0 0] 25) = w0 at hres2 hres3 hb0 hz0
  have hx0 : CodeAt w0 A n := fun h => by
    obtain ⟨b, o, h1, h2, h3⟩ := hx h
    refine ⟨b, o, h1, by omega, fun i hi => ?_⟩
    obtain ⟨y, h4, h5⟩ := h3 i hi
    exact ⟨y, h4, by rw [hb0.cell (by simpa using h2)]; exact h5⟩
  replace hres2 := hid hres2
  replace hres3 := hid hres3
  replace hz0 := hid hz0
  replace hx := hid hx
  replace hx0 := hid hx0
  go_enter Tryd.func29, Tryd.ntmps29
  go_wp2_with fail
  refine (l19Open_any A n c w0 hn hc hx0.out).mono ?_
  rintro e w1 ⟨R, rfl, hR, hr1, hb1⟩
  replace hr1 := hid hr1
  have hz1 := hb1.size
  clear hw0
  go_wp2_with fail
  refine (l6Pair_up R 0 w1 (by omega) hr1.out).mono ?_
  rintro e w2 ⟨s, t, A', B', c', d', rfl, h1, h2, -, h4⟩
  unfold Sy.val
  have hzz := hz0.out
  have hB2 : Below w0.heap.size w0 w2 := KeepB.below hb1 h4 hb1.size (fun k hk => by omega)
  have hfin := hid (DrawPair.of h1 h2 (by omega) (hb0.trans (hB2.mono (by omega))) (.int .i64 s.al) (.int .i64 s.st) (.slice A' s.es.length c') (.int .i64 t.al) (.int .i64 t.st) (.slice B' t.es.length d'))
  have hbl2 := hres2.out.below hB2 (by omega)
  have hbl3 := hres3.out.below hB2 (by omega)
  have d0 := hbl2.cell 0
  have d1 := hbl2.cell 1
  have d2 := hbl2.cell 2
  have e0 := hbl3.cell 0
  have e1 := hbl3.cell 1
  have e2 := hbl3.cell 2
  have f0 := hbl2.frozen 0
  have f1 := hbl2.frozen 1
  have f2 := hbl2.frozen 2
  have g0 := hbl3.frozen 0
  have g1 := hbl3.frozen 1
  have g2 := hbl3.frozen 2
  simp only [List.getElem?_toArray, List.getElem?_cons_zero, List.getElem?_cons_succ] at d0 d1 d2 e0 e1 e2
  have hl2 := hbl2.lt
  have hl3 := hbl3.lt
  clear h1 h2 h4 hbl2 hbl3 hB2 hb1
  go_wp2
  refine bodyPost_ret (v := .tuple #[.agg #[.int .i64 s.al, .int .i64 s.st, .slice A' s.es.length c'], .agg #[.int .i64 t.al, .int .i64 t.st, .slice B' t.es.length d']]) (by simp [results, Tryd.results29, go_sem, d0, d1, d2, e0, e1, e2]) rfl ?_
  exact hfin.out

end Go.Proofs.YtempjhgajcdibaaDoor
