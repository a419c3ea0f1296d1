/- The drawing kit: l2Trace, DrawStatesAfter, DrawHasTrace. -/
import Derived.Test.YtbomhfbiaedbiaaDoorD16
namespace Go.Proofs.YtbomhfbiaedbiaaDoor
open Go.RowKit Go.BigFrame AG

theorem EdsAt.keepR {w w' : World} {R : Nat} {A : Option Addr} {es : List Ed} (h : EdsAt w w.heap.size A es) (hk : KeepB (fun b => b = R) w w') (hf : FreshA (R + 1) A) : EdsAt w' w'.heap.size A es := fun hl => by
  obtain ⟨b, o, hA, hb, hE⟩ := h hl
  have h1 := hf b o hA
  refine ⟨b, o, hA, Nat.lt_of_lt_of_le hb hk.size, fun i hi => ?_⟩
  rw [KeepB.cell_ hk hb (by show ¬ b = R; omega), KeepB.cell_ hk hb (by show ¬ b = R; omega), KeepB.cell_ hk hb (by show ¬ b = R; omega)]
  exact hE i hi

set_option maxRecDepth 100000 in
set_option maxHeartbeats 4000000 in
theorem l2Trace_up (R P : Nat) (s : Sy) (A : Option Addr) (c n : Nat) (w : World) (hP : P + 1000 ≤ 1125899906842624) (hn : n ≤ 100) (hl : s.es.length ≤ c) (hc : c ≤ 9223372036854775807) (hs : EdsAt w w.heap.size A s.es) (hf : FreshA (R + 1) A) (hr : RdUp w R P) :
    Calls Tryd.prog 136 #[.pointer (some ⟨R, 0, none⟩), s.val A c, .int .i64 n] w (StrUp R (P + 200) 200 w) := by
  have hR := hr.lt
  unfold Sy.val
  obtain ⟨w0, hw0, hz0, hB0, hS0, hS1, hS2⟩ := boxed3 w (Value.int IntKind.i64 s.al) (Value.int IntKind.i64 s.st) (Value.slice A s.es.length c) 36
  have hr0 := hid (hr.later hB0)
  have hs0 := hid (hs.later hB0)
  have p0 := hS0 _ (Below.refl _ _)
  have p1 := hS1 _ (Below.refl _ _)
  have p2 := hS2 _ (Below.refl _ _)
  have hp := hid (show _ ∧ _ ∧ _ from ⟨p0, p1, p2⟩)
  replace hr := hid hr
  replace hs := hid hs
  replace hf := hid hf
  clear p0 p1 p2
  go_enter Tryd.func136, Tryd.ntmps136
  go_wp2_with fail
  refine (pick_up R P (n + 1) w0 (by omega) (by omega) hr0.out).mono ?_
  rintro e w2 ⟨j, rfl, hj0, hj1, hr2, hk2⟩
  obtain ⟨m, rfl⟩ := Int.eq_ofNat_of_zero_le hj0
  have hmn : m ≤ n := by omega
  replace hr2 := hid hr2
  replace hk2 := hid hk2
  clear hw0 hj0 hj1
  go_wp2_with fail
  go_loopw [7, 8] (fun o i wr => ∃ (x : ByteArray) (k : Nat), o = .string x ∧ i = .int .i64 k ∧ x.size + k ≤ n ∧ RdUp wr R (P + 1 + x.size) ∧ KeepB (fun b => b = R) w0 wr) (fun _ i _ => (intOf i).toNat)
  case atStart => exact ⟨⟨#[]⟩, m, rfl, rfl, by show 0 + m ≤ n; omega, hr2.out, hk2.out⟩
  case round =>
    clear hr2 hk2
    obtain ⟨x, k, rfl, rfl, hx, hrr, hkw⟩ := hrel
    have e0 : wr.cell? ⟨w.heap.size, 0, none⟩ = some (.int .i64 s.al) := by rw [KeepB.cell_ hkw (p := ⟨w.heap.size, 0, none⟩) (by show w.heap.size < _; omega) (by show ¬ w.heap.size = R; omega)]; exact hp.out.1
    have e1 : wr.cell? ⟨w.heap.size, 1, none⟩ = some (.int .i64 s.st) := by rw [KeepB.cell_ hkw (p := ⟨w.heap.size, 1, none⟩) (by show w.heap.size < _; omega) (by show ¬ w.heap.size = R; omega)]; exact hp.out.2.1
    have e2 : wr.cell? ⟨w.heap.size, 2, none⟩ = some (.slice A s.es.length c) := by rw [KeepB.cell_ hkw (p := ⟨w.heap.size, 2, none⟩) (by show w.heap.size < _; omega) (by show ¬ w.heap.size = R; omega)]; exact hp.out.2.2
    have hsr := hid (EdsAt.keepR hs0.out hkw hf.out)
    have hfin := hid (show KeepB (fun b => b = R) w wr from (KeepB.of_below hB0).trans hkw)
    replace hrr := hid hrr
    replace hkw := hid hkw
    by_cases hk : 0 < k
    · have hk' : (0 : Int) < (k : Int) := by omega
      go_wp2_with fail
      refine (lettersAfter_any s A c x wr (by omega) hl hc hsr.out).mono ?_
      rintro e w3 ⟨B, rfl, hb3⟩
      have hr3 := hid (hrr.out.later hb3)
      have hk3 := hid (hkw.out.trans (KeepB.of_below hb3))
      have hf3 := hid (hfin.out.trans (KeepB.of_below hb3))
      clear e0 e1 e2
      go_wp2_with fail
      refine (l1Letters_any B w3).mono ?_
      rintro e w4 ⟨lv, rfl, hown, hb4⟩
      obtain ⟨ls, hls⟩ : ∃ ls, Hid (ls = letters B) := ⟨_, hid rfl⟩
      rw [← hls.out] at hown
      have hl6 : ls.length ≤ 6 := by rw [hls.out]; exact lettersTo_len B 6
      obtain ⟨Al, cl, hvl, hcl, hcl'⟩ := own_slice hown
      subst hvl
      have hr4 := hid (hr3.out.later hb4)
      have hk4 := hid (hk3.out.trans (KeepB.of_below hb4))
      have hf4 := hid (hf3.out.trans (KeepB.of_below hb4))
      have hz3 := hr3.out.lt
      replace hown := hid hown
      by_cases hl0 : ls.length = 0
      · go_wp2_with fail
        go_ret
        exact ⟨x, rfl, by omega, hr4.out.more (by omega), hf4.out⟩
      · have hlb : ((ls.length : Int) == 0) = false := by rw [beq_eq_false_iff_ne]; omega
        go_wp2_with fail
        refine (pick_up R (P + 1 + x.size) ls.length w4 (by omega) (by omega) hr4.out).mono ?_
        rintro e w5 ⟨q, rfl, hq0, hq1, hr5, hk5⟩
        obtain ⟨q, rfl⟩ := Int.eq_ofNat_of_zero_le hq0
        have hql : q < ls.length := by omega
        have hown5 := hid (own_keep hown.out hk5 (fun g hg => by have := (World.ownsRow.lt hown.out g hg).1; omega))
        have hkw5 := hid (hk4.out.trans hk5)
        obtain ⟨g, cap, hve, hg1, hg2, -, -, hL⟩ := own_nats hown5.out (by omega)
        cases hve
        have l0 := hL q hql
        obtain ⟨l, hl'⟩ : ∃ l : Nat, l = ls[q] := ⟨_, rfl⟩
        have hlt6 : l < 6 := by
          have := letters_lt (A := B) (l := l) (by rw [← hls.out, hl']; exact List.getElem_mem _)
          exact this.1
        rw [← hl'] at l0
        have i1 : (0 : Int) ≤ (q : Int) ∧ (q : Int) < (ls.length : Int) := by omega
        replace hr5 := hid hr5
        replace hl' := hid hl'
        replace hL := hid hL
        replace hl0 := hid hl0
        clear hk5 hq0 hq1
        go_wp2_with (go_at_call 150; refine (l1Text_any l hlt6 _).mono ?_; rintro e w6 ⟨rfl, hb6⟩)
        have hr6 := hid (hr5.out.later hb6)
        have hk6 := hid (hkw5.out.trans (KeepB.of_below hb6))
        go_roundw
        case rel => exact ⟨_, k - 1, rfl, by go_num, by rw [ByteArray.size_append]; show x.size + 1 + (k - 1) ≤ n; omega, hr6.out.more (by rw [ByteArray.size_append]; show _ ≤ P + 1 + (x.size + 1); omega), hk6.out⟩
        case measure => simp [intOf]; omega
    · go_wp2_with fail
      go_ret
      exact ⟨x, rfl, by omega, hrr.out.more (by omega), hfin.out⟩

def DrawSW (w : World) (e : Ending) (w' : World) : Prop :=
  ∃ (s : Sy) (A : Option Addr) (c : Nat) (x : ByteArray), e = .returned (.tuple #[s.val A c, .string x]) ∧ s.es.length ≤ c ∧ c ≤ 9223372036854775807 ∧ s.es.length ≤ 2000 ∧ x.size ≤ 3000000 ∧ EdsAt w' w'.heap.size A s.es ∧ FreshA (w.heap.size + 1) A ∧ Below w.heap.size w w'
theorem DrawSW.ret {w w1 : World} {s : Sy} {A : Option Addr} {c : Nat} {x : ByteArray} (h1 : s.es.length ≤ c) (h2 : c ≤ 9223372036854775807) (h3 : s.es.length ≤ 2000) (hx : x.size ≤ 3000000) (h4 : EdsAt w1 w1.heap.size A s.es) (h5 : FreshA (w.heap.size + 1) A)
    (h7 : Below w.heap.size w w1) (v1 v2 v3 : Value) :
    DrawSW w (.returned (.tuple #[.agg #[.int .i64 s.al, .int .i64 s.st, .slice A s.es.length c], .string x])) (((w1.setCell ⟨w.heap.size, 0, none⟩ v1).setCell ⟨w.heap.size, 1, none⟩ v2).setCell ⟨w.heap.size, 2, none⟩ v3) := by
  have hne : ∀ b o, A = some ⟨b, o, none⟩ → 0 < s.es.length → b ≠ w.heap.size := fun b o hA _ => by have := h5 b o hA; omega
  refine ⟨s, A, c, x, rfl, h1, h2, h3, hx, ?_, h5, ?_⟩
  · simpa [World.setCell] using ((h4.stored v1 hne).stored v2 hne).stored v3 hne
  · (repeat (first | exact Below.refl _ _ | assumption | refine Below.drew ?_ | refine Below.alloc ?_ (by first | omega | (simp; done) | (simp; omega)) _ | refine Below.setCell ?_ (by first | omega | (simp; done) | (simp; omega)) _))

set_option maxRecDepth 100000 in
set_option maxHeartbeats 8000000 in
theorem drawStatesAfter_any (A : Option Addr) (n c : Nat) (w : World) (hn : n ≤ c) (hc : c ≤ 9223372036854775807) (hx : CodeAt w A n) :
    Calls Tryd.prog 96 #[.slice A n c] w (DrawSW w) := by
  have hres := Blk.new w 36 #[.int .i64 0, .int .i64 0, .slice none 0 0]
  have hb0 : Below w.heap.size w (w.alloc (.cells #[.int .i64 0, .int .i64 0, .slice none 0 0] 36)) := (Below.refl _ _).alloc (Nat.le_refl _) _
  have hx0 : CodeAt (w.alloc (.cells #[.int .i64 0, .int .i64 0, .slice none 0 0] 36)) A n := fun h => by
    obtain ⟨b, o, h1, h2, h3⟩ := hx h
    refine ⟨b, o, h1, by simp; omega, fun i hi => ?_⟩
    obtain ⟨y, h4, h5⟩ := h3 i hi
    exact ⟨y, h4, by rw [World.cell?_alloc_lt (h := by simpa using h2)]; exact h5⟩
  generalize hw0 : w.alloc (.cells #[.int .i64 0, .int .i64 0, .slice none 0 0] 36) = w0 at hres hb0 hx0
  have hz0 : w0.heap.size = w.heap.size + 1 := by rw [← hw0]; simp
  replace hres := hid hres
  replace hz0 := hid hz0
  replace hx := hid hx
  replace hx0 := hid hx0
  go_enter Tryd.func96, Tryd.ntmps96
  go_wp2_with fail
  refine (l19Open_any A n c w0 hn hc hx0.out).mono ?_
  rintro e w1 ⟨R, rfl, hR, hr1, hb1⟩
  clear hw0
  have hR1 := hr1.lt
  replace hr1 := hid hr1
  go_wp2_with fail
  refine (l2Any_up R 0 w1 (by omega) hr1.out).mono ?_
  rintro e w2 ⟨s, As, cs, rfl, a1, a2, a3, a4, a5, a6, a7⟩
  unfold Sy.val
  have hB2 : Below w0.heap.size w0 w2 := KeepB.below hb1 a7 hb1.size (fun k hk => by omega)
  have hnb := Blk.new w2 36 #[.int .i64 s.al, .int .i64 s.st, .slice As s.es.length cs]
  have hba : Below w2.heap.size w2 (w2.alloc (.cells #[.int .i64 s.al, .int .i64 s.st, .slice As s.es.length cs] 36)) := (Below.refl _ _).alloc (Nat.le_refl _) _
  have hsq : w2.heap.size < (w2.alloc (.cells #[.int .i64 s.al, .int .i64 s.st, .slice As s.es.length cs] 36)).heap.size := by simp
  generalize hwa : w2.alloc (.cells #[.int .i64 s.al, .int .i64 s.st, .slice As s.es.length cs] 36) = w3 at hnb hba hsq
  have hr3 := hid (a6.later hba)
  have hs3 := hid (a4.later hba)
  have hf3 : Hid (FreshA (R + 1) As) := hid (fun b o hA => by have := a5 b o hA; omega)
  have hB3 := hB2.trans (hba.mono hB2.size)
  have hRl := a7.size
  clear a4 a5 a6 a7
  have c0 := hnb.cell 0
  have c1 := hnb.cell 1
  have c2 := hnb.cell 2
  simp only [List.getElem?_toArray, List.getElem?_cons_zero, List.getElem?_cons_succ] at c0 c1 c2
  replace hnb := hid hnb
  go_wp2_with fail
  refine (l2Trace_up R (0 + 3000000) s As cs 7 w3 (by omega) (by omega) a1 a2 hs3.out hf3.out hr3.out).mono ?_
  rintro e w4 ⟨x, rfl, hx4, hr4, hk4⟩
  clear c0 c1 c2 hwa
  have hs4 := hid (EdsAt.keepR hs3.out hk4 hf3.out)
  have hnb4 := hid (hnb.out.keep hk4 (by omega))
  have hB4 : Below w0.heap.size w0 w4 := KeepB.below hB3 hk4 hB3.size (fun k hk => by omega)
  replace hr4 := hid hr4
  clear hk4
  go_wp2_with fail
  refine (pick_up R (0 + 3000000 + 200) 6 w4 (by omega) (by omega) hr4.out).mono ?_
  rintro e w5 ⟨j, rfl, hj0, hj1, hr5, hk5⟩
  have hs5 := hid (EdsAt.keepR hs4.out hk5 hf3.out)
  have hnb5 := hid (hnb4.out.keep hk5 (by omega))
  have hB5 : Below w0.heap.size w0 w5 := KeepB.below hB4 hk5 hB4.size (fun k hk => by omega)
  replace hr5 := hid hr5
  clear hk5 hj1
  by_cases h0 : j = 0
  · subst h0
    go_wp2_with fail
    refine (l1Word_up R (0 + 3000000 + 200 + 1) 7 5 w5 (by omega) (by omega) hr5.out).mono ?_
    rintro e w6 ⟨y6, rfl, hz6, hr6, hk6⟩
    have hs6 := hid (EdsAt.keepR hs5.out hk6 hf3.out)
    have hnb6 := hid (hnb5.out.keep hk6 (by omega))
    have hB6 : Below w0.heap.size w0 w6 := KeepB.below hB5 hk6 hB5.size (fun k hk => by omega)
    replace hr6 := hid hr6
    clear hk6
    have c0 := hnb6.out.cell 0
    have c1 := hnb6.out.cell 1
    have c2 := hnb6.out.cell 2
    simp only [List.getElem?_toArray, List.getElem?_cons_zero, List.getElem?_cons_succ] at c0 c1 c2
    have hneR : w2.heap.size ≠ R := by omega
    have q0 := RI.cell hr6.out c0 hneR
    have q1 := RI.cell hr6.out c1 hneR
    have q2 := RI.cell hr6.out c2 hneR
    go_wp2_with fail
    clear c0 c1 c2
    refine GK.wp_region 4 [4, 5] 200 (KeepB fun b => b = R) (RI w6 R (0 + 3000000 + 200 + 1 + 200)) (fun _ u _ => isStr 2000000 u) (by kernel_rfl) (by kernel_rfl) (RI.way w6 R _) (by decide) (RI.drew hr6.out) ?_
    simp only [List.take_succ_cons, List.take_zero]
    (repeat (refine GK.grow_quiet w6 (by rfl) (by rfl) ?_; intro K hK; go_big_quiet_op; go_big_quiet_on))
    refine GK.grow_call (by rfl) (fun u w w' _ h => h) (fun m wq hm hbq hf => ?_) ?_
    · go_simp
      exact ⟨rfl, (l1Bad_up R (0 + 3000000 + 200 + 1 + 200 + m * 10000) y6 wq (by omega) (by omega) hbq.2).mono fun e w' ⟨y, h2, h3, h4, h5⟩ => ⟨_, h2, RI.call hbq h5 h4 (by omega), y, rfl, h3⟩⟩
    rintro u ⟨_, _, _, y, rfl, hy⟩
    simp only [Act.put, List.setIfInBounds_toArray, List.set_cons_zero, List.set_cons_succ]
    refine GK.grow_nil ?_
    intro w8 hw8 _
    simp only [List.filterMap_cons, List.filterMap_nil, List.getElem?_cons_zero, List.getElem?_cons_succ]
    clear q0 q1 q2
    have hs8 := EdsAt.keepR hs6.out hw8.1 hf3.out
    have hB8 : Below w0.heap.size w0 w8 := KeepB.below hB6 hw8.1 hB6.size (fun k hk => by omega)
    have hbl := hres.out.below hB8 (by have := hz0.out; omega)
    have d0 := hbl.cell 0
    have d1 := hbl.cell 1
    have d2 := hbl.cell 2
    have g0 := hbl.frozen 0
    have g1 := hbl.frozen 1
    have g2 := hbl.frozen 2
    simp only [List.getElem?_toArray, List.getElem?_cons_zero, List.getElem?_cons_succ] at d0 d1 d2
    have hfin := hid (DrawSW.ret (w := w) (x := y) a1 a2 a3 (by omega) hs8 (fun b o hA => by have := hf3.out b o hA; have := hz0.out; omega) (hb0.trans (hB8.mono (by have := hz0.out; omega))) (.int .i64 s.al) (.int .i64 s.st) (.slice As s.es.length cs))
    have hlt := hbl.lt
    clear hs8 hbl hw8
    go_wp2
    refine bodyPost_ret (v := .tuple #[.agg #[.int .i64 s.al, .int .i64 s.st, .slice As s.es.length cs], .string y]) (by simp [results, Tryd.results96, go_sem, d0, d1, d2]) rfl ?_
    exact hfin.out
  · have hjb0 : ((j : Int) == 0) = false := by simpa using h0
    replace h0 := hid h0
    by_cases h1 : j = 1
    · subst h1
      go_wp2_with fail
      refine (l1Word_up R (0 + 3000000 + 200 + 1) 3 2 w5 (by omega) (by omega) hr5.out).mono ?_
      rintro e w6 ⟨y6, rfl, hz6, hr6, hk6⟩
      have hs6 := hid (EdsAt.keepR hs5.out hk6 hf3.out)
      have hnb6 := hid (hnb5.out.keep hk6 (by omega))
      have hB6 : Below w0.heap.size w0 w6 := KeepB.below hB5 hk6 hB5.size (fun k hk => by omega)
      replace hr6 := hid hr6
      clear hk6
      have c0 := hnb6.out.cell 0
      have c1 := hnb6.out.cell 1
      have c2 := hnb6.out.cell 2
      simp only [List.getElem?_toArray, List.getElem?_cons_zero, List.getElem?_cons_succ] at c0 c1 c2
      have hneR : w2.heap.size ≠ R := by omega
      have q0 := RI.cell hr6.out c0 hneR
      have q1 := RI.cell hr6.out c1 hneR
      have q2 := RI.cell hr6.out c2 hneR
      go_wp2_with fail
      clear c0 c1 c2
      refine GK.wp_region 4 [4, 5] 200 (KeepB fun b => b = R) (RI w6 R (0 + 3000000 + 200 + 1 + 200)) (fun _ u _ => isStr 2000000 u) (by kernel_rfl) (by kernel_rfl) (RI.way w6 R _) (by decide) (RI.drew hr6.out) ?_
      simp only [List.take_succ_cons, List.take_zero]
      (repeat (refine GK.grow_quiet w6 (by rfl) (by rfl) ?_; intro K hK; go_big_quiet_op; go_big_quiet_on))
      refine GK.grow_call (by rfl) (fun u w w' _ h => h) (fun m wq hm hbq hf => ?_) ?_
      · go_simp
        exact ⟨rfl, (l1Bad_up R (0 + 3000000 + 200 + 1 + 200 + m * 10000) (x ++ y6) wq (by omega) (by rw [ByteArray.size_append]; omega) hbq.2).mono fun e w' ⟨y, h2, h3, h4, h5⟩ => ⟨_, h2, RI.call hbq h5 h4 (by omega), y, rfl, h3⟩⟩
      rintro u ⟨_, _, _, y, rfl, hy⟩
      simp only [Act.put, List.setIfInBounds_toArray, List.set_cons_zero, List.set_cons_succ]
      refine GK.grow_nil ?_
      intro w8 hw8 _
      simp only [List.filterMap_cons, List.filterMap_nil, List.getElem?_cons_zero, List.getElem?_cons_succ]
      clear q0 q1 q2
      have hs8 := EdsAt.keepR hs6.out hw8.1 hf3.out
      have hB8 : Below w0.heap.size w0 w8 := KeepB.below hB6 hw8.1 hB6.size (fun k hk => by omega)
      have hbl := hres.out.below hB8 (by have := hz0.out; omega)
      have d0 := hbl.cell 0
      have d1 := hbl.cell 1
      have d2 := hbl.cell 2
      have g0 := hbl.frozen 0
      have g1 := hbl.frozen 1
      have g2 := hbl.frozen 2
      simp only [List.getElem?_toArray, List.getElem?_cons_zero, List.getElem?_cons_succ] at d0 d1 d2
      have hfin := hid (DrawSW.ret (w := w) (x := y) a1 a2 a3 (by omega) hs8 (fun b o hA => by have := hf3.out b o hA; have := hz0.out; omega) (hb0.trans (hB8.mono (by have := hz0.out; omega))) (.int .i64 s.al) (.int .i64 s.st) (.slice As s.es.length cs))
      have hlt := hbl.lt
      clear hs8 hbl hw8
      go_wp2
      refine bodyPost_ret (v := .tuple #[.agg #[.int .i64 s.al, .int .i64 s.st, .slice As s.es.length cs], .string y]) (by simp [results, Tryd.results96, go_sem, d0, d1, d2]) rfl ?_
      exact hfin.out
    · have hjb1 : ((j : Int) == 1) = false := by simpa using h1
      replace h1 := hid h1
      have c0 := hnb5.out.cell 0
      have c1 := hnb5.out.cell 1
      have c2 := hnb5.out.cell 2
      simp only [List.getElem?_toArray, List.getElem?_cons_zero, List.getElem?_cons_succ] at c0 c1 c2
      have hneR : w2.heap.size ≠ R := by omega
      have q0 := RI.cell hr5.out c0 hneR
      have q1 := RI.cell hr5.out c1 hneR
      have q2 := RI.cell hr5.out c2 hneR
      go_wp2_with fail
      clear c0 c1 c2
      refine GK.wp_region 4 [4, 5] 200 (KeepB fun b => b = R) (RI w5 R (0 + 3000000 + 200 + 1)) (fun _ u _ => isStr 2000000 u) (by kernel_rfl) (by kernel_rfl) (RI.way w5 R _) (by decide) (RI.drew hr5.out) ?_
      simp only [List.take_succ_cons, List.take_zero]
      (repeat (refine GK.grow_quiet w5 (by rfl) (by rfl) ?_; intro K hK; go_big_quiet_op; go_big_quiet_on))
      refine GK.grow_call (by rfl) (fun u w w' _ h => h) (fun m wq hm hbq hf => ?_) ?_
      · go_simp
        exact ⟨rfl, (l1Bad_up R (0 + 3000000 + 200 + 1 + m * 10000) x wq (by omega) (by omega) hbq.2).mono fun e w' ⟨y, h2, h3, h4, h5⟩ => ⟨_, h2, RI.call hbq h5 h4 (by omega), y, rfl, h3⟩⟩
      rintro u ⟨_, _, _, y, rfl, hy⟩
      simp only [Act.put, List.setIfInBounds_toArray, List.set_cons_zero, List.set_cons_succ]
      refine GK.grow_nil ?_
      intro w8 hw8 _
      simp only [List.filterMap_cons, List.filterMap_nil, List.getElem?_cons_zero, List.getElem?_cons_succ]
      clear q0 q1 q2
      have hs8 := EdsAt.keepR hs5.out hw8.1 hf3.out
      have hB8 : Below w0.heap.size w0 w8 := KeepB.below hB5 hw8.1 hB5.size (fun k hk => by omega)
      have hbl := hres.out.below hB8 (by have := hz0.out; omega)
      have d0 := hbl.cell 0
      have d1 := hbl.cell 1
      have d2 := hbl.cell 2
      have g0 := hbl.frozen 0
      have g1 := hbl.frozen 1
      have g2 := hbl.frozen 2
      simp only [List.getElem?_toArray, List.getElem?_cons_zero, List.getElem?_cons_succ] at d0 d1 d2
      have hfin := hid (DrawSW.ret (w := w) (x := y) a1 a2 a3 (by omega) hs8 (fun b o hA => by have := hf3.out b o hA; have := hz0.out; omega) (hb0.trans (hB8.mono (by have := hz0.out; omega))) (.int .i64 s.al) (.int .i64 s.st) (.slice As s.es.length cs))
      have hlt := hbl.lt
      clear hs8 hbl hw8
      go_wp2
      refine bodyPost_ret (v := .tuple #[.agg #[.int .i64 s.al, .int .i64 s.st, .slice As s.es.length cs], .string y]) (by simp [results, Tryd.results96, go_sem, d0, d1, d2]) rfl ?_
      exact hfin.out

set_option maxHeartbeats 1000000 in
theorem drawHasTrace_any (A : Option Addr) (n c : Nat) (w : World) (hn : n ≤ c) (hc : c ≤ 9223372036854775807) (hx : CodeAt w A n) :
    Calls Tryd.prog 39 #[.slice A n c] w (DrawSW w) := by
  have hres := Blk.new w 36 #[.int .i64 0, .int .i64 0, .slice none 0 0]
  have hb0 : Below w.heap.size w (w.alloc (.cells #[.int .i64 0, .int .i64 0, .slice none 0 0] 36)) := (Below.refl _ _).alloc (Nat.le_refl _) _
  have hx0 : CodeAt (w.alloc (.cells #[.int .i64 0, .int .i64 0, .slice none 0 0] 36)) A n := fun h => by
    obtain ⟨b, o, h1, h2, h3⟩ := hx h
    refine ⟨b, o, h1, by simp; omega, fun i hi => ?_⟩
    obtain ⟨y, h4, h5⟩ := h3 i hi
    exact ⟨y, h4, by rw [World.cell?_alloc_lt (h := by simpa using h2)]; exact h5⟩
  generalize hw0 : w.alloc (.cells #[.int .i64 0, .int .i64 0, .slice none 0 0] 36) = w0 at hres hb0 hx0
  have hz0 : w0.heap.size = w.heap.size + 1 := by rw [← hw0]; simp
  replace hres := hid hres
  replace hz0 := hid hz0
  replace hx := hid hx
  replace hx0 := hid hx0
  go_enter Tryd.func39, Tryd.ntmps39
  go_wp2_with fail
  refine (drawStatesAfter_any A n c w0 hn hc hx0.out).mono ?_
  rintro e w1 ⟨s, As, cs, x, rfl, a1, a2, a3, a4, a5, a6, a7⟩
  unfold Sy.val
  clear hw0
  have hbl := hres.out.below a7 (by have := hz0.out; omega)
  have d0 := hbl.cell 0
  have d1 := hbl.cell 1
  have d2 := hbl.cell 2
  have f0 := hbl.frozen 0
  have f1 := hbl.frozen 1
  have f2 := hbl.frozen 2
  simp only [List.getElem?_toArray, List.getElem?_cons_zero, List.getElem?_cons_succ] at d0 d1 d2
  have hfin := hid (DrawSW.ret (w := w) a1 a2 a3 a4 a5 (fun b o hA => by have := a6 b o hA; have := hz0.out; omega) (hb0.trans (a7.mono (by have := hz0.out; omega))) (.int .i64 s.al) (.int .i64 s.st) (.slice As s.es.length cs))
  have hlt := hbl.lt
  clear a5 a6 a7 hbl
  go_wp2
  refine bodyPost_ret (v := .tuple #[.agg #[.int .i64 s.al, .int .i64 s.st, .slice As s.es.length cs], .string x]) (by simp [results, Tryd.results39, go_sem, d0, d1, d2]) rfl ?_
  exact hfin.out

end Go.Proofs.YtbomhfbiaedbiaaDoor
