/- Lemmas, part 14: several texts in one. -/
import Derived.Test.YtempjhgajcdibaaDoorK10
import Derived.Test.YtempjhgajcdibaaDoorK11
import Derived.Deep.QuietTactic
import Derived.BigQuiet
import Derived.OwnWalk
import Derived.Laws.Strings
import Derived.Deep.DeepCutAuto
set_option linter.unusedSimpArgs false
set_option linter.unusedVariables false

/- The drawing kit: l2Trace, DrawStatesAfter, DrawHasTrace. -/
namespace Go.Proofs.YtempjhgajcdibaaDoor
open Go.RowKit Go.BigFrame AG

set_option maxRecDepth 100000 in
set_option maxHeartbeats 4000000 in
theorem l2Trace_up (R P : Nat) (s : Sy) (A : Option Addr) (c n : Nat) (w : World) (hP : P + 1000 ≤ 1125899906842624) (hn : n ≤ 100) (hl : s.es.length ≤ c) (hc : c ≤ 9223372036854775807) (hs : EdsAt w w.heap.size A s.es) (hf : FreshA (R + 1) A) (hr : RdUp w R P) :
    Calls Tryd.prog 74 #[.pointer (some ⟨R, 0, none⟩), s.val A c, .int .i64 n] w (StrUp R (P + 200) 200 w) := by
  have hR := hr.lt
  unfold Sy.val
  obtain ⟨w0, hw0, hz0, hB0, hS0, hS1, hS2⟩ := boxed3 w (Value.int IntKind.i64 s.al) (Value.int IntKind.i64 s.st) (Value.slice A s.es.length c) 25
  have hr0 := hid (hr.later hB0)
  have hs0 := hid (hs.later hB0)
  have p0 := hS0 _ (Below.refl _ _)
  have p1 := hS1 _ (Below.refl _ _)
  have p2 := hS2 _ (Below.refl _ _)
  have hp := hid (show _ ∧ _ ∧ _ from ⟨p0, p1, p2⟩)
  replace hr := hid hr
  replace hs := hid hs
  replace hf := hid hf
  clear p0 p1 p2
  go_enter Tryd.func74, Tryd.ntmps74
  go_wp2_with fail
  refine (pick_up R P (n + 1) w0 (by omega) (by omega) hr0.out).mono ?_
  rintro e w2 ⟨j, rfl, hj0, hj1, hr2, hk2⟩
  obtain ⟨m, rfl⟩ := Int.eq_ofNat_of_zero_le hj0
  have hmn : m ≤ n := by omega
  replace hr2 := hid hr2
  replace hk2 := hid hk2
  clear hw0 hj0 hj1
  go_wp2_with fail
  go_loopw [7, 8] (fun o i wr => ∃ (x : ByteArray) (k : Nat), o = .string x ∧ i = .int .i64 k ∧ x.size + k ≤ n ∧ RdUp wr R (P + 1 + x.size) ∧ KeepB (fun b => b = R) w0 wr) (fun _ i _ => (intOf i).toNat)
  case atStart => exact ⟨⟨#[]⟩, m, rfl, rfl, by show 0 + m ≤ n; omega, hr2.out, hk2.out⟩
  case round =>
    clear hr2 hk2
    obtain ⟨x, k, rfl, rfl, hx, hrr, hkw⟩ := hrel
    have e0 : wr.cell? ⟨w.heap.size, 0, none⟩ = some (.int .i64 s.al) := by rw [KeepB.cell_ hkw (p := ⟨w.heap.size, 0, none⟩) (by show w.heap.size < _; omega) (by show ¬ w.heap.size = R; omega)]; exact hp.out.1
    have e1 : wr.cell? ⟨w.heap.size, 1, none⟩ = some (.int .i64 s.st) := by rw [KeepB.cell_ hkw (p := ⟨w.heap.size, 1, none⟩) (by show w.heap.size < _; omega) (by show ¬ w.heap.size = R; omega)]; exact hp.out.2.1
    have e2 : wr.cell? ⟨w.heap.size, 2, none⟩ = some (.slice A s.es.length c) := by rw [KeepB.cell_ hkw (p := ⟨w.heap.size, 2, none⟩) (by show w.heap.size < _; omega) (by show ¬ w.heap.size = R; omega)]; exact hp.out.2.2
    have hsr := hid (EdsAt.keepR hs0.out hkw hf.out)
    have hfin := hid (show KeepB (fun b => b = R) w wr from (KeepB.of_below hB0).trans hkw)
    replace hrr := hid hrr
    replace hkw := hid hkw
    by_cases hk : 0 < k
    · have hk' : (0 : Int) < (k : Int) := by omega
      go_wp2_with fail
      refine (lettersAfter_any s A c x wr (by omega) hl hc hsr.out).mono ?_
      rintro e w3 ⟨B, rfl, hb3⟩
      have hr3 := hid (hrr.out.later hb3)
      have hk3 := hid (hkw.out.trans (KeepB.of_below hb3))
      have hf3 := hid (hfin.out.trans (KeepB.of_below hb3))
      clear e0 e1 e2
      go_wp2_with fail
      refine (l1Letters_any B w3).mono ?_
      rintro e w4 ⟨lv, rfl, hown, hb4⟩
      obtain ⟨ls, hls⟩ : ∃ ls, Hid (ls = letters B) := ⟨_, hid rfl⟩
      rw [← hls.out] at hown
      have hl6 : ls.length ≤ 6 := by rw [hls.out]; exact lettersTo_len B 6
      obtain ⟨Al, cl, hvl, hcl, hcl'⟩ := own_slice hown
      subst hvl
      have hr4 := hid (hr3.out.later hb4)
      have hk4 := hid (hk3.out.trans (KeepB.of_below hb4))
      have hf4 := hid (hf3.out.trans (KeepB.of_below hb4))
      have hz3 := hr3.out.lt
      replace hown := hid hown
      by_cases hl0 : ls.length = 0
      · go_wp2_with fail
        go_ret
        exact ⟨x, rfl, by omega, hr4.out.more (by omega), hf4.out⟩
      · have hlb : ((ls.length : Int) == 0) = false := by rw [beq_eq_false_iff_ne]; omega
        go_wp2_with fail
        refine (pick_up R (P + 1 + x.size) ls.length w4 (by omega) (by omega) hr4.out).mono ?_
        rintro e w5 ⟨q, rfl, hq0, hq1, hr5, hk5⟩
        obtain ⟨q, rfl⟩ := Int.eq_ofNat_of_zero_le hq0
        have hql : q < ls.length := by omega
        have hown5 := hid (own_keep hown.out hk5 (fun g hg => by have := (World.ownsRow.lt hown.out g hg).1; omega))
        have hkw5 := hid (hk4.out.trans hk5)
        obtain ⟨g, cap, hve, hg1, hg2, -, -, hL⟩ := own_nats hown5.out (by omega)
        cases hve
        have l0 := hL q hql
        obtain ⟨l, hl'⟩ : ∃ l : Nat, l = ls[q] := ⟨_, rfl⟩
        have hlt6 : l < 6 := by
          have := letters_lt (A := B) (l := l) (by rw [← hls.out, hl']; exact List.getElem_mem _)
          exact this.1
        rw [← hl'] at l0
        have i1 : (0 : Int) ≤ (q : Int) ∧ (q : Int) < (ls.length : Int) := by omega
        replace hr5 := hid hr5
        replace hl' := hid hl'
        replace hL := hid hL
        replace hl0 := hid hl0
        clear hk5 hq0 hq1
        go_wp2_with (go_at_call 88; refine (l1Text_any l hlt6 _).mono ?_; rintro e w6 ⟨rfl, hb6⟩)
        have hr6 := hid (hr5.out.later hb6)
        have hk6 := hid (hkw5.out.trans (KeepB.of_below hb6))
        go_roundw
        case rel => exact ⟨_, k - 1, rfl, by go_num, by rw [ByteArray.size_append]; show x.size + 1 + (k - 1) ≤ n; omega, hr6.out.more (by rw [ByteArray.size_append]; show _ ≤ P + 1 + (x.size + 1); omega), hk6.out⟩
        case measure => simp [intOf]; omega
    · go_wp2_with fail
      go_ret
      exact ⟨x, rfl, by omega, hrr.out.more (by omega), hfin.out⟩

def DrawSW (w : World) (e : Ending) (w' : World) : Prop :=
  ∃ (s : Sy) (A : Option Addr) (c : Nat) (x : ByteArray), e = .returned (.tuple #[s.val A c, .string x]) ∧ s.es.length ≤ c ∧ c ≤ 9223372036854775807 ∧ s.es.length ≤ 2000 ∧ x.size ≤ 3000000 ∧ EdsAt w' w'.heap.size A s.es ∧ FreshA (w.heap.size + 1) A ∧ Below w.heap.size w w'
theorem DrawSW.ret {w w1 : World} {s : Sy} {A : Option Addr} {c : Nat} {x : ByteArray} (h1 : s.es.length ≤ c) (h2 : c ≤ 9223372036854775807) (h3 : s.es.length ≤ 2000) (hx : x.size ≤ 3000000) (h4 : EdsAt w1 w1.heap.size A s.es) (h5 : FreshA (w.heap.size + 1) A)
    (h7 : Below w.heap.size w w1) (v1 v2 v3 : Value) :
    DrawSW w (.returned (.tuple #[.agg #[.int .i64 s.al, .int .i64 s.st, .slice A s.es.length c], .string x])) (((w1.setCell ⟨w.heap.size, 0, none⟩ v1).setCell ⟨w.heap.size, 1, none⟩ v2).setCell ⟨w.heap.size, 2, none⟩ v3) := by
  have hne : ∀ b o, A = some ⟨b, o, none⟩ → 0 < s.es.length → b ≠ w.heap.size := fun b o hA _ => by have := h5 b o hA; omega
  refine ⟨s, A, c, x, rfl, h1, h2, h3, hx, ?_, h5, ?_⟩
  · simpa [World.setCell] using ((h4.stored v1 hne).stored v2 hne).stored v3 hne
  · (repeat (first | exact Below.refl _ _ | assumption | refine Below.drew ?_ | refine Below.alloc ?_ (by first | omega | (simp; done) | (simp; omega)) _ | refine Below.setCell ?_ (by first | omega | (simp; done) | (simp; omega)) _))

set_option maxRecDepth 100000 in
set_option maxHeartbeats 8000000 in
theorem drawStatesAfter_any (A : Option Addr) (n c : Nat) (w : World) (hn : n ≤ c) (hc : c ≤ 9223372036854775807) (hx : CodeAt w A n) :
    Calls Tryd.prog 26 #[.slice A n c] w (DrawSW w) := by
  have hres := Blk.new w 25 #[.int .i64 0, .int .i64 0, .slice none 0 0]
  have hb0 : Below w.heap.size w (w.alloc (.cells #[.int .i64 0, .int .i64 0, .slice none 0 0] 25)) := (Below.refl _ _).alloc (Nat.le_refl _) _
  have hx0 : CodeAt (w.alloc (.cells #[.int .i64 0, .int .i64 0, .slice none 0 0] 25)) A n := fun h => by
    obtain ⟨b, o, h1, h2, h3⟩ := hx h
    refine ⟨b, o, h1, by simp; omega, fun i hi => ?_⟩
    obtain ⟨y, h4, h5⟩ := h3 i hi
    exact ⟨y, h4, by rw [World.cell?_alloc_lt (h := by simpa using h2)]; exact h5⟩
  generalize hw0 : w.alloc (.cells #[.int .i64 0, .int .i64 0, .slice none 0 0] 25) = w0 at hres hb0 hx0
  have hz0 : w0.heap.size = w.heap.size + 1 := by rw [← hw0]; simp
  replace hres := hid hres
  replace hz0 := hid hz0
  replace hx := hid hx
  replace hx0 := hid hx0
  go_enter Tryd.func26, Tryd.ntmps26
  go_wp2_with fail
  refine (l19Open_any A n c w0 hn hc hx0.out).mono ?_
  rintro e w1 ⟨R, rfl, hR, hr1, hb1⟩
  clear hw0
  have hR1 := hr1.lt
  replace hr1 := hid hr1
  go_wp2_with fail
  refine (l2Any_up R 0 w1 (by omega) hr1.out).mono ?_
  rintro e w2 ⟨s, As, cs, rfl, a1, a2, a3, a4, a5, a6, a7⟩
  unfold Sy.val
  have hB2 : Below w0.heap.size w0 w2 := KeepB.below hb1 a7 hb1.size (fun k hk => by omega)
  have hnb := Blk.new w2 25 #[.int .i64 s.al, .int .i64 s.st, .slice As s.es.length cs]
  have hba : Below w2.heap.size w2 (w2.alloc (.cells #[.int .i64 s.al, .int .i64 s.st, .slice As s.es.length cs] 25)) := (Below.refl _ _).alloc (Nat.le_refl _) _
  have hsq : w2.heap.size < (w2.alloc (.cells #[.int .i64 s.al, .int .i64 s.st, .slice As s.es.length cs] 25)).heap.size := by simp
  generalize hwa : w2.alloc (.cells #[.int .i64 s.al, .int .i64 s.st, .slice As s.es.length cs] 25) = w3 at hnb hba hsq
  have hr3 := hid (a6.later hba)
  have hs3 := hid (a4.later hba)
  have hf3 : Hid (FreshA (R + 1) As) := hid (fun b o hA => by have := a5 b o hA; omega)
  have hB3 := hB2.trans (hba.mono hB2.size)
  have hRl := a7.size
  clear a4 a5 a6 a7
  have c0 := hnb.cell 0
  have c1 := hnb.cell 1
  have c2 := hnb.cell 2
  simp only [List.getElem?_toArray, List.getElem?_cons_zero, List.getElem?_cons_succ] at c0 c1 c2
  replace hnb := hid hnb
  go_wp2_with fail
  refine (l2Trace_up R (0 + 3000000) s As cs 7 w3 (by omega) (by omega) a1 a2 hs3.out hf3.out hr3.out).mono ?_
  rintro e w4 ⟨x, rfl, hx4, hr4, hk4⟩
  clear c0 c1 c2 hwa
  have hs4 := hid (EdsAt.keepR hs3.out hk4 hf3.out)
  have hnb4 := hid (hnb.out.keep hk4 (by omega))
  have hB4 : Below w0.heap.size w0 w4 := KeepB.below hB3 hk4 hB3.size (fun k hk => by omega)
  replace hr4 := hid hr4
  clear hk4
  go_wp2_with fail
  refine (pick_up R (0 + 3000000 + 200) 6 w4 (by omega) (by omega) hr4.out).mono ?_
  rintro e w5 ⟨j, rfl, hj0, hj1, hr5, hk5⟩
  have hs5 := hid (EdsAt.keepR hs4.out hk5 hf3.out)
  have hnb5 := hid (hnb4.out.keep hk5 (by omega))
  have hB5 : Below w0.heap.size w0 w5 := KeepB.below hB4 hk5 hB4.size (fun k hk => by omega)
  replace hr5 := hid hr5
  clear hk5 hj1
  by_cases h0 : j = 0
  · subst h0
    go_wp2_with fail
    refine (l1Word_up R (0 + 3000000 + 200 + 1) 7 5 w5 (by omega) (by omega) hr5.out).mono ?_
    rintro e w6 ⟨y6, rfl, hz6, hr6, hk6⟩
    have hs6 := hid (EdsAt.keepR hs5.out hk6 hf3.out)
    have hnb6 := hid (hnb5.out.keep hk6 (by omega))
    have hB6 : Below w0.heap.size w0 w6 := KeepB.below hB5 hk6 hB5.size (fun k hk => by omega)
    replace hr6 := hid hr6
    clear hk6
    have c0 := hnb6.out.cell 0
    have c1 := hnb6.out.cell 1
    have c2 := hnb6.out.cell 2
    simp only [List.getElem?_toArray, List.getElem?_cons_zero, List.getElem?_cons_succ] at c0 c1 c2
    have hneR : w2.heap.size ≠ R := by omega
    have q0 := RI.cell hr6.out c0 hneR
    have q1 := RI.cell hr6.out c1 hneR
    have q2 := RI.cell hr6.out c2 hneR
    go_wp2_with fail
    clear c0 c1 c2
    refine GK.wp_region 4 [4, 5] 200 (KeepB fun b => b = R) (RI w6 R (0 + 3000000 + 200 + 1 + 200)) (fun _ u _ => isStr 2000000 u) (by kernel_rfl) (by kernel_rfl) (RI.way w6 R _) (by decide) (RI.drew hr6.out) ?_
    simp only [List.take_succ_cons, List.take_zero]
    (repeat (refine GK.grow_quiet w6 (by rfl) (by rfl) ?_; intro K hK; go_big_quiet_op; go_big_quiet_on))
    refine GK.grow_call (by rfl) (fun u w w' _ h => h) (fun m wq hm hbq hf => ?_) ?_
    · go_simp
      exact ⟨rfl, (l1Bad_up R (0 + 3000000 + 200 + 1 + 200 + m * 10000) y6 wq (by omega) (by omega) hbq.2).mono fun e w' ⟨y, h2, h3, h4, h5⟩ => ⟨_, h2, RI.call hbq h5 h4 (by omega), y, rfl, h3⟩⟩
    rintro u ⟨_, _, _, y, rfl, hy⟩
    simp only [Act.put, List.setIfInBounds_toArray, List.set_cons_zero, List.set_cons_succ]
    refine GK.grow_nil ?_
    intro w8 hw8 _
    simp only [List.filterMap_cons, List.filterMap_nil, List.getElem?_cons_zero, List.getElem?_cons_succ]
    clear q0 q1 q2
    have hs8 := EdsAt.keepR hs6.out hw8.1 hf3.out
    have hB8 : Below w0.heap.size w0 w8 := KeepB.below hB6 hw8.1 hB6.size (fun k hk => by omega)
    have hbl := hres.out.below hB8 (by have := hz0.out; omega)
    have d0 := hbl.cell 0
    have d1 := hbl.cell 1
    have d2 := hbl.cell 2
    have g0 := hbl.frozen 0
    have g1 := hbl.frozen 1
    have g2 := hbl.frozen 2
    simp only [List.getElem?_toArray, List.getElem?_cons_zero, List.getElem?_cons_succ] at d0 d1 d2
    have hfin := hid (DrawSW.ret (w := w) (x := y) a1 a2 a3 (by omega) hs8 (fun b o hA => by have := hf3.out b o hA; have := hz0.out; omega) (hb0.trans (hB8.mono (by have := hz0.out; omega))) (.int .i64 s.al) (.int .i64 s.st) (.slice As s.es.length cs))
    have hlt := hbl.lt
    clear hs8 hbl hw8
    go_wp2
    refine bodyPost_ret (v := .tuple #[.agg #[.int .i64 s.al, .int .i64 s.st, .slice As s.es.length cs], .string y]) (by simp [results, Tryd.results26, go_sem, d0, d1, d2]) rfl ?_
    exact hfin.out
  · have hjb0 : ((j : Int) == 0) = false := by simpa using h0
    replace h0 := hid h0
    by_cases h1 : j = 1
    · subst h1
      go_wp2_with fail
      refine (l1Word_up R (0 + 3000000 + 200 + 1) 3 2 w5 (by omega) (by omega) hr5.out).mono ?_
      rintro e w6 ⟨y6, rfl, hz6, hr6, hk6⟩
      have hs6 := hid (EdsAt.keepR hs5.out hk6 hf3.out)
      have hnb6 := hid (hnb5.out.keep hk6 (by omega))
      have hB6 : Below w0.heap.size w0 w6 := KeepB.below hB5 hk6 hB5.size (fun k hk => by omega)
      replace hr6 := hid hr6
      clear hk6
      have c0 := hnb6.out.cell 0
      have c1 := hnb6.out.cell 1
      have c2 := hnb6.out.cell 2
      simp only [List.getElem?_toArray, List.getElem?_cons_zero, List.getElem?_cons_succ] at c0 c1 c2
      have hneR : w2.heap.size ≠ R := by omega
      have q0 := RI.cell hr6.out c0 hneR
      have q1 := RI.cell hr6.out c1 hneR
      have q2 := RI.cell hr6.out c2 hneR
      go_wp2_with fail
      clear c0 c1 c2
      refine GK.wp_region 4 [4, 5] 200 (KeepB fun b => b = R) (RI w6 R (0 + 3000000 + 200 + 1 + 200)) (fun _ u _ => isStr 2000000 u) (by kernel_rfl) (by kernel_rfl) (RI.way w6 R _) (by decide) (RI.drew hr6.out) ?_
      simp only [List.take_succ_cons, List.take_zero]
      (repeat (refine GK.grow_quiet w6 (by rfl) (by rfl) ?_; intro K hK; go_big_quiet_op; go_big_quiet_on))
      refine GK.grow_call (by rfl) (fun u w w' _ h => h) (fun m wq hm hbq hf => ?_) ?_
      · go_simp
        exact ⟨rfl, (l1Bad_up R (0 + 3000000 + 200 + 1 + 200 + m * 10000) (x ++ y6) wq (by omega) (by rw [ByteArray.size_append]; omega) hbq.2).mono fun e w' ⟨y, h2, h3, h4, h5⟩ => ⟨_, h2, RI.call hbq h5 h4 (by omega), y, rfl, h3⟩⟩
      rintro u ⟨_, _, _, y, rfl, hy⟩
      simp only [Act.put, List.setIfInBounds_toArray, List.set_cons_zero, List.set_cons_succ]
      refine GK.grow_nil ?_
      intro w8 hw8 _
      simp only [List.filterMap_cons, List.filterMap_nil, List.getElem?_cons_zero, List.getElem?_cons_succ]
      clear q0 q1 q2
      have hs8 := EdsAt.keepR hs6.out hw8.1 hf3.out
      have hB8 : Below w0.heap.size w0 w8 := KeepB.below hB6 hw8.1 hB6.size (fun k hk => by omega)
      have hbl := hres.out.below hB8 (by have := hz0.out; omega)
      have d0 := hbl.cell 0
      have d1 := hbl.cell 1
      have d2 := hbl.cell 2
      have g0 := hbl.frozen 0
      have g1 := hbl.frozen 1
      have g2 := hbl.frozen 2
      simp only [List.getElem?_toArray, List.getElem?_cons_zero, List.getElem?_cons_succ] at d0 d1 d2
      have hfin := hid (DrawSW.ret (w := w) (x := y) a1 a2 a3 (by omega) hs8 (fun b o hA => by have := hf3.out b o hA; have := hz0.out; omega) (hb0.trans (hB8.mono (by have := hz0.out; omega))) (.int .i64 s.al) (.int .i64 s.st) (.slice As s.es.length cs))
      have hlt := hbl.lt
      clear hs8 hbl hw8
      go_wp2
      refine bodyPost_ret (v := .tuple #[.agg #[.int .i64 s.al, .int .i64 s.st, .slice As s.es.length cs], .string y]) (by simp [results, Tryd.results26, go_sem, d0, d1, d2]) rfl ?_
      exact hfin.out
    · have hjb1 : ((j : Int) == 1) = false := by simpa using h1
      replace h1 := hid h1
      have c0 := hnb5.out.cell 0
      have c1 := hnb5.out.cell 1
      have c2 := hnb5.out.cell 2
      simp only [List.getElem?_toArray, List.getElem?_cons_zero, List.getElem?_cons_succ] at c0 c1 c2
      have hneR : w2.heap.size ≠ R := by omega
      have q0 := RI.cell hr5.out c0 hneR
      have q1 := RI.cell hr5.out c1 hneR
      have q2 := RI.cell hr5.out c2 hneR
      go_wp2_with fail
      clear c0 c1 c2
      refine GK.wp_region 4 [4, 5] 200 (KeepB fun b => b = R) (RI w5 R (0 + 3000000 + 200 + 1)) (fun _ u _ => isStr 2000000 u) (by kernel_rfl) (by kernel_rfl) (RI.way w5 R _) (by decide) (RI.drew hr5.out) ?_
      simp only [List.take_succ_cons, List.take_zero]
      (repeat (refine GK.grow_quiet w5 (by rfl) (by rfl) ?_; intro K hK; go_big_quiet_op; go_big_quiet_on))
      refine GK.grow_call (by rfl) (fun u w w' _ h => h) (fun m wq hm hbq hf => ?_) ?_
      · go_simp
        exact ⟨rfl, (l1Bad_up R (0 + 3000000 + 200 + 1 + m * 10000) x wq (by omega) (by omega) hbq.2).mono fun e w' ⟨y, h2, h3, h4, h5⟩ => ⟨_, h2, RI.call hbq h5 h4 (by omega), y, rfl, h3⟩⟩
      rintro u ⟨_, _, _, y, rfl, hy⟩
      simp only [Act.put, List.setIfInBounds_toArray, List.set_cons_zero, List.set_cons_succ]
      refine GK.grow_nil ?_
      intro w8 hw8 _
      simp only [List.filterMap_cons, List.filterMap_nil, List.getElem?_cons_zero, List.getElem?_cons_succ]
      clear q0 q1 q2
      have hs8 := EdsAt.keepR hs5.out hw8.1 hf3.out
      have hB8 : Below w0.heap.size w0 w8 := KeepB.below hB5 hw8.1 hB5.size (fun k hk => by omega)
      have hbl := hres.out.below hB8 (by have := hz0.out; omega)
      have d0 := hbl.cell 0
      have d1 := hbl.cell 1
      have d2 := hbl.cell 2
      have g0 := hbl.frozen 0
      have g1 := hbl.frozen 1
      have g2 := hbl.frozen 2
      simp only [List.getElem?_toArray, List.getElem?_cons_zero, List.getElem?_cons_succ] at d0 d1 d2
      have hfin := hid (DrawSW.ret (w := w) (x := y) a1 a2 a3 (by omega) hs8 (fun b o hA => by have := hf3.out b o hA; have := hz0.out; omega) (hb0.trans (hB8.mono (by have := hz0.out; omega))) (.int .i64 s.al) (.int .i64 s.st) (.slice As s.es.length cs))
      have hlt := hbl.lt
      clear hs8 hbl hw8
      go_wp2
      refine bodyPost_ret (v := .tuple #[.agg #[.int .i64 s.al, .int .i64 s.st, .slice As s.es.length cs], .string y]) (by simp [results, Tryd.results26, go_sem, d0, d1, d2]) rfl ?_
      exact hfin.out


end Go.Proofs.YtempjhgajcdibaaDoor

/- Plain: words that are merged. -/
namespace AG

/-- What the merging of v (letters of a) and w (letters of b) has made after i letters of v and k of w. -/
structure MergeSt (v w : ByteArray) (a b : Int) (i k : Nat) (o : List UInt8) : Prop where
  hi : i ≤ v.size
  hk : k ≤ w.size
  left : o.filter (pk a) = v.data.toList.take i
  right : o.filter (pk b) = w.data.toList.take k
  any : ∀ x ∈ o, pk a x = true ∨ pk b x = true
  rest : (v.data.toList.drop i).filter (pk b) = (w.data.toList.drop k).filter (pk a)
  len : o.length ≤ i + k

theorem drop_at {w : ByteArray} {i : Nat} (h : i < w.size) : w.data.toList.drop i = w.data.getD i 0 :: w.data.toList.drop (i + 1) ∧ w.data.toList.take (i + 1) = w.data.toList.take i ++ [w.data.getD i 0] := by
  obtain ⟨h', e⟩ := getD_list h
  rw [e, List.take_succ_eq_append_getElem h']
  exact ⟨List.drop_eq_getElem_cons h', rfl⟩
theorem pk_within {v : ByteArray} {a : Int} (h : within v a = true) {i : Nat} (hi : i < v.size) : pk a (v.data.getD i 0) = true := by
  obtain ⟨h', e⟩ := getD_list hi
  rw [e]
  exact ((within_list v a).1 h).2.2 _ (List.getElem_mem _)

theorem MergeSt.start {v w : ByteArray} {a b : Int} (h : restr v b = restr w a) : MergeSt v w a b 0 0 [] :=
  ⟨by omega, by omega, by simp, by simp, (fun x hx => by cases hx), by
    have := congrArg (fun x : ByteArray => x.data.toList) h
    simpa [restr_list] using this, by simp⟩
theorem MergeSt.goL {v w : ByteArray} {a b : Int} {i k : Nat} {o : List UInt8} (h : MergeSt v w a b i k o) (hv : within v a = true) (hi : i < v.size) (hb : pk b (v.data.getD i 0) = false) :
    MergeSt v w a b (i + 1) k (o ++ [v.data.getD i 0]) := by
  have ha := pk_within hv hi
  obtain ⟨d1, d2⟩ := drop_at hi
  refine ⟨by omega, h.hk, ?_, ?_, ?_, ?_, by rw [List.length_append]; have := h.len; simp; omega⟩
  · rw [List.filter_append, h.left, d2]; simp only [List.filter_cons, ha, List.filter_nil, if_true]
  · rw [List.filter_append, h.right]; simp only [List.filter_cons, hb, List.filter_nil]; simp
  · intro x hx
    rcases List.mem_append.1 hx with hx | hx
    · exact h.any x hx
    · rw [List.mem_singleton.1 hx]; exact .inl ha
  · rw [← h.rest, d1]; simp only [List.filter_cons, hb]; simp
theorem MergeSt.goR {v w : ByteArray} {a b : Int} {i k : Nat} {o : List UInt8} (h : MergeSt v w a b i k o) (hw : within w b = true) (hk : k < w.size) (ha : pk a (w.data.getD k 0) = false) :
    MergeSt v w a b i (k + 1) (o ++ [w.data.getD k 0]) := by
  have hb := pk_within hw hk
  obtain ⟨d1, d2⟩ := drop_at hk
  refine ⟨h.hi, by omega, ?_, ?_, ?_, ?_, by rw [List.length_append]; have := h.len; simp; omega⟩
  · rw [List.filter_append, h.left]; simp only [List.filter_cons, ha, List.filter_nil]; simp
  · rw [List.filter_append, h.right, d2]; simp only [List.filter_cons, hb, List.filter_nil, if_true]
  · intro x hx
    rcases List.mem_append.1 hx with hx | hx
    · exact h.any x hx
    · rw [List.mem_singleton.1 hx]; exact .inr hb
  · rw [h.rest, d1]; simp only [List.filter_cons, ha]; simp
theorem MergeSt.both {v w : ByteArray} {a b : Int} {i k : Nat} {o : List UInt8} (h : MergeSt v w a b i k o) (hv : within v a = true) (hw : within w b = true)
    (hn : i < v.size ∨ k < w.size) (hl : i < v.size → pk b (v.data.getD i 0) = true) (hr : k < w.size → pk a (w.data.getD k 0) = true) :
    i < v.size ∧ k < w.size ∧ MergeSt v w a b (i + 1) (k + 1) (o ++ [v.data.getD i 0]) := by
  have hrest := h.rest
  have hnil : ∀ (x : ByteArray) j, ¬ j < x.size → x.data.toList.drop j = [] := fun x j hj => List.drop_eq_nil_of_le (by rw [size_list]; omega)
  have hi : i < v.size := by
    by_cases hi : i < v.size
    · exact hi
    · have hk : k < w.size := by omega
      rw [hnil v i hi, (drop_at hk).1] at hrest
      simp only [List.filter_cons, hr hk] at hrest
      simp at hrest
  have hk : k < w.size := by
    by_cases hk : k < w.size
    · exact hk
    · rw [hnil w k hk, (drop_at hi).1] at hrest
      simp only [List.filter_cons, hl hi] at hrest
      simp at hrest
  have ha := pk_within hv hi
  have hb := hl hi
  obtain ⟨d1, d2⟩ := drop_at hi
  obtain ⟨c1, c2⟩ := drop_at hk
  rw [d1, c1] at hrest
  simp only [List.filter_cons, hl hi, hr hk, if_true] at hrest
  obtain ⟨e1, e2⟩ := List.cons.inj hrest
  refine ⟨hi, hk, by omega, by omega, ?_, ?_, ?_, e2, by rw [List.length_append]; have := h.len; simp; omega⟩
  · rw [List.filter_append, h.left, d2]; simp only [List.filter_cons, ha, List.filter_nil, if_true]
  · rw [List.filter_append, h.right, c2, ← e1]; simp only [List.filter_cons, hb, List.filter_nil, if_true]
  · intro x hx
    rcases List.mem_append.1 hx with hx | hx
    · exact h.any x hx
    · rw [List.mem_singleton.1 hx]; exact .inl ha

/-- u is a merging of v and w. -/
def Merged (v w : ByteArray) (a b : Int) (u : ByteArray) : Prop := restr u a = v ∧ restr u b = w ∧ u.size ≤ 50000 ∧ ∀ x ∈ u.data.toList, pk a x = true ∨ pk b x = true
theorem MergeSt.done {v w : ByteArray} {a b : Int} {i k : Nat} {o : List UInt8} (h : MergeSt v w a b i k o) (hi : ¬ i < v.size) (hk : ¬ k < w.size) (hl : o.length ≤ 50000) : Merged v w a b ⟨o.toArray⟩ := by
  have h1 := h.left
  have h2 := h.right
  rw [List.take_of_length_le (by rw [size_list]; omega)] at h1 h2
  refine ⟨word_ext (by rw [restr_list]; exact h1), word_ext (by rw [restr_list]; exact h2), ?_, h.any⟩
  show o.toArray.size ≤ _
  simpa using hl

theorem orB_Has {a b : Int} (ha : 0 ≤ a) (hb : 0 ≤ b) (x : UInt8) (h : pk a x = true ∨ pk b x = true) : pk (orB a b) x = true := by
  rcases h with h | h
  · exact HasZ_sub (fun c hc => by rw [Has_or ha hb, hc]; rfl) h
  · exact HasZ_sub (fun c hc => by rw [Has_or ha hb, hc, Bool.or_true]) h
/-- A merging of two traces is a trace of both together. -/
theorem merged_trace {s t : Sy} {v w u : ByteArray} (hs : hasTr s v = true) (ht : hasTr t w = true) (h : Merged v w s.al t.al u) : trParts [s, t] u = true := by
  obtain ⟨h1, h2, h3, h4⟩ := h
  obtain ⟨s1, s2⟩ := hasTr_ok hs
  obtain ⟨t1, t2⟩ := hasTr_ok ht
  have r1 := sysOk_alpha s1
  have r2 := sysOk_alpha t1
  have hp : partsOk [s, t] = true := by simp [partsOk, s1, t1]
  have e0 : orB 0 s.al = s.al := allAl_one s1
  have ha : allAl [s, t] = orB s.al t.al := by show orB (orB 0 s.al) t.al = _; rw [e0]
  have hr := allAl_range _ (partsOk_all hp)
  rw [trParts_list]
  refine ⟨hp, ?_, ?_⟩
  · rw [within_list]
    refine ⟨alphaOk_range.2 hr, h3, fun x hx => ?_⟩
    rw [ha]
    exact orB_Has r1.1 r2.1 x (h4 x hx)
  · intro x hx
    rcases List.mem_cons.1 hx with rfl | hx
    · rw [h1]; exact hs
    · rw [List.mem_singleton.1 hx, h2]; exact ht

end AG

/- The program's MergeWords. -/
namespace Go.Proofs.YtempjhgajcdibaaDoor
open Go.RowKit Go.BigFrame AG

theorem below_drewNm {B : Nat} {a w : World} (h : Below B a w) (n : Nat) : Below B a (w.drewN n) := h.trans ⟨rfl, rfl, rfl, Nat.le_refl _, fun _ _ => rfl⟩

def MergePost (v x : ByteArray) (a b : Int) (w : World) (e : Ending) (w' : World) : Prop :=
  ((∃ u, e = .returned (.tuple #[.string u, .bool true]) ∧ Merged v x a b u) ∨ e = .returned (.tuple #[.string ⟨#[]⟩, .bool false])) ∧ Below w.heap.size w w'

set_option maxRecDepth 100000 in
set_option maxHeartbeats 16000000 in
theorem implMergeWords_any (v x : ByteArray) (a b : Int) (w : World) (hv : within v a = true) (hx : within x b = true) :
    Calls Tryd.prog 28 #[.string v, .int .i64 a, .string x, .int .i64 b] w (MergePost v x a b w) := by
  obtain ⟨i0, hi, hz0, hz1, hz2'⟩ := info_parts infoByte8
  have hsv := within_size hv
  have hsx := within_size hx
  have hv2 := hid hv
  have hx2 := hid hx
  replace hv := hid hv
  replace hx := hid hx
  have h63 : ∀ (s : ByteArray) i, ltr s i ≤ 63 := fun s i => by unfold ltr lOk; split; rename_i h; have := of_decide_eq_true h; omega; omega
  replace h63 := hid h63
  go_enter Tryd.func28, Tryd.ntmps28
  go_wp2_with fail
  refine (implWordWithin_any v a _ (by omega)).mono ?_
  rintro e w' ⟨rfl, rfl⟩
  rw [hv.out]
  go_wp2_with fail
  refine (implWordWithin_any x b _ (by omega)).mono ?_
  rintro e w' ⟨rfl, rfl⟩
  rw [hx.out]
  go_wp2_with fail
  refine (restrict_any v b _ (by omega)).mono ?_
  rintro e w1 ⟨rfl, hb1⟩
  go_wp2_with fail
  refine (restrict_any x a _ (by omega)).mono ?_
  rintro e w2 ⟨rfl, hb2⟩
  have hb := hb1.trans (hb2.mono hb1.size)
  clear hb1 hb2
  by_cases heq : (restr v b).toList = (restr x a).toList
  · have heq2 : restr v b = restr x a := word_ext (by rw [← ByteArray.toList_eq, ← ByteArray.toList_eq]; exact heq)
    have hst := hid (MergeSt.start heq2)
    rw [heq2]
    clear heq2
    replace heq := hid heq
    generalize restr x a = rr
    have hz2 := hb.size
    go_wp2_with (at_make; refine wpList_make_own _ rfl _ _ 22 rfl w.heap.size 5 i0 (.int .u8 0) 1 Tryd.underlying22 hi hz0 hz1 _ _ _ (v.size + x.size) rfl rfl (by omega) (by rw [hz2']; omega) (by unfold maxLen; omega) (by omega) ?_)
    intro w3 hown3 hgrow3
    have hB3 := hid (Below.grown hb hgrow3 hz2 (fun k hk => by cases hk))
    go_wp2_with fail
    go_loopw [10, 11, 12] (fun ov iv kv wr => ∃ (i k : Nat) (o : List UInt8), iv = .int .i64 i ∧ kv = .int .i64 k ∧ MergeSt v x a b i k o ∧ wr.ownsRow w.heap.size 5 1 ov o.length (byteVals o) ∧ Below w.heap.size w wr) (fun _ iv kv _ => v.size + x.size - (intOf iv).toNat - (intOf kv).toNat)
    case atStart => exact ⟨0, 0, [], rfl, rfl, hst.out, hown3, hB3.out⟩
    case round =>
      clear hown3 hgrow3
      obtain ⟨i, k, o, rfl, rfl, hm, hown, hbr⟩ := hrel
      have hzr := hbr.size
      have hle := hm.len
      have hli := hm.hi
      have hlk := hm.hk
      replace hm := hid hm
      by_cases hiv : i < v.size
      · cases hB : HasZ b (ltr v i)
        · replace hB := hid hB
          by_cases hik : k < x.size
          · cases hA : HasZ a (ltr x k)
            · replace hA := hid hA
              by_cases hlt : lz v i < lz x k
              · have hlt2 : decide (lz v i + 97 < lz x k + 97) = true := decide_eq_true (by omega)
                have hvi := byte_at v i hiv
                have hvi0 : (0 : Int) ≤ (i : Int) ∧ (i : Int) < (v.size : Int) := by omega
                have hxk := byte_at x k hik
                have hxk0 : (0 : Int) ≤ (k : Int) ∧ (k : Int) < (x.size : Int) := by omega
                have hnx := hid (hm.out.goL hv2.out hiv (by rw [← pk_at]; exact hB.out))
                have hbv := byte_at v i hiv
                have h0 : (0 : Int) ≤ (i : Int) ∧ (i : Int) < (v.size : Int) := by omega
                go_upto_region 7 with (first
                  | (go_at_call 76; refine (letterAt_any v i _ hiv).mono ?_; rintro e w' ⟨rfl, rfl⟩)
                  | (go_at_call 58; refine (has_any b (ltr v i) _ (h63.out _ _)).mono ?_; rintro e w' ⟨rfl, rfl⟩; rw [hB.out]))
                go_upto_region 11 with (first
                  | (go_at_call 76; refine (letterAt_any x k _ hik).mono ?_; rintro e w' ⟨rfl, rfl⟩)
                  | (go_at_call 58; refine (has_any a (ltr x k) _ (h63.out _ _)).mono ?_; rintro e w' ⟨rfl, rfl⟩; rw [hA.out]))
                go_quiet (fail)
                have hownD : (wr.drewN nq).ownsRow w.heap.size 5 1 _ o.length (byteVals o) := hown
                have hbrD := below_drewNm hbr nq
                have hzrD := hbrD.size
                clear hown hbr
                generalize wr.drewN nq = wd at *
                go_wp2_with (first
                  | (at_builtin; refine wpList_append_own _ rfl _ _ 22 rfl w.heap.size 5 i0 (.int .u8 0) 1 1 Tryd.underlying22 hi hz0 hz1 hz2' rfl (by decide) _ _ _ rfl (hownD.alloc _) ⟨wd.heap.size, 0, none⟩ 1 1 [.int .u8 (lz v i + 97)] rfl rfl (cell_one_new _ _ _) (by intro u hu; simp at hu; subst hu; rfl) (by unfold maxLen; omega) (by omega) (by simp; omega) ?_; intro v' w9 hown' hgrow _))
                have RR := bytes_next (byte_val v i) hzrD hownD hbrD hown' hgrow
                clear hown' hgrow hownD hbrD
                go_roundw
                case rel => exact ⟨i + 1, k, _, by go_num, by go_num, hnx.out, RR.1, RR.2⟩
                case measure => simp [intOf]; omega
              · have hlt2 : decide (lz v i + 97 < lz x k + 97) = false := decide_eq_false (by omega)
                have hvi := byte_at v i hiv
                have hvi0 : (0 : Int) ≤ (i : Int) ∧ (i : Int) < (v.size : Int) := by omega
                have hxk := byte_at x k hik
                have hxk0 : (0 : Int) ≤ (k : Int) ∧ (k : Int) < (x.size : Int) := by omega
                have hnx := hid (hm.out.goR hx2.out hik (by rw [← pk_at]; exact hA.out))
                have hbv := byte_at x k hik
                have h0 : (0 : Int) ≤ (k : Int) ∧ (k : Int) < (x.size : Int) := by omega
                go_upto_region 7 with (first
                  | (go_at_call 76; refine (letterAt_any v i _ hiv).mono ?_; rintro e w' ⟨rfl, rfl⟩)
                  | (go_at_call 58; refine (has_any b (ltr v i) _ (h63.out _ _)).mono ?_; rintro e w' ⟨rfl, rfl⟩; rw [hB.out]))
                go_upto_region 11 with (first
                  | (go_at_call 76; refine (letterAt_any x k _ hik).mono ?_; rintro e w' ⟨rfl, rfl⟩)
                  | (go_at_call 58; refine (has_any a (ltr x k) _ (h63.out _ _)).mono ?_; rintro e w' ⟨rfl, rfl⟩; rw [hA.out]))
                go_quiet (fail)
                have hownD : (wr.drewN nq).ownsRow w.heap.size 5 1 _ o.length (byteVals o) := hown
                have hbrD := below_drewNm hbr nq
                have hzrD := hbrD.size
                clear hown hbr
                generalize wr.drewN nq = wd at *
                go_wp2_with (first
                  | (at_builtin; refine wpList_append_own _ rfl _ _ 22 rfl w.heap.size 5 i0 (.int .u8 0) 1 1 Tryd.underlying22 hi hz0 hz1 hz2' rfl (by decide) _ _ _ rfl (hownD.alloc _) ⟨wd.heap.size, 0, none⟩ 1 1 [.int .u8 (lz x k + 97)] rfl rfl (cell_one_new _ _ _) (by intro u hu; simp at hu; subst hu; rfl) (by unfold maxLen; omega) (by omega) (by simp; omega) ?_; intro v' w9 hown' hgrow _))
                have RR := bytes_next (byte_val x k) hzrD hownD hbrD hown' hgrow
                clear hown' hgrow hownD hbrD
                go_roundw
                case rel => exact ⟨i, k + 1, _, by go_num, by go_num, hnx.out, RR.1, RR.2⟩
                case measure => simp [intOf]; omega
            · replace hA := hid hA
              have hvi := byte_at v i hiv
              have hvi0 : (0 : Int) ≤ (i : Int) ∧ (i : Int) < (v.size : Int) := by omega
              have hxk := byte_at x k hik
              have hxk0 : (0 : Int) ≤ (k : Int) ∧ (k : Int) < (x.size : Int) := by omega
              have hnx := hid (hm.out.goL hv2.out hiv (by rw [← pk_at]; exact hB.out))
              have hbv := byte_at v i hiv
              have h0 : (0 : Int) ≤ (i : Int) ∧ (i : Int) < (v.size : Int) := by omega
              go_upto_region 7 with (first
                | (go_at_call 76; refine (letterAt_any v i _ hiv).mono ?_; rintro e w' ⟨rfl, rfl⟩)
                | (go_at_call 58; refine (has_any b (ltr v i) _ (h63.out _ _)).mono ?_; rintro e w' ⟨rfl, rfl⟩; rw [hB.out]))
              go_upto_region 11 with (first
                | (go_at_call 76; refine (letterAt_any x k _ hik).mono ?_; rintro e w' ⟨rfl, rfl⟩)
                | (go_at_call 58; refine (has_any a (ltr x k) _ (h63.out _ _)).mono ?_; rintro e w' ⟨rfl, rfl⟩; rw [hA.out]))
              go_quiet (fail)
              have hownD : (wr.drewN nq).ownsRow w.heap.size 5 1 _ o.length (byteVals o) := hown
              have hbrD := below_drewNm hbr nq
              have hzrD := hbrD.size
              clear hown hbr
              generalize wr.drewN nq = wd at *
              go_wp2_with (first
                | (at_builtin; refine wpList_append_own _ rfl _ _ 22 rfl w.heap.size 5 i0 (.int .u8 0) 1 1 Tryd.underlying22 hi hz0 hz1 hz2' rfl (by decide) _ _ _ rfl (hownD.alloc _) ⟨wd.heap.size, 0, none⟩ 1 1 [.int .u8 (lz v i + 97)] rfl rfl (cell_one_new _ _ _) (by intro u hu; simp at hu; subst hu; rfl) (by unfold maxLen; omega) (by omega) (by simp; omega) ?_; intro v' w9 hown' hgrow _))
              have RR := bytes_next (byte_val v i) hzrD hownD hbrD hown' hgrow
              clear hown' hgrow hownD hbrD
              go_roundw
              case rel => exact ⟨i + 1, k, _, by go_num, by go_num, hnx.out, RR.1, RR.2⟩
              case measure => simp [intOf]; omega
          · have hvi := byte_at v i hiv
            have hvi0 : (0 : Int) ≤ (i : Int) ∧ (i : Int) < (v.size : Int) := by omega
            have hnx := hid (hm.out.goL hv2.out hiv (by rw [← pk_at]; exact hB.out))
            have hbv := byte_at v i hiv
            have h0 : (0 : Int) ≤ (i : Int) ∧ (i : Int) < (v.size : Int) := by omega
            go_upto_region 7 with (first
              | (go_at_call 76; refine (letterAt_any v i _ hiv).mono ?_; rintro e w' ⟨rfl, rfl⟩)
              | (go_at_call 58; refine (has_any b (ltr v i) _ (h63.out _ _)).mono ?_; rintro e w' ⟨rfl, rfl⟩; rw [hB.out]))
            go_upto_region 11 with fail
            go_quiet (fail)
            have hownD : (wr.drewN nq).ownsRow w.heap.size 5 1 _ o.length (byteVals o) := hown
            have hbrD := below_drewNm hbr nq
            have hzrD := hbrD.size
            clear hown hbr
            generalize wr.drewN nq = wd at *
            go_wp2_with (first
              | (at_builtin; refine wpList_append_own _ rfl _ _ 22 rfl w.heap.size 5 i0 (.int .u8 0) 1 1 Tryd.underlying22 hi hz0 hz1 hz2' rfl (by decide) _ _ _ rfl (hownD.alloc _) ⟨wd.heap.size, 0, none⟩ 1 1 [.int .u8 (lz v i + 97)] rfl rfl (cell_one_new _ _ _) (by intro u hu; simp at hu; subst hu; rfl) (by unfold maxLen; omega) (by omega) (by simp; omega) ?_; intro v' w9 hown' hgrow _))
            have RR := bytes_next (byte_val v i) hzrD hownD hbrD hown' hgrow
            clear hown' hgrow hownD hbrD
            go_roundw
            case rel => exact ⟨i + 1, k, _, by go_num, by go_num, hnx.out, RR.1, RR.2⟩
            case measure => simp [intOf]; omega
        · replace hB := hid hB
          by_cases hik : k < x.size
          · cases hA : HasZ a (ltr x k)
            · replace hA := hid hA
              have hvi := byte_at v i hiv
              have hvi0 : (0 : Int) ≤ (i : Int) ∧ (i : Int) < (v.size : Int) := by omega
              have hxk := byte_at x k hik
              have hxk0 : (0 : Int) ≤ (k : Int) ∧ (k : Int) < (x.size : Int) := by omega
              have hnx := hid (hm.out.goR hx2.out hik (by rw [← pk_at]; exact hA.out))
              have hbv := byte_at x k hik
              have h0 : (0 : Int) ≤ (k : Int) ∧ (k : Int) < (x.size : Int) := by omega
              go_upto_region 7 with (first
                | (go_at_call 76; refine (letterAt_any v i _ hiv).mono ?_; rintro e w' ⟨rfl, rfl⟩)
                | (go_at_call 58; refine (has_any b (ltr v i) _ (h63.out _ _)).mono ?_; rintro e w' ⟨rfl, rfl⟩; rw [hB.out]))
              go_upto_region 11 with (first
                | (go_at_call 76; refine (letterAt_any x k _ hik).mono ?_; rintro e w' ⟨rfl, rfl⟩)
                | (go_at_call 58; refine (has_any a (ltr x k) _ (h63.out _ _)).mono ?_; rintro e w' ⟨rfl, rfl⟩; rw [hA.out]))
              go_quiet (fail)
              have hownD : (wr.drewN nq).ownsRow w.heap.size 5 1 _ o.length (byteVals o) := hown
              have hbrD := below_drewNm hbr nq
              have hzrD := hbrD.size
              clear hown hbr
              generalize wr.drewN nq = wd at *
              go_wp2_with (first
                | (at_builtin; refine wpList_append_own _ rfl _ _ 22 rfl w.heap.size 5 i0 (.int .u8 0) 1 1 Tryd.underlying22 hi hz0 hz1 hz2' rfl (by decide) _ _ _ rfl (hownD.alloc _) ⟨wd.heap.size, 0, none⟩ 1 1 [.int .u8 (lz x k + 97)] rfl rfl (cell_one_new _ _ _) (by intro u hu; simp at hu; subst hu; rfl) (by unfold maxLen; omega) (by omega) (by simp; omega) ?_; intro v' w9 hown' hgrow _))
              have RR := bytes_next (byte_val x k) hzrD hownD hbrD hown' hgrow
              clear hown' hgrow hownD hbrD
              go_roundw
              case rel => exact ⟨i, k + 1, _, by go_num, by go_num, hnx.out, RR.1, RR.2⟩
              case measure => simp [intOf]; omega
            · replace hA := hid hA
              have hboth := (hm.out.both hv2.out hx2.out (.inl hiv) (fun _ => by rw [← pk_at]; exact hB.out) (fun _ => by rw [← pk_at]; exact hA.out)).2.2
              have hvi := byte_at v i hiv
              have hvi0 : (0 : Int) ≤ (i : Int) ∧ (i : Int) < (v.size : Int) := by omega
              have hxk := byte_at x k hik
              have hxk0 : (0 : Int) ≤ (k : Int) ∧ (k : Int) < (x.size : Int) := by omega
              have hnx := hid hboth
              have hbv := byte_at v i hiv
              have h0 : (0 : Int) ≤ (i : Int) ∧ (i : Int) < (v.size : Int) := by omega
              go_upto_region 7 with (first
                | (go_at_call 76; refine (letterAt_any v i _ hiv).mono ?_; rintro e w' ⟨rfl, rfl⟩)
                | (go_at_call 58; refine (has_any b (ltr v i) _ (h63.out _ _)).mono ?_; rintro e w' ⟨rfl, rfl⟩; rw [hB.out]))
              go_upto_region 11 with (first
                | (go_at_call 76; refine (letterAt_any x k _ hik).mono ?_; rintro e w' ⟨rfl, rfl⟩)
                | (go_at_call 58; refine (has_any a (ltr x k) _ (h63.out _ _)).mono ?_; rintro e w' ⟨rfl, rfl⟩; rw [hA.out]))
              go_quiet (fail)
              have hownD : (wr.drewN nq).ownsRow w.heap.size 5 1 _ o.length (byteVals o) := hown
              have hbrD := below_drewNm hbr nq
              have hzrD := hbrD.size
              clear hown hbr
              generalize wr.drewN nq = wd at *
              go_wp2_with (first
                | (at_builtin; refine wpList_append_own _ rfl _ _ 22 rfl w.heap.size 5 i0 (.int .u8 0) 1 1 Tryd.underlying22 hi hz0 hz1 hz2' rfl (by decide) _ _ _ rfl (hownD.alloc _) ⟨wd.heap.size, 0, none⟩ 1 1 [.int .u8 (lz v i + 97)] rfl rfl (cell_one_new _ _ _) (by intro u hu; simp at hu; subst hu; rfl) (by unfold maxLen; omega) (by omega) (by simp; omega) ?_; intro v' w9 hown' hgrow _))
              have RR := bytes_next (byte_val v i) hzrD hownD hbrD hown' hgrow
              clear hown' hgrow hownD hbrD
              go_roundw
              case rel => exact ⟨i + 1, k + 1, _, by go_num, by go_num, hnx.out, RR.1, RR.2⟩
              case measure => simp [intOf]; omega
          · exact absurd (hm.out.both hv2.out hx2.out (.inl hiv) (fun _ => by rw [← pk_at]; exact hB.out) (fun h => absurd h hik)).2.1 hik
      · by_cases hik : k < x.size
        · cases hA : HasZ a (ltr x k)
          · replace hA := hid hA
            have hxk := byte_at x k hik
            have hxk0 : (0 : Int) ≤ (k : Int) ∧ (k : Int) < (x.size : Int) := by omega
            have hnx := hid (hm.out.goR hx2.out hik (by rw [← pk_at]; exact hA.out))
            have hbv := byte_at x k hik
            have h0 : (0 : Int) ≤ (k : Int) ∧ (k : Int) < (x.size : Int) := by omega
            go_upto_region 7 with fail
            go_upto_region 11 with (first
              | (go_at_call 76; refine (letterAt_any x k _ hik).mono ?_; rintro e w' ⟨rfl, rfl⟩)
              | (go_at_call 58; refine (has_any a (ltr x k) _ (h63.out _ _)).mono ?_; rintro e w' ⟨rfl, rfl⟩; rw [hA.out]))
            go_quiet (fail)
            have hownD : (wr.drewN nq).ownsRow w.heap.size 5 1 _ o.length (byteVals o) := hown
            have hbrD := below_drewNm hbr nq
            have hzrD := hbrD.size
            clear hown hbr
            generalize wr.drewN nq = wd at *
            go_wp2_with (first
              | (at_builtin; refine wpList_append_own _ rfl _ _ 22 rfl w.heap.size 5 i0 (.int .u8 0) 1 1 Tryd.underlying22 hi hz0 hz1 hz2' rfl (by decide) _ _ _ rfl (hownD.alloc _) ⟨wd.heap.size, 0, none⟩ 1 1 [.int .u8 (lz x k + 97)] rfl rfl (cell_one_new _ _ _) (by intro u hu; simp at hu; subst hu; rfl) (by unfold maxLen; omega) (by omega) (by simp; omega) ?_; intro v' w9 hown' hgrow _))
            have RR := bytes_next (byte_val x k) hzrD hownD hbrD hown' hgrow
            clear hown' hgrow hownD hbrD
            go_roundw
            case rel => exact ⟨i, k + 1, _, by go_num, by go_num, hnx.out, RR.1, RR.2⟩
            case measure => simp [intOf]; omega
          · exact absurd (hm.out.both hv2.out hx2.out (.inr hik) (fun h => absurd h hiv) (fun _ => by rw [← pk_at]; exact hA)).1 hiv
        · have hdone := hm.out.done hiv hik
          obtain ⟨Ao, co, hvo, hc1, hc2⟩ := own_slice hown
          subst hvo
          by_cases h5 : 50000 < o.length
          · replace hown := hid hown
            go_wp2_with fail
            go_ret2
            exact ⟨.inr rfl, hbr⟩
          · have kc := conv_own hown
            have hfin := hid (hdone (by omega))
            replace hown := hid hown
            clear hdone
            go_wp2
            go_ret2
            exact ⟨.inl ⟨_, rfl, hfin.out⟩, hbr⟩
  · have hne : ((restr v b).toList == (restr x a).toList) = false := by rw [beq_eq_false_iff_ne]; exact heq
    replace heq := hid heq
    go_wp2_with fail
    go_ret2
    exact ⟨.inr rfl, hb⟩

end Go.Proofs.YtempjhgajcdibaaDoor

/- The law FnTraceMerge. -/
namespace Go.Proofs.YtempjhgajcdibaaDoor
open Go.RowKit Go.BigFrame AG

theorem CodeAt.later {w w' : World} {A : Option Addr} {n : Nat} (h : CodeAt w A n) (hb : Below w.heap.size w w') : CodeAt w' A n := fun hn => by
  obtain ⟨b, o, h1, h2, h3⟩ := h hn
  refine ⟨b, o, h1, Nat.lt_of_lt_of_le h2 hb.size, fun i hi => ?_⟩
  obtain ⟨y, h4, h5⟩ := h3 i hi
  exact ⟨y, h4, by rw [hb.cell (by simpa using h2)]; exact h5⟩
/-- A list of two systems that has just been laid. -/
theorem sys_pair {w : World} {s t : Sy} {A B : Option Addr} {c d : Nat} (h1 : s.es.length ≤ c) (h2 : c ≤ 9223372036854775807) (h3 : EdsAt w w.heap.size A s.es) (k1 : t.es.length ≤ d) (k2 : d ≤ 9223372036854775807) (k3 : EdsAt w w.heap.size B t.es) (T : TypeId) :
    SysAt (w.alloc (.cells #[.int .i64 s.al, .int .i64 s.st, .slice A s.es.length c, .int .i64 t.al, .int .i64 t.st, .slice B t.es.length d] T)) (w.alloc (.cells #[.int .i64 s.al, .int .i64 s.st, .slice A s.es.length c, .int .i64 t.al, .int .i64 t.st, .slice B t.es.length d] T)).heap.size (some ⟨w.heap.size, 0, none⟩) [s, t] := fun _ => by
  refine ⟨w.heap.size, 0, rfl, by simp, fun i hi => ?_⟩
  have hb := Blk.new w T #[.int .i64 s.al, .int .i64 s.st, .slice A s.es.length c, .int .i64 t.al, .int .i64 t.st, .slice B t.es.length d]
  have hn : Below w.heap.size w (w.alloc (.cells #[.int .i64 s.al, .int .i64 s.st, .slice A s.es.length c, .int .i64 t.al, .int .i64 t.st, .slice B t.es.length d] T)) := (Below.refl _ _).alloc (Nat.le_refl _) _
  rcases (by simp at hi; omega : i = 0 ∨ i = 1) with rfl | rfl
  · exact ⟨by rw [hb.cell]; rfl, by rw [hb.cell]; rfl, A, c, by rw [hb.cell]; rfl, h1, h2, h3.later hn⟩
  · exact ⟨by rw [hb.cell]; rfl, by rw [hb.cell]; rfl, B, d, by rw [hb.cell]; rfl, k1, k2, k3.later hn⟩

set_option maxRecDepth 100000 in
set_option maxHeartbeats 8000000 in
theorem FnTraceMerge_any (A B : Option Addr) (n c m d : Nat) (w : World) (hn : n ≤ c) (hc : c ≤ 9223372036854775807) (hm : m ≤ d) (hd : d ≤ 9223372036854775807) (hT : Tab w) (hx : CodeAt w A n) (hy : CodeAt w B m) :
    Calls Tryd.prog 7 #[.slice A n c, .slice B m d] w fun e w' => e = .returned (.bool true) ∧ Below w.heap.size w w' := by
  replace hx := hid hx
  replace hy := hid hy
  replace hT := hid hT
  by_cases hbig : 1048576 < n
  · go_enter Tryd.func7, Tryd.ntmps7
    go_wp2
    go_ret
    exact ⟨rfl, Below.refl _ _⟩
  by_cases hbig2 : 1048576 < m
  · go_enter Tryd.func7, Tryd.ntmps7
    go_wp2
    go_ret
    exact ⟨rfl, Below.refl _ _⟩
  · go_enter Tryd.func7, Tryd.ntmps7
    go_wp2_with fail
    refine (drawStatesAfter_any A n c w hn hc hx.out).mono ?_
    rintro e w1 ⟨s, As, cs, x, rfl, a1, a2, a3, a4, a5, a6, a7⟩
    unfold Sy.val
    have hzx : x.size ≤ 9223372036854775807 := by omega
    obtain ⟨w2, hw2, hz2, hB2, hS0, hS1, hS2⟩ := boxed3 w1 (Value.int IntKind.i64 s.al) (Value.int IntKind.i64 s.st) (Value.slice As s.es.length cs) 25
    have hs2 := hid (a5.later hB2)
    have hBB2 := a7.trans (hB2.mono a7.size)
    have hy2 := hid (hy.out.later hBB2)
    clear a5 a6
    have p0 := hS0 _ (Below.refl _ _)
    have p1 := hS1 _ (Below.refl _ _)
    have p2 := hS2 _ (Below.refl _ _)
    go_wp2_with fail
    refine (drawStatesAfter_any B m d w2 hm hd hy2.out).mono ?_
    rintro e w3 ⟨t, Bt, ct, y, rfl, b1, b2, b3, b4, b5, b6, b7⟩
    unfold Sy.val
    have hzy : y.size ≤ 9223372036854775807 := by omega
    obtain ⟨w4, hw4, hz4, hB4, hU0, hU1, hU2⟩ := boxed3 w3 (Value.int IntKind.i64 t.al) (Value.int IntKind.i64 t.st) (Value.slice Bt t.es.length ct) 25
    have hz3 := b7.size
    have hB24 := b7.trans (hB4.mono b7.size)
    have hC4 := hB24.mono (show w1.heap.size + 1 ≤ w2.heap.size from hz2)
    have hs4 := hid (hs2.out.later hB24)
    have ht4 := hid (b5.later hB4)
    have hBB4 := hBB2.trans (hB24.mono hBB2.size)
    have hT4 := hid (hT.out.later hBB4)
    clear b5 b6 p0 p1 p2 hw2
    have p0 := hS0 _ hC4
    have p1 := hS1 _ hC4
    have p2 := hS2 _ hC4
    have q0 := hU0 _ (Below.refl _ _)
    have q1 := hU1 _ (Below.refl _ _)
    have q2 := hU2 _ (Below.refl _ _)
    have hC4' := hid hC4
    have hD4 : Hid (Below (w3.heap.size + 1) w4 w4) := hid (Below.refl _ _)
    go_wp2_with fail
    refine (implHasTrace_any s As cs x w4 hzx a1 a2 hT4.out hs4.out).mono ?_
    rintro e w5 ⟨rfl, hb5⟩
    clear hw4
    have hzz5 := hb5.size
    have hCC5 := hC4'.out.trans (hb5.mono (by have := hC4'.out.size; omega))
    have hDD5 := hD4.out.trans (hb5.mono (by have := hD4.out.size; omega))
    have hs5 := hid (hs4.out.later hb5)
    have ht5 := hid (ht4.out.later hb5)
    have hBB5 := hBB4.trans (hb5.mono hBB4.size)
    have hT5 := hid (hT4.out.later hb5)
    clear p0 p1 p2 q0 q1 q2
    have p0 := hS0 _ hCC5
    have p1 := hS1 _ hCC5
    have p2 := hS2 _ hCC5
    have q0 := hU0 _ hDD5
    have q1 := hU1 _ hDD5
    have q2 := hU2 _ hDD5
    have hC5' := hid hCC5
    have hD5 := hid hDD5
    clear hCC5 hDD5
    cases h1 : hasTr s x
    · replace h1 := hid h1
      go_wp2_with fail
      refine (specHasTrace_any s As cs x w5 hzx a1 a2 hs5.out).mono ?_
      rintro e w6 ⟨rfl, hb6⟩
      rw [h1.out]
      have hzz6 := hb6.size
      have hCC6 := hC5'.out.trans (hb6.mono (by have := hC5'.out.size; omega))
      have hDD6 := hD5.out.trans (hb6.mono (by have := hD5.out.size; omega))
      have hs6 := hid (hs5.out.later hb6)
      have ht6 := hid (ht5.out.later hb6)
      have hBB6 := hBB5.trans (hb6.mono hBB5.size)
      have hT6 := hid (hT5.out.later hb6)
      clear p0 p1 p2 q0 q1 q2
      have p0 := hS0 _ hCC6
      have p1 := hS1 _ hCC6
      have p2 := hS2 _ hCC6
      have q0 := hU0 _ hDD6
      have q1 := hU1 _ hDD6
      have q2 := hU2 _ hDD6
      have hC6' := hid hCC6
      have hD6 := hid hDD6
      clear hCC6 hDD6
      go_wp2_with fail
      refine (specHasTrace_any s As cs x w6 hzx a1 a2 hs6.out).mono ?_
      rintro e w9 ⟨rfl, hb9⟩
      rw [h1.out]
      have hBB9 := hBB6.trans (hb9.mono hBB6.size)
      clear p0 p1 p2 q0 q1 q2
      go_wp2_with fail
      go_ret
      exact ⟨rfl, hBB9⟩
    · replace h1 := hid h1
      go_wp2_with fail
      refine (specHasTrace_any s As cs x w5 hzx a1 a2 hs5.out).mono ?_
      rintro e w6 ⟨rfl, hb6⟩
      rw [h1.out]
      have hzz6 := hb6.size
      have hCC6 := hC5'.out.trans (hb6.mono (by have := hC5'.out.size; omega))
      have hDD6 := hD5.out.trans (hb6.mono (by have := hD5.out.size; omega))
      have hs6 := hid (hs5.out.later hb6)
      have ht6 := hid (ht5.out.later hb6)
      have hBB6 := hBB5.trans (hb6.mono hBB5.size)
      have hT6 := hid (hT5.out.later hb6)
      clear p0 p1 p2 q0 q1 q2
      have p0 := hS0 _ hCC6
      have p1 := hS1 _ hCC6
      have p2 := hS2 _ hCC6
      have q0 := hU0 _ hDD6
      have q1 := hU1 _ hDD6
      have q2 := hU2 _ hDD6
      have hC6' := hid hCC6
      have hD6 := hid hDD6
      clear hCC6 hDD6
      go_wp2_with fail
      refine (implHasTrace_any t Bt ct y w6 hzy b1 b2 hT6.out ht6.out).mono ?_
      rintro e w7 ⟨rfl, hb7⟩
      have hzz7 := hb7.size
      have hCC7 := hC6'.out.trans (hb7.mono (by have := hC6'.out.size; omega))
      have hDD7 := hD6.out.trans (hb7.mono (by have := hD6.out.size; omega))
      have hs7 := hid (hs6.out.later hb7)
      have ht7 := hid (ht6.out.later hb7)
      have hBB7 := hBB6.trans (hb7.mono hBB6.size)
      have hT7 := hid (hT6.out.later hb7)
      clear p0 p1 p2 q0 q1 q2
      have p0 := hS0 _ hCC7
      have p1 := hS1 _ hCC7
      have p2 := hS2 _ hCC7
      have q0 := hU0 _ hDD7
      have q1 := hU1 _ hDD7
      have q2 := hU2 _ hDD7
      have hC7' := hid hCC7
      have hD7 := hid hDD7
      clear hCC7 hDD7
      cases h2 : hasTr t y
      · replace h2 := hid h2
        go_wp2_with fail
        refine (specHasTrace_any s As cs x w7 hzx a1 a2 hs7.out).mono ?_
        rintro e w9 ⟨rfl, hb9⟩
        rw [h1.out]
        have hBB9 := hBB7.trans (hb9.mono hBB7.size)
        clear p0 p1 p2 q0 q1 q2
        go_wp2_with fail
        go_ret
        exact ⟨rfl, hBB9⟩
      · have hws := (hasTr_ok h1.out).2
        have hwt := (hasTr_ok h2).2
        replace h2 := hid h2
        replace hws := hid hws
        replace hwt := hid hwt
        go_wp2_with fail
        refine (implMergeWords_any x y s.al t.al w7 hws.out hwt.out).mono ?_
        rintro e w8 ⟨hres, hb8⟩
        have hzz8 := hb8.size
        have hCC8 := hC7'.out.trans (hb8.mono (by have := hC7'.out.size; omega))
        have hDD8 := hD7.out.trans (hb8.mono (by have := hD7.out.size; omega))
        have hs8 := hid (hs7.out.later hb8)
        have ht8 := hid (ht7.out.later hb8)
        have hBB8 := hBB7.trans (hb8.mono hBB7.size)
        have hT8 := hid (hT7.out.later hb8)
        clear p0 p1 p2 q0 q1 q2
        have p0 := hS0 _ hCC8
        have p1 := hS1 _ hCC8
        have p2 := hS2 _ hCC8
        have q0 := hU0 _ hDD8
        have q1 := hU1 _ hDD8
        have q2 := hU2 _ hDD8
        have hC8' := hid hCC8
        have hD8 := hid hDD8
        clear hCC8 hDD8
        rcases hres with ⟨u, rfl, hmg⟩ | rfl
        · have htr := hid (merged_trace h1.out h2.out hmg)
          have hzu : u.size ≤ 9223372036854775807 := by have := hmg.2.2.1; omega
          replace hmg := hid hmg
          have hn8 := hid (sys_pair a1 a2 hs8.out b1 b2 ht8.out 25)
          have hbn : Below w8.heap.size w8 (w8.alloc (.cells #[.int .i64 s.al, .int .i64 s.st, .slice As s.es.length cs, .int .i64 t.al, .int .i64 t.st, .slice Bt t.es.length ct] 25)) := (Below.refl _ _).alloc (Nat.le_refl _) _
          generalize hw9 : w8.alloc (.cells #[.int .i64 s.al, .int .i64 s.st, .slice As s.es.length cs, .int .i64 t.al, .int .i64 t.st, .slice Bt t.es.length ct] 25) = w9 at hn8 hbn
          have hT9 := hid (hT8.out.later hbn)
          go_wp2_with fail
          refine (implTraceOfParts_any [s, t] (some ⟨w8.heap.size, 0, none⟩) 2 u w9 hzu (Nat.le_refl _) (by omega) hT9.out hn8.out).mono ?_
          rintro e w10 ⟨rfl, hb10⟩
          rw [htr.out]
          have hBB10 := hBB8.trans ((hbn.trans (hb10.mono hbn.size)).mono hBB8.size)
          clear p0 p1 p2 q0 q1 q2 hw9
          go_wp2_with fail
          go_ret
          exact ⟨rfl, hBB10⟩
        · go_wp2_with fail
          go_ret
          exact ⟨rfl, hBB8⟩

end Go.Proofs.YtempjhgajcdibaaDoor
