/- The laws FnDeterministicStates, FnIsDeterministic. -/
import Derived.Test.YtolnlkccbndkcaaDoorK18
import Derived.Test.YtolnlkccbndkcaaDoorK16
import Derived.Test.YtolnlkccbndkcaaDoorK9
import Derived.Test.YtolnlkccbndkcaaDoorK19
import Derived.Test.YtolnlkccbndkcaaDoorK13
set_option linter.unusedSimpArgs false
set_option linter.unusedVariables false
namespace Go.Proofs.YtolnlkccbndkcaaDoor
open Go.RowKit Go.BigFrame Go.Maps AG

theorem agHas_nat (S n : Nat) (w : World) (h : n ≤ 63) : Calls Tryd.prog 108 #[.int .i64 (S : Nat), .int .i64 (n : Nat)] w fun e w' => e = .returned (.bool (S.testBit n)) ∧ w = w' := by
  have := agHas_any (S : Int) (n : Int) w (by omega) (by omega)
  rw [Int.toNat_natCast, Has_nat] at this
  exact this
set_option maxHeartbeats 1000000 in
theorem agCount_any (S : Nat) (w : World) :
    Calls Tryd.prog 42 #[.int .i64 (S : Nat)] w fun e w' => e = .returned (.int .i64 (popE S : Nat)) ∧ w = w' := by
  have hpop : Hid (popE S = rankN S 16) := hid (popE_rank S)
  go_enter Tryd.func42, Tryd.ntmps42
  go_wp2_with fail
  go_loopw [3, 4] (fun o i wr => ∃ k : Nat, i = .int .i64 (k : Nat) ∧ k ≤ 16 ∧ o = .int .i64 (rankN S k : Nat) ∧ w = wr) (fun _ i _ => 16 - (intOf i).toNat)
  case atStart => exact ⟨0, rfl, by omega, rfl, rfl⟩
  case round =>
    obtain ⟨k, rfl, hk, rfl, rfl⟩ := hrel
    have hle := rankN_le S k
    by_cases hlt : k < 16
    · have hnx : Hid (rankN S (k + 1) = rankN S k + if S.testBit k = true then 1 else 0) := hid rfl
      cases hb : S.testBit k
      · have hn2 : Hid (rankN S (k + 1) = rankN S k) := hid (by rw [hnx.out, hb]; simp)
        replace hb := hid hb
        go_wp2_with (go_at_call 108; refine (agHas_nat S k _ (by omega)).mono ?_; rintro e w' ⟨rfl, rfl⟩; rw [hb.out])
        go_roundw
        case rel => exact ⟨k + 1, by go_num, by omega, by rw [hn2.out], by first | trivial | rfl⟩
        case measure => simp [intOf]; omega
      · have hn2 : Hid (rankN S (k + 1) = rankN S k + 1) := hid (by rw [hnx.out, hb]; simp)
        replace hb := hid hb
        go_wp2_with (go_at_call 108; refine (agHas_nat S k _ (by omega)).mono ?_; rintro e w' ⟨rfl, rfl⟩; rw [hb.out])
        go_roundw
        case rel => exact ⟨k + 1, by go_num, by omega, by rw [hn2.out]; go_num, by first | trivial | rfl⟩
        case measure => simp [intOf]; omega
    · obtain rfl : k = 16 := by omega
      go_wp2
      go_ret
      exact ⟨ret_int (by rw [hpop.out]), by first | rfl | trivial⟩

set_option maxRecDepth 100000 in
set_option maxHeartbeats 16000000 in
theorem FnDeterministicStates_any (A : Option Addr) (n c : Nat) (w : World) (hn : n ≤ c) (hc : c ≤ 9223372036854775807) (hT : Tab w) (hx : CodeAt w A n) :
    Calls Tryd.prog 8 #[.slice A n c] w fun e w' => e = .returned (.bool true) ∧ Below w.heap.size w w' := by
  replace hT := hid hT
  replace hx := hid hx
  by_cases hlen : 1048576 < n
  · have hgt : (1048576 : Int) < (n : Int) := by omega
    go_enter Tryd.func8, Tryd.ntmps8
    go_wp2
    go_ret
    exact ⟨rfl, Below.refl _ _⟩
  have hgt : ¬ ((1048576 : Int) < (n : Int)) := by omega
  go_enter Tryd.func8, Tryd.ntmps8
  go_wp2_with fail
  have BW_w : Below w.heap.size w w := Below.refl _ _
  refine (drawIsDeterministic_any A n c w hn hc hx.out).mono ?_
  rintro e w1 ⟨s, As, cs, rfl, a1, a2, a3, a4, -, hb_w1⟩
  unfold Sy.val
  have BW_w1 := BW_w.trans (hb_w1.mono BW_w.size)
  have es := hid a4
  have BEs_w1 : Below w1.heap.size w1 w1 := Below.refl _ _
  clear a4
  obtain ⟨dt, hdt⟩ : ∃ dt, Hid (dt = detB s) := ⟨_, hid rfl⟩
  have hdd : (dt != dt) = false := by simp
  have hde : (dt == dt) = true := by simp
  go_upto_region 4 with fail
  obtain ⟨w2, hw_w2, hz_w2, hb_w2, hS_w2⟩ := boxed w1 #[.int .i64 s.al, .int .i64 s.st, .slice As s.es.length cs] 25
  rw [hw_w2]
  clear hw_w2
  have hs0 := fun w' (hb : Below w2.heap.size w2 w') => hS_w2 0 _ rfl w' (hb.mono hz_w2)
  have hs1 := fun w' (hb : Below w2.heap.size w2 w') => hS_w2 1 _ rfl w' (hb.mono hz_w2)
  have hs2 := fun w' (hb : Below w2.heap.size w2 w') => hS_w2 2 _ rfl w' (hb.mono hz_w2)
  replace hs0 := hid hs0
  replace hs1 := hid hs1
  replace hs2 := hid hs2
  clear hS_w2
  have BW_w2 := BW_w1.trans (hb_w2.mono BW_w1.size)
  have BEs_w2 := BEs_w1.trans (hb_w2.mono BEs_w1.size)
  have Bs_w2 : Below w2.heap.size w2 w2 := Below.refl _ _
  have ps0 := hs0.out _ Bs_w2
  have ps1 := hs1.out _ Bs_w2
  have ps2 := hs2.out _ Bs_w2
  go_wp2_with fail
  refine (implIsDeterministic_any s As cs w2 a1 a2 (hT.out.later BW_w2) (es.out.later BEs_w2)).mono ?_
  clear ps0 ps1 ps2
  rintro e w3 ⟨rfl, hb_w3⟩
  have BW_w3 := BW_w2.trans (hb_w3.mono BW_w2.size)
  have BEs_w3 := BEs_w2.trans (hb_w3.mono BEs_w2.size)
  have Bs_w3 := Bs_w2.trans (hb_w3.mono Bs_w2.size)
  rw [← hdt.out]
  obtain ⟨a, ha⟩ : ∃ a, Hid (a = prA s s.al) := ⟨_, hid rfl⟩
  obtain ⟨ok, hok⟩ : ∃ ok, Hid (ok = prK s s.al) := ⟨_, hid rfl⟩
  have ps0 := hs0.out _ Bs_w3
  have ps1 := hs1.out _ Bs_w3
  have ps2 := hs2.out _ Bs_w3
  go_wp2_with fail
  have hc_a := hid (implDeterminize_any s As cs w3 a1 a2 (hT.out.later BW_w3) (es.out.later BEs_w3))
  rw [← ha.out, ← hok.out] at hc_a
  refine hc_a.out.mono ?_
  clear hc_a
  clear ps0 ps1 ps2
  rintro e w4 ⟨hb_w4, v1, v2, xs, rfl, hau⟩
  obtain ⟨Aa, ca, Ba, da, rfl, rfl, ta⟩ := hau.at_
  replace ta := hid ta
  clear hau
  have BW_w4 := BW_w3.trans (hb_w4.mono BW_w3.size)
  have BEs_w4 := BEs_w3.trans (hb_w4.mono BEs_w3.size)
  have Bs_w4 := Bs_w3.trans (hb_w4.mono Bs_w3.size)
  have BTa_w4 : Below w4.heap.size w4 w4 := Below.refl _ _
  go_upto_region 6 with fail
  obtain ⟨w5, hw_w5, hz_w5, hb_w5, hS_w5⟩ := boxed w4 #[.int .i64 a.al, .slice Aa a.nx.length ca, .slice Ba a.ac.length da] 32
  rw [hw_w5]
  clear hw_w5
  have ha0 := fun w' (hb : Below w5.heap.size w5 w') => hS_w5 0 _ rfl w' (hb.mono hz_w5)
  have ha1 := fun w' (hb : Below w5.heap.size w5 w') => hS_w5 1 _ rfl w' (hb.mono hz_w5)
  have ha2 := fun w' (hb : Below w5.heap.size w5 w') => hS_w5 2 _ rfl w' (hb.mono hz_w5)
  replace ha0 := hid ha0
  replace ha1 := hid ha1
  replace ha2 := hid ha2
  clear hS_w5
  have BW_w5 := BW_w4.trans (hb_w5.mono BW_w4.size)
  have BEs_w5 := BEs_w4.trans (hb_w5.mono BEs_w4.size)
  have Bs_w5 := Bs_w4.trans (hb_w5.mono Bs_w4.size)
  have BTa_w5 := BTa_w4.trans (hb_w5.mono BTa_w4.size)
  have Ba_w5 : Below w5.heap.size w5 w5 := Below.refl _ _
  have ps0 := hs0.out _ Bs_w5
  have ps1 := hs1.out _ Bs_w5
  have ps2 := hs2.out _ Bs_w5
  go_wp2_with fail
  refine (specIsDeterministic_any s As cs w5 a1 a2 (es.out.later BEs_w5)).mono ?_
  clear ps0 ps1 ps2
  rintro e w6 ⟨rfl, hb_w6⟩
  have BW_w6 := BW_w5.trans (hb_w6.mono BW_w5.size)
  have BEs_w6 := BEs_w5.trans (hb_w6.mono BEs_w5.size)
  have Bs_w6 := Bs_w5.trans (hb_w6.mono Bs_w5.size)
  have BTa_w6 := BTa_w5.trans (hb_w6.mono BTa_w5.size)
  have Ba_w6 := Ba_w5.trans (hb_w6.mono Ba_w5.size)
  rw [← hdt.out]
  cases hdc : dt
  case false =>
    have ps0 := hs0.out _ Bs_w6
    have ps1 := hs1.out _ Bs_w6
    have ps2 := hs2.out _ Bs_w6
    go_wp2_with fail
    refine (specIsDeterministic_any s As cs w6 a1 a2 (es.out.later BEs_w6)).mono ?_
    clear ps0 ps1 ps2
    rintro e w7 ⟨rfl, hb_w7⟩
    have BW_w7 := BW_w6.trans (hb_w7.mono BW_w6.size)
    have BEs_w7 := BEs_w6.trans (hb_w7.mono BEs_w6.size)
    have Bs_w7 := Bs_w6.trans (hb_w7.mono Bs_w6.size)
    have BTa_w7 := BTa_w6.trans (hb_w7.mono BTa_w6.size)
    have Ba_w7 := Ba_w6.trans (hb_w7.mono Ba_w6.size)
    rw [← hdt.out]
    go_wp2_with fail
    go_ret
    exact ⟨rfl, BW_w7⟩
  case true =>
  cases hokc : ok
  case false =>
    have ps0 := hs0.out _ Bs_w6
    have ps1 := hs1.out _ Bs_w6
    have ps2 := hs2.out _ Bs_w6
    go_wp2_with fail
    refine (specIsDeterministic_any s As cs w6 a1 a2 (es.out.later BEs_w6)).mono ?_
    clear ps0 ps1 ps2
    rintro e w8 ⟨rfl, hb_w8⟩
    have BW_w8 := BW_w6.trans (hb_w8.mono BW_w6.size)
    have BEs_w8 := BEs_w6.trans (hb_w8.mono BEs_w6.size)
    have Bs_w8 := Bs_w6.trans (hb_w8.mono Bs_w6.size)
    have BTa_w8 := BTa_w6.trans (hb_w8.mono BTa_w6.size)
    have Ba_w8 := Ba_w6.trans (hb_w8.mono Ba_w6.size)
    rw [← hdt.out]
    go_wp2_with fail
    go_ret
    exact ⟨rfl, BW_w8⟩
  case true =>
  have hdT : Hid (detB s = true) := hid (by rw [← hdt.out, hdc])
  have hpk : Hid (prK s s.al = true) := hid (by rw [← hok.out, hokc])
  subst hdc hokc
  have ps0 := hs0.out _ Bs_w6
  have ps1 := hs1.out _ Bs_w6
  have ps2 := hs2.out _ Bs_w6
  go_wp2_with fail
  refine (implTrimSystem_any s As cs w6 a3 a1 a2 (hT.out.later BW_w6) (es.out.later BEs_w6)).mono ?_
  clear ps0 ps1 ps2
  rintro e w9 ⟨Ax, cx, rfl, x1, x2, ex, hb_w9⟩
  have BW_w9 := BW_w6.trans (hb_w9.mono BW_w6.size)
  have BEs_w9 := BEs_w6.trans (hb_w9.mono BEs_w6.size)
  have Bs_w9 := Bs_w6.trans (hb_w9.mono Bs_w6.size)
  have BTa_w9 := BTa_w6.trans (hb_w9.mono BTa_w6.size)
  have Ba_w9 := Ba_w6.trans (hb_w9.mono Ba_w6.size)
  have ex := hid ex
  have BEx_w9 : Below w9.heap.size w9 w9 := Below.refl _ _
  clear ex
  have hX : Hid (trimOut s = trimSy s (reachAll s)) := hid (by unfold trimOut; rw [if_pos ((detB_iff s).1 hdT.out).1])
  obtain ⟨X, hXX⟩ : ∃ X, Hid (X = trimOut s) := ⟨_, hid rfl⟩
  rw [← hXX.out] at x1 ⊢
  unfold Sy.val
  go_upto_region 9 with fail
  obtain ⟨w10, hw_w10, hz_w10, hb_w10, hS_w10⟩ := boxed w9 #[.int .i64 X.al, .int .i64 X.st, .slice Ax X.es.length cx] 25
  rw [hw_w10]
  clear hw_w10
  have hx0 := fun w' (hb : Below w10.heap.size w10 w') => hS_w10 0 _ rfl w' (hb.mono hz_w10)
  have hx1 := fun w' (hb : Below w10.heap.size w10 w') => hS_w10 1 _ rfl w' (hb.mono hz_w10)
  have hx2 := fun w' (hb : Below w10.heap.size w10 w') => hS_w10 2 _ rfl w' (hb.mono hz_w10)
  replace hx0 := hid hx0
  replace hx1 := hid hx1
  replace hx2 := hid hx2
  clear hS_w10
  have BW_w10 := BW_w9.trans (hb_w10.mono BW_w9.size)
  have BEs_w10 := BEs_w9.trans (hb_w10.mono BEs_w9.size)
  have Bs_w10 := Bs_w9.trans (hb_w10.mono Bs_w9.size)
  have BTa_w10 := BTa_w9.trans (hb_w10.mono BTa_w9.size)
  have Ba_w10 := Ba_w9.trans (hb_w10.mono Ba_w9.size)
  have BEx_w10 := BEx_w9.trans (hb_w10.mono BEx_w9.size)
  have Bx_w10 : Below w10.heap.size w10 w10 := Below.refl _ _
  have hst : X.st = ((rankN (reachAll s) s.st.toNat : Nat) : Int) := by rw [hXX.out, hX.out]; rfl
  have hcnt := det_states hdT.out hpk.out
  rw [← ha.out] at hcnt
  have hr16 := rankN_le (reachAll s) s.st.toNat
  have hs16 := (sysOk_st ((detB_iff s).1 hdT.out).1)
  obtain ⟨m, hm⟩ : ∃ m, Hid (m = rankN (reachAll s) s.st.toNat) := ⟨_, hid rfl⟩
  rw [← hm.out] at hcnt hr16 hst
  obtain ⟨q, hq⟩ : ∃ q, q = a.nx.length := ⟨_, rfl⟩
  have hq0 := hid hq
  clear hq
  have pa0 := ha0.out _ Ba_w10
  have pa1 := ha1.out _ Ba_w10
  have pa2 := ha2.out _ Ba_w10
  have px0 := hx0.out _ Bx_w10
  have px1 := hx1.out _ Bx_w10
  have px2 := hx2.out _ Bx_w10
  rw [hst] at px1
  rw [← hq0.out] at hcnt pa1
  clear hst
  rcases hcnt with h | h
  · have hqe : ((q : Int) == (m : Int)) = true := by simp; omega
    replace h := hid h
    go_wp2_with fail
    go_ret
    exact ⟨rfl, BW_w10⟩
  · have hqe : ((q : Int) == (m : Int)) = false := by simp; omega
    have hqe2 : ((q : Int) == (m : Int) + 1) = true := by simp; omega
    replace h := hid h
    go_wp2_with fail
    go_ret
    exact ⟨rfl, BW_w10⟩


set_option maxRecDepth 100000 in
set_option maxHeartbeats 16000000 in
theorem FnIsDeterministic_any (A : Option Addr) (n c : Nat) (w : World) (hn : n ≤ c) (hc : c ≤ 9223372036854775807) (hT : Tab w) (hx : CodeAt w A n) :
    Calls Tryd.prog 7 #[.slice A n c] w fun e w' => e = .returned (.bool true) ∧ Below w.heap.size w w' := by
  replace hT := hid hT
  replace hx := hid hx
  by_cases hlen : 1048576 < n
  · have hgt : (1048576 : Int) < (n : Int) := by omega
    go_enter Tryd.func7, Tryd.ntmps7
    go_wp2
    go_ret
    exact ⟨rfl, Below.refl _ _⟩
  have hgt : ¬ ((1048576 : Int) < (n : Int)) := by omega
  go_enter Tryd.func7, Tryd.ntmps7
  go_wp2_with fail
  have BW_w : Below w.heap.size w w := Below.refl _ _
  refine (drawIsDeterministic_any A n c w hn hc hx.out).mono ?_
  rintro e w1 ⟨s, As, cs, rfl, a1, a2, a3, a4, -, hb_w1⟩
  unfold Sy.val
  have BW_w1 := BW_w.trans (hb_w1.mono BW_w.size)
  have es := hid a4
  have BEs_w1 : Below w1.heap.size w1 w1 := Below.refl _ _
  clear a4
  obtain ⟨dt, hdt⟩ : ∃ dt, Hid (dt = detB s) := ⟨_, hid rfl⟩
  have hdd : (dt != dt) = false := by simp
  have hde : (dt == dt) = true := by simp
  go_upto_region 4 with fail
  obtain ⟨w2, hw_w2, hz_w2, hb_w2, hS_w2⟩ := boxed w1 #[.int .i64 s.al, .int .i64 s.st, .slice As s.es.length cs] 25
  rw [hw_w2]
  clear hw_w2
  have hs0 := fun w' (hb : Below w2.heap.size w2 w') => hS_w2 0 _ rfl w' (hb.mono hz_w2)
  have hs1 := fun w' (hb : Below w2.heap.size w2 w') => hS_w2 1 _ rfl w' (hb.mono hz_w2)
  have hs2 := fun w' (hb : Below w2.heap.size w2 w') => hS_w2 2 _ rfl w' (hb.mono hz_w2)
  replace hs0 := hid hs0
  replace hs1 := hid hs1
  replace hs2 := hid hs2
  clear hS_w2
  have BW_w2 := BW_w1.trans (hb_w2.mono BW_w1.size)
  have BEs_w2 := BEs_w1.trans (hb_w2.mono BEs_w1.size)
  have Bs_w2 : Below w2.heap.size w2 w2 := Below.refl _ _
  have ps0 := hs0.out _ Bs_w2
  have ps1 := hs1.out _ Bs_w2
  have ps2 := hs2.out _ Bs_w2
  go_wp2_with fail
  refine (implIsDeterministic_any s As cs w2 a1 a2 (hT.out.later BW_w2) (es.out.later BEs_w2)).mono ?_
  clear ps0 ps1 ps2
  rintro e w3 ⟨rfl, hb_w3⟩
  have BW_w3 := BW_w2.trans (hb_w3.mono BW_w2.size)
  have BEs_w3 := BEs_w2.trans (hb_w3.mono BEs_w2.size)
  have Bs_w3 := Bs_w2.trans (hb_w3.mono Bs_w2.size)
  rw [← hdt.out]
  have ps0 := hs0.out _ Bs_w3
  have ps1 := hs1.out _ Bs_w3
  have ps2 := hs2.out _ Bs_w3
  go_wp2_with fail
  refine (specIsDeterministic_any s As cs w3 a1 a2 (es.out.later BEs_w3)).mono ?_
  clear ps0 ps1 ps2
  rintro e w4 ⟨rfl, hb_w4⟩
  have BW_w4 := BW_w3.trans (hb_w4.mono BW_w3.size)
  have BEs_w4 := BEs_w3.trans (hb_w4.mono BEs_w3.size)
  have Bs_w4 := Bs_w3.trans (hb_w4.mono Bs_w3.size)
  rw [← hdt.out]
  have ps0 := hs0.out _ Bs_w4
  have ps1 := hs1.out _ Bs_w4
  have ps2 := hs2.out _ Bs_w4
  go_wp2_with fail
  refine (implSystemValid_any s As cs w4 a1 a2 (es.out.later BEs_w4)).mono ?_
  clear ps0 ps1 ps2
  rintro e w5 ⟨rfl, hb_w5⟩
  have BW_w5 := BW_w4.trans (hb_w5.mono BW_w4.size)
  have BEs_w5 := BEs_w4.trans (hb_w5.mono BEs_w4.size)
  have Bs_w5 := Bs_w4.trans (hb_w5.mono Bs_w4.size)
  cases hsv : sysOk s
  case false =>
    have hdF : dt = false := by rw [hdt.out, ← Bool.not_eq_true, detB_iff, hsv]; simp
    subst hdF
    replace hsv := hid hsv
    have ps0 := hs0.out _ Bs_w5
    have ps1 := hs1.out _ Bs_w5
    have ps2 := hs2.out _ Bs_w5
    go_wp2_with fail
    refine (specIsDeterministic_any s As cs w5 a1 a2 (es.out.later BEs_w5)).mono ?_
    clear ps0 ps1 ps2
    rintro e w6 ⟨rfl, hb_w6⟩
    have BW_w6 := BW_w5.trans (hb_w6.mono BW_w5.size)
    have BEs_w6 := BEs_w5.trans (hb_w6.mono BEs_w5.size)
    have Bs_w6 := Bs_w5.trans (hb_w6.mono Bs_w5.size)
    rw [← hdt.out]
    go_wp2_with fail
    go_ret
    exact ⟨rfl, BW_w6⟩
  case true =>
  have hsok := hid hsv
  clear hsv
  go_wp2_with fail
  go_loopw [5] (fun iv wr => ∃ i : Nat, iv = .int .i64 (i : Nat) ∧ i ≤ 60 ∧ Below w5.heap.size w5 wr) (fun iv _ => 60 - (intOf iv).toNat)
  case atStart => exact ⟨0, rfl, by omega, Below.refl _ _⟩
  case round =>
    obtain ⟨i, rfl, hi, hb_wr⟩ := hrel
    have BW_wr := BW_w5.trans (hb_wr.mono BW_w5.size)
    have BEs_wr := BEs_w5.trans (hb_wr.mono BEs_w5.size)
    have Bs_wr := Bs_w5.trans (hb_wr.mono Bs_w5.size)
    by_cases hlt : i < 60
    case neg =>
      go_wp2
      go_ret
      exact ⟨rfl, BW_wr⟩
    have ps0 := hs0.out _ Bs_wr
    have ps1 := hs1.out _ Bs_wr
    have ps2 := hs2.out _ Bs_wr
    go_wp2_with fail
    refine (implWordAt_any i s.al wr (alphaOk_range.2 (sysOk_alpha hsok.out)) (by omega)).mono ?_
    clear ps0 ps1 ps2
    rintro e w7 ⟨hres, hb_w7⟩
    have BW_w7 := BW_wr.trans (hb_w7.mono BW_wr.size)
    have BEs_w7 := BEs_wr.trans (hb_w7.mono BEs_wr.size)
    have Bs_w7 := Bs_wr.trans (hb_w7.mono Bs_wr.size)
    rcases hres with ⟨rfl, hLL, hlen⟩ | rfl
    case inr =>
      go_wp2
      go_ret
      exact ⟨rfl, BW_w7⟩
    obtain ⟨r, hr⟩ : ∃ r, Hid (r = wAt (letters s.al) i) := ⟨_, hid rfl⟩
    rw [← hr.out] at hlen ⊢
    have hzr : (wordS r).size ≤ 9223372036854775807 := by rw [wordS_size]; omega
    replace hLL := hid hLL
    replace hlen := hid hlen
    have ps0 := hs0.out _ Bs_w7
    have ps1 := hs1.out _ Bs_w7
    have ps2 := hs2.out _ Bs_w7
    go_wp2_with fail
    refine (implStatesAfter_any s As cs (wordS r) w7 hzr a1 a2 (hT.out.later BW_w7) (es.out.later BEs_w7)).mono ?_
    clear ps0 ps1 ps2
    rintro e w8 ⟨rfl, hb_w8⟩
    have BW_w8 := BW_w7.trans (hb_w8.mono BW_w7.size)
    have BEs_w8 := BEs_w7.trans (hb_w8.mono BEs_w7.size)
    have Bs_w8 := Bs_w7.trans (hb_w8.mono Bs_w7.size)
    obtain ⟨S, hS⟩ : ∃ S, Hid (S = aft s (wordS r)) := ⟨_, hid rfl⟩
    rw [← hS.out]
    go_wp2_with fail
    refine (agCount_any S w8).mono ?_
    rintro e w' ⟨rfl, rfl⟩
    obtain ⟨p, hp⟩ : ∃ p, Hid (p = popE S) := ⟨_, hid rfl⟩
    rw [← hp.out]
    have hfin := hid (hb_wr.trans ((hb_w7.trans (hb_w8.mono hb_w7.size)).mono hb_wr.size))
    by_cases hp1 : (1 : Int) < (p : Int)
    case pos =>
      cases hdc : dt
      case true =>
        exfalso
        have := det_pop_aft ((hdt.out.symm.trans hdc)) (wordS r)
        rw [← hS.out, ← hp.out] at this
        omega
      case false =>
        go_wp2_with fail
        go_ret
        exact ⟨rfl, BW_w8⟩
    go_wp2_with fail
    go_roundw
    case rel => exact ⟨i + 1, by go_num, by omega, hfin.out⟩
    case measure => simp [intOf]; omega

end Go.Proofs.YtolnlkccbndkcaaDoor
