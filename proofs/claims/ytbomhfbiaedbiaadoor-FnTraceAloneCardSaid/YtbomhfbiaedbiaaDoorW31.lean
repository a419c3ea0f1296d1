/- The states behind a word: both StatesAfter and HasTrace. -/
import Derived.Test.YtbomhfbiaedbiaaDoorW30
import Derived.Test.YtbomhfbiaedbiaaDoorW14
import Derived.Test.YtbomhfbiaedbiaaDoorW10
import Derived.Deep.Quiet
namespace Go.Proofs.YtbomhfbiaedbiaaDoor
open Go.RowKit Go.BigFrame AG

set_option maxRecDepth 100000 in
set_option maxHeartbeats 1000000 in
theorem l2Run_any (s : Sy) (A : Option Addr) (c : Nat) (x : ByteArray) (w : World) (hs : edgesIn s) (hx : x.size ≤ 50000) (hl : s.es.length ≤ c) (hc : c ≤ 9223372036854775807) (hr : EdsAt w w.heap.size A s.es) :
    Calls Tryd.prog 139 #[s.val A c, .int .i64 1, .string x] w fun e w' => e = .returned (.int .i64 (runTo s x x.size : Nat)) ∧ Below w.heap.size w w' := by
  unfold Sy.val
  replace hr := hid hr
  replace hs := hid hs
  go_enter Tryd.func139, Tryd.ntmps139
  go_wp2_with fail
  obtain ⟨w0, hw0, hz0, hB0, hS0, hS1, hS2⟩ := boxed3 w (Value.int IntKind.i64 s.al) (Value.int IntKind.i64 s.st) (Value.slice A s.es.length c) 36
  rw [hw0]
  clear hw0
  have hr0 := hid ((hr.out.keep hB0).more (show w.heap.size ≤ w0.heap.size by omega))
  go_loopw [1, 7] (fun st i wr => ∃ (T k : Nat), st = .int .i64 T ∧ i = .int .i64 k ∧ k ≤ x.size ∧ T = runTo s x k ∧ Below w0.heap.size w0 wr) (fun _ i _ => x.size - (intOf i).toNat)
  case atStart => exact ⟨1, 0, rfl, rfl, by omega, rfl, Below.refl _ _⟩
  case round =>
    obtain ⟨T, k, rfl, rfl, hk, hT, hb⟩ := hrel
    have hTl : T < 65536 := by rw [hT]; exact runTo_lt s x k
    replace hT := hid hT
    have hB1 : Below w.heap.size w wr := hB0.trans (hb.mono (by omega))
    by_cases hlt : k < x.size
    · by_cases hT0 : T = 0
      · have hd : ((T : Int) != 0) = false := by subst hT0; rfl
        have hfin := hid (runTo_done (s := s) (w := x) (k := k) (by rw [← hT.out]; exact hT0) hk)
        replace hT0 := hid hT0
        go_wp2
        go_ret
        exact ⟨ret_int (by rw [hfin.out, hT0.out]), hB1⟩
      · have hd : ((T : Int) != 0) = true := by simpa using hT0
        replace hT0 := hid hT0
        have q0 : ∀ y, (Fam w0.heap.size w0 y).cell? ⟨w.heap.size, 0, none⟩ = some (.int .i64 s.al) := fun y => hS0 _ ((Fam.below _ _ y).mono hz0)
        have q1 : ∀ y, (Fam w0.heap.size w0 y).cell? ⟨w.heap.size, 1, none⟩ = some (.int .i64 s.st) := fun y => hS1 _ ((Fam.below _ _ y).mono hz0)
        have q2 : ∀ y, (Fam w0.heap.size w0 y).cell? ⟨w.heap.size, 2, none⟩ = some (.slice A s.es.length c) := fun y => hS2 _ ((Fam.below _ _ y).mono hz0)
        have hrF : ∀ y, Hid (EdsAt (Fam w0.heap.size w0 y) (Fam w0.heap.size w0 y).heap.size A s.es) := fun y => hid (hr0.out.later (Fam.below _ _ y))
        have hnx : Hid (stepSet s T (lz x k) = runTo s x (k + 1)) := hid (by rw [runTo, hT.out])
        go_wp2_with fail
        refine wp_region_fam w0.heap.size w0 (by kernel_rfl) (by kernel_rfl) hb ?_
        (repeat (go_big_quiet_step ((first
          | (refine (l1At_any x k _ hlt).mono ?_; rintro e w1 ⟨rfl, rfl⟩; exact ⟨rfl, _, rfl⟩)
          | (refine (l2Step_any s A c T (lz x k) _ hs.out hl hc (hrF _).out).mono ?_; rintro e w1 ⟨rfl, hb1⟩; exact ⟨rfl, Fam.next (Nat.le_refl _) hb1⟩)))))
        refine wpQuiet_nil ?_
        intro w2 hw2
        replace hw2 := Fam.out hw2
        go_wp2
        go_roundw
        case rel => exact ⟨_, k + 1, rfl, by go_num, by omega, hnx.out, hw2⟩
        case measure => simp [intOf]; omega
    · obtain rfl : k = x.size := by omega
      go_wp2
      go_ret
      exact ⟨ret_int (by rw [hT.out]), hB1⟩

set_option maxRecDepth 100000 in
set_option maxHeartbeats 1000000 in
theorem specStatesAfter_any (s : Sy) (A : Option Addr) (c : Nat) (x : ByteArray) (w : World) (hz : x.size ≤ 9223372036854775807) (hl : s.es.length ≤ c) (hc : c ≤ 9223372036854775807) (hr : EdsAt w w.heap.size A s.es) :
    Calls Tryd.prog 98 #[s.val A c, .string x] w fun e w' => e = .returned (.int .i64 (aft s x : Nat)) ∧ Below w.heap.size w w' := by
  unfold Sy.val
  replace hr := hid hr
  cases hok : sysOk s
  · have hfin : Hid (aft s x = 0) := hid (by unfold aft; rw [hok]; rfl)
    replace hok := hid hok
    go_enter Tryd.func98, Tryd.ntmps98
    go_wp2_with fail
    obtain ⟨w0, hw0, hz0, hB0, hS0, hS1, hS2⟩ := boxed3 w (Value.int IntKind.i64 s.al) (Value.int IntKind.i64 s.st) (Value.slice A s.es.length c) 36
    rw [hw0]
    clear hw0
    have hr0 := hid ((hr.out.keep hB0).more (show w.heap.size ≤ w0.heap.size by omega))
    refine (specSystemValid_any s A c w0 hl hc hr0.out).mono ?_
    rintro e w1 ⟨rfl, hb1⟩
    rw [hok.out]
    have hB1 : Below w.heap.size w w1 := hB0.trans (hb1.mono (by omega))
    have hb1' := hb1.mono hz0
    go_wp2
    go_ret
    exact ⟨ret_int (by rw [hfin.out]; rfl), hB1⟩
  · cases hwi : within x s.al
    all_goals
      have hok2 := hid hok
      have hwi2 := hid hwi
      replace hok := hid hok
      replace hwi := hid hwi
      go_enter Tryd.func98, Tryd.ntmps98
      go_wp2_with fail
      obtain ⟨w0, hw0, hz0, hB0, hS0, hS1, hS2⟩ := boxed3 w (Value.int IntKind.i64 s.al) (Value.int IntKind.i64 s.st) (Value.slice A s.es.length c) 36
      rw [hw0]
      clear hw0
      have hr0 := hid ((hr.out.keep hB0).more (show w.heap.size ≤ w0.heap.size by omega))
      refine (specSystemValid_any s A c w0 hl hc hr0.out).mono ?_
      rintro e w1 ⟨rfl, hb1⟩
      rw [hok.out]
      have hB1 : Below w.heap.size w w1 := hB0.trans (hb1.mono (by omega))
      have hb1' := hb1.mono hz0
      have hr1 := hid (hr0.out.later hb1)
      have q0 := hS0 _ hb1'
      have q1 := hS1 _ hb1'
      have q2 := hS2 _ hb1'
    · have hfin : Hid (aft s x = 0) := hid (by unfold aft; rw [hok2.out, hwi2.out]; rfl)
      go_wp2_with (go_at_call 43; refine (specWordWithin_any x s.al _ hz).mono ?_; rintro e w' ⟨rfl, rfl⟩; rw [hwi.out])
      go_ret
      exact ⟨ret_int (by rw [hfin.out]; rfl), hB1⟩
    · have hfin : Hid (aft s x = runTo s x x.size) := hid (by unfold aft; rw [hok2.out, hwi2.out]; rfl)
      have h5 := within_size hwi2.out
      go_wp2_with (first
        | (go_at_call 43; refine (specWordWithin_any x s.al _ hz).mono ?_; rintro e w' ⟨rfl, rfl⟩; rw [hwi.out])
        | (go_at_call 139; refine (l2Run_any s A c x _ (sysOk_in hok2.out) h5 hl hc hr1.out).mono ?_; rintro e w2 ⟨rfl, hb2⟩))
      go_ret
      exact ⟨ret_int (by rw [hfin.out]), hB1.trans (hb2.mono hB1.size)⟩

set_option maxRecDepth 100000 in
set_option maxHeartbeats 1000000 in
theorem specHasTrace_any (s : Sy) (A : Option Addr) (c : Nat) (x : ByteArray) (w : World) (hz : x.size ≤ 9223372036854775807) (hl : s.es.length ≤ c) (hc : c ≤ 9223372036854775807) (hr : EdsAt w w.heap.size A s.es) :
    Calls Tryd.prog 41 #[s.val A c, .string x] w fun e w' => e = .returned (.bool (hasTr s x)) ∧ Below w.heap.size w w' := by
  unfold Sy.val
  replace hr := hid hr
  have hfin : Hid (hasTr s x = ((aft s x : Int) != 0)) := hid (by unfold hasTr; rw [Bool.eq_iff_iff]; simp)
  go_enter Tryd.func41, Tryd.ntmps41
  go_wp2_with fail
  obtain ⟨w0, hw0, hz0, hB0, hS0, hS1, hS2⟩ := boxed3 w (Value.int IntKind.i64 s.al) (Value.int IntKind.i64 s.st) (Value.slice A s.es.length c) 36
  rw [hw0]
  clear hw0
  have hr0 := hid ((hr.out.keep hB0).more (show w.heap.size ≤ w0.heap.size by omega))
  refine (specStatesAfter_any s A c x w0 hz hl hc hr0.out).mono ?_
  rintro e w1 ⟨rfl, hb1⟩
  have hB1 : Below w.heap.size w w1 := hB0.trans (hb1.mono (by omega))
  go_wp2
  go_ret
  exact ⟨ret_bool (by rw [hfin.out]), hB1⟩

set_option maxRecDepth 100000 in
set_option maxHeartbeats 1000000 in
theorem implStatesAfter_any (s : Sy) (A : Option Addr) (c : Nat) (x : ByteArray) (w : World) (hz : x.size ≤ 9223372036854775807) (hl : s.es.length ≤ c) (hc : c ≤ 9223372036854775807) (hT : Tab w) (hr : EdsAt w w.heap.size A s.es) :
    Calls Tryd.prog 97 #[s.val A c, .string x] w fun e w' => e = .returned (.int .i64 (aft s x : Nat)) ∧ Below w.heap.size w w' := by
  unfold Sy.val
  replace hr := hid hr
  replace hT := hid hT
  cases hok : sysOk s
  · have hfin : Hid (aft s x = 0) := hid (by unfold aft; rw [hok]; rfl)
    replace hok := hid hok
    go_enter Tryd.func97, Tryd.ntmps97
    go_wp2_with fail
    obtain ⟨w0, hw0, hz0, hB0, hS0, hS1, hS2⟩ := boxed3 w (Value.int IntKind.i64 s.al) (Value.int IntKind.i64 s.st) (Value.slice A s.es.length c) 36
    rw [hw0]
    clear hw0
    have hr0 := hid ((hr.out.keep hB0).more (show w.heap.size ≤ w0.heap.size by omega))
    refine (implSystemValid_any s A c w0 hl hc hr0.out).mono ?_
    rintro e w1 ⟨rfl, hb1⟩
    rw [hok.out]
    have hB1 : Below w.heap.size w w1 := hB0.trans (hb1.mono (by omega))
    have hb1' := hb1.mono hz0
    go_wp2
    go_ret
    exact ⟨ret_int (by rw [hfin.out]; rfl), hB1⟩
  · cases hwi : within x s.al
    all_goals
      have hok2 := hid hok
      have hwi2 := hid hwi
      replace hok := hid hok
      replace hwi := hid hwi
      go_enter Tryd.func97, Tryd.ntmps97
      go_wp2_with fail
      obtain ⟨w0, hw0, hz0, hB0, hS0, hS1, hS2⟩ := boxed3 w (Value.int IntKind.i64 s.al) (Value.int IntKind.i64 s.st) (Value.slice A s.es.length c) 36
      rw [hw0]
      clear hw0
      have hr0 := hid ((hr.out.keep hB0).more (show w.heap.size ≤ w0.heap.size by omega))
      refine (implSystemValid_any s A c w0 hl hc hr0.out).mono ?_
      rintro e w1 ⟨rfl, hb1⟩
      rw [hok.out]
      have hB1 : Below w.heap.size w w1 := hB0.trans (hb1.mono (by omega))
      have hb1' := hb1.mono hz0
      have hr1 := hid (hr0.out.later hb1)
      have q0 := hS0 _ hb1'
      have q1 := hS1 _ hb1'
      have q2 := hS2 _ hb1'
    · have hfin : Hid (aft s x = 0) := hid (by unfold aft; rw [hok2.out, hwi2.out]; rfl)
      go_wp2_with (go_at_call 46; refine (implWordWithin_any x s.al _ hz).mono ?_; rintro e w' ⟨rfl, rfl⟩; rw [hwi.out])
      go_ret
      exact ⟨ret_int (by rw [hfin.out]; rfl), hB1⟩
    · have hfin : Hid (aft s x = runTo s x x.size) := hid (by unfold aft; rw [hok2.out, hwi2.out]; rfl)
      have h5 := within_size hwi2.out
      go_wp2_with (first
        | (go_at_call 46; refine (implWordWithin_any x s.al _ hz).mono ?_; rintro e w' ⟨rfl, rfl⟩; rw [hwi.out])
        | (go_at_call 74; refine (movesOf_any s A c _ (sysOk_in hok2.out) hl hc hr1.out).mono ?_; rintro e w2 ⟨g, rfl, hg, hb2⟩))
      have hB2 : Below w.heap.size w w2 := hB1.trans (hb2.mono hB1.size)
      have hT2 := hid (hT.out.later hB2)
      replace hg := hid hg
      go_loopw [6, 7] (fun st i wr => ∃ (T k : Nat), st = .int .i64 T ∧ i = .int .i64 k ∧ k ≤ x.size ∧ T = runTo s x k ∧ Below w2.heap.size w2 wr) (fun _ i _ => x.size - (intOf i).toNat)
      case atStart => exact ⟨1, 0, rfl, rfl, by omega, rfl, Below.refl _ _⟩
      case round =>
        obtain ⟨T, k, rfl, rfl, hk, hT', hb⟩ := hrel
        have hTl : T < 65536 := by rw [hT']; exact runTo_lt s x k
        replace hT' := hid hT'
        have hB3 : Below w.heap.size w wr := hB2.trans (hb.mono hB2.size)
        by_cases hlt : k < x.size
        · by_cases hT0 : T = 0
          · have hd : ((T : Int) != 0) = false := by subst hT0; rfl
            have hfin2 := hid (runTo_done (s := s) (w := x) (k := k) (by rw [← hT'.out]; exact hT0) hk)
            replace hT0 := hid hT0
            go_wp2
            go_ret
            exact ⟨ret_int (by rw [hfin.out, hfin2.out, hT0.out]), hB3⟩
          · have hd : ((T : Int) != 0) = true := by simpa using hT0
            replace hT0 := hid hT0
            have hlr := wordOk_at (within_word hwi2.out) hlt
            have hle := ltr_ok hlr
            obtain ⟨l, hll⟩ := Int.eq_ofNat_of_zero_le hlr.1
            have hl6 : l < 6 := by omega
            have hnx : Hid (unionOf (mv s) T l = runTo s x (k + 1)) := hid (by rw [runTo, unionOf_mv s (sysOk_in hok2.out), ← hll, hT'.out])
            have hle2 : Hid (ltr x k = (l : Int)) := hid (by rw [hle, hll])
            have hgr := hid (hg.out.later hb)
            have hTr := hid (hT2.out.later hb)
            have hzr := hb.size
            replace hll := hid hll
            replace hle := hid hle
            go_wp2_with (first
              | (go_at_call 105; refine (letterAt_any x k _ hlt).mono ?_; rintro e w' ⟨rfl, rfl⟩; rw [hle2.out])
              | (go_at_call 78; refine (step_any (mv s) g T l _ hl6 (fun q => mv_lt s q l) hTl hTr.out hgr.out).mono ?_; rintro e w3 ⟨rfl, hb3⟩))
            have hb4 := hb.trans (hb3.mono hzr)
            go_roundw
            case rel => exact ⟨_, k + 1, rfl, by go_num, by omega, hnx.out, hb4⟩
            case measure => simp [intOf]; omega
        · obtain rfl : k = x.size := by omega
          go_wp2
          go_ret
          exact ⟨ret_int (by rw [hfin.out, hT'.out]), hB3⟩

set_option maxRecDepth 100000 in
set_option maxHeartbeats 1000000 in
theorem implHasTrace_any (s : Sy) (A : Option Addr) (c : Nat) (x : ByteArray) (w : World) (hz : x.size ≤ 9223372036854775807) (hl : s.es.length ≤ c) (hc : c ≤ 9223372036854775807) (hT : Tab w) (hr : EdsAt w w.heap.size A s.es) :
    Calls Tryd.prog 40 #[s.val A c, .string x] w fun e w' => e = .returned (.bool (hasTr s x)) ∧ Below w.heap.size w w' := by
  unfold Sy.val
  replace hr := hid hr
  replace hT := hid hT
  have hfin : Hid (hasTr s x = ((aft s x : Int) != 0)) := hid (by unfold hasTr; rw [Bool.eq_iff_iff]; simp)
  go_enter Tryd.func40, Tryd.ntmps40
  go_wp2_with fail
  obtain ⟨w0, hw0, hz0, hB0, hS0, hS1, hS2⟩ := boxed3 w (Value.int IntKind.i64 s.al) (Value.int IntKind.i64 s.st) (Value.slice A s.es.length c) 36
  rw [hw0]
  clear hw0
  have hr0 := hid ((hr.out.keep hB0).more (show w.heap.size ≤ w0.heap.size by omega))
  have hT0 := hid (hT.out.later hB0)
  refine (implStatesAfter_any s A c x w0 hz hl hc hT0.out hr0.out).mono ?_
  rintro e w1 ⟨rfl, hb1⟩
  have hB1 : Below w.heap.size w w1 := hB0.trans (hb1.mono (by omega))
  go_wp2
  go_ret
  exact ⟨ret_bool (by rw [hfin.out]), hB1⟩

end Go.Proofs.YtbomhfbiaedbiaaDoor
