/- Words: the reference's WordValid, AlphabetOf, WordWithin; the program's WordWithin. -/
import Derived.Test.YtbomhfbiaedbiaaDoorW28
import Derived.Test.YtbomhfbiaedbiaaDoorW9
namespace Go.Proofs.YtbomhfbiaedbiaaDoor
open Go.RowKit Go.BigFrame AG

set_option maxRecDepth 100000 in
set_option maxHeartbeats 1000000 in
theorem specWordValid_any (s : ByteArray) (w : World) (hz : s.size ≤ 9223372036854775807) :
    Calls Tryd.prog 100 #[.string s] w fun e w' => e = .returned (.bool (wordOk s)) ∧ w = w' := by
  by_cases hs : s.size ≤ 50000
  · go_enter Tryd.func100, Tryd.ntmps100
    go_wp2_with fail
    go_loopw [3] (fun i wr => ∃ k : Nat, i = .int .i64 k ∧ k ≤ s.size ∧ (∀ j, j < k → lOk (lz s j) = true) ∧ w = wr) (fun i _ => s.size - (intOf i).toNat)
    case atStart => exact ⟨0, rfl, by omega, fun j h => by omega, rfl⟩
    case round =>
      obtain ⟨k, rfl, hk, hall, rfl⟩ := hrel
      replace hall := hid hall
      by_cases hlt : k < s.size
      · have hrg := lz_range s k
        by_cases hlo : lz s k < 0
        · have hfin : Hid (wordOk s = false) := hid (by
            cases h : wordOk s with
            | false => rfl
            | true => have := wordOk_at h hlt; omega)
          go_wp2_with (go_at_call 102; refine (l1At_any s k _ hlt).mono ?_; rintro e w' ⟨rfl, rfl⟩)
          go_ret
          exact ⟨ret_bool (by rw [hfin.out]), rfl⟩
        · by_cases hhi : 6 ≤ lz s k
          · have hfin : Hid (wordOk s = false) := hid (by
              cases h : wordOk s with
              | false => rfl
              | true => have := wordOk_at h hlt; omega)
            go_wp2_with (go_at_call 102; refine (l1At_any s k _ hlt).mono ?_; rintro e w' ⟨rfl, rfl⟩)
            go_ret
            exact ⟨ret_bool (by rw [hfin.out]), rfl⟩
          · have hok : Hid (lOk (lz s k) = true) := hid (by unfold lOk; exact decide_eq_true (by omega))
            go_wp2_with (go_at_call 102; refine (l1At_any s k _ hlt).mono ?_; rintro e w' ⟨rfl, rfl⟩)
            go_roundw
            case rel => exact ⟨k + 1, by go_num, by omega, fun j hj => by by_cases e : j = k; exact e ▸ hok.out; exact hall.out j (by omega), by first | trivial | rfl⟩
            case measure => simp [intOf]; omega
      · go_wp2
        go_ret
        exact ⟨ret_bool (by unfold wordOk; exact (decide_eq_true ⟨hs, fun i hi => hall.out i (by omega)⟩).symm), rfl⟩
  · have hfin : Hid (wordOk s = false) := hid (by unfold wordOk; exact decide_eq_false (fun h => hs h.1))
    go_enter Tryd.func100, Tryd.ntmps100
    go_wp2
    go_ret
    exact ⟨ret_bool (by rw [hfin.out]), rfl⟩

set_option maxRecDepth 100000 in
set_option maxHeartbeats 1000000 in
theorem specAlphabetOf_any (s : ByteArray) (w : World) (hz : s.size ≤ 9223372036854775807) :
    Calls Tryd.prog 99 #[.string s] w fun e w' => e = .returned (.tuple #[.int .i64 (if wordOk s = true then setTo s s.size else 0), .bool (wordOk s)]) ∧ w = w' := by
  cases hok : wordOk s
  · replace hok := hid hok
    go_enter Tryd.func99, Tryd.ntmps99
    go_wp2_with (go_at_call 100; refine (specWordValid_any s _ hz).mono ?_; rintro e w' ⟨rfl, rfl⟩; rw [hok.out])
    go_ret2
    exact ⟨rfl, rfl⟩
  · have hok2 := hid hok
    replace hok := hid hok
    go_enter Tryd.func99, Tryd.ntmps99
    go_wp2_with (go_at_call 100; refine (specWordValid_any s _ hz).mono ?_; rintro e w' ⟨rfl, rfl⟩; rw [hok.out])
    go_loopw [4, 5] (fun st i wr => ∃ k : Nat, i = .int .i64 k ∧ k ≤ s.size ∧ st = .int .i64 (setTo s k) ∧ w = wr) (fun _ i _ => s.size - (intOf i).toNat)
    case atStart => exact ⟨0, rfl, by omega, rfl, rfl⟩
    case round =>
      obtain ⟨k, rfl, hk, rfl, rfl⟩ := hrel
      by_cases hlt : k < s.size
      · have hrg := wordOk_at hok2.out hlt
        have hrs := setTo_range hok2.out k (by omega)
        have hpw := pow6_range hrg
        have hor := hid (bits_or (a := setTo s k) (b := ((2 ^ (lz s k).toNat : Nat) : Int)) (by omega) (by omega))
        replace hpw := hid hpw
        go_wp2_with (first
          | (go_at_call 102; refine (l1At_any s k _ hlt).mono ?_; rintro e w' ⟨rfl, rfl⟩)
          | (go_at_call 109; refine (l1Bit_int _ _ (by omega) (by omega)).mono ?_; rintro e w' ⟨rfl, rfl⟩))
        go_roundw
        case rel => exact ⟨k + 1, by go_num, by omega, by rw [setTo, ← hor.out, Int.natCast_pow]; rfl, by first | trivial | rfl⟩
        case measure => simp [intOf]; omega
      · obtain rfl : k = s.size := by omega
        go_wp2
        go_ret2
        exact ⟨rfl, rfl⟩

set_option maxRecDepth 100000 in
set_option maxHeartbeats 1000000 in
theorem specWordWithin_any (s : ByteArray) (al : Int) (w : World) (hz : s.size ≤ 9223372036854775807) :
    Calls Tryd.prog 43 #[.string s, .int .i64 al] w fun e w' => e = .returned (.bool (within s al)) ∧ w = w' := by
  cases hok : wordOk s
  · have hfin := hid (within_bad al hok)
    replace hok := hid hok
    go_enter Tryd.func43, Tryd.ntmps43
    go_wp2_with (go_at_call 99; refine (specAlphabetOf_any s _ hz).mono ?_; rintro e w' ⟨rfl, rfl⟩; rw [hok.out])
    go_ret
    exact ⟨ret_bool (by rw [hfin.out]), rfl⟩
  · cases hal : alphaOk al
    · have hfin : Hid (within s al = false) := hid (by unfold within; exact decide_eq_false (fun h => by rw [hal] at h; cases h.1))
      replace hok := hid hok
      replace hal := hid hal
      go_enter Tryd.func43, Tryd.ntmps43
      go_wp2_with (first
        | (go_at_call 99; refine (specAlphabetOf_any s _ hz).mono ?_; rintro e w' ⟨rfl, rfl⟩; rw [hok.out])
        | (go_at_call 70; refine (l1Alphabet_any al _).mono ?_; rintro e w' ⟨rfl, rfl⟩; rw [hal.out]))
      go_ret
      exact ⟨ret_bool (by rw [hfin.out]), rfl⟩
    · have ha : 0 ≤ al ∧ al ≤ 63 := by unfold alphaOk at hal; exact of_decide_eq_true hal
      have hfin := hid (within_spec hok ha)
      have hrs := setTo_range hok s.size (Nat.le_refl _)
      have han := hid (bits_and (a := setTo s s.size) (b := al) (by omega) (by omega))
      replace hok := hid hok
      replace hal := hid hal
      go_enter Tryd.func43, Tryd.ntmps43
      go_wp2_with (first
        | (go_at_call 99; refine (specAlphabetOf_any s _ hz).mono ?_; rintro e w' ⟨rfl, rfl⟩; rw [hok.out])
        | (go_at_call 70; refine (l1Alphabet_any al _).mono ?_; rintro e w' ⟨rfl, rfl⟩; rw [hal.out]))
      go_ret
      exact ⟨ret_bool (by rw [hfin.out, ← han.out]), rfl⟩

set_option maxRecDepth 100000 in
set_option maxHeartbeats 1000000 in
theorem implWordWithin_any (s : ByteArray) (al : Int) (w : World) (hz : s.size ≤ 9223372036854775807) :
    Calls Tryd.prog 46 #[.string s, .int .i64 al] w fun e w' => e = .returned (.bool (within s al)) ∧ w = w' := by
  cases hal : alphaOk al
  · have hfin : Hid (within s al = false) := hid (by unfold within; exact decide_eq_false (fun h => by rw [hal] at h; cases h.1))
    replace hal := hid hal
    go_enter Tryd.func46, Tryd.ntmps46
    go_wp2_with (go_at_call 73; refine (isAlphabet_any al _).mono ?_; rintro e w' ⟨rfl, rfl⟩; rw [hal.out])
    go_ret
    exact ⟨ret_bool (by rw [hfin.out]), rfl⟩
  · have hal2 := hid hal
    replace hal := hid hal
    by_cases hs : s.size ≤ 50000
    · go_enter Tryd.func46, Tryd.ntmps46
      go_wp2_with (go_at_call 73; refine (isAlphabet_any al _).mono ?_; rintro e w' ⟨rfl, rfl⟩; rw [hal.out])
      go_loopw [16] (fun i wr => ∃ k : Nat, i = .int .i64 k ∧ k ≤ s.size ∧ (∀ j, j < k → HasZ al (ltr s j) = true) ∧ w = wr) (fun i _ => s.size - (intOf i).toNat)
      case atStart => exact ⟨0, rfl, by omega, fun j h => by omega, rfl⟩
      case round =>
        obtain ⟨k, rfl, hk, hall, rfl⟩ := hrel
        replace hall := hid hall
        by_cases hlt : k < s.size
        · have h63 : ltr s k ≤ 63 := by unfold ltr lOk; split; rename_i h; have := of_decide_eq_true h; omega; omega
          cases hh : HasZ al (ltr s k)
          · have hfin : Hid (within s al = false) := hid (by unfold within; exact decide_eq_false (fun h => by have := h.2.2 k hlt; rw [hh] at this; cases this))
            replace hh := hid hh
            go_wp2_with (first
              | (go_at_call 105; refine (letterAt_any s k _ hlt).mono ?_; rintro e w' ⟨rfl, rfl⟩)
              | (go_at_call 90; refine (has_any al _ _ h63).mono ?_; rintro e w' ⟨rfl, rfl⟩; rw [hh.out]))
            go_ret
            exact ⟨ret_bool (by rw [hfin.out]), rfl⟩
          · replace hh := hid hh
            go_wp2_with (first
              | (go_at_call 105; refine (letterAt_any s k _ hlt).mono ?_; rintro e w' ⟨rfl, rfl⟩)
              | (go_at_call 90; refine (has_any al _ _ h63).mono ?_; rintro e w' ⟨rfl, rfl⟩; rw [hh.out]))
            go_roundw
            case rel => exact ⟨k + 1, by go_num, by omega, fun j hj => by by_cases e : j = k; exact e ▸ hh.out; exact hall.out j (by omega), by first | trivial | rfl⟩
            case measure => simp [intOf]; omega
        · go_wp2
          go_ret
          exact ⟨ret_bool (by unfold within; exact (decide_eq_true ⟨hal2.out, hs, fun i hi => hall.out i (by omega)⟩).symm), rfl⟩
    · have hfin : Hid (within s al = false) := hid (by unfold within; exact decide_eq_false (fun h => hs h.2.1))
      go_enter Tryd.func46, Tryd.ntmps46
      go_wp2_with (go_at_call 73; refine (isAlphabet_any al _).mono ?_; rintro e w' ⟨rfl, rfl⟩; rw [hal.out])
      go_ret
      exact ⟨ret_bool (by rw [hfin.out]), rfl⟩

end Go.Proofs.YtbomhfbiaedbiaaDoor
