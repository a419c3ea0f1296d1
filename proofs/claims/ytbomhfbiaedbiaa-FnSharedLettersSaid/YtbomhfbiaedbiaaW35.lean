/- The law FnSharedLetters. -/
import Derived.Test.YtbomhfbiaedbiaaW34
namespace Go.Proofs.Ytbomhfbiaedbiaa
open Go.RowKit Go.BigFrame AG

set_option maxHeartbeats 400000 in
theorem agHas_any (a n : Int) (w : World) (h0 : 0 ≤ n) (h1 : n ≤ 63) :
    Calls Try.prog 11 #[.int .i64 a, .int .i64 n] w fun e w' => e = .returned (.bool (Has a n.toNat)) ∧ w = w' := by
  go_enter Try.func11, Try.ntmps11
  go_wp2
  go_ret
  exact ⟨ret_bool (and_one_has _ _), rfl⟩

set_option maxRecDepth 100000 in
set_option maxHeartbeats 4000000 in
theorem FnSharedLetters_any (A : Option Addr) (n c : Nat) (w : World) (hn : n ≤ c) (hc : c ≤ 9223372036854775807) (hx : CodeAt w A n) :
    Calls Try.prog 4 #[.slice A n c] w fun e w' => e = .returned (.bool true) ∧ Below w.heap.size w w' := by
  replace hx := hid hx
  by_cases hbig : 1048576 < n
  · go_enter Try.func4, Try.ntmps4
    go_wp2
    go_ret
    exact ⟨rfl, Below.refl _ _⟩
  · go_enter Try.func4, Try.ntmps4
    go_wp2_with fail
    refine (drawSharedLetters_any A n c w hn hc hx.out).mono ?_
    rintro e w1 ⟨ss, As, cs, rfl, h1, h2, h3, h4, hb1⟩
    replace h4 := hid h4
    go_wp2_with fail
    refine (implSharedLetters_any ss As cs w1 h1 h2 h4.out).mono ?_
    rintro e w2 ⟨rfl, hb2⟩
    have hB2 := hb1.trans (hb2.mono hb1.size)
    have r2 := hid (h4.out.later hb2)
    cases hp : partsOk ss
    · have hv : partsShared ss = -1 := by unfold partsShared; rw [hp]; rfl
      have hv2 : Hid (partsAl ss = -1) := hid (by unfold partsAl; rw [hp]; rfl)
      rw [hv]
      replace hv := hid hv
      replace hp := hid hp
      go_wp2_with fail
      refine (specSharedLetters_any ss As cs w2 h1 h2 r2.out).mono ?_
      rintro e w3 ⟨rfl, hb3⟩
      rw [hv.out]
      have r3 := hid (r2.out.later hb3)
      have hB3 := hB2.trans (hb3.mono hB2.size)
      go_wp2_with fail
      refine (specSharedLetters_any ss As cs w3 h1 h2 r3.out).mono ?_
      rintro e w4 ⟨rfl, hb4⟩
      rw [hv.out]
      have r4 := hid (r3.out.later hb4)
      have hB4 := hB3.trans (hb4.mono hB3.size)
      go_wp2_with fail
      refine (implPartsAlphabet_any ss As cs w4 h1 h2 r4.out).mono ?_
      rintro e w5 ⟨rfl, hb5⟩
      rw [hv2.out]
      have hB5 := hB4.trans (hb5.mono hB4.size)
      go_wp2_with fail
      go_ret
      exact ⟨rfl, hB5⟩
    · have hall : ss.all sysOk = true := by unfold partsOk at hp; rw [Bool.and_eq_true] at hp; exact hp.2
      have hrs := sharedAl_range ss hall
      obtain ⟨sh, hsh⟩ : ∃ sh, sh = sharedAl ss := ⟨_, rfl⟩
      have hv : partsShared ss = sh := by unfold partsShared; rw [hp, hsh]; rfl
      rw [← hsh] at hrs
      rw [hv]
      replace hv := hid hv
      replace hp := hid hp
      replace hall := hid hall
      replace hsh := hid hsh
      have hlt0 : decide (sh < 0) = false := decide_eq_false (by omega)
      go_wp2_with fail
      refine (specSharedLetters_any ss As cs w2 h1 h2 r2.out).mono ?_
      rintro e w3 ⟨rfl, hb3⟩
      rw [hv.out]
      have r3 := hid (r2.out.later hb3)
      have hB3 := hB2.trans (hb3.mono hB2.size)
      go_wp2_with fail
      go_loopw [5] (fun i wr => ∃ k : Nat, i = .int .i64 k ∧ k ≤ 6 ∧ w3 = wr) (fun i _ => 6 - (intOf i).toNat)
      case atStart => exact ⟨0, rfl, by omega, rfl⟩
      case round =>
        obtain ⟨k, rfl, hk, rfl⟩ := hrel
        by_cases hk6 : k < 6
        · have hk6b : decide ((k : Int) < 6) = true := decide_eq_true (by omega)
          go_wp2_with fail
          go_loopw [6, 7] (fun m i wr => ∃ j : Nat, i = .int .i64 j ∧ j ≤ ss.length ∧ m = .int .i64 (cntAl (ss.take j) k : Nat) ∧ w3 = wr) (fun _ i _ => ss.length - (intOf i).toNat)
          case atStart => exact ⟨0, rfl, by omega, rfl, rfl⟩
          case round =>
            obtain ⟨j, rfl, hj, rfl, rfl⟩ := hrel
            have hcl : cntAl (ss.take j) k ≤ 10 := by
              have := List.countP_le_length (p := fun s : Sy => Has s.al k) (l := ss.take j)
              have h5 : (ss.take j).length ≤ j := List.length_take_le _ _
              unfold cntAl
              omega
            by_cases hjl : j < ss.length
            · obtain ⟨b, o, rfl, hbb, hE⟩ := r3.out (by omega)
              have c0 := (hE j hjl).1
              have hts := hid (take_snoc ss j hjl)
              have j1 : (0 : Int) ≤ (j : Int) ∧ (j : Int) < (ss.length : Int) := by omega
              replace hE := hid hE
              cases hH : Has ss[j].al k
              · replace hH := hid hH
                go_wp2_with (go_at_call 11; refine (agHas_any _ _ _ (by omega) (by omega)).mono ?_; rintro e w' ⟨rfl, rfl⟩; rw [Int.toNat_natCast, hH.out])
                go_roundw
                case rel => exact ⟨j + 1, by go_num, by omega, by rw [hts.out, cntAl_snoc, hH.out]; rfl, by first | trivial | rfl⟩
                case measure => simp [intOf]; omega
              · replace hH := hid hH
                go_wp2_with (go_at_call 11; refine (agHas_any _ _ _ (by omega) (by omega)).mono ?_; rintro e w' ⟨rfl, rfl⟩; rw [Int.toNat_natCast, hH.out])
                go_roundw
                case rel => exact ⟨j + 1, by go_num, by omega, by rw [hts.out, cntAl_snoc, hH.out]; rfl, by first | trivial | rfl⟩
                case measure => simp [intOf]; omega
            · have hcnt : Hid (Has sh k = decide (1 < ((cntAl (ss.take j) k : Nat) : Int))) := hid (by
                rw [List.take_of_length_le (by omega), hsh.out, (Has_all ss k hall.out).2]
                exact decide_eq_decide.2 (by omega))
              go_wp2_with (go_at_call 11; refine (agHas_any _ _ _ (by omega) (by omega)).mono ?_; rintro e w' ⟨rfl, rfl⟩; rw [Int.toNat_natCast, hcnt.out])
              go_roundw
              case rel => exact ⟨k + 1, by go_num, by omega, by first | trivial | rfl⟩
              case measure => simp [intOf]; omega
        · go_wp2_with fail
          go_ret
          exact ⟨rfl, hB3⟩

end Go.Proofs.Ytbomhfbiaedbiaa
