/- The drawing kit: l19Num ends with some number. -/
import Derived.Test.YtbomhfbiaedbiaaDoorD3
namespace Go.Proofs.YtbomhfbiaedbiaaDoor
open Go.RowKit Go.BigFrame AG

theorem byte_some (s : ByteArray) (i : Nat) (h : i < s.size) : ∃ y : Nat, y < 256 ∧ ((s[i]'h).toNat : Int) = (y : Int) := ⟨(s[i]'h).toNat, (s[i]'h).toNat_lt, rfl⟩

def NumPost (w : World) (e : Ending) (w' : World) : Prop := ∃ (n : Int) (b : Bool), e = .returned (.tuple #[.int .i64 n, .bool b]) ∧ w = w'

set_option maxHeartbeats 2000000 in
theorem l19Num_plain (s : ByteArray) (w : World) (hz : s.size ≤ 1000000) (hn : ∀ h : 0 < s.size, (s[0]'h).toNat ≠ 45) :
    Calls Tryd.prog 157 #[.string s] w (NumPost w) := by
  by_cases h0 : s.size = 0
  · go_enter Tryd.func157, Tryd.ntmps157
    go_wp2
    go_ret2
    exact ⟨_, _, rfl, rfl⟩
  · have hpos : (0 : Int) < (s.size : Int) := by omega
    obtain ⟨y, hy, hy2⟩ := byte_some s 0 (by omega)
    have hneg2 : ((y : Int) == 45) = false := by
      have h45 : (s[0]'(by omega)).toNat ≠ 45 := hn (by omega)
      rw [beq_eq_false_iff_ne]
      omega
    replace hn := hid hn
    have a1 : ((s.size : Int) == 0) = false := by rw [beq_eq_false_iff_ne]; omega
    by_cases h17 : 17 < s.size
    · have a2 : decide (17 < (s.size : Int)) = true := by simp; omega
      go_enter Tryd.func157, Tryd.ntmps157
      go_wp2
      go_ret2
      exact ⟨_, _, rfl, rfl⟩
    · have a2 : decide (17 < (s.size : Int)) = false := by simp; omega
      by_cases hbad : y = 48 ∧ 1 < s.size
      · have a3 : ((y : Int) == 48) = true := by simp; omega
        have a4 : decide (1 < (s.size : Int)) = true := by simp; omega
        go_enter Tryd.func157, Tryd.ntmps157
        go_wp2
        go_ret2
        exact ⟨_, _, rfl, rfl⟩
      · by_cases h48 : y = 48
        · have a3 : ((y : Int) == 48) = true := by simp; omega
          have a4 : decide (1 < (s.size : Int)) = false := by simp; omega
          replace hbad := hid hbad
          go_enter Tryd.func157, Tryd.ntmps157
          go_wp2_with fail
          go_loopw [5, 6] (fun v i wr => ∃ (x : Int) (k : Nat), v = .int .i64 x ∧ i = .int .i64 k ∧ k ≤ s.size ∧ w = wr) (fun _ i _ => s.size - (intOf i).toNat)
          case atStart => exact ⟨0, 0, rfl, rfl, by omega, rfl⟩
          case round =>
            obtain ⟨x, k, rfl, rfl, hk, rfl⟩ := hrel
            by_cases hlt : k < s.size
            · obtain ⟨z, hz1, hz2⟩ := byte_some s k hlt
              have hk2 : (0 : Int) ≤ (k : Int) ∧ (k : Int) < (s.size : Int) := by omega
              go_wp2
              all_goals first
                | (go_ret2; exact ⟨_, _, rfl, rfl⟩)
                | (go_roundw
                   case rel => exact ⟨_, k + 1, rfl, by go_num, by omega, by first | trivial | rfl⟩
                   case measure => simp [intOf]; omega)
            · go_wp2
              go_ret2
              exact ⟨_, _, rfl, rfl⟩
        · have a3 : ((y : Int) == 48) = false := by simp; omega
          replace hbad := hid hbad
          go_enter Tryd.func157, Tryd.ntmps157
          go_wp2_with fail
          go_loopw [5, 6] (fun v i wr => ∃ (x : Int) (k : Nat), v = .int .i64 x ∧ i = .int .i64 k ∧ k ≤ s.size ∧ w = wr) (fun _ i _ => s.size - (intOf i).toNat)
          case atStart => exact ⟨0, 0, rfl, rfl, by omega, rfl⟩
          case round =>
            obtain ⟨x, k, rfl, rfl, hk, rfl⟩ := hrel
            by_cases hlt : k < s.size
            · obtain ⟨z, hz1, hz2⟩ := byte_some s k hlt
              have hk2 : (0 : Int) ≤ (k : Int) ∧ (k : Int) < (s.size : Int) := by omega
              go_wp2
              all_goals first
                | (go_ret2; exact ⟨_, _, rfl, rfl⟩)
                | (go_roundw
                   case rel => exact ⟨_, k + 1, rfl, by go_num, by omega, by first | trivial | rfl⟩
                   case measure => simp [intOf]; omega)
            · go_wp2
              go_ret2
              exact ⟨_, _, rfl, rfl⟩

set_option maxHeartbeats 2000000 in
theorem l19Num_sign (s : ByteArray) (w : World) (hz : s.size ≤ 1000000) (hs : 0 < s.size) (hn : (s[0]'hs).toNat = 45) :
    Calls Tryd.prog 157 #[.string s] w (NumPost w) := by
  have hpos : (0 : Int) < (s.size : Int) := by omega
  obtain ⟨y, hy, hy2⟩ := byte_some s 0 hs
  have hneg2 : ((y : Int) == 45) = true := by rw [beq_iff_eq]; omega
  obtain ⟨t, ht⟩ : ∃ t, s.extract 1 s.size = t := ⟨_, rfl⟩
  have htz : t.size = s.size - 1 := by rw [← ht, ByteArray.size_extract]; omega
  have hle : (1 : Int) ≤ (s.size : Int) := by omega
  have htl : t.size ≤ 1000000 := by omega
  replace htz := hid htz
  replace hn := hid hn
  by_cases h0 : t.size = 0
  · have a1 : ((t.size : Int) == 0) = true := by rw [beq_iff_eq]; omega
    go_enter Tryd.func157, Tryd.ntmps157
    go_wp2
    go_ret2
    exact ⟨_, _, rfl, rfl⟩
  · have a1 : ((t.size : Int) == 0) = false := by rw [beq_eq_false_iff_ne]; omega
    have hpos2 : (0 : Int) < (t.size : Int) := by omega
    obtain ⟨y2, hy3, hy4⟩ := byte_some t 0 (by omega)
    by_cases h17 : 17 < t.size
    · have a2 : decide (17 < (t.size : Int)) = true := by simp; omega
      go_enter Tryd.func157, Tryd.ntmps157
      go_wp2
      go_ret2
      exact ⟨_, _, rfl, rfl⟩
    · have a2 : decide (17 < (t.size : Int)) = false := by simp; omega
      by_cases h48 : y2 = 48
      · have a3 : ((y2 : Int) == 48) = true := by simp; omega
        by_cases h1 : 1 < t.size
        all_goals
          go_enter Tryd.func157, Tryd.ntmps157
          go_wp2
          go_ret2
          exact ⟨_, _, rfl, rfl⟩
      · have a3 : ((y2 : Int) == 48) = false := by simp; omega
        go_enter Tryd.func157, Tryd.ntmps157
        go_wp2_with fail
        go_loopw [5, 6] (fun v i wr => ∃ (x : Int) (k : Nat), v = .int .i64 x ∧ i = .int .i64 k ∧ k ≤ t.size ∧ w = wr) (fun _ i _ => t.size - (intOf i).toNat)
        case atStart => exact ⟨0, 0, rfl, rfl, by omega, rfl⟩
        case round =>
          obtain ⟨x, k, rfl, rfl, hk, rfl⟩ := hrel
          by_cases hlt : k < t.size
          · obtain ⟨z, hz1, hz2⟩ := byte_some t k hlt
            have hk2 : (0 : Int) ≤ (k : Int) ∧ (k : Int) < (t.size : Int) := by omega
            go_wp2
            all_goals first
              | (go_ret2; exact ⟨_, _, rfl, rfl⟩)
              | (go_roundw
                 case rel => exact ⟨_, k + 1, rfl, by go_num, by omega, by first | trivial | rfl⟩
                 case measure => simp [intOf]; omega)
          · go_wp2
            go_ret2
            exact ⟨_, _, rfl, rfl⟩

theorem l19Num_any (s : ByteArray) (w : World) (hz : s.size ≤ 1000000) : Calls Tryd.prog 157 #[.string s] w (NumPost w) := by
  by_cases hs : 0 < s.size
  · by_cases hn : (s[0]'hs).toNat = 45
    · exact l19Num_sign s w hz hs hn
    · exact l19Num_plain s w hz fun _ => hn
  · exact l19Num_plain s w hz fun h => absurd h hs

end Go.Proofs.YtbomhfbiaedbiaaDoor
