/- Letters of words: the reference's l1At, the program's letterAt. -/
import Derived.Test.YtbomhfbiaedbiaaDoorW3
import Derived.Test.YtbomhfbiaedbiaaDoorMathK
import Derived.WalkKit
namespace Go.Proofs.YtbomhfbiaedbiaaDoor
open Go.RowKit Go.BigFrame AG

theorem byte_at (s : ByteArray) (i : Nat) (h : i < s.size) : ((s[i]'h).toNat : Int) = lz s i + 97 := by
  unfold lz
  have : s.data.getD i 0 = s[i]'h := by
    rw [Array.getD_eq_getD_getElem?, Array.getElem?_eq_getElem (by simpa using h)]
    rfl
  rw [this]
  omega

set_option maxHeartbeats 400000 in
theorem l1At_any (s : ByteArray) (i : Nat) (w : World) (h : i < s.size) :
    Calls Tryd.prog 102 #[.string s, .int .i64 i] w fun e w' => e = .returned (.int .i64 (lz s i)) ∧ w = w' := by
  have hb := byte_at s i h
  have hr := lz_range s i
  have h0 : (0 : Int) ≤ (i : Int) ∧ (i : Int) < (s.size : Int) := by omega
  go_enter Tryd.func102, Tryd.ntmps102
  go_wp2
  go_ret
  exact ⟨rfl, rfl⟩

set_option maxHeartbeats 400000 in
theorem letterAt_any (s : ByteArray) (i : Nat) (w : World) (h : i < s.size) :
    Calls Tryd.prog 105 #[.string s, .int .i64 i] w fun e w' => e = .returned (.int .i64 (ltr s i)) ∧ w = w' := by
  have hb := byte_at s i h
  have hr := lz_range s i
  have h0 : (0 : Int) ≤ (i : Int) ∧ (i : Int) < (s.size : Int) := by omega
  have hfin : Hid (ltr s i = if lz s i < 0 then -1 else if 6 ≤ lz s i then -1 else lz s i) := hid (by
    split
    · exact ltr_bad (by omega)
    · split
      · exact ltr_bad (by omega)
      · exact ltr_ok (by omega))
  by_cases hlo : lz s i < 0
  · go_enter Tryd.func105, Tryd.ntmps105
    go_wp2
    go_ret
    exact ⟨ret_int (by rw [hfin.out]; (repeat split) <;> first | rfl | omega), rfl⟩
  · by_cases hhi : 6 ≤ lz s i
    all_goals
      go_enter Tryd.func105, Tryd.ntmps105
      go_wp2
      go_ret
    · exact ⟨ret_int (by rw [hfin.out]; (repeat split) <;> first | rfl | omega), rfl⟩
    · exact ⟨ret_int (by rw [hfin.out]; (repeat split) <;> first | rfl | omega), rfl⟩

end Go.Proofs.YtbomhfbiaedbiaaDoor
