/- Contracts of the small functions on letters, edges and systems (the reference's). -/
import Derived.Test.YtbomhfbiaedbiaaDoorProg
import Derived.Test.YtbomhfbiaedbiaaDoorBase
namespace Go.Proofs.YtbomhfbiaedbiaaDoor
open Go.RowKit AG

set_option maxHeartbeats 400000 in
theorem l1Alphabet_any (a : Int) (w : World) :
    Calls Tryd.prog 70 #[.int .i64 a] w fun e w' => e = .returned (.bool (alphaOk a)) ∧ w = w' := by
  go_enter Tryd.func70, Tryd.ntmps70
  go_wp2
  all_goals go_ret
  all_goals exact ⟨ret_bool (by unfold alphaOk; simp; omega), rfl⟩

set_option maxHeartbeats 400000 in
theorem l1Has_any (a n : Int) (w : World) (h0 : 0 ≤ n) (h1 : n ≤ 63) :
    Calls Tryd.prog 101 #[.int .i64 a, .int .i64 n] w fun e w' => e = .returned (.bool (Has a n.toNat)) ∧ w = w' := by
  go_enter Tryd.func101, Tryd.ntmps101
  go_wp2
  go_ret
  exact ⟨ret_bool (and_one_has _ _), rfl⟩

set_option maxHeartbeats 400000 in
theorem l2Before_any (a b : Ed) (w : World) :
    Calls Tryd.prog 117 #[a.val, b.val] w fun e w' => e = .returned (.bool (edgeLt a b)) ∧ Below w.heap.size w w' := by
  unfold Ed.val
  go_enter Tryd.func117, Tryd.ntmps117
  go_wp2
  all_goals go_ret
  all_goals exact ⟨ret_bool (by unfold edgeLt; simp_all), by (repeat (first | exact Below.refl _ _ | assumption | refine Below.drew ?_ | refine Below.alloc ?_ (by first | omega | (simp; done) | (simp; omega)) _ | refine Below.setCell ?_ (by first | omega | (simp; done) | (simp; omega)) _))⟩

set_option maxHeartbeats 400000 in
theorem l2Edge_any (al st : Int) (a : Ed) (w : World) :
    Calls Tryd.prog 116 #[.int .i64 al, .int .i64 st, a.val] w fun e w' => e = .returned (.bool (edgeOk al st a)) ∧ Below w.heap.size w w' := by
  unfold Ed.val
  go_enter Tryd.func116, Tryd.ntmps116
  go_wp2_with (go_at_call 101; refine (l1Has_any _ _ _ (by omega) (by omega)).mono ?_; rintro e w' ⟨rfl, rfl⟩)
  all_goals go_ret
  all_goals refine ⟨ret_bool (by unfold edgeOk; simp; omega), by (repeat (first | exact Below.refl _ _ | assumption | refine Below.drew ?_ | refine Below.alloc ?_ (by first | omega | (simp; done) | (simp; omega)) _ | refine Below.setCell ?_ (by first | omega | (simp; done) | (simp; omega)) _))⟩

end Go.Proofs.YtbomhfbiaedbiaaDoor
