/- The reference's l2Step, l6Comparable. -/
import Derived.Test.YtbomhfbiaedbiaaDoorW9
import Derived.Test.YtbomhfbiaedbiaaDoorMathD
namespace Go.Proofs.YtbomhfbiaedbiaaDoor
open Go.RowKit Go.BigFrame AG

set_option maxHeartbeats 1000000 in
theorem l2Step_any (s : Sy) (A : Option Addr) (c : Nat) (S : Nat) (l : Int) (w : World) (hs : edgesIn s) (hl : s.es.length ≤ c) (hc : c ≤ 9223372036854775807) (hr : EdsAt w w.heap.size A s.es) :
    Calls Tryd.prog 119 #[s.val A c, .int .i64 S, .int .i64 l] w fun e w' => e = .returned (.int .i64 (stepSet s S l : Nat)) ∧ Below w.heap.size w w' := by
  unfold Sy.val
  replace hr := hid hr
  replace hs := hid hs
  go_enter Tryd.func119, Tryd.ntmps119
  go_wp2_with fail
  obtain ⟨w0, hw0, hz0, hB0, hS0, hS1, hS2⟩ := boxed3 w (Value.int IntKind.i64 s.al) (Value.int IntKind.i64 s.st) (Value.slice A s.es.length c) 36
  rw [hw0]
  clear hw0
  go_loopw [7, 8] (fun st i wr => ∃ (U k : Nat), st = .int .i64 U ∧ i = .int .i64 k ∧ k ≤ s.es.length ∧ U = stTo s S l k ∧ Below (w.heap.size + 1) w0 wr) (fun _ i _ => s.es.length - (intOf i).toNat)
  case atStart => exact ⟨0, 0, rfl, rfl, by omega, (stTo_zero s S l).symm, Below.refl _ _⟩
  case round =>
    obtain ⟨U, k, rfl, rfl, hk, hU, hb1⟩ := hrel
    have hUl := stTo_lt s S l k
    rw [← hU] at hUl
    replace hU := hid hU
    have q0 := hS0 _ hb1
    have q1 := hS1 _ hb1
    have q2 := hS2 _ hb1
    by_cases hlt : k < s.es.length
    · obtain ⟨b, o, rfl, hB, hE⟩ := hr.out.get hB0 (Nat.le_succ w.heap.size) hlt
      obtain ⟨e0, e1, e2⟩ := hE k hlt
      replace e0 := e0 _ hb1
      replace e1 := e1 _ hb1
      replace e2 := e2 _ hb1
      obtain ⟨f1, f2, f3, f4, f5, f6, f7, _⟩ := hs.out s.es[k] (List.getElem_mem _)
      have hw3 := hid (bits_orN U (2 ^ s.es[k].t.toNat) (by omega) (by have := Nat.pow_lt_pow_right (a := 2) (by omega) (show s.es[k].t.toNat < 16 by omega); omega))
      replace hE := hid hE
      go_wp2_with (first | (go_at_call 101; refine (l1Has_any _ _ _ (by omega) (by omega)).mono ?_; rintro e w' ⟨rfl, rfl⟩) | (go_at_call 109; refine (l1Bit_int _ _ (by omega) (by omega)).mono ?_; rintro e w' ⟨rfl, rfl⟩))
      · go_roundw
        case rel =>
          refine ⟨U ||| 2 ^ s.es[k].t.toNat, k + 1, ?_, by go_num, by omega, ?_, by (repeat (first | exact Below.refl _ _ | assumption | refine Below.drew ?_ | refine Below.alloc ?_ (by first | omega | (simp; done) | (simp; omega)) _ | refine Below.setCell ?_ (by first | omega | (simp; done) | (simp; omega)) _))⟩
          · rw [← hw3.out, Int.natCast_pow]
            rfl
          · rw [stTo_hit hs.out hlt (by assumption) (by rw [← Has_nat]; assumption), hU.out]
        case measure => simp [intOf]; omega
      all_goals
        go_roundw
        case rel => exact ⟨U, k + 1, rfl, by go_num, by omega, by rw [stTo_miss hlt (by rw [← Has_nat]; simp_all), hU.out], by (repeat (first | exact Below.refl _ _ | assumption | refine Below.drew ?_ | refine Below.alloc ?_ (by first | omega | (simp; done) | (simp; omega)) _ | refine Below.setCell ?_ (by first | omega | (simp; done) | (simp; omega)) _))⟩
        case measure => simp [intOf]; omega
    · obtain rfl : k = s.es.length := by omega
      rw [stTo_all] at hU
      go_wp2
      go_ret
      exact ⟨by rw [← hU.out]; rfl, hB0.trans (hb1.mono (by omega))⟩

end Go.Proofs.YtbomhfbiaedbiaaDoor
