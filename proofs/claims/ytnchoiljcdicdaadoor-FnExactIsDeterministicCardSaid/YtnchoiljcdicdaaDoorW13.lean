/- The law FnExactIsDeterministic returns true. -/
import Derived.Test.YtnchoiljcdicdaaDoorW12
import Derived.Test.YtnchoiljcdicdaaDoorW7
import Derived.Deep.RegionWith
namespace Go.Proofs.YtnchoiljcdicdaaDoor
open Go.RowKit Go.BigFrame AG

set_option maxHeartbeats 2000000 in
theorem FnExactIsDeterministic_any (s : Sy) (A : Option Addr) (c : Nat) (w : World) (hl : s.es.length ≤ c) (hc : c ≤ 9223372036854775807) (hT : Tab w) (hr : EdsAt w w.heap.size A s.es) :
    Calls Tryd.prog 3 #[s.val A c] w fun e w' => e = .returned (.bool true) ∧ Below w.heap.size w w' := by
  unfold Sy.val
  replace hr := hid hr
  replace hT := hid hT
  go_enter Tryd.func3, Tryd.ntmps3
  go_wp2_with fail
  obtain ⟨w0, hw0, hz0, hB0, hS0, hS1, hS2⟩ := boxed3 w (Value.int IntKind.i64 s.al) (Value.int IntKind.i64 s.st) (Value.slice A s.es.length c) 24
  rw [hw0]
  clear hw0
  have p0 := hS0 _ (Below.refl _ _)
  have p1 := hS1 _ (Below.refl _ _)
  have p2 := hS2 _ (Below.refl _ _)
  go_wp2_with fail
  refine (szSystem_any s A c 1048576 w0 (by omega) (by omega) (by omega)).mono ?_
  rintro e w1 ⟨rfl, hb1⟩
  have b1 := hb1.mono hz0
  clear p0 p1 p2
  have p0 := hS0 _ b1
  have p1 := hS1 _ b1
  have p2 := hS2 _ b1
  have B1 : Below w.heap.size w w1 := hB0.trans (b1.mono (by omega))
  by_cases hsz : sz1 s.es.length 1048576 < 0
  · go_wp2_with fail
    go_ret
    exact ⟨rfl, B1⟩
  · have hn : s.es.length ≤ 1048576 := by unfold sz1 at hsz; split at hsz <;> omega
    have r1 := hid (hr.out.later B1)
    go_wp2_with fail
    refine (toSystem_any s A c w1 hn hl hc r1.out).mono ?_
    rintro e w2 ⟨A2, rfl, hA2, -, hb2⟩
    replace hA2 := hid hA2
    have b2 := b1.trans (hb2.mono (Nat.le_trans hz0 hb1.size))
    have z2 := b2.size
    go_wp2_with fail
    refine (specIsDeterministic_any s A2 s.es.length w2 (Nat.le_refl _) (by omega) hA2.out).mono ?_
    rintro e w3 ⟨rfl, hb3⟩
    have b3 := b2.trans (hb3.mono (by omega))
    have z3 := b3.size
    clear p0 p1 p2
    have p0 := hS0 _ b3
    have p1 := hS1 _ b3
    have p2 := hS2 _ b3
    have B3 : Below w.heap.size w w3 := hB0.trans (b3.mono (by omega))
    have r3 := hid (hr.out.later B3)
    go_wp2_with fail
    refine (toSystem_any s A c w3 hn hl hc r3.out).mono ?_
    rintro e w4 ⟨A4, rfl, hA4, -, hb4⟩
    replace hA4 := hid hA4
    have b4 := b3.trans (hb4.mono (by omega))
    have z4 := b4.size
    unfold Sy.val
    go_wp2_with fail
    obtain ⟨w5, hw5, hz5, hB5, hX0, hX1, hX2⟩ := boxed3 w4 (Value.int IntKind.i64 s.al) (Value.int IntKind.i64 s.st) (Value.slice A4 s.es.length s.es.length) 29
    rw [hw5]
    clear hw5
    have b5 := b4.trans (hB5.mono (by omega))
    have hA5 := hid (hA4.out.later hB5)
    have B5 : Below w.heap.size w w5 := hB0.trans (b5.mono (by omega))
    have hT5 := hid (hT.out.later B5)
    have q0 := hX0 _ (Below.refl _ _)
    have q1 := hX1 _ (Below.refl _ _)
    have q2 := hX2 _ (Below.refl _ _)
    go_wp2_with fail
    refine (implIsDeterministic_any s A4 s.es.length w5 (Nat.le_refl _) (by omega) hT5.out hA5.out).mono ?_
    rintro e w6 ⟨rfl, hb6⟩
    have c6 := hb6.mono hz5
    have b6 := b5.trans (hb6.mono (by omega))
    have z6 := b6.size
    clear p0 p1 p2 q0 q1 q2
    have p0 := hS0 _ b6
    have p1 := hS1 _ b6
    have p2 := hS2 _ b6
    have q0 := hX0 _ c6
    have q1 := hX1 _ c6
    have q2 := hX2 _ c6
    have d0 := hS0 _ b6.drew
    have d1 := hS1 _ b6.drew
    have d2 := hS2 _ b6.drew
    have e0 := hX0 _ c6.drew
    have e1 := hX1 _ c6.drew
    have e2 := hX2 _ c6.drew
    have B6 : Below w.heap.size w w6 := hB0.trans (b6.mono (by omega))
    have r6 := hid (hr.out.later B6.drew)
    have hA6 := hid (hA5.out.later hb6.drew)
    have zc : w4.heap.size + 1 ≤ w6.drew.heap.size := Nat.le_trans hz5 hb6.size
    have after : Hid (∀ w7, Below w6.drew.heap.size w6.drew w7 → Below (w4.heap.size + 1) w5 w7) := hid fun w7 h => c6.drew.trans (h.mono zc)
    generalize detB s = D
    go_wp2_with fail
    go_region_with (first
      | (go_at_call 9
         refine (toSystem_any s A c _ hn hl hc ?_).mono ?_
         exact r6.out
         rintro e w7 ⟨A7, rfl, hA7, -, hb7⟩
         have c7 := after.out _ hb7
         have q0 := hX0 _ c7
         have q1 := hX1 _ c7
         have q2 := hX2 _ c7)
      | (go_at_call 11
         refine (eqSystem_any s s A4 _ s.es.length s.es.length _ (Nat.le_refl _) (by omega) (Nat.le_refl _) (by omega) ?_ ?_).mono ?_
         exact hA6.out.later hb7
         assumption
         rintro e w8 ⟨rfl, hb8⟩
         rw [decide_eq_true (show s = s from rfl)]))
    all_goals
      have zf : w.heap.size ≤ w6.drew.heap.size := Nat.le_trans (by omega) zc
      go_wp2_with fail
      go_ret
      exact ⟨rfl, B6.drew.trans ((hb7.mono zf).trans (hb8.mono (Nat.le_trans zf hb7.size)))⟩

end Go.Proofs.YtnchoiljcdicdaaDoor
