/- The law FnExactTraceOfParts returns true. -/
import Derived.Test.YtbomhfbiaedbiaaDoorW32
import Derived.Test.YtbomhfbiaedbiaaDoorW7
namespace Go.Proofs.YtbomhfbiaedbiaaDoor
open Go.RowKit Go.BigFrame AG

set_option maxHeartbeats 1000000 in
theorem FnExactTraceOfParts_any (ss : List Sy) (A : Option Addr) (c : Nat) (x : ByteArray) (w : World) (hz : x.size ≤ 9223372036854775807) (hl : ss.length ≤ c) (hc : c ≤ 9223372036854775807) (hT : Tab w) (hr : SysAt w w.heap.size A ss) :
    Calls Tryd.prog 3 #[.slice A ss.length c, .string x] w fun e w' => e = .returned (.bool true) ∧ Below w.heap.size w w' := by
  replace hr := hid hr
  replace hT := hid hT
  by_cases hx : x.size ≤ 1048576
  · by_cases hsz : szSys ss 1048576 < 0
    · go_enter Tryd.func3, Tryd.ntmps3
      go_wp2_with (go_at_call 11; refine (szSystemS_any ss A c 1048576 _ (by omega) hc hl (by omega) (by omega) hr.out).mono ?_; rintro e w' ⟨rfl, hb⟩)
      go_ret
      exact ⟨rfl, hb⟩
    · have hge := szSys_ge (ss := ss) (left := 1048576) (by omega)
      obtain ⟨hn, hes⟩ := hge
      have hes' : ∀ s ∈ ss, s.es.length ≤ 1048576 := fun s hs => by have := hes s hs; omega
      replace hes := hid hes'
      clear hes'
      go_enter Tryd.func3, Tryd.ntmps3
      go_wp2_with (go_at_call 11; refine (szSystemS_any ss A c 1048576 _ (by omega) hc hl (by omega) (by omega) hr.out).mono ?_; rintro e w1 ⟨rfl, hb1⟩)
      have r1 := hid (hr.out.later hb1)
      have b1 := hb1
      refine (toSystemS_any ss A c w1 (by omega) hes.out hl hc r1.out).mono ?_
      rintro e w2 ⟨A2, rfl, hA2, hb2⟩
      replace hA2 := hid hA2
      go_wp2_with fail
      refine (specTraceOfParts_any ss A2 ss.length x w2 hz (Nat.le_refl _) (by omega) hA2.out).mono ?_
      rintro e w3 ⟨rfl, hb3⟩
      go_wp2_with fail
      have r3 := hid ((r1.out.later hb2).later hb3)
      refine (toSystemS_any ss A c w3 (by omega) hes.out hl hc r3.out).mono ?_
      rintro e w4 ⟨A4, rfl, hA4, hb4⟩
      replace hA4 := hid hA4
      have b2 := hb1.trans (hb2.mono hb1.size)
      have b3 := b2.trans (hb3.mono b2.size)
      have b4 := b3.trans (hb4.mono b3.size)
      have hT4 := hid (hT.out.later b4)
      go_wp2_with fail
      refine (implTraceOfParts_any ss A4 ss.length x w4 hz (Nat.le_refl _) (by omega) hT4.out hA4.out).mono ?_
      rintro e w5 ⟨rfl, hb5⟩
      go_wp2_with fail
      have r5 := hid ((r3.out.later hb4).later hb5)
      refine (toSystemS_any ss A c w5 (by omega) hes.out hl hc r5.out).mono ?_
      rintro e w6 ⟨A6, rfl, hA6, hb6⟩
      have r6 := hid ((hA4.out.later hb5).later hb6)
      replace hA6 := hid hA6
      go_wp2_with fail
      refine (eqSystemS_any ss ss A4 A6 ss.length ss.length w6 (Nat.le_refl _) (by omega) (Nat.le_refl _) r6.out hA6.out).mono ?_
      rintro e w7 ⟨rfl, hb7⟩
      rw [decide_eq_true (show ss = ss from rfl)]
      go_wp2
      go_ret
      have b5 := b4.trans (hb5.mono b4.size)
      have b6 := b5.trans (hb6.mono b5.size)
      exact ⟨rfl, b6.trans (hb7.mono b6.size)⟩
  · go_enter Tryd.func3, Tryd.ntmps3
    go_wp2
    go_ret
    exact ⟨rfl, Below.refl _ _⟩

end Go.Proofs.YtbomhfbiaedbiaaDoor
