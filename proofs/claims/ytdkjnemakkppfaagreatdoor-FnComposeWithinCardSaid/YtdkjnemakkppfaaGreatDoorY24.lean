/- Lemmas, part 24: several texts in one. -/
import Derived.Test.YtdkjnemakkppfaaGreatDoorY13
import Derived.Test.YtdkjnemakkppfaaGreatDoorY10
import Derived.Test.YtdkjnemakkppfaaGreatDoorY7
import Derived.Test.YtdkjnemakkppfaaGreatDoorY18
set_option linter.unusedSimpArgs false
set_option linter.unusedVariables false

/- The law FnComposeWithin. Printed by tools/gen_r9b.py. -/
namespace Go.Proofs.YtdkjnemakkppfaaGreatDoor
open Go.RowKit Go.BigFrame Go.Maps AG


set_option maxRecDepth 100000 in
set_option maxHeartbeats 16000000 in
theorem FnComposeWithin_any (A A' : Option Addr) (n c n' c' : Nat) (w : World) (hn : n ≤ c) (hc : c ≤ 9223372036854775807) (hn' : n' ≤ c') (hc' : c' ≤ 9223372036854775807) (hT : Tab w) (hx : CodeAt w A n) (hx' : CodeAt w A' n') :
    Calls Tryz.prog 5 #[.slice A n c, .slice A' n' c'] w fun e w' => e = .returned (.bool true) ∧ Below w.heap.size w w' := by
  replace hT := hid hT
  replace hx := hid hx
  replace hx' := hid hx'
  by_cases hlen : 1048576 < n
  · have hgt : (1048576 : Int) < (n : Int) := by omega
    go_enter Tryz.func5, Tryz.ntmps5
    go_wp2
    go_ret
    exact ⟨rfl, Below.refl _ _⟩
  by_cases hlen' : 1048576 < n'
  · have hgt0 : ¬ ((1048576 : Int) < (n : Int)) := by omega
    have hgt : (1048576 : Int) < (n' : Int) := by omega
    go_enter Tryz.func5, Tryz.ntmps5
    go_wp2
    go_ret
    exact ⟨rfl, Below.refl _ _⟩
  have hgt : ¬ ((1048576 : Int) < (n : Int)) := by omega
  have hgt' : ¬ ((1048576 : Int) < (n' : Int)) := by omega
  go_enter Tryz.func5, Tryz.ntmps5
  go_wp2_with fail
  have BW_w : Below w.heap.size w w := Below.refl _ _
  refine (drawTracesWithin_any A n c w hn hc hx.out).mono ?_
  rintro e w1 ⟨s, t, As, At, cs, ct, rfl, ls1, ls2, lt1, lt2, es3, et3, hb_w1⟩
  unfold Sy.val
  have BW_w1 := BW_w.trans (hb_w1.mono BW_w.size)
  have es := hid es3
  have BEs_w1 : Below w1.heap.size w1 w1 := Below.refl _ _
  have et := hid et3
  have BEt_w1 : Below w1.heap.size w1 w1 := Below.refl _ _
  clear es3 et3
  go_upto_region 4 with fail
  obtain ⟨w2, hw_w2, hz_w2, hb_w2, hS_w2, hU_w2⟩ := boxed2 w1 #[.int .i64 s.al, .int .i64 s.st, .slice As s.es.length cs] 25 #[.int .i64 t.al, .int .i64 t.st, .slice At t.es.length ct] 25
  rw [hw_w2]
  clear hw_w2
  have hs0 := fun w' (hb : Below w2.heap.size w2 w') => hS_w2 0 _ rfl w' (hb.mono hz_w2)
  have hs1 := fun w' (hb : Below w2.heap.size w2 w') => hS_w2 1 _ rfl w' (hb.mono hz_w2)
  have hs2 := fun w' (hb : Below w2.heap.size w2 w') => hS_w2 2 _ rfl w' (hb.mono hz_w2)
  replace hs0 := hid hs0
  replace hs1 := hid hs1
  replace hs2 := hid hs2
  have ht0 := fun w' (hb : Below w2.heap.size w2 w') => hU_w2 0 _ rfl w' (hb.mono hz_w2)
  have ht1 := fun w' (hb : Below w2.heap.size w2 w') => hU_w2 1 _ rfl w' (hb.mono hz_w2)
  have ht2 := fun w' (hb : Below w2.heap.size w2 w') => hU_w2 2 _ rfl w' (hb.mono hz_w2)
  replace ht0 := hid ht0
  replace ht1 := hid ht1
  replace ht2 := hid ht2
  clear hS_w2 hU_w2
  have BW_w2 := BW_w1.trans (hb_w2.mono BW_w1.size)
  have BEs_w2 := BEs_w1.trans (hb_w2.mono BEs_w1.size)
  have BEt_w2 := BEt_w1.trans (hb_w2.mono BEt_w1.size)
  have Bs_w2 : Below w2.heap.size w2 w2 := Below.refl _ _
  have Bt_w2 : Below w2.heap.size w2 w2 := Below.refl _ _
  go_wp2_with fail
  refine (drawComposeSystems_any A' n' c' w2 hn' hc' (hx'.out.on BW_w2)).mono ?_
  rintro e w3 ⟨u, u', Au, Au', cu, cu', rfl, lu1, lu2, lu'1, lu'2, eu3, eu'3, hb_w3⟩
  unfold Sy.val
  have BW_w3 := BW_w2.trans (hb_w3.mono BW_w2.size)
  have BEs_w3 := BEs_w2.trans (hb_w3.mono BEs_w2.size)
  have BEt_w3 := BEt_w2.trans (hb_w3.mono BEt_w2.size)
  have Bs_w3 := Bs_w2.trans (hb_w3.mono Bs_w2.size)
  have Bt_w3 := Bt_w2.trans (hb_w3.mono Bt_w2.size)
  have eu := hid eu3
  have BEu_w3 : Below w3.heap.size w3 w3 := Below.refl _ _
  have eu' := hid eu'3
  have BEu'_w3 : Below w3.heap.size w3 w3 := Below.refl _ _
  clear eu3 eu'3
  go_upto_region 5 with fail
  obtain ⟨w4, hw_w4, hz_w4, hb_w4, hS_w4, hU_w4⟩ := boxed2 w3 #[.int .i64 u.al, .int .i64 u.st, .slice Au u.es.length cu] 25 #[.int .i64 u'.al, .int .i64 u'.st, .slice Au' u'.es.length cu'] 25
  rw [hw_w4]
  clear hw_w4
  have hu0 := fun w' (hb : Below w4.heap.size w4 w') => hS_w4 0 _ rfl w' (hb.mono hz_w4)
  have hu1 := fun w' (hb : Below w4.heap.size w4 w') => hS_w4 1 _ rfl w' (hb.mono hz_w4)
  have hu2 := fun w' (hb : Below w4.heap.size w4 w') => hS_w4 2 _ rfl w' (hb.mono hz_w4)
  replace hu0 := hid hu0
  replace hu1 := hid hu1
  replace hu2 := hid hu2
  have hu'0 := fun w' (hb : Below w4.heap.size w4 w') => hU_w4 0 _ rfl w' (hb.mono hz_w4)
  have hu'1 := fun w' (hb : Below w4.heap.size w4 w') => hU_w4 1 _ rfl w' (hb.mono hz_w4)
  have hu'2 := fun w' (hb : Below w4.heap.size w4 w') => hU_w4 2 _ rfl w' (hb.mono hz_w4)
  replace hu'0 := hid hu'0
  replace hu'1 := hid hu'1
  replace hu'2 := hid hu'2
  clear hS_w4 hU_w4
  have BW_w4 := BW_w3.trans (hb_w4.mono BW_w3.size)
  have BEs_w4 := BEs_w3.trans (hb_w4.mono BEs_w3.size)
  have BEt_w4 := BEt_w3.trans (hb_w4.mono BEt_w3.size)
  have Bs_w4 := Bs_w3.trans (hb_w4.mono Bs_w3.size)
  have Bt_w4 := Bt_w3.trans (hb_w4.mono Bt_w3.size)
  have BEu_w4 := BEu_w3.trans (hb_w4.mono BEu_w3.size)
  have BEu'_w4 := BEu'_w3.trans (hb_w4.mono BEu'_w3.size)
  have Bu_w4 : Below w4.heap.size w4 w4 := Below.refl _ _
  have Bu'_w4 : Below w4.heap.size w4 w4 := Below.refl _ _
  obtain ⟨v, hv⟩ : ∃ v, Hid (v = withinB s t) := ⟨_, hid rfl⟩
  cases v
  case false =>
    have ps0 := hs0.out _ Bs_w4
    have ps1 := hs1.out _ Bs_w4
    have ps2 := hs2.out _ Bs_w4
    have pt0 := ht0.out _ Bt_w4
    have pt1 := ht1.out _ Bt_w4
    have pt2 := ht2.out _ Bt_w4
    go_wp2_with fail
    refine (implTracesWithin_any s t As At cs ct w4 ls1 ls2 lt1 lt2 (hT.out.later BW_w4) (es.out.later BEs_w4) (et.out.later BEt_w4)).mono ?_
    clear ps0 ps1 ps2 pt0 pt1 pt2
    rintro e w5 ⟨rfl, hb_w5⟩
    have BW_w5 := BW_w4.trans (hb_w5.mono BW_w4.size)
    have BEs_w5 := BEs_w4.trans (hb_w5.mono BEs_w4.size)
    have BEt_w5 := BEt_w4.trans (hb_w5.mono BEt_w4.size)
    have Bs_w5 := Bs_w4.trans (hb_w5.mono Bs_w4.size)
    have Bt_w5 := Bt_w4.trans (hb_w5.mono Bt_w4.size)
    have BEu_w5 := BEu_w4.trans (hb_w5.mono BEu_w4.size)
    have BEu'_w5 := BEu'_w4.trans (hb_w5.mono BEu'_w4.size)
    have Bu_w5 := Bu_w4.trans (hb_w5.mono Bu_w4.size)
    have Bu'_w5 := Bu'_w4.trans (hb_w5.mono Bu'_w4.size)
    rw [← hv.out]
    have ps0 := hs0.out _ Bs_w5
    have ps1 := hs1.out _ Bs_w5
    have ps2 := hs2.out _ Bs_w5
    have pt0 := ht0.out _ Bt_w5
    have pt1 := ht1.out _ Bt_w5
    have pt2 := ht2.out _ Bt_w5
    go_wp2_with fail
    refine (specTracesWithin_any s t As At cs ct w5 ls1 ls2 lt1 lt2 (es.out.later BEs_w5) (et.out.later BEt_w5)).mono ?_
    clear ps0 ps1 ps2 pt0 pt1 pt2
    rintro e w6 ⟨rfl, hb_w6⟩
    have BW_w6 := BW_w5.trans (hb_w6.mono BW_w5.size)
    have BEs_w6 := BEs_w5.trans (hb_w6.mono BEs_w5.size)
    have BEt_w6 := BEt_w5.trans (hb_w6.mono BEt_w5.size)
    have Bs_w6 := Bs_w5.trans (hb_w6.mono Bs_w5.size)
    have Bt_w6 := Bt_w5.trans (hb_w6.mono Bt_w5.size)
    have BEu_w6 := BEu_w5.trans (hb_w6.mono BEu_w5.size)
    have BEu'_w6 := BEu'_w5.trans (hb_w6.mono BEu'_w5.size)
    have Bu_w6 := Bu_w5.trans (hb_w6.mono Bu_w5.size)
    have Bu'_w6 := Bu'_w5.trans (hb_w6.mono Bu'_w5.size)
    rw [← hv.out]
    have ps0 := hs0.out _ Bs_w6
    have ps1 := hs1.out _ Bs_w6
    have ps2 := hs2.out _ Bs_w6
    have pt0 := ht0.out _ Bt_w6
    have pt1 := ht1.out _ Bt_w6
    have pt2 := ht2.out _ Bt_w6
    go_wp2_with fail
    refine (specTracesWithin_any s t As At cs ct w6 ls1 ls2 lt1 lt2 (es.out.later BEs_w6) (et.out.later BEt_w6)).mono ?_
    clear ps0 ps1 ps2 pt0 pt1 pt2
    rintro e w7 ⟨rfl, hb_w7⟩
    have BW_w7 := BW_w6.trans (hb_w7.mono BW_w6.size)
    have BEs_w7 := BEs_w6.trans (hb_w7.mono BEs_w6.size)
    have BEt_w7 := BEt_w6.trans (hb_w7.mono BEt_w6.size)
    have Bs_w7 := Bs_w6.trans (hb_w7.mono Bs_w6.size)
    have Bt_w7 := Bt_w6.trans (hb_w7.mono Bt_w6.size)
    have BEu_w7 := BEu_w6.trans (hb_w7.mono BEu_w6.size)
    have BEu'_w7 := BEu'_w6.trans (hb_w7.mono BEu'_w6.size)
    have Bu_w7 := Bu_w6.trans (hb_w7.mono Bu_w6.size)
    have Bu'_w7 := Bu'_w6.trans (hb_w7.mono Bu'_w6.size)
    rw [← hv.out]
    go_wp2_with fail
    go_ret
    exact ⟨rfl, BW_w7⟩
  case true =>
    have ps0 := hs0.out _ Bs_w4
    have ps1 := hs1.out _ Bs_w4
    have ps2 := hs2.out _ Bs_w4
    have pt0 := ht0.out _ Bt_w4
    have pt1 := ht1.out _ Bt_w4
    have pt2 := ht2.out _ Bt_w4
    go_wp2_with fail
    refine (implTracesWithin_any s t As At cs ct w4 ls1 ls2 lt1 lt2 (hT.out.later BW_w4) (es.out.later BEs_w4) (et.out.later BEt_w4)).mono ?_
    clear ps0 ps1 ps2 pt0 pt1 pt2
    rintro e w5 ⟨rfl, hb_w5⟩
    have BW_w5 := BW_w4.trans (hb_w5.mono BW_w4.size)
    have BEs_w5 := BEs_w4.trans (hb_w5.mono BEs_w4.size)
    have BEt_w5 := BEt_w4.trans (hb_w5.mono BEt_w4.size)
    have Bs_w5 := Bs_w4.trans (hb_w5.mono Bs_w4.size)
    have Bt_w5 := Bt_w4.trans (hb_w5.mono Bt_w4.size)
    have BEu_w5 := BEu_w4.trans (hb_w5.mono BEu_w4.size)
    have BEu'_w5 := BEu'_w4.trans (hb_w5.mono BEu'_w4.size)
    have Bu_w5 := Bu_w4.trans (hb_w5.mono Bu_w4.size)
    have Bu'_w5 := Bu'_w4.trans (hb_w5.mono Bu'_w4.size)
    rw [← hv.out]
    have ps0 := hs0.out _ Bs_w5
    have ps1 := hs1.out _ Bs_w5
    have ps2 := hs2.out _ Bs_w5
    have pt0 := ht0.out _ Bt_w5
    have pt1 := ht1.out _ Bt_w5
    have pt2 := ht2.out _ Bt_w5
    go_wp2_with fail
    refine (specTracesWithin_any s t As At cs ct w5 ls1 ls2 lt1 lt2 (es.out.later BEs_w5) (et.out.later BEt_w5)).mono ?_
    clear ps0 ps1 ps2 pt0 pt1 pt2
    rintro e w6 ⟨rfl, hb_w6⟩
    have BW_w6 := BW_w5.trans (hb_w6.mono BW_w5.size)
    have BEs_w6 := BEs_w5.trans (hb_w6.mono BEs_w5.size)
    have BEt_w6 := BEt_w5.trans (hb_w6.mono BEt_w5.size)
    have Bs_w6 := Bs_w5.trans (hb_w6.mono Bs_w5.size)
    have Bt_w6 := Bt_w5.trans (hb_w6.mono Bt_w5.size)
    have BEu_w6 := BEu_w5.trans (hb_w6.mono BEu_w5.size)
    have BEu'_w6 := BEu'_w5.trans (hb_w6.mono BEu'_w5.size)
    have Bu_w6 := Bu_w5.trans (hb_w6.mono Bu_w5.size)
    have Bu'_w6 := Bu'_w5.trans (hb_w6.mono Bu'_w5.size)
    rw [← hv.out]
    obtain ⟨X, hX⟩ : ∃ X, Hid (X = cmX s u) := ⟨_, hid rfl⟩
    obtain ⟨k1, hk1⟩ : ∃ ok, Hid (ok = cmOk s u) := ⟨_, hid rfl⟩
    obtain ⟨Y, hY⟩ : ∃ Y, Hid (Y = cmX t u) := ⟨_, hid rfl⟩
    obtain ⟨k2, hk2⟩ : ∃ ok, Hid (ok = cmOk t u) := ⟨_, hid rfl⟩
    have ps0 := hs0.out _ Bs_w6
    have ps1 := hs1.out _ Bs_w6
    have ps2 := hs2.out _ Bs_w6
    have pu0 := hu0.out _ Bu_w6
    have pu1 := hu1.out _ Bu_w6
    have pu2 := hu2.out _ Bu_w6
    go_wp2_with fail
    have hc_x := hid (implComposeSystems_any s u As Au cs cu w6 ls1 ls2 lu1 lu2 (hT.out.later BW_w6) (es.out.later BEs_w6) (eu.out.later BEu_w6))
    rw [← hX.out, ← hk1.out] at hc_x
    refine hc_x.out.mono ?_
    clear hc_x
    clear ps0 ps1 ps2 pu0 pu1 pu2
    rintro e w7 hpost
    replace hpost := SoOwn.read hpost
    obtain ⟨Ax, cx, rfl, lx1, lx2, ex3, -, hb_w7⟩ := hpost
    unfold Sy.val
    have BW_w7 := BW_w6.trans (hb_w7.mono BW_w6.size)
    have BEs_w7 := BEs_w6.trans (hb_w7.mono BEs_w6.size)
    have BEt_w7 := BEt_w6.trans (hb_w7.mono BEt_w6.size)
    have Bs_w7 := Bs_w6.trans (hb_w7.mono Bs_w6.size)
    have Bt_w7 := Bt_w6.trans (hb_w7.mono Bt_w6.size)
    have BEu_w7 := BEu_w6.trans (hb_w7.mono BEu_w6.size)
    have BEu'_w7 := BEu'_w6.trans (hb_w7.mono BEu'_w6.size)
    have Bu_w7 := Bu_w6.trans (hb_w7.mono Bu_w6.size)
    have Bu'_w7 := Bu'_w6.trans (hb_w7.mono Bu'_w6.size)
    have ex := hid ex3
    have BEx_w7 : Below w7.heap.size w7 w7 := Below.refl _ _
    clear ex3
    go_upto_region 9 with fail
    obtain ⟨w8, hw_w8, hz_w8, hb_w8, hS_w8⟩ := boxed w7 #[.int .i64 X.al, .int .i64 X.st, .slice Ax X.es.length cx] 25
    rw [hw_w8]
    clear hw_w8
    have hx0 := fun w' (hb : Below w8.heap.size w8 w') => hS_w8 0 _ rfl w' (hb.mono hz_w8)
    have hx1 := fun w' (hb : Below w8.heap.size w8 w') => hS_w8 1 _ rfl w' (hb.mono hz_w8)
    have hx2 := fun w' (hb : Below w8.heap.size w8 w') => hS_w8 2 _ rfl w' (hb.mono hz_w8)
    replace hx0 := hid hx0
    replace hx1 := hid hx1
    replace hx2 := hid hx2
    clear hS_w8
    have BW_w8 := BW_w7.trans (hb_w8.mono BW_w7.size)
    have BEs_w8 := BEs_w7.trans (hb_w8.mono BEs_w7.size)
    have BEt_w8 := BEt_w7.trans (hb_w8.mono BEt_w7.size)
    have Bs_w8 := Bs_w7.trans (hb_w8.mono Bs_w7.size)
    have Bt_w8 := Bt_w7.trans (hb_w8.mono Bt_w7.size)
    have BEu_w8 := BEu_w7.trans (hb_w8.mono BEu_w7.size)
    have BEu'_w8 := BEu'_w7.trans (hb_w8.mono BEu'_w7.size)
    have Bu_w8 := Bu_w7.trans (hb_w8.mono Bu_w7.size)
    have Bu'_w8 := Bu'_w7.trans (hb_w8.mono Bu'_w7.size)
    have BEx_w8 := BEx_w7.trans (hb_w8.mono BEx_w7.size)
    have Bx_w8 : Below w8.heap.size w8 w8 := Below.refl _ _
    have pt0 := ht0.out _ Bt_w8
    have pt1 := ht1.out _ Bt_w8
    have pt2 := ht2.out _ Bt_w8
    have pu0 := hu0.out _ Bu_w8
    have pu1 := hu1.out _ Bu_w8
    have pu2 := hu2.out _ Bu_w8
    go_wp2_with fail
    have hc_y := hid (implComposeSystems_any t u At Au ct cu w8 lt1 lt2 lu1 lu2 (hT.out.later BW_w8) (et.out.later BEt_w8) (eu.out.later BEu_w8))
    rw [← hY.out, ← hk2.out] at hc_y
    refine hc_y.out.mono ?_
    clear hc_y
    clear pt0 pt1 pt2 pu0 pu1 pu2
    rintro e w9 hpost
    replace hpost := SoOwn.read hpost
    obtain ⟨Ay, cy, rfl, ly1, ly2, ey3, -, hb_w9⟩ := hpost
    unfold Sy.val
    have BW_w9 := BW_w8.trans (hb_w9.mono BW_w8.size)
    have BEs_w9 := BEs_w8.trans (hb_w9.mono BEs_w8.size)
    have BEt_w9 := BEt_w8.trans (hb_w9.mono BEt_w8.size)
    have Bs_w9 := Bs_w8.trans (hb_w9.mono Bs_w8.size)
    have Bt_w9 := Bt_w8.trans (hb_w9.mono Bt_w8.size)
    have BEu_w9 := BEu_w8.trans (hb_w9.mono BEu_w8.size)
    have BEu'_w9 := BEu'_w8.trans (hb_w9.mono BEu'_w8.size)
    have Bu_w9 := Bu_w8.trans (hb_w9.mono Bu_w8.size)
    have Bu'_w9 := Bu'_w8.trans (hb_w9.mono Bu'_w8.size)
    have BEx_w9 := BEx_w8.trans (hb_w9.mono BEx_w8.size)
    have Bx_w9 := Bx_w8.trans (hb_w9.mono Bx_w8.size)
    have ey := hid ey3
    have BEy_w9 : Below w9.heap.size w9 w9 := Below.refl _ _
    clear ey3
    go_upto_region 10 with fail
    obtain ⟨w10, hw_w10, hz_w10, hb_w10, hS_w10⟩ := boxed w9 #[.int .i64 Y.al, .int .i64 Y.st, .slice Ay Y.es.length cy] 25
    rw [hw_w10]
    clear hw_w10
    have hy0 := fun w' (hb : Below w10.heap.size w10 w') => hS_w10 0 _ rfl w' (hb.mono hz_w10)
    have hy1 := fun w' (hb : Below w10.heap.size w10 w') => hS_w10 1 _ rfl w' (hb.mono hz_w10)
    have hy2 := fun w' (hb : Below w10.heap.size w10 w') => hS_w10 2 _ rfl w' (hb.mono hz_w10)
    replace hy0 := hid hy0
    replace hy1 := hid hy1
    replace hy2 := hid hy2
    clear hS_w10
    have BW_w10 := BW_w9.trans (hb_w10.mono BW_w9.size)
    have BEs_w10 := BEs_w9.trans (hb_w10.mono BEs_w9.size)
    have BEt_w10 := BEt_w9.trans (hb_w10.mono BEt_w9.size)
    have Bs_w10 := Bs_w9.trans (hb_w10.mono Bs_w9.size)
    have Bt_w10 := Bt_w9.trans (hb_w10.mono Bt_w9.size)
    have BEu_w10 := BEu_w9.trans (hb_w10.mono BEu_w9.size)
    have BEu'_w10 := BEu'_w9.trans (hb_w10.mono BEu'_w9.size)
    have Bu_w10 := Bu_w9.trans (hb_w10.mono Bu_w9.size)
    have Bu'_w10 := Bu'_w9.trans (hb_w10.mono Bu'_w9.size)
    have BEx_w10 := BEx_w9.trans (hb_w10.mono BEx_w9.size)
    have Bx_w10 := Bx_w9.trans (hb_w10.mono Bx_w9.size)
    have BEy_w10 := BEy_w9.trans (hb_w10.mono BEy_w9.size)
    have By_w10 : Below w10.heap.size w10 w10 := Below.refl _ _
    cases k1
    case false =>
      go_wp2_with fail
      go_wp2_with fail
      go_ret
      exact ⟨rfl, BW_w10⟩
    case true =>
      cases k2
      case false =>
        go_wp2_with fail
        go_wp2_with fail
        go_ret
        exact ⟨rfl, BW_w10⟩
      case true =>
        have hw : Hid (withinB X Y = true) := hid (by
          have h1 := hk1.out.symm
          have h2 := hk2.out.symm
          obtain ⟨e1, e2, e3⟩ := cmOk_parts h1
          obtain ⟨f1, f2, f3⟩ := cmOk_parts h2
          rw [hX.out, hY.out, cmX_ok h1, cmX_ok h2]
          exact cm_within hv.out.symm e2 e3 f3)
        have px0 := hx0.out _ Bx_w10
        have px1 := hx1.out _ Bx_w10
        have px2 := hx2.out _ Bx_w10
        have py0 := hy0.out _ By_w10
        have py1 := hy1.out _ By_w10
        have py2 := hy2.out _ By_w10
        go_wp2_with fail
        refine (implTracesWithin_any X Y Ax Ay cx cy w10 lx1 lx2 ly1 ly2 (hT.out.later BW_w10) (ex.out.later BEx_w10) (ey.out.later BEy_w10)).mono ?_
        clear px0 px1 px2 py0 py1 py2
        rintro e w11 ⟨rfl, hb_w11⟩
        have BW_w11 := BW_w10.trans (hb_w11.mono BW_w10.size)
        have BEs_w11 := BEs_w10.trans (hb_w11.mono BEs_w10.size)
        have BEt_w11 := BEt_w10.trans (hb_w11.mono BEt_w10.size)
        have Bs_w11 := Bs_w10.trans (hb_w11.mono Bs_w10.size)
        have Bt_w11 := Bt_w10.trans (hb_w11.mono Bt_w10.size)
        have BEu_w11 := BEu_w10.trans (hb_w11.mono BEu_w10.size)
        have BEu'_w11 := BEu'_w10.trans (hb_w11.mono BEu'_w10.size)
        have Bu_w11 := Bu_w10.trans (hb_w11.mono Bu_w10.size)
        have Bu'_w11 := Bu'_w10.trans (hb_w11.mono Bu'_w10.size)
        have BEx_w11 := BEx_w10.trans (hb_w11.mono BEx_w10.size)
        have Bx_w11 := Bx_w10.trans (hb_w11.mono Bx_w10.size)
        have BEy_w11 := BEy_w10.trans (hb_w11.mono BEy_w10.size)
        have By_w11 := By_w10.trans (hb_w11.mono By_w10.size)
        rw [hw.out]
        go_wp2_with fail
        go_ret
        exact ⟨rfl, BW_w11⟩

end Go.Proofs.YtdkjnemakkppfaaGreatDoor
