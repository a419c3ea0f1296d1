/- Lemmas, part 19: several texts in one. -/
import Derived.Test.YtdkjnemakkppfaaGreatDoorY13
import Derived.Test.YtdkjnemakkppfaaGreatDoorY10
import Derived.Test.YtdkjnemakkppfaaGreatDoorY7
import Derived.Test.YtdkjnemakkppfaaGreatDoorY12
import Derived.Test.YtdkjnemakkppfaaGreatDoorY14
set_option linter.unusedSimpArgs false
set_option linter.unusedVariables false

/- The law FnDeadlockCompose. Printed by tools/gen_r9b.py. -/
namespace Go.Proofs.YtdkjnemakkppfaaGreatDoor
open Go.RowKit Go.BigFrame Go.Maps AG


set_option maxRecDepth 100000 in
set_option maxHeartbeats 16000000 in
theorem FnDeadlockCompose_any (A : Option Addr) (n c : Nat) (w : World) (hn : n ≤ c) (hc : c ≤ 9223372036854775807) (hT : Tab w) (hx : CodeAt w A n) :
    Calls Tryz.prog 9 #[.slice A n c] w fun e w' => e = .returned (.bool true) ∧ Below w.heap.size w w' := by
  replace hT := hid hT
  replace hx := hid hx
  by_cases hlen : 1048576 < n
  · have hgt : (1048576 : Int) < (n : Int) := by omega
    go_enter Tryz.func9, Tryz.ntmps9
    go_wp2
    go_ret
    exact ⟨rfl, Below.refl _ _⟩
  have hgt : ¬ ((1048576 : Int) < (n : Int)) := by omega
  go_enter Tryz.func9, Tryz.ntmps9
  go_wp2_with fail
  have BW_w : Below w.heap.size w w := Below.refl _ _
  refine (drawComposeSystems_any A n c w hn hc hx.out).mono ?_
  rintro e w1 ⟨s, t, As, At, cs, ct, rfl, ls1, ls2, lt1, lt2, es3, et3, hb_w1⟩
  unfold Sy.val
  have BW_w1 := BW_w.trans (hb_w1.mono BW_w.size)
  have es := hid es3
  have BEs_w1 : Below w1.heap.size w1 w1 := Below.refl _ _
  have et := hid et3
  have BEt_w1 : Below w1.heap.size w1 w1 := Below.refl _ _
  clear es3 et3
  go_upto_region 4 with fail
  obtain ⟨w2, hw_w2, hz_w2, hb_w2, hS_w2, hU_w2⟩ := boxed2 w1 #[.int .i64 s.al, .int .i64 s.st, .slice As s.es.length cs] 25 #[.int .i64 t.al, .int .i64 t.st, .slice At t.es.length ct] 25
  rw [hw_w2]
  clear hw_w2
  have hs0 := fun w' (hb : Below w2.heap.size w2 w') => hS_w2 0 _ rfl w' (hb.mono hz_w2)
  have hs1 := fun w' (hb : Below w2.heap.size w2 w') => hS_w2 1 _ rfl w' (hb.mono hz_w2)
  have hs2 := fun w' (hb : Below w2.heap.size w2 w') => hS_w2 2 _ rfl w' (hb.mono hz_w2)
  replace hs0 := hid hs0
  replace hs1 := hid hs1
  replace hs2 := hid hs2
  have ht0 := fun w' (hb : Below w2.heap.size w2 w') => hU_w2 0 _ rfl w' (hb.mono hz_w2)
  have ht1 := fun w' (hb : Below w2.heap.size w2 w') => hU_w2 1 _ rfl w' (hb.mono hz_w2)
  have ht2 := fun w' (hb : Below w2.heap.size w2 w') => hU_w2 2 _ rfl w' (hb.mono hz_w2)
  replace ht0 := hid ht0
  replace ht1 := hid ht1
  replace ht2 := hid ht2
  clear hS_w2 hU_w2
  have BW_w2 := BW_w1.trans (hb_w2.mono BW_w1.size)
  have BEs_w2 := BEs_w1.trans (hb_w2.mono BEs_w1.size)
  have BEt_w2 := BEt_w1.trans (hb_w2.mono BEt_w1.size)
  have Bs_w2 : Below w2.heap.size w2 w2 := Below.refl _ _
  have Bt_w2 : Below w2.heap.size w2 w2 := Below.refl _ _
  obtain ⟨X, hX⟩ : ∃ X, Hid (X = cmX s t) := ⟨_, hid rfl⟩
  obtain ⟨ok, hok⟩ : ∃ ok, Hid (ok = cmOk s t) := ⟨_, hid rfl⟩
  have ps0 := hs0.out _ Bs_w2
  have ps1 := hs1.out _ Bs_w2
  have ps2 := hs2.out _ Bs_w2
  have pt0 := ht0.out _ Bt_w2
  have pt1 := ht1.out _ Bt_w2
  have pt2 := ht2.out _ Bt_w2
  go_wp2_with fail
  have hc_x := hid (implComposeSystems_any s t As At cs ct w2 ls1 ls2 lt1 lt2 (hT.out.later BW_w2) (es.out.later BEs_w2) (et.out.later BEt_w2))
  rw [← hX.out, ← hok.out] at hc_x
  refine hc_x.out.mono ?_
  clear hc_x
  clear ps0 ps1 ps2 pt0 pt1 pt2
  rintro e w3 hpost
  replace hpost := SoOwn.read hpost
  obtain ⟨Ax, cx, rfl, lx1, lx2, ex3, -, hb_w3⟩ := hpost
  unfold Sy.val
  have BW_w3 := BW_w2.trans (hb_w3.mono BW_w2.size)
  have BEs_w3 := BEs_w2.trans (hb_w3.mono BEs_w2.size)
  have BEt_w3 := BEt_w2.trans (hb_w3.mono BEt_w2.size)
  have Bs_w3 := Bs_w2.trans (hb_w3.mono Bs_w2.size)
  have Bt_w3 := Bt_w2.trans (hb_w3.mono Bt_w2.size)
  have ex := hid ex3
  have BEx_w3 : Below w3.heap.size w3 w3 := Below.refl _ _
  clear ex3
  go_upto_region 5 with fail
  obtain ⟨w4, hw_w4, hz_w4, hb_w4, hS_w4⟩ := boxed w3 #[.int .i64 X.al, .int .i64 X.st, .slice Ax X.es.length cx] 25
  rw [hw_w4]
  clear hw_w4
  have hx0 := fun w' (hb : Below w4.heap.size w4 w') => hS_w4 0 _ rfl w' (hb.mono hz_w4)
  have hx1 := fun w' (hb : Below w4.heap.size w4 w') => hS_w4 1 _ rfl w' (hb.mono hz_w4)
  have hx2 := fun w' (hb : Below w4.heap.size w4 w') => hS_w4 2 _ rfl w' (hb.mono hz_w4)
  replace hx0 := hid hx0
  replace hx1 := hid hx1
  replace hx2 := hid hx2
  clear hS_w4
  have BW_w4 := BW_w3.trans (hb_w4.mono BW_w3.size)
  have BEs_w4 := BEs_w3.trans (hb_w4.mono BEs_w3.size)
  have BEt_w4 := BEt_w3.trans (hb_w4.mono BEt_w3.size)
  have Bs_w4 := Bs_w3.trans (hb_w4.mono Bs_w3.size)
  have Bt_w4 := Bt_w3.trans (hb_w4.mono Bt_w3.size)
  have BEx_w4 := BEx_w3.trans (hb_w4.mono BEx_w3.size)
  have Bx_w4 : Below w4.heap.size w4 w4 := Below.refl _ _
  have ps0 := hs0.out _ Bs_w4
  have ps1 := hs1.out _ Bs_w4
  have ps2 := hs2.out _ Bs_w4
  have pt0 := ht0.out _ Bt_w4
  have pt1 := ht1.out _ Bt_w4
  have pt2 := ht2.out _ Bt_w4
  go_wp2_with fail
  have hc_z := hid (specComposeSystems_any s t As At cs ct w4 ls1 ls2 lt1 lt2 (es.out.later BEs_w4) (et.out.later BEt_w4))
  rw [← hX.out, ← hok.out] at hc_z
  refine hc_z.out.mono ?_
  clear hc_z
  clear ps0 ps1 ps2 pt0 pt1 pt2
  rintro e w5 hpost
  obtain ⟨Az, cz, rfl, lz1, lz2, ez3, -, hb_w5⟩ := hpost
  unfold Sy.val
  have BW_w5 := BW_w4.trans (hb_w5.mono BW_w4.size)
  have BEs_w5 := BEs_w4.trans (hb_w5.mono BEs_w4.size)
  have BEt_w5 := BEt_w4.trans (hb_w5.mono BEt_w4.size)
  have Bs_w5 := Bs_w4.trans (hb_w5.mono Bs_w4.size)
  have Bt_w5 := Bt_w4.trans (hb_w5.mono Bt_w4.size)
  have BEx_w5 := BEx_w4.trans (hb_w5.mono BEx_w4.size)
  have Bx_w5 := Bx_w4.trans (hb_w5.mono Bx_w4.size)
  have ez := hid ez3
  have BEz_w5 : Below w5.heap.size w5 w5 := Below.refl _ _
  clear ez3
  go_upto_region 6 with fail
  obtain ⟨w6, hw_w6, hz_w6, hb_w6, hS_w6⟩ := boxed w5 #[.int .i64 X.al, .int .i64 X.st, .slice Az X.es.length cz] 25
  rw [hw_w6]
  clear hw_w6
  have hz0 := fun w' (hb : Below w6.heap.size w6 w') => hS_w6 0 _ rfl w' (hb.mono hz_w6)
  have hz1 := fun w' (hb : Below w6.heap.size w6 w') => hS_w6 1 _ rfl w' (hb.mono hz_w6)
  have hz2 := fun w' (hb : Below w6.heap.size w6 w') => hS_w6 2 _ rfl w' (hb.mono hz_w6)
  replace hz0 := hid hz0
  replace hz1 := hid hz1
  replace hz2 := hid hz2
  clear hS_w6
  have BW_w6 := BW_w5.trans (hb_w6.mono BW_w5.size)
  have BEs_w6 := BEs_w5.trans (hb_w6.mono BEs_w5.size)
  have BEt_w6 := BEt_w5.trans (hb_w6.mono BEt_w5.size)
  have Bs_w6 := Bs_w5.trans (hb_w6.mono Bs_w5.size)
  have Bt_w6 := Bt_w5.trans (hb_w6.mono Bt_w5.size)
  have BEx_w6 := BEx_w5.trans (hb_w6.mono BEx_w5.size)
  have Bx_w6 := Bx_w5.trans (hb_w6.mono Bx_w5.size)
  have BEz_w6 := BEz_w5.trans (hb_w6.mono BEz_w5.size)
  have Bz_w6 : Below w6.heap.size w6 w6 := Below.refl _ _
  cases ok
  case false =>
    have px0 := hx0.out _ Bx_w6
    have px1 := hx1.out _ Bx_w6
    have px2 := hx2.out _ Bx_w6
    have pz0 := hz0.out _ Bz_w6
    have pz1 := hz1.out _ Bz_w6
    have pz2 := hz2.out _ Bz_w6
    go_wp2_with fail
    refine (agSystems_same X Ax Az cx cz w6 lx1 lx2 lz1 lz2 (ex.out.later BEx_w6) (ez.out.later BEz_w6)).mono ?_
    clear px0 px1 px2 pz0 pz1 pz2
    rintro e w7 ⟨rfl, hb_w7⟩
    have BW_w7 := BW_w6.trans (hb_w7.mono BW_w6.size)
    have BEs_w7 := BEs_w6.trans (hb_w7.mono BEs_w6.size)
    have BEt_w7 := BEt_w6.trans (hb_w7.mono BEt_w6.size)
    have Bs_w7 := Bs_w6.trans (hb_w7.mono Bs_w6.size)
    have Bt_w7 := Bt_w6.trans (hb_w7.mono Bt_w6.size)
    have BEx_w7 := BEx_w6.trans (hb_w7.mono BEx_w6.size)
    have Bx_w7 := Bx_w6.trans (hb_w7.mono Bx_w6.size)
    have BEz_w7 := BEz_w6.trans (hb_w7.mono BEz_w6.size)
    have Bz_w7 := Bz_w6.trans (hb_w7.mono Bz_w6.size)
    have px0 := hx0.out _ Bx_w7
    have px1 := hx1.out _ Bx_w7
    have px2 := hx2.out _ Bx_w7
    have pz0 := hz0.out _ Bz_w7
    have pz1 := hz1.out _ Bz_w7
    have pz2 := hz2.out _ Bz_w7
    go_wp2_with fail
    refine (agSystems_same X Ax Az cx cz w7 lx1 lx2 lz1 lz2 (ex.out.later BEx_w7) (ez.out.later BEz_w7)).mono ?_
    clear px0 px1 px2 pz0 pz1 pz2
    rintro e w8 ⟨rfl, hb_w8⟩
    have BW_w8 := BW_w7.trans (hb_w8.mono BW_w7.size)
    have BEs_w8 := BEs_w7.trans (hb_w8.mono BEs_w7.size)
    have BEt_w8 := BEt_w7.trans (hb_w8.mono BEt_w7.size)
    have Bs_w8 := Bs_w7.trans (hb_w8.mono Bs_w7.size)
    have Bt_w8 := Bt_w7.trans (hb_w8.mono Bt_w7.size)
    have BEx_w8 := BEx_w7.trans (hb_w8.mono BEx_w7.size)
    have Bx_w8 := Bx_w7.trans (hb_w8.mono Bx_w7.size)
    have BEz_w8 := BEz_w7.trans (hb_w8.mono BEz_w7.size)
    have Bz_w8 := Bz_w7.trans (hb_w8.mono Bz_w7.size)
    go_wp2_with fail
    go_ret
    exact ⟨rfl, BW_w8⟩
  case true =>
    have px0 := hx0.out _ Bx_w6
    have px1 := hx1.out _ Bx_w6
    have px2 := hx2.out _ Bx_w6
    have pz0 := hz0.out _ Bz_w6
    have pz1 := hz1.out _ Bz_w6
    have pz2 := hz2.out _ Bz_w6
    go_wp2_with fail
    refine (agSystems_same X Ax Az cx cz w6 lx1 lx2 lz1 lz2 (ex.out.later BEx_w6) (ez.out.later BEz_w6)).mono ?_
    clear px0 px1 px2 pz0 pz1 pz2
    rintro e w7 ⟨rfl, hb_w7⟩
    have BW_w7 := BW_w6.trans (hb_w7.mono BW_w6.size)
    have BEs_w7 := BEs_w6.trans (hb_w7.mono BEs_w6.size)
    have BEt_w7 := BEt_w6.trans (hb_w7.mono BEt_w6.size)
    have Bs_w7 := Bs_w6.trans (hb_w7.mono Bs_w6.size)
    have Bt_w7 := Bt_w6.trans (hb_w7.mono Bt_w6.size)
    have BEx_w7 := BEx_w6.trans (hb_w7.mono BEx_w6.size)
    have Bx_w7 := Bx_w6.trans (hb_w7.mono Bx_w6.size)
    have BEz_w7 := BEz_w6.trans (hb_w7.mono BEz_w6.size)
    have Bz_w7 := Bz_w6.trans (hb_w7.mono Bz_w6.size)
    have hcok : Hid (cmOk s t = true) := hid hok.out.symm
    obtain ⟨wla, hw_wla⟩ : ∃ w', w7.alloc (.cells #[.int .i64 s.al, .int .i64 s.st, .slice As s.es.length cs, .int .i64 t.al, .int .i64 t.st, .slice At t.es.length ct] 25) = w' := ⟨_, rfl⟩
    have hb_wla : Below w7.heap.size w7 wla := by rw [← hw_wla]; exact (Below.refl _ _).alloc (Nat.le_refl _) _
    obtain ⟨gla, hg_a⟩ : ∃ g, g = w7.heap.size := ⟨_, rfl⟩
    have hk_wla : Blk wla gla 25 #[.int .i64 s.al, .int .i64 s.st, .slice As s.es.length cs, .int .i64 t.al, .int .i64 t.st, .slice At t.es.length ct] := by rw [← hw_wla, hg_a]; exact Blk.new _ _ _
    have hL_a := hid (two_at hk_wla ls1 ls2 lt1 lt2 ((es.out.later BEs_w7).later hb_wla) ((et.out.later BEt_w7).later hb_wla))
    clear hk_wla
    replace hg_a := hid hg_a
    have hcall := hid (show Calls Tryz.prog 30 #[.slice (some ⟨gla, 0, none⟩) 2 2] wla (DeadPost [s, t] wla) from implDeadlockOf_any [s, t] (some ⟨gla, 0, none⟩) 2 wla (Nat.le_refl _) (by omega) (hT.out.later (BW_w7.trans (hb_wla.mono BW_w7.size))) hL_a.out)
    have ps0 := hs0.out _ Bs_w7
    have ps1 := hs1.out _ Bs_w7
    have ps2 := hs2.out _ Bs_w7
    have pt0 := ht0.out _ Bt_w7
    have pt1 := ht1.out _ Bt_w7
    have pt2 := ht2.out _ Bt_w7
    go_wp2_with fail
    clear ps0 ps1 ps2 pt0 pt1 pt2
    try rw [hw_wla]
    try rw [← hg_a.out]
    clear hw_wla
    have BW_wla := BW_w7.trans (hb_wla.mono BW_w7.size)
    have BEs_wla := BEs_w7.trans (hb_wla.mono BEs_w7.size)
    have BEt_wla := BEt_w7.trans (hb_wla.mono BEt_w7.size)
    have Bs_wla := Bs_w7.trans (hb_wla.mono Bs_w7.size)
    have Bt_wla := Bt_w7.trans (hb_wla.mono Bt_w7.size)
    have BEx_wla := BEx_w7.trans (hb_wla.mono BEx_w7.size)
    have Bx_wla := Bx_w7.trans (hb_wla.mono Bx_w7.size)
    have BEz_wla := BEz_w7.trans (hb_wla.mono BEz_w7.size)
    have Bz_wla := Bz_w7.trans (hb_wla.mono Bz_w7.size)
    refine hcall.out.mono ?_
    clear hcall
    rintro e w8 ⟨o, rfl, ho1, ho2, hb_w8⟩
    obtain ⟨Sv, Fv, hpv⟩ : ∃ Sv Fv, pathV o = .tuple #[.string Sv, .bool Fv] := by cases o <;> exact ⟨_, _, rfl⟩
    rw [hpv]
    replace hpv := hid hpv
    replace ho1 := hid ho1
    clear ho2
    have BW_w8 := BW_wla.trans (hb_w8.mono BW_wla.size)
    have BEs_w8 := BEs_wla.trans (hb_w8.mono BEs_wla.size)
    have BEt_w8 := BEt_wla.trans (hb_w8.mono BEt_wla.size)
    have Bs_w8 := Bs_wla.trans (hb_w8.mono Bs_wla.size)
    have Bt_w8 := Bt_wla.trans (hb_w8.mono Bt_wla.size)
    have BEx_w8 := BEx_wla.trans (hb_w8.mono BEx_wla.size)
    have Bx_w8 := Bx_wla.trans (hb_w8.mono Bx_wla.size)
    have BEz_w8 := BEz_wla.trans (hb_w8.mono BEz_wla.size)
    have Bz_w8 := Bz_wla.trans (hb_w8.mono Bz_wla.size)
    obtain ⟨wlb, hw_wlb⟩ : ∃ w', w8.alloc (.cells #[.int .i64 X.al, .int .i64 X.st, .slice Ax X.es.length cx] 25) = w' := ⟨_, rfl⟩
    have hb_wlb : Below w8.heap.size w8 wlb := by rw [← hw_wlb]; exact (Below.refl _ _).alloc (Nat.le_refl _) _
    obtain ⟨glb, hg_b⟩ : ∃ g, g = w8.heap.size := ⟨_, rfl⟩
    have hk_wlb : Blk wlb glb 25 #[.int .i64 X.al, .int .i64 X.st, .slice Ax X.es.length cx] := by rw [← hw_wlb, hg_b]; exact Blk.new _ _ _
    have hL_b := hid (one_at hk_wlb lx1 lx2 ((ex.out.later BEx_w8).later hb_wlb))
    clear hk_wlb
    replace hg_b := hid hg_b
    have hcall := hid (show Calls Tryz.prog 30 #[.slice (some ⟨glb, 0, none⟩) 1 1] wlb (DeadPost [X] wlb) from implDeadlockOf_any [X] (some ⟨glb, 0, none⟩) 1 wlb (Nat.le_refl _) (by omega) (hT.out.later (BW_w8.trans (hb_wlb.mono BW_w8.size))) hL_b.out)
    have px0 := hx0.out _ Bx_w8
    have px1 := hx1.out _ Bx_w8
    have px2 := hx2.out _ Bx_w8
    go_wp2_with fail
    clear px0 px1 px2
    try rw [hw_wlb]
    try rw [← hg_b.out]
    clear hw_wlb
    have BW_wlb := BW_w8.trans (hb_wlb.mono BW_w8.size)
    have BEs_wlb := BEs_w8.trans (hb_wlb.mono BEs_w8.size)
    have BEt_wlb := BEt_w8.trans (hb_wlb.mono BEt_w8.size)
    have Bs_wlb := Bs_w8.trans (hb_wlb.mono Bs_w8.size)
    have Bt_wlb := Bt_w8.trans (hb_wlb.mono Bt_w8.size)
    have BEx_wlb := BEx_w8.trans (hb_wlb.mono BEx_w8.size)
    have Bx_wlb := Bx_w8.trans (hb_wlb.mono Bx_w8.size)
    have BEz_wlb := BEz_w8.trans (hb_wlb.mono BEz_w8.size)
    have Bz_wlb := Bz_w8.trans (hb_wlb.mono Bz_w8.size)
    refine hcall.out.mono ?_
    clear hcall
    rintro e w9 ⟨o', rfl, ho3, ho4, hb_w9⟩
    obtain rfl : o = o' := by
      obtain ⟨h1, h2, h3⟩ := cmOk_parts hcok.out
      have k1 := ho1.out (parts_two h1 h2)
      have k2 := ho3 (parts_one (by rw [hX.out]; exact cmX_sys hcok.out))
      have k3 := dead_cm (all_two h1 h2) h3 k1
      have e : X = cmSy [s, t] := by rw [hX.out, cmX_ok hcok.out]
      rw [e] at k2
      exact PathPost_unique k3 k2
    rw [hpv.out]
    clear ho3 ho4
    have BW_w9 := BW_wlb.trans (hb_w9.mono BW_wlb.size)
    have BEs_w9 := BEs_wlb.trans (hb_w9.mono BEs_wlb.size)
    have BEt_w9 := BEt_wlb.trans (hb_w9.mono BEt_wlb.size)
    have Bs_w9 := Bs_wlb.trans (hb_w9.mono Bs_wlb.size)
    have Bt_w9 := Bt_wlb.trans (hb_w9.mono Bt_wlb.size)
    have BEx_w9 := BEx_wlb.trans (hb_w9.mono BEx_wlb.size)
    have Bx_w9 := Bx_wlb.trans (hb_w9.mono Bx_wlb.size)
    have BEz_w9 := BEz_wlb.trans (hb_w9.mono BEz_wlb.size)
    have Bz_w9 := Bz_wlb.trans (hb_w9.mono Bz_wlb.size)
    have hse : (Sv.data.toList == Sv.data.toList) = true := by simp
    cases Fv
    case false =>
      go_wp2_with fail
      go_ret
      exact ⟨rfl, BW_w9⟩
    case true =>
      go_wp2_with fail
      go_ret
      exact ⟨rfl, BW_w9⟩

end Go.Proofs.YtdkjnemakkppfaaGreatDoor
