/- Lemmas, part 12: several texts in one. -/
import Derived.Test.YtdkjnemakkppfaaGreatDoorU11
import Derived.Test.YtdkjnemakkppfaaGreatDoorU9
import Derived.Test.YtdkjnemakkppfaaGreatDoorU6
import Derived.Test.YtdkjnemakkppfaaGreatDoorU4
import Derived.Test.YtdkjnemakkppfaaGreatDoorU2
import Derived.ProofKit
import Derived.Deep.Slices
import Derived.Deep.Fields
import Derived.ChangeSame
import Derived.Test.YtdkjnemakkppfaaGreatDoorU7
import Derived.ChangeSlices
import Derived.Lib.SmallJoins
set_option linter.unusedSimpArgs false
set_option linter.unusedVariables false

/- The law FnComposeMeet. Printed by tools/gen_r9b.py. -/
namespace Go.Proofs.YtdkjnemakkppfaaGreatDoor
open Go.RowKit Go.BigFrame Go.Maps AG


set_option maxRecDepth 100000 in
set_option maxHeartbeats 16000000 in
theorem FnComposeMeet_any (A : Option Addr) (n c : Nat) (w : World) (hn : n ≤ c) (hc : c ≤ 9223372036854775807) (hT : Tab w) (hx : CodeAt w A n) :
    Calls Tryz.prog 10 #[.slice A n c] w fun e w' => e = .returned (.bool true) ∧ Below w.heap.size w w' := by
  replace hT := hid hT
  replace hx := hid hx
  by_cases hlen : 1048576 < n
  · have hgt : (1048576 : Int) < (n : Int) := by omega
    go_enter Tryz.func10, Tryz.ntmps10
    go_wp2
    go_ret
    exact ⟨rfl, Below.refl _ _⟩
  have hgt : ¬ ((1048576 : Int) < (n : Int)) := by omega
  go_enter Tryz.func10, Tryz.ntmps10
  go_wp2_with fail
  have BW_w : Below w.heap.size w w := Below.refl _ _
  refine (drawComposeSystems_any A n c w hn hc hx.out).mono ?_
  rintro e w1 ⟨s, t, As, At, cs, ct, rfl, ls1, ls2, lt1, lt2, es3, et3, hb_w1⟩
  unfold Sy.val
  have BW_w1 := BW_w.trans (hb_w1.mono BW_w.size)
  have es := hid es3
  have BEs_w1 : Below w1.heap.size w1 w1 := Below.refl _ _
  have et := hid et3
  have BEt_w1 : Below w1.heap.size w1 w1 := Below.refl _ _
  clear es3 et3
  go_upto_region 4 with fail
  obtain ⟨w2, hw_w2, hz_w2, hb_w2, hS_w2, hU_w2⟩ := boxed2 w1 #[.int .i64 s.al, .int .i64 s.st, .slice As s.es.length cs] 25 #[.int .i64 t.al, .int .i64 t.st, .slice At t.es.length ct] 25
  rw [hw_w2]
  clear hw_w2
  have hs0 := fun w' (hb : Below w2.heap.size w2 w') => hS_w2 0 _ rfl w' (hb.mono hz_w2)
  have hs1 := fun w' (hb : Below w2.heap.size w2 w') => hS_w2 1 _ rfl w' (hb.mono hz_w2)
  have hs2 := fun w' (hb : Below w2.heap.size w2 w') => hS_w2 2 _ rfl w' (hb.mono hz_w2)
  replace hs0 := hid hs0
  replace hs1 := hid hs1
  replace hs2 := hid hs2
  have ht0 := fun w' (hb : Below w2.heap.size w2 w') => hU_w2 0 _ rfl w' (hb.mono hz_w2)
  have ht1 := fun w' (hb : Below w2.heap.size w2 w') => hU_w2 1 _ rfl w' (hb.mono hz_w2)
  have ht2 := fun w' (hb : Below w2.heap.size w2 w') => hU_w2 2 _ rfl w' (hb.mono hz_w2)
  replace ht0 := hid ht0
  replace ht1 := hid ht1
  replace ht2 := hid ht2
  clear hS_w2 hU_w2
  have BW_w2 := BW_w1.trans (hb_w2.mono BW_w1.size)
  have BEs_w2 := BEs_w1.trans (hb_w2.mono BEs_w1.size)
  have BEt_w2 := BEt_w1.trans (hb_w2.mono BEt_w1.size)
  have Bs_w2 : Below w2.heap.size w2 w2 := Below.refl _ _
  have Bt_w2 : Below w2.heap.size w2 w2 := Below.refl _ _
  obtain ⟨X, hX⟩ : ∃ X, Hid (X = cmX s t) := ⟨_, hid rfl⟩
  obtain ⟨ok, hok⟩ : ∃ ok, Hid (ok = cmOk s t) := ⟨_, hid rfl⟩
  have ps0 := hs0.out _ Bs_w2
  have ps1 := hs1.out _ Bs_w2
  have ps2 := hs2.out _ Bs_w2
  have pt0 := ht0.out _ Bt_w2
  have pt1 := ht1.out _ Bt_w2
  have pt2 := ht2.out _ Bt_w2
  go_wp2_with fail
  have hc_x := hid (implComposeSystems_any s t As At cs ct w2 ls1 ls2 lt1 lt2 (hT.out.later BW_w2) (es.out.later BEs_w2) (et.out.later BEt_w2))
  rw [← hX.out, ← hok.out] at hc_x
  refine hc_x.out.mono ?_
  clear hc_x
  clear ps0 ps1 ps2 pt0 pt1 pt2
  rintro e w3 hpost
  replace hpost := SoOwn.read hpost
  obtain ⟨Ax, cx, rfl, lx1, lx2, ex3, -, hb_w3⟩ := hpost
  unfold Sy.val
  have BW_w3 := BW_w2.trans (hb_w3.mono BW_w2.size)
  have BEs_w3 := BEs_w2.trans (hb_w3.mono BEs_w2.size)
  have BEt_w3 := BEt_w2.trans (hb_w3.mono BEt_w2.size)
  have Bs_w3 := Bs_w2.trans (hb_w3.mono Bs_w2.size)
  have Bt_w3 := Bt_w2.trans (hb_w3.mono Bt_w2.size)
  have ex := hid ex3
  have BEx_w3 : Below w3.heap.size w3 w3 := Below.refl _ _
  clear ex3
  go_upto_region 5 with fail
  obtain ⟨w4, hw_w4, hz_w4, hb_w4, hS_w4⟩ := boxed w3 #[.int .i64 X.al, .int .i64 X.st, .slice Ax X.es.length cx] 25
  rw [hw_w4]
  clear hw_w4
  have hx0 := fun w' (hb : Below w4.heap.size w4 w') => hS_w4 0 _ rfl w' (hb.mono hz_w4)
  have hx1 := fun w' (hb : Below w4.heap.size w4 w') => hS_w4 1 _ rfl w' (hb.mono hz_w4)
  have hx2 := fun w' (hb : Below w4.heap.size w4 w') => hS_w4 2 _ rfl w' (hb.mono hz_w4)
  replace hx0 := hid hx0
  replace hx1 := hid hx1
  replace hx2 := hid hx2
  clear hS_w4
  have BW_w4 := BW_w3.trans (hb_w4.mono BW_w3.size)
  have BEs_w4 := BEs_w3.trans (hb_w4.mono BEs_w3.size)
  have BEt_w4 := BEt_w3.trans (hb_w4.mono BEt_w3.size)
  have Bs_w4 := Bs_w3.trans (hb_w4.mono Bs_w3.size)
  have Bt_w4 := Bt_w3.trans (hb_w4.mono Bt_w3.size)
  have BEx_w4 := BEx_w3.trans (hb_w4.mono BEx_w3.size)
  have Bx_w4 : Below w4.heap.size w4 w4 := Below.refl _ _
  have ps0 := hs0.out _ Bs_w4
  have ps1 := hs1.out _ Bs_w4
  have ps2 := hs2.out _ Bs_w4
  have pt0 := ht0.out _ Bt_w4
  have pt1 := ht1.out _ Bt_w4
  have pt2 := ht2.out _ Bt_w4
  go_wp2_with fail
  have hc_z := hid (specComposeSystems_any s t As At cs ct w4 ls1 ls2 lt1 lt2 (es.out.later BEs_w4) (et.out.later BEt_w4))
  rw [← hX.out, ← hok.out] at hc_z
  refine hc_z.out.mono ?_
  clear hc_z
  clear ps0 ps1 ps2 pt0 pt1 pt2
  rintro e w5 hpost
  obtain ⟨Az, cz, rfl, lz1, lz2, ez3, -, hb_w5⟩ := hpost
  unfold Sy.val
  have BW_w5 := BW_w4.trans (hb_w5.mono BW_w4.size)
  have BEs_w5 := BEs_w4.trans (hb_w5.mono BEs_w4.size)
  have BEt_w5 := BEt_w4.trans (hb_w5.mono BEt_w4.size)
  have Bs_w5 := Bs_w4.trans (hb_w5.mono Bs_w4.size)
  have Bt_w5 := Bt_w4.trans (hb_w5.mono Bt_w4.size)
  have BEx_w5 := BEx_w4.trans (hb_w5.mono BEx_w4.size)
  have Bx_w5 := Bx_w4.trans (hb_w5.mono Bx_w4.size)
  have ez := hid ez3
  have BEz_w5 : Below w5.heap.size w5 w5 := Below.refl _ _
  clear ez3
  go_upto_region 6 with fail
  obtain ⟨w6, hw_w6, hz_w6, hb_w6, hS_w6⟩ := boxed w5 #[.int .i64 X.al, .int .i64 X.st, .slice Az X.es.length cz] 25
  rw [hw_w6]
  clear hw_w6
  have hz0 := fun w' (hb : Below w6.heap.size w6 w') => hS_w6 0 _ rfl w' (hb.mono hz_w6)
  have hz1 := fun w' (hb : Below w6.heap.size w6 w') => hS_w6 1 _ rfl w' (hb.mono hz_w6)
  have hz2 := fun w' (hb : Below w6.heap.size w6 w') => hS_w6 2 _ rfl w' (hb.mono hz_w6)
  replace hz0 := hid hz0
  replace hz1 := hid hz1
  replace hz2 := hid hz2
  clear hS_w6
  have BW_w6 := BW_w5.trans (hb_w6.mono BW_w5.size)
  have BEs_w6 := BEs_w5.trans (hb_w6.mono BEs_w5.size)
  have BEt_w6 := BEt_w5.trans (hb_w6.mono BEt_w5.size)
  have Bs_w6 := Bs_w5.trans (hb_w6.mono Bs_w5.size)
  have Bt_w6 := Bt_w5.trans (hb_w6.mono Bt_w5.size)
  have BEx_w6 := BEx_w5.trans (hb_w6.mono BEx_w5.size)
  have Bx_w6 := Bx_w5.trans (hb_w6.mono Bx_w5.size)
  have BEz_w6 := BEz_w5.trans (hb_w6.mono BEz_w5.size)
  have Bz_w6 : Below w6.heap.size w6 w6 := Below.refl _ _
  cases ok
  case false =>
    have px0 := hx0.out _ Bx_w6
    have px1 := hx1.out _ Bx_w6
    have px2 := hx2.out _ Bx_w6
    have pz0 := hz0.out _ Bz_w6
    have pz1 := hz1.out _ Bz_w6
    have pz2 := hz2.out _ Bz_w6
    go_wp2_with fail
    refine (agSystems_same X Ax Az cx cz w6 lx1 lx2 lz1 lz2 (ex.out.later BEx_w6) (ez.out.later BEz_w6)).mono ?_
    clear px0 px1 px2 pz0 pz1 pz2
    rintro e w7 ⟨rfl, hb_w7⟩
    have BW_w7 := BW_w6.trans (hb_w7.mono BW_w6.size)
    have BEs_w7 := BEs_w6.trans (hb_w7.mono BEs_w6.size)
    have BEt_w7 := BEt_w6.trans (hb_w7.mono BEt_w6.size)
    have Bs_w7 := Bs_w6.trans (hb_w7.mono Bs_w6.size)
    have Bt_w7 := Bt_w6.trans (hb_w7.mono Bt_w6.size)
    have BEx_w7 := BEx_w6.trans (hb_w7.mono BEx_w6.size)
    have Bx_w7 := Bx_w6.trans (hb_w7.mono Bx_w6.size)
    have BEz_w7 := BEz_w6.trans (hb_w7.mono BEz_w6.size)
    have Bz_w7 := Bz_w6.trans (hb_w7.mono Bz_w6.size)
    have px0 := hx0.out _ Bx_w7
    have px1 := hx1.out _ Bx_w7
    have px2 := hx2.out _ Bx_w7
    have pz0 := hz0.out _ Bz_w7
    have pz1 := hz1.out _ Bz_w7
    have pz2 := hz2.out _ Bz_w7
    go_wp2_with fail
    refine (agSystems_same X Ax Az cx cz w7 lx1 lx2 lz1 lz2 (ex.out.later BEx_w7) (ez.out.later BEz_w7)).mono ?_
    clear px0 px1 px2 pz0 pz1 pz2
    rintro e w8 ⟨rfl, hb_w8⟩
    have BW_w8 := BW_w7.trans (hb_w8.mono BW_w7.size)
    have BEs_w8 := BEs_w7.trans (hb_w8.mono BEs_w7.size)
    have BEt_w8 := BEt_w7.trans (hb_w8.mono BEt_w7.size)
    have Bs_w8 := Bs_w7.trans (hb_w8.mono Bs_w7.size)
    have Bt_w8 := Bt_w7.trans (hb_w8.mono Bt_w7.size)
    have BEx_w8 := BEx_w7.trans (hb_w8.mono BEx_w7.size)
    have Bx_w8 := Bx_w7.trans (hb_w8.mono Bx_w7.size)
    have BEz_w8 := BEz_w7.trans (hb_w8.mono BEz_w7.size)
    have Bz_w8 := Bz_w7.trans (hb_w8.mono Bz_w7.size)
    go_wp2_with fail
    go_ret
    exact ⟨rfl, BW_w8⟩
  case true =>
    have px0 := hx0.out _ Bx_w6
    have px1 := hx1.out _ Bx_w6
    have px2 := hx2.out _ Bx_w6
    have pz0 := hz0.out _ Bz_w6
    have pz1 := hz1.out _ Bz_w6
    have pz2 := hz2.out _ Bz_w6
    go_wp2_with fail
    refine (agSystems_same X Ax Az cx cz w6 lx1 lx2 lz1 lz2 (ex.out.later BEx_w6) (ez.out.later BEz_w6)).mono ?_
    clear px0 px1 px2 pz0 pz1 pz2
    rintro e w7 ⟨rfl, hb_w7⟩
    have BW_w7 := BW_w6.trans (hb_w7.mono BW_w6.size)
    have BEs_w7 := BEs_w6.trans (hb_w7.mono BEs_w6.size)
    have BEt_w7 := BEt_w6.trans (hb_w7.mono BEt_w6.size)
    have Bs_w7 := Bs_w6.trans (hb_w7.mono Bs_w6.size)
    have Bt_w7 := Bt_w6.trans (hb_w7.mono Bt_w6.size)
    have BEx_w7 := BEx_w6.trans (hb_w7.mono BEx_w6.size)
    have Bx_w7 := Bx_w6.trans (hb_w7.mono Bx_w6.size)
    have BEz_w7 := BEz_w6.trans (hb_w7.mono BEz_w6.size)
    have Bz_w7 := Bz_w6.trans (hb_w7.mono Bz_w6.size)
    have hcok : Hid (cmOk s t = true) := hid hok.out.symm
    obtain ⟨a, ha⟩ : ∃ a, Hid (a = prA s s.al) := ⟨_, hid rfl⟩
    obtain ⟨ka, hka⟩ : ∃ k, Hid (k = prK s s.al) := ⟨_, hid rfl⟩
    obtain ⟨b, hb⟩ : ∃ a, Hid (a = prA t t.al) := ⟨_, hid rfl⟩
    obtain ⟨kb, hkb⟩ : ∃ k, Hid (k = prK t t.al) := ⟨_, hid rfl⟩
    obtain ⟨c0, hc'⟩ : ∃ a, Hid (a = prA X X.al) := ⟨_, hid rfl⟩
    obtain ⟨kc, hkc⟩ : ∃ k, Hid (k = prK X X.al) := ⟨_, hid rfl⟩
    obtain ⟨p, hp⟩ : ∃ a', Hid (a' = pdA a b bothF) := ⟨_, hid rfl⟩
    obtain ⟨kp, hkp⟩ : ∃ k, Hid (k = pdK a b bothF) := ⟨_, hid rfl⟩
    have ps0 := hs0.out _ Bs_w7
    have ps1 := hs1.out _ Bs_w7
    have ps2 := hs2.out _ Bs_w7
    go_wp2_with fail
    have hc_a := hid (implDeterminize_any s As cs w7 ls1 ls2 (hT.out.later BW_w7) (es.out.later BEs_w7))
    rw [← ha.out, ← hka.out] at hc_a
    refine hc_a.out.mono ?_
    clear hc_a
    clear ps0 ps1 ps2
    rintro e w8 ⟨hb_w8, v1, v2, xs, rfl, hau⟩
    obtain ⟨Aa, ca, Ba, da, rfl, rfl, ta⟩ := hau.at_
    replace ta := hid ta
    clear hau
    have BW_w8 := BW_w7.trans (hb_w8.mono BW_w7.size)
    have BEs_w8 := BEs_w7.trans (hb_w8.mono BEs_w7.size)
    have BEt_w8 := BEt_w7.trans (hb_w8.mono BEt_w7.size)
    have Bs_w8 := Bs_w7.trans (hb_w8.mono Bs_w7.size)
    have Bt_w8 := Bt_w7.trans (hb_w8.mono Bt_w7.size)
    have BEx_w8 := BEx_w7.trans (hb_w8.mono BEx_w7.size)
    have Bx_w8 := Bx_w7.trans (hb_w8.mono Bx_w7.size)
    have BEz_w8 := BEz_w7.trans (hb_w8.mono BEz_w7.size)
    have Bz_w8 := Bz_w7.trans (hb_w8.mono Bz_w7.size)
    have BTa_w8 : Below w8.heap.size w8 w8 := Below.refl _ _
    go_upto_region 9 with fail
    obtain ⟨w9, hw_w9, hz_w9, hb_w9, hS_w9⟩ := boxed w8 #[.int .i64 a.al, .slice Aa a.nx.length ca, .slice Ba a.ac.length da] 41
    rw [hw_w9]
    clear hw_w9
    have ha0 := fun w' (hb : Below w9.heap.size w9 w') => hS_w9 0 _ rfl w' (hb.mono hz_w9)
    have ha1 := fun w' (hb : Below w9.heap.size w9 w') => hS_w9 1 _ rfl w' (hb.mono hz_w9)
    have ha2 := fun w' (hb : Below w9.heap.size w9 w') => hS_w9 2 _ rfl w' (hb.mono hz_w9)
    replace ha0 := hid ha0
    replace ha1 := hid ha1
    replace ha2 := hid ha2
    clear hS_w9
    have BW_w9 := BW_w8.trans (hb_w9.mono BW_w8.size)
    have BEs_w9 := BEs_w8.trans (hb_w9.mono BEs_w8.size)
    have BEt_w9 := BEt_w8.trans (hb_w9.mono BEt_w8.size)
    have Bs_w9 := Bs_w8.trans (hb_w9.mono Bs_w8.size)
    have Bt_w9 := Bt_w8.trans (hb_w9.mono Bt_w8.size)
    have BEx_w9 := BEx_w8.trans (hb_w9.mono BEx_w8.size)
    have Bx_w9 := Bx_w8.trans (hb_w9.mono Bx_w8.size)
    have BEz_w9 := BEz_w8.trans (hb_w9.mono BEz_w8.size)
    have Bz_w9 := Bz_w8.trans (hb_w9.mono Bz_w8.size)
    have BTa_w9 := BTa_w8.trans (hb_w9.mono BTa_w8.size)
    have Ba_w9 : Below w9.heap.size w9 w9 := Below.refl _ _
    have pt0 := ht0.out _ Bt_w9
    have pt1 := ht1.out _ Bt_w9
    have pt2 := ht2.out _ Bt_w9
    go_wp2_with fail
    have hc_b := hid (implDeterminize_any t At ct w9 lt1 lt2 (hT.out.later BW_w9) (et.out.later BEt_w9))
    rw [← hb.out, ← hkb.out] at hc_b
    refine hc_b.out.mono ?_
    clear hc_b
    clear pt0 pt1 pt2
    rintro e w10 ⟨hb_w10, v1, v2, xs, rfl, hau⟩
    obtain ⟨Ab, cb, Bb, db, rfl, rfl, tb⟩ := hau.at_
    replace tb := hid tb
    clear hau
    have BW_w10 := BW_w9.trans (hb_w10.mono BW_w9.size)
    have BEs_w10 := BEs_w9.trans (hb_w10.mono BEs_w9.size)
    have BEt_w10 := BEt_w9.trans (hb_w10.mono BEt_w9.size)
    have Bs_w10 := Bs_w9.trans (hb_w10.mono Bs_w9.size)
    have Bt_w10 := Bt_w9.trans (hb_w10.mono Bt_w9.size)
    have BEx_w10 := BEx_w9.trans (hb_w10.mono BEx_w9.size)
    have Bx_w10 := Bx_w9.trans (hb_w10.mono Bx_w9.size)
    have BEz_w10 := BEz_w9.trans (hb_w10.mono BEz_w9.size)
    have Bz_w10 := Bz_w9.trans (hb_w10.mono Bz_w9.size)
    have BTa_w10 := BTa_w9.trans (hb_w10.mono BTa_w9.size)
    have Ba_w10 := Ba_w9.trans (hb_w10.mono Ba_w9.size)
    have BTb_w10 : Below w10.heap.size w10 w10 := Below.refl _ _
    go_upto_region 10 with fail
    obtain ⟨w11, hw_w11, hz_w11, hb_w11, hS_w11⟩ := boxed w10 #[.int .i64 b.al, .slice Ab b.nx.length cb, .slice Bb b.ac.length db] 41
    rw [hw_w11]
    clear hw_w11
    have hb0 := fun w' (hb : Below w11.heap.size w11 w') => hS_w11 0 _ rfl w' (hb.mono hz_w11)
    have hb1 := fun w' (hb : Below w11.heap.size w11 w') => hS_w11 1 _ rfl w' (hb.mono hz_w11)
    have hb2 := fun w' (hb : Below w11.heap.size w11 w') => hS_w11 2 _ rfl w' (hb.mono hz_w11)
    replace hb0 := hid hb0
    replace hb1 := hid hb1
    replace hb2 := hid hb2
    clear hS_w11
    have BW_w11 := BW_w10.trans (hb_w11.mono BW_w10.size)
    have BEs_w11 := BEs_w10.trans (hb_w11.mono BEs_w10.size)
    have BEt_w11 := BEt_w10.trans (hb_w11.mono BEt_w10.size)
    have Bs_w11 := Bs_w10.trans (hb_w11.mono Bs_w10.size)
    have Bt_w11 := Bt_w10.trans (hb_w11.mono Bt_w10.size)
    have BEx_w11 := BEx_w10.trans (hb_w11.mono BEx_w10.size)
    have Bx_w11 := Bx_w10.trans (hb_w11.mono Bx_w10.size)
    have BEz_w11 := BEz_w10.trans (hb_w11.mono BEz_w10.size)
    have Bz_w11 := Bz_w10.trans (hb_w11.mono Bz_w10.size)
    have BTa_w11 := BTa_w10.trans (hb_w11.mono BTa_w10.size)
    have Ba_w11 := Ba_w10.trans (hb_w11.mono Ba_w10.size)
    have BTb_w11 := BTb_w10.trans (hb_w11.mono BTb_w10.size)
    have Bb_w11 : Below w11.heap.size w11 w11 := Below.refl _ _
    have pa0 := ha0.out _ Ba_w11
    have pa1 := ha1.out _ Ba_w11
    have pa2 := ha2.out _ Ba_w11
    have pb0 := hb0.out _ Bb_w11
    have pb1 := hb1.out _ Bb_w11
    have pb2 := hb2.out _ Bb_w11
    go_wp2_with fail
    have hc_p := hid (implProductBoth_any a b Aa Ba Ab Bb ca da cb db w11 (ta.out.later BTa_w11) (tb.out.later BTb_w11))
    rw [← hp.out, ← hkp.out] at hc_p
    refine hc_p.out.mono ?_
    clear hc_p
    clear pa0 pa1 pa2 pb0 pb1 pb2
    rintro e w12 ⟨hb_w12, v1, v2, xs, rfl, hau⟩
    obtain ⟨Ap, cp, Bp, dp, rfl, rfl, tp⟩ := hau.at_
    replace tp := hid tp
    clear hau
    have BW_w12 := BW_w11.trans (hb_w12.mono BW_w11.size)
    have BEs_w12 := BEs_w11.trans (hb_w12.mono BEs_w11.size)
    have BEt_w12 := BEt_w11.trans (hb_w12.mono BEt_w11.size)
    have Bs_w12 := Bs_w11.trans (hb_w12.mono Bs_w11.size)
    have Bt_w12 := Bt_w11.trans (hb_w12.mono Bt_w11.size)
    have BEx_w12 := BEx_w11.trans (hb_w12.mono BEx_w11.size)
    have Bx_w12 := Bx_w11.trans (hb_w12.mono Bx_w11.size)
    have BEz_w12 := BEz_w11.trans (hb_w12.mono BEz_w11.size)
    have Bz_w12 := Bz_w11.trans (hb_w12.mono Bz_w11.size)
    have BTa_w12 := BTa_w11.trans (hb_w12.mono BTa_w11.size)
    have Ba_w12 := Ba_w11.trans (hb_w12.mono Ba_w11.size)
    have BTb_w12 := BTb_w11.trans (hb_w12.mono BTb_w11.size)
    have Bb_w12 := Bb_w11.trans (hb_w12.mono Bb_w11.size)
    have BTp_w12 : Below w12.heap.size w12 w12 := Below.refl _ _
    go_upto_region 11 with fail
    obtain ⟨w13, hw_w13, hz_w13, hb_w13, hS_w13⟩ := boxed w12 #[.int .i64 p.al, .slice Ap p.nx.length cp, .slice Bp p.ac.length dp] 41
    rw [hw_w13]
    clear hw_w13
    have hp0 := fun w' (hb : Below w13.heap.size w13 w') => hS_w13 0 _ rfl w' (hb.mono hz_w13)
    have hp1 := fun w' (hb : Below w13.heap.size w13 w') => hS_w13 1 _ rfl w' (hb.mono hz_w13)
    have hp2 := fun w' (hb : Below w13.heap.size w13 w') => hS_w13 2 _ rfl w' (hb.mono hz_w13)
    replace hp0 := hid hp0
    replace hp1 := hid hp1
    replace hp2 := hid hp2
    clear hS_w13
    have BW_w13 := BW_w12.trans (hb_w13.mono BW_w12.size)
    have BEs_w13 := BEs_w12.trans (hb_w13.mono BEs_w12.size)
    have BEt_w13 := BEt_w12.trans (hb_w13.mono BEt_w12.size)
    have Bs_w13 := Bs_w12.trans (hb_w13.mono Bs_w12.size)
    have Bt_w13 := Bt_w12.trans (hb_w13.mono Bt_w12.size)
    have BEx_w13 := BEx_w12.trans (hb_w13.mono BEx_w12.size)
    have Bx_w13 := Bx_w12.trans (hb_w13.mono Bx_w12.size)
    have BEz_w13 := BEz_w12.trans (hb_w13.mono BEz_w12.size)
    have Bz_w13 := Bz_w12.trans (hb_w13.mono Bz_w12.size)
    have BTa_w13 := BTa_w12.trans (hb_w13.mono BTa_w12.size)
    have Ba_w13 := Ba_w12.trans (hb_w13.mono Ba_w12.size)
    have BTb_w13 := BTb_w12.trans (hb_w13.mono BTb_w12.size)
    have Bb_w13 := Bb_w12.trans (hb_w13.mono Bb_w12.size)
    have BTp_w13 := BTp_w12.trans (hb_w13.mono BTp_w12.size)
    have Bp_w13 : Below w13.heap.size w13 w13 := Below.refl _ _
    have px0 := hx0.out _ Bx_w13
    have px1 := hx1.out _ Bx_w13
    have px2 := hx2.out _ Bx_w13
    go_wp2_with fail
    have hc_c := hid (implDeterminize_any X Ax cx w13 lx1 lx2 (hT.out.later BW_w13) (ex.out.later BEx_w13))
    rw [← hc'.out, ← hkc.out] at hc_c
    refine hc_c.out.mono ?_
    clear hc_c
    clear px0 px1 px2
    rintro e w14 ⟨hb_w14, v1, v2, xs, rfl, hau⟩
    obtain ⟨Ac, cc, Bc, dc, rfl, rfl, tc⟩ := hau.at_
    replace tc := hid tc
    clear hau
    have BW_w14 := BW_w13.trans (hb_w14.mono BW_w13.size)
    have BEs_w14 := BEs_w13.trans (hb_w14.mono BEs_w13.size)
    have BEt_w14 := BEt_w13.trans (hb_w14.mono BEt_w13.size)
    have Bs_w14 := Bs_w13.trans (hb_w14.mono Bs_w13.size)
    have Bt_w14 := Bt_w13.trans (hb_w14.mono Bt_w13.size)
    have BEx_w14 := BEx_w13.trans (hb_w14.mono BEx_w13.size)
    have Bx_w14 := Bx_w13.trans (hb_w14.mono Bx_w13.size)
    have BEz_w14 := BEz_w13.trans (hb_w14.mono BEz_w13.size)
    have Bz_w14 := Bz_w13.trans (hb_w14.mono Bz_w13.size)
    have BTa_w14 := BTa_w13.trans (hb_w14.mono BTa_w13.size)
    have Ba_w14 := Ba_w13.trans (hb_w14.mono Ba_w13.size)
    have BTb_w14 := BTb_w13.trans (hb_w14.mono BTb_w13.size)
    have Bb_w14 := Bb_w13.trans (hb_w14.mono Bb_w13.size)
    have BTp_w14 := BTp_w13.trans (hb_w14.mono BTp_w13.size)
    have Bp_w14 := Bp_w13.trans (hb_w14.mono Bp_w13.size)
    have BTc_w14 : Below w14.heap.size w14 w14 := Below.refl _ _
    go_upto_region 12 with fail
    obtain ⟨w15, hw_w15, hz_w15, hb_w15, hS_w15⟩ := boxed w14 #[.int .i64 c0.al, .slice Ac c0.nx.length cc, .slice Bc c0.ac.length dc] 41
    rw [hw_w15]
    clear hw_w15
    have hc0 := fun w' (hb : Below w15.heap.size w15 w') => hS_w15 0 _ rfl w' (hb.mono hz_w15)
    have hc1 := fun w' (hb : Below w15.heap.size w15 w') => hS_w15 1 _ rfl w' (hb.mono hz_w15)
    have hc2 := fun w' (hb : Below w15.heap.size w15 w') => hS_w15 2 _ rfl w' (hb.mono hz_w15)
    replace hc0 := hid hc0
    replace hc1 := hid hc1
    replace hc2 := hid hc2
    clear hS_w15
    have BW_w15 := BW_w14.trans (hb_w15.mono BW_w14.size)
    have BEs_w15 := BEs_w14.trans (hb_w15.mono BEs_w14.size)
    have BEt_w15 := BEt_w14.trans (hb_w15.mono BEt_w14.size)
    have Bs_w15 := Bs_w14.trans (hb_w15.mono Bs_w14.size)
    have Bt_w15 := Bt_w14.trans (hb_w15.mono Bt_w14.size)
    have BEx_w15 := BEx_w14.trans (hb_w15.mono BEx_w14.size)
    have Bx_w15 := Bx_w14.trans (hb_w15.mono Bx_w14.size)
    have BEz_w15 := BEz_w14.trans (hb_w15.mono BEz_w14.size)
    have Bz_w15 := Bz_w14.trans (hb_w15.mono Bz_w14.size)
    have BTa_w15 := BTa_w14.trans (hb_w15.mono BTa_w14.size)
    have Ba_w15 := Ba_w14.trans (hb_w15.mono Ba_w14.size)
    have BTb_w15 := BTb_w14.trans (hb_w15.mono BTb_w14.size)
    have Bb_w15 := Bb_w14.trans (hb_w15.mono Bb_w14.size)
    have BTp_w15 := BTp_w14.trans (hb_w15.mono BTp_w14.size)
    have Bp_w15 := Bp_w14.trans (hb_w15.mono Bp_w14.size)
    have BTc_w15 := BTc_w14.trans (hb_w15.mono BTc_w14.size)
    have Bc_w15 : Below w15.heap.size w15 w15 := Below.refl _ _
    cases ka
    case false =>
      go_wp2_with fail
      go_wp2_with fail
      go_ret
      exact ⟨rfl, BW_w15⟩
    case true =>
      cases kb
      case false =>
        go_wp2_with fail
        go_wp2_with fail
        go_ret
        exact ⟨rfl, BW_w15⟩
      case true =>
        cases kp
        case false =>
          go_wp2_with fail
          go_wp2_with fail
          go_ret
          exact ⟨rfl, BW_w15⟩
        case true =>
          cases kc
          case false =>
            go_wp2_with fail
            go_wp2_with fail
            go_ret
            exact ⟨rfl, BW_w15⟩
          case true =>
            have hsame : Hid (sameLB p c0 = true) := hid (by
              have e1 : X = cmX s t := hX.out
              rw [hp.out, hc'.out, ha.out, hb.out, e1]
              refine cm_meet hcok.out hka.out.symm hkb.out.symm ?_ ?_
              · have := hkp.out.symm
                rw [ha.out, hb.out] at this
                exact this
              · have := hkc.out.symm
                rw [e1] at this
                exact this)
            have pp0 := hp0.out _ Bp_w15
            have pp1 := hp1.out _ Bp_w15
            have pp2 := hp2.out _ Bp_w15
            have pc0 := hc0.out _ Bc_w15
            have pc1 := hc1.out _ Bc_w15
            have pc2 := hc2.out _ Bc_w15
            go_wp2_with fail
            refine (implSameLanguage_any p c0 Ap Bp Ac Bc cp dp cc dc w15 (tp.out.later BTp_w15) (tc.out.later BTc_w15)).mono ?_
            clear pp0 pp1 pp2 pc0 pc1 pc2
            rintro e w16 ⟨rfl, hb_w16⟩
            have BW_w16 := BW_w15.trans (hb_w16.mono BW_w15.size)
            have BEs_w16 := BEs_w15.trans (hb_w16.mono BEs_w15.size)
            have BEt_w16 := BEt_w15.trans (hb_w16.mono BEt_w15.size)
            have Bs_w16 := Bs_w15.trans (hb_w16.mono Bs_w15.size)
            have Bt_w16 := Bt_w15.trans (hb_w16.mono Bt_w15.size)
            have BEx_w16 := BEx_w15.trans (hb_w16.mono BEx_w15.size)
            have Bx_w16 := Bx_w15.trans (hb_w16.mono Bx_w15.size)
            have BEz_w16 := BEz_w15.trans (hb_w16.mono BEz_w15.size)
            have Bz_w16 := Bz_w15.trans (hb_w16.mono Bz_w15.size)
            have BTa_w16 := BTa_w15.trans (hb_w16.mono BTa_w15.size)
            have Ba_w16 := Ba_w15.trans (hb_w16.mono Ba_w15.size)
            have BTb_w16 := BTb_w15.trans (hb_w16.mono BTb_w15.size)
            have Bb_w16 := Bb_w15.trans (hb_w16.mono Bb_w15.size)
            have BTp_w16 := BTp_w15.trans (hb_w16.mono BTp_w15.size)
            have Bp_w16 := Bp_w15.trans (hb_w16.mono Bp_w15.size)
            have BTc_w16 := BTc_w15.trans (hb_w16.mono BTc_w15.size)
            have Bc_w16 := Bc_w15.trans (hb_w16.mono Bc_w15.size)
            rw [hsame.out]
            go_wp2_with fail
            go_ret
            exact ⟨rfl, BW_w16⟩

end Go.Proofs.YtdkjnemakkppfaaGreatDoor

/- How a slice of edges, a system, a slice of systems read as data: opened to cells. -/
namespace AG
open Go Go.RowKit Go.ChangeShapes Go.WideShapes Go.Deep

section
variable {H : Type} {enc : TypeId × Value → H} {P : Program} {w : World} {base : Nat} {spare : Nat → Bool} {held : Bool}
theorem add_at (b o n : Nat) : (⟨b, o, none⟩ : Addr).add n = ⟨b, o + n, none⟩ := by
  unfold Addr.add
  split
  · subst_vars; rfl
  · rfl

end

section
variable {H : Type} {enc : TypeId × Value → H} {P : Program}
/-- An argument reads behind the call as it did. -/
theorem trod_later {t : TypeId} (hl : laidOutB P = true) (hr : P.readableRec t = true) (hrow : t < P.types.size) {W W' : World} {v : Value} {d : DataW H} {ps : List MemPlace} {sp : Nat → Bool}
    (h : DataW.Trod enc P W 0 (fun _ => true) true t v d ps) (hb : Below W.heap.size W W') (hlt : ∀ x ∈ ps, x.block < W.heap.size) (hsp : ∀ x ∈ ps, sp x.block = true) : DataW.Trod enc P W' 0 sp true t v d ps :=
  WideElems.Trod_stays hl hr hrow h (fun x hx => hb.same (hlt x hx)) hsp
/-- The row's last step where of the world behind the call 'Below' is known. -/
theorem post_of_below {f : Func} {s : ChangeSpec} {apart fresh handsOn again : Bool} {W W' : World} {args : Array Value} {v : Value} {ds gs : List (DataW H)} {before pa pv : List MemPlace}
    (hW : DataW.Whole enc P f.params.toList s.vars apart W args.toList ds gs before)
    (hres : ∀ (b : Nat) (sp : Nat → Bool) (hd : Bool), DataW.TrodAll enc P W' b sp hd f.resultTypes.toList (v.resultList f.resultTypes.size) (s.fn H (ds ++ gs)).results [])
    (hargs : ∀ sp : Nat → Bool, (∀ p ∈ before, sp p.block = true) → DataW.TrodAll enc P W' 0 sp true f.params.toList args.toList (s.fn H (ds ++ gs)).args pa)
    (hvars : ∀ sp : Nat → Bool, (∀ p ∈ before, sp p.block = true) → DataW.TrodVars enc P W' sp s.vars (s.fn H (ds ++ gs)).vars pv)
    (hps : before = pa ++ pv) (hb : Below W.heap.size W W')
    (hok : ∀ (j : Nat) (t : TypeId) (r : Value), f.resultTypes[j]? = some t → (v.resultList f.resultTypes.size)[j]? = some r → Value.okWide P W' .any 0 t r) :
    s.post enc P f apart fresh handsOn again W args v W' := by
  have hlt : ∀ p ∈ before, p.block < W.heap.size := fun p hp => hW.lt p hp
  have hold : ∀ p ∈ before, (fun b => decide (b < W.heap.size)) p.block = true := fun p hp => by simpa using hlt p hp
  refine ⟨ds, gs, before, [], pa, pv, hW, hres _ _ _, hargs _ hold, hvars _ hold, World.keptBut_mono (fun p hp => ⟨hp, ?_⟩) (hb.frame (· ∈ before)), fun _ => ?_⟩
  · rw [hps, List.mem_append] at hp
    exact Or.inr hp
  · obtain ⟨_, _, _, _, _, hz, hn⟩ := hW
    refine ⟨hok, _, _, ([] ++ pa) ++ pv, ⟨[] ++ pa, pv, trodAll_append (hargs _ (fun _ _ => rfl)) (hres _ _ _), hvars _ (fun _ _ => rfl), rfl, ?_, ?_⟩, ?_⟩
    · intro b off hp
      have hin : MemPlace.cell b off ∈ before := by rw [hps]; simpa using hp
      rw [hb.frozen (hlt _ hin)]
      exact hz b off hin
    · intro ha
      have := hn ha
      rw [hps] at this
      simpa using this
    · intro p hp _
      rw [hps]
      simpa using hp
end
end AG

/- A slice of bytes that came in. -/
namespace Go.Proofs.YtdkjnemakkppfaaGreatDoor
open Go.RowKit Go.ChangeShapes Go.WideShapes AG

theorem cells_u8 : Tryz.prog.cellsOf 5 = 1 := by kernel_rfl

theorem open_code {H : Type} {enc : TypeId × Value → H} {W : World} {A : Option Addr} {n c fuel : Nat} {x : DataW H × List MemPlace} (h : DataW.trod enc Tryz.prog W 0 (fun _ => true) true fuel 22 [.slice A n c] = some x) :
    n ≤ c ∧ c ≤ 9223372036854775807 ∧ CodeAt W A n := by
  rcases open_ints Tryz.underlying22 Tryz.underlying5 cells_u8 h with ⟨hcs, _⟩ | ⟨a, len, cap, zs, hcs, _, hl, hm, hz, _, hcell, hwf⟩
  · simp only [List.cons.injEq, Value.slice.injEq, and_true] at hcs
    obtain ⟨rfl, rfl, rfl⟩ := hcs
    exact ⟨Nat.le_refl _, by omega, fun h => by omega⟩
  · simp only [List.cons.injEq, Value.slice.injEq, and_true] at hcs
    obtain ⟨rfl, rfl, rfl⟩ := hcs
    unfold maxLen at hm
    simp only [if_true] at hz
    refine ⟨hl, by omega, fun hn => ?_⟩
    obtain ⟨b, o, sp⟩ := a
    have hsp : sp = none := by simpa [Addr.add] using World.cell?_spot (hcell 0 (by omega))
    subst hsp
    refine ⟨b, o, rfl, World.block_lt_of_cell? _ _ (by simpa [Addr.add] using hcell 0 (by omega)), fun i hi => ?_⟩
    have h1 := hcell i (by omega)
    rw [add_at] at h1
    have hmem : zs.getD i 0 ∈ zs := by
      have : i < zs.length := by omega
      rw [List.getD_eq_getElem?_getD, List.getElem?_eq_getElem this]
      exact List.getElem_mem _
    have h2 := hwf _ hmem
    have h3 : 0 ≤ zs.getD i 0 ∧ zs.getD i 0 < 256 := by
      have h4 : IntKind.u8.min ≤ zs.getD i 0 ∧ zs.getD i 0 ≤ IntKind.u8.max := by simpa [Lit.wf] using h2
      have e1 : IntKind.u8.min = 0 := by decide
      have e2 : IntKind.u8.max = 255 := by decide
      omega
    obtain ⟨y, hy⟩ := Int.eq_ofNat_of_zero_le h3.1
    rw [hy] at h1
    exact ⟨y, by omega, h1⟩

end Go.Proofs.YtdkjnemakkppfaaGreatDoor

/- Closed facts on the whole program, each a lemma of its own: the rows of all laws of the seat use them. -/
namespace Go.Proofs.YtdkjnemakkppfaaGreatDoor
open Go.ChangeShapes Go.WideShapes Go.ChangeAt Go.RowKit AG
theorem and2 {a b : Bool} (h : a = true) (k : b = true) : (a && b) = true := by rw [h, k]; rfl
theorem whLaid : laidOutB Tryz.prog = true := by kernel_rfl
theorem whRowed : mapsRowed Tryz.prog = true := by kernel_rfl
theorem whHeard : Tryz.prog.stopsHeard = true := by kernel_rfl
theorem whMay : Tryz.prog.mayEnter = true := by kernel_rfl
theorem whLift : Tryz.prog.liftsFinal = false := by kernel_rfl
theorem whMake : (Tryz.prog.make == some Rows.fnComposeSelfRow.make) = true := by kernel_rfl
theorem whMain : Tryz.prog.mainIs = some (Rows.fnComposeSelfCard.stood.harness.1, Rows.fnComposeSelfCard.stood.harness.2.toList) := by kernel_rfl
theorem whLooks : false = Tryz.prog.looks [] := by kernel_rfl
end Go.Proofs.YtdkjnemakkppfaaGreatDoor
