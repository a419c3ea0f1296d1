/- Lemmas, part 20: several texts in one. -/
import Derived.Test.YtdkjnemakkppfaaGreatDoorY16
import Derived.Test.YtdkjnemakkppfaaGreatDoorY11
import Derived.Test.YtdkjnemakkppfaaGreatDoorY4
import Derived.Test.YtdkjnemakkppfaaGreatDoorY13
import Derived.Test.YtdkjnemakkppfaaGreatDoorY10
import Derived.Test.YtdkjnemakkppfaaGreatDoorY7
set_option linter.unusedSimpArgs false
set_option linter.unusedVariables false

/- The law FnPartsAlphabet. -/
namespace Go.Proofs.YtdkjnemakkppfaaGreatDoor
open Go.RowKit Go.BigFrame AG

/-- One system of a list is a list. -/
theorem SysAt.one {w : World} {B b o : Nat} {ss : List Sy} (h : SysAt w B (some ⟨b, o, none⟩) ss) {i : Nat} (hi : i < ss.length) : SysAt w B (some ⟨b, o + i * 3, none⟩) [ss[i]] := fun _ => by
  obtain ⟨b', o', hA, hb, hE⟩ := h (by omega)
  cases hA
  refine ⟨b, o + i * 3, rfl, hb, fun j hj => ?_⟩
  obtain rfl : j = 0 := by simpa using hj
  simpa using hE i hi

end Go.Proofs.YtdkjnemakkppfaaGreatDoor

/- The law FnSharedLetters. -/
namespace Go.Proofs.YtdkjnemakkppfaaGreatDoor
open Go.RowKit Go.BigFrame AG

set_option maxHeartbeats 400000 in
theorem agHas_any (a n : Int) (w : World) (h0 : 0 ≤ n) (h1 : n ≤ 63) :
    Calls Tryz.prog 27 #[.int .i64 a, .int .i64 n] w fun e w' => e = .returned (.bool (Has a n.toNat)) ∧ w = w' := by
  go_enter Tryz.func27, Tryz.ntmps27
  go_wp2
  go_ret
  exact ⟨ret_bool (and_one_has _ _), rfl⟩

end Go.Proofs.YtdkjnemakkppfaaGreatDoor

/- The law FnComposeNeutral. Printed by tools/gen_r9c.py. -/
namespace Go.Proofs.YtdkjnemakkppfaaGreatDoor
open Go.RowKit Go.BigFrame Go.Maps AG

def freeEd (l : Nat) : Ed := ⟨0, (l : Int), 0⟩
theorem freeSy_es (al : Int) : (freeSy al).es = (lettersTo al 6).map freeEd := rfl

set_option maxRecDepth 100000 in
set_option maxHeartbeats 16000000 in
theorem FnComposeNeutral_any (A : Option Addr) (n c : Nat) (w : World) (hn : n ≤ c) (hc : c ≤ 9223372036854775807) (hT : Tab w) (hx : CodeAt w A n) :
    Calls Tryz.prog 6 #[.slice A n c] w fun e w' => e = .returned (.bool true) ∧ Below w.heap.size w w' := by
  replace hT := hid hT
  replace hx := hid hx
  by_cases hlen : 1048576 < n
  · have hgt : (1048576 : Int) < (n : Int) := by omega
    go_enter Tryz.func6, Tryz.ntmps6
    go_wp2
    go_ret
    exact ⟨rfl, Below.refl _ _⟩
  have hgt : ¬ ((1048576 : Int) < (n : Int)) := by omega
  go_enter Tryz.func6, Tryz.ntmps6
  go_wp2_with fail
  have BW_w : Below w.heap.size w w := Below.refl _ _
  refine (drawComposeSystems_any A n c w hn hc hx.out).mono ?_
  rintro e w1 ⟨s, t, As, At, cs, ct, rfl, ls1, ls2, lt1, lt2, es3, et3, hb_w1⟩
  unfold Sy.val
  have BW_w1 := BW_w.trans (hb_w1.mono BW_w.size)
  have es := hid es3
  have BEs_w1 : Below w1.heap.size w1 w1 := Below.refl _ _
  have et := hid et3
  have BEt_w1 : Below w1.heap.size w1 w1 := Below.refl _ _
  clear es3 et3
  go_upto_region 4 with fail
  obtain ⟨w2, hw_w2, hz_w2, hb_w2, hS_w2, hU_w2⟩ := boxed2 w1 #[.int .i64 s.al, .int .i64 s.st, .slice As s.es.length cs] 25 #[.int .i64 t.al, .int .i64 t.st, .slice At t.es.length ct] 25
  rw [hw_w2]
  clear hw_w2
  have hs0 := fun w' (hb : Below w2.heap.size w2 w') => hS_w2 0 _ rfl w' (hb.mono hz_w2)
  have hs1 := fun w' (hb : Below w2.heap.size w2 w') => hS_w2 1 _ rfl w' (hb.mono hz_w2)
  have hs2 := fun w' (hb : Below w2.heap.size w2 w') => hS_w2 2 _ rfl w' (hb.mono hz_w2)
  replace hs0 := hid hs0
  replace hs1 := hid hs1
  replace hs2 := hid hs2
  have ht0 := fun w' (hb : Below w2.heap.size w2 w') => hU_w2 0 _ rfl w' (hb.mono hz_w2)
  have ht1 := fun w' (hb : Below w2.heap.size w2 w') => hU_w2 1 _ rfl w' (hb.mono hz_w2)
  have ht2 := fun w' (hb : Below w2.heap.size w2 w') => hU_w2 2 _ rfl w' (hb.mono hz_w2)
  replace ht0 := hid ht0
  replace ht1 := hid ht1
  replace ht2 := hid ht2
  clear hS_w2 hU_w2
  have BW_w2 := BW_w1.trans (hb_w2.mono BW_w1.size)
  have BEs_w2 := BEs_w1.trans (hb_w2.mono BEs_w1.size)
  have BEt_w2 := BEt_w1.trans (hb_w2.mono BEt_w1.size)
  have Bs_w2 : Below w2.heap.size w2 w2 := Below.refl _ _
  have Bt_w2 : Below w2.heap.size w2 w2 := Below.refl _ _
  obtain ⟨X, hX⟩ : ∃ X, Hid (X = cmX s t) := ⟨_, hid rfl⟩
  obtain ⟨ok, hok⟩ : ∃ ok, Hid (ok = cmOk s t) := ⟨_, hid rfl⟩
  have ps0 := hs0.out _ Bs_w2
  have ps1 := hs1.out _ Bs_w2
  have ps2 := hs2.out _ Bs_w2
  have pt0 := ht0.out _ Bt_w2
  have pt1 := ht1.out _ Bt_w2
  have pt2 := ht2.out _ Bt_w2
  go_wp2_with fail
  have hc_x := hid (implComposeSystems_any s t As At cs ct w2 ls1 ls2 lt1 lt2 (hT.out.later BW_w2) (es.out.later BEs_w2) (et.out.later BEt_w2))
  rw [← hX.out, ← hok.out] at hc_x
  refine hc_x.out.mono ?_
  clear hc_x
  clear ps0 ps1 ps2 pt0 pt1 pt2
  rintro e w3 hpost
  replace hpost := SoOwn.read hpost
  obtain ⟨Ax, cx, rfl, lx1, lx2, ex3, -, hb_w3⟩ := hpost
  unfold Sy.val
  have BW_w3 := BW_w2.trans (hb_w3.mono BW_w2.size)
  have BEs_w3 := BEs_w2.trans (hb_w3.mono BEs_w2.size)
  have BEt_w3 := BEt_w2.trans (hb_w3.mono BEt_w2.size)
  have Bs_w3 := Bs_w2.trans (hb_w3.mono Bs_w2.size)
  have Bt_w3 := Bt_w2.trans (hb_w3.mono Bt_w2.size)
  have ex := hid ex3
  have BEx_w3 : Below w3.heap.size w3 w3 := Below.refl _ _
  clear ex3
  go_upto_region 5 with fail
  obtain ⟨w4, hw_w4, hz_w4, hb_w4, hS_w4⟩ := boxed w3 #[.int .i64 X.al, .int .i64 X.st, .slice Ax X.es.length cx] 25
  rw [hw_w4]
  clear hw_w4
  have hx0 := fun w' (hb : Below w4.heap.size w4 w') => hS_w4 0 _ rfl w' (hb.mono hz_w4)
  have hx1 := fun w' (hb : Below w4.heap.size w4 w') => hS_w4 1 _ rfl w' (hb.mono hz_w4)
  have hx2 := fun w' (hb : Below w4.heap.size w4 w') => hS_w4 2 _ rfl w' (hb.mono hz_w4)
  replace hx0 := hid hx0
  replace hx1 := hid hx1
  replace hx2 := hid hx2
  clear hS_w4
  have BW_w4 := BW_w3.trans (hb_w4.mono BW_w3.size)
  have BEs_w4 := BEs_w3.trans (hb_w4.mono BEs_w3.size)
  have BEt_w4 := BEt_w3.trans (hb_w4.mono BEt_w3.size)
  have Bs_w4 := Bs_w3.trans (hb_w4.mono Bs_w3.size)
  have Bt_w4 := Bt_w3.trans (hb_w4.mono Bt_w3.size)
  have BEx_w4 := BEx_w3.trans (hb_w4.mono BEx_w3.size)
  have Bx_w4 : Below w4.heap.size w4 w4 := Below.refl _ _
  have ps0 := hs0.out _ Bs_w4
  have ps1 := hs1.out _ Bs_w4
  have ps2 := hs2.out _ Bs_w4
  have pt0 := ht0.out _ Bt_w4
  have pt1 := ht1.out _ Bt_w4
  have pt2 := ht2.out _ Bt_w4
  go_wp2_with fail
  have hc_z := hid (specComposeSystems_any s t As At cs ct w4 ls1 ls2 lt1 lt2 (es.out.later BEs_w4) (et.out.later BEt_w4))
  rw [← hX.out, ← hok.out] at hc_z
  refine hc_z.out.mono ?_
  clear hc_z
  clear ps0 ps1 ps2 pt0 pt1 pt2
  rintro e w5 hpost
  obtain ⟨Az, cz, rfl, lz1, lz2, ez3, -, hb_w5⟩ := hpost
  unfold Sy.val
  have BW_w5 := BW_w4.trans (hb_w5.mono BW_w4.size)
  have BEs_w5 := BEs_w4.trans (hb_w5.mono BEs_w4.size)
  have BEt_w5 := BEt_w4.trans (hb_w5.mono BEt_w4.size)
  have Bs_w5 := Bs_w4.trans (hb_w5.mono Bs_w4.size)
  have Bt_w5 := Bt_w4.trans (hb_w5.mono Bt_w4.size)
  have BEx_w5 := BEx_w4.trans (hb_w5.mono BEx_w4.size)
  have Bx_w5 := Bx_w4.trans (hb_w5.mono Bx_w4.size)
  have ez := hid ez3
  have BEz_w5 : Below w5.heap.size w5 w5 := Below.refl _ _
  clear ez3
  go_upto_region 6 with fail
  obtain ⟨w6, hw_w6, hz_w6, hb_w6, hS_w6⟩ := boxed w5 #[.int .i64 X.al, .int .i64 X.st, .slice Az X.es.length cz] 25
  rw [hw_w6]
  clear hw_w6
  have hz0 := fun w' (hb : Below w6.heap.size w6 w') => hS_w6 0 _ rfl w' (hb.mono hz_w6)
  have hz1 := fun w' (hb : Below w6.heap.size w6 w') => hS_w6 1 _ rfl w' (hb.mono hz_w6)
  have hz2 := fun w' (hb : Below w6.heap.size w6 w') => hS_w6 2 _ rfl w' (hb.mono hz_w6)
  replace hz0 := hid hz0
  replace hz1 := hid hz1
  replace hz2 := hid hz2
  clear hS_w6
  have BW_w6 := BW_w5.trans (hb_w6.mono BW_w5.size)
  have BEs_w6 := BEs_w5.trans (hb_w6.mono BEs_w5.size)
  have BEt_w6 := BEt_w5.trans (hb_w6.mono BEt_w5.size)
  have Bs_w6 := Bs_w5.trans (hb_w6.mono Bs_w5.size)
  have Bt_w6 := Bt_w5.trans (hb_w6.mono Bt_w5.size)
  have BEx_w6 := BEx_w5.trans (hb_w6.mono BEx_w5.size)
  have Bx_w6 := Bx_w5.trans (hb_w6.mono Bx_w5.size)
  have BEz_w6 := BEz_w5.trans (hb_w6.mono BEz_w5.size)
  have Bz_w6 : Below w6.heap.size w6 w6 := Below.refl _ _
  have hkk : (ok != ok) = false := by simp
  have hkk2 : (ok == ok) = true := by simp
  obtain ⟨vs, hvs⟩ : ∃ v, Hid (v = sysOk s) := ⟨_, hid rfl⟩
  obtain ⟨i0, hi0, hz0', hz1', hz2'⟩ := info_parts infoEd
  cases vs
  case false =>
    have px0 := hx0.out _ Bx_w6
    have px1 := hx1.out _ Bx_w6
    have px2 := hx2.out _ Bx_w6
    have pz0 := hz0.out _ Bz_w6
    have pz1 := hz1.out _ Bz_w6
    have pz2 := hz2.out _ Bz_w6
    go_wp2_with fail
    refine (agSystems_same X Ax Az cx cz w6 lx1 lx2 lz1 lz2 (ex.out.later BEx_w6) (ez.out.later BEz_w6)).mono ?_
    clear px0 px1 px2 pz0 pz1 pz2
    rintro e w7 ⟨rfl, hb_w7⟩
    have BW_w7 := BW_w6.trans (hb_w7.mono BW_w6.size)
    have BEs_w7 := BEs_w6.trans (hb_w7.mono BEs_w6.size)
    have BEt_w7 := BEt_w6.trans (hb_w7.mono BEt_w6.size)
    have Bs_w7 := Bs_w6.trans (hb_w7.mono Bs_w6.size)
    have Bt_w7 := Bt_w6.trans (hb_w7.mono Bt_w6.size)
    have BEx_w7 := BEx_w6.trans (hb_w7.mono BEx_w6.size)
    have Bx_w7 := Bx_w6.trans (hb_w7.mono Bx_w6.size)
    have BEz_w7 := BEz_w6.trans (hb_w7.mono BEz_w6.size)
    have Bz_w7 := Bz_w6.trans (hb_w7.mono Bz_w6.size)
    have ps0 := hs0.out _ Bs_w7
    have ps1 := hs1.out _ Bs_w7
    have ps2 := hs2.out _ Bs_w7
    go_wp2_with fail
    refine (implSystemValid_any s As cs w7 ls1 ls2 (es.out.later BEs_w7)).mono ?_
    clear ps0 ps1 ps2
    rintro e w8 ⟨rfl, hb_w8⟩
    have BW_w8 := BW_w7.trans (hb_w8.mono BW_w7.size)
    have BEs_w8 := BEs_w7.trans (hb_w8.mono BEs_w7.size)
    have BEt_w8 := BEt_w7.trans (hb_w8.mono BEt_w7.size)
    have Bs_w8 := Bs_w7.trans (hb_w8.mono Bs_w7.size)
    have Bt_w8 := Bt_w7.trans (hb_w8.mono Bt_w7.size)
    have BEx_w8 := BEx_w7.trans (hb_w8.mono BEx_w7.size)
    have Bx_w8 := Bx_w7.trans (hb_w8.mono Bx_w7.size)
    have BEz_w8 := BEz_w7.trans (hb_w8.mono BEz_w7.size)
    have Bz_w8 := Bz_w7.trans (hb_w8.mono Bz_w7.size)
    rw [← hvs.out]
    have px0 := hx0.out _ Bx_w8
    have px1 := hx1.out _ Bx_w8
    have px2 := hx2.out _ Bx_w8
    have pz0 := hz0.out _ Bz_w8
    have pz1 := hz1.out _ Bz_w8
    have pz2 := hz2.out _ Bz_w8
    go_wp2_with fail
    refine (agSystems_same X Ax Az cx cz w8 lx1 lx2 lz1 lz2 (ex.out.later BEx_w8) (ez.out.later BEz_w8)).mono ?_
    clear px0 px1 px2 pz0 pz1 pz2
    rintro e w9 ⟨rfl, hb_w9⟩
    have BW_w9 := BW_w8.trans (hb_w9.mono BW_w8.size)
    have BEs_w9 := BEs_w8.trans (hb_w9.mono BEs_w8.size)
    have BEt_w9 := BEt_w8.trans (hb_w9.mono BEt_w8.size)
    have Bs_w9 := Bs_w8.trans (hb_w9.mono Bs_w8.size)
    have Bt_w9 := Bt_w8.trans (hb_w9.mono Bt_w8.size)
    have BEx_w9 := BEx_w8.trans (hb_w9.mono BEx_w8.size)
    have Bx_w9 := Bx_w8.trans (hb_w9.mono Bx_w8.size)
    have BEz_w9 := BEz_w8.trans (hb_w9.mono BEz_w8.size)
    have Bz_w9 := Bz_w8.trans (hb_w9.mono Bz_w8.size)
    go_wp2_with fail
    go_ret
    exact ⟨rfl, BW_w9⟩
  case true =>
    have px0 := hx0.out _ Bx_w6
    have px1 := hx1.out _ Bx_w6
    have px2 := hx2.out _ Bx_w6
    have pz0 := hz0.out _ Bz_w6
    have pz1 := hz1.out _ Bz_w6
    have pz2 := hz2.out _ Bz_w6
    go_wp2_with fail
    refine (agSystems_same X Ax Az cx cz w6 lx1 lx2 lz1 lz2 (ex.out.later BEx_w6) (ez.out.later BEz_w6)).mono ?_
    clear px0 px1 px2 pz0 pz1 pz2
    rintro e w7 ⟨rfl, hb_w7⟩
    have BW_w7 := BW_w6.trans (hb_w7.mono BW_w6.size)
    have BEs_w7 := BEs_w6.trans (hb_w7.mono BEs_w6.size)
    have BEt_w7 := BEt_w6.trans (hb_w7.mono BEt_w6.size)
    have Bs_w7 := Bs_w6.trans (hb_w7.mono Bs_w6.size)
    have Bt_w7 := Bt_w6.trans (hb_w7.mono Bt_w6.size)
    have BEx_w7 := BEx_w6.trans (hb_w7.mono BEx_w6.size)
    have Bx_w7 := Bx_w6.trans (hb_w7.mono Bx_w6.size)
    have BEz_w7 := BEz_w6.trans (hb_w7.mono BEz_w6.size)
    have Bz_w7 := Bz_w6.trans (hb_w7.mono Bz_w6.size)
    have ps0 := hs0.out _ Bs_w7
    have ps1 := hs1.out _ Bs_w7
    have ps2 := hs2.out _ Bs_w7
    go_wp2_with fail
    refine (implSystemValid_any s As cs w7 ls1 ls2 (es.out.later BEs_w7)).mono ?_
    clear ps0 ps1 ps2
    rintro e w8 ⟨rfl, hb_w8⟩
    have BW_w8 := BW_w7.trans (hb_w8.mono BW_w7.size)
    have BEs_w8 := BEs_w7.trans (hb_w8.mono BEs_w7.size)
    have BEt_w8 := BEt_w7.trans (hb_w8.mono BEt_w7.size)
    have Bs_w8 := Bs_w7.trans (hb_w8.mono Bs_w7.size)
    have Bt_w8 := Bt_w7.trans (hb_w8.mono Bt_w7.size)
    have BEx_w8 := BEx_w7.trans (hb_w8.mono BEx_w7.size)
    have Bx_w8 := Bx_w7.trans (hb_w8.mono Bx_w7.size)
    have BEz_w8 := BEz_w7.trans (hb_w8.mono BEz_w7.size)
    have Bz_w8 := Bz_w7.trans (hb_w8.mono Bz_w7.size)
    rw [← hvs.out]
    have hOk_s : Hid (sysOk s = true) := hid hvs.out.symm
    have hbig_s : s.es.length ≤ 1000000 := by have := edges_few hOk_s.out; omega
    have hrng := sysOk_alpha hOk_s.out
    obtain ⟨gf, hgf⟩ : ∃ g, Hid (g = w8.heap.size) := ⟨_, hid rfl⟩
    obtain ⟨wf, hwf⟩ : ∃ w', w8.alloc (.cells #[.int .i64 s.al, .int .i64 1, .slice none 0 0] 25) = w' := ⟨_, rfl⟩
    have hSf : Hid (SubSt w8 wf gf s.al 1 (.slice none 0 0) ((lettersTo s.al 0).map freeEd)) := hid ⟨by rw [← hwf, hgf.out]; exact Blk.new _ _ _, World.ownsRow_nil _ _ _ _, by rw [hgf.out]; exact Nat.le_refl _, by rw [← hwf]; exact (Below.refl _ _).alloc (Nat.le_refl _) _⟩
    replace hwf := hid hwf
    have ps0 := hs0.out _ Bs_w8
    have ps1 := hs1.out _ Bs_w8
    have ps2 := hs2.out _ Bs_w8
    go_upto_region 9 with fail
    clear ps0 ps1 ps2
    rw [hwf.out]
    try rw [← hgf.out]
    clear hwf
    go_wp2_with fail
    go_loopw [10] (fun cv wr => ∃ (k : Nat) (v : Value), cv = .int .i64 (k : Nat) ∧ k ≤ 6 ∧ SubSt w8 wr gf s.al 1 v ((lettersTo s.al k).map freeEd)) (fun cv _ => 6 - (intOf cv).toNat)
    case atStart => exact ⟨0, _, rfl, by omega, hSf.out⟩
    case round =>
      clear hSf
      obtain ⟨k, v, rfl, hk, hs⟩ := hrel
      have hb_wr := hs.keep
      have BW_wr := BW_w8.trans (hb_wr.mono BW_w8.size)
      have BEs_wr := BEs_w8.trans (hb_wr.mono BEs_w8.size)
      have BEt_wr := BEt_w8.trans (hb_wr.mono BEt_w8.size)
      have Bs_wr := Bs_w8.trans (hb_wr.mono Bs_w8.size)
      have Bt_wr := Bt_w8.trans (hb_wr.mono Bt_w8.size)
      have BEx_wr := BEx_w8.trans (hb_wr.mono BEx_w8.size)
      have Bx_wr := Bx_w8.trans (hb_wr.mono Bx_w8.size)
      have BEz_wr := BEz_w8.trans (hb_wr.mono BEz_w8.size)
      have Bz_wr := Bz_w8.trans (hb_wr.mono Bz_w8.size)
      by_cases hlt : k < 6
      case pos =>
        obtain ⟨tb, htb⟩ : ∃ t', Hid (t' = Has s.al k) := ⟨_, hid rfl⟩
        have hsc := hid (lettersTo_succ s.al k)
        rw [← htb.out] at hsc
        have hbz := hs.keep.size
        have hll := lettersTo_len s.al k
        have hs' := hid hs
        clear hs
        have ps0 := hs0.out _ Bs_wr
        have ps1 := hs1.out _ Bs_wr
        have ps2 := hs2.out _ Bs_wr
        go_wp2_with fail
        refine (agHas_any s.al (k : Int) wr (by omega) (by omega)).mono ?_
        clear ps0 ps1 ps2
        rintro e w9 ⟨rfl, rfl⟩
        rw [show Has s.al (k : Int).toNat = tb from by rw [Int.toNat_natCast, htb.out]]
        cases tb
        case false =>
          go_wp2_with fail
          go_roundw
          case rel => exact ⟨k + 1, v, by go_num, by omega, by rw [hsc.out, if_neg (by simp)]; exact hs'.out⟩
          case measure => simp [intOf]; omega
        case true =>
          have hes : (lettersTo s.al (k + 1)).map freeEd = (lettersTo s.al k).map freeEd ++ [⟨0, (k : Int), 0⟩] := by rw [hsc.out, if_pos rfl, List.map_append]; rfl
          obtain ⟨es, hee⟩ : ∃ es, Hid (es = (lettersTo s.al k).map freeEd) := ⟨_, hid rfl⟩
          have hesl : es.length ≤ 1000 := by rw [hee.out, List.length_map]; omega
          rw [← hee.out] at hs' hes
          replace hes := hid hes
          have c2 := hs'.out.blk.cell 2
          simp only [List.getElem?_toArray, List.getElem?_cons_zero, List.getElem?_cons_succ] at c2
          have hgl := hs'.out.blk.lt
          have ag : v.ownBlock ≠ some gf := fun e => own_ne hs'.out.own hs'.out.blk (by decide) gf e rfl
          have hown := hid hs'.out.own
          go_wp2_with (at_builtin; refine wpList_append_lies _ (by rfl) _ _ 23 (by rfl) w8.heap.size 50 i0 (.agg #[.int .i64 0, .int .i64 0, .int .i64 0]) 3 24 Tryz.underlying23 hi0 hz0' hz1' hz2' rfl (by decide) v es.length (edCells es) (by rfl) (hown.out.alloc _) ⟨wr.heap.size, 0, none⟩ 1 1 [.int .i64 0, .int .i64 (k : Nat), .int .i64 0] (by rfl) (by rfl) (World.news_of_block (heap_alloc_new wr _)) ?c1 (by omega) ?c3 ?c4 ?c5 _ rfl ?_)
          case c1 => simp [Value.oneCell']
          case c3 => unfold maxLen; omega
          case c4 => omega
          case c5 => simp; omega
          intro gg cap5 w5' hown5 hgrow hat5 hlt5
          have hs5 := hid ((hs'.out.later ((Below.refl _ wr).alloc (Nat.le_refl _) _)).add (x := ⟨0, (k : Int), 0⟩) hown5 hgrow)
          have c2' : w5'.cell? ⟨gf, 2, none⟩ = some v := by rw [hgrow.cell_far _ (by simp; omega) (Ne.symm ag), World.cell?_alloc_lt (h := by simpa using hgl)]; exact c2
          have f2' : w5'.frozen? ⟨gf, 2, none⟩ = false := by rw [hgrow.frozen_far _ (by simp; omega) (Ne.symm ag)]; exact (hs'.out.blk.alloc _).frozen 2
          clear hown5 hgrow hat5 c2
          go_wp2_with fail
          go_roundw
          case rel => exact ⟨k + 1, _, by go_num, by omega, by rw [hes.out]; exact hs5.out⟩
          case measure => simp [intOf]; omega
      case neg =>
        obtain rfl : k = 6 := by omega
        obtain ⟨E, hE⟩ : ∃ E, Hid (E = (freeSy s.al).es) := ⟨_, hid rfl⟩
        rw [← freeSy_es, ← hE.out] at hs
        obtain ⟨Af, cf, lf1, lf2, ef3, hvf⟩ : ∃ Af cf, E.length ≤ cf ∧ cf ≤ 9223372036854775807 ∧ EdsAt wr wr.heap.size Af E ∧ v = .slice Af E.length cf := by
          obtain ⟨A', c', e, h1, h2, h3, h4⟩ := OwnEds.read (show OwnEds wr w8.heap.size v E from hs.own)
          exact ⟨A', c', h1, h2, h3, e⟩
        subst hvf
        have hf0 := hid (fun w' (hb : Below wr.heap.size wr w') => show w'.cell? ⟨gf, 0, none⟩ = some (.int .i64 s.al) from (hs.blk.below hb hs.blk.lt).cell 0)
        have hf1 := hid (fun w' (hb : Below wr.heap.size wr w') => show w'.cell? ⟨gf, 1, none⟩ = some (.int .i64 1) from (hs.blk.below hb hs.blk.lt).cell 1)
        have hf2 := hid (fun w' (hb : Below wr.heap.size wr w') => show w'.cell? ⟨gf, 2, none⟩ = some (.slice Af E.length cf) from (hs.blk.below hb hs.blk.lt).cell 2)
        have Bf_wr : Below wr.heap.size wr wr := Below.refl _ _
        clear hs
        have ef := hid ef3
        have BEf_wr : Below wr.heap.size wr wr := Below.refl _ _
        clear ef3
        obtain ⟨U, hTr_u⟩ : ∃ U, Hid (U = trimOut s) := ⟨_, hid rfl⟩
        have hU : U = trimSy s (reachAll s) := by rw [hTr_u.out]; unfold trimOut; rw [if_pos hOk_s.out]
        have hY : Hid (U = cmX s emptySy) := hid (by rw [hU]; exact (cm_empty hOk_s.out).2.symm)
        have hYk : Hid (true = cmOk s emptySy) := hid (cm_empty hOk_s.out).1.symm
        have hZ : Hid (U = cmX s (⟨s.al, 1, E⟩ : Sy)) := hid (by rw [hU, hE.out]; exact (cm_free hOk_s.out).2.symm)
        have hZk : Hid (true = cmOk s (⟨s.al, 1, E⟩ : Sy)) := hid (by rw [hE.out]; exact (cm_free hOk_s.out).1.symm)
        clear hU
        have ps0 := hs0.out _ Bs_wr
        have ps1 := hs1.out _ Bs_wr
        have ps2 := hs2.out _ Bs_wr
        go_wp2_with fail
        have hc_u := hid (implTrimSystem_any s As cs wr hbig_s ls1 ls2 (hT.out.later BW_wr) (es.out.later BEs_wr))
        unfold TrimPost at hc_u
        rw [← hTr_u.out, hOk_s.out] at hc_u
        refine hc_u.out.mono ?_
        clear hc_u
        clear ps0 ps1 ps2
        rintro e w9 ⟨Au, cu, rfl, lu1, lu2, eu3, hb_w9⟩
        unfold Sy.val
        have BW_w9 := BW_wr.trans (hb_w9.mono BW_wr.size)
        have BEs_w9 := BEs_wr.trans (hb_w9.mono BEs_wr.size)
        have BEt_w9 := BEt_wr.trans (hb_w9.mono BEt_wr.size)
        have Bs_w9 := Bs_wr.trans (hb_w9.mono Bs_wr.size)
        have Bt_w9 := Bt_wr.trans (hb_w9.mono Bt_wr.size)
        have BEx_w9 := BEx_wr.trans (hb_w9.mono BEx_wr.size)
        have Bx_w9 := Bx_wr.trans (hb_w9.mono Bx_wr.size)
        have BEz_w9 := BEz_wr.trans (hb_w9.mono BEz_wr.size)
        have Bz_w9 := Bz_wr.trans (hb_w9.mono Bz_wr.size)
        have Bf_w9 := Bf_wr.trans (hb_w9.mono Bf_wr.size)
        have BEf_w9 := BEf_wr.trans (hb_w9.mono BEf_wr.size)
        have eu := hid eu3
        have BEu_w9 : Below w9.heap.size w9 w9 := Below.refl _ _
        clear eu3
        go_upto_region 15 with fail
        obtain ⟨w10, hw_w10, hz_w10, hb_w10, hS_w10⟩ := boxed w9 #[.int .i64 U.al, .int .i64 U.st, .slice Au U.es.length cu] 25
        rw [hw_w10]
        clear hw_w10
        have hu0 := fun w' (hb : Below w10.heap.size w10 w') => hS_w10 0 _ rfl w' (hb.mono hz_w10)
        have hu1 := fun w' (hb : Below w10.heap.size w10 w') => hS_w10 1 _ rfl w' (hb.mono hz_w10)
        have hu2 := fun w' (hb : Below w10.heap.size w10 w') => hS_w10 2 _ rfl w' (hb.mono hz_w10)
        replace hu0 := hid hu0
        replace hu1 := hid hu1
        replace hu2 := hid hu2
        clear hS_w10
        have BW_w10 := BW_w9.trans (hb_w10.mono BW_w9.size)
        have BEs_w10 := BEs_w9.trans (hb_w10.mono BEs_w9.size)
        have BEt_w10 := BEt_w9.trans (hb_w10.mono BEt_w9.size)
        have Bs_w10 := Bs_w9.trans (hb_w10.mono Bs_w9.size)
        have Bt_w10 := Bt_w9.trans (hb_w10.mono Bt_w9.size)
        have BEx_w10 := BEx_w9.trans (hb_w10.mono BEx_w9.size)
        have Bx_w10 := Bx_w9.trans (hb_w10.mono Bx_w9.size)
        have BEz_w10 := BEz_w9.trans (hb_w10.mono BEz_w9.size)
        have Bz_w10 := Bz_w9.trans (hb_w10.mono Bz_w9.size)
        have Bf_w10 := Bf_w9.trans (hb_w10.mono Bf_w9.size)
        have BEf_w10 := BEf_w9.trans (hb_w10.mono BEf_w9.size)
        have BEu_w10 := BEu_w9.trans (hb_w10.mono BEu_w9.size)
        have Bu_w10 : Below w10.heap.size w10 w10 := Below.refl _ _
        have ps0 := hs0.out _ Bs_w10
        have ps1 := hs1.out _ Bs_w10
        have ps2 := hs2.out _ Bs_w10
        go_wp2_with fail
        have hc_y := hid (implComposeSystems_any s emptySy As none cs 0 w10 ls1 ls2 (Nat.le_refl _) (by omega) (hT.out.later BW_w10) (es.out.later BEs_w10) (fun h => absurd h (by simp [emptySy])))
        rw [← hY.out, ← hYk.out] at hc_y
        refine hc_y.out.mono ?_
        clear hc_y
        clear ps0 ps1 ps2
        rintro e w11 hpost
        replace hpost := SoOwn.read hpost
        obtain ⟨Ay, cy, rfl, ly1, ly2, ey3, -, hb_w11⟩ := hpost
        unfold Sy.val
        have BW_w11 := BW_w10.trans (hb_w11.mono BW_w10.size)
        have BEs_w11 := BEs_w10.trans (hb_w11.mono BEs_w10.size)
        have BEt_w11 := BEt_w10.trans (hb_w11.mono BEt_w10.size)
        have Bs_w11 := Bs_w10.trans (hb_w11.mono Bs_w10.size)
        have Bt_w11 := Bt_w10.trans (hb_w11.mono Bt_w10.size)
        have BEx_w11 := BEx_w10.trans (hb_w11.mono BEx_w10.size)
        have Bx_w11 := Bx_w10.trans (hb_w11.mono Bx_w10.size)
        have BEz_w11 := BEz_w10.trans (hb_w11.mono BEz_w10.size)
        have Bz_w11 := Bz_w10.trans (hb_w11.mono Bz_w10.size)
        have Bf_w11 := Bf_w10.trans (hb_w11.mono Bf_w10.size)
        have BEf_w11 := BEf_w10.trans (hb_w11.mono BEf_w10.size)
        have BEu_w11 := BEu_w10.trans (hb_w11.mono BEu_w10.size)
        have Bu_w11 := Bu_w10.trans (hb_w11.mono Bu_w10.size)
        have ey := hid ey3
        have BEy_w11 : Below w11.heap.size w11 w11 := Below.refl _ _
        clear ey3
        go_upto_region 16 with fail
        obtain ⟨w12, hw_w12, hz_w12, hb_w12, hS_w12⟩ := boxed w11 #[.int .i64 U.al, .int .i64 U.st, .slice Ay U.es.length cy] 25
        rw [hw_w12]
        clear hw_w12
        have hy0 := fun w' (hb : Below w12.heap.size w12 w') => hS_w12 0 _ rfl w' (hb.mono hz_w12)
        have hy1 := fun w' (hb : Below w12.heap.size w12 w') => hS_w12 1 _ rfl w' (hb.mono hz_w12)
        have hy2 := fun w' (hb : Below w12.heap.size w12 w') => hS_w12 2 _ rfl w' (hb.mono hz_w12)
        replace hy0 := hid hy0
        replace hy1 := hid hy1
        replace hy2 := hid hy2
        clear hS_w12
        have BW_w12 := BW_w11.trans (hb_w12.mono BW_w11.size)
        have BEs_w12 := BEs_w11.trans (hb_w12.mono BEs_w11.size)
        have BEt_w12 := BEt_w11.trans (hb_w12.mono BEt_w11.size)
        have Bs_w12 := Bs_w11.trans (hb_w12.mono Bs_w11.size)
        have Bt_w12 := Bt_w11.trans (hb_w12.mono Bt_w11.size)
        have BEx_w12 := BEx_w11.trans (hb_w12.mono BEx_w11.size)
        have Bx_w12 := Bx_w11.trans (hb_w12.mono Bx_w11.size)
        have BEz_w12 := BEz_w11.trans (hb_w12.mono BEz_w11.size)
        have Bz_w12 := Bz_w11.trans (hb_w12.mono Bz_w11.size)
        have Bf_w12 := Bf_w11.trans (hb_w12.mono Bf_w11.size)
        have BEf_w12 := BEf_w11.trans (hb_w12.mono BEf_w11.size)
        have BEu_w12 := BEu_w11.trans (hb_w12.mono BEu_w11.size)
        have Bu_w12 := Bu_w11.trans (hb_w12.mono Bu_w11.size)
        have BEy_w12 := BEy_w11.trans (hb_w12.mono BEy_w11.size)
        have By_w12 : Below w12.heap.size w12 w12 := Below.refl _ _
        have ps0 := hs0.out _ Bs_w12
        have ps1 := hs1.out _ Bs_w12
        have ps2 := hs2.out _ Bs_w12
        have pf0 := hf0.out _ Bf_w12
        have pf1 := hf1.out _ Bf_w12
        have pf2 := hf2.out _ Bf_w12
        go_wp2_with fail
        have hc_w := hid (implComposeSystems_any s (⟨s.al, 1, E⟩ : Sy) As Af cs cf w12 ls1 ls2 lf1 lf2 (hT.out.later BW_w12) (es.out.later BEs_w12) (ef.out.later BEf_w12))
        rw [← hZ.out, ← hZk.out] at hc_w
        refine hc_w.out.mono ?_
        clear hc_w
        clear ps0 ps1 ps2 pf0 pf1 pf2
        rintro e w13 hpost
        replace hpost := SoOwn.read hpost
        obtain ⟨Aw, cw, rfl, lw1, lw2, ew3, -, hb_w13⟩ := hpost
        unfold Sy.val
        have BW_w13 := BW_w12.trans (hb_w13.mono BW_w12.size)
        have BEs_w13 := BEs_w12.trans (hb_w13.mono BEs_w12.size)
        have BEt_w13 := BEt_w12.trans (hb_w13.mono BEt_w12.size)
        have Bs_w13 := Bs_w12.trans (hb_w13.mono Bs_w12.size)
        have Bt_w13 := Bt_w12.trans (hb_w13.mono Bt_w12.size)
        have BEx_w13 := BEx_w12.trans (hb_w13.mono BEx_w12.size)
        have Bx_w13 := Bx_w12.trans (hb_w13.mono Bx_w12.size)
        have BEz_w13 := BEz_w12.trans (hb_w13.mono BEz_w12.size)
        have Bz_w13 := Bz_w12.trans (hb_w13.mono Bz_w12.size)
        have Bf_w13 := Bf_w12.trans (hb_w13.mono Bf_w12.size)
        have BEf_w13 := BEf_w12.trans (hb_w13.mono BEf_w12.size)
        have BEu_w13 := BEu_w12.trans (hb_w13.mono BEu_w12.size)
        have Bu_w13 := Bu_w12.trans (hb_w13.mono Bu_w12.size)
        have BEy_w13 := BEy_w12.trans (hb_w13.mono BEy_w12.size)
        have By_w13 := By_w12.trans (hb_w13.mono By_w12.size)
        have ew := hid ew3
        have BEw_w13 : Below w13.heap.size w13 w13 := Below.refl _ _
        clear ew3
        go_upto_region 17 with fail
        obtain ⟨w14, hw_w14, hz_w14, hb_w14, hS_w14⟩ := boxed w13 #[.int .i64 U.al, .int .i64 U.st, .slice Aw U.es.length cw] 25
        rw [hw_w14]
        clear hw_w14
        have hw0 := fun w' (hb : Below w14.heap.size w14 w') => hS_w14 0 _ rfl w' (hb.mono hz_w14)
        have hw1 := fun w' (hb : Below w14.heap.size w14 w') => hS_w14 1 _ rfl w' (hb.mono hz_w14)
        have hw2 := fun w' (hb : Below w14.heap.size w14 w') => hS_w14 2 _ rfl w' (hb.mono hz_w14)
        replace hw0 := hid hw0
        replace hw1 := hid hw1
        replace hw2 := hid hw2
        clear hS_w14
        have BW_w14 := BW_w13.trans (hb_w14.mono BW_w13.size)
        have BEs_w14 := BEs_w13.trans (hb_w14.mono BEs_w13.size)
        have BEt_w14 := BEt_w13.trans (hb_w14.mono BEt_w13.size)
        have Bs_w14 := Bs_w13.trans (hb_w14.mono Bs_w13.size)
        have Bt_w14 := Bt_w13.trans (hb_w14.mono Bt_w13.size)
        have BEx_w14 := BEx_w13.trans (hb_w14.mono BEx_w13.size)
        have Bx_w14 := Bx_w13.trans (hb_w14.mono Bx_w13.size)
        have BEz_w14 := BEz_w13.trans (hb_w14.mono BEz_w13.size)
        have Bz_w14 := Bz_w13.trans (hb_w14.mono Bz_w13.size)
        have Bf_w14 := Bf_w13.trans (hb_w14.mono Bf_w13.size)
        have BEf_w14 := BEf_w13.trans (hb_w14.mono BEf_w13.size)
        have BEu_w14 := BEu_w13.trans (hb_w14.mono BEu_w13.size)
        have Bu_w14 := Bu_w13.trans (hb_w14.mono Bu_w13.size)
        have BEy_w14 := BEy_w13.trans (hb_w14.mono BEy_w13.size)
        have By_w14 := By_w13.trans (hb_w14.mono By_w13.size)
        have BEw_w14 := BEw_w13.trans (hb_w14.mono BEw_w13.size)
        have Bw_w14 : Below w14.heap.size w14 w14 := Below.refl _ _
        have py0 := hy0.out _ By_w14
        have py1 := hy1.out _ By_w14
        have py2 := hy2.out _ By_w14
        have pu0 := hu0.out _ Bu_w14
        have pu1 := hu1.out _ Bu_w14
        have pu2 := hu2.out _ Bu_w14
        go_wp2_with fail
        refine (agSystems_same U Ay Au cy cu w14 ly1 ly2 lu1 lu2 (ey.out.later BEy_w14) (eu.out.later BEu_w14)).mono ?_
        clear py0 py1 py2 pu0 pu1 pu2
        rintro e w15 ⟨rfl, hb_w15⟩
        have BW_w15 := BW_w14.trans (hb_w15.mono BW_w14.size)
        have BEs_w15 := BEs_w14.trans (hb_w15.mono BEs_w14.size)
        have BEt_w15 := BEt_w14.trans (hb_w15.mono BEt_w14.size)
        have Bs_w15 := Bs_w14.trans (hb_w15.mono Bs_w14.size)
        have Bt_w15 := Bt_w14.trans (hb_w15.mono Bt_w14.size)
        have BEx_w15 := BEx_w14.trans (hb_w15.mono BEx_w14.size)
        have Bx_w15 := Bx_w14.trans (hb_w15.mono Bx_w14.size)
        have BEz_w15 := BEz_w14.trans (hb_w15.mono BEz_w14.size)
        have Bz_w15 := Bz_w14.trans (hb_w15.mono Bz_w14.size)
        have Bf_w15 := Bf_w14.trans (hb_w15.mono Bf_w14.size)
        have BEf_w15 := BEf_w14.trans (hb_w15.mono BEf_w14.size)
        have BEu_w15 := BEu_w14.trans (hb_w15.mono BEu_w14.size)
        have Bu_w15 := Bu_w14.trans (hb_w15.mono Bu_w14.size)
        have BEy_w15 := BEy_w14.trans (hb_w15.mono BEy_w14.size)
        have By_w15 := By_w14.trans (hb_w15.mono By_w14.size)
        have BEw_w15 := BEw_w14.trans (hb_w15.mono BEw_w14.size)
        have Bw_w15 := Bw_w14.trans (hb_w15.mono Bw_w14.size)
        have pw0 := hw0.out _ Bw_w15
        have pw1 := hw1.out _ Bw_w15
        have pw2 := hw2.out _ Bw_w15
        have pu0 := hu0.out _ Bu_w15
        have pu1 := hu1.out _ Bu_w15
        have pu2 := hu2.out _ Bu_w15
        go_wp2_with fail
        refine (agSystems_same U Aw Au cw cu w15 lw1 lw2 lu1 lu2 (ew.out.later BEw_w15) (eu.out.later BEu_w15)).mono ?_
        clear pw0 pw1 pw2 pu0 pu1 pu2
        rintro e w16 ⟨rfl, hb_w16⟩
        have BW_w16 := BW_w15.trans (hb_w16.mono BW_w15.size)
        have BEs_w16 := BEs_w15.trans (hb_w16.mono BEs_w15.size)
        have BEt_w16 := BEt_w15.trans (hb_w16.mono BEt_w15.size)
        have Bs_w16 := Bs_w15.trans (hb_w16.mono Bs_w15.size)
        have Bt_w16 := Bt_w15.trans (hb_w16.mono Bt_w15.size)
        have BEx_w16 := BEx_w15.trans (hb_w16.mono BEx_w15.size)
        have Bx_w16 := Bx_w15.trans (hb_w16.mono Bx_w15.size)
        have BEz_w16 := BEz_w15.trans (hb_w16.mono BEz_w15.size)
        have Bz_w16 := Bz_w15.trans (hb_w16.mono Bz_w15.size)
        have Bf_w16 := Bf_w15.trans (hb_w16.mono Bf_w15.size)
        have BEf_w16 := BEf_w15.trans (hb_w16.mono BEf_w15.size)
        have BEu_w16 := BEu_w15.trans (hb_w16.mono BEu_w15.size)
        have Bu_w16 := Bu_w15.trans (hb_w16.mono Bu_w15.size)
        have BEy_w16 := BEy_w15.trans (hb_w16.mono BEy_w15.size)
        have By_w16 := By_w15.trans (hb_w16.mono By_w15.size)
        have BEw_w16 := BEw_w15.trans (hb_w16.mono BEw_w15.size)
        have Bw_w16 := Bw_w15.trans (hb_w16.mono Bw_w15.size)
        go_wp2_with fail
        go_ret
        exact ⟨rfl, BW_w16⟩

end Go.Proofs.YtdkjnemakkppfaaGreatDoor
