/- Lemmas, part 12: several texts in one. -/
import Derived.Test.YtdkjnemakkppfaaDoorX6
import Derived.Test.YtdkjnemakkppfaaDoorX11
import Derived.Test.YtdkjnemakkppfaaDoorX8
import Derived.Test.YtdkjnemakkppfaaDoorX5
set_option linter.unusedSimpArgs false
set_option linter.unusedVariables false

/- A byte slice that came in, later. Printed by tools/gen_r9b.py. -/
namespace Go.Proofs.YtdkjnemakkppfaaDoor
open Go.RowKit Go.BigFrame AG

theorem CodeAt.on {w w' : World} {A : Option Addr} {n : Nat} (h : CodeAt w A n) (hb : Below w.heap.size w w') : CodeAt w' A n := fun hn => by
  obtain ⟨b, o, h1, h2, h3⟩ := h hn
  refine ⟨b, o, h1, Nat.lt_of_lt_of_le h2 hb.size, fun i hi => ?_⟩
  obtain ⟨x, h4, h5⟩ := h3 i hi
  exact ⟨x, h4, by rw [hb.cell (by simpa using h2)]; exact h5⟩

end Go.Proofs.YtdkjnemakkppfaaDoor

/- The law FnComposeDeterministic. Printed by tools/gen_r9.py. -/
namespace Go.Proofs.YtdkjnemakkppfaaDoor
open Go.RowKit Go.BigFrame Go.Maps AG


set_option maxRecDepth 100000 in
set_option maxHeartbeats 16000000 in
theorem FnComposeDeterministic_any (A : Option Addr) (n c : Nat) (w : World) (hn : n ≤ c) (hc : c ≤ 9223372036854775807) (hT : Tab w) (hx : CodeAt w A n) :
    Calls Tryd.prog 5 #[.slice A n c] w fun e w' => e = .returned (.bool true) ∧ Below w.heap.size w w' := by
  replace hT := hid hT
  replace hx := hid hx
  by_cases hlen : 1048576 < n
  · have hgt : (1048576 : Int) < (n : Int) := by omega
    go_enter Tryd.func5, Tryd.ntmps5
    go_wp2
    go_ret
    exact ⟨rfl, Below.refl _ _⟩
  have hgt : ¬ ((1048576 : Int) < (n : Int)) := by omega
  go_enter Tryd.func5, Tryd.ntmps5
  go_wp2_with fail
  have BW_w : Below w.heap.size w w := Below.refl _ _
  refine (drawComposeSystems_any A n c w hn hc hx.out).mono ?_
  rintro e w1 ⟨s, t, As, At, cs, ct, rfl, ls1, ls2, lt1, lt2, es3, et3, hb_w1⟩
  unfold Sy.val
  have BW_w1 := BW_w.trans (hb_w1.mono BW_w.size)
  have es := hid es3
  have BEs_w1 : Below w1.heap.size w1 w1 := Below.refl _ _
  have et := hid et3
  have BEt_w1 : Below w1.heap.size w1 w1 := Below.refl _ _
  clear es3 et3
  go_upto_region 4 with fail
  obtain ⟨w2, hw_w2, hz_w2, hb_w2, hS_w2, hU_w2⟩ := boxed2 w1 #[.int .i64 s.al, .int .i64 s.st, .slice As s.es.length cs] 28 #[.int .i64 t.al, .int .i64 t.st, .slice At t.es.length ct] 28
  rw [hw_w2]
  clear hw_w2
  have hs0 := fun w' (hb : Below w2.heap.size w2 w') => hS_w2 0 _ rfl w' (hb.mono hz_w2)
  have hs1 := fun w' (hb : Below w2.heap.size w2 w') => hS_w2 1 _ rfl w' (hb.mono hz_w2)
  have hs2 := fun w' (hb : Below w2.heap.size w2 w') => hS_w2 2 _ rfl w' (hb.mono hz_w2)
  replace hs0 := hid hs0
  replace hs1 := hid hs1
  replace hs2 := hid hs2
  have ht0 := fun w' (hb : Below w2.heap.size w2 w') => hU_w2 0 _ rfl w' (hb.mono hz_w2)
  have ht1 := fun w' (hb : Below w2.heap.size w2 w') => hU_w2 1 _ rfl w' (hb.mono hz_w2)
  have ht2 := fun w' (hb : Below w2.heap.size w2 w') => hU_w2 2 _ rfl w' (hb.mono hz_w2)
  replace ht0 := hid ht0
  replace ht1 := hid ht1
  replace ht2 := hid ht2
  clear hS_w2 hU_w2
  have BW_w2 := BW_w1.trans (hb_w2.mono BW_w1.size)
  have BEs_w2 := BEs_w1.trans (hb_w2.mono BEs_w1.size)
  have BEt_w2 := BEt_w1.trans (hb_w2.mono BEt_w1.size)
  have Bs_w2 : Below w2.heap.size w2 w2 := Below.refl _ _
  have Bt_w2 : Below w2.heap.size w2 w2 := Below.refl _ _
  obtain ⟨X, hX⟩ : ∃ X, Hid (X = cmX s t) := ⟨_, hid rfl⟩
  obtain ⟨ok, hok⟩ : ∃ ok, Hid (ok = cmOk s t) := ⟨_, hid rfl⟩
  have ps0 := hs0.out _ Bs_w2
  have ps1 := hs1.out _ Bs_w2
  have ps2 := hs2.out _ Bs_w2
  have pt0 := ht0.out _ Bt_w2
  have pt1 := ht1.out _ Bt_w2
  have pt2 := ht2.out _ Bt_w2
  go_wp2_with fail
  have hc_x := hid (implComposeSystems_any s t As At cs ct w2 ls1 ls2 lt1 lt2 (hT.out.later BW_w2) (es.out.later BEs_w2) (et.out.later BEt_w2))
  rw [← hX.out, ← hok.out] at hc_x
  refine hc_x.out.mono ?_
  clear hc_x
  clear ps0 ps1 ps2 pt0 pt1 pt2
  rintro e w3 hpost
  replace hpost := SoOwn.read hpost
  obtain ⟨Ax, cx, rfl, lx1, lx2, ex3, -, hb_w3⟩ := hpost
  unfold Sy.val
  have BW_w3 := BW_w2.trans (hb_w3.mono BW_w2.size)
  have BEs_w3 := BEs_w2.trans (hb_w3.mono BEs_w2.size)
  have BEt_w3 := BEt_w2.trans (hb_w3.mono BEt_w2.size)
  have Bs_w3 := Bs_w2.trans (hb_w3.mono Bs_w2.size)
  have Bt_w3 := Bt_w2.trans (hb_w3.mono Bt_w2.size)
  have ex := hid ex3
  have BEx_w3 : Below w3.heap.size w3 w3 := Below.refl _ _
  clear ex3
  go_upto_region 5 with fail
  obtain ⟨w4, hw_w4, hz_w4, hb_w4, hS_w4⟩ := boxed w3 #[.int .i64 X.al, .int .i64 X.st, .slice Ax X.es.length cx] 28
  rw [hw_w4]
  clear hw_w4
  have hx0 := fun w' (hb : Below w4.heap.size w4 w') => hS_w4 0 _ rfl w' (hb.mono hz_w4)
  have hx1 := fun w' (hb : Below w4.heap.size w4 w') => hS_w4 1 _ rfl w' (hb.mono hz_w4)
  have hx2 := fun w' (hb : Below w4.heap.size w4 w') => hS_w4 2 _ rfl w' (hb.mono hz_w4)
  replace hx0 := hid hx0
  replace hx1 := hid hx1
  replace hx2 := hid hx2
  clear hS_w4
  have BW_w4 := BW_w3.trans (hb_w4.mono BW_w3.size)
  have BEs_w4 := BEs_w3.trans (hb_w4.mono BEs_w3.size)
  have BEt_w4 := BEt_w3.trans (hb_w4.mono BEt_w3.size)
  have Bs_w4 := Bs_w3.trans (hb_w4.mono Bs_w3.size)
  have Bt_w4 := Bt_w3.trans (hb_w4.mono Bt_w3.size)
  have BEx_w4 := BEx_w3.trans (hb_w4.mono BEx_w3.size)
  have Bx_w4 : Below w4.heap.size w4 w4 := Below.refl _ _
  have ps0 := hs0.out _ Bs_w4
  have ps1 := hs1.out _ Bs_w4
  have ps2 := hs2.out _ Bs_w4
  have pt0 := ht0.out _ Bt_w4
  have pt1 := ht1.out _ Bt_w4
  have pt2 := ht2.out _ Bt_w4
  go_wp2_with fail
  have hc_z := hid (specComposeSystems_any s t As At cs ct w4 ls1 ls2 lt1 lt2 (es.out.later BEs_w4) (et.out.later BEt_w4))
  rw [← hX.out, ← hok.out] at hc_z
  refine hc_z.out.mono ?_
  clear hc_z
  clear ps0 ps1 ps2 pt0 pt1 pt2
  rintro e w5 hpost
  obtain ⟨Az, cz, rfl, lz1, lz2, ez3, -, hb_w5⟩ := hpost
  unfold Sy.val
  have BW_w5 := BW_w4.trans (hb_w5.mono BW_w4.size)
  have BEs_w5 := BEs_w4.trans (hb_w5.mono BEs_w4.size)
  have BEt_w5 := BEt_w4.trans (hb_w5.mono BEt_w4.size)
  have Bs_w5 := Bs_w4.trans (hb_w5.mono Bs_w4.size)
  have Bt_w5 := Bt_w4.trans (hb_w5.mono Bt_w4.size)
  have BEx_w5 := BEx_w4.trans (hb_w5.mono BEx_w4.size)
  have Bx_w5 := Bx_w4.trans (hb_w5.mono Bx_w4.size)
  have ez := hid ez3
  have BEz_w5 : Below w5.heap.size w5 w5 := Below.refl _ _
  clear ez3
  go_upto_region 6 with fail
  obtain ⟨w6, hw_w6, hz_w6, hb_w6, hS_w6⟩ := boxed w5 #[.int .i64 X.al, .int .i64 X.st, .slice Az X.es.length cz] 28
  rw [hw_w6]
  clear hw_w6
  have hz0 := fun w' (hb : Below w6.heap.size w6 w') => hS_w6 0 _ rfl w' (hb.mono hz_w6)
  have hz1 := fun w' (hb : Below w6.heap.size w6 w') => hS_w6 1 _ rfl w' (hb.mono hz_w6)
  have hz2 := fun w' (hb : Below w6.heap.size w6 w') => hS_w6 2 _ rfl w' (hb.mono hz_w6)
  replace hz0 := hid hz0
  replace hz1 := hid hz1
  replace hz2 := hid hz2
  clear hS_w6
  have BW_w6 := BW_w5.trans (hb_w6.mono BW_w5.size)
  have BEs_w6 := BEs_w5.trans (hb_w6.mono BEs_w5.size)
  have BEt_w6 := BEt_w5.trans (hb_w6.mono BEt_w5.size)
  have Bs_w6 := Bs_w5.trans (hb_w6.mono Bs_w5.size)
  have Bt_w6 := Bt_w5.trans (hb_w6.mono Bt_w5.size)
  have BEx_w6 := BEx_w5.trans (hb_w6.mono BEx_w5.size)
  have Bx_w6 := Bx_w5.trans (hb_w6.mono Bx_w5.size)
  have BEz_w6 := BEz_w5.trans (hb_w6.mono BEz_w5.size)
  have Bz_w6 : Below w6.heap.size w6 w6 := Below.refl _ _
  cases ok
  case false =>
    have px0 := hx0.out _ Bx_w6
    have px1 := hx1.out _ Bx_w6
    have px2 := hx2.out _ Bx_w6
    have pz0 := hz0.out _ Bz_w6
    have pz1 := hz1.out _ Bz_w6
    have pz2 := hz2.out _ Bz_w6
    go_wp2_with fail
    refine (agSystems_same X Ax Az cx cz w6 lx1 lx2 lz1 lz2 (ex.out.later BEx_w6) (ez.out.later BEz_w6)).mono ?_
    clear px0 px1 px2 pz0 pz1 pz2
    rintro e w7 ⟨rfl, hb_w7⟩
    have BW_w7 := BW_w6.trans (hb_w7.mono BW_w6.size)
    have BEs_w7 := BEs_w6.trans (hb_w7.mono BEs_w6.size)
    have BEt_w7 := BEt_w6.trans (hb_w7.mono BEt_w6.size)
    have Bs_w7 := Bs_w6.trans (hb_w7.mono Bs_w6.size)
    have Bt_w7 := Bt_w6.trans (hb_w7.mono Bt_w6.size)
    have BEx_w7 := BEx_w6.trans (hb_w7.mono BEx_w6.size)
    have Bx_w7 := Bx_w6.trans (hb_w7.mono Bx_w6.size)
    have BEz_w7 := BEz_w6.trans (hb_w7.mono BEz_w6.size)
    have Bz_w7 := Bz_w6.trans (hb_w7.mono Bz_w6.size)
    have px0 := hx0.out _ Bx_w7
    have px1 := hx1.out _ Bx_w7
    have px2 := hx2.out _ Bx_w7
    have pz0 := hz0.out _ Bz_w7
    have pz1 := hz1.out _ Bz_w7
    have pz2 := hz2.out _ Bz_w7
    go_wp2_with fail
    refine (agSystems_same X Ax Az cx cz w7 lx1 lx2 lz1 lz2 (ex.out.later BEx_w7) (ez.out.later BEz_w7)).mono ?_
    clear px0 px1 px2 pz0 pz1 pz2
    rintro e w8 ⟨rfl, hb_w8⟩
    have BW_w8 := BW_w7.trans (hb_w8.mono BW_w7.size)
    have BEs_w8 := BEs_w7.trans (hb_w8.mono BEs_w7.size)
    have BEt_w8 := BEt_w7.trans (hb_w8.mono BEt_w7.size)
    have Bs_w8 := Bs_w7.trans (hb_w8.mono Bs_w7.size)
    have Bt_w8 := Bt_w7.trans (hb_w8.mono Bt_w7.size)
    have BEx_w8 := BEx_w7.trans (hb_w8.mono BEx_w7.size)
    have Bx_w8 := Bx_w7.trans (hb_w8.mono Bx_w7.size)
    have BEz_w8 := BEz_w7.trans (hb_w8.mono BEz_w7.size)
    have Bz_w8 := Bz_w7.trans (hb_w8.mono Bz_w7.size)
    go_wp2_with fail
    go_ret
    exact ⟨rfl, BW_w8⟩
  case true =>
    have px0 := hx0.out _ Bx_w6
    have px1 := hx1.out _ Bx_w6
    have px2 := hx2.out _ Bx_w6
    have pz0 := hz0.out _ Bz_w6
    have pz1 := hz1.out _ Bz_w6
    have pz2 := hz2.out _ Bz_w6
    go_wp2_with fail
    refine (agSystems_same X Ax Az cx cz w6 lx1 lx2 lz1 lz2 (ex.out.later BEx_w6) (ez.out.later BEz_w6)).mono ?_
    clear px0 px1 px2 pz0 pz1 pz2
    rintro e w7 ⟨rfl, hb_w7⟩
    have BW_w7 := BW_w6.trans (hb_w7.mono BW_w6.size)
    have BEs_w7 := BEs_w6.trans (hb_w7.mono BEs_w6.size)
    have BEt_w7 := BEt_w6.trans (hb_w7.mono BEt_w6.size)
    have Bs_w7 := Bs_w6.trans (hb_w7.mono Bs_w6.size)
    have Bt_w7 := Bt_w6.trans (hb_w7.mono Bt_w6.size)
    have BEx_w7 := BEx_w6.trans (hb_w7.mono BEx_w6.size)
    have Bx_w7 := Bx_w6.trans (hb_w7.mono Bx_w6.size)
    have BEz_w7 := BEz_w6.trans (hb_w7.mono BEz_w6.size)
    have Bz_w7 := Bz_w6.trans (hb_w7.mono Bz_w6.size)
    obtain ⟨ds, hds⟩ : ∃ v, Hid (v = detB s) := ⟨_, hid rfl⟩
    obtain ⟨dt, hdt⟩ : ∃ v, Hid (v = detB t) := ⟨_, hid rfl⟩
    cases ds
    case false =>
      have ps0 := hs0.out _ Bs_w7
      have ps1 := hs1.out _ Bs_w7
      have ps2 := hs2.out _ Bs_w7
      go_wp2_with fail
      refine (implIsDeterministic_any s As cs w7 ls1 ls2 (hT.out.later BW_w7) (es.out.later BEs_w7)).mono ?_
      clear ps0 ps1 ps2
      rintro e w8 ⟨rfl, hb_w8⟩
      have BW_w8 := BW_w7.trans (hb_w8.mono BW_w7.size)
      have BEs_w8 := BEs_w7.trans (hb_w8.mono BEs_w7.size)
      have BEt_w8 := BEt_w7.trans (hb_w8.mono BEt_w7.size)
      have Bs_w8 := Bs_w7.trans (hb_w8.mono Bs_w7.size)
      have Bt_w8 := Bt_w7.trans (hb_w8.mono Bt_w7.size)
      have BEx_w8 := BEx_w7.trans (hb_w8.mono BEx_w7.size)
      have Bx_w8 := Bx_w7.trans (hb_w8.mono Bx_w7.size)
      have BEz_w8 := BEz_w7.trans (hb_w8.mono BEz_w7.size)
      have Bz_w8 := Bz_w7.trans (hb_w8.mono Bz_w7.size)
      rw [← hds.out]
      go_wp2_with fail
      go_ret
      exact ⟨rfl, BW_w8⟩
    case true =>
      cases dt
      case false =>
        have ps0 := hs0.out _ Bs_w7
        have ps1 := hs1.out _ Bs_w7
        have ps2 := hs2.out _ Bs_w7
        go_wp2_with fail
        refine (implIsDeterministic_any s As cs w7 ls1 ls2 (hT.out.later BW_w7) (es.out.later BEs_w7)).mono ?_
        clear ps0 ps1 ps2
        rintro e w8 ⟨rfl, hb_w8⟩
        have BW_w8 := BW_w7.trans (hb_w8.mono BW_w7.size)
        have BEs_w8 := BEs_w7.trans (hb_w8.mono BEs_w7.size)
        have BEt_w8 := BEt_w7.trans (hb_w8.mono BEt_w7.size)
        have Bs_w8 := Bs_w7.trans (hb_w8.mono Bs_w7.size)
        have Bt_w8 := Bt_w7.trans (hb_w8.mono Bt_w7.size)
        have BEx_w8 := BEx_w7.trans (hb_w8.mono BEx_w7.size)
        have Bx_w8 := Bx_w7.trans (hb_w8.mono Bx_w7.size)
        have BEz_w8 := BEz_w7.trans (hb_w8.mono BEz_w7.size)
        have Bz_w8 := Bz_w7.trans (hb_w8.mono Bz_w7.size)
        rw [← hds.out]
        have pt0 := ht0.out _ Bt_w8
        have pt1 := ht1.out _ Bt_w8
        have pt2 := ht2.out _ Bt_w8
        go_wp2_with fail
        refine (implIsDeterministic_any t At ct w8 lt1 lt2 (hT.out.later BW_w8) (et.out.later BEt_w8)).mono ?_
        clear pt0 pt1 pt2
        rintro e w9 ⟨rfl, hb_w9⟩
        have BW_w9 := BW_w8.trans (hb_w9.mono BW_w8.size)
        have BEs_w9 := BEs_w8.trans (hb_w9.mono BEs_w8.size)
        have BEt_w9 := BEt_w8.trans (hb_w9.mono BEt_w8.size)
        have Bs_w9 := Bs_w8.trans (hb_w9.mono Bs_w8.size)
        have Bt_w9 := Bt_w8.trans (hb_w9.mono Bt_w8.size)
        have BEx_w9 := BEx_w8.trans (hb_w9.mono BEx_w8.size)
        have Bx_w9 := Bx_w8.trans (hb_w9.mono Bx_w8.size)
        have BEz_w9 := BEz_w8.trans (hb_w9.mono BEz_w8.size)
        have Bz_w9 := Bz_w8.trans (hb_w9.mono Bz_w8.size)
        rw [← hdt.out]
        go_wp2_with fail
        go_ret
        exact ⟨rfl, BW_w9⟩
      case true =>
        have hdx : Hid (detB X = true) := hid (by
          have h := hok.out.symm
          obtain ⟨h1, h2, h3⟩ := cmOk_parts h
          rw [hX.out, cmX_ok h]
          refine det_cm (all_two h1 h2) h3 fun y hy => ?_
          rcases List.mem_cons.1 hy with rfl | hy
          · exact hds.out.symm
          · rcases List.mem_cons.1 hy with rfl | hy
            · exact hdt.out.symm
            · cases hy)
        have ps0 := hs0.out _ Bs_w7
        have ps1 := hs1.out _ Bs_w7
        have ps2 := hs2.out _ Bs_w7
        go_wp2_with fail
        refine (implIsDeterministic_any s As cs w7 ls1 ls2 (hT.out.later BW_w7) (es.out.later BEs_w7)).mono ?_
        clear ps0 ps1 ps2
        rintro e w8 ⟨rfl, hb_w8⟩
        have BW_w8 := BW_w7.trans (hb_w8.mono BW_w7.size)
        have BEs_w8 := BEs_w7.trans (hb_w8.mono BEs_w7.size)
        have BEt_w8 := BEt_w7.trans (hb_w8.mono BEt_w7.size)
        have Bs_w8 := Bs_w7.trans (hb_w8.mono Bs_w7.size)
        have Bt_w8 := Bt_w7.trans (hb_w8.mono Bt_w7.size)
        have BEx_w8 := BEx_w7.trans (hb_w8.mono BEx_w7.size)
        have Bx_w8 := Bx_w7.trans (hb_w8.mono Bx_w7.size)
        have BEz_w8 := BEz_w7.trans (hb_w8.mono BEz_w7.size)
        have Bz_w8 := Bz_w7.trans (hb_w8.mono Bz_w7.size)
        rw [← hds.out]
        have pt0 := ht0.out _ Bt_w8
        have pt1 := ht1.out _ Bt_w8
        have pt2 := ht2.out _ Bt_w8
        go_wp2_with fail
        refine (implIsDeterministic_any t At ct w8 lt1 lt2 (hT.out.later BW_w8) (et.out.later BEt_w8)).mono ?_
        clear pt0 pt1 pt2
        rintro e w9 ⟨rfl, hb_w9⟩
        have BW_w9 := BW_w8.trans (hb_w9.mono BW_w8.size)
        have BEs_w9 := BEs_w8.trans (hb_w9.mono BEs_w8.size)
        have BEt_w9 := BEt_w8.trans (hb_w9.mono BEt_w8.size)
        have Bs_w9 := Bs_w8.trans (hb_w9.mono Bs_w8.size)
        have Bt_w9 := Bt_w8.trans (hb_w9.mono Bt_w8.size)
        have BEx_w9 := BEx_w8.trans (hb_w9.mono BEx_w8.size)
        have Bx_w9 := Bx_w8.trans (hb_w9.mono Bx_w8.size)
        have BEz_w9 := BEz_w8.trans (hb_w9.mono BEz_w8.size)
        have Bz_w9 := Bz_w8.trans (hb_w9.mono Bz_w8.size)
        rw [← hdt.out]
        have px0 := hx0.out _ Bx_w9
        have px1 := hx1.out _ Bx_w9
        have px2 := hx2.out _ Bx_w9
        go_wp2_with fail
        refine (implIsDeterministic_any X Ax cx w9 lx1 lx2 (hT.out.later BW_w9) (ex.out.later BEx_w9)).mono ?_
        clear px0 px1 px2
        rintro e w10 ⟨rfl, hb_w10⟩
        have BW_w10 := BW_w9.trans (hb_w10.mono BW_w9.size)
        have BEs_w10 := BEs_w9.trans (hb_w10.mono BEs_w9.size)
        have BEt_w10 := BEt_w9.trans (hb_w10.mono BEt_w9.size)
        have Bs_w10 := Bs_w9.trans (hb_w10.mono Bs_w9.size)
        have Bt_w10 := Bt_w9.trans (hb_w10.mono Bt_w9.size)
        have BEx_w10 := BEx_w9.trans (hb_w10.mono BEx_w9.size)
        have Bx_w10 := Bx_w9.trans (hb_w10.mono Bx_w9.size)
        have BEz_w10 := BEz_w9.trans (hb_w10.mono BEz_w9.size)
        have Bz_w10 := Bz_w9.trans (hb_w10.mono Bz_w9.size)
        rw [hdx.out]
        go_wp2_with fail
        go_ret
        exact ⟨rfl, BW_w10⟩

end Go.Proofs.YtdkjnemakkppfaaDoor

/- The law FnComposeStates. Printed by tools/gen_r9.py. -/
namespace Go.Proofs.YtdkjnemakkppfaaDoor
open Go.RowKit Go.BigFrame Go.Maps AG


set_option maxRecDepth 100000 in
set_option maxHeartbeats 16000000 in
theorem FnComposeStates_any (A : Option Addr) (n c : Nat) (w : World) (hn : n ≤ c) (hc : c ≤ 9223372036854775807) (hT : Tab w) (hx : CodeAt w A n) :
    Calls Tryd.prog 6 #[.slice A n c] w fun e w' => e = .returned (.bool true) ∧ Below w.heap.size w w' := by
  replace hT := hid hT
  replace hx := hid hx
  by_cases hlen : 1048576 < n
  · have hgt : (1048576 : Int) < (n : Int) := by omega
    go_enter Tryd.func6, Tryd.ntmps6
    go_wp2
    go_ret
    exact ⟨rfl, Below.refl _ _⟩
  have hgt : ¬ ((1048576 : Int) < (n : Int)) := by omega
  go_enter Tryd.func6, Tryd.ntmps6
  go_wp2_with fail
  have BW_w : Below w.heap.size w w := Below.refl _ _
  refine (drawComposeSystems_any A n c w hn hc hx.out).mono ?_
  rintro e w1 ⟨s, t, As, At, cs, ct, rfl, ls1, ls2, lt1, lt2, es3, et3, hb_w1⟩
  unfold Sy.val
  have BW_w1 := BW_w.trans (hb_w1.mono BW_w.size)
  have es := hid es3
  have BEs_w1 : Below w1.heap.size w1 w1 := Below.refl _ _
  have et := hid et3
  have BEt_w1 : Below w1.heap.size w1 w1 := Below.refl _ _
  clear es3 et3
  go_upto_region 4 with fail
  obtain ⟨w2, hw_w2, hz_w2, hb_w2, hS_w2, hU_w2⟩ := boxed2 w1 #[.int .i64 s.al, .int .i64 s.st, .slice As s.es.length cs] 28 #[.int .i64 t.al, .int .i64 t.st, .slice At t.es.length ct] 28
  rw [hw_w2]
  clear hw_w2
  have hs0 := fun w' (hb : Below w2.heap.size w2 w') => hS_w2 0 _ rfl w' (hb.mono hz_w2)
  have hs1 := fun w' (hb : Below w2.heap.size w2 w') => hS_w2 1 _ rfl w' (hb.mono hz_w2)
  have hs2 := fun w' (hb : Below w2.heap.size w2 w') => hS_w2 2 _ rfl w' (hb.mono hz_w2)
  replace hs0 := hid hs0
  replace hs1 := hid hs1
  replace hs2 := hid hs2
  have ht0 := fun w' (hb : Below w2.heap.size w2 w') => hU_w2 0 _ rfl w' (hb.mono hz_w2)
  have ht1 := fun w' (hb : Below w2.heap.size w2 w') => hU_w2 1 _ rfl w' (hb.mono hz_w2)
  have ht2 := fun w' (hb : Below w2.heap.size w2 w') => hU_w2 2 _ rfl w' (hb.mono hz_w2)
  replace ht0 := hid ht0
  replace ht1 := hid ht1
  replace ht2 := hid ht2
  clear hS_w2 hU_w2
  have BW_w2 := BW_w1.trans (hb_w2.mono BW_w1.size)
  have BEs_w2 := BEs_w1.trans (hb_w2.mono BEs_w1.size)
  have BEt_w2 := BEt_w1.trans (hb_w2.mono BEt_w1.size)
  have Bs_w2 : Below w2.heap.size w2 w2 := Below.refl _ _
  have Bt_w2 : Below w2.heap.size w2 w2 := Below.refl _ _
  obtain ⟨X, hX⟩ : ∃ X, Hid (X = cmX s t) := ⟨_, hid rfl⟩
  obtain ⟨ok, hok⟩ : ∃ ok, Hid (ok = cmOk s t) := ⟨_, hid rfl⟩
  have ps0 := hs0.out _ Bs_w2
  have ps1 := hs1.out _ Bs_w2
  have ps2 := hs2.out _ Bs_w2
  have pt0 := ht0.out _ Bt_w2
  have pt1 := ht1.out _ Bt_w2
  have pt2 := ht2.out _ Bt_w2
  go_wp2_with fail
  have hc_x := hid (implComposeSystems_any s t As At cs ct w2 ls1 ls2 lt1 lt2 (hT.out.later BW_w2) (es.out.later BEs_w2) (et.out.later BEt_w2))
  rw [← hX.out, ← hok.out] at hc_x
  refine hc_x.out.mono ?_
  clear hc_x
  clear ps0 ps1 ps2 pt0 pt1 pt2
  rintro e w3 hpost
  replace hpost := SoOwn.read hpost
  obtain ⟨Ax, cx, rfl, lx1, lx2, ex3, -, hb_w3⟩ := hpost
  unfold Sy.val
  have BW_w3 := BW_w2.trans (hb_w3.mono BW_w2.size)
  have BEs_w3 := BEs_w2.trans (hb_w3.mono BEs_w2.size)
  have BEt_w3 := BEt_w2.trans (hb_w3.mono BEt_w2.size)
  have Bs_w3 := Bs_w2.trans (hb_w3.mono Bs_w2.size)
  have Bt_w3 := Bt_w2.trans (hb_w3.mono Bt_w2.size)
  have ex := hid ex3
  have BEx_w3 : Below w3.heap.size w3 w3 := Below.refl _ _
  clear ex3
  go_upto_region 5 with fail
  obtain ⟨w4, hw_w4, hz_w4, hb_w4, hS_w4⟩ := boxed w3 #[.int .i64 X.al, .int .i64 X.st, .slice Ax X.es.length cx] 28
  rw [hw_w4]
  clear hw_w4
  have hx0 := fun w' (hb : Below w4.heap.size w4 w') => hS_w4 0 _ rfl w' (hb.mono hz_w4)
  have hx1 := fun w' (hb : Below w4.heap.size w4 w') => hS_w4 1 _ rfl w' (hb.mono hz_w4)
  have hx2 := fun w' (hb : Below w4.heap.size w4 w') => hS_w4 2 _ rfl w' (hb.mono hz_w4)
  replace hx0 := hid hx0
  replace hx1 := hid hx1
  replace hx2 := hid hx2
  clear hS_w4
  have BW_w4 := BW_w3.trans (hb_w4.mono BW_w3.size)
  have BEs_w4 := BEs_w3.trans (hb_w4.mono BEs_w3.size)
  have BEt_w4 := BEt_w3.trans (hb_w4.mono BEt_w3.size)
  have Bs_w4 := Bs_w3.trans (hb_w4.mono Bs_w3.size)
  have Bt_w4 := Bt_w3.trans (hb_w4.mono Bt_w3.size)
  have BEx_w4 := BEx_w3.trans (hb_w4.mono BEx_w3.size)
  have Bx_w4 : Below w4.heap.size w4 w4 := Below.refl _ _
  have ps0 := hs0.out _ Bs_w4
  have ps1 := hs1.out _ Bs_w4
  have ps2 := hs2.out _ Bs_w4
  have pt0 := ht0.out _ Bt_w4
  have pt1 := ht1.out _ Bt_w4
  have pt2 := ht2.out _ Bt_w4
  go_wp2_with fail
  have hc_z := hid (specComposeSystems_any s t As At cs ct w4 ls1 ls2 lt1 lt2 (es.out.later BEs_w4) (et.out.later BEt_w4))
  rw [← hX.out, ← hok.out] at hc_z
  refine hc_z.out.mono ?_
  clear hc_z
  clear ps0 ps1 ps2 pt0 pt1 pt2
  rintro e w5 hpost
  obtain ⟨Az, cz, rfl, lz1, lz2, ez3, -, hb_w5⟩ := hpost
  unfold Sy.val
  have BW_w5 := BW_w4.trans (hb_w5.mono BW_w4.size)
  have BEs_w5 := BEs_w4.trans (hb_w5.mono BEs_w4.size)
  have BEt_w5 := BEt_w4.trans (hb_w5.mono BEt_w4.size)
  have Bs_w5 := Bs_w4.trans (hb_w5.mono Bs_w4.size)
  have Bt_w5 := Bt_w4.trans (hb_w5.mono Bt_w4.size)
  have BEx_w5 := BEx_w4.trans (hb_w5.mono BEx_w4.size)
  have Bx_w5 := Bx_w4.trans (hb_w5.mono Bx_w4.size)
  have ez := hid ez3
  have BEz_w5 : Below w5.heap.size w5 w5 := Below.refl _ _
  clear ez3
  go_upto_region 6 with fail
  obtain ⟨w6, hw_w6, hz_w6, hb_w6, hS_w6⟩ := boxed w5 #[.int .i64 X.al, .int .i64 X.st, .slice Az X.es.length cz] 28
  rw [hw_w6]
  clear hw_w6
  have hz0 := fun w' (hb : Below w6.heap.size w6 w') => hS_w6 0 _ rfl w' (hb.mono hz_w6)
  have hz1 := fun w' (hb : Below w6.heap.size w6 w') => hS_w6 1 _ rfl w' (hb.mono hz_w6)
  have hz2 := fun w' (hb : Below w6.heap.size w6 w') => hS_w6 2 _ rfl w' (hb.mono hz_w6)
  replace hz0 := hid hz0
  replace hz1 := hid hz1
  replace hz2 := hid hz2
  clear hS_w6
  have BW_w6 := BW_w5.trans (hb_w6.mono BW_w5.size)
  have BEs_w6 := BEs_w5.trans (hb_w6.mono BEs_w5.size)
  have BEt_w6 := BEt_w5.trans (hb_w6.mono BEt_w5.size)
  have Bs_w6 := Bs_w5.trans (hb_w6.mono Bs_w5.size)
  have Bt_w6 := Bt_w5.trans (hb_w6.mono Bt_w5.size)
  have BEx_w6 := BEx_w5.trans (hb_w6.mono BEx_w5.size)
  have Bx_w6 := Bx_w5.trans (hb_w6.mono Bx_w5.size)
  have BEz_w6 := BEz_w5.trans (hb_w6.mono BEz_w5.size)
  have Bz_w6 : Below w6.heap.size w6 w6 := Below.refl _ _
  cases ok
  case false =>
    have px0 := hx0.out _ Bx_w6
    have px1 := hx1.out _ Bx_w6
    have px2 := hx2.out _ Bx_w6
    have pz0 := hz0.out _ Bz_w6
    have pz1 := hz1.out _ Bz_w6
    have pz2 := hz2.out _ Bz_w6
    go_wp2_with fail
    refine (agSystems_same X Ax Az cx cz w6 lx1 lx2 lz1 lz2 (ex.out.later BEx_w6) (ez.out.later BEz_w6)).mono ?_
    clear px0 px1 px2 pz0 pz1 pz2
    rintro e w7 ⟨rfl, hb_w7⟩
    have BW_w7 := BW_w6.trans (hb_w7.mono BW_w6.size)
    have BEs_w7 := BEs_w6.trans (hb_w7.mono BEs_w6.size)
    have BEt_w7 := BEt_w6.trans (hb_w7.mono BEt_w6.size)
    have Bs_w7 := Bs_w6.trans (hb_w7.mono Bs_w6.size)
    have Bt_w7 := Bt_w6.trans (hb_w7.mono Bt_w6.size)
    have BEx_w7 := BEx_w6.trans (hb_w7.mono BEx_w6.size)
    have Bx_w7 := Bx_w6.trans (hb_w7.mono Bx_w6.size)
    have BEz_w7 := BEz_w6.trans (hb_w7.mono BEz_w6.size)
    have Bz_w7 := Bz_w6.trans (hb_w7.mono Bz_w6.size)
    have px0 := hx0.out _ Bx_w7
    have px1 := hx1.out _ Bx_w7
    have px2 := hx2.out _ Bx_w7
    have pz0 := hz0.out _ Bz_w7
    have pz1 := hz1.out _ Bz_w7
    have pz2 := hz2.out _ Bz_w7
    go_wp2_with fail
    refine (agSystems_same X Ax Az cx cz w7 lx1 lx2 lz1 lz2 (ex.out.later BEx_w7) (ez.out.later BEz_w7)).mono ?_
    clear px0 px1 px2 pz0 pz1 pz2
    rintro e w8 ⟨rfl, hb_w8⟩
    have BW_w8 := BW_w7.trans (hb_w8.mono BW_w7.size)
    have BEs_w8 := BEs_w7.trans (hb_w8.mono BEs_w7.size)
    have BEt_w8 := BEt_w7.trans (hb_w8.mono BEt_w7.size)
    have Bs_w8 := Bs_w7.trans (hb_w8.mono Bs_w7.size)
    have Bt_w8 := Bt_w7.trans (hb_w8.mono Bt_w7.size)
    have BEx_w8 := BEx_w7.trans (hb_w8.mono BEx_w7.size)
    have Bx_w8 := Bx_w7.trans (hb_w8.mono Bx_w7.size)
    have BEz_w8 := BEz_w7.trans (hb_w8.mono BEz_w7.size)
    have Bz_w8 := Bz_w7.trans (hb_w8.mono Bz_w7.size)
    go_wp2_with fail
    go_ret
    exact ⟨rfl, BW_w8⟩
  case true =>
    have hOk_x : Hid (sysOk X = true) := hid (by rw [hX.out]; exact cmX_sys hok.out.symm)
    have hTr_y : Hid (X = trimOut X) := hid (by
      unfold trimOut
      rw [if_pos hOk_x.out]
      have h := hok.out.symm
      obtain ⟨h1, h2, h3⟩ := cmOk_parts h
      rw [hX.out, cmX_ok h]
      exact (trim_of_cm (all_two h1 h2) h3).symm)
    have hbig_x : X.es.length ≤ 1000000 := by
      have h := hok.out.symm
      obtain ⟨h1, h2, h3⟩ := cmOk_parts h
      have h4 := esTo_le (all_two h1 h2) (show [s, t].length ≤ 3 from by simp) (rnL [s, t])
      rw [esTo_all] at h4
      rw [hX.out, cmX_ok h]
      show (cmEs [s, t]).length ≤ _
      have h5 : (rnL [s, t]).length * 24576 ≤ 16 * 24576 := Nat.mul_le_mul_right _ h3
      omega
    obtain ⟨P, hP, hle⟩ : ∃ P : Int, wrap64 (s.st * t.st) = P ∧ X.st ≤ P := by
      have h := hok.out.symm
      obtain ⟨h1, h2, h3⟩ := cmOk_parts h
      have r1 := sysOk_st h1
      have r2 := sysOk_st h2
      have e1 : s.st = (s.st.toNat : Int) := by omega
      have e2 : t.st = (t.st.toNat : Int) := by omega
      have h6 := rnL_le [s, t]
      have h7 : prodL (szP [s, t]) = s.st.toNat * t.st.toNat := by show s.st.toNat * (t.st.toNat * 1) = _; rw [Nat.mul_one]
      have h8 : s.st.toNat * t.st.toNat ≤ 16 * 16 := Nat.mul_le_mul (by omega) (by omega)
      refine ⟨((s.st.toNat * t.st.toNat : Nat) : Int), ?_, ?_⟩
      · rw [e1, e2, Int.toNat_natCast, Int.toNat_natCast, ← Int.natCast_mul]
        exact IntWalk.wrap64_in _ ⟨by omega, by omega⟩
      · rw [hX.out, cmX_ok h]
        show ((rnL [s, t]).length : Int) ≤ _
        rw [h7] at h6
        omega
    have px0 := hx0.out _ Bx_w6
    have px1 := hx1.out _ Bx_w6
    have px2 := hx2.out _ Bx_w6
    have pz0 := hz0.out _ Bz_w6
    have pz1 := hz1.out _ Bz_w6
    have pz2 := hz2.out _ Bz_w6
    go_wp2_with fail
    refine (agSystems_same X Ax Az cx cz w6 lx1 lx2 lz1 lz2 (ex.out.later BEx_w6) (ez.out.later BEz_w6)).mono ?_
    clear px0 px1 px2 pz0 pz1 pz2
    rintro e w7 ⟨rfl, hb_w7⟩
    have BW_w7 := BW_w6.trans (hb_w7.mono BW_w6.size)
    have BEs_w7 := BEs_w6.trans (hb_w7.mono BEs_w6.size)
    have BEt_w7 := BEt_w6.trans (hb_w7.mono BEt_w6.size)
    have Bs_w7 := Bs_w6.trans (hb_w7.mono Bs_w6.size)
    have Bt_w7 := Bt_w6.trans (hb_w7.mono Bt_w6.size)
    have BEx_w7 := BEx_w6.trans (hb_w7.mono BEx_w6.size)
    have Bx_w7 := Bx_w6.trans (hb_w7.mono Bx_w6.size)
    have BEz_w7 := BEz_w6.trans (hb_w7.mono BEz_w6.size)
    have Bz_w7 := Bz_w6.trans (hb_w7.mono Bz_w6.size)
    have px0 := hx0.out _ Bx_w7
    have px1 := hx1.out _ Bx_w7
    have px2 := hx2.out _ Bx_w7
    go_wp2_with fail
    have hc_y := hid (implTrimSystem_any X Ax cx w7 hbig_x lx1 lx2 (hT.out.later BW_w7) (ex.out.later BEx_w7))
    unfold TrimPost at hc_y
    rw [← hTr_y.out, hOk_x.out] at hc_y
    refine hc_y.out.mono ?_
    clear hc_y
    clear px0 px1 px2
    rintro e w8 ⟨Ay, cy, rfl, ly1, ly2, ey3, hb_w8⟩
    unfold Sy.val
    have BW_w8 := BW_w7.trans (hb_w8.mono BW_w7.size)
    have BEs_w8 := BEs_w7.trans (hb_w8.mono BEs_w7.size)
    have BEt_w8 := BEt_w7.trans (hb_w8.mono BEt_w7.size)
    have Bs_w8 := Bs_w7.trans (hb_w8.mono Bs_w7.size)
    have Bt_w8 := Bt_w7.trans (hb_w8.mono Bt_w7.size)
    have BEx_w8 := BEx_w7.trans (hb_w8.mono BEx_w7.size)
    have Bx_w8 := Bx_w7.trans (hb_w8.mono Bx_w7.size)
    have BEz_w8 := BEz_w7.trans (hb_w8.mono BEz_w7.size)
    have Bz_w8 := Bz_w7.trans (hb_w8.mono Bz_w7.size)
    have ey := hid ey3
    have BEy_w8 : Below w8.heap.size w8 w8 := Below.refl _ _
    clear ey3
    go_upto_region 9 with fail
    obtain ⟨w9, hw_w9, hz_w9, hb_w9, hS_w9⟩ := boxed w8 #[.int .i64 X.al, .int .i64 X.st, .slice Ay X.es.length cy] 28
    rw [hw_w9]
    clear hw_w9
    have hy0 := fun w' (hb : Below w9.heap.size w9 w') => hS_w9 0 _ rfl w' (hb.mono hz_w9)
    have hy1 := fun w' (hb : Below w9.heap.size w9 w') => hS_w9 1 _ rfl w' (hb.mono hz_w9)
    have hy2 := fun w' (hb : Below w9.heap.size w9 w') => hS_w9 2 _ rfl w' (hb.mono hz_w9)
    replace hy0 := hid hy0
    replace hy1 := hid hy1
    replace hy2 := hid hy2
    clear hS_w9
    have BW_w9 := BW_w8.trans (hb_w9.mono BW_w8.size)
    have BEs_w9 := BEs_w8.trans (hb_w9.mono BEs_w8.size)
    have BEt_w9 := BEt_w8.trans (hb_w9.mono BEt_w8.size)
    have Bs_w9 := Bs_w8.trans (hb_w9.mono Bs_w8.size)
    have Bt_w9 := Bt_w8.trans (hb_w9.mono Bt_w8.size)
    have BEx_w9 := BEx_w8.trans (hb_w9.mono BEx_w8.size)
    have Bx_w9 := Bx_w8.trans (hb_w9.mono Bx_w8.size)
    have BEz_w9 := BEz_w8.trans (hb_w9.mono BEz_w8.size)
    have Bz_w9 := Bz_w8.trans (hb_w9.mono Bz_w8.size)
    have BEy_w9 := BEy_w8.trans (hb_w9.mono BEy_w8.size)
    have By_w9 : Below w9.heap.size w9 w9 := Below.refl _ _
    have px0 := hx0.out _ Bx_w9
    have px1 := hx1.out _ Bx_w9
    have px2 := hx2.out _ Bx_w9
    have py0 := hy0.out _ By_w9
    have py1 := hy1.out _ By_w9
    have py2 := hy2.out _ By_w9
    go_wp2_with fail
    refine (agSystems_same X Ax Ay cx cy w9 lx1 lx2 ly1 ly2 (ex.out.later BEx_w9) (ey.out.later BEy_w9)).mono ?_
    clear px0 px1 px2 py0 py1 py2
    rintro e w10 ⟨rfl, hb_w10⟩
    have BW_w10 := BW_w9.trans (hb_w10.mono BW_w9.size)
    have BEs_w10 := BEs_w9.trans (hb_w10.mono BEs_w9.size)
    have BEt_w10 := BEt_w9.trans (hb_w10.mono BEt_w9.size)
    have Bs_w10 := Bs_w9.trans (hb_w10.mono Bs_w9.size)
    have Bt_w10 := Bt_w9.trans (hb_w10.mono Bt_w9.size)
    have BEx_w10 := BEx_w9.trans (hb_w10.mono BEx_w9.size)
    have Bx_w10 := Bx_w9.trans (hb_w10.mono Bx_w9.size)
    have BEz_w10 := BEz_w9.trans (hb_w10.mono BEz_w9.size)
    have Bz_w10 := Bz_w9.trans (hb_w10.mono Bz_w9.size)
    have BEy_w10 := BEy_w9.trans (hb_w10.mono BEy_w9.size)
    have By_w10 := By_w9.trans (hb_w10.mono By_w9.size)
    have px0 := hx0.out _ Bx_w10
    have px1 := hx1.out _ Bx_w10
    have px2 := hx2.out _ Bx_w10
    have ps0 := hs0.out _ Bs_w10
    have ps1 := hs1.out _ Bs_w10
    have ps2 := hs2.out _ Bs_w10
    have pt0 := ht0.out _ Bt_w10
    have pt1 := ht1.out _ Bt_w10
    have pt2 := ht2.out _ Bt_w10
    go_wp2_with fail
    go_ret
    exact ⟨rfl, BW_w10⟩

end Go.Proofs.YtdkjnemakkppfaaDoor

/- The law FnComposeThree. Printed by tools/gen_r9b.py. -/
namespace Go.Proofs.YtdkjnemakkppfaaDoor
open Go.RowKit Go.BigFrame Go.Maps AG


set_option maxRecDepth 100000 in
set_option maxHeartbeats 16000000 in
theorem FnComposeThree_any (A A' : Option Addr) (n c n' c' : Nat) (w : World) (hn : n ≤ c) (hc : c ≤ 9223372036854775807) (hn' : n' ≤ c') (hc' : c' ≤ 9223372036854775807) (hT : Tab w) (hx : CodeAt w A n) (hx' : CodeAt w A' n') :
    Calls Tryd.prog 4 #[.slice A n c, .slice A' n' c'] w fun e w' => e = .returned (.bool true) ∧ Below w.heap.size w w' := by
  replace hT := hid hT
  replace hx := hid hx
  replace hx' := hid hx'
  by_cases hlen : 1048576 < n
  · have hgt : (1048576 : Int) < (n : Int) := by omega
    go_enter Tryd.func4, Tryd.ntmps4
    go_wp2
    go_ret
    exact ⟨rfl, Below.refl _ _⟩
  by_cases hlen' : 1048576 < n'
  · have hgt0 : ¬ ((1048576 : Int) < (n : Int)) := by omega
    have hgt : (1048576 : Int) < (n' : Int) := by omega
    go_enter Tryd.func4, Tryd.ntmps4
    go_wp2
    go_ret
    exact ⟨rfl, Below.refl _ _⟩
  have hgt : ¬ ((1048576 : Int) < (n : Int)) := by omega
  have hgt' : ¬ ((1048576 : Int) < (n' : Int)) := by omega
  go_enter Tryd.func4, Tryd.ntmps4
  go_wp2_with fail
  have BW_w : Below w.heap.size w w := Below.refl _ _
  refine (drawComposeSystems_any A n c w hn hc hx.out).mono ?_
  rintro e w1 ⟨s, t, As, At, cs, ct, rfl, ls1, ls2, lt1, lt2, es3, et3, hb_w1⟩
  unfold Sy.val
  have BW_w1 := BW_w.trans (hb_w1.mono BW_w.size)
  have es := hid es3
  have BEs_w1 : Below w1.heap.size w1 w1 := Below.refl _ _
  have et := hid et3
  have BEt_w1 : Below w1.heap.size w1 w1 := Below.refl _ _
  clear es3 et3
  go_upto_region 4 with fail
  obtain ⟨w2, hw_w2, hz_w2, hb_w2, hS_w2, hU_w2⟩ := boxed2 w1 #[.int .i64 s.al, .int .i64 s.st, .slice As s.es.length cs] 28 #[.int .i64 t.al, .int .i64 t.st, .slice At t.es.length ct] 28
  rw [hw_w2]
  clear hw_w2
  have hs0 := fun w' (hb : Below w2.heap.size w2 w') => hS_w2 0 _ rfl w' (hb.mono hz_w2)
  have hs1 := fun w' (hb : Below w2.heap.size w2 w') => hS_w2 1 _ rfl w' (hb.mono hz_w2)
  have hs2 := fun w' (hb : Below w2.heap.size w2 w') => hS_w2 2 _ rfl w' (hb.mono hz_w2)
  replace hs0 := hid hs0
  replace hs1 := hid hs1
  replace hs2 := hid hs2
  have ht0 := fun w' (hb : Below w2.heap.size w2 w') => hU_w2 0 _ rfl w' (hb.mono hz_w2)
  have ht1 := fun w' (hb : Below w2.heap.size w2 w') => hU_w2 1 _ rfl w' (hb.mono hz_w2)
  have ht2 := fun w' (hb : Below w2.heap.size w2 w') => hU_w2 2 _ rfl w' (hb.mono hz_w2)
  replace ht0 := hid ht0
  replace ht1 := hid ht1
  replace ht2 := hid ht2
  clear hS_w2 hU_w2
  have BW_w2 := BW_w1.trans (hb_w2.mono BW_w1.size)
  have BEs_w2 := BEs_w1.trans (hb_w2.mono BEs_w1.size)
  have BEt_w2 := BEt_w1.trans (hb_w2.mono BEt_w1.size)
  have Bs_w2 : Below w2.heap.size w2 w2 := Below.refl _ _
  have Bt_w2 : Below w2.heap.size w2 w2 := Below.refl _ _
  go_wp2_with fail
  refine (drawComposeSystems_any A' n' c' w2 hn' hc' (hx'.out.on BW_w2)).mono ?_
  rintro e w3 ⟨u, u', Au, Au', cu, cu', rfl, lu1, lu2, lu'1, lu'2, eu3, eu'3, hb_w3⟩
  unfold Sy.val
  have BW_w3 := BW_w2.trans (hb_w3.mono BW_w2.size)
  have BEs_w3 := BEs_w2.trans (hb_w3.mono BEs_w2.size)
  have BEt_w3 := BEt_w2.trans (hb_w3.mono BEt_w2.size)
  have Bs_w3 := Bs_w2.trans (hb_w3.mono Bs_w2.size)
  have Bt_w3 := Bt_w2.trans (hb_w3.mono Bt_w2.size)
  have eu := hid eu3
  have BEu_w3 : Below w3.heap.size w3 w3 := Below.refl _ _
  have eu' := hid eu'3
  have BEu'_w3 : Below w3.heap.size w3 w3 := Below.refl _ _
  clear eu3 eu'3
  go_upto_region 5 with fail
  obtain ⟨w4, hw_w4, hz_w4, hb_w4, hS_w4, hU_w4⟩ := boxed2 w3 #[.int .i64 u.al, .int .i64 u.st, .slice Au u.es.length cu] 28 #[.int .i64 u'.al, .int .i64 u'.st, .slice Au' u'.es.length cu'] 28
  rw [hw_w4]
  clear hw_w4
  have hu0 := fun w' (hb : Below w4.heap.size w4 w') => hS_w4 0 _ rfl w' (hb.mono hz_w4)
  have hu1 := fun w' (hb : Below w4.heap.size w4 w') => hS_w4 1 _ rfl w' (hb.mono hz_w4)
  have hu2 := fun w' (hb : Below w4.heap.size w4 w') => hS_w4 2 _ rfl w' (hb.mono hz_w4)
  replace hu0 := hid hu0
  replace hu1 := hid hu1
  replace hu2 := hid hu2
  have hu'0 := fun w' (hb : Below w4.heap.size w4 w') => hU_w4 0 _ rfl w' (hb.mono hz_w4)
  have hu'1 := fun w' (hb : Below w4.heap.size w4 w') => hU_w4 1 _ rfl w' (hb.mono hz_w4)
  have hu'2 := fun w' (hb : Below w4.heap.size w4 w') => hU_w4 2 _ rfl w' (hb.mono hz_w4)
  replace hu'0 := hid hu'0
  replace hu'1 := hid hu'1
  replace hu'2 := hid hu'2
  clear hS_w4 hU_w4
  have BW_w4 := BW_w3.trans (hb_w4.mono BW_w3.size)
  have BEs_w4 := BEs_w3.trans (hb_w4.mono BEs_w3.size)
  have BEt_w4 := BEt_w3.trans (hb_w4.mono BEt_w3.size)
  have Bs_w4 := Bs_w3.trans (hb_w4.mono Bs_w3.size)
  have Bt_w4 := Bt_w3.trans (hb_w4.mono Bt_w3.size)
  have BEu_w4 := BEu_w3.trans (hb_w4.mono BEu_w3.size)
  have BEu'_w4 := BEu'_w3.trans (hb_w4.mono BEu'_w3.size)
  have Bu_w4 : Below w4.heap.size w4 w4 := Below.refl _ _
  have Bu'_w4 : Below w4.heap.size w4 w4 := Below.refl _ _
  obtain ⟨X, hX⟩ : ∃ X, Hid (X = cmX s t) := ⟨_, hid rfl⟩
  obtain ⟨ok, hok⟩ : ∃ ok, Hid (ok = cmOk s t) := ⟨_, hid rfl⟩
  have ps0 := hs0.out _ Bs_w4
  have ps1 := hs1.out _ Bs_w4
  have ps2 := hs2.out _ Bs_w4
  have pt0 := ht0.out _ Bt_w4
  have pt1 := ht1.out _ Bt_w4
  have pt2 := ht2.out _ Bt_w4
  go_wp2_with fail
  have hc_x := hid (implComposeSystems_any s t As At cs ct w4 ls1 ls2 lt1 lt2 (hT.out.later BW_w4) (es.out.later BEs_w4) (et.out.later BEt_w4))
  rw [← hX.out, ← hok.out] at hc_x
  refine hc_x.out.mono ?_
  clear hc_x
  clear ps0 ps1 ps2 pt0 pt1 pt2
  rintro e w5 hpost
  replace hpost := SoOwn.read hpost
  obtain ⟨Ax, cx, rfl, lx1, lx2, ex3, -, hb_w5⟩ := hpost
  unfold Sy.val
  have BW_w5 := BW_w4.trans (hb_w5.mono BW_w4.size)
  have BEs_w5 := BEs_w4.trans (hb_w5.mono BEs_w4.size)
  have BEt_w5 := BEt_w4.trans (hb_w5.mono BEt_w4.size)
  have Bs_w5 := Bs_w4.trans (hb_w5.mono Bs_w4.size)
  have Bt_w5 := Bt_w4.trans (hb_w5.mono Bt_w4.size)
  have BEu_w5 := BEu_w4.trans (hb_w5.mono BEu_w4.size)
  have BEu'_w5 := BEu'_w4.trans (hb_w5.mono BEu'_w4.size)
  have Bu_w5 := Bu_w4.trans (hb_w5.mono Bu_w4.size)
  have Bu'_w5 := Bu'_w4.trans (hb_w5.mono Bu'_w4.size)
  have ex := hid ex3
  have BEx_w5 : Below w5.heap.size w5 w5 := Below.refl _ _
  clear ex3
  go_upto_region 6 with fail
  obtain ⟨w6, hw_w6, hz_w6, hb_w6, hS_w6⟩ := boxed w5 #[.int .i64 X.al, .int .i64 X.st, .slice Ax X.es.length cx] 28
  rw [hw_w6]
  clear hw_w6
  have hx0 := fun w' (hb : Below w6.heap.size w6 w') => hS_w6 0 _ rfl w' (hb.mono hz_w6)
  have hx1 := fun w' (hb : Below w6.heap.size w6 w') => hS_w6 1 _ rfl w' (hb.mono hz_w6)
  have hx2 := fun w' (hb : Below w6.heap.size w6 w') => hS_w6 2 _ rfl w' (hb.mono hz_w6)
  replace hx0 := hid hx0
  replace hx1 := hid hx1
  replace hx2 := hid hx2
  clear hS_w6
  have BW_w6 := BW_w5.trans (hb_w6.mono BW_w5.size)
  have BEs_w6 := BEs_w5.trans (hb_w6.mono BEs_w5.size)
  have BEt_w6 := BEt_w5.trans (hb_w6.mono BEt_w5.size)
  have Bs_w6 := Bs_w5.trans (hb_w6.mono Bs_w5.size)
  have Bt_w6 := Bt_w5.trans (hb_w6.mono Bt_w5.size)
  have BEu_w6 := BEu_w5.trans (hb_w6.mono BEu_w5.size)
  have BEu'_w6 := BEu'_w5.trans (hb_w6.mono BEu'_w5.size)
  have Bu_w6 := Bu_w5.trans (hb_w6.mono Bu_w5.size)
  have Bu'_w6 := Bu'_w5.trans (hb_w6.mono Bu'_w5.size)
  have BEx_w6 := BEx_w5.trans (hb_w6.mono BEx_w5.size)
  have Bx_w6 : Below w6.heap.size w6 w6 := Below.refl _ _
  have ps0 := hs0.out _ Bs_w6
  have ps1 := hs1.out _ Bs_w6
  have ps2 := hs2.out _ Bs_w6
  have pt0 := ht0.out _ Bt_w6
  have pt1 := ht1.out _ Bt_w6
  have pt2 := ht2.out _ Bt_w6
  go_wp2_with fail
  have hc_z := hid (specComposeSystems_any s t As At cs ct w6 ls1 ls2 lt1 lt2 (es.out.later BEs_w6) (et.out.later BEt_w6))
  rw [← hX.out, ← hok.out] at hc_z
  refine hc_z.out.mono ?_
  clear hc_z
  clear ps0 ps1 ps2 pt0 pt1 pt2
  rintro e w7 hpost
  obtain ⟨Az, cz, rfl, lz1, lz2, ez3, -, hb_w7⟩ := hpost
  unfold Sy.val
  have BW_w7 := BW_w6.trans (hb_w7.mono BW_w6.size)
  have BEs_w7 := BEs_w6.trans (hb_w7.mono BEs_w6.size)
  have BEt_w7 := BEt_w6.trans (hb_w7.mono BEt_w6.size)
  have Bs_w7 := Bs_w6.trans (hb_w7.mono Bs_w6.size)
  have Bt_w7 := Bt_w6.trans (hb_w7.mono Bt_w6.size)
  have BEu_w7 := BEu_w6.trans (hb_w7.mono BEu_w6.size)
  have BEu'_w7 := BEu'_w6.trans (hb_w7.mono BEu'_w6.size)
  have Bu_w7 := Bu_w6.trans (hb_w7.mono Bu_w6.size)
  have Bu'_w7 := Bu'_w6.trans (hb_w7.mono Bu'_w6.size)
  have BEx_w7 := BEx_w6.trans (hb_w7.mono BEx_w6.size)
  have Bx_w7 := Bx_w6.trans (hb_w7.mono Bx_w6.size)
  have ez := hid ez3
  have BEz_w7 : Below w7.heap.size w7 w7 := Below.refl _ _
  clear ez3
  go_upto_region 7 with fail
  obtain ⟨w8, hw_w8, hz_w8, hb_w8, hS_w8⟩ := boxed w7 #[.int .i64 X.al, .int .i64 X.st, .slice Az X.es.length cz] 28
  rw [hw_w8]
  clear hw_w8
  have hz0 := fun w' (hb : Below w8.heap.size w8 w') => hS_w8 0 _ rfl w' (hb.mono hz_w8)
  have hz1 := fun w' (hb : Below w8.heap.size w8 w') => hS_w8 1 _ rfl w' (hb.mono hz_w8)
  have hz2 := fun w' (hb : Below w8.heap.size w8 w') => hS_w8 2 _ rfl w' (hb.mono hz_w8)
  replace hz0 := hid hz0
  replace hz1 := hid hz1
  replace hz2 := hid hz2
  clear hS_w8
  have BW_w8 := BW_w7.trans (hb_w8.mono BW_w7.size)
  have BEs_w8 := BEs_w7.trans (hb_w8.mono BEs_w7.size)
  have BEt_w8 := BEt_w7.trans (hb_w8.mono BEt_w7.size)
  have Bs_w8 := Bs_w7.trans (hb_w8.mono Bs_w7.size)
  have Bt_w8 := Bt_w7.trans (hb_w8.mono Bt_w7.size)
  have BEu_w8 := BEu_w7.trans (hb_w8.mono BEu_w7.size)
  have BEu'_w8 := BEu'_w7.trans (hb_w8.mono BEu'_w7.size)
  have Bu_w8 := Bu_w7.trans (hb_w8.mono Bu_w7.size)
  have Bu'_w8 := Bu'_w7.trans (hb_w8.mono Bu'_w7.size)
  have BEx_w8 := BEx_w7.trans (hb_w8.mono BEx_w7.size)
  have Bx_w8 := Bx_w7.trans (hb_w8.mono Bx_w7.size)
  have BEz_w8 := BEz_w7.trans (hb_w8.mono BEz_w7.size)
  have Bz_w8 : Below w8.heap.size w8 w8 := Below.refl _ _
  cases ok
  case false =>
    have px0 := hx0.out _ Bx_w8
    have px1 := hx1.out _ Bx_w8
    have px2 := hx2.out _ Bx_w8
    have pz0 := hz0.out _ Bz_w8
    have pz1 := hz1.out _ Bz_w8
    have pz2 := hz2.out _ Bz_w8
    go_wp2_with fail
    refine (agSystems_same X Ax Az cx cz w8 lx1 lx2 lz1 lz2 (ex.out.later BEx_w8) (ez.out.later BEz_w8)).mono ?_
    clear px0 px1 px2 pz0 pz1 pz2
    rintro e w9 ⟨rfl, hb_w9⟩
    have BW_w9 := BW_w8.trans (hb_w9.mono BW_w8.size)
    have BEs_w9 := BEs_w8.trans (hb_w9.mono BEs_w8.size)
    have BEt_w9 := BEt_w8.trans (hb_w9.mono BEt_w8.size)
    have Bs_w9 := Bs_w8.trans (hb_w9.mono Bs_w8.size)
    have Bt_w9 := Bt_w8.trans (hb_w9.mono Bt_w8.size)
    have BEu_w9 := BEu_w8.trans (hb_w9.mono BEu_w8.size)
    have BEu'_w9 := BEu'_w8.trans (hb_w9.mono BEu'_w8.size)
    have Bu_w9 := Bu_w8.trans (hb_w9.mono Bu_w8.size)
    have Bu'_w9 := Bu'_w8.trans (hb_w9.mono Bu'_w8.size)
    have BEx_w9 := BEx_w8.trans (hb_w9.mono BEx_w8.size)
    have Bx_w9 := Bx_w8.trans (hb_w9.mono Bx_w8.size)
    have BEz_w9 := BEz_w8.trans (hb_w9.mono BEz_w8.size)
    have Bz_w9 := Bz_w8.trans (hb_w9.mono Bz_w8.size)
    have px0 := hx0.out _ Bx_w9
    have px1 := hx1.out _ Bx_w9
    have px2 := hx2.out _ Bx_w9
    have pz0 := hz0.out _ Bz_w9
    have pz1 := hz1.out _ Bz_w9
    have pz2 := hz2.out _ Bz_w9
    go_wp2_with fail
    refine (agSystems_same X Ax Az cx cz w9 lx1 lx2 lz1 lz2 (ex.out.later BEx_w9) (ez.out.later BEz_w9)).mono ?_
    clear px0 px1 px2 pz0 pz1 pz2
    rintro e w10 ⟨rfl, hb_w10⟩
    have BW_w10 := BW_w9.trans (hb_w10.mono BW_w9.size)
    have BEs_w10 := BEs_w9.trans (hb_w10.mono BEs_w9.size)
    have BEt_w10 := BEt_w9.trans (hb_w10.mono BEt_w9.size)
    have Bs_w10 := Bs_w9.trans (hb_w10.mono Bs_w9.size)
    have Bt_w10 := Bt_w9.trans (hb_w10.mono Bt_w9.size)
    have BEu_w10 := BEu_w9.trans (hb_w10.mono BEu_w9.size)
    have BEu'_w10 := BEu'_w9.trans (hb_w10.mono BEu'_w9.size)
    have Bu_w10 := Bu_w9.trans (hb_w10.mono Bu_w9.size)
    have Bu'_w10 := Bu'_w9.trans (hb_w10.mono Bu'_w9.size)
    have BEx_w10 := BEx_w9.trans (hb_w10.mono BEx_w9.size)
    have Bx_w10 := Bx_w9.trans (hb_w10.mono Bx_w9.size)
    have BEz_w10 := BEz_w9.trans (hb_w10.mono BEz_w9.size)
    have Bz_w10 := Bz_w9.trans (hb_w10.mono Bz_w9.size)
    go_wp2_with fail
    go_ret
    exact ⟨rfl, BW_w10⟩
  case true =>
    have px0 := hx0.out _ Bx_w8
    have px1 := hx1.out _ Bx_w8
    have px2 := hx2.out _ Bx_w8
    have pz0 := hz0.out _ Bz_w8
    have pz1 := hz1.out _ Bz_w8
    have pz2 := hz2.out _ Bz_w8
    go_wp2_with fail
    refine (agSystems_same X Ax Az cx cz w8 lx1 lx2 lz1 lz2 (ex.out.later BEx_w8) (ez.out.later BEz_w8)).mono ?_
    clear px0 px1 px2 pz0 pz1 pz2
    rintro e w9 ⟨rfl, hb_w9⟩
    have BW_w9 := BW_w8.trans (hb_w9.mono BW_w8.size)
    have BEs_w9 := BEs_w8.trans (hb_w9.mono BEs_w8.size)
    have BEt_w9 := BEt_w8.trans (hb_w9.mono BEt_w8.size)
    have Bs_w9 := Bs_w8.trans (hb_w9.mono Bs_w8.size)
    have Bt_w9 := Bt_w8.trans (hb_w9.mono Bt_w8.size)
    have BEu_w9 := BEu_w8.trans (hb_w9.mono BEu_w8.size)
    have BEu'_w9 := BEu'_w8.trans (hb_w9.mono BEu'_w8.size)
    have Bu_w9 := Bu_w8.trans (hb_w9.mono Bu_w8.size)
    have Bu'_w9 := Bu'_w8.trans (hb_w9.mono Bu'_w8.size)
    have BEx_w9 := BEx_w8.trans (hb_w9.mono BEx_w8.size)
    have Bx_w9 := Bx_w8.trans (hb_w9.mono Bx_w8.size)
    have BEz_w9 := BEz_w8.trans (hb_w9.mono BEz_w8.size)
    have Bz_w9 := Bz_w8.trans (hb_w9.mono Bz_w8.size)
    obtain ⟨Y, hY⟩ : ∃ Y, Hid (Y = cmX t u) := ⟨_, hid rfl⟩
    obtain ⟨k2, hk2⟩ : ∃ ok, Hid (ok = cmOk t u) := ⟨_, hid rfl⟩
    obtain ⟨P, hP⟩ : ∃ Y, Hid (Y = cmX X u) := ⟨_, hid rfl⟩
    obtain ⟨k1, hk1⟩ : ∃ ok, Hid (ok = cmOk X u) := ⟨_, hid rfl⟩
    have px0 := hx0.out _ Bx_w9
    have px1 := hx1.out _ Bx_w9
    have px2 := hx2.out _ Bx_w9
    have pu0 := hu0.out _ Bu_w9
    have pu1 := hu1.out _ Bu_w9
    have pu2 := hu2.out _ Bu_w9
    go_wp2_with fail
    have hc_p := hid (implComposeSystems_any X u Ax Au cx cu w9 lx1 lx2 lu1 lu2 (hT.out.later BW_w9) (ex.out.later BEx_w9) (eu.out.later BEu_w9))
    rw [← hP.out, ← hk1.out] at hc_p
    refine hc_p.out.mono ?_
    clear hc_p
    clear px0 px1 px2 pu0 pu1 pu2
    rintro e w10 hpost
    replace hpost := SoOwn.read hpost
    obtain ⟨Ap, cp, rfl, lp1, lp2, ep3, -, hb_w10⟩ := hpost
    unfold Sy.val
    have BW_w10 := BW_w9.trans (hb_w10.mono BW_w9.size)
    have BEs_w10 := BEs_w9.trans (hb_w10.mono BEs_w9.size)
    have BEt_w10 := BEt_w9.trans (hb_w10.mono BEt_w9.size)
    have Bs_w10 := Bs_w9.trans (hb_w10.mono Bs_w9.size)
    have Bt_w10 := Bt_w9.trans (hb_w10.mono Bt_w9.size)
    have BEu_w10 := BEu_w9.trans (hb_w10.mono BEu_w9.size)
    have BEu'_w10 := BEu'_w9.trans (hb_w10.mono BEu'_w9.size)
    have Bu_w10 := Bu_w9.trans (hb_w10.mono Bu_w9.size)
    have Bu'_w10 := Bu'_w9.trans (hb_w10.mono Bu'_w9.size)
    have BEx_w10 := BEx_w9.trans (hb_w10.mono BEx_w9.size)
    have Bx_w10 := Bx_w9.trans (hb_w10.mono Bx_w9.size)
    have BEz_w10 := BEz_w9.trans (hb_w10.mono BEz_w9.size)
    have Bz_w10 := Bz_w9.trans (hb_w10.mono Bz_w9.size)
    have ep := hid ep3
    have BEp_w10 : Below w10.heap.size w10 w10 := Below.refl _ _
    clear ep3
    go_upto_region 10 with fail
    obtain ⟨w11, hw_w11, hz_w11, hb_w11, hS_w11⟩ := boxed w10 #[.int .i64 P.al, .int .i64 P.st, .slice Ap P.es.length cp] 28
    rw [hw_w11]
    clear hw_w11
    have hp0 := fun w' (hb : Below w11.heap.size w11 w') => hS_w11 0 _ rfl w' (hb.mono hz_w11)
    have hp1 := fun w' (hb : Below w11.heap.size w11 w') => hS_w11 1 _ rfl w' (hb.mono hz_w11)
    have hp2 := fun w' (hb : Below w11.heap.size w11 w') => hS_w11 2 _ rfl w' (hb.mono hz_w11)
    replace hp0 := hid hp0
    replace hp1 := hid hp1
    replace hp2 := hid hp2
    clear hS_w11
    have BW_w11 := BW_w10.trans (hb_w11.mono BW_w10.size)
    have BEs_w11 := BEs_w10.trans (hb_w11.mono BEs_w10.size)
    have BEt_w11 := BEt_w10.trans (hb_w11.mono BEt_w10.size)
    have Bs_w11 := Bs_w10.trans (hb_w11.mono Bs_w10.size)
    have Bt_w11 := Bt_w10.trans (hb_w11.mono Bt_w10.size)
    have BEu_w11 := BEu_w10.trans (hb_w11.mono BEu_w10.size)
    have BEu'_w11 := BEu'_w10.trans (hb_w11.mono BEu'_w10.size)
    have Bu_w11 := Bu_w10.trans (hb_w11.mono Bu_w10.size)
    have Bu'_w11 := Bu'_w10.trans (hb_w11.mono Bu'_w10.size)
    have BEx_w11 := BEx_w10.trans (hb_w11.mono BEx_w10.size)
    have Bx_w11 := Bx_w10.trans (hb_w11.mono Bx_w10.size)
    have BEz_w11 := BEz_w10.trans (hb_w11.mono BEz_w10.size)
    have Bz_w11 := Bz_w10.trans (hb_w11.mono Bz_w10.size)
    have BEp_w11 := BEp_w10.trans (hb_w11.mono BEp_w10.size)
    have Bp_w11 : Below w11.heap.size w11 w11 := Below.refl _ _
    have pt0 := ht0.out _ Bt_w11
    have pt1 := ht1.out _ Bt_w11
    have pt2 := ht2.out _ Bt_w11
    have pu0 := hu0.out _ Bu_w11
    have pu1 := hu1.out _ Bu_w11
    have pu2 := hu2.out _ Bu_w11
    go_wp2_with fail
    have hc_y := hid (implComposeSystems_any t u At Au ct cu w11 lt1 lt2 lu1 lu2 (hT.out.later BW_w11) (et.out.later BEt_w11) (eu.out.later BEu_w11))
    rw [← hY.out, ← hk2.out] at hc_y
    refine hc_y.out.mono ?_
    clear hc_y
    clear pt0 pt1 pt2 pu0 pu1 pu2
    rintro e w12 hpost
    replace hpost := SoOwn.read hpost
    obtain ⟨Ay, cy, rfl, ly1, ly2, ey3, -, hb_w12⟩ := hpost
    unfold Sy.val
    have BW_w12 := BW_w11.trans (hb_w12.mono BW_w11.size)
    have BEs_w12 := BEs_w11.trans (hb_w12.mono BEs_w11.size)
    have BEt_w12 := BEt_w11.trans (hb_w12.mono BEt_w11.size)
    have Bs_w12 := Bs_w11.trans (hb_w12.mono Bs_w11.size)
    have Bt_w12 := Bt_w11.trans (hb_w12.mono Bt_w11.size)
    have BEu_w12 := BEu_w11.trans (hb_w12.mono BEu_w11.size)
    have BEu'_w12 := BEu'_w11.trans (hb_w12.mono BEu'_w11.size)
    have Bu_w12 := Bu_w11.trans (hb_w12.mono Bu_w11.size)
    have Bu'_w12 := Bu'_w11.trans (hb_w12.mono Bu'_w11.size)
    have BEx_w12 := BEx_w11.trans (hb_w12.mono BEx_w11.size)
    have Bx_w12 := Bx_w11.trans (hb_w12.mono Bx_w11.size)
    have BEz_w12 := BEz_w11.trans (hb_w12.mono BEz_w11.size)
    have Bz_w12 := Bz_w11.trans (hb_w12.mono Bz_w11.size)
    have BEp_w12 := BEp_w11.trans (hb_w12.mono BEp_w11.size)
    have Bp_w12 := Bp_w11.trans (hb_w12.mono Bp_w11.size)
    have ey := hid ey3
    have BEy_w12 : Below w12.heap.size w12 w12 := Below.refl _ _
    clear ey3
    go_upto_region 11 with fail
    obtain ⟨w13, hw_w13, hz_w13, hb_w13, hS_w13⟩ := boxed w12 #[.int .i64 Y.al, .int .i64 Y.st, .slice Ay Y.es.length cy] 28
    rw [hw_w13]
    clear hw_w13
    have hy0 := fun w' (hb : Below w13.heap.size w13 w') => hS_w13 0 _ rfl w' (hb.mono hz_w13)
    have hy1 := fun w' (hb : Below w13.heap.size w13 w') => hS_w13 1 _ rfl w' (hb.mono hz_w13)
    have hy2 := fun w' (hb : Below w13.heap.size w13 w') => hS_w13 2 _ rfl w' (hb.mono hz_w13)
    replace hy0 := hid hy0
    replace hy1 := hid hy1
    replace hy2 := hid hy2
    clear hS_w13
    have BW_w13 := BW_w12.trans (hb_w13.mono BW_w12.size)
    have BEs_w13 := BEs_w12.trans (hb_w13.mono BEs_w12.size)
    have BEt_w13 := BEt_w12.trans (hb_w13.mono BEt_w12.size)
    have Bs_w13 := Bs_w12.trans (hb_w13.mono Bs_w12.size)
    have Bt_w13 := Bt_w12.trans (hb_w13.mono Bt_w12.size)
    have BEu_w13 := BEu_w12.trans (hb_w13.mono BEu_w12.size)
    have BEu'_w13 := BEu'_w12.trans (hb_w13.mono BEu'_w12.size)
    have Bu_w13 := Bu_w12.trans (hb_w13.mono Bu_w12.size)
    have Bu'_w13 := Bu'_w12.trans (hb_w13.mono Bu'_w12.size)
    have BEx_w13 := BEx_w12.trans (hb_w13.mono BEx_w12.size)
    have Bx_w13 := Bx_w12.trans (hb_w13.mono Bx_w12.size)
    have BEz_w13 := BEz_w12.trans (hb_w13.mono BEz_w12.size)
    have Bz_w13 := Bz_w12.trans (hb_w13.mono Bz_w12.size)
    have BEp_w13 := BEp_w12.trans (hb_w13.mono BEp_w12.size)
    have Bp_w13 := Bp_w12.trans (hb_w13.mono Bp_w12.size)
    have BEy_w13 := BEy_w12.trans (hb_w13.mono BEy_w12.size)
    have By_w13 : Below w13.heap.size w13 w13 := Below.refl _ _
    cases k2
    case false =>
      obtain ⟨Q, hQ⟩ : ∃ Q, Hid (Q = cmX s Y) := ⟨_, hid rfl⟩
      obtain ⟨k3, hk3⟩ : ∃ ok, Hid (ok = cmOk s Y) := ⟨_, hid rfl⟩
      have ps0 := hs0.out _ Bs_w13
      have ps1 := hs1.out _ Bs_w13
      have ps2 := hs2.out _ Bs_w13
      have py0 := hy0.out _ By_w13
      have py1 := hy1.out _ By_w13
      have py2 := hy2.out _ By_w13
      go_wp2_with fail
      have hc_q := hid (implComposeSystems_any s Y As Ay cs cy w13 ls1 ls2 ly1 ly2 (hT.out.later BW_w13) (es.out.later BEs_w13) (ey.out.later BEy_w13))
      rw [← hQ.out, ← hk3.out] at hc_q
      refine hc_q.out.mono ?_
      clear hc_q
      clear ps0 ps1 ps2 py0 py1 py2
      rintro e w14 hpost
      replace hpost := SoOwn.read hpost
      obtain ⟨Aq, cq, rfl, lq1, lq2, eq3, -, hb_w14⟩ := hpost
      unfold Sy.val
      have BW_w14 := BW_w13.trans (hb_w14.mono BW_w13.size)
      have BEs_w14 := BEs_w13.trans (hb_w14.mono BEs_w13.size)
      have BEt_w14 := BEt_w13.trans (hb_w14.mono BEt_w13.size)
      have Bs_w14 := Bs_w13.trans (hb_w14.mono Bs_w13.size)
      have Bt_w14 := Bt_w13.trans (hb_w14.mono Bt_w13.size)
      have BEu_w14 := BEu_w13.trans (hb_w14.mono BEu_w13.size)
      have BEu'_w14 := BEu'_w13.trans (hb_w14.mono BEu'_w13.size)
      have Bu_w14 := Bu_w13.trans (hb_w14.mono Bu_w13.size)
      have Bu'_w14 := Bu'_w13.trans (hb_w14.mono Bu'_w13.size)
      have BEx_w14 := BEx_w13.trans (hb_w14.mono BEx_w13.size)
      have Bx_w14 := Bx_w13.trans (hb_w14.mono Bx_w13.size)
      have BEz_w14 := BEz_w13.trans (hb_w14.mono BEz_w13.size)
      have Bz_w14 := Bz_w13.trans (hb_w14.mono Bz_w13.size)
      have BEp_w14 := BEp_w13.trans (hb_w14.mono BEp_w13.size)
      have Bp_w14 := Bp_w13.trans (hb_w14.mono Bp_w13.size)
      have BEy_w14 := BEy_w13.trans (hb_w14.mono BEy_w13.size)
      have By_w14 := By_w13.trans (hb_w14.mono By_w13.size)
      have eq := hid eq3
      have BEq_w14 : Below w14.heap.size w14 w14 := Below.refl _ _
      clear eq3
      go_upto_region 12 with fail
      obtain ⟨w15, hw_w15, hz_w15, hb_w15, hS_w15⟩ := boxed w14 #[.int .i64 Q.al, .int .i64 Q.st, .slice Aq Q.es.length cq] 28
      rw [hw_w15]
      clear hw_w15
      have hq0 := fun w' (hb : Below w15.heap.size w15 w') => hS_w15 0 _ rfl w' (hb.mono hz_w15)
      have hq1 := fun w' (hb : Below w15.heap.size w15 w') => hS_w15 1 _ rfl w' (hb.mono hz_w15)
      have hq2 := fun w' (hb : Below w15.heap.size w15 w') => hS_w15 2 _ rfl w' (hb.mono hz_w15)
      replace hq0 := hid hq0
      replace hq1 := hid hq1
      replace hq2 := hid hq2
      clear hS_w15
      have BW_w15 := BW_w14.trans (hb_w15.mono BW_w14.size)
      have BEs_w15 := BEs_w14.trans (hb_w15.mono BEs_w14.size)
      have BEt_w15 := BEt_w14.trans (hb_w15.mono BEt_w14.size)
      have Bs_w15 := Bs_w14.trans (hb_w15.mono Bs_w14.size)
      have Bt_w15 := Bt_w14.trans (hb_w15.mono Bt_w14.size)
      have BEu_w15 := BEu_w14.trans (hb_w15.mono BEu_w14.size)
      have BEu'_w15 := BEu'_w14.trans (hb_w15.mono BEu'_w14.size)
      have Bu_w15 := Bu_w14.trans (hb_w15.mono Bu_w14.size)
      have Bu'_w15 := Bu'_w14.trans (hb_w15.mono Bu'_w14.size)
      have BEx_w15 := BEx_w14.trans (hb_w15.mono BEx_w14.size)
      have Bx_w15 := Bx_w14.trans (hb_w15.mono Bx_w14.size)
      have BEz_w15 := BEz_w14.trans (hb_w15.mono BEz_w14.size)
      have Bz_w15 := Bz_w14.trans (hb_w15.mono Bz_w14.size)
      have BEp_w15 := BEp_w14.trans (hb_w15.mono BEp_w14.size)
      have Bp_w15 := Bp_w14.trans (hb_w15.mono Bp_w14.size)
      have BEy_w15 := BEy_w14.trans (hb_w15.mono BEy_w14.size)
      have By_w15 := By_w14.trans (hb_w15.mono By_w14.size)
      have BEq_w15 := BEq_w14.trans (hb_w15.mono BEq_w14.size)
      have Bq_w15 : Below w15.heap.size w15 w15 := Below.refl _ _
      go_wp2_with fail
      go_wp2_with fail
      go_ret
      exact ⟨rfl, BW_w15⟩
    case true =>
      have h3 := cm_three hok.out.symm hk2.out.symm
      have hQ : Hid (P = cmX s Y) := hid (by rw [hP.out, hX.out, hY.out]; exact h3.2)
      have hk3 : Hid (k1 = cmOk s Y) := hid (by rw [hk1.out, hX.out, hY.out]; exact h3.1)
      clear h3
      cases k1
      case false =>
        have ps0 := hs0.out _ Bs_w13
        have ps1 := hs1.out _ Bs_w13
        have ps2 := hs2.out _ Bs_w13
        have py0 := hy0.out _ By_w13
        have py1 := hy1.out _ By_w13
        have py2 := hy2.out _ By_w13
        go_wp2_with fail
        have hc_q := hid (implComposeSystems_any s Y As Ay cs cy w13 ls1 ls2 ly1 ly2 (hT.out.later BW_w13) (es.out.later BEs_w13) (ey.out.later BEy_w13))
        rw [← hQ.out, ← hk3.out] at hc_q
        refine hc_q.out.mono ?_
        clear hc_q
        clear ps0 ps1 ps2 py0 py1 py2
        rintro e w14 hpost
        replace hpost := SoOwn.read hpost
        obtain ⟨Aq, cq, rfl, lq1, lq2, eq3, -, hb_w14⟩ := hpost
        unfold Sy.val
        have BW_w14 := BW_w13.trans (hb_w14.mono BW_w13.size)
        have BEs_w14 := BEs_w13.trans (hb_w14.mono BEs_w13.size)
        have BEt_w14 := BEt_w13.trans (hb_w14.mono BEt_w13.size)
        have Bs_w14 := Bs_w13.trans (hb_w14.mono Bs_w13.size)
        have Bt_w14 := Bt_w13.trans (hb_w14.mono Bt_w13.size)
        have BEu_w14 := BEu_w13.trans (hb_w14.mono BEu_w13.size)
        have BEu'_w14 := BEu'_w13.trans (hb_w14.mono BEu'_w13.size)
        have Bu_w14 := Bu_w13.trans (hb_w14.mono Bu_w13.size)
        have Bu'_w14 := Bu'_w13.trans (hb_w14.mono Bu'_w13.size)
        have BEx_w14 := BEx_w13.trans (hb_w14.mono BEx_w13.size)
        have Bx_w14 := Bx_w13.trans (hb_w14.mono Bx_w13.size)
        have BEz_w14 := BEz_w13.trans (hb_w14.mono BEz_w13.size)
        have Bz_w14 := Bz_w13.trans (hb_w14.mono Bz_w13.size)
        have BEp_w14 := BEp_w13.trans (hb_w14.mono BEp_w13.size)
        have Bp_w14 := Bp_w13.trans (hb_w14.mono Bp_w13.size)
        have BEy_w14 := BEy_w13.trans (hb_w14.mono BEy_w13.size)
        have By_w14 := By_w13.trans (hb_w14.mono By_w13.size)
        have eq := hid eq3
        have BEq_w14 : Below w14.heap.size w14 w14 := Below.refl _ _
        clear eq3
        go_upto_region 12 with fail
        obtain ⟨w15, hw_w15, hz_w15, hb_w15, hS_w15⟩ := boxed w14 #[.int .i64 P.al, .int .i64 P.st, .slice Aq P.es.length cq] 28
        rw [hw_w15]
        clear hw_w15
        have hq0 := fun w' (hb : Below w15.heap.size w15 w') => hS_w15 0 _ rfl w' (hb.mono hz_w15)
        have hq1 := fun w' (hb : Below w15.heap.size w15 w') => hS_w15 1 _ rfl w' (hb.mono hz_w15)
        have hq2 := fun w' (hb : Below w15.heap.size w15 w') => hS_w15 2 _ rfl w' (hb.mono hz_w15)
        replace hq0 := hid hq0
        replace hq1 := hid hq1
        replace hq2 := hid hq2
        clear hS_w15
        have BW_w15 := BW_w14.trans (hb_w15.mono BW_w14.size)
        have BEs_w15 := BEs_w14.trans (hb_w15.mono BEs_w14.size)
        have BEt_w15 := BEt_w14.trans (hb_w15.mono BEt_w14.size)
        have Bs_w15 := Bs_w14.trans (hb_w15.mono Bs_w14.size)
        have Bt_w15 := Bt_w14.trans (hb_w15.mono Bt_w14.size)
        have BEu_w15 := BEu_w14.trans (hb_w15.mono BEu_w14.size)
        have BEu'_w15 := BEu'_w14.trans (hb_w15.mono BEu'_w14.size)
        have Bu_w15 := Bu_w14.trans (hb_w15.mono Bu_w14.size)
        have Bu'_w15 := Bu'_w14.trans (hb_w15.mono Bu'_w14.size)
        have BEx_w15 := BEx_w14.trans (hb_w15.mono BEx_w14.size)
        have Bx_w15 := Bx_w14.trans (hb_w15.mono Bx_w14.size)
        have BEz_w15 := BEz_w14.trans (hb_w15.mono BEz_w14.size)
        have Bz_w15 := Bz_w14.trans (hb_w15.mono Bz_w14.size)
        have BEp_w15 := BEp_w14.trans (hb_w15.mono BEp_w14.size)
        have Bp_w15 := Bp_w14.trans (hb_w15.mono Bp_w14.size)
        have BEy_w15 := BEy_w14.trans (hb_w15.mono BEy_w14.size)
        have By_w15 := By_w14.trans (hb_w15.mono By_w14.size)
        have BEq_w15 := BEq_w14.trans (hb_w15.mono BEq_w14.size)
        have Bq_w15 : Below w15.heap.size w15 w15 := Below.refl _ _
        go_wp2_with fail
        go_wp2_with fail
        go_ret
        exact ⟨rfl, BW_w15⟩
      case true =>
        have ps0 := hs0.out _ Bs_w13
        have ps1 := hs1.out _ Bs_w13
        have ps2 := hs2.out _ Bs_w13
        have py0 := hy0.out _ By_w13
        have py1 := hy1.out _ By_w13
        have py2 := hy2.out _ By_w13
        go_wp2_with fail
        have hc_q := hid (implComposeSystems_any s Y As Ay cs cy w13 ls1 ls2 ly1 ly2 (hT.out.later BW_w13) (es.out.later BEs_w13) (ey.out.later BEy_w13))
        rw [← hQ.out, ← hk3.out] at hc_q
        refine hc_q.out.mono ?_
        clear hc_q
        clear ps0 ps1 ps2 py0 py1 py2
        rintro e w14 hpost
        replace hpost := SoOwn.read hpost
        obtain ⟨Aq, cq, rfl, lq1, lq2, eq3, -, hb_w14⟩ := hpost
        unfold Sy.val
        have BW_w14 := BW_w13.trans (hb_w14.mono BW_w13.size)
        have BEs_w14 := BEs_w13.trans (hb_w14.mono BEs_w13.size)
        have BEt_w14 := BEt_w13.trans (hb_w14.mono BEt_w13.size)
        have Bs_w14 := Bs_w13.trans (hb_w14.mono Bs_w13.size)
        have Bt_w14 := Bt_w13.trans (hb_w14.mono Bt_w13.size)
        have BEu_w14 := BEu_w13.trans (hb_w14.mono BEu_w13.size)
        have BEu'_w14 := BEu'_w13.trans (hb_w14.mono BEu'_w13.size)
        have Bu_w14 := Bu_w13.trans (hb_w14.mono Bu_w13.size)
        have Bu'_w14 := Bu'_w13.trans (hb_w14.mono Bu'_w13.size)
        have BEx_w14 := BEx_w13.trans (hb_w14.mono BEx_w13.size)
        have Bx_w14 := Bx_w13.trans (hb_w14.mono Bx_w13.size)
        have BEz_w14 := BEz_w13.trans (hb_w14.mono BEz_w13.size)
        have Bz_w14 := Bz_w13.trans (hb_w14.mono Bz_w13.size)
        have BEp_w14 := BEp_w13.trans (hb_w14.mono BEp_w13.size)
        have Bp_w14 := Bp_w13.trans (hb_w14.mono Bp_w13.size)
        have BEy_w14 := BEy_w13.trans (hb_w14.mono BEy_w13.size)
        have By_w14 := By_w13.trans (hb_w14.mono By_w13.size)
        have eq := hid eq3
        have BEq_w14 : Below w14.heap.size w14 w14 := Below.refl _ _
        clear eq3
        go_upto_region 12 with fail
        obtain ⟨w15, hw_w15, hz_w15, hb_w15, hS_w15⟩ := boxed w14 #[.int .i64 P.al, .int .i64 P.st, .slice Aq P.es.length cq] 28
        rw [hw_w15]
        clear hw_w15
        have hq0 := fun w' (hb : Below w15.heap.size w15 w') => hS_w15 0 _ rfl w' (hb.mono hz_w15)
        have hq1 := fun w' (hb : Below w15.heap.size w15 w') => hS_w15 1 _ rfl w' (hb.mono hz_w15)
        have hq2 := fun w' (hb : Below w15.heap.size w15 w') => hS_w15 2 _ rfl w' (hb.mono hz_w15)
        replace hq0 := hid hq0
        replace hq1 := hid hq1
        replace hq2 := hid hq2
        clear hS_w15
        have BW_w15 := BW_w14.trans (hb_w15.mono BW_w14.size)
        have BEs_w15 := BEs_w14.trans (hb_w15.mono BEs_w14.size)
        have BEt_w15 := BEt_w14.trans (hb_w15.mono BEt_w14.size)
        have Bs_w15 := Bs_w14.trans (hb_w15.mono Bs_w14.size)
        have Bt_w15 := Bt_w14.trans (hb_w15.mono Bt_w14.size)
        have BEu_w15 := BEu_w14.trans (hb_w15.mono BEu_w14.size)
        have BEu'_w15 := BEu'_w14.trans (hb_w15.mono BEu'_w14.size)
        have Bu_w15 := Bu_w14.trans (hb_w15.mono Bu_w14.size)
        have Bu'_w15 := Bu'_w14.trans (hb_w15.mono Bu'_w14.size)
        have BEx_w15 := BEx_w14.trans (hb_w15.mono BEx_w14.size)
        have Bx_w15 := Bx_w14.trans (hb_w15.mono Bx_w14.size)
        have BEz_w15 := BEz_w14.trans (hb_w15.mono BEz_w14.size)
        have Bz_w15 := Bz_w14.trans (hb_w15.mono Bz_w14.size)
        have BEp_w15 := BEp_w14.trans (hb_w15.mono BEp_w14.size)
        have Bp_w15 := Bp_w14.trans (hb_w15.mono Bp_w14.size)
        have BEy_w15 := BEy_w14.trans (hb_w15.mono BEy_w14.size)
        have By_w15 := By_w14.trans (hb_w15.mono By_w14.size)
        have BEq_w15 := BEq_w14.trans (hb_w15.mono BEq_w14.size)
        have Bq_w15 : Below w15.heap.size w15 w15 := Below.refl _ _
        have pp0 := hp0.out _ Bp_w15
        have pp1 := hp1.out _ Bp_w15
        have pp2 := hp2.out _ Bp_w15
        have pq0 := hq0.out _ Bq_w15
        have pq1 := hq1.out _ Bq_w15
        have pq2 := hq2.out _ Bq_w15
        go_wp2_with fail
        refine (agSystems_same P Ap Aq cp cq w15 lp1 lp2 lq1 lq2 (ep.out.later BEp_w15) (eq.out.later BEq_w15)).mono ?_
        clear pp0 pp1 pp2 pq0 pq1 pq2
        rintro e w16 ⟨rfl, hb_w16⟩
        have BW_w16 := BW_w15.trans (hb_w16.mono BW_w15.size)
        have BEs_w16 := BEs_w15.trans (hb_w16.mono BEs_w15.size)
        have BEt_w16 := BEt_w15.trans (hb_w16.mono BEt_w15.size)
        have Bs_w16 := Bs_w15.trans (hb_w16.mono Bs_w15.size)
        have Bt_w16 := Bt_w15.trans (hb_w16.mono Bt_w15.size)
        have BEu_w16 := BEu_w15.trans (hb_w16.mono BEu_w15.size)
        have BEu'_w16 := BEu'_w15.trans (hb_w16.mono BEu'_w15.size)
        have Bu_w16 := Bu_w15.trans (hb_w16.mono Bu_w15.size)
        have Bu'_w16 := Bu'_w15.trans (hb_w16.mono Bu'_w15.size)
        have BEx_w16 := BEx_w15.trans (hb_w16.mono BEx_w15.size)
        have Bx_w16 := Bx_w15.trans (hb_w16.mono Bx_w15.size)
        have BEz_w16 := BEz_w15.trans (hb_w16.mono BEz_w15.size)
        have Bz_w16 := Bz_w15.trans (hb_w16.mono Bz_w15.size)
        have BEp_w16 := BEp_w15.trans (hb_w16.mono BEp_w15.size)
        have Bp_w16 := Bp_w15.trans (hb_w16.mono Bp_w15.size)
        have BEy_w16 := BEy_w15.trans (hb_w16.mono BEy_w15.size)
        have By_w16 := By_w15.trans (hb_w16.mono By_w15.size)
        have BEq_w16 := BEq_w15.trans (hb_w16.mono BEq_w15.size)
        have Bq_w16 := Bq_w15.trans (hb_w16.mono Bq_w15.size)
        go_wp2_with fail
        go_ret
        exact ⟨rfl, BW_w16⟩

end Go.Proofs.YtdkjnemakkppfaaDoor

/- The law FnComposeTrim. Printed by tools/gen_r9.py. -/
namespace Go.Proofs.YtdkjnemakkppfaaDoor
open Go.RowKit Go.BigFrame Go.Maps AG


set_option maxRecDepth 100000 in
set_option maxHeartbeats 16000000 in
theorem FnComposeTrim_any (A : Option Addr) (n c : Nat) (w : World) (hn : n ≤ c) (hc : c ≤ 9223372036854775807) (hT : Tab w) (hx : CodeAt w A n) :
    Calls Tryd.prog 7 #[.slice A n c] w fun e w' => e = .returned (.bool true) ∧ Below w.heap.size w w' := by
  replace hT := hid hT
  replace hx := hid hx
  by_cases hlen : 1048576 < n
  · have hgt : (1048576 : Int) < (n : Int) := by omega
    go_enter Tryd.func7, Tryd.ntmps7
    go_wp2
    go_ret
    exact ⟨rfl, Below.refl _ _⟩
  have hgt : ¬ ((1048576 : Int) < (n : Int)) := by omega
  go_enter Tryd.func7, Tryd.ntmps7
  go_wp2_with fail
  have BW_w : Below w.heap.size w w := Below.refl _ _
  refine (drawComposeSystems_any A n c w hn hc hx.out).mono ?_
  rintro e w1 ⟨s, t, As, At, cs, ct, rfl, ls1, ls2, lt1, lt2, es3, et3, hb_w1⟩
  unfold Sy.val
  have BW_w1 := BW_w.trans (hb_w1.mono BW_w.size)
  have es := hid es3
  have BEs_w1 : Below w1.heap.size w1 w1 := Below.refl _ _
  have et := hid et3
  have BEt_w1 : Below w1.heap.size w1 w1 := Below.refl _ _
  clear es3 et3
  go_upto_region 4 with fail
  obtain ⟨w2, hw_w2, hz_w2, hb_w2, hS_w2, hU_w2⟩ := boxed2 w1 #[.int .i64 s.al, .int .i64 s.st, .slice As s.es.length cs] 28 #[.int .i64 t.al, .int .i64 t.st, .slice At t.es.length ct] 28
  rw [hw_w2]
  clear hw_w2
  have hs0 := fun w' (hb : Below w2.heap.size w2 w') => hS_w2 0 _ rfl w' (hb.mono hz_w2)
  have hs1 := fun w' (hb : Below w2.heap.size w2 w') => hS_w2 1 _ rfl w' (hb.mono hz_w2)
  have hs2 := fun w' (hb : Below w2.heap.size w2 w') => hS_w2 2 _ rfl w' (hb.mono hz_w2)
  replace hs0 := hid hs0
  replace hs1 := hid hs1
  replace hs2 := hid hs2
  have ht0 := fun w' (hb : Below w2.heap.size w2 w') => hU_w2 0 _ rfl w' (hb.mono hz_w2)
  have ht1 := fun w' (hb : Below w2.heap.size w2 w') => hU_w2 1 _ rfl w' (hb.mono hz_w2)
  have ht2 := fun w' (hb : Below w2.heap.size w2 w') => hU_w2 2 _ rfl w' (hb.mono hz_w2)
  replace ht0 := hid ht0
  replace ht1 := hid ht1
  replace ht2 := hid ht2
  clear hS_w2 hU_w2
  have BW_w2 := BW_w1.trans (hb_w2.mono BW_w1.size)
  have BEs_w2 := BEs_w1.trans (hb_w2.mono BEs_w1.size)
  have BEt_w2 := BEt_w1.trans (hb_w2.mono BEt_w1.size)
  have Bs_w2 : Below w2.heap.size w2 w2 := Below.refl _ _
  have Bt_w2 : Below w2.heap.size w2 w2 := Below.refl _ _
  obtain ⟨X, hX⟩ : ∃ X, Hid (X = cmX s t) := ⟨_, hid rfl⟩
  obtain ⟨ok, hok⟩ : ∃ ok, Hid (ok = cmOk s t) := ⟨_, hid rfl⟩
  have ps0 := hs0.out _ Bs_w2
  have ps1 := hs1.out _ Bs_w2
  have ps2 := hs2.out _ Bs_w2
  have pt0 := ht0.out _ Bt_w2
  have pt1 := ht1.out _ Bt_w2
  have pt2 := ht2.out _ Bt_w2
  go_wp2_with fail
  have hc_x := hid (implComposeSystems_any s t As At cs ct w2 ls1 ls2 lt1 lt2 (hT.out.later BW_w2) (es.out.later BEs_w2) (et.out.later BEt_w2))
  rw [← hX.out, ← hok.out] at hc_x
  refine hc_x.out.mono ?_
  clear hc_x
  clear ps0 ps1 ps2 pt0 pt1 pt2
  rintro e w3 hpost
  replace hpost := SoOwn.read hpost
  obtain ⟨Ax, cx, rfl, lx1, lx2, ex3, -, hb_w3⟩ := hpost
  unfold Sy.val
  have BW_w3 := BW_w2.trans (hb_w3.mono BW_w2.size)
  have BEs_w3 := BEs_w2.trans (hb_w3.mono BEs_w2.size)
  have BEt_w3 := BEt_w2.trans (hb_w3.mono BEt_w2.size)
  have Bs_w3 := Bs_w2.trans (hb_w3.mono Bs_w2.size)
  have Bt_w3 := Bt_w2.trans (hb_w3.mono Bt_w2.size)
  have ex := hid ex3
  have BEx_w3 : Below w3.heap.size w3 w3 := Below.refl _ _
  clear ex3
  go_upto_region 5 with fail
  obtain ⟨w4, hw_w4, hz_w4, hb_w4, hS_w4⟩ := boxed w3 #[.int .i64 X.al, .int .i64 X.st, .slice Ax X.es.length cx] 28
  rw [hw_w4]
  clear hw_w4
  have hx0 := fun w' (hb : Below w4.heap.size w4 w') => hS_w4 0 _ rfl w' (hb.mono hz_w4)
  have hx1 := fun w' (hb : Below w4.heap.size w4 w') => hS_w4 1 _ rfl w' (hb.mono hz_w4)
  have hx2 := fun w' (hb : Below w4.heap.size w4 w') => hS_w4 2 _ rfl w' (hb.mono hz_w4)
  replace hx0 := hid hx0
  replace hx1 := hid hx1
  replace hx2 := hid hx2
  clear hS_w4
  have BW_w4 := BW_w3.trans (hb_w4.mono BW_w3.size)
  have BEs_w4 := BEs_w3.trans (hb_w4.mono BEs_w3.size)
  have BEt_w4 := BEt_w3.trans (hb_w4.mono BEt_w3.size)
  have Bs_w4 := Bs_w3.trans (hb_w4.mono Bs_w3.size)
  have Bt_w4 := Bt_w3.trans (hb_w4.mono Bt_w3.size)
  have BEx_w4 := BEx_w3.trans (hb_w4.mono BEx_w3.size)
  have Bx_w4 : Below w4.heap.size w4 w4 := Below.refl _ _
  have ps0 := hs0.out _ Bs_w4
  have ps1 := hs1.out _ Bs_w4
  have ps2 := hs2.out _ Bs_w4
  have pt0 := ht0.out _ Bt_w4
  have pt1 := ht1.out _ Bt_w4
  have pt2 := ht2.out _ Bt_w4
  go_wp2_with fail
  have hc_z := hid (specComposeSystems_any s t As At cs ct w4 ls1 ls2 lt1 lt2 (es.out.later BEs_w4) (et.out.later BEt_w4))
  rw [← hX.out, ← hok.out] at hc_z
  refine hc_z.out.mono ?_
  clear hc_z
  clear ps0 ps1 ps2 pt0 pt1 pt2
  rintro e w5 hpost
  obtain ⟨Az, cz, rfl, lz1, lz2, ez3, -, hb_w5⟩ := hpost
  unfold Sy.val
  have BW_w5 := BW_w4.trans (hb_w5.mono BW_w4.size)
  have BEs_w5 := BEs_w4.trans (hb_w5.mono BEs_w4.size)
  have BEt_w5 := BEt_w4.trans (hb_w5.mono BEt_w4.size)
  have Bs_w5 := Bs_w4.trans (hb_w5.mono Bs_w4.size)
  have Bt_w5 := Bt_w4.trans (hb_w5.mono Bt_w4.size)
  have BEx_w5 := BEx_w4.trans (hb_w5.mono BEx_w4.size)
  have Bx_w5 := Bx_w4.trans (hb_w5.mono Bx_w4.size)
  have ez := hid ez3
  have BEz_w5 : Below w5.heap.size w5 w5 := Below.refl _ _
  clear ez3
  go_upto_region 6 with fail
  obtain ⟨w6, hw_w6, hz_w6, hb_w6, hS_w6⟩ := boxed w5 #[.int .i64 X.al, .int .i64 X.st, .slice Az X.es.length cz] 28
  rw [hw_w6]
  clear hw_w6
  have hz0 := fun w' (hb : Below w6.heap.size w6 w') => hS_w6 0 _ rfl w' (hb.mono hz_w6)
  have hz1 := fun w' (hb : Below w6.heap.size w6 w') => hS_w6 1 _ rfl w' (hb.mono hz_w6)
  have hz2 := fun w' (hb : Below w6.heap.size w6 w') => hS_w6 2 _ rfl w' (hb.mono hz_w6)
  replace hz0 := hid hz0
  replace hz1 := hid hz1
  replace hz2 := hid hz2
  clear hS_w6
  have BW_w6 := BW_w5.trans (hb_w6.mono BW_w5.size)
  have BEs_w6 := BEs_w5.trans (hb_w6.mono BEs_w5.size)
  have BEt_w6 := BEt_w5.trans (hb_w6.mono BEt_w5.size)
  have Bs_w6 := Bs_w5.trans (hb_w6.mono Bs_w5.size)
  have Bt_w6 := Bt_w5.trans (hb_w6.mono Bt_w5.size)
  have BEx_w6 := BEx_w5.trans (hb_w6.mono BEx_w5.size)
  have Bx_w6 := Bx_w5.trans (hb_w6.mono Bx_w5.size)
  have BEz_w6 := BEz_w5.trans (hb_w6.mono BEz_w5.size)
  have Bz_w6 : Below w6.heap.size w6 w6 := Below.refl _ _
  obtain ⟨vs, hvs⟩ : ∃ v, Hid (v = sysOk s) := ⟨_, hid rfl⟩
  obtain ⟨vt, hvt⟩ : ∃ v, Hid (v = sysOk t) := ⟨_, hid rfl⟩
  cases vs
  case false =>
    cases ok
    case false =>
      have px0 := hx0.out _ Bx_w6
      have px1 := hx1.out _ Bx_w6
      have px2 := hx2.out _ Bx_w6
      have pz0 := hz0.out _ Bz_w6
      have pz1 := hz1.out _ Bz_w6
      have pz2 := hz2.out _ Bz_w6
      go_wp2_with fail
      refine (agSystems_same X Ax Az cx cz w6 lx1 lx2 lz1 lz2 (ex.out.later BEx_w6) (ez.out.later BEz_w6)).mono ?_
      clear px0 px1 px2 pz0 pz1 pz2
      rintro e w7 ⟨rfl, hb_w7⟩
      have BW_w7 := BW_w6.trans (hb_w7.mono BW_w6.size)
      have BEs_w7 := BEs_w6.trans (hb_w7.mono BEs_w6.size)
      have BEt_w7 := BEt_w6.trans (hb_w7.mono BEt_w6.size)
      have Bs_w7 := Bs_w6.trans (hb_w7.mono Bs_w6.size)
      have Bt_w7 := Bt_w6.trans (hb_w7.mono Bt_w6.size)
      have BEx_w7 := BEx_w6.trans (hb_w7.mono BEx_w6.size)
      have Bx_w7 := Bx_w6.trans (hb_w7.mono Bx_w6.size)
      have BEz_w7 := BEz_w6.trans (hb_w7.mono BEz_w6.size)
      have Bz_w7 := Bz_w6.trans (hb_w7.mono Bz_w6.size)
      have ps0 := hs0.out _ Bs_w7
      have ps1 := hs1.out _ Bs_w7
      have ps2 := hs2.out _ Bs_w7
      go_wp2_with fail
      refine (implSystemValid_any s As cs w7 ls1 ls2 (es.out.later BEs_w7)).mono ?_
      clear ps0 ps1 ps2
      rintro e w8 ⟨rfl, hb_w8⟩
      have BW_w8 := BW_w7.trans (hb_w8.mono BW_w7.size)
      have BEs_w8 := BEs_w7.trans (hb_w8.mono BEs_w7.size)
      have BEt_w8 := BEt_w7.trans (hb_w8.mono BEt_w7.size)
      have Bs_w8 := Bs_w7.trans (hb_w8.mono Bs_w7.size)
      have Bt_w8 := Bt_w7.trans (hb_w8.mono Bt_w7.size)
      have BEx_w8 := BEx_w7.trans (hb_w8.mono BEx_w7.size)
      have Bx_w8 := Bx_w7.trans (hb_w8.mono Bx_w7.size)
      have BEz_w8 := BEz_w7.trans (hb_w8.mono BEz_w7.size)
      have Bz_w8 := Bz_w7.trans (hb_w8.mono Bz_w7.size)
      rw [← hvs.out]
      have px0 := hx0.out _ Bx_w8
      have px1 := hx1.out _ Bx_w8
      have px2 := hx2.out _ Bx_w8
      have pz0 := hz0.out _ Bz_w8
      have pz1 := hz1.out _ Bz_w8
      have pz2 := hz2.out _ Bz_w8
      go_wp2_with fail
      refine (agSystems_same X Ax Az cx cz w8 lx1 lx2 lz1 lz2 (ex.out.later BEx_w8) (ez.out.later BEz_w8)).mono ?_
      clear px0 px1 px2 pz0 pz1 pz2
      rintro e w9 ⟨rfl, hb_w9⟩
      have BW_w9 := BW_w8.trans (hb_w9.mono BW_w8.size)
      have BEs_w9 := BEs_w8.trans (hb_w9.mono BEs_w8.size)
      have BEt_w9 := BEt_w8.trans (hb_w9.mono BEt_w8.size)
      have Bs_w9 := Bs_w8.trans (hb_w9.mono Bs_w8.size)
      have Bt_w9 := Bt_w8.trans (hb_w9.mono Bt_w8.size)
      have BEx_w9 := BEx_w8.trans (hb_w9.mono BEx_w8.size)
      have Bx_w9 := Bx_w8.trans (hb_w9.mono Bx_w8.size)
      have BEz_w9 := BEz_w8.trans (hb_w9.mono BEz_w8.size)
      have Bz_w9 := Bz_w8.trans (hb_w9.mono Bz_w8.size)
      go_wp2_with fail
      go_ret
      exact ⟨rfl, BW_w9⟩
    case true =>
      have px0 := hx0.out _ Bx_w6
      have px1 := hx1.out _ Bx_w6
      have px2 := hx2.out _ Bx_w6
      have pz0 := hz0.out _ Bz_w6
      have pz1 := hz1.out _ Bz_w6
      have pz2 := hz2.out _ Bz_w6
      go_wp2_with fail
      refine (agSystems_same X Ax Az cx cz w6 lx1 lx2 lz1 lz2 (ex.out.later BEx_w6) (ez.out.later BEz_w6)).mono ?_
      clear px0 px1 px2 pz0 pz1 pz2
      rintro e w7 ⟨rfl, hb_w7⟩
      have BW_w7 := BW_w6.trans (hb_w7.mono BW_w6.size)
      have BEs_w7 := BEs_w6.trans (hb_w7.mono BEs_w6.size)
      have BEt_w7 := BEt_w6.trans (hb_w7.mono BEt_w6.size)
      have Bs_w7 := Bs_w6.trans (hb_w7.mono Bs_w6.size)
      have Bt_w7 := Bt_w6.trans (hb_w7.mono Bt_w6.size)
      have BEx_w7 := BEx_w6.trans (hb_w7.mono BEx_w6.size)
      have Bx_w7 := Bx_w6.trans (hb_w7.mono Bx_w6.size)
      have BEz_w7 := BEz_w6.trans (hb_w7.mono BEz_w6.size)
      have Bz_w7 := Bz_w6.trans (hb_w7.mono Bz_w6.size)
      have ps0 := hs0.out _ Bs_w7
      have ps1 := hs1.out _ Bs_w7
      have ps2 := hs2.out _ Bs_w7
      go_wp2_with fail
      refine (implSystemValid_any s As cs w7 ls1 ls2 (es.out.later BEs_w7)).mono ?_
      clear ps0 ps1 ps2
      rintro e w8 ⟨rfl, hb_w8⟩
      have BW_w8 := BW_w7.trans (hb_w8.mono BW_w7.size)
      have BEs_w8 := BEs_w7.trans (hb_w8.mono BEs_w7.size)
      have BEt_w8 := BEt_w7.trans (hb_w8.mono BEt_w7.size)
      have Bs_w8 := Bs_w7.trans (hb_w8.mono Bs_w7.size)
      have Bt_w8 := Bt_w7.trans (hb_w8.mono Bt_w7.size)
      have BEx_w8 := BEx_w7.trans (hb_w8.mono BEx_w7.size)
      have Bx_w8 := Bx_w7.trans (hb_w8.mono Bx_w7.size)
      have BEz_w8 := BEz_w7.trans (hb_w8.mono BEz_w7.size)
      have Bz_w8 := Bz_w7.trans (hb_w8.mono Bz_w7.size)
      rw [← hvs.out]
      have px0 := hx0.out _ Bx_w8
      have px1 := hx1.out _ Bx_w8
      have px2 := hx2.out _ Bx_w8
      have pz0 := hz0.out _ Bz_w8
      have pz1 := hz1.out _ Bz_w8
      have pz2 := hz2.out _ Bz_w8
      go_wp2_with fail
      refine (agSystems_same X Ax Az cx cz w8 lx1 lx2 lz1 lz2 (ex.out.later BEx_w8) (ez.out.later BEz_w8)).mono ?_
      clear px0 px1 px2 pz0 pz1 pz2
      rintro e w9 ⟨rfl, hb_w9⟩
      have BW_w9 := BW_w8.trans (hb_w9.mono BW_w8.size)
      have BEs_w9 := BEs_w8.trans (hb_w9.mono BEs_w8.size)
      have BEt_w9 := BEt_w8.trans (hb_w9.mono BEt_w8.size)
      have Bs_w9 := Bs_w8.trans (hb_w9.mono Bs_w8.size)
      have Bt_w9 := Bt_w8.trans (hb_w9.mono Bt_w8.size)
      have BEx_w9 := BEx_w8.trans (hb_w9.mono BEx_w8.size)
      have Bx_w9 := Bx_w8.trans (hb_w9.mono Bx_w8.size)
      have BEz_w9 := BEz_w8.trans (hb_w9.mono BEz_w8.size)
      have Bz_w9 := Bz_w8.trans (hb_w9.mono Bz_w8.size)
      go_wp2_with fail
      go_ret
      exact ⟨rfl, BW_w9⟩
  case true =>
    cases vt
    case false =>
      cases ok
      case false =>
        have px0 := hx0.out _ Bx_w6
        have px1 := hx1.out _ Bx_w6
        have px2 := hx2.out _ Bx_w6
        have pz0 := hz0.out _ Bz_w6
        have pz1 := hz1.out _ Bz_w6
        have pz2 := hz2.out _ Bz_w6
        go_wp2_with fail
        refine (agSystems_same X Ax Az cx cz w6 lx1 lx2 lz1 lz2 (ex.out.later BEx_w6) (ez.out.later BEz_w6)).mono ?_
        clear px0 px1 px2 pz0 pz1 pz2
        rintro e w7 ⟨rfl, hb_w7⟩
        have BW_w7 := BW_w6.trans (hb_w7.mono BW_w6.size)
        have BEs_w7 := BEs_w6.trans (hb_w7.mono BEs_w6.size)
        have BEt_w7 := BEt_w6.trans (hb_w7.mono BEt_w6.size)
        have Bs_w7 := Bs_w6.trans (hb_w7.mono Bs_w6.size)
        have Bt_w7 := Bt_w6.trans (hb_w7.mono Bt_w6.size)
        have BEx_w7 := BEx_w6.trans (hb_w7.mono BEx_w6.size)
        have Bx_w7 := Bx_w6.trans (hb_w7.mono Bx_w6.size)
        have BEz_w7 := BEz_w6.trans (hb_w7.mono BEz_w6.size)
        have Bz_w7 := Bz_w6.trans (hb_w7.mono Bz_w6.size)
        have ps0 := hs0.out _ Bs_w7
        have ps1 := hs1.out _ Bs_w7
        have ps2 := hs2.out _ Bs_w7
        go_wp2_with fail
        refine (implSystemValid_any s As cs w7 ls1 ls2 (es.out.later BEs_w7)).mono ?_
        clear ps0 ps1 ps2
        rintro e w8 ⟨rfl, hb_w8⟩
        have BW_w8 := BW_w7.trans (hb_w8.mono BW_w7.size)
        have BEs_w8 := BEs_w7.trans (hb_w8.mono BEs_w7.size)
        have BEt_w8 := BEt_w7.trans (hb_w8.mono BEt_w7.size)
        have Bs_w8 := Bs_w7.trans (hb_w8.mono Bs_w7.size)
        have Bt_w8 := Bt_w7.trans (hb_w8.mono Bt_w7.size)
        have BEx_w8 := BEx_w7.trans (hb_w8.mono BEx_w7.size)
        have Bx_w8 := Bx_w7.trans (hb_w8.mono Bx_w7.size)
        have BEz_w8 := BEz_w7.trans (hb_w8.mono BEz_w7.size)
        have Bz_w8 := Bz_w7.trans (hb_w8.mono Bz_w7.size)
        rw [← hvs.out]
        have pt0 := ht0.out _ Bt_w8
        have pt1 := ht1.out _ Bt_w8
        have pt2 := ht2.out _ Bt_w8
        go_wp2_with fail
        refine (implSystemValid_any t At ct w8 lt1 lt2 (et.out.later BEt_w8)).mono ?_
        clear pt0 pt1 pt2
        rintro e w9 ⟨rfl, hb_w9⟩
        have BW_w9 := BW_w8.trans (hb_w9.mono BW_w8.size)
        have BEs_w9 := BEs_w8.trans (hb_w9.mono BEs_w8.size)
        have BEt_w9 := BEt_w8.trans (hb_w9.mono BEt_w8.size)
        have Bs_w9 := Bs_w8.trans (hb_w9.mono Bs_w8.size)
        have Bt_w9 := Bt_w8.trans (hb_w9.mono Bt_w8.size)
        have BEx_w9 := BEx_w8.trans (hb_w9.mono BEx_w8.size)
        have Bx_w9 := Bx_w8.trans (hb_w9.mono Bx_w8.size)
        have BEz_w9 := BEz_w8.trans (hb_w9.mono BEz_w8.size)
        have Bz_w9 := Bz_w8.trans (hb_w9.mono Bz_w8.size)
        rw [← hvt.out]
        have px0 := hx0.out _ Bx_w9
        have px1 := hx1.out _ Bx_w9
        have px2 := hx2.out _ Bx_w9
        have pz0 := hz0.out _ Bz_w9
        have pz1 := hz1.out _ Bz_w9
        have pz2 := hz2.out _ Bz_w9
        go_wp2_with fail
        refine (agSystems_same X Ax Az cx cz w9 lx1 lx2 lz1 lz2 (ex.out.later BEx_w9) (ez.out.later BEz_w9)).mono ?_
        clear px0 px1 px2 pz0 pz1 pz2
        rintro e w10 ⟨rfl, hb_w10⟩
        have BW_w10 := BW_w9.trans (hb_w10.mono BW_w9.size)
        have BEs_w10 := BEs_w9.trans (hb_w10.mono BEs_w9.size)
        have BEt_w10 := BEt_w9.trans (hb_w10.mono BEt_w9.size)
        have Bs_w10 := Bs_w9.trans (hb_w10.mono Bs_w9.size)
        have Bt_w10 := Bt_w9.trans (hb_w10.mono Bt_w9.size)
        have BEx_w10 := BEx_w9.trans (hb_w10.mono BEx_w9.size)
        have Bx_w10 := Bx_w9.trans (hb_w10.mono Bx_w9.size)
        have BEz_w10 := BEz_w9.trans (hb_w10.mono BEz_w9.size)
        have Bz_w10 := Bz_w9.trans (hb_w10.mono Bz_w9.size)
        go_wp2_with fail
        go_ret
        exact ⟨rfl, BW_w10⟩
      case true =>
        have px0 := hx0.out _ Bx_w6
        have px1 := hx1.out _ Bx_w6
        have px2 := hx2.out _ Bx_w6
        have pz0 := hz0.out _ Bz_w6
        have pz1 := hz1.out _ Bz_w6
        have pz2 := hz2.out _ Bz_w6
        go_wp2_with fail
        refine (agSystems_same X Ax Az cx cz w6 lx1 lx2 lz1 lz2 (ex.out.later BEx_w6) (ez.out.later BEz_w6)).mono ?_
        clear px0 px1 px2 pz0 pz1 pz2
        rintro e w7 ⟨rfl, hb_w7⟩
        have BW_w7 := BW_w6.trans (hb_w7.mono BW_w6.size)
        have BEs_w7 := BEs_w6.trans (hb_w7.mono BEs_w6.size)
        have BEt_w7 := BEt_w6.trans (hb_w7.mono BEt_w6.size)
        have Bs_w7 := Bs_w6.trans (hb_w7.mono Bs_w6.size)
        have Bt_w7 := Bt_w6.trans (hb_w7.mono Bt_w6.size)
        have BEx_w7 := BEx_w6.trans (hb_w7.mono BEx_w6.size)
        have Bx_w7 := Bx_w6.trans (hb_w7.mono Bx_w6.size)
        have BEz_w7 := BEz_w6.trans (hb_w7.mono BEz_w6.size)
        have Bz_w7 := Bz_w6.trans (hb_w7.mono Bz_w6.size)
        have ps0 := hs0.out _ Bs_w7
        have ps1 := hs1.out _ Bs_w7
        have ps2 := hs2.out _ Bs_w7
        go_wp2_with fail
        refine (implSystemValid_any s As cs w7 ls1 ls2 (es.out.later BEs_w7)).mono ?_
        clear ps0 ps1 ps2
        rintro e w8 ⟨rfl, hb_w8⟩
        have BW_w8 := BW_w7.trans (hb_w8.mono BW_w7.size)
        have BEs_w8 := BEs_w7.trans (hb_w8.mono BEs_w7.size)
        have BEt_w8 := BEt_w7.trans (hb_w8.mono BEt_w7.size)
        have Bs_w8 := Bs_w7.trans (hb_w8.mono Bs_w7.size)
        have Bt_w8 := Bt_w7.trans (hb_w8.mono Bt_w7.size)
        have BEx_w8 := BEx_w7.trans (hb_w8.mono BEx_w7.size)
        have Bx_w8 := Bx_w7.trans (hb_w8.mono Bx_w7.size)
        have BEz_w8 := BEz_w7.trans (hb_w8.mono BEz_w7.size)
        have Bz_w8 := Bz_w7.trans (hb_w8.mono Bz_w7.size)
        rw [← hvs.out]
        have pt0 := ht0.out _ Bt_w8
        have pt1 := ht1.out _ Bt_w8
        have pt2 := ht2.out _ Bt_w8
        go_wp2_with fail
        refine (implSystemValid_any t At ct w8 lt1 lt2 (et.out.later BEt_w8)).mono ?_
        clear pt0 pt1 pt2
        rintro e w9 ⟨rfl, hb_w9⟩
        have BW_w9 := BW_w8.trans (hb_w9.mono BW_w8.size)
        have BEs_w9 := BEs_w8.trans (hb_w9.mono BEs_w8.size)
        have BEt_w9 := BEt_w8.trans (hb_w9.mono BEt_w8.size)
        have Bs_w9 := Bs_w8.trans (hb_w9.mono Bs_w8.size)
        have Bt_w9 := Bt_w8.trans (hb_w9.mono Bt_w8.size)
        have BEx_w9 := BEx_w8.trans (hb_w9.mono BEx_w8.size)
        have Bx_w9 := Bx_w8.trans (hb_w9.mono Bx_w8.size)
        have BEz_w9 := BEz_w8.trans (hb_w9.mono BEz_w8.size)
        have Bz_w9 := Bz_w8.trans (hb_w9.mono Bz_w8.size)
        rw [← hvt.out]
        have px0 := hx0.out _ Bx_w9
        have px1 := hx1.out _ Bx_w9
        have px2 := hx2.out _ Bx_w9
        have pz0 := hz0.out _ Bz_w9
        have pz1 := hz1.out _ Bz_w9
        have pz2 := hz2.out _ Bz_w9
        go_wp2_with fail
        refine (agSystems_same X Ax Az cx cz w9 lx1 lx2 lz1 lz2 (ex.out.later BEx_w9) (ez.out.later BEz_w9)).mono ?_
        clear px0 px1 px2 pz0 pz1 pz2
        rintro e w10 ⟨rfl, hb_w10⟩
        have BW_w10 := BW_w9.trans (hb_w10.mono BW_w9.size)
        have BEs_w10 := BEs_w9.trans (hb_w10.mono BEs_w9.size)
        have BEt_w10 := BEt_w9.trans (hb_w10.mono BEt_w9.size)
        have Bs_w10 := Bs_w9.trans (hb_w10.mono Bs_w9.size)
        have Bt_w10 := Bt_w9.trans (hb_w10.mono Bt_w9.size)
        have BEx_w10 := BEx_w9.trans (hb_w10.mono BEx_w9.size)
        have Bx_w10 := Bx_w9.trans (hb_w10.mono Bx_w9.size)
        have BEz_w10 := BEz_w9.trans (hb_w10.mono BEz_w9.size)
        have Bz_w10 := Bz_w9.trans (hb_w10.mono Bz_w9.size)
        go_wp2_with fail
        go_ret
        exact ⟨rfl, BW_w10⟩
    case true =>
      have hOk_s : Hid (sysOk s = true) := hid hvs.out.symm
      have hOk_t : Hid (sysOk t = true) := hid hvt.out.symm
      have hbig_s : s.es.length ≤ 1000000 := by have := edges_few hOk_s.out; omega
      have hbig_t : t.es.length ≤ 1000000 := by have := edges_few hOk_t.out; omega
      obtain ⟨U, hTr_u⟩ : ∃ U, Hid (U = trimOut s) := ⟨_, hid rfl⟩
      obtain ⟨V, hTr_v⟩ : ∃ V, Hid (V = trimOut t) := ⟨_, hid rfl⟩
      have hcm : cmX U V = cmX s t ∧ cmOk U V = cmOk s t := by
        obtain ⟨e1, e2⟩ := cm_trim hOk_s.out hOk_t.out
        have h1 : U = trimSy s (reachAll s) := by rw [hTr_u.out]; unfold trimOut; rw [if_pos hOk_s.out]
        have h2 : V = trimSy t (reachAll t) := by rw [hTr_v.out]; unfold trimOut; rw [if_pos hOk_t.out]
        have h3 := trim_ok hOk_s.out
        have h4 := trim_ok hOk_t.out
        have e3 : cmOk U V = cmOk s t := by rw [h1, h2]; unfold cmOk; rw [h3, h4, hOk_s.out, hOk_t.out, e2]
        refine ⟨?_, e3⟩
        unfold cmX
        rw [e3, h1, h2, e1]
      have hY : Hid (X = cmX U V) := hid (by rw [hcm.1, hX.out])
      have hok2 : Hid (ok = cmOk U V) := hid (by rw [hcm.2, hok.out])
      clear hcm
      cases ok
      case false =>
        have px0 := hx0.out _ Bx_w6
        have px1 := hx1.out _ Bx_w6
        have px2 := hx2.out _ Bx_w6
        have pz0 := hz0.out _ Bz_w6
        have pz1 := hz1.out _ Bz_w6
        have pz2 := hz2.out _ Bz_w6
        go_wp2_with fail
        refine (agSystems_same X Ax Az cx cz w6 lx1 lx2 lz1 lz2 (ex.out.later BEx_w6) (ez.out.later BEz_w6)).mono ?_
        clear px0 px1 px2 pz0 pz1 pz2
        rintro e w7 ⟨rfl, hb_w7⟩
        have BW_w7 := BW_w6.trans (hb_w7.mono BW_w6.size)
        have BEs_w7 := BEs_w6.trans (hb_w7.mono BEs_w6.size)
        have BEt_w7 := BEt_w6.trans (hb_w7.mono BEt_w6.size)
        have Bs_w7 := Bs_w6.trans (hb_w7.mono Bs_w6.size)
        have Bt_w7 := Bt_w6.trans (hb_w7.mono Bt_w6.size)
        have BEx_w7 := BEx_w6.trans (hb_w7.mono BEx_w6.size)
        have Bx_w7 := Bx_w6.trans (hb_w7.mono Bx_w6.size)
        have BEz_w7 := BEz_w6.trans (hb_w7.mono BEz_w6.size)
        have Bz_w7 := Bz_w6.trans (hb_w7.mono Bz_w6.size)
        have ps0 := hs0.out _ Bs_w7
        have ps1 := hs1.out _ Bs_w7
        have ps2 := hs2.out _ Bs_w7
        go_wp2_with fail
        refine (implSystemValid_any s As cs w7 ls1 ls2 (es.out.later BEs_w7)).mono ?_
        clear ps0 ps1 ps2
        rintro e w8 ⟨rfl, hb_w8⟩
        have BW_w8 := BW_w7.trans (hb_w8.mono BW_w7.size)
        have BEs_w8 := BEs_w7.trans (hb_w8.mono BEs_w7.size)
        have BEt_w8 := BEt_w7.trans (hb_w8.mono BEt_w7.size)
        have Bs_w8 := Bs_w7.trans (hb_w8.mono Bs_w7.size)
        have Bt_w8 := Bt_w7.trans (hb_w8.mono Bt_w7.size)
        have BEx_w8 := BEx_w7.trans (hb_w8.mono BEx_w7.size)
        have Bx_w8 := Bx_w7.trans (hb_w8.mono Bx_w7.size)
        have BEz_w8 := BEz_w7.trans (hb_w8.mono BEz_w7.size)
        have Bz_w8 := Bz_w7.trans (hb_w8.mono Bz_w7.size)
        rw [← hvs.out]
        have pt0 := ht0.out _ Bt_w8
        have pt1 := ht1.out _ Bt_w8
        have pt2 := ht2.out _ Bt_w8
        go_wp2_with fail
        refine (implSystemValid_any t At ct w8 lt1 lt2 (et.out.later BEt_w8)).mono ?_
        clear pt0 pt1 pt2
        rintro e w9 ⟨rfl, hb_w9⟩
        have BW_w9 := BW_w8.trans (hb_w9.mono BW_w8.size)
        have BEs_w9 := BEs_w8.trans (hb_w9.mono BEs_w8.size)
        have BEt_w9 := BEt_w8.trans (hb_w9.mono BEt_w8.size)
        have Bs_w9 := Bs_w8.trans (hb_w9.mono Bs_w8.size)
        have Bt_w9 := Bt_w8.trans (hb_w9.mono Bt_w8.size)
        have BEx_w9 := BEx_w8.trans (hb_w9.mono BEx_w8.size)
        have Bx_w9 := Bx_w8.trans (hb_w9.mono Bx_w8.size)
        have BEz_w9 := BEz_w8.trans (hb_w9.mono BEz_w8.size)
        have Bz_w9 := Bz_w8.trans (hb_w9.mono Bz_w8.size)
        rw [← hvt.out]
        have ps0 := hs0.out _ Bs_w9
        have ps1 := hs1.out _ Bs_w9
        have ps2 := hs2.out _ Bs_w9
        go_wp2_with fail
        have hc_u := hid (implTrimSystem_any s As cs w9 hbig_s ls1 ls2 (hT.out.later BW_w9) (es.out.later BEs_w9))
        unfold TrimPost at hc_u
        rw [← hTr_u.out, hOk_s.out] at hc_u
        refine hc_u.out.mono ?_
        clear hc_u
        clear ps0 ps1 ps2
        rintro e w10 ⟨Au, cu, rfl, lu1, lu2, eu3, hb_w10⟩
        unfold Sy.val
        have BW_w10 := BW_w9.trans (hb_w10.mono BW_w9.size)
        have BEs_w10 := BEs_w9.trans (hb_w10.mono BEs_w9.size)
        have BEt_w10 := BEt_w9.trans (hb_w10.mono BEt_w9.size)
        have Bs_w10 := Bs_w9.trans (hb_w10.mono Bs_w9.size)
        have Bt_w10 := Bt_w9.trans (hb_w10.mono Bt_w9.size)
        have BEx_w10 := BEx_w9.trans (hb_w10.mono BEx_w9.size)
        have Bx_w10 := Bx_w9.trans (hb_w10.mono Bx_w9.size)
        have BEz_w10 := BEz_w9.trans (hb_w10.mono BEz_w9.size)
        have Bz_w10 := Bz_w9.trans (hb_w10.mono Bz_w9.size)
        have eu := hid eu3
        have BEu_w10 : Below w10.heap.size w10 w10 := Below.refl _ _
        clear eu3
        go_upto_region 9 with fail
        obtain ⟨w11, hw_w11, hz_w11, hb_w11, hS_w11⟩ := boxed w10 #[.int .i64 U.al, .int .i64 U.st, .slice Au U.es.length cu] 28
        rw [hw_w11]
        clear hw_w11
        have hu0 := fun w' (hb : Below w11.heap.size w11 w') => hS_w11 0 _ rfl w' (hb.mono hz_w11)
        have hu1 := fun w' (hb : Below w11.heap.size w11 w') => hS_w11 1 _ rfl w' (hb.mono hz_w11)
        have hu2 := fun w' (hb : Below w11.heap.size w11 w') => hS_w11 2 _ rfl w' (hb.mono hz_w11)
        replace hu0 := hid hu0
        replace hu1 := hid hu1
        replace hu2 := hid hu2
        clear hS_w11
        have BW_w11 := BW_w10.trans (hb_w11.mono BW_w10.size)
        have BEs_w11 := BEs_w10.trans (hb_w11.mono BEs_w10.size)
        have BEt_w11 := BEt_w10.trans (hb_w11.mono BEt_w10.size)
        have Bs_w11 := Bs_w10.trans (hb_w11.mono Bs_w10.size)
        have Bt_w11 := Bt_w10.trans (hb_w11.mono Bt_w10.size)
        have BEx_w11 := BEx_w10.trans (hb_w11.mono BEx_w10.size)
        have Bx_w11 := Bx_w10.trans (hb_w11.mono Bx_w10.size)
        have BEz_w11 := BEz_w10.trans (hb_w11.mono BEz_w10.size)
        have Bz_w11 := Bz_w10.trans (hb_w11.mono Bz_w10.size)
        have BEu_w11 := BEu_w10.trans (hb_w11.mono BEu_w10.size)
        have Bu_w11 : Below w11.heap.size w11 w11 := Below.refl _ _
        have pt0 := ht0.out _ Bt_w11
        have pt1 := ht1.out _ Bt_w11
        have pt2 := ht2.out _ Bt_w11
        go_wp2_with fail
        have hc_v := hid (implTrimSystem_any t At ct w11 hbig_t lt1 lt2 (hT.out.later BW_w11) (et.out.later BEt_w11))
        unfold TrimPost at hc_v
        rw [← hTr_v.out, hOk_t.out] at hc_v
        refine hc_v.out.mono ?_
        clear hc_v
        clear pt0 pt1 pt2
        rintro e w12 ⟨Av, cv, rfl, lv1, lv2, ev3, hb_w12⟩
        unfold Sy.val
        have BW_w12 := BW_w11.trans (hb_w12.mono BW_w11.size)
        have BEs_w12 := BEs_w11.trans (hb_w12.mono BEs_w11.size)
        have BEt_w12 := BEt_w11.trans (hb_w12.mono BEt_w11.size)
        have Bs_w12 := Bs_w11.trans (hb_w12.mono Bs_w11.size)
        have Bt_w12 := Bt_w11.trans (hb_w12.mono Bt_w11.size)
        have BEx_w12 := BEx_w11.trans (hb_w12.mono BEx_w11.size)
        have Bx_w12 := Bx_w11.trans (hb_w12.mono Bx_w11.size)
        have BEz_w12 := BEz_w11.trans (hb_w12.mono BEz_w11.size)
        have Bz_w12 := Bz_w11.trans (hb_w12.mono Bz_w11.size)
        have BEu_w12 := BEu_w11.trans (hb_w12.mono BEu_w11.size)
        have Bu_w12 := Bu_w11.trans (hb_w12.mono Bu_w11.size)
        have ev := hid ev3
        have BEv_w12 : Below w12.heap.size w12 w12 := Below.refl _ _
        clear ev3
        go_upto_region 10 with fail
        obtain ⟨w13, hw_w13, hz_w13, hb_w13, hS_w13⟩ := boxed w12 #[.int .i64 V.al, .int .i64 V.st, .slice Av V.es.length cv] 28
        rw [hw_w13]
        clear hw_w13
        have hv0 := fun w' (hb : Below w13.heap.size w13 w') => hS_w13 0 _ rfl w' (hb.mono hz_w13)
        have hv1 := fun w' (hb : Below w13.heap.size w13 w') => hS_w13 1 _ rfl w' (hb.mono hz_w13)
        have hv2 := fun w' (hb : Below w13.heap.size w13 w') => hS_w13 2 _ rfl w' (hb.mono hz_w13)
        replace hv0 := hid hv0
        replace hv1 := hid hv1
        replace hv2 := hid hv2
        clear hS_w13
        have BW_w13 := BW_w12.trans (hb_w13.mono BW_w12.size)
        have BEs_w13 := BEs_w12.trans (hb_w13.mono BEs_w12.size)
        have BEt_w13 := BEt_w12.trans (hb_w13.mono BEt_w12.size)
        have Bs_w13 := Bs_w12.trans (hb_w13.mono Bs_w12.size)
        have Bt_w13 := Bt_w12.trans (hb_w13.mono Bt_w12.size)
        have BEx_w13 := BEx_w12.trans (hb_w13.mono BEx_w12.size)
        have Bx_w13 := Bx_w12.trans (hb_w13.mono Bx_w12.size)
        have BEz_w13 := BEz_w12.trans (hb_w13.mono BEz_w12.size)
        have Bz_w13 := Bz_w12.trans (hb_w13.mono Bz_w12.size)
        have BEu_w13 := BEu_w12.trans (hb_w13.mono BEu_w12.size)
        have Bu_w13 := Bu_w12.trans (hb_w13.mono Bu_w12.size)
        have BEv_w13 := BEv_w12.trans (hb_w13.mono BEv_w12.size)
        have Bv_w13 : Below w13.heap.size w13 w13 := Below.refl _ _
        have pu0 := hu0.out _ Bu_w13
        have pu1 := hu1.out _ Bu_w13
        have pu2 := hu2.out _ Bu_w13
        have pv0 := hv0.out _ Bv_w13
        have pv1 := hv1.out _ Bv_w13
        have pv2 := hv2.out _ Bv_w13
        go_wp2_with fail
        have hc_y := hid (implComposeSystems_any U V Au Av cu cv w13 lu1 lu2 lv1 lv2 (hT.out.later BW_w13) (eu.out.later BEu_w13) (ev.out.later BEv_w13))
        rw [← hY.out, ← hok2.out] at hc_y
        refine hc_y.out.mono ?_
        clear hc_y
        clear pu0 pu1 pu2 pv0 pv1 pv2
        rintro e w14 hpost
        replace hpost := SoOwn.read hpost
        obtain ⟨Ay, cy, rfl, ly1, ly2, ey3, -, hb_w14⟩ := hpost
        unfold Sy.val
        have BW_w14 := BW_w13.trans (hb_w14.mono BW_w13.size)
        have BEs_w14 := BEs_w13.trans (hb_w14.mono BEs_w13.size)
        have BEt_w14 := BEt_w13.trans (hb_w14.mono BEt_w13.size)
        have Bs_w14 := Bs_w13.trans (hb_w14.mono Bs_w13.size)
        have Bt_w14 := Bt_w13.trans (hb_w14.mono Bt_w13.size)
        have BEx_w14 := BEx_w13.trans (hb_w14.mono BEx_w13.size)
        have Bx_w14 := Bx_w13.trans (hb_w14.mono Bx_w13.size)
        have BEz_w14 := BEz_w13.trans (hb_w14.mono BEz_w13.size)
        have Bz_w14 := Bz_w13.trans (hb_w14.mono Bz_w13.size)
        have BEu_w14 := BEu_w13.trans (hb_w14.mono BEu_w13.size)
        have Bu_w14 := Bu_w13.trans (hb_w14.mono Bu_w13.size)
        have BEv_w14 := BEv_w13.trans (hb_w14.mono BEv_w13.size)
        have Bv_w14 := Bv_w13.trans (hb_w14.mono Bv_w13.size)
        have ey := hid ey3
        have BEy_w14 : Below w14.heap.size w14 w14 := Below.refl _ _
        clear ey3
        go_upto_region 11 with fail
        obtain ⟨w15, hw_w15, hz_w15, hb_w15, hS_w15⟩ := boxed w14 #[.int .i64 X.al, .int .i64 X.st, .slice Ay X.es.length cy] 28
        rw [hw_w15]
        clear hw_w15
        have hy0 := fun w' (hb : Below w15.heap.size w15 w') => hS_w15 0 _ rfl w' (hb.mono hz_w15)
        have hy1 := fun w' (hb : Below w15.heap.size w15 w') => hS_w15 1 _ rfl w' (hb.mono hz_w15)
        have hy2 := fun w' (hb : Below w15.heap.size w15 w') => hS_w15 2 _ rfl w' (hb.mono hz_w15)
        replace hy0 := hid hy0
        replace hy1 := hid hy1
        replace hy2 := hid hy2
        clear hS_w15
        have BW_w15 := BW_w14.trans (hb_w15.mono BW_w14.size)
        have BEs_w15 := BEs_w14.trans (hb_w15.mono BEs_w14.size)
        have BEt_w15 := BEt_w14.trans (hb_w15.mono BEt_w14.size)
        have Bs_w15 := Bs_w14.trans (hb_w15.mono Bs_w14.size)
        have Bt_w15 := Bt_w14.trans (hb_w15.mono Bt_w14.size)
        have BEx_w15 := BEx_w14.trans (hb_w15.mono BEx_w14.size)
        have Bx_w15 := Bx_w14.trans (hb_w15.mono Bx_w14.size)
        have BEz_w15 := BEz_w14.trans (hb_w15.mono BEz_w14.size)
        have Bz_w15 := Bz_w14.trans (hb_w15.mono Bz_w14.size)
        have BEu_w15 := BEu_w14.trans (hb_w15.mono BEu_w14.size)
        have Bu_w15 := Bu_w14.trans (hb_w15.mono Bu_w14.size)
        have BEv_w15 := BEv_w14.trans (hb_w15.mono BEv_w14.size)
        have Bv_w15 := Bv_w14.trans (hb_w15.mono Bv_w14.size)
        have BEy_w15 := BEy_w14.trans (hb_w15.mono BEy_w14.size)
        have By_w15 : Below w15.heap.size w15 w15 := Below.refl _ _
        have px0 := hx0.out _ Bx_w15
        have px1 := hx1.out _ Bx_w15
        have px2 := hx2.out _ Bx_w15
        have py0 := hy0.out _ By_w15
        have py1 := hy1.out _ By_w15
        have py2 := hy2.out _ By_w15
        go_wp2_with fail
        refine (agSystems_same X Ax Ay cx cy w15 lx1 lx2 ly1 ly2 (ex.out.later BEx_w15) (ey.out.later BEy_w15)).mono ?_
        clear px0 px1 px2 py0 py1 py2
        rintro e w16 ⟨rfl, hb_w16⟩
        have BW_w16 := BW_w15.trans (hb_w16.mono BW_w15.size)
        have BEs_w16 := BEs_w15.trans (hb_w16.mono BEs_w15.size)
        have BEt_w16 := BEt_w15.trans (hb_w16.mono BEt_w15.size)
        have Bs_w16 := Bs_w15.trans (hb_w16.mono Bs_w15.size)
        have Bt_w16 := Bt_w15.trans (hb_w16.mono Bt_w15.size)
        have BEx_w16 := BEx_w15.trans (hb_w16.mono BEx_w15.size)
        have Bx_w16 := Bx_w15.trans (hb_w16.mono Bx_w15.size)
        have BEz_w16 := BEz_w15.trans (hb_w16.mono BEz_w15.size)
        have Bz_w16 := Bz_w15.trans (hb_w16.mono Bz_w15.size)
        have BEu_w16 := BEu_w15.trans (hb_w16.mono BEu_w15.size)
        have Bu_w16 := Bu_w15.trans (hb_w16.mono Bu_w15.size)
        have BEv_w16 := BEv_w15.trans (hb_w16.mono BEv_w15.size)
        have Bv_w16 := Bv_w15.trans (hb_w16.mono Bv_w15.size)
        have BEy_w16 := BEy_w15.trans (hb_w16.mono BEy_w15.size)
        have By_w16 := By_w15.trans (hb_w16.mono By_w15.size)
        go_wp2_with fail
        go_ret
        exact ⟨rfl, BW_w16⟩
      case true =>
        have px0 := hx0.out _ Bx_w6
        have px1 := hx1.out _ Bx_w6
        have px2 := hx2.out _ Bx_w6
        have pz0 := hz0.out _ Bz_w6
        have pz1 := hz1.out _ Bz_w6
        have pz2 := hz2.out _ Bz_w6
        go_wp2_with fail
        refine (agSystems_same X Ax Az cx cz w6 lx1 lx2 lz1 lz2 (ex.out.later BEx_w6) (ez.out.later BEz_w6)).mono ?_
        clear px0 px1 px2 pz0 pz1 pz2
        rintro e w7 ⟨rfl, hb_w7⟩
        have BW_w7 := BW_w6.trans (hb_w7.mono BW_w6.size)
        have BEs_w7 := BEs_w6.trans (hb_w7.mono BEs_w6.size)
        have BEt_w7 := BEt_w6.trans (hb_w7.mono BEt_w6.size)
        have Bs_w7 := Bs_w6.trans (hb_w7.mono Bs_w6.size)
        have Bt_w7 := Bt_w6.trans (hb_w7.mono Bt_w6.size)
        have BEx_w7 := BEx_w6.trans (hb_w7.mono BEx_w6.size)
        have Bx_w7 := Bx_w6.trans (hb_w7.mono Bx_w6.size)
        have BEz_w7 := BEz_w6.trans (hb_w7.mono BEz_w6.size)
        have Bz_w7 := Bz_w6.trans (hb_w7.mono Bz_w6.size)
        have ps0 := hs0.out _ Bs_w7
        have ps1 := hs1.out _ Bs_w7
        have ps2 := hs2.out _ Bs_w7
        go_wp2_with fail
        refine (implSystemValid_any s As cs w7 ls1 ls2 (es.out.later BEs_w7)).mono ?_
        clear ps0 ps1 ps2
        rintro e w8 ⟨rfl, hb_w8⟩
        have BW_w8 := BW_w7.trans (hb_w8.mono BW_w7.size)
        have BEs_w8 := BEs_w7.trans (hb_w8.mono BEs_w7.size)
        have BEt_w8 := BEt_w7.trans (hb_w8.mono BEt_w7.size)
        have Bs_w8 := Bs_w7.trans (hb_w8.mono Bs_w7.size)
        have Bt_w8 := Bt_w7.trans (hb_w8.mono Bt_w7.size)
        have BEx_w8 := BEx_w7.trans (hb_w8.mono BEx_w7.size)
        have Bx_w8 := Bx_w7.trans (hb_w8.mono Bx_w7.size)
        have BEz_w8 := BEz_w7.trans (hb_w8.mono BEz_w7.size)
        have Bz_w8 := Bz_w7.trans (hb_w8.mono Bz_w7.size)
        rw [← hvs.out]
        have pt0 := ht0.out _ Bt_w8
        have pt1 := ht1.out _ Bt_w8
        have pt2 := ht2.out _ Bt_w8
        go_wp2_with fail
        refine (implSystemValid_any t At ct w8 lt1 lt2 (et.out.later BEt_w8)).mono ?_
        clear pt0 pt1 pt2
        rintro e w9 ⟨rfl, hb_w9⟩
        have BW_w9 := BW_w8.trans (hb_w9.mono BW_w8.size)
        have BEs_w9 := BEs_w8.trans (hb_w9.mono BEs_w8.size)
        have BEt_w9 := BEt_w8.trans (hb_w9.mono BEt_w8.size)
        have Bs_w9 := Bs_w8.trans (hb_w9.mono Bs_w8.size)
        have Bt_w9 := Bt_w8.trans (hb_w9.mono Bt_w8.size)
        have BEx_w9 := BEx_w8.trans (hb_w9.mono BEx_w8.size)
        have Bx_w9 := Bx_w8.trans (hb_w9.mono Bx_w8.size)
        have BEz_w9 := BEz_w8.trans (hb_w9.mono BEz_w8.size)
        have Bz_w9 := Bz_w8.trans (hb_w9.mono Bz_w8.size)
        rw [← hvt.out]
        have ps0 := hs0.out _ Bs_w9
        have ps1 := hs1.out _ Bs_w9
        have ps2 := hs2.out _ Bs_w9
        go_wp2_with fail
        have hc_u := hid (implTrimSystem_any s As cs w9 hbig_s ls1 ls2 (hT.out.later BW_w9) (es.out.later BEs_w9))
        unfold TrimPost at hc_u
        rw [← hTr_u.out, hOk_s.out] at hc_u
        refine hc_u.out.mono ?_
        clear hc_u
        clear ps0 ps1 ps2
        rintro e w10 ⟨Au, cu, rfl, lu1, lu2, eu3, hb_w10⟩
        unfold Sy.val
        have BW_w10 := BW_w9.trans (hb_w10.mono BW_w9.size)
        have BEs_w10 := BEs_w9.trans (hb_w10.mono BEs_w9.size)
        have BEt_w10 := BEt_w9.trans (hb_w10.mono BEt_w9.size)
        have Bs_w10 := Bs_w9.trans (hb_w10.mono Bs_w9.size)
        have Bt_w10 := Bt_w9.trans (hb_w10.mono Bt_w9.size)
        have BEx_w10 := BEx_w9.trans (hb_w10.mono BEx_w9.size)
        have Bx_w10 := Bx_w9.trans (hb_w10.mono Bx_w9.size)
        have BEz_w10 := BEz_w9.trans (hb_w10.mono BEz_w9.size)
        have Bz_w10 := Bz_w9.trans (hb_w10.mono Bz_w9.size)
        have eu := hid eu3
        have BEu_w10 : Below w10.heap.size w10 w10 := Below.refl _ _
        clear eu3
        go_upto_region 9 with fail
        obtain ⟨w11, hw_w11, hz_w11, hb_w11, hS_w11⟩ := boxed w10 #[.int .i64 U.al, .int .i64 U.st, .slice Au U.es.length cu] 28
        rw [hw_w11]
        clear hw_w11
        have hu0 := fun w' (hb : Below w11.heap.size w11 w') => hS_w11 0 _ rfl w' (hb.mono hz_w11)
        have hu1 := fun w' (hb : Below w11.heap.size w11 w') => hS_w11 1 _ rfl w' (hb.mono hz_w11)
        have hu2 := fun w' (hb : Below w11.heap.size w11 w') => hS_w11 2 _ rfl w' (hb.mono hz_w11)
        replace hu0 := hid hu0
        replace hu1 := hid hu1
        replace hu2 := hid hu2
        clear hS_w11
        have BW_w11 := BW_w10.trans (hb_w11.mono BW_w10.size)
        have BEs_w11 := BEs_w10.trans (hb_w11.mono BEs_w10.size)
        have BEt_w11 := BEt_w10.trans (hb_w11.mono BEt_w10.size)
        have Bs_w11 := Bs_w10.trans (hb_w11.mono Bs_w10.size)
        have Bt_w11 := Bt_w10.trans (hb_w11.mono Bt_w10.size)
        have BEx_w11 := BEx_w10.trans (hb_w11.mono BEx_w10.size)
        have Bx_w11 := Bx_w10.trans (hb_w11.mono Bx_w10.size)
        have BEz_w11 := BEz_w10.trans (hb_w11.mono BEz_w10.size)
        have Bz_w11 := Bz_w10.trans (hb_w11.mono Bz_w10.size)
        have BEu_w11 := BEu_w10.trans (hb_w11.mono BEu_w10.size)
        have Bu_w11 : Below w11.heap.size w11 w11 := Below.refl _ _
        have pt0 := ht0.out _ Bt_w11
        have pt1 := ht1.out _ Bt_w11
        have pt2 := ht2.out _ Bt_w11
        go_wp2_with fail
        have hc_v := hid (implTrimSystem_any t At ct w11 hbig_t lt1 lt2 (hT.out.later BW_w11) (et.out.later BEt_w11))
        unfold TrimPost at hc_v
        rw [← hTr_v.out, hOk_t.out] at hc_v
        refine hc_v.out.mono ?_
        clear hc_v
        clear pt0 pt1 pt2
        rintro e w12 ⟨Av, cv, rfl, lv1, lv2, ev3, hb_w12⟩
        unfold Sy.val
        have BW_w12 := BW_w11.trans (hb_w12.mono BW_w11.size)
        have BEs_w12 := BEs_w11.trans (hb_w12.mono BEs_w11.size)
        have BEt_w12 := BEt_w11.trans (hb_w12.mono BEt_w11.size)
        have Bs_w12 := Bs_w11.trans (hb_w12.mono Bs_w11.size)
        have Bt_w12 := Bt_w11.trans (hb_w12.mono Bt_w11.size)
        have BEx_w12 := BEx_w11.trans (hb_w12.mono BEx_w11.size)
        have Bx_w12 := Bx_w11.trans (hb_w12.mono Bx_w11.size)
        have BEz_w12 := BEz_w11.trans (hb_w12.mono BEz_w11.size)
        have Bz_w12 := Bz_w11.trans (hb_w12.mono Bz_w11.size)
        have BEu_w12 := BEu_w11.trans (hb_w12.mono BEu_w11.size)
        have Bu_w12 := Bu_w11.trans (hb_w12.mono Bu_w11.size)
        have ev := hid ev3
        have BEv_w12 : Below w12.heap.size w12 w12 := Below.refl _ _
        clear ev3
        go_upto_region 10 with fail
        obtain ⟨w13, hw_w13, hz_w13, hb_w13, hS_w13⟩ := boxed w12 #[.int .i64 V.al, .int .i64 V.st, .slice Av V.es.length cv] 28
        rw [hw_w13]
        clear hw_w13
        have hv0 := fun w' (hb : Below w13.heap.size w13 w') => hS_w13 0 _ rfl w' (hb.mono hz_w13)
        have hv1 := fun w' (hb : Below w13.heap.size w13 w') => hS_w13 1 _ rfl w' (hb.mono hz_w13)
        have hv2 := fun w' (hb : Below w13.heap.size w13 w') => hS_w13 2 _ rfl w' (hb.mono hz_w13)
        replace hv0 := hid hv0
        replace hv1 := hid hv1
        replace hv2 := hid hv2
        clear hS_w13
        have BW_w13 := BW_w12.trans (hb_w13.mono BW_w12.size)
        have BEs_w13 := BEs_w12.trans (hb_w13.mono BEs_w12.size)
        have BEt_w13 := BEt_w12.trans (hb_w13.mono BEt_w12.size)
        have Bs_w13 := Bs_w12.trans (hb_w13.mono Bs_w12.size)
        have Bt_w13 := Bt_w12.trans (hb_w13.mono Bt_w12.size)
        have BEx_w13 := BEx_w12.trans (hb_w13.mono BEx_w12.size)
        have Bx_w13 := Bx_w12.trans (hb_w13.mono Bx_w12.size)
        have BEz_w13 := BEz_w12.trans (hb_w13.mono BEz_w12.size)
        have Bz_w13 := Bz_w12.trans (hb_w13.mono Bz_w12.size)
        have BEu_w13 := BEu_w12.trans (hb_w13.mono BEu_w12.size)
        have Bu_w13 := Bu_w12.trans (hb_w13.mono Bu_w12.size)
        have BEv_w13 := BEv_w12.trans (hb_w13.mono BEv_w12.size)
        have Bv_w13 : Below w13.heap.size w13 w13 := Below.refl _ _
        have pu0 := hu0.out _ Bu_w13
        have pu1 := hu1.out _ Bu_w13
        have pu2 := hu2.out _ Bu_w13
        have pv0 := hv0.out _ Bv_w13
        have pv1 := hv1.out _ Bv_w13
        have pv2 := hv2.out _ Bv_w13
        go_wp2_with fail
        have hc_y := hid (implComposeSystems_any U V Au Av cu cv w13 lu1 lu2 lv1 lv2 (hT.out.later BW_w13) (eu.out.later BEu_w13) (ev.out.later BEv_w13))
        rw [← hY.out, ← hok2.out] at hc_y
        refine hc_y.out.mono ?_
        clear hc_y
        clear pu0 pu1 pu2 pv0 pv1 pv2
        rintro e w14 hpost
        replace hpost := SoOwn.read hpost
        obtain ⟨Ay, cy, rfl, ly1, ly2, ey3, -, hb_w14⟩ := hpost
        unfold Sy.val
        have BW_w14 := BW_w13.trans (hb_w14.mono BW_w13.size)
        have BEs_w14 := BEs_w13.trans (hb_w14.mono BEs_w13.size)
        have BEt_w14 := BEt_w13.trans (hb_w14.mono BEt_w13.size)
        have Bs_w14 := Bs_w13.trans (hb_w14.mono Bs_w13.size)
        have Bt_w14 := Bt_w13.trans (hb_w14.mono Bt_w13.size)
        have BEx_w14 := BEx_w13.trans (hb_w14.mono BEx_w13.size)
        have Bx_w14 := Bx_w13.trans (hb_w14.mono Bx_w13.size)
        have BEz_w14 := BEz_w13.trans (hb_w14.mono BEz_w13.size)
        have Bz_w14 := Bz_w13.trans (hb_w14.mono Bz_w13.size)
        have BEu_w14 := BEu_w13.trans (hb_w14.mono BEu_w13.size)
        have Bu_w14 := Bu_w13.trans (hb_w14.mono Bu_w13.size)
        have BEv_w14 := BEv_w13.trans (hb_w14.mono BEv_w13.size)
        have Bv_w14 := Bv_w13.trans (hb_w14.mono Bv_w13.size)
        have ey := hid ey3
        have BEy_w14 : Below w14.heap.size w14 w14 := Below.refl _ _
        clear ey3
        go_upto_region 11 with fail
        obtain ⟨w15, hw_w15, hz_w15, hb_w15, hS_w15⟩ := boxed w14 #[.int .i64 X.al, .int .i64 X.st, .slice Ay X.es.length cy] 28
        rw [hw_w15]
        clear hw_w15
        have hy0 := fun w' (hb : Below w15.heap.size w15 w') => hS_w15 0 _ rfl w' (hb.mono hz_w15)
        have hy1 := fun w' (hb : Below w15.heap.size w15 w') => hS_w15 1 _ rfl w' (hb.mono hz_w15)
        have hy2 := fun w' (hb : Below w15.heap.size w15 w') => hS_w15 2 _ rfl w' (hb.mono hz_w15)
        replace hy0 := hid hy0
        replace hy1 := hid hy1
        replace hy2 := hid hy2
        clear hS_w15
        have BW_w15 := BW_w14.trans (hb_w15.mono BW_w14.size)
        have BEs_w15 := BEs_w14.trans (hb_w15.mono BEs_w14.size)
        have BEt_w15 := BEt_w14.trans (hb_w15.mono BEt_w14.size)
        have Bs_w15 := Bs_w14.trans (hb_w15.mono Bs_w14.size)
        have Bt_w15 := Bt_w14.trans (hb_w15.mono Bt_w14.size)
        have BEx_w15 := BEx_w14.trans (hb_w15.mono BEx_w14.size)
        have Bx_w15 := Bx_w14.trans (hb_w15.mono Bx_w14.size)
        have BEz_w15 := BEz_w14.trans (hb_w15.mono BEz_w14.size)
        have Bz_w15 := Bz_w14.trans (hb_w15.mono Bz_w14.size)
        have BEu_w15 := BEu_w14.trans (hb_w15.mono BEu_w14.size)
        have Bu_w15 := Bu_w14.trans (hb_w15.mono Bu_w14.size)
        have BEv_w15 := BEv_w14.trans (hb_w15.mono BEv_w14.size)
        have Bv_w15 := Bv_w14.trans (hb_w15.mono Bv_w14.size)
        have BEy_w15 := BEy_w14.trans (hb_w15.mono BEy_w14.size)
        have By_w15 : Below w15.heap.size w15 w15 := Below.refl _ _
        have px0 := hx0.out _ Bx_w15
        have px1 := hx1.out _ Bx_w15
        have px2 := hx2.out _ Bx_w15
        have py0 := hy0.out _ By_w15
        have py1 := hy1.out _ By_w15
        have py2 := hy2.out _ By_w15
        go_wp2_with fail
        refine (agSystems_same X Ax Ay cx cy w15 lx1 lx2 ly1 ly2 (ex.out.later BEx_w15) (ey.out.later BEy_w15)).mono ?_
        clear px0 px1 px2 py0 py1 py2
        rintro e w16 ⟨rfl, hb_w16⟩
        have BW_w16 := BW_w15.trans (hb_w16.mono BW_w15.size)
        have BEs_w16 := BEs_w15.trans (hb_w16.mono BEs_w15.size)
        have BEt_w16 := BEt_w15.trans (hb_w16.mono BEt_w15.size)
        have Bs_w16 := Bs_w15.trans (hb_w16.mono Bs_w15.size)
        have Bt_w16 := Bt_w15.trans (hb_w16.mono Bt_w15.size)
        have BEx_w16 := BEx_w15.trans (hb_w16.mono BEx_w15.size)
        have Bx_w16 := Bx_w15.trans (hb_w16.mono Bx_w15.size)
        have BEz_w16 := BEz_w15.trans (hb_w16.mono BEz_w15.size)
        have Bz_w16 := Bz_w15.trans (hb_w16.mono Bz_w15.size)
        have BEu_w16 := BEu_w15.trans (hb_w16.mono BEu_w15.size)
        have Bu_w16 := Bu_w15.trans (hb_w16.mono Bu_w15.size)
        have BEv_w16 := BEv_w15.trans (hb_w16.mono BEv_w15.size)
        have Bv_w16 := Bv_w15.trans (hb_w16.mono Bv_w15.size)
        have BEy_w16 := BEy_w15.trans (hb_w16.mono BEy_w15.size)
        have By_w16 := By_w15.trans (hb_w16.mono By_w15.size)
        go_wp2_with fail
        go_ret
        exact ⟨rfl, BW_w16⟩

end Go.Proofs.YtdkjnemakkppfaaDoor
