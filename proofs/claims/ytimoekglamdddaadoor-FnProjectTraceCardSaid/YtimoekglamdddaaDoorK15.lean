/- Lemmas, part 15: several texts in one. -/
import Derived.Test.YtimoekglamdddaaDoorK12
import Derived.Test.YtimoekglamdddaaDoorK13
import Derived.Test.YtimoekglamdddaaDoorK6
import Derived.Test.YtimoekglamdddaaDoorK7
import Derived.Test.YtimoekglamdddaaDoorK14
set_option linter.unusedSimpArgs false
set_option linter.unusedVariables false

/- The program's WordValid, RestrictWord. -/
namespace Go.Proofs.YtimoekglamdddaaDoor
open Go.RowKit Go.BigFrame AG

theorem within_63 (x : ByteArray) : within x 63 = wordOk x := by
  have key : ∀ i, HasZ 63 (ltr x i) = true ↔ lOk (lz x i) = true := by
    intro i
    unfold ltr
    split
    · rename_i h
      refine ⟨fun _ => h, fun _ => ?_⟩
      have h2 : 0 ≤ lz x i ∧ lz x i < 6 := by unfold lOk at h; exact of_decide_eq_true h
      obtain ⟨n, hn⟩ := Int.eq_ofNat_of_zero_le h2.1
      rw [hn]
      have hn6 : n < 6 := by omega
      match n, hn6 with
      | 0, _ => decide
      | 1, _ => decide
      | 2, _ => decide
      | 3, _ => decide
      | 4, _ => decide
      | 5, _ => decide
    · rename_i h
      refine ⟨fun k => ?_, fun k => absurd k h⟩
      rw [hasZ_neg] at k
      cases k
  unfold within wordOk
  rw [Bool.eq_iff_iff, decide_eq_true_iff, decide_eq_true_iff]
  exact ⟨fun h => ⟨h.2.1, fun i hi => (key i).1 (h.2.2 i hi)⟩, fun h => ⟨by decide, h.1, fun i hi => (key i).2 (h.2 i hi)⟩⟩

set_option maxHeartbeats 1000000 in
theorem implWordValid_any (s : ByteArray) (w : World) (hz : s.size ≤ 9223372036854775807) :
    Calls Tryd.prog 87 #[.string s] w fun e w' => e = .returned (.bool (wordOk s)) ∧ w = w' := by
  go_enter Tryd.func87, Tryd.ntmps87
  go_wp2_with (go_at_call 96; refine (implWordWithin_any s 63 _ hz).mono ?_; rintro e w' ⟨rfl, rfl⟩; rw [within_63])
  go_ret
  exact ⟨rfl, rfl⟩

set_option maxHeartbeats 1000000 in
theorem implRestrictWord_any (s : ByteArray) (al : Int) (w : World) (hok : wordOk s = true) (ha : alphaOk al = true) :
    Calls Tryd.prog 34 #[.string s, .int .i64 al] w fun e w' => e = .returned (.string (restr s al)) ∧ Below w.heap.size w w' := by
  have hz : s.size ≤ 50000 := by unfold wordOk at hok; exact (of_decide_eq_true hok).1
  replace hok := hid hok
  replace ha := hid ha
  go_enter Tryd.func34, Tryd.ntmps34
  go_wp2_with (first
    | (go_at_call 87; refine (implWordValid_any s _ (by omega)).mono ?_; rintro e w' ⟨rfl, rfl⟩; rw [hok.out])
    | (go_at_call 62; refine (isAlphabet_any al _).mono ?_; rintro e w' ⟨rfl, rfl⟩; rw [ha.out])
    | (go_at_call 88; refine (restrict_any s al _ hz).mono ?_; rintro e w' ⟨rfl, hb⟩))
  go_ret
  exact ⟨rfl, hb⟩

end Go.Proofs.YtimoekglamdddaaDoor

/- The law FnProjectTrace. -/
namespace Go.Proofs.YtimoekglamdddaaDoor
open Go.RowKit Go.BigFrame Go.Maps AG

theorem codeAt_later {w w' : World} {A : Option Addr} {n : Nat} (h : CodeAt w A n) (hb : Below w.heap.size w w') : CodeAt w' A n := fun hl => by
  obtain ⟨b, o, h1, h2, h3⟩ := h hl
  refine ⟨b, o, h1, Nat.lt_of_lt_of_le h2 hb.size, fun i hi => ?_⟩
  obtain ⟨y, h4, h5⟩ := h3 i hi
  exact ⟨y, h4, by rw [hb.cell (by simpa using h2)]; exact h5⟩

set_option maxRecDepth 100000 in
set_option maxHeartbeats 16000000 in
theorem FnProjectTrace_any (A A' : Option Addr) (n c n' c' : Nat) (w : World) (hn : n ≤ c) (hc : c ≤ 9223372036854775807) (hn' : n' ≤ c') (hc' : c' ≤ 9223372036854775807) (hT : Tab w) (hx : CodeAt w A n) (hx' : CodeAt w A' n') :
    Calls Tryd.prog 8 #[.slice A n c, .slice A' n' c'] w fun e w' => e = .returned (.bool true) ∧ Below w.heap.size w w' := by
  replace hT := hid hT
  replace hx := hid hx
  replace hx' := hid hx'
  by_cases hlen : 1048576 < n
  · have hgt : (1048576 : Int) < (n : Int) := by omega
    go_enter Tryd.func8, Tryd.ntmps8
    go_wp2
    go_ret
    exact ⟨rfl, Below.refl _ _⟩
  by_cases hlen' : 1048576 < n'
  · have hgt0 : ¬ ((1048576 : Int) < (n : Int)) := by omega
    have hgt : (1048576 : Int) < (n' : Int) := by omega
    go_enter Tryd.func8, Tryd.ntmps8
    go_wp2
    go_ret
    exact ⟨rfl, Below.refl _ _⟩
  have hgt : ¬ ((1048576 : Int) < (n : Int)) := by omega
  have hgt' : ¬ ((1048576 : Int) < (n' : Int)) := by omega
  go_enter Tryd.func8, Tryd.ntmps8
  go_wp2_with fail
  have BW_w : Below w.heap.size w w := Below.refl _ _
  refine (drawStatesAfter_any A n c w hn hc hx.out).mono ?_
  rintro e w1 ⟨s, As, cs, x, rfl, a1, a2, a3, ax, a4, -, hb_w1⟩
  unfold Sy.val
  have BW_w1 := BW_w.trans (hb_w1.mono BW_w.size)
  have es := hid a4
  have BEs_w1 : Below w1.heap.size w1 w1 := Below.refl _ _
  clear a4
  go_upto_region 4 with fail
  obtain ⟨w2, hw_w2, hz_w2, hb_w2, hS_w2⟩ := boxed w1 #[.int .i64 s.al, .int .i64 s.st, .slice As s.es.length cs] 34
  rw [hw_w2]
  clear hw_w2
  have hs0 := fun w' (hb : Below w2.heap.size w2 w') => hS_w2 0 _ rfl w' (hb.mono hz_w2)
  have hs1 := fun w' (hb : Below w2.heap.size w2 w') => hS_w2 1 _ rfl w' (hb.mono hz_w2)
  have hs2 := fun w' (hb : Below w2.heap.size w2 w') => hS_w2 2 _ rfl w' (hb.mono hz_w2)
  replace hs0 := hid hs0
  replace hs1 := hid hs1
  replace hs2 := hid hs2
  clear hS_w2
  have BW_w2 := BW_w1.trans (hb_w2.mono BW_w1.size)
  have BEs_w2 := BEs_w1.trans (hb_w2.mono BEs_w1.size)
  have Bs_w2 : Below w2.heap.size w2 w2 := Below.refl _ _
  go_wp2_with fail
  refine (drawProjectSystem_any A' n' c' w2 hn' hc' (codeAt_later hx'.out BW_w2)).mono ?_
  rintro e w3 ⟨u, Au, cu, al, rfl, b1, b2, b3, -, -, hb_w3⟩
  unfold Sy.val
  have BW_w3 := BW_w2.trans (hb_w3.mono BW_w2.size)
  have BEs_w3 := BEs_w2.trans (hb_w3.mono BEs_w2.size)
  have Bs_w3 := Bs_w2.trans (hb_w3.mono Bs_w2.size)
  go_upto_region 5 with fail
  obtain ⟨w4, hw_w4, hz_w4, hb_w4, hS_w4⟩ := boxed w3 #[.int .i64 u.al, .int .i64 u.st, .slice Au u.es.length cu] 34
  rw [hw_w4]
  clear hw_w4
  have hu0 := fun w' (hb : Below w4.heap.size w4 w') => hS_w4 0 _ rfl w' (hb.mono hz_w4)
  have hu1 := fun w' (hb : Below w4.heap.size w4 w') => hS_w4 1 _ rfl w' (hb.mono hz_w4)
  have hu2 := fun w' (hb : Below w4.heap.size w4 w') => hS_w4 2 _ rfl w' (hb.mono hz_w4)
  replace hu0 := hid hu0
  replace hu1 := hid hu1
  replace hu2 := hid hu2
  clear hS_w4
  have BW_w4 := BW_w3.trans (hb_w4.mono BW_w3.size)
  have BEs_w4 := BEs_w3.trans (hb_w4.mono BEs_w3.size)
  have Bs_w4 := Bs_w3.trans (hb_w4.mono Bs_w3.size)
  have Bu_w4 : Below w4.heap.size w4 w4 := Below.refl _ _
  obtain ⟨a, ha⟩ : ∃ a, Hid (a = prA s al) := ⟨_, hid rfl⟩
  obtain ⟨ok, hok⟩ : ∃ ok, Hid (ok = prK s al) := ⟨_, hid rfl⟩
  have ps0 := hs0.out _ Bs_w4
  have ps1 := hs1.out _ Bs_w4
  have ps2 := hs2.out _ Bs_w4
  go_wp2_with fail
  have hc_a := hid (implProjectSystem_any s As cs al w4 a1 a2 (hT.out.later BW_w4) (es.out.later BEs_w4))
  rw [← ha.out, ← hok.out] at hc_a
  refine hc_a.out.mono ?_
  clear hc_a
  clear ps0 ps1 ps2
  rintro e w5 ⟨hb_w5, v1, v2, xs, rfl, hau⟩
  obtain ⟨Aa, ca, Ba, da, rfl, rfl, ta⟩ := hau.at_
  replace ta := hid ta
  clear hau
  have BW_w5 := BW_w4.trans (hb_w5.mono BW_w4.size)
  have BEs_w5 := BEs_w4.trans (hb_w5.mono BEs_w4.size)
  have Bs_w5 := Bs_w4.trans (hb_w5.mono Bs_w4.size)
  have Bu_w5 := Bu_w4.trans (hb_w5.mono Bu_w4.size)
  have BTa_w5 : Below w5.heap.size w5 w5 := Below.refl _ _
  go_upto_region 6 with fail
  obtain ⟨w6, hw_w6, hz_w6, hb_w6, hS_w6⟩ := boxed w5 #[.int .i64 a.al, .slice Aa a.nx.length ca, .slice Ba a.ac.length da] 29
  rw [hw_w6]
  clear hw_w6
  have ha0 := fun w' (hb : Below w6.heap.size w6 w') => hS_w6 0 _ rfl w' (hb.mono hz_w6)
  have ha1 := fun w' (hb : Below w6.heap.size w6 w') => hS_w6 1 _ rfl w' (hb.mono hz_w6)
  have ha2 := fun w' (hb : Below w6.heap.size w6 w') => hS_w6 2 _ rfl w' (hb.mono hz_w6)
  replace ha0 := hid ha0
  replace ha1 := hid ha1
  replace ha2 := hid ha2
  clear hS_w6
  have BW_w6 := BW_w5.trans (hb_w6.mono BW_w5.size)
  have BEs_w6 := BEs_w5.trans (hb_w6.mono BEs_w5.size)
  have Bs_w6 := Bs_w5.trans (hb_w6.mono Bs_w5.size)
  have Bu_w6 := Bu_w5.trans (hb_w6.mono Bu_w5.size)
  have BTa_w6 := BTa_w5.trans (hb_w6.mono BTa_w5.size)
  have Ba_w6 : Below w6.heap.size w6 w6 := Below.refl _ _
  have ps0 := hs0.out _ Bs_w6
  have ps1 := hs1.out _ Bs_w6
  have ps2 := hs2.out _ Bs_w6
  go_wp2_with fail
  have hc_x := hid (specProjectSystem_any s As cs al w6 a1 a2 (es.out.later BEs_w6))
  rw [← ha.out, ← hok.out] at hc_x
  refine hc_x.out.mono ?_
  clear hc_x
  clear ps0 ps1 ps2
  rintro e w7 ⟨hb_w7, v1, v2, xs, rfl, hau⟩
  obtain ⟨Ax, cx, Bx, dx, rfl, rfl, tx⟩ := hau.at_
  replace tx := hid tx
  clear hau
  have BW_w7 := BW_w6.trans (hb_w7.mono BW_w6.size)
  have BEs_w7 := BEs_w6.trans (hb_w7.mono BEs_w6.size)
  have Bs_w7 := Bs_w6.trans (hb_w7.mono Bs_w6.size)
  have Bu_w7 := Bu_w6.trans (hb_w7.mono Bu_w6.size)
  have BTa_w7 := BTa_w6.trans (hb_w7.mono BTa_w6.size)
  have Ba_w7 := Ba_w6.trans (hb_w7.mono Ba_w6.size)
  have BTx_w7 : Below w7.heap.size w7 w7 := Below.refl _ _
  go_upto_region 7 with fail
  obtain ⟨w8, hw_w8, hz_w8, hb_w8, hS_w8⟩ := boxed w7 #[.int .i64 a.al, .slice Ax a.nx.length cx, .slice Bx a.ac.length dx] 29
  rw [hw_w8]
  clear hw_w8
  have hx0 := fun w' (hb : Below w8.heap.size w8 w') => hS_w8 0 _ rfl w' (hb.mono hz_w8)
  have hx1 := fun w' (hb : Below w8.heap.size w8 w') => hS_w8 1 _ rfl w' (hb.mono hz_w8)
  have hx2 := fun w' (hb : Below w8.heap.size w8 w') => hS_w8 2 _ rfl w' (hb.mono hz_w8)
  replace hx0 := hid hx0
  replace hx1 := hid hx1
  replace hx2 := hid hx2
  clear hS_w8
  have BW_w8 := BW_w7.trans (hb_w8.mono BW_w7.size)
  have BEs_w8 := BEs_w7.trans (hb_w8.mono BEs_w7.size)
  have Bs_w8 := Bs_w7.trans (hb_w8.mono Bs_w7.size)
  have Bu_w8 := Bu_w7.trans (hb_w8.mono Bu_w7.size)
  have BTa_w8 := BTa_w7.trans (hb_w8.mono BTa_w7.size)
  have Ba_w8 := Ba_w7.trans (hb_w8.mono Ba_w7.size)
  have BTx_w8 := BTx_w7.trans (hb_w8.mono BTx_w7.size)
  have Bx_w8 : Below w8.heap.size w8 w8 := Below.refl _ _
  have pa0 := ha0.out _ Ba_w8
  have pa1 := ha1.out _ Ba_w8
  have pa2 := ha2.out _ Ba_w8
  have px0 := hx0.out _ Bx_w8
  have px1 := hx1.out _ Bx_w8
  have px2 := hx2.out _ Bx_w8
  go_wp2_with fail
  refine (agAutomata_any a a Aa Ba Ax Bx ca da cx dx w8 (ta.out.later BTa_w8) (tx.out.later BTx_w8)).mono ?_
  clear pa0 pa1 pa2 px0 px1 px2
  rintro e w9 ⟨rfl, hb_w9⟩
  have BW_w9 := BW_w8.trans (hb_w9.mono BW_w8.size)
  have BEs_w9 := BEs_w8.trans (hb_w9.mono BEs_w8.size)
  have Bs_w9 := Bs_w8.trans (hb_w9.mono Bs_w8.size)
  have Bu_w9 := Bu_w8.trans (hb_w9.mono Bu_w8.size)
  have BTa_w9 := BTa_w8.trans (hb_w9.mono BTa_w8.size)
  have Ba_w9 := Ba_w8.trans (hb_w9.mono Ba_w8.size)
  have BTx_w9 := BTx_w8.trans (hb_w9.mono BTx_w8.size)
  have Bx_w9 := Bx_w8.trans (hb_w9.mono Bx_w8.size)
  rw [decide_eq_true rfl]
  cases hokc : ok
  case false =>
    rw [hokc] at hok
    have pa0 := ha0.out _ Ba_w9
    have pa1 := ha1.out _ Ba_w9
    have pa2 := ha2.out _ Ba_w9
    have px0 := hx0.out _ Bx_w9
    have px1 := hx1.out _ Bx_w9
    have px2 := hx2.out _ Bx_w9
    go_wp2_with fail
    refine (agAutomata_any a a Aa Ba Ax Bx ca da cx dx w9 (ta.out.later BTa_w9) (tx.out.later BTx_w9)).mono ?_
    clear pa0 pa1 pa2 px0 px1 px2
    rintro e w10 ⟨rfl, hb_w10⟩
    have BW_w10 := BW_w9.trans (hb_w10.mono BW_w9.size)
    have BEs_w10 := BEs_w9.trans (hb_w10.mono BEs_w9.size)
    have Bs_w10 := Bs_w9.trans (hb_w10.mono Bs_w9.size)
    have Bu_w10 := Bu_w9.trans (hb_w10.mono Bu_w9.size)
    have BTa_w10 := BTa_w9.trans (hb_w10.mono BTa_w9.size)
    have Ba_w10 := Ba_w9.trans (hb_w10.mono Ba_w9.size)
    have BTx_w10 := BTx_w9.trans (hb_w10.mono BTx_w9.size)
    have Bx_w10 := Bx_w9.trans (hb_w10.mono Bx_w9.size)
    rw [decide_eq_true rfl]
    go_wp2_with fail
    go_ret
    exact ⟨rfl, BW_w10⟩
  case true =>
  have hpk : Hid (prK s al = true) := hid (by rw [← hok.out, hokc])
  subst hokc
  have ps0 := hs0.out _ Bs_w9
  have ps1 := hs1.out _ Bs_w9
  have ps2 := hs2.out _ Bs_w9
  go_wp2_with fail
  refine (implHasTrace_any s As cs x w9 (by omega) a1 a2 (hT.out.later BW_w9) (es.out.later BEs_w9)).mono ?_
  clear ps0 ps1 ps2
  rintro e w11 ⟨rfl, hb_w11⟩
  have BW_w11 := BW_w9.trans (hb_w11.mono BW_w9.size)
  have BEs_w11 := BEs_w9.trans (hb_w11.mono BEs_w9.size)
  have Bs_w11 := Bs_w9.trans (hb_w11.mono Bs_w9.size)
  have Bu_w11 := Bu_w9.trans (hb_w11.mono Bu_w9.size)
  have BTa_w11 := BTa_w9.trans (hb_w11.mono BTa_w9.size)
  have Ba_w11 := Ba_w9.trans (hb_w11.mono Ba_w9.size)
  have BTx_w11 := BTx_w9.trans (hb_w11.mono BTx_w9.size)
  have Bx_w11 := Bx_w9.trans (hb_w11.mono Bx_w9.size)
  cases hv : hasTr s x
  case false =>
    replace hv := hid hv
    have pa0 := ha0.out _ Ba_w11
    have pa1 := ha1.out _ Ba_w11
    have pa2 := ha2.out _ Ba_w11
    have px0 := hx0.out _ Bx_w11
    have px1 := hx1.out _ Bx_w11
    have px2 := hx2.out _ Bx_w11
    go_wp2_with fail
    refine (agAutomata_any a a Aa Ba Ax Bx ca da cx dx w11 (ta.out.later BTa_w11) (tx.out.later BTx_w11)).mono ?_
    clear pa0 pa1 pa2 px0 px1 px2
    rintro e w12 ⟨rfl, hb_w12⟩
    have BW_w12 := BW_w11.trans (hb_w12.mono BW_w11.size)
    have BEs_w12 := BEs_w11.trans (hb_w12.mono BEs_w11.size)
    have Bs_w12 := Bs_w11.trans (hb_w12.mono Bs_w11.size)
    have Bu_w12 := Bu_w11.trans (hb_w12.mono Bu_w11.size)
    have BTa_w12 := BTa_w11.trans (hb_w12.mono BTa_w11.size)
    have Ba_w12 := Ba_w11.trans (hb_w12.mono Ba_w11.size)
    have BTx_w12 := BTx_w11.trans (hb_w12.mono BTx_w11.size)
    have Bx_w12 := Bx_w11.trans (hb_w12.mono Bx_w11.size)
    rw [decide_eq_true rfl]
    go_wp2_with fail
    go_ret
    exact ⟨rfl, BW_w12⟩
  case true =>
  have hwo : Hid (wordOk x = true) := hid (within_word (hasTr_ok hv).2)
  have hal : Hid (alphaOk al = true) := hid (alphaOk_range.2 (prOk_parts (prK_true hpk.out).1).2.1)
  have hacc := hid (acc_restr hpk.out hv)
  have hys : (restr x al).size ≤ 9223372036854775807 := by
    have h1 := size_list (restr x al)
    rw [restr_list] at h1
    have h2 := List.length_filter_le (pk al) x.data.toList
    rw [size_list] at h2
    omega
  obtain ⟨y, hy⟩ : ∃ y, Hid (y = restr x al) := ⟨_, hid rfl⟩
  rw [← hy.out] at hacc hys
  replace hv := hid hv
  have ya0 := fun x => ha0.out _ (Ba_w11.trans ((Fam.below w11.heap.size w11 x).mono Ba_w11.size))
  have ya1 := fun x => ha1.out _ (Ba_w11.trans ((Fam.below w11.heap.size w11 x).mono Ba_w11.size))
  have ya2 := fun x => ha2.out _ (Ba_w11.trans ((Fam.below w11.heap.size w11 x).mono Ba_w11.size))
  have hac2 := hid (ta.out.later BTa_w11)
  go_wp2_with fail
  refine wp_region_grow 6 w11.heap.size w11 (fun i u _ => if i = 3 then u = .string y else u = .bool true) (by kernel_rfl) (by kernel_rfl) (Nat.le_refl _) (Below.refl _ _) ?_
  simp only [List.take_succ_cons, List.take_zero, List.drop_succ_cons, List.drop_zero]
  (repeat (refine grow_quiet (by rfl) (by rfl) (by rfl) ?_; intro K hK; go_big_quiet_op; go_big_quiet_on))
  refine grow_val (.string y) (by rfl) (by rfl) rfl (fun wq hbq _ => ?_) ?_
  · go_simp
    refine ⟨rfl, (implRestrictWord_any x al wq hwo.out hal.out).mono ?_⟩
    rintro e w3 ⟨rfl, hb3⟩
    exact ⟨by rw [hy.out], hb3⟩
  simp only [Act.put, List.setIfInBounds_toArray, List.set_cons_zero, List.set_cons_succ]
  (repeat (refine grow_quiet (by rfl) (by rfl) (by rfl) ?_; intro K hK; go_big_quiet_op; go_big_quiet_on))
  refine grow_val (.bool true) (by rfl) (by rfl) rfl (fun wq hbq _ => ?_) ?_
  · go_simp
    refine ⟨rfl, (implAcceptsWord_any a Aa Ba ca da y wq hys (hac2.out.later hbq)).mono ?_⟩
    rintro e w3 ⟨rfl, hb3⟩
    exact ⟨by rw [ha.out, hacc.out], hb3⟩
  simp only [Act.put, List.setIfInBounds_toArray, List.set_cons_zero, List.set_cons_succ]
  (repeat (refine grow_quiet (by rfl) (by rfl) (by rfl) ?_; intro K hK; go_big_quiet_op; go_big_quiet_on))
  refine grow_nil ?_
  intro w40 hb_w40 hf
  clear hf ya0 ya1 ya2
  have BW_w40 := BW_w11.trans (hb_w40.mono BW_w11.size)
  have BEs_w40 := BEs_w11.trans (hb_w40.mono BEs_w11.size)
  have Bs_w40 := Bs_w11.trans (hb_w40.mono Bs_w11.size)
  have Bu_w40 := Bu_w11.trans (hb_w40.mono Bu_w11.size)
  have BTa_w40 := BTa_w11.trans (hb_w40.mono BTa_w11.size)
  have Ba_w40 := Ba_w11.trans (hb_w40.mono Ba_w11.size)
  have BTx_w40 := BTx_w11.trans (hb_w40.mono BTx_w11.size)
  have Bx_w40 := Bx_w11.trans (hb_w40.mono Bx_w11.size)
  go_wp2_with fail
  go_ret
  exact ⟨rfl, BW_w40⟩

end Go.Proofs.YtimoekglamdddaaDoor
