/- Lemmas, part 12: several texts in one. -/
import Derived.Test.YtempjhgajcdibaaDoorK10
import Derived.Test.YtempjhgajcdibaaDoorK11
set_option linter.unusedSimpArgs false
set_option linter.unusedVariables false

/- The program's WordValid, RestrictWord. -/
namespace Go.Proofs.YtempjhgajcdibaaDoor
open Go.RowKit Go.BigFrame AG

theorem within_63 (x : ByteArray) : within x 63 = wordOk x := by
  have key : ∀ i, HasZ 63 (ltr x i) = true ↔ lOk (lz x i) = true := by
    intro i
    unfold ltr
    split
    · rename_i h
      refine ⟨fun _ => h, fun _ => ?_⟩
      have h2 : 0 ≤ lz x i ∧ lz x i < 6 := by unfold lOk at h; exact of_decide_eq_true h
      obtain ⟨n, hn⟩ := Int.eq_ofNat_of_zero_le h2.1
      rw [hn]
      have hn6 : n < 6 := by omega
      match n, hn6 with
      | 0, _ => decide
      | 1, _ => decide
      | 2, _ => decide
      | 3, _ => decide
      | 4, _ => decide
      | 5, _ => decide
    · rename_i h
      refine ⟨fun k => ?_, fun k => absurd k h⟩
      rw [hasZ_neg] at k
      cases k
  unfold within wordOk
  rw [Bool.eq_iff_iff, decide_eq_true_iff, decide_eq_true_iff]
  exact ⟨fun h => ⟨h.2.1, fun i hi => (key i).1 (h.2.2 i hi)⟩, fun h => ⟨by decide, h.1, fun i hi => (key i).2 (h.2 i hi)⟩⟩

set_option maxHeartbeats 1000000 in
theorem implWordValid_any (s : ByteArray) (w : World) (hz : s.size ≤ 9223372036854775807) :
    Calls Tryd.prog 72 #[.string s] w fun e w' => e = .returned (.bool (wordOk s)) ∧ w = w' := by
  go_enter Tryd.func72, Tryd.ntmps72
  go_wp2_with (go_at_call 67; refine (implWordWithin_any s 63 _ hz).mono ?_; rintro e w' ⟨rfl, rfl⟩; rw [within_63])
  go_ret
  exact ⟨rfl, rfl⟩

set_option maxHeartbeats 1000000 in
theorem implRestrictWord_any (s : ByteArray) (al : Int) (w : World) (hok : wordOk s = true) (ha : alphaOk al = true) :
    Calls Tryd.prog 24 #[.string s, .int .i64 al] w fun e w' => e = .returned (.string (restr s al)) ∧ Below w.heap.size w w' := by
  have hz : s.size ≤ 50000 := by unfold wordOk at hok; exact (of_decide_eq_true hok).1
  replace hok := hid hok
  replace ha := hid ha
  go_enter Tryd.func24, Tryd.ntmps24
  go_wp2_with (first
    | (go_at_call 72; refine (implWordValid_any s _ (by omega)).mono ?_; rintro e w' ⟨rfl, rfl⟩; rw [hok.out])
    | (go_at_call 56; refine (isAlphabet_any al _).mono ?_; rintro e w' ⟨rfl, rfl⟩; rw [ha.out])
    | (go_at_call 68; refine (restrict_any s al _ hz).mono ?_; rintro e w' ⟨rfl, hb⟩))
  go_ret
  exact ⟨rfl, hb⟩

end Go.Proofs.YtempjhgajcdibaaDoor

/- The law FnTraceFewer. -/
namespace Go.Proofs.YtempjhgajcdibaaDoor
open Go.RowKit Go.BigFrame AG

theorem SysAt.tail {w : World} {B b o : Nat} {s : Sy} {ss : List Sy} (h : SysAt w B (some ⟨b, o, none⟩) (s :: ss)) : SysAt w B (some ⟨b, o + 3, none⟩) ss := fun hl => by
  obtain ⟨b', o', hA, hb, hE⟩ := h (by simp)
  cases hA
  refine ⟨b, o + 3, rfl, hb, fun i hi => ?_⟩
  have := hE (i + 1) (by simp; omega)
  simp only [List.getElem_cons_succ] at this
  rw [show o + (i + 1) * 3 = o + 3 + i * 3 from by omega] at this
  exact this

set_option maxRecDepth 100000 in
set_option maxHeartbeats 8000000 in
theorem FnTraceFewer_any (A : Option Addr) (n c : Nat) (w : World) (hn : n ≤ c) (hc : c ≤ 9223372036854775807) (hT : Tab w) (hx : CodeAt w A n) :
    Calls Tryd.prog 5 #[.slice A n c] w fun e w' => e = .returned (.bool true) ∧ Below w.heap.size w w' := by
  replace hx := hid hx
  replace hT := hid hT
  by_cases hbig : 1048576 < n
  · go_enter Tryd.func5, Tryd.ntmps5
    go_wp2
    go_ret
    exact ⟨rfl, Below.refl _ _⟩
  · go_enter Tryd.func5, Tryd.ntmps5
    go_wp2_with fail
    refine (drawTraceOfParts_any A n c w hn hc hx.out).mono ?_
    rintro e w1 ⟨ss, As, cs, x, rfl, a1, a2, a3, a4, a5, hb1⟩
    have hz : x.size ≤ 9223372036854775807 := by omega
    have hT1 := hid (hT.out.later hb1)
    replace a5 := hid a5
    go_wp2_with fail
    refine (implTraceOfParts_any ss As cs x w1 hz a1 a2 hT1.out a5.out).mono ?_
    rintro e w2 ⟨rfl, hb2⟩
    have hB2 := hb1.trans (hb2.mono hb1.size)
    have r2 := hid (a5.out.later hb2)
    have hT2 := hid (hT1.out.later hb2)
    obtain ⟨bt, hbt⟩ : ∃ bt, Hid (bt = trParts ss x) := ⟨_, hid rfl⟩
    rw [← hbt.out]
    cases bt
    · go_wp2_with fail
      refine (specTraceOfParts_any ss As cs x w2 hz a1 a2 r2.out).mono ?_
      rintro e w3 ⟨rfl, hb3⟩
      rw [← hbt.out]
      have hB3 := hB2.trans (hb3.mono hB2.size)
      have r3 := hid (r2.out.later hb3)
      go_wp2_with fail
      refine (specTraceOfParts_any ss As cs x w3 hz a1 a2 r3.out).mono ?_
      rintro e w4 ⟨rfl, hb4⟩
      rw [← hbt.out]
      have hB4 := hB3.trans (hb4.mono hB3.size)
      go_wp2_with fail
      go_ret
      exact ⟨rfl, hB4⟩
    · by_cases h2 : ss.length < 2
      · go_wp2_with fail
        refine (specTraceOfParts_any ss As cs x w2 hz a1 a2 r2.out).mono ?_
        rintro e w3 ⟨rfl, hb3⟩
        rw [← hbt.out]
        have hB3 := hB2.trans (hb3.mono hB2.size)
        have r3 := hid (r2.out.later hb3)
        go_wp2_with fail
        refine (specTraceOfParts_any ss As cs x w3 hz a1 a2 r3.out).mono ?_
        rintro e w4 ⟨rfl, hb4⟩
        rw [← hbt.out]
        have hB4 := hB3.trans (hb4.mono hB3.size)
        go_wp2_with fail
        go_ret
        exact ⟨rfl, hB4⟩
      · go_wp2_with fail
        refine (specTraceOfParts_any ss As cs x w2 hz a1 a2 r2.out).mono ?_
        rintro e w3 ⟨rfl, hb3⟩
        rw [← hbt.out]
        have hB3 := hB2.trans (hb3.mono hB2.size)
        have r3 := hid (r2.out.later hb3)
        have hT3 := hid (hT2.out.later hb3)
        obtain ⟨b, o, hA, hbb, -⟩ := r3.out (by omega)
        subst hA
        obtain ⟨s0, ts, hss⟩ : ∃ s0 ts, Hid (ss = s0 :: ts) := by
          cases ss with
          | nil => simp at h2
          | cons s0 ts => exact ⟨s0, ts, hid rfl⟩
        have hl1 : ss.length - 1 = ts.length := by rw [hss.out]; simp
        have hne : ts ≠ [] := by
          intro e
          rw [hss.out, e] at h2
          simp at h2
        have hm := trParts_tail (by rw [← hss.out]; exact hbt.out.symm) hne
        have hwo : wordOk x = true := within_word ((trParts_list ss x).1 hbt.out.symm).2.1
        have hal : alphaOk (allAl ts) = true := alphaOk_range.2 (allAl_range _ (partsOk_all hm.1))
        have hpa : partsAl ts = allAl ts := by unfold partsAl; rw [if_pos hm.1]
        have rt : Hid (SysAt w3 w3.heap.size (some ⟨b, o + 3, none⟩) ts) := hid (SysAt.tail (by rw [← hss.out]; exact r3.out))
        have hrs : (restr x (allAl ts)).size ≤ 9223372036854775807 := by have := restr_size x (allAl ts); omega
        replace hm := hid hm
        replace hwo := hid hwo
        replace hal := hid hal
        replace hpa := hid hpa
        replace hl1 := hid hl1
        replace hne := hid hne
        have k1 : (1 : Int) ≤ (ss.length : Int) := by omega
        have k2 : (ss.length : Int) ≤ (cs : Int) := by omega
        go_wp2_with fail
        refine GK.wp_region 9 [] 200 (KeepB fun _ => False) (GK.BI w3) (fun i u _ => if i = 5 then u = .int .i64 (allAl ts) else if i = 6 then u = .string (restr x (allAl ts)) else u = .bool true) (by kernel_rfl) (by kernel_rfl) (GK.BI.way w3) (by decide) (Below.refl _ _).drew ?_
        simp only [List.take_succ_cons, List.take_zero]
        (repeat (refine GK.grow_quiet w3 (by rfl) (by rfl) ?_; intro K hK; go_big_quiet_op; go_big_quiet_on))
        refine GK.grow_val (.int .i64 (allAl ts)) (by rfl) rfl (fun m wq hm2 hbq _ => ?_) ?_
        · go_simp
          exact ⟨rfl, by
            have hbq' : Below w3.heap.size w3 wq := hbq
            rw [hl1.out]
            refine (implPartsAlphabet_any ts (some ⟨b, o + 3, none⟩) (cs - 1) wq (by have := hl1.out; omega) (by omega) (rt.out.later hbq')).mono fun e w' ⟨h1, h2⟩ => ⟨?_, GK.BI.after hbq h2⟩
            rw [h1, hpa.out]⟩
        simp only [Act.put, List.setIfInBounds_toArray, List.set_cons_zero, List.set_cons_succ]
        (repeat (refine GK.grow_quiet w3 (by rfl) (by rfl) ?_; intro K hK; go_big_quiet_op; go_big_quiet_on))
        refine GK.grow_val (.string (restr x (allAl ts))) (by rfl) rfl (fun m wq hm2 hbq _ => ?_) ?_
        · go_simp
          exact ⟨rfl, by
            refine (implRestrictWord_any x (allAl ts) wq hwo.out hal.out).mono fun e w' ⟨h1, h2⟩ => ⟨h1, GK.BI.after hbq h2⟩⟩
        simp only [Act.put, List.setIfInBounds_toArray, List.set_cons_zero, List.set_cons_succ]
        (repeat (refine GK.grow_quiet w3 (by rfl) (by rfl) ?_; intro K hK; go_big_quiet_op; go_big_quiet_on))
        refine GK.grow_val (.bool true) (by rfl) rfl (fun m wq hm2 hbq _ => ?_) ?_
        · go_simp
          exact ⟨rfl, by
            have hbq' : Below w3.heap.size w3 wq := hbq
            rw [hl1.out]
            refine (implTraceOfParts_any ts (some ⟨b, o + 3, none⟩) (cs - 1) _ wq hrs (by have := hl1.out; omega) (by omega) (hT3.out.later hbq') (rt.out.later hbq')).mono fun e w' ⟨h1, h2⟩ => ⟨?_, GK.BI.after hbq h2⟩
            rw [h1, hm.out.2]⟩
        simp only [Act.put, List.setIfInBounds_toArray, List.set_cons_zero, List.set_cons_succ]
        (repeat (refine GK.grow_quiet w3 (by rfl) (by rfl) ?_; intro K hK; go_big_quiet_op; go_big_quiet_on))
        refine GK.grow_nil ?_
        intro w4 hw4 _
        simp only [List.filterMap_nil]
        replace hw4 : Below w3.heap.size w3 w4 := hw4
        have hB4 := hB3.trans (hw4.mono hB3.size)
        go_wp2_with fail
        go_ret
        exact ⟨rfl, hB4⟩

end Go.Proofs.YtempjhgajcdibaaDoor
