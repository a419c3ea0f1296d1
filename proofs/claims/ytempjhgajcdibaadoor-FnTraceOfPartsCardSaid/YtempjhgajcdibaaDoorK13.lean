/- The law FnTraceOfParts. -/
import Derived.Test.YtempjhgajcdibaaDoorK11
import Derived.Test.YtempjhgajcdibaaDoorK12
set_option linter.unusedSimpArgs false
set_option linter.unusedVariables false
namespace Go.Proofs.YtempjhgajcdibaaDoor
open Go.RowKit Go.BigFrame AG

theorem pre_extract (x : ByteArray) (k : Nat) : Pre (x.extract 0 k) x := by
  refine ⟨x.data.toList.drop k, ?_⟩
  simp [ByteArray.data_extract]
theorem size_extract (x : ByteArray) (k : Nat) : (x.extract 0 k).size ≤ x.size := by
  obtain ⟨m, hm⟩ := pre_extract x k
  have h1 := size_list x
  have h2 := size_list (x.extract 0 k)
  rw [hm, List.length_append] at h1
  omega

set_option maxRecDepth 100000 in
set_option maxHeartbeats 8000000 in
theorem FnTraceOfParts_any (A : Option Addr) (n c : Nat) (w : World) (hn : n ≤ c) (hc : c ≤ 9223372036854775807) (hT : Tab w) (hx : CodeAt w A n) :
    Calls Tryd.prog 6 #[.slice A n c] w fun e w' => e = .returned (.bool true) ∧ Below w.heap.size w w' := by
  replace hx := hid hx
  replace hT := hid hT
  by_cases hbig : 1048576 < n
  · go_enter Tryd.func6, Tryd.ntmps6
    go_wp2
    go_ret
    exact ⟨rfl, Below.refl _ _⟩
  · go_enter Tryd.func6, Tryd.ntmps6
    go_wp2_with fail
    refine (drawTraceOfParts_any A n c w hn hc hx.out).mono ?_
    rintro e w1 ⟨ss, As, cs, x, rfl, a1, a2, a3, a4, a5, hb1⟩
    have hz : x.size ≤ 9223372036854775807 := by omega
    have hT1 := hid (hT.out.later hb1)
    replace a5 := hid a5
    go_wp2_with fail
    refine (implTraceOfParts_any ss As cs x w1 hz a1 a2 hT1.out a5.out).mono ?_
    rintro e w2 ⟨rfl, hb2⟩
    have hB2 := hb1.trans (hb2.mono hb1.size)
    have r2 := hid (a5.out.later hb2)
    have hT2 := hid (hT1.out.later hb2)
    obtain ⟨bt, hbt⟩ : ∃ bt, Hid (bt = trParts ss x) := ⟨_, hid rfl⟩
    rw [← hbt.out]
    cases bt
    · go_wp2_with fail
      refine (specTraceOfParts_any ss As cs x w2 hz a1 a2 r2.out).mono ?_
      rintro e w3 ⟨rfl, hb3⟩
      rw [← hbt.out]
      have hB3 := hB2.trans (hb3.mono hB2.size)
      have r3 := hid (r2.out.later hb3)
      go_wp2_with fail
      refine (specTraceOfParts_any ss As cs x w3 hz a1 a2 r3.out).mono ?_
      rintro e w4 ⟨rfl, hb4⟩
      rw [← hbt.out]
      have hB4 := hB3.trans (hb4.mono hB3.size)
      go_wp2_with fail
      go_ret
      exact ⟨rfl, hB4⟩
    · by_cases h2 : 100 < x.size
      · go_wp2_with fail
        refine (specTraceOfParts_any ss As cs x w2 hz a1 a2 r2.out).mono ?_
        rintro e w3 ⟨rfl, hb3⟩
        rw [← hbt.out]
        have hB3 := hB2.trans (hb3.mono hB2.size)
        have r3 := hid (r2.out.later hb3)
        go_wp2_with fail
        refine (specTraceOfParts_any ss As cs x w3 hz a1 a2 r3.out).mono ?_
        rintro e w4 ⟨rfl, hb4⟩
        rw [← hbt.out]
        have hB4 := hB3.trans (hb4.mono hB3.size)
        go_wp2_with fail
        go_ret
        exact ⟨rfl, hB4⟩
      · go_wp2_with fail
        refine (specTraceOfParts_any ss As cs x w2 hz a1 a2 r2.out).mono ?_
        rintro e w3 ⟨rfl, hb3⟩
        rw [← hbt.out]
        have hB3 := hB2.trans (hb3.mono hB2.size)
        have r3 := hid (r2.out.later hb3)
        have hT3 := hid (hT2.out.later hb3)
        have hall := (trParts_list ss x).1 hbt.out.symm
        have hwo : wordOk x = true := within_word hall.2.1
        have hnn : 1 ≤ ss.length := by
          have := hall.1
          unfold partsOk at this
          rw [Bool.and_eq_true, decide_eq_true_iff] at this
          exact this.1.1
        obtain ⟨b, o, hA, hbb, hE⟩ := r3.out (by omega)
        subst hA
        replace hE := hid hE
        replace hall := hid hall
        replace hwo := hid hwo
        clear hb1 hb2 hb3
        go_wp2_with fail
        go_loopw [6] (fun i wr => ∃ k : Nat, i = .int .i64 k ∧ k ≤ ss.length ∧ Below w3.heap.size w3 wr) (fun i _ => ss.length - (intOf i).toNat)
        case atStart => exact ⟨0, rfl, by omega, Below.refl _ _⟩
        case round =>
          obtain ⟨k, rfl, hk, hb⟩ := hrel
          have hzr := hb.size
          have hBr := hB3.trans (hb.mono hB3.size)
          by_cases hlt : k < ss.length
          · obtain ⟨c0, c1, Ai, ci, c2, l1, l2, hEk⟩ := hE.out k hlt
            rw [← hb.cell (by simpa using hbb)] at c0 c1 c2
            have q0 := GK.BI.cell c0
            have q1 := GK.BI.cell c1
            have q2 := GK.BI.cell c2
            obtain ⟨s, hs⟩ : ∃ s, s = ss[k] := ⟨_, rfl⟩
            rw [← hs] at c0 c1 c2 q0 q1 q2 l1 hEk
            have hEr := hid (hEk.later hb)
            have hTr := hid (hT3.out.later hb)
            have hmem : s ∈ ss := by rw [hs]; exact List.getElem_mem _
            have htr := hall.out.2.2 s hmem
            have hal : alphaOk s.al = true := alphaOk_range.2 (sysOk_alpha (hasTr_ok htr).1)
            have hrs : (restr x s.al).size ≤ 9223372036854775807 := by have := restr_size x s.al; omega
            have k1 : (0 : Int) ≤ (k : Int) ∧ (k : Int) < (ss.length : Int) := by omega
            replace hs := hid hs
            replace htr := hid htr
            replace hal := hid hal
            replace hmem := hid hmem
            clear hEk
            go_wp2_with fail
            clear c0 c1 c2
            refine GK.wp_region 13 [] 200 (KeepB fun _ => False) (GK.BI wr) (fun i u _ => if i = 10 then u = .string (restr x s.al) else u = .bool true) (by kernel_rfl) (by kernel_rfl) (GK.BI.way wr) (by decide) (Below.refl _ _).drew ?_
            simp only [List.take_succ_cons, List.take_zero]
            (repeat (refine GK.grow_quiet wr (by rfl) (by rfl) ?_; intro K hK; go_big_quiet_op; go_big_quiet_on))
            refine GK.grow_val (.string (restr x s.al)) (by rfl) rfl (fun m wq hm2 hbq _ => ?_) ?_
            · go_simp
              exact ⟨rfl, (implRestrictWord_any x s.al wq hwo.out hal.out).mono fun e w' ⟨h1, h2⟩ => ⟨h1, GK.BI.after hbq h2⟩⟩
            simp only [Act.put, List.setIfInBounds_toArray, List.set_cons_zero, List.set_cons_succ]
            (repeat (refine GK.grow_quiet wr (by rfl) (by rfl) ?_; intro K hK; go_big_quiet_op; go_big_quiet_on))
            refine GK.grow_val (.bool true) (by rfl) rfl (fun m wq hm2 hbq _ => ?_) ?_
            · go_simp
              exact ⟨rfl, by
                have hbq' : Below wr.heap.size wr wq := hbq
                refine (implHasTrace_any s Ai ci _ wq hrs l1 l2 (hTr.out.later hbq') (hEr.out.later hbq')).mono fun e w' ⟨h1, h2⟩ => ⟨?_, GK.BI.after hbq h2⟩
                rw [h1, htr.out]⟩
            simp only [Act.put, List.setIfInBounds_toArray, List.set_cons_zero, List.set_cons_succ]
            (repeat (refine GK.grow_quiet wr (by rfl) (by rfl) ?_; intro K hK; go_big_quiet_op; go_big_quiet_on))
            refine GK.grow_nil ?_
            intro w4 hw4 _
            simp only [List.filterMap_nil]
            replace hw4 : Below wr.heap.size wr w4 := hw4
            have hB4 := hid (hb.trans (hw4.mono hzr))
            clear q0 q1 q2 hw4 hb
            go_wp2_with fail
            go_roundw
            case rel => exact ⟨k + 1, by go_num, by omega, hB4.out⟩
            case measure => simp [intOf]; omega
          · obtain rfl : k = ss.length := by omega
            have rr := hid (r3.out.later hb)
            have hTr := hid (hT3.out.later hb)
            replace hb := hid hb
            go_wp2_with fail
            go_loopw [7] (fun i wt => ∃ p : Nat, i = .int .i64 p ∧ p ≤ x.size + 1 ∧ Below wr.heap.size wr wt) (fun i _ => x.size + 1 - (intOf i).toNat)
            case atStart => exact ⟨0, rfl, by omega, Below.refl _ _⟩
            case round =>
              obtain ⟨p, rfl, hp, hbt2⟩ := hrel
              have hBt := hid (hBr.trans (hbt2.mono hBr.size))
              by_cases hpl : p ≤ x.size
              · have k1 : (0 : Int) ≤ (p : Int) ∧ (p : Int) ≤ (x.size : Int) := by omega
                have k2 : (p : Int) ≤ (x.size : Int) := by omega
                have k3 : (0 : Int) ≤ (p : Int) := by omega
                have rt := hid (rr.out.later hbt2)
                have hTt := hid (hTr.out.later hbt2)
                replace hbt2 := hid hbt2
                go_wp2_with fail
                have hsx := size_extract x p
                have hpx := (pre_extract x p).trParts hbt.out.symm
                refine (implTraceOfParts_any ss _ cs _ _ (Nat.le_trans hsx hz) a1 a2 hTt.out rt.out).mono ?_
                rintro e w5 ⟨rfl, hb5⟩
                rw [hpx]
                clear hpx hsx
                have hB5 := hid (hbt2.out.trans (hb5.mono hbt2.out.size))
                go_wp2_with fail
                go_roundw
                case rel => exact ⟨p + 1, by go_num, by omega, hB5.out⟩
                case measure => simp [intOf]; omega
              · go_wp2_with fail
                go_ret
                exact ⟨rfl, hBt.out⟩

end Go.Proofs.YtempjhgajcdibaaDoor
