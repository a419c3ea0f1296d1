/- The law FnPartsAlphabet. -/
import Derived.Test.YtbomhfbiaedbiaaD13
import Derived.Test.YtbomhfbiaedbiaaW6
import Derived.Test.YtbomhfbiaedbiaaMathM
namespace Go.Proofs.Ytbomhfbiaedbiaa
open Go.RowKit Go.BigFrame AG

/-- One system of a list is a list. -/
theorem SysAt.one {w : World} {B b o : Nat} {ss : List Sy} (h : SysAt w B (some ⟨b, o, none⟩) ss) {i : Nat} (hi : i < ss.length) : SysAt w B (some ⟨b, o + i * 3, none⟩) [ss[i]] := fun _ => by
  obtain ⟨b', o', hA, hb, hE⟩ := h (by omega)
  cases hA
  refine ⟨b, o + i * 3, rfl, hb, fun j hj => ?_⟩
  obtain rfl : j = 0 := by simpa using hj
  simpa using hE i hi

set_option maxRecDepth 100000 in
set_option maxHeartbeats 4000000 in
theorem FnPartsAlphabet_any (A : Option Addr) (n c : Nat) (w : World) (hn : n ≤ c) (hc : c ≤ 9223372036854775807) (hx : CodeAt w A n) :
    Calls Try.prog 3 #[.slice A n c] w fun e w' => e = .returned (.bool true) ∧ Below w.heap.size w w' := by
  replace hx := hid hx
  by_cases hbig : 1048576 < n
  · go_enter Try.func3, Try.ntmps3
    go_wp2
    go_ret
    exact ⟨rfl, Below.refl _ _⟩
  · go_enter Try.func3, Try.ntmps3
    go_wp2_with fail
    refine (drawPartsAlphabet_any A n c w hn hc hx.out).mono ?_
    rintro e w1 ⟨ss, As, cs, rfl, h1, h2, h3, h4, hb1⟩
    replace h4 := hid h4
    go_wp2_with fail
    refine (implPartsAlphabet_any ss As cs w1 h1 h2 h4.out).mono ?_
    rintro e w2 ⟨rfl, hb2⟩
    have hB2 := hb1.trans (hb2.mono hb1.size)
    have r2 := hid (h4.out.later hb2)
    rcases partsAl_neg ss with ⟨hneg, hp⟩ | ⟨hneg, hp⟩
    · have hv : partsAl ss = -1 := by unfold partsAl; rw [hp]; rfl
      rw [hv]
      replace hv := hid hv
      clear hneg hp
      go_wp2_with fail
      refine (specPartsAlphabet_any ss As cs w2 h1 h2 r2.out).mono ?_
      rintro e w3 ⟨rfl, hb3⟩
      rw [hv.out]
      have r3 := hid (r2.out.later hb3)
      have hB3 := hB2.trans (hb3.mono hB2.size)
      go_wp2_with fail
      refine (specPartsAlphabet_any ss As cs w3 h1 h2 r3.out).mono ?_
      rintro e w4 ⟨rfl, hb4⟩
      rw [hv.out]
      have hB4 := hB3.trans (hb4.mono hB3.size)
      go_wp2_with fail
      go_ret
      exact ⟨rfl, hB4⟩
    · obtain ⟨al, hal⟩ : ∃ al, al = partsAl ss := ⟨_, rfl⟩
      rw [← hal] at hneg
      rw [← hal]
      have hpo := hp
      unfold partsOk at hp
      rw [Bool.and_eq_true, decide_eq_true_iff] at hp
      obtain ⟨⟨p1, p3⟩, hall⟩ := hp
      have hval : Hid (al = allAl ss) := hid (by rw [hal]; unfold partsAl; rw [hpo]; rfl)
      replace hal := hid hal
      replace hall := hid hall
      clear hpo
      go_wp2_with fail
      refine (specPartsAlphabet_any ss As cs w2 h1 h2 r2.out).mono ?_
      rintro e w3 ⟨rfl, hb3⟩
      rw [← hal.out]
      have r3 := hid (r2.out.later hb3)
      have hB3 := hB2.trans (hb3.mono hB2.size)
      obtain ⟨b, o, rfl, hbb, hE⟩ := r3.out (by omega)
      replace hE := hid hE
      go_wp2_with fail
      go_loopw [5, 6] (fun g i wr => ∃ k : Nat, i = .int .i64 k ∧ k ≤ ss.length ∧ g = .int .i64 (allAl (ss.take k)) ∧ Below w3.heap.size w3 wr) (fun _ i _ => ss.length - (intOf i).toNat)
      case atStart => exact ⟨0, rfl, by omega, rfl, Below.refl _ _⟩
      case round =>
        obtain ⟨k, rfl, hk, rfl, hb⟩ := hrel
        have hzr := hb.size
        by_cases hlt : k < ss.length
        · have c0 : wr.cell? ⟨b, o + k * 3, none⟩ = some (.int .i64 ss[k].al) := by rw [hb.cell (by simpa using hbb)]; exact (hE.out k hlt).1
          have hts := hid (take_snoc ss k hlt)
          have hrg := allAl_range _ (all_take _ _ k hall.out)
          have hs : sysOk ss[k] = true := List.all_eq_true.1 hall.out _ (List.getElem_mem _)
          have hal2 := sysOk_alpha hs
          have hor := hid (bits_or (a := allAl (ss.take k)) (b := ss[k].al) (by omega) (by omega))
          have hone := hid (partsAl_one hs)
          replace hs := hid hs
          have k1 : (0 : Int) ≤ (k : Int) ∧ (k : Int) < (ss.length : Int) := by omega
          have k2 : (k : Int) ≤ (k : Int) + 1 := by omega
          have k3 : (k : Int) + 1 ≤ (cs : Int) := by omega
          have k4 : IntKind.i64.wrap ((k : Int) + 1) = (k : Int) + 1 := IntWalk.i64_in _ (by omega)
          have k5 : (0 : Int) ≤ (k : Int) + 1 := by omega
          have k6 : ((k : Int) + 1).toNat = k + 1 := by omega
          have q0 := GK.BI.cell c0
          have rr := hid (r3.out.later hb)
          go_wp2_with fail
          clear c0
          refine GK.wp_region 12 [] 200 (KeepB fun _ => False) (GK.BI wr) (fun _ u _ => u = .int .i64 ss[k].al) (by kernel_rfl) (by kernel_rfl) (GK.BI.way wr) (by decide) (Below.refl _ _).drew ?_
          simp only [List.take_succ_cons, List.take_zero]
          (repeat (refine GK.grow_quiet wr (by rfl) (by rfl) ?_; intro K hK; go_big_quiet_op; go_big_quiet_on))
          refine GK.grow_val (.int .i64 ss[k].al) (by rfl) rfl (fun m wq hm hbq _ => ?_) ?_
          · go_simp
            exact ⟨rfl, by
              have hbq' : Below wr.heap.size wr wq := hbq
              have := implPartsAlphabet_any [ss[k]] (some ⟨b, o + k * 3, none⟩) (cs - k) wq (by simp; omega) (by omega) (SysAt.later (SysAt.one rr.out hlt) hbq')
              refine this.mono fun e w' ⟨h1, h2⟩ => ⟨?_, hbq.after h2⟩
              rw [h1, hone.out]⟩
          simp only [Act.put, List.setIfInBounds_toArray, List.set_cons_zero, List.set_cons_succ]
          (repeat (refine GK.grow_quiet wr (by rfl) (by rfl) ?_; intro K hK; go_big_quiet_op; go_big_quiet_on))
          refine GK.grow_nil ?_
          intro w4 hw4 _
          simp only [List.filterMap_nil]
          replace hw4 : Below wr.heap.size wr w4 := hw4
          have hb4 := hb.trans (hw4.mono hzr)
          clear k2 k3 k4 k5 k6 q0
          go_wp2_with fail
          go_roundw
          case rel => exact ⟨k + 1, by go_num, by omega, by rw [hts.out, allAl_snoc, hor.out], hb4⟩
          case measure => simp [intOf]; omega
        · have hkn : k = ss.length := by omega
          have e1 : Hid (allAl (ss.take k) = al) := hid (by rw [List.take_of_length_le (by omega), hval.out])
          rw [e1.out]
          have hB4 := hB3.trans (hb.mono hB3.size)
          go_wp2_with fail
          go_ret
          exact ⟨ret_bool (decide_eq_true (by omega)), hB4⟩

end Go.Proofs.Ytbomhfbiaedbiaa
