/- Both TraceOfParts. -/
import Derived.Test.YtbomhfbiaedbiaaDoorW31
import Derived.Test.YtbomhfbiaedbiaaDoorW6
namespace Go.Proofs.YtbomhfbiaedbiaaDoor
open Go.RowKit Go.BigFrame AG

theorem restr_size (x : ByteArray) (al : Int) : (restr x al).size ≤ x.size := by
  have := keptTo_len x al x.size
  show (keptTo x al x.size).toArray.size ≤ x.size
  rw [List.size_toArray]
  exact this

theorem trParts_bad {ss : List Sy} {x : ByteArray} (h : partsOk ss = false) : trParts ss x = false := by
  unfold trParts
  exact decide_eq_false (fun g => by rw [h] at g; cases g.1)
theorem trParts_out {ss : List Sy} {x : ByteArray} (h : within x (allAl ss) = false) : trParts ss x = false := by
  unfold trParts
  exact decide_eq_false (fun g => by rw [h] at g; cases g.2.1)
theorem trParts_miss {ss : List Sy} {x : ByteArray} {k : Nat} (hk : k < ss.length) (h : hasTr ss[k] (restr x ss[k].al) = false) : trParts ss x = false := by
  unfold trParts
  exact decide_eq_false (fun g => by have := g.2.2 k hk; rw [h] at this; cases this)

set_option maxRecDepth 100000 in
set_option maxHeartbeats 1000000 in
theorem specTraceOfParts_any (ss : List Sy) (A : Option Addr) (c : Nat) (x : ByteArray) (w : World) (hz : x.size ≤ 9223372036854775807) (hl : ss.length ≤ c) (hc : c ≤ 9223372036854775807) (hr : SysAt w w.heap.size A ss) :
    Calls Tryd.prog 12 #[.slice A ss.length c, .string x] w fun e w' => e = .returned (.bool (trParts ss x)) ∧ Below w.heap.size w w' := by
  replace hr := hid hr
  cases hp : partsOk ss
  · have hfin := hid (trParts_bad (x := x) hp)
    have hal : Hid (partsAl ss = -1) := hid (by unfold partsAl; rw [hp]; rfl)
    replace hp := hid hp
    go_enter Tryd.func12, Tryd.ntmps12
    go_wp2_with (go_at_call 42; refine (specPartsAlphabet_any ss A c w hl hc hr.out).mono ?_; rintro e w1 ⟨rfl, hb1⟩; rw [hal.out])
    go_ret
    exact ⟨ret_bool (by rw [hfin.out]), hb1⟩
  · have hall : ss.all sysOk = true := by unfold partsOk at hp; rw [Bool.and_eq_true] at hp; exact hp.2
    have hal : Hid (partsAl ss = allAl ss) := hid (by unfold partsAl; rw [hp]; rfl)
    have hrg := allAl_range ss hall
    have hp2 := hid hp
    replace hp := hid hp
    replace hall := hid hall
    cases hwi : within x (allAl ss)
    · have hfin := hid (trParts_out hwi)
      replace hwi := hid hwi
      go_enter Tryd.func12, Tryd.ntmps12
      go_wp2_with (first
        | (go_at_call 42; refine (specPartsAlphabet_any ss A c w hl hc hr.out).mono ?_; rintro e w1 ⟨rfl, hb1⟩; rw [hal.out])
        | (go_at_call 43; refine (specWordWithin_any x _ _ hz).mono ?_; rintro e w' ⟨rfl, rfl⟩; rw [hwi.out]))
      go_ret
      exact ⟨ret_bool (by rw [hfin.out]), hb1⟩
    · have hwi2 := hid hwi
      have h5 := within_size hwi
      have hok := hid (within_word hwi)
      replace hwi := hid hwi
      go_enter Tryd.func12, Tryd.ntmps12
      go_wp2_with (first
        | (go_at_call 42; refine (specPartsAlphabet_any ss A c w hl hc hr.out).mono ?_; rintro e w1 ⟨rfl, hb1⟩; rw [hal.out])
        | (go_at_call 43; refine (specWordWithin_any x _ _ hz).mono ?_; rintro e w' ⟨rfl, rfl⟩; rw [hwi.out]))
      go_loopw [6] (fun i wr => ∃ k : Nat, i = .int .i64 k ∧ k ≤ ss.length ∧ (∀ j (hj : j < ss.length), j < k → hasTr ss[j] (restr x ss[j].al) = true) ∧ Below w.heap.size w wr) (fun i _ => ss.length - (intOf i).toNat)
      case atStart => exact ⟨0, rfl, by omega, fun j _ h => by omega, hb1⟩
      case round =>
        obtain ⟨k, rfl, hk, hbf, hb⟩ := hrel
        replace hbf := hid hbf
        by_cases hlt : k < ss.length
        · obtain ⟨b, o, Ai, ci, rfl, hB, c0, c1, c2, hAl, hAc, hAe⟩ := hr.out.get hlt
          have hs : sysOk ss[k] = true := List.all_eq_true.1 hall.out _ (List.getElem_mem _)
          have hks := sysOk_alpha hs
          have hrs := restr_size x ss[k].al
          have f0 := fun y => c0 _ (Fam.below w.heap.size w y)
          have f1 := fun y => c1 _ (Fam.below w.heap.size w y)
          have f2 := fun y => c2 _ (Fam.below w.heap.size w y)
          have hrF : ∀ y, Hid (EdsAt (Fam w.heap.size w y) (Fam w.heap.size w y).heap.size Ai ss[k].es) := fun y => hid ((hAe.keep (Fam.below _ _ y)).more (Fam.below _ _ y).size)
          replace hs := hid hs
          replace hAe := hid hAe
          cases hh : hasTr ss[k] (restr x ss[k].al)
          · have hfin := hid (trParts_miss hlt hh)
            replace hh := hid hh
            go_wp2_with fail
            refine wp_region_fam w.heap.size w (by kernel_rfl) (by kernel_rfl) hb ?_
            (repeat (go_big_quiet_step ((first
              | (refine (specRestrictWord_any x ss[k].al _ hok.out hks).mono ?_; rintro e w1 ⟨rfl, hb1⟩; exact ⟨rfl, Fam.next (Nat.le_refl _) hb1⟩)
              | (refine (specHasTrace_any ss[k] Ai ci (restr x ss[k].al) _ (by omega) hAl hAc (hrF _).out).mono ?_; rintro e w1 ⟨rfl, hb1⟩; exact ⟨by rw [hh.out], Fam.next (Nat.le_refl _) hb1⟩)))))
            refine wpQuiet_nil ?_
            intro w2 hw2
            replace hw2 := Fam.out hw2
            go_wp2
            go_ret
            exact ⟨ret_bool (by rw [hfin.out]), hw2⟩
          · replace hh := hid hh
            go_wp2_with fail
            refine wp_region_fam w.heap.size w (by kernel_rfl) (by kernel_rfl) hb ?_
            (repeat (go_big_quiet_step ((first
              | (refine (specRestrictWord_any x ss[k].al _ hok.out hks).mono ?_; rintro e w1 ⟨rfl, hb1⟩; exact ⟨rfl, Fam.next (Nat.le_refl _) hb1⟩)
              | (refine (specHasTrace_any ss[k] Ai ci (restr x ss[k].al) _ (by omega) hAl hAc (hrF _).out).mono ?_; rintro e w1 ⟨rfl, hb1⟩; exact ⟨by rw [hh.out], Fam.next (Nat.le_refl _) hb1⟩)))))
            refine wpQuiet_nil ?_
            intro w2 hw2
            replace hw2 := Fam.out hw2
            go_wp2
            go_roundw
            case rel => exact ⟨k + 1, by go_num, by omega, fun j hj hjk => by by_cases e : j = k; (subst e; exact hh.out); exact hbf.out j hj (by omega), hw2⟩
            case measure => simp [intOf]; omega
        · go_wp2
          go_ret
          exact ⟨ret_bool (by unfold trParts; exact (decide_eq_true ⟨hp2.out, hwi2.out, fun i hi => hbf.out i hi (by omega)⟩).symm), hb⟩

set_option maxRecDepth 100000 in
set_option maxHeartbeats 1000000 in
theorem implTraceOfParts_any (ss : List Sy) (A : Option Addr) (c : Nat) (x : ByteArray) (w : World) (hz : x.size ≤ 9223372036854775807) (hl : ss.length ≤ c) (hc : c ≤ 9223372036854775807) (hT : Tab w) (hr : SysAt w w.heap.size A ss) :
    Calls Tryd.prog 14 #[.slice A ss.length c, .string x] w fun e w' => e = .returned (.bool (trParts ss x)) ∧ Below w.heap.size w w' := by
  replace hr := hid hr
  replace hT := hid hT
  cases hp : partsOk ss
  · have hfin := hid (trParts_bad (x := x) hp)
    replace hp := hid hp
    go_enter Tryd.func14, Tryd.ntmps14
    go_wp2_with (go_at_call 45; refine (areParts_any ss A c w hl hc hr.out).mono ?_; rintro e w1 ⟨rfl, hb1⟩; rw [hp.out])
    go_ret
    exact ⟨ret_bool (by rw [hfin.out]), hb1⟩
  · have hall : ss.all sysOk = true := by unfold partsOk at hp; rw [Bool.and_eq_true] at hp; exact hp.2
    have hal : Hid (partsAl ss = allAl ss) := hid (by unfold partsAl; rw [hp]; rfl)
    have hp2 := hid hp
    replace hp := hid hp
    replace hall := hid hall
    cases hwi : within x (allAl ss)
    · have hfin := hid (trParts_out hwi)
      replace hwi := hid hwi
      go_enter Tryd.func14, Tryd.ntmps14
      go_wp2_with (first
        | (go_at_call 45; refine (areParts_any ss A c w hl hc hr.out).mono ?_; rintro e w1 ⟨rfl, hb1⟩; rw [hp.out]; have hr1 := hid (hr.out.later hb1))
        | (go_at_call 47; refine (implPartsAlphabet_any ss A c _ hl hc hr1.out).mono ?_; rintro e w2 ⟨rfl, hb2⟩; rw [hal.out])
        | (go_at_call 46; refine (implWordWithin_any x _ _ hz).mono ?_; rintro e w' ⟨rfl, rfl⟩; rw [hwi.out]))
      go_ret
      exact ⟨ret_bool (by rw [hfin.out]), hb1.trans (hb2.mono hb1.size)⟩
    · have hwi2 := hid hwi
      have h5 := within_size hwi
      replace hwi := hid hwi
      go_enter Tryd.func14, Tryd.ntmps14
      go_wp2_with (first
        | (go_at_call 45; refine (areParts_any ss A c w hl hc hr.out).mono ?_; rintro e w1 ⟨rfl, hb1⟩; rw [hp.out]; have hr1 := hid (hr.out.later hb1))
        | (go_at_call 47; refine (implPartsAlphabet_any ss A c _ hl hc hr1.out).mono ?_; rintro e w2 ⟨rfl, hb2⟩; rw [hal.out])
        | (go_at_call 46; refine (implWordWithin_any x _ _ hz).mono ?_; rintro e w' ⟨rfl, rfl⟩; rw [hwi.out]))
      go_loopw [19] (fun i wr => ∃ k : Nat, i = .int .i64 k ∧ k ≤ ss.length ∧ (∀ j (hj : j < ss.length), j < k → hasTr ss[j] (restr x ss[j].al) = true) ∧ Below w.heap.size w wr) (fun i _ => ss.length - (intOf i).toNat)
      case atStart => exact ⟨0, rfl, by omega, fun j _ h => by omega, hb1.trans (hb2.mono hb1.size)⟩
      case round =>
        obtain ⟨k, rfl, hk, hbf, hb⟩ := hrel
        replace hbf := hid hbf
        by_cases hlt : k < ss.length
        · obtain ⟨b, o, Ai, ci, rfl, hB, c0, c1, c2, hAl, hAc, hAe⟩ := hr.out.get hlt
          have hs : sysOk ss[k] = true := List.all_eq_true.1 hall.out _ (List.getElem_mem _)
          have hks := sysOk_alpha hs
          have hrs := restr_size x ss[k].al
          have g0 := c0 _ hb
          have g1 := c1 _ hb
          have g2 := c2 _ hb
          replace hs := hid hs
          replace hAe := hid hAe
          cases hh : hasTr ss[k] (restr x ss[k].al)
          · have hfin := hid (trParts_miss hlt hh)
            replace hh := hid hh
            go_wp2_with fail
            obtain ⟨w0, hw0, hz0, hB0, hS0, hS1, hS2⟩ := boxed3 wr (Value.int IntKind.i64 ss[k].al) (Value.int IntKind.i64 ss[k].st) (Value.slice Ai ss[k].es.length ci) 36
            rw [hw0]
            clear hw0
            have hzr := hb.size
            have hBw := hb.trans (hB0.mono hzr)
            have f0 := fun y => hS0 _ ((Fam.below w0.heap.size w0 y).mono hz0)
            have f1 := fun y => hS1 _ ((Fam.below w0.heap.size w0 y).mono hz0)
            have f2 := fun y => hS2 _ ((Fam.below w0.heap.size w0 y).mono hz0)
            have hrF : ∀ y, Hid (EdsAt (Fam w0.heap.size w0 y) (Fam w0.heap.size w0 y).heap.size Ai ss[k].es) := fun y => hid (((hAe.out.later hBw).later (Fam.below _ _ y)))
            have hTF : ∀ y, Hid (Tab (Fam w0.heap.size w0 y)) := fun y => hid ((hT.out.later hBw).later (Fam.below _ _ y))
            refine wp_region_fam w0.heap.size w0 (by kernel_rfl) (by kernel_rfl) (Below.refl _ _) ?_
            (repeat (go_big_quiet_step ((first
              | (refine (restrict_any x ss[k].al _ h5).mono ?_; rintro e w1 ⟨rfl, hb1⟩; exact ⟨rfl, Fam.next (Nat.le_refl _) hb1⟩)
              | (refine (implHasTrace_any ss[k] Ai ci (restr x ss[k].al) _ (by omega) hAl hAc (hTF _).out (hrF _).out).mono ?_; rintro e w1 ⟨rfl, hb1⟩; exact ⟨by rw [hh.out], Fam.next (Nat.le_refl _) hb1⟩)))))
            refine wpQuiet_nil ?_
            intro w2 hw2
            replace hw2 := hBw.trans ((Fam.out hw2).mono (by omega))
            go_wp2
            go_ret
            exact ⟨ret_bool (by rw [hfin.out]), hw2⟩
          · replace hh := hid hh
            go_wp2_with fail
            obtain ⟨w0, hw0, hz0, hB0, hS0, hS1, hS2⟩ := boxed3 wr (Value.int IntKind.i64 ss[k].al) (Value.int IntKind.i64 ss[k].st) (Value.slice Ai ss[k].es.length ci) 36
            rw [hw0]
            clear hw0
            have hzr := hb.size
            have hBw := hb.trans (hB0.mono hzr)
            have f0 := fun y => hS0 _ ((Fam.below w0.heap.size w0 y).mono hz0)
            have f1 := fun y => hS1 _ ((Fam.below w0.heap.size w0 y).mono hz0)
            have f2 := fun y => hS2 _ ((Fam.below w0.heap.size w0 y).mono hz0)
            have hrF : ∀ y, Hid (EdsAt (Fam w0.heap.size w0 y) (Fam w0.heap.size w0 y).heap.size Ai ss[k].es) := fun y => hid (((hAe.out.later hBw).later (Fam.below _ _ y)))
            have hTF : ∀ y, Hid (Tab (Fam w0.heap.size w0 y)) := fun y => hid ((hT.out.later hBw).later (Fam.below _ _ y))
            refine wp_region_fam w0.heap.size w0 (by kernel_rfl) (by kernel_rfl) (Below.refl _ _) ?_
            (repeat (go_big_quiet_step ((first
              | (refine (restrict_any x ss[k].al _ h5).mono ?_; rintro e w1 ⟨rfl, hb1⟩; exact ⟨rfl, Fam.next (Nat.le_refl _) hb1⟩)
              | (refine (implHasTrace_any ss[k] Ai ci (restr x ss[k].al) _ (by omega) hAl hAc (hTF _).out (hrF _).out).mono ?_; rintro e w1 ⟨rfl, hb1⟩; exact ⟨by rw [hh.out], Fam.next (Nat.le_refl _) hb1⟩)))))
            refine wpQuiet_nil ?_
            intro w2 hw2
            replace hw2 := hBw.trans ((Fam.out hw2).mono (by omega))
            go_wp2
            go_roundw
            case rel => exact ⟨k + 1, by go_num, by omega, fun j hj hjk => by by_cases e : j = k; (subst e; exact hh.out); exact hbf.out j hj (by omega), hw2⟩
            case measure => simp [intOf]; omega
        · go_wp2
          go_ret
          exact ⟨ret_bool (by unfold trParts; exact (decide_eq_true ⟨hp2.out, hwi2.out, fun i hi => hbf.out i hi (by omega)⟩).symm), hb⟩

end Go.Proofs.YtbomhfbiaedbiaaDoor
