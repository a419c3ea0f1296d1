/- Lemmas, part 11: several texts in one. -/
import Derived.Test.YtempjhgajcdibaaDoorK10
import Derived.Test.YtempjhgajcdibaaDoorK4
import Derived.Test.YtempjhgajcdibaaDoorK2
import Derived.Test.YtempjhgajcdibaaDoorK3
set_option linter.unusedSimpArgs false
set_option linter.unusedVariables false

/- Alphabets of lists of systems: both PartsAlphabet and SharedLetters. -/
namespace Go.Proofs.YtempjhgajcdibaaDoor
open Go.RowKit Go.BigFrame AG

set_option maxHeartbeats 1000000 in
theorem implPartsAlphabet_any (ss : List Sy) (A : Option Addr) (c : Nat) (w : World) (hl : ss.length ≤ c) (hc : c ≤ 9223372036854775807) (hr : SysAt w w.heap.size A ss) :
    Calls Tryd.prog 23 #[.slice A ss.length c] w fun e w' => e = .returned (.int .i64 (partsAl ss)) ∧ Below w.heap.size w w' := by
  replace hr := hid hr
  cases hp : partsOk ss
  · replace hp := hid hp
    go_enter Tryd.func23, Tryd.ntmps23
    go_wp2_with (go_at_call 66; refine (areParts_any ss A c w hl hc hr.out).mono ?_; rintro e w' ⟨rfl, hb⟩; rw [hp.out])
    go_ret
    exact ⟨ret_int (by unfold partsAl; rw [hp.out]; rfl), hb⟩
  · have hall : ss.all sysOk = true := by unfold partsOk at hp; rw [Bool.and_eq_true] at hp; exact hp.2
    replace hp := hid hp
    replace hall := hid hall
    go_enter Tryd.func23, Tryd.ntmps23
    go_wp2_with (go_at_call 66; refine (areParts_any ss A c w hl hc hr.out).mono ?_; rintro e w' ⟨rfl, hb0⟩; rw [hp.out])
    go_loopw [3, 11] (fun a i wr => ∃ k : Nat, i = .int .i64 k ∧ k ≤ ss.length ∧ a = .int .i64 (allAl (ss.take k)) ∧ Below w.heap.size w wr) (fun _ i _ => ss.length - (intOf i).toNat)
    case atStart => exact ⟨0, rfl, by omega, rfl, hb0⟩
    case round =>
      obtain ⟨k, rfl, hk, rfl, hb⟩ := hrel
      by_cases hlt : k < ss.length
      · obtain ⟨b, o, Ai, ci, rfl, hB, c0, c1, c2, hAl, hAc, hAe⟩ := hr.out.get hlt
        have hzr := hb.size
        have hts := hid (take_snoc ss k hlt)
        have hrg := allAl_range _ (all_take _ _ k hall.out)
        have hs : sysOk ss[k] = true := List.all_eq_true.1 hall.out _ (List.getElem_mem _)
        have hal := sysOk_alpha hs
        have hor := hid (bits_or (a := allAl (ss.take k)) (b := ss[k].al) (by omega) (by omega))
        replace hs := hid hs
        replace hAe := hid hAe
        go_wp2
        go_roundw
        case rel => exact ⟨k + 1, by go_num, by omega, by rw [hts.out, allAl_snoc, hor.out], by (repeat (first | exact Below.refl _ _ | assumption | refine Below.drew ?_ | refine Below.alloc ?_ (by first | omega | (simp; done) | (simp; omega)) _ | refine Below.setCell ?_ (by first | omega | (simp; done) | (simp; omega)) _))⟩
        case measure => simp [intOf]; omega
      · go_wp2
        go_ret
        exact ⟨ret_int (by unfold partsAl; rw [hp.out, if_pos rfl, List.take_of_length_le (by omega)]), hb⟩


set_option maxHeartbeats 1000000 in
theorem specPartsAlphabet_any (ss : List Sy) (A : Option Addr) (c : Nat) (w : World) (_hl : ss.length ≤ c) (_hc : c ≤ 9223372036854775807) (hr : SysAt w w.heap.size A ss) :
    Calls Tryd.prog 69 #[.slice A ss.length c] w fun e w' => e = .returned (.int .i64 (partsAl ss)) ∧ Below w.heap.size w w' := by
  replace hr := hid hr
  by_cases h13 : 1 ≤ ss.length ∧ ss.length ≤ 3
  · obtain ⟨h1, h3⟩ := h13
    have hp : partsOk ss = ss.all sysOk := by unfold partsOk; rw [decide_eq_true ⟨h1, h3⟩]; rfl
    replace hp := hid hp
    go_enter Tryd.func69, Tryd.ntmps69
    go_wp2_with fail
    go_loopw [3, 4] (fun a i wr => ∃ k : Nat, i = .int .i64 k ∧ k ≤ ss.length ∧ a = .int .i64 (allAl (ss.take k)) ∧ (ss.take k).all sysOk = true ∧ Below w.heap.size w wr) (fun _ i _ => ss.length - (intOf i).toNat)
    case atStart => exact ⟨0, rfl, by omega, rfl, by simp, Below.refl _ _⟩
    case round =>
      obtain ⟨k, rfl, hk, rfl, hok, hb⟩ := hrel
      have hrg := allAl_range _ hok
      by_cases hlt : k < ss.length
      · obtain ⟨b, o, Ai, ci, rfl, hB, c0, c1, c2, hAl, hAc, hAe⟩ := hr.out.get hlt
        have hts := hid (take_snoc ss k hlt)
        have hAe' : EdsAt wr wr.heap.size Ai ss[k].es := (hAe.keep hb).more hb.size
        replace hAe := hid hAe'
        clear hAe'
        replace hok := hid hok
        cases hs : sysOk ss[k]
        · have hfin : Hid (partsAl ss = -1) := hid (by
            unfold partsAl
            rw [hp.out, if_neg]
            rw [List.all_eq_true]
            intro h
            have := h ss[k] (List.getElem_mem _)
            rw [hs] at this
            cases this)
          replace hs := hid hs
          go_wp2_with (go_at_call 96; refine (specSystemValid_any ss[k] Ai ci _ hAl hAc hAe.out).mono ?_; rintro e w' ⟨rfl, hb'⟩; rw [hs.out])
          go_ret
          exact ⟨by rw [hfin.out]; rfl, hb.trans (hb'.mono hb.size)⟩
        · have hal := sysOk_alpha hs
          have hor := hid (bits_or (a := allAl (ss.take k)) (b := ss[k].al) (by omega) (by omega))
          replace hs := hid hs
          go_wp2_with (go_at_call 96; refine (specSystemValid_any ss[k] Ai ci _ hAl hAc hAe.out).mono ?_; rintro e w' ⟨rfl, hb'⟩; rw [hs.out]; replace hb' := hb.trans (hb'.mono hb.size))
          go_roundw
          case rel => exact ⟨k + 1, by go_num, by omega, by rw [hts.out, allAl_snoc, hor.out], by rw [hts.out, List.all_append, hok.out]; simp [hs.out], hb'⟩
          case measure => simp [intOf]; omega
      · replace hok := hid hok
        go_wp2
        go_ret
        exact ⟨ret_int (by have := hok.out; rw [List.take_of_length_le (by omega)] at this; unfold partsAl; rw [hp.out, if_pos this, List.take_of_length_le (by omega)]), hb⟩
  · have hfin : Hid (partsAl ss = -1) := hid (by
      unfold partsAl partsOk
      rw [decide_eq_false h13]
      rfl)
    go_enter Tryd.func69, Tryd.ntmps69
    go_wp2
    all_goals
      go_ret
      exact ⟨by rw [hfin.out]; rfl, Below.refl _ _⟩

theorem partsAl_neg (ss : List Sy) : partsAl ss < 0 ∧ partsOk ss = false ∨ 0 ≤ partsAl ss ∧ partsOk ss = true := by
  unfold partsAl
  cases h : partsOk ss
  · exact .inl ⟨by simp, rfl⟩
  · refine .inr ⟨?_, rfl⟩
    rw [if_pos rfl]
    refine (allAl_range ss ?_).1
    unfold partsOk at h
    rw [Bool.and_eq_true] at h
    exact h.2


end Go.Proofs.YtempjhgajcdibaaDoor

/- Both TraceOfParts. -/
namespace Go.Proofs.YtempjhgajcdibaaDoor
open Go.RowKit Go.BigFrame AG

theorem restr_size (x : ByteArray) (al : Int) : (restr x al).size ≤ x.size := by
  have := keptTo_len x al x.size
  show (keptTo x al x.size).toArray.size ≤ x.size
  rw [List.size_toArray]
  exact this

theorem trParts_bad {ss : List Sy} {x : ByteArray} (h : partsOk ss = false) : trParts ss x = false := by
  unfold trParts
  exact decide_eq_false (fun g => by rw [h] at g; cases g.1)
theorem trParts_out {ss : List Sy} {x : ByteArray} (h : within x (allAl ss) = false) : trParts ss x = false := by
  unfold trParts
  exact decide_eq_false (fun g => by rw [h] at g; cases g.2.1)
theorem trParts_miss {ss : List Sy} {x : ByteArray} {k : Nat} (hk : k < ss.length) (h : hasTr ss[k] (restr x ss[k].al) = false) : trParts ss x = false := by
  unfold trParts
  exact decide_eq_false (fun g => by have := g.2.2 k hk; rw [h] at this; cases this)

set_option maxRecDepth 100000 in
set_option maxHeartbeats 1000000 in
theorem specTraceOfParts_any (ss : List Sy) (A : Option Addr) (c : Nat) (x : ByteArray) (w : World) (hz : x.size ≤ 9223372036854775807) (hl : ss.length ≤ c) (hc : c ≤ 9223372036854775807) (hr : SysAt w w.heap.size A ss) :
    Calls Tryd.prog 22 #[.slice A ss.length c, .string x] w fun e w' => e = .returned (.bool (trParts ss x)) ∧ Below w.heap.size w w' := by
  replace hr := hid hr
  cases hp : partsOk ss
  · have hfin := hid (trParts_bad (x := x) hp)
    have hal : Hid (partsAl ss = -1) := hid (by unfold partsAl; rw [hp]; rfl)
    replace hp := hid hp
    go_enter Tryd.func22, Tryd.ntmps22
    go_wp2_with (go_at_call 69; refine (specPartsAlphabet_any ss A c w hl hc hr.out).mono ?_; rintro e w1 ⟨rfl, hb1⟩; rw [hal.out])
    go_ret
    exact ⟨ret_bool (by rw [hfin.out]), hb1⟩
  · have hall : ss.all sysOk = true := by unfold partsOk at hp; rw [Bool.and_eq_true] at hp; exact hp.2
    have hal : Hid (partsAl ss = allAl ss) := hid (by unfold partsAl; rw [hp]; rfl)
    have hrg := allAl_range ss hall
    have hp2 := hid hp
    replace hp := hid hp
    replace hall := hid hall
    cases hwi : within x (allAl ss)
    · have hfin := hid (trParts_out hwi)
      replace hwi := hid hwi
      go_enter Tryd.func22, Tryd.ntmps22
      go_wp2_with (first
        | (go_at_call 69; refine (specPartsAlphabet_any ss A c w hl hc hr.out).mono ?_; rintro e w1 ⟨rfl, hb1⟩; rw [hal.out])
        | (go_at_call 70; refine (specWordWithin_any x _ _ hz).mono ?_; rintro e w' ⟨rfl, rfl⟩; rw [hwi.out]))
      go_ret
      exact ⟨ret_bool (by rw [hfin.out]), hb1⟩
    · have hwi2 := hid hwi
      have h5 := within_size hwi
      have hok := hid (within_word hwi)
      replace hwi := hid hwi
      go_enter Tryd.func22, Tryd.ntmps22
      go_wp2_with (first
        | (go_at_call 69; refine (specPartsAlphabet_any ss A c w hl hc hr.out).mono ?_; rintro e w1 ⟨rfl, hb1⟩; rw [hal.out])
        | (go_at_call 70; refine (specWordWithin_any x _ _ hz).mono ?_; rintro e w' ⟨rfl, rfl⟩; rw [hwi.out]))
      go_loopw [6] (fun i wr => ∃ k : Nat, i = .int .i64 k ∧ k ≤ ss.length ∧ (∀ j (hj : j < ss.length), j < k → hasTr ss[j] (restr x ss[j].al) = true) ∧ Below w.heap.size w wr) (fun i _ => ss.length - (intOf i).toNat)
      case atStart => exact ⟨0, rfl, by omega, fun j _ h => by omega, hb1⟩
      case round =>
        obtain ⟨k, rfl, hk, hbf, hb⟩ := hrel
        replace hbf := hid hbf
        by_cases hlt : k < ss.length
        · obtain ⟨b, o, Ai, ci, rfl, hB, c0, c1, c2, hAl, hAc, hAe⟩ := hr.out.get hlt
          have hs : sysOk ss[k] = true := List.all_eq_true.1 hall.out _ (List.getElem_mem _)
          have hks := sysOk_alpha hs
          have hrs := restr_size x ss[k].al
          have f0 := fun y => c0 _ (Fam.below w.heap.size w y)
          have f1 := fun y => c1 _ (Fam.below w.heap.size w y)
          have f2 := fun y => c2 _ (Fam.below w.heap.size w y)
          have hrF : ∀ y, Hid (EdsAt (Fam w.heap.size w y) (Fam w.heap.size w y).heap.size Ai ss[k].es) := fun y => hid ((hAe.keep (Fam.below _ _ y)).more (Fam.below _ _ y).size)
          replace hs := hid hs
          replace hAe := hid hAe
          cases hh : hasTr ss[k] (restr x ss[k].al)
          · have hfin := hid (trParts_miss hlt hh)
            replace hh := hid hh
            go_wp2_with fail
            refine wp_region_fam w.heap.size w (by kernel_rfl) (by kernel_rfl) hb ?_
            (repeat (go_big_quiet_step ((first
              | (refine (specRestrictWord_any x ss[k].al _ hok.out hks).mono ?_; rintro e w1 ⟨rfl, hb1⟩; exact ⟨rfl, Fam.next (Nat.le_refl _) hb1⟩)
              | (refine (specHasTrace_any ss[k] Ai ci (restr x ss[k].al) _ (by omega) hAl hAc (hrF _).out).mono ?_; rintro e w1 ⟨rfl, hb1⟩; exact ⟨by rw [hh.out], Fam.next (Nat.le_refl _) hb1⟩)))))
            refine wpQuiet_nil ?_
            intro w2 hw2
            replace hw2 := Fam.out hw2
            go_wp2
            go_ret
            exact ⟨ret_bool (by rw [hfin.out]), hw2⟩
          · replace hh := hid hh
            go_wp2_with fail
            refine wp_region_fam w.heap.size w (by kernel_rfl) (by kernel_rfl) hb ?_
            (repeat (go_big_quiet_step ((first
              | (refine (specRestrictWord_any x ss[k].al _ hok.out hks).mono ?_; rintro e w1 ⟨rfl, hb1⟩; exact ⟨rfl, Fam.next (Nat.le_refl _) hb1⟩)
              | (refine (specHasTrace_any ss[k] Ai ci (restr x ss[k].al) _ (by omega) hAl hAc (hrF _).out).mono ?_; rintro e w1 ⟨rfl, hb1⟩; exact ⟨by rw [hh.out], Fam.next (Nat.le_refl _) hb1⟩)))))
            refine wpQuiet_nil ?_
            intro w2 hw2
            replace hw2 := Fam.out hw2
            go_wp2
            go_roundw
            case rel => exact ⟨k + 1, by go_num, by omega, fun j hj hjk => by by_cases e : j = k; (subst e; exact hh.out); exact hbf.out j hj (by omega), hw2⟩
            case measure => simp [intOf]; omega
        · go_wp2
          go_ret
          exact ⟨ret_bool (by unfold trParts; exact (decide_eq_true ⟨hp2.out, hwi2.out, fun i hi => hbf.out i hi (by omega)⟩).symm), hb⟩

set_option maxRecDepth 100000 in
set_option maxHeartbeats 1000000 in
theorem implTraceOfParts_any (ss : List Sy) (A : Option Addr) (c : Nat) (x : ByteArray) (w : World) (hz : x.size ≤ 9223372036854775807) (hl : ss.length ≤ c) (hc : c ≤ 9223372036854775807) (hT : Tab w) (hr : SysAt w w.heap.size A ss) :
    Calls Tryd.prog 21 #[.slice A ss.length c, .string x] w fun e w' => e = .returned (.bool (trParts ss x)) ∧ Below w.heap.size w w' := by
  replace hr := hid hr
  replace hT := hid hT
  cases hp : partsOk ss
  · have hfin := hid (trParts_bad (x := x) hp)
    replace hp := hid hp
    go_enter Tryd.func21, Tryd.ntmps21
    go_wp2_with (go_at_call 66; refine (areParts_any ss A c w hl hc hr.out).mono ?_; rintro e w1 ⟨rfl, hb1⟩; rw [hp.out])
    go_ret
    exact ⟨ret_bool (by rw [hfin.out]), hb1⟩
  · have hall : ss.all sysOk = true := by unfold partsOk at hp; rw [Bool.and_eq_true] at hp; exact hp.2
    have hal : Hid (partsAl ss = allAl ss) := hid (by unfold partsAl; rw [hp]; rfl)
    have hp2 := hid hp
    replace hp := hid hp
    replace hall := hid hall
    cases hwi : within x (allAl ss)
    · have hfin := hid (trParts_out hwi)
      replace hwi := hid hwi
      go_enter Tryd.func21, Tryd.ntmps21
      go_wp2_with (first
        | (go_at_call 66; refine (areParts_any ss A c w hl hc hr.out).mono ?_; rintro e w1 ⟨rfl, hb1⟩; rw [hp.out]; have hr1 := hid (hr.out.later hb1))
        | (go_at_call 23; refine (implPartsAlphabet_any ss A c _ hl hc hr1.out).mono ?_; rintro e w2 ⟨rfl, hb2⟩; rw [hal.out])
        | (go_at_call 67; refine (implWordWithin_any x _ _ hz).mono ?_; rintro e w' ⟨rfl, rfl⟩; rw [hwi.out]))
      go_ret
      exact ⟨ret_bool (by rw [hfin.out]), hb1.trans (hb2.mono hb1.size)⟩
    · have hwi2 := hid hwi
      have h5 := within_size hwi
      replace hwi := hid hwi
      go_enter Tryd.func21, Tryd.ntmps21
      go_wp2_with (first
        | (go_at_call 66; refine (areParts_any ss A c w hl hc hr.out).mono ?_; rintro e w1 ⟨rfl, hb1⟩; rw [hp.out]; have hr1 := hid (hr.out.later hb1))
        | (go_at_call 23; refine (implPartsAlphabet_any ss A c _ hl hc hr1.out).mono ?_; rintro e w2 ⟨rfl, hb2⟩; rw [hal.out])
        | (go_at_call 67; refine (implWordWithin_any x _ _ hz).mono ?_; rintro e w' ⟨rfl, rfl⟩; rw [hwi.out]))
      go_loopw [19] (fun i wr => ∃ k : Nat, i = .int .i64 k ∧ k ≤ ss.length ∧ (∀ j (hj : j < ss.length), j < k → hasTr ss[j] (restr x ss[j].al) = true) ∧ Below w.heap.size w wr) (fun i _ => ss.length - (intOf i).toNat)
      case atStart => exact ⟨0, rfl, by omega, fun j _ h => by omega, hb1.trans (hb2.mono hb1.size)⟩
      case round =>
        obtain ⟨k, rfl, hk, hbf, hb⟩ := hrel
        replace hbf := hid hbf
        by_cases hlt : k < ss.length
        · obtain ⟨b, o, Ai, ci, rfl, hB, c0, c1, c2, hAl, hAc, hAe⟩ := hr.out.get hlt
          have hs : sysOk ss[k] = true := List.all_eq_true.1 hall.out _ (List.getElem_mem _)
          have hks := sysOk_alpha hs
          have hrs := restr_size x ss[k].al
          have g0 := c0 _ hb
          have g1 := c1 _ hb
          have g2 := c2 _ hb
          replace hs := hid hs
          replace hAe := hid hAe
          cases hh : hasTr ss[k] (restr x ss[k].al)
          · have hfin := hid (trParts_miss hlt hh)
            replace hh := hid hh
            go_wp2_with fail
            obtain ⟨w0, hw0, hz0, hB0, hS0, hS1, hS2⟩ := boxed3 wr (Value.int IntKind.i64 ss[k].al) (Value.int IntKind.i64 ss[k].st) (Value.slice Ai ss[k].es.length ci) 25
            rw [hw0]
            clear hw0
            have hzr := hb.size
            have hBw := hb.trans (hB0.mono hzr)
            have f0 := fun y => hS0 _ ((Fam.below w0.heap.size w0 y).mono hz0)
            have f1 := fun y => hS1 _ ((Fam.below w0.heap.size w0 y).mono hz0)
            have f2 := fun y => hS2 _ ((Fam.below w0.heap.size w0 y).mono hz0)
            have hrF : ∀ y, Hid (EdsAt (Fam w0.heap.size w0 y) (Fam w0.heap.size w0 y).heap.size Ai ss[k].es) := fun y => hid (((hAe.out.later hBw).later (Fam.below _ _ y)))
            have hTF : ∀ y, Hid (Tab (Fam w0.heap.size w0 y)) := fun y => hid ((hT.out.later hBw).later (Fam.below _ _ y))
            refine wp_region_fam w0.heap.size w0 (by kernel_rfl) (by kernel_rfl) (Below.refl _ _) ?_
            (repeat (go_big_quiet_step ((first
              | (refine (restrict_any x ss[k].al _ h5).mono ?_; rintro e w1 ⟨rfl, hb1⟩; exact ⟨rfl, Fam.next (Nat.le_refl _) hb1⟩)
              | (refine (implHasTrace_any ss[k] Ai ci (restr x ss[k].al) _ (by omega) hAl hAc (hTF _).out (hrF _).out).mono ?_; rintro e w1 ⟨rfl, hb1⟩; exact ⟨by rw [hh.out], Fam.next (Nat.le_refl _) hb1⟩)))))
            refine wpQuiet_nil ?_
            intro w2 hw2
            replace hw2 := hBw.trans ((Fam.out hw2).mono (by omega))
            go_wp2
            go_ret
            exact ⟨ret_bool (by rw [hfin.out]), hw2⟩
          · replace hh := hid hh
            go_wp2_with fail
            obtain ⟨w0, hw0, hz0, hB0, hS0, hS1, hS2⟩ := boxed3 wr (Value.int IntKind.i64 ss[k].al) (Value.int IntKind.i64 ss[k].st) (Value.slice Ai ss[k].es.length ci) 25
            rw [hw0]
            clear hw0
            have hzr := hb.size
            have hBw := hb.trans (hB0.mono hzr)
            have f0 := fun y => hS0 _ ((Fam.below w0.heap.size w0 y).mono hz0)
            have f1 := fun y => hS1 _ ((Fam.below w0.heap.size w0 y).mono hz0)
            have f2 := fun y => hS2 _ ((Fam.below w0.heap.size w0 y).mono hz0)
            have hrF : ∀ y, Hid (EdsAt (Fam w0.heap.size w0 y) (Fam w0.heap.size w0 y).heap.size Ai ss[k].es) := fun y => hid (((hAe.out.later hBw).later (Fam.below _ _ y)))
            have hTF : ∀ y, Hid (Tab (Fam w0.heap.size w0 y)) := fun y => hid ((hT.out.later hBw).later (Fam.below _ _ y))
            refine wp_region_fam w0.heap.size w0 (by kernel_rfl) (by kernel_rfl) (Below.refl _ _) ?_
            (repeat (go_big_quiet_step ((first
              | (refine (restrict_any x ss[k].al _ h5).mono ?_; rintro e w1 ⟨rfl, hb1⟩; exact ⟨rfl, Fam.next (Nat.le_refl _) hb1⟩)
              | (refine (implHasTrace_any ss[k] Ai ci (restr x ss[k].al) _ (by omega) hAl hAc (hTF _).out (hrF _).out).mono ?_; rintro e w1 ⟨rfl, hb1⟩; exact ⟨by rw [hh.out], Fam.next (Nat.le_refl _) hb1⟩)))))
            refine wpQuiet_nil ?_
            intro w2 hw2
            replace hw2 := hBw.trans ((Fam.out hw2).mono (by omega))
            go_wp2
            go_roundw
            case rel => exact ⟨k + 1, by go_num, by omega, fun j hj hjk => by by_cases e : j = k; (subst e; exact hh.out); exact hbf.out j hj (by omega), hw2⟩
            case measure => simp [intOf]; omega
        · go_wp2
          go_ret
          exact ⟨ret_bool (by unfold trParts; exact (decide_eq_true ⟨hp2.out, hwi2.out, fun i hi => hbf.out i hi (by omega)⟩).symm), hb⟩

end Go.Proofs.YtempjhgajcdibaaDoor

/- The drawing kit: l7Trace. -/
namespace Go.Proofs.YtempjhgajcdibaaDoor
open Go.RowKit Go.BigFrame AG

theorem letters_some {a : Int} (h0 : 0 < a) (h1 : a ≤ 63) : 0 < (letters a).length := by
  rw [List.length_pos_iff]
  intro e
  obtain ⟨n, rfl⟩ := Int.eq_ofNat_of_zero_le (show 0 ≤ a by omega)
  have hz : n = 0 := by
    refine Nat.eq_of_testBit_eq fun i => ?_
    rw [Nat.zero_testBit, ← Bool.not_eq_true]
    intro hb
    have hi : i < 6 := by
      have h2 : n < 2 ^ 6 := by omega
      by_cases hi : i < 6
      · exact hi
      · have := Nat.testBit_lt_two_pow (x := n) (i := i) (Nat.lt_of_lt_of_le h2 (Nat.pow_le_pow_right (by omega) (by omega)))
        rw [this] at hb
        cases hb
    have : i ∈ letters (n : Int) := by
      unfold letters lettersTo
      rw [List.mem_filter, List.mem_range]
      exact ⟨hi, by rw [Has_nat]; exact hb⟩
    rw [e] at this
    cases this
  omega

set_option maxRecDepth 100000 in
set_option maxHeartbeats 4000000 in
theorem l7Trace_up (R P : Nat) (ss : List Sy) (A : Option Addr) (c n : Nat) (w : World) (hP : P + 1000 ≤ 1125899906842624) (hn : n ≤ 100) (hl : ss.length ≤ c) (hc : c ≤ 9223372036854775807)
    (hs : ∀ w' P', KeepB (fun b => b = R) w w' → RdUp w' R P' → SysAt w' w'.heap.size A ss) (hr : RdUp w R P) :
    Calls Tryd.prog 61 #[.pointer (some ⟨R, 0, none⟩), .slice A ss.length c, .int .i64 n] w (StrUp R (P + 200) 200 w) := by
  have hR := hr.lt
  replace hs := hid hs
  replace hr := hid hr
  go_enter Tryd.func61, Tryd.ntmps61
  go_wp2_with fail
  refine (specPartsAlphabet_any ss A c w hl hc (hs.out _ _ (KeepB.refl _ _) hr.out)).mono ?_
  rintro e w1 ⟨rfl, hb1⟩
  obtain ⟨al, hal⟩ : ∃ al, al = partsAl ss := ⟨_, rfl⟩
  rw [← hal]
  have hneg : al < 0 ∨ 0 ≤ al ∧ al ≤ 63 := by
    rcases partsAl_neg ss with ⟨h, _⟩ | ⟨h, hp⟩
    · left; omega
    · have := allAl_range ss (by unfold partsOk at hp; rw [Bool.and_eq_true] at hp; exact hp.2)
      have e : partsAl ss = allAl ss := by unfold partsAl; rw [if_pos hp]
      right; omega
  replace hal := hid hal
  have hr1 := hid (hr.out.later hb1)
  have hk1 := hid (KeepB.of_below (K := fun b => b = R) hb1)
  go_wp2_with fail
  refine (pick_up R P (n + 1) w1 (by omega) (by omega) hr1.out).mono ?_
  rintro e w2 ⟨j, rfl, hj0, hj1, hr2, hk2⟩
  obtain ⟨m, rfl⟩ := Int.eq_ofNat_of_zero_le hj0
  have hmn : m ≤ n := by omega
  replace hr2 := hid hr2
  have hkw2 := hid (hk1.out.trans hk2)
  clear hk2 hj0 hj1
  go_wp2_with fail
  go_loopw [8, 9] (fun o i wr => ∃ (x : ByteArray) (k : Nat), o = .string x ∧ i = .int .i64 k ∧ x.size + k ≤ m ∧ k ≤ m ∧ RdUp wr R (P + 1 + (m - k)) ∧ KeepB (fun b => b = R) w wr) (fun _ i _ => (intOf i).toNat)
  case atStart => exact ⟨⟨#[]⟩, m, rfl, rfl, by show 0 + m ≤ m; omega, Nat.le_refl _, hr2.out.more (by omega), hkw2.out⟩
  case round =>
    clear hr2 hkw2
    obtain ⟨x, k, rfl, rfl, hx, hkm, hrr, hkw⟩ := hrel
    replace hrr := hid hrr
    replace hkw := hid hkw
    by_cases hk : 0 < k
    · have hk' : (0 : Int) < (k : Int) := by omega
      by_cases hap : 0 < al
      · go_wp2_with fail
        refine (l1Letters_any al wr).mono ?_
        rintro e w4 ⟨lv, rfl, hown, hb4⟩
        obtain ⟨ls, hls⟩ : ∃ ls, Hid (ls = letters al) := ⟨_, hid rfl⟩
        rw [← hls.out] at hown
        have hl6 : ls.length ≤ 6 := by rw [hls.out]; exact lettersTo_len al 6
        have hl0 : 0 < ls.length := by rw [hls.out]; exact letters_some (by omega) (by omega)
        obtain ⟨Al, cl, hvl, hcl, hcl'⟩ := own_slice hown
        subst hvl
        have hr4 := hid (hrr.out.later hb4)
        have hk4 := hid (hkw.out.trans (KeepB.of_below hb4))
        have hz3 := hrr.out.lt
        replace hown := hid hown
        go_wp2_with fail
        refine (pick_up R (P + 1 + (m - k)) ls.length w4 (by omega) (by omega) hr4.out).mono ?_
        rintro e w5 ⟨q, rfl, hq0, hq1, hr5, hk5⟩
        obtain ⟨q, rfl⟩ := Int.eq_ofNat_of_zero_le hq0
        have hql : q < ls.length := by omega
        have hown5 := hid (own_keep hown.out hk5 (fun g hg => by have := (World.ownsRow.lt hown.out g hg).1; omega))
        have hkw5 := hid (hk4.out.trans hk5)
        replace hr5 := hid hr5
        have hz5 := hk5.size
        clear hk5 hq0 hq1 hr4 hk4 hown
        go_wp2_with fail
        go_loopw [8, 12] (fun o j wq => ∃ p : Nat, o = .string x ∧ j = .int .i64 p ∧ p ≤ ls.length ∧ RdUp wq R (P + 1 + (m - k) + 1) ∧ OwnNats wq wr.heap.size (.slice Al ls.length cl) ls ∧ KeepB (fun b => b = R) w wq) (fun _ j _ => ls.length - (intOf j).toNat)
        case atStart => exact ⟨0, rfl, rfl, by omega, hr5.out, hown5.out, hkw5.out⟩
        case round =>
          clear hr5 hown5 hkw5 hz5
          obtain ⟨p, rfl, rfl, hp, hrq, hoq, hkq⟩ := hrel
          have hrq' := hid hrq
          have hoq' := hid hoq
          have hkq' := hid hkq
          clear hrq hoq hkq
          by_cases hlt : p < ls.length
          · obtain ⟨g, cap, hve, hg1, hg2, -, -, hL⟩ := own_nats hoq'.out (by omega)
            cases hve
            obtain ⟨d, hd⟩ : ∃ d, d = (q + p) % ls.length := ⟨_, rfl⟩
            have hdl : d < ls.length := by rw [hd]; exact Nat.mod_lt _ hl0
            have l0 := hL d hdl
            have e1 : Int.tmod ((q : Int) + (p : Int)) (ls.length : Int) = (d : Int) := by rw [Int.tmod_eq_emod_of_nonneg (by omega), hd, Int.natCast_emod, Int.natCast_add]
            obtain ⟨l, hl'⟩ : ∃ l : Nat, l = ls[d] := ⟨_, rfl⟩
            have hlt6 : l < 6 := by
              have := letters_lt (A := al) (l := l) (by rw [← hls.out, hl']; exact List.getElem_mem _)
              exact this.1
            rw [← hl'] at l0
            have i1 : (0 : Int) ≤ (d : Int) ∧ (d : Int) < (ls.length : Int) := by omega
            replace hl' := hid hl'
            replace hL := hid hL
            replace hd := hid hd
            go_wp2_with (go_at_call 88; refine (l1Text_any l hlt6 _).mono ?_; rintro e w6 ⟨rfl, hb6⟩)
            have hk6 := hid (hkq'.out.trans (KeepB.of_below hb6))
            refine (specTraceOfParts_any ss A c _ w6 (by rw [ByteArray.size_append]; show x.size + 1 ≤ _; omega) hl hc (hs.out _ _ hk6.out (hrq'.out.later hb6))).mono ?_
            rintro e w7 ⟨rfl, hb7⟩
            have hb67 := hb6.trans (hb7.mono hb6.size)
            have hr7 := hid (hrq'.out.later hb67)
            have ho7 := hid (own_later hoq'.out hb67)
            have hk7 := hid (hkq'.out.trans (KeepB.of_below hb67))
            clear l0 hb6 hb7 hb67 hk6
            generalize trParts ss _ = bt
            cases bt
            · go_wp2_with fail
              go_roundw
              case rel => exact ⟨p + 1, rfl, by go_num, by omega, hr7.out, ho7.out, hk7.out⟩
              case measure => simp [intOf]; omega
            · go_wp2_with fail
              go_roundw
              case rel => exact ⟨_, k - 1, rfl, by go_num, by rw [ByteArray.size_append]; show x.size + 1 + (k - 1) ≤ m; omega, by omega, hr7.out.more (by omega), hk7.out⟩
              case measure => simp [intOf]; omega
          · have hpl : p = ls.length := by omega
            go_wp2_with fail
            go_roundw
            case rel => exact ⟨x, k - 1, rfl, by go_num, by omega, by omega, hrq'.out.more (by omega), hkq'.out⟩
            case measure => simp [intOf]; omega
      · go_wp2_with fail
        go_ret
        exact ⟨x, rfl, by omega, hrr.out.more (by omega), hkw.out⟩
    · go_wp2_with fail
      go_ret
      exact ⟨x, rfl, by omega, hrr.out.more (by omega), hkw.out⟩

end Go.Proofs.YtempjhgajcdibaaDoor

/- The drawing kit: DrawTraceOfParts. -/
namespace Go.Proofs.YtempjhgajcdibaaDoor
open Go.RowKit Go.BigFrame AG

theorem l7Trace_of (R P : Nat) (v : Value) (xs : List SyV) (wo w : World) (n : Nat) (hP : P + 1000 ≤ 1125899906842624) (hn : n ≤ 100) (hR : R < wo.heap.size) (hs : LstSt wo w R P 1536 v xs) :
    Calls Tryd.prog 61 #[.pointer (some ⟨R, 0, none⟩), v, .int .i64 n] w fun e w' => ∃ x : ByteArray, e = .returned (.string x) ∧ x.size ≤ 200 ∧ LstSt wo w' R (P + 200) 1536 v xs := by
  obtain ⟨A, c, rfl, h1, h2, -⟩ := hs.read
  obtain ⟨ss, hss⟩ : ∃ ss, ss = xs.map (·.s) := ⟨_, rfl⟩
  have hl : ss.length = xs.length := by rw [hss]; simp
  have hk : ∀ w' P', KeepB (fun b => b = R) w w' → RdUp w' R P' → SysAt w' w'.heap.size A ss := fun w' P' hk hr => by
    rw [hss]
    obtain ⟨A', c', e, -, -, h3⟩ := (hs.call hk hr hR).read
    cases e
    exact h3
  have := l7Trace_up R P ss A c n w hP hn (by omega) h2 hk hs.rd
  rw [hl] at this
  refine this.mono fun e w' ⟨x, e1, e2, e3, e4⟩ => ⟨x, e1, e2, hs.call e4 e3 hR⟩

def DrawTP (w : World) (e : Ending) (w' : World) : Prop := ∃ (ss : List Sy) (A : Option Addr) (c : Nat) (x : ByteArray), e = .returned (.tuple #[.slice A ss.length c, .string x]) ∧ ss.length ≤ c ∧ c ≤ 9223372036854775807 ∧ ss.length ≤ 10 ∧ x.size ≤ 3000000 ∧ SysAt w' w'.heap.size A ss ∧ Below w.heap.size w w'

set_option maxRecDepth 100000 in
set_option maxHeartbeats 4000000 in
theorem drawTraceOfParts_any (A : Option Addr) (n c : Nat) (w : World) (hn : n ≤ c) (hc : c ≤ 9223372036854775807) (hx : CodeAt w A n) :
    Calls Tryd.prog 20 #[.slice A n c] w (DrawTP w) := by
  replace hx := hid hx
  go_enter Tryd.func20, Tryd.ntmps20
  go_wp2_with fail
  refine (l19Open_any A n c w hn hc hx.out).mono ?_
  rintro e w1 ⟨R, rfl, hR, hr1, hb1⟩
  have hR1 := hr1.lt
  replace hr1 := hid hr1
  go_wp2_with fail
  refine (l7Draw_up R 0 w1 (by omega) hr1.out).mono ?_
  rintro e w2 ⟨v, xs, rfl, h1, h3, hs⟩
  replace hs := hid hs
  obtain ⟨Av, cv, hve, -, -⟩ := own_slice hs.out.own
  subst hve
  go_wp2_with fail
  refine (l7Trace_of R (0 + 30000) _ xs w1 w2 6 (by omega) (by omega) hR1 hs.out).mono ?_
  rintro e w3 ⟨x, rfl, hx3, hs3⟩
  replace hs3 := hid hs3
  clear hs
  go_wp2_with fail
  refine (pick_up R (0 + 30000 + 200) 4 w3 (by omega) (by omega) hs3.out.rd).mono ?_
  rintro e w4 ⟨j, rfl, hj0, hj1, hr4, hk4⟩
  have hs4 := hid (hs3.out.call hk4 hr4 hR1)
  clear hs3 hr4 hk4 hj1
  by_cases hj : j = 0
  · subst hj
    go_wp2_with fail
    refine (l1Word_up R (0 + 30000 + 200 + 1) 7 3 w4 (by omega) (by omega) hs4.out.rd).mono ?_
    rintro e w5 ⟨y, rfl, hy, hr5, hk5⟩
    have hs5 := hid (hs4.out.call hk5 hr5 hR1)
    clear hs4 hr5 hk5
    go_wp2_with fail
    refine (l7Wrong_up R (0 + 30000 + 200 + 1 + 200) _ xs w1 w5 (by omega) hR1 h1 h3 hs5.out).mono ?_
    rintro e w7 ⟨v', ys, rfl, hl, hs7⟩
    obtain ⟨A', c', hve, b1, b2, -⟩ := hs7.read
    subst hve
    replace hs7 := hid hs7
    go_wp2_with fail
    refine (l1Bad_up R (0 + 30000 + 200 + 1 + 200 + 2000000) _ w7 (by omega) (by rw [ByteArray.size_append]; omega) hs7.out.rd).mono ?_
    rintro e w8 ⟨z, rfl, hz, hr8, hk8⟩
    have hs8 := hs7.out.call hk8 hr8 hR1
    have hk := hs8.keep
    obtain ⟨A2, c2, hve, d1, d2, d3⟩ := hs8.read
    cases hve
    have hB : Below w.heap.size w w8 := KeepB.below hb1 hk hb1.size (fun k hk => by omega)
    replace d3 := hid d3
    clear hs8 hk8 hr8 hk
    go_wp2_with fail
    go_ret2
    refine ⟨ys.map (·.s), A', c', z, by simp, by simpa using b1, b2, by simpa using hl, by omega, d3.out, hB⟩
  · have hjb : ((j : Int) == 0) = false := by simpa using hj
    replace hj := hid hj
    go_wp2_with fail
    refine (l7Wrong_up R (0 + 30000 + 200 + 1) _ xs w1 w4 (by omega) hR1 h1 h3 hs4.out).mono ?_
    rintro e w7 ⟨v', ys, rfl, hl, hs7⟩
    obtain ⟨A', c', hve, b1, b2, -⟩ := hs7.read
    subst hve
    replace hs7 := hid hs7
    go_wp2_with fail
    refine (l1Bad_up R (0 + 30000 + 200 + 1 + 2000000) _ w7 (by omega) (by omega) hs7.out.rd).mono ?_
    rintro e w8 ⟨z, rfl, hz, hr8, hk8⟩
    have hs8 := hs7.out.call hk8 hr8 hR1
    have hk := hs8.keep
    obtain ⟨A2, c2, hve, d1, d2, d3⟩ := hs8.read
    cases hve
    have hB : Below w.heap.size w w8 := KeepB.below hb1 hk hb1.size (fun k hk => by omega)
    replace d3 := hid d3
    clear hs8 hk8 hr8 hk
    go_wp2_with fail
    go_ret2
    refine ⟨ys.map (·.s), A', c', z, by simp, by simpa using b1, b2, by simpa using hl, by omega, d3.out, hB⟩

end Go.Proofs.YtempjhgajcdibaaDoor

/- Plain: letters of alphabets of lists of systems. -/
namespace AG

theorem Has_or {a b : Int} (ha : 0 ≤ a) (hb : 0 ≤ b) (c : Nat) : Has (orB a b) c = (Has a c || Has b c) := by
  obtain ⟨a, rfl⟩ := Int.eq_ofNat_of_zero_le ha
  obtain ⟨b, rfl⟩ := Int.eq_ofNat_of_zero_le hb
  unfold orB
  rw [Int.toNat_natCast, Int.toNat_natCast, Has_nat, Has_nat, Has_nat, Nat.testBit_or]
theorem Has_and {a b : Int} (ha : 0 ≤ a) (hb : 0 ≤ b) (c : Nat) : Has (andB a b) c = (Has a c && Has b c) := by
  obtain ⟨a, rfl⟩ := Int.eq_ofNat_of_zero_le ha
  obtain ⟨b, rfl⟩ := Int.eq_ofNat_of_zero_le hb
  unfold andB
  rw [Int.toNat_natCast, Int.toNat_natCast, Has_nat, Has_nat, Has_nat, Nat.testBit_and]
theorem Has_zero (c : Nat) : Has 0 c = false := by
  have := Has_nat 0 c
  rw [Nat.zero_testBit] at this
  exact this

/-- How many of the systems have the letter c. -/
def cntAl (ss : List Sy) (c : Nat) : Nat := ss.countP fun s => Has s.al c
theorem cntAl_snoc (ss : List Sy) (s : Sy) (c : Nat) : cntAl (ss ++ [s]) c = cntAl ss c + if Has s.al c = true then 1 else 0 := by
  unfold cntAl
  rw [List.countP_append]
  simp [List.countP_cons]

theorem Has_all : ∀ (ss : List Sy) (c : Nat), ss.all sysOk = true → Has (allAl ss) c = decide (0 < cntAl ss c) ∧ Has (sharedAl ss) c = decide (1 < cntAl ss c) := by
  intro ss c
  induction hn : ss.length generalizing ss with
  | zero =>
    intro _
    obtain rfl : ss = [] := List.eq_nil_of_length_eq_zero hn
    exact ⟨Has_zero c, Has_zero c⟩
  | succ n ih =>
    intro hall
    have hne : ss ≠ [] := fun e => by rw [e] at hn; cases hn
    obtain ⟨ts, s, rfl⟩ : ∃ ts s, ss = ts ++ [s] := ⟨ss.dropLast, ss.getLast hne, (List.dropLast_concat_getLast hne).symm⟩
    have hts : ts.all sysOk = true := by rw [List.all_append, Bool.and_eq_true] at hall; exact hall.1
    have hs : sysOk s = true := by rw [List.all_append, Bool.and_eq_true] at hall; simpa using hall.2
    obtain ⟨h1, h2⟩ := ih ts (by simpa using hn) hts
    have r1 := allAl_range ts hts
    have r2 := sharedAl_range ts hts
    have r3 := sysOk_alpha hs
    have r4 := andB_range (a := allAl ts) r3
    rw [allAl_snoc, sharedAl_snoc, Has_or (by omega) (by omega), Has_or (by omega) (by omega), Has_and (by omega) (by omega), h1, h2, cntAl_snoc]
    cases hH : Has s.al c
    · simp
    · constructor
      · simp
      · rw [Bool.eq_iff_iff]
        simp
        omega

theorem partsAl_one {s : Sy} (h : sysOk s = true) : partsAl [s] = s.al := by
  have r := sysOk_alpha h
  have : partsOk [s] = true := by simp [partsOk, h]
  unfold partsAl
  rw [if_pos this]
  show orB 0 s.al = s.al
  unfold orB
  simp
  omega

end AG

/- Plain: one part alone. -/
namespace AG

theorem keptTo_all {w : ByteArray} {al : Int} : ∀ k, k ≤ w.size → (∀ i, i < k → HasZ al (ltr w i) = true) → keptTo w al k = w.data.toList.take k
  | 0, _, _ => by simp [keptTo]
  | k + 1, hk, h => by
    have ih := keptTo_all (w := w) (al := al) k (by omega) fun i hi => h i (by omega)
    have hk' : k < w.data.size := by have : w.size = w.data.size := rfl; omega
    rw [keptTo, if_pos (h k (by omega)), ih, List.take_succ_eq_append_getElem (by simpa using hk')]
    have e : w.data.getD k 0 = w.data.toList[k]'(by simpa using hk') := by
      rw [Array.getD_eq_getD_getElem?, Array.getElem?_eq_getElem hk']
      simp
    rw [e]
theorem restr_within {w : ByteArray} {al : Int} (h : within w al = true) : restr w al = w := by
  unfold within at h
  obtain ⟨-, -, h3⟩ := of_decide_eq_true h
  have := keptTo_all (w := w) (al := al) w.size (Nat.le_refl _) h3
  unfold restr
  rw [this]
  have e : w.data.toList.take w.size = w.data.toList := List.take_of_length_le (by simp)
  rw [e]
theorem hasTr_ok {s : Sy} {w : ByteArray} (h : hasTr s w = true) : sysOk s = true ∧ within w s.al = true := by
  unfold hasTr at h
  have h := of_decide_eq_true h
  unfold aft at h
  cases h1 : sysOk s <;> cases h2 : within w s.al <;> simp [h1, h2] at h ⊢
theorem hasTr_bad {s : Sy} (w : ByteArray) (h : sysOk s = false) : hasTr s w = false := by
  cases hb : hasTr s w with
  | false => rfl
  | true => rw [(hasTr_ok hb).1] at h; cases h

theorem allAl_one {s : Sy} (h : sysOk s = true) : allAl [s] = s.al := by
  have r := sysOk_alpha h
  show orB 0 s.al = s.al
  unfold orB
  simp
  omega
theorem allAl_two {s : Sy} (h : sysOk s = true) : allAl [s, s] = s.al := by
  have r := sysOk_alpha h
  have h0 : orB 0 s.al = s.al := allAl_one h
  show orB (orB 0 s.al) s.al = s.al
  rw [h0]
  unfold orB
  rw [Nat.or_self]
  omega
theorem trParts_same {s : Sy} {ss : List Sy} {w : ByteArray} (hs : sysOk s = true) (hp : partsOk ss = true) (ha : allAl ss = s.al) (he : ∀ x ∈ ss, x = s) (hn : 0 < ss.length) : trParts ss w = hasTr s w := by
  unfold trParts
  rw [Bool.eq_iff_iff, decide_eq_true_iff, ha]
  constructor
  · rintro ⟨-, h2, h3⟩
    have := h3 0 hn
    rw [he _ (List.getElem_mem _), restr_within h2] at this
    exact this
  · intro h
    have h2 := (hasTr_ok h).2
    refine ⟨hp, h2, fun i hi => ?_⟩
    rw [he _ (List.getElem_mem _), restr_within h2]
    exact h
theorem trParts_one (s : Sy) (w : ByteArray) : trParts [s] w = hasTr s w := by
  cases hs : sysOk s with
  | true => exact trParts_same hs (by simp [partsOk, hs]) (allAl_one hs) (by simp) (by simp)
  | false =>
    rw [hasTr_bad w hs]
    unfold trParts
    exact decide_eq_false fun h => by have := h.1; simp [partsOk, hs] at this
theorem trParts_two {s : Sy} (hs : sysOk s = true) (w : ByteArray) : trParts [s, s] w = hasTr s w :=
  trParts_same hs (by simp [partsOk, hs]) (allAl_two hs) (by simp) (by simp)

end AG

/- Plain: words as lists: prefixes, restrictions of restrictions, lists of systems in another order, words that are merged. -/
namespace AG

/-- The letter of a byte, -1 if there is none. -/
def bl (b : UInt8) : Int := if lOk ((b.toNat : Int) - 97) = true then (b.toNat : Int) - 97 else -1
def pk (al : Int) (b : UInt8) : Bool := HasZ al (bl b)
theorem pk_at (w : ByteArray) (al : Int) (i : Nat) : HasZ al (ltr w i) = pk al (w.data.getD i 0) := rfl
theorem getD_list {w : ByteArray} {i : Nat} (h : i < w.size) : ∃ h' : i < w.data.toList.length, w.data.getD i 0 = w.data.toList[i]'h' := by
  have hk' : i < w.data.size := h
  refine ⟨by simpa using hk', ?_⟩
  rw [Array.getD_eq_getD_getElem?, Array.getElem?_eq_getElem hk']
  simp
theorem size_list (w : ByteArray) : w.data.toList.length = w.size := by simp
theorem word_ext {a b : ByteArray} (h : a.data.toList = b.data.toList) : a = b := by
  obtain ⟨⟨a⟩⟩ := a
  obtain ⟨⟨b⟩⟩ := b
  cases h
  rfl

theorem keptTo_filter (w : ByteArray) (al : Int) : ∀ k, k ≤ w.size → keptTo w al k = (w.data.toList.take k).filter (pk al)
  | 0, _ => by simp [keptTo]
  | k + 1, hk => by
    have ih := keptTo_filter w al k (by omega)
    obtain ⟨h', e⟩ := getD_list (w := w) (i := k) (by omega)
    rw [keptTo, ih, List.take_succ_eq_append_getElem h', List.filter_append, pk_at, e]
    generalize w.data.toList[k]'h' = b
    cases h : pk al b <;> simp [h]
theorem restr_list (w : ByteArray) (al : Int) : (restr w al).data.toList = w.data.toList.filter (pk al) := by
  have := keptTo_filter w al w.size (Nat.le_refl _)
  unfold restr
  rw [this, List.take_of_length_le (by rw [size_list]; omega)]
theorem within_list (w : ByteArray) (al : Int) : within w al = true ↔ alphaOk al = true ∧ w.size ≤ 50000 ∧ ∀ b ∈ w.data.toList, pk al b = true := by
  unfold within
  rw [decide_eq_true_iff]
  constructor
  · rintro ⟨h1, h2, h3⟩
    refine ⟨h1, h2, fun b hb => ?_⟩
    obtain ⟨i, hi, rfl⟩ := List.getElem_of_mem hb
    have hi' : i < w.size := by rw [size_list] at hi; exact hi
    obtain ⟨h', e⟩ := getD_list hi'
    have := h3 i hi'
    rw [pk_at, e] at this
    exact this
  · rintro ⟨h1, h2, h3⟩
    refine ⟨h1, h2, fun i hi => ?_⟩
    obtain ⟨h', e⟩ := getD_list hi
    rw [pk_at, e]
    exact h3 _ (List.getElem_mem _)

/-- The states behind a list of bytes. -/
noncomputable def runL (s : Sy) (l : List UInt8) : Nat := l.foldl (fun S b => stepSet s S ((b.toNat : Int) - 97)) 1
theorem runTo_list (s : Sy) (w : ByteArray) : ∀ k, k ≤ w.size → runTo s w k = runL s (w.data.toList.take k)
  | 0, _ => rfl
  | k + 1, hk => by
    have ih := runTo_list s w k (by omega)
    obtain ⟨h', e⟩ := getD_list (w := w) (i := k) (by omega)
    rw [List.take_succ_eq_append_getElem h']
    unfold runL at ih ⊢
    rw [List.foldl_append, ← ih]
    show stepSet s (runTo s w k) (lz w k) = stepSet s _ _
    unfold lz
    rw [e]
theorem runTo_all (s : Sy) (w : ByteArray) : runTo s w w.size = runL s w.data.toList := by
  rw [runTo_list s w _ (Nat.le_refl _), List.take_of_length_le (by rw [size_list]; omega)]
theorem foldl_none (s : Sy) : ∀ l : List UInt8, l.foldl (fun S b => stepSet s S ((b.toNat : Int) - 97)) 0 = 0
  | [] => rfl
  | b :: l => by rw [List.foldl_cons, stepSet_of0]; exact foldl_none s l
theorem runL_more {s : Sy} {l : List UInt8} (m : List UInt8) (h : runL s (l ++ m) ≠ 0) : runL s l ≠ 0 := fun e => h (by
  unfold runL at e ⊢
  rw [List.foldl_append, e, foldl_none])

theorem hasTr_list (s : Sy) (w : ByteArray) : hasTr s w = true ↔ sysOk s = true ∧ within w s.al = true ∧ runL s w.data.toList ≠ 0 := by
  constructor
  · intro h
    obtain ⟨h1, h2⟩ := hasTr_ok h
    refine ⟨h1, h2, ?_⟩
    unfold hasTr at h
    have h := of_decide_eq_true h
    unfold aft at h
    rw [h1, h2] at h
    rw [← runTo_all]
    simpa using h
  · rintro ⟨h1, h2, h3⟩
    unfold hasTr aft
    rw [h1, h2, runTo_all]
    exact decide_eq_true (by simpa using h3)
theorem trParts_list (ss : List Sy) (w : ByteArray) : trParts ss w = true ↔ partsOk ss = true ∧ within w (allAl ss) = true ∧ ∀ s ∈ ss, hasTr s (restr w s.al) = true := by
  unfold trParts
  rw [decide_eq_true_iff]
  constructor
  · rintro ⟨h1, h2, h3⟩
    refine ⟨h1, h2, fun s hs => ?_⟩
    obtain ⟨i, hi, rfl⟩ := List.getElem_of_mem hs
    exact h3 i hi
  · rintro ⟨h1, h2, h3⟩
    exact ⟨h1, h2, fun i hi => h3 _ (List.getElem_mem _)⟩

/-- A word begins another. -/
def Pre (x y : ByteArray) : Prop := ∃ m, y.data.toList = x.data.toList ++ m
theorem Pre.within {x y : ByteArray} {al : Int} (h : Pre x y) (hy : AG.within y al = true) : AG.within x al = true := by
  obtain ⟨m, hm⟩ := h
  rw [within_list] at hy ⊢
  have h1 := size_list x
  have h2 := size_list y
  rw [hm, List.length_append] at h2
  refine ⟨hy.1, by have := hy.2.1; omega, fun b hb => hy.2.2 b (by rw [hm]; exact List.mem_append_left _ hb)⟩
theorem Pre.hasTr {x y : ByteArray} {s : Sy} (h : Pre x y) (hy : AG.hasTr s y = true) : AG.hasTr s x = true := by
  rw [hasTr_list] at hy ⊢
  obtain ⟨m, hm⟩ := h
  exact ⟨hy.1, Pre.within ⟨m, hm⟩ hy.2.1, runL_more m (by rw [← hm]; exact hy.2.2)⟩
theorem Pre.restr {x y : ByteArray} (h : Pre x y) (al : Int) : Pre (AG.restr x al) (AG.restr y al) := by
  obtain ⟨m, hm⟩ := h
  exact ⟨m.filter (pk al), by rw [restr_list, restr_list, hm, List.filter_append]⟩
theorem Pre.trParts {x y : ByteArray} {ss : List Sy} (h : Pre x y) (hy : AG.trParts ss y = true) : AG.trParts ss x = true := by
  rw [trParts_list] at hy ⊢
  exact ⟨hy.1, h.within hy.2.1, fun s hs => (h.restr _).hasTr (hy.2.2 s hs)⟩

/-- Alphabets of lists of systems: order counts for nothing, a system's letters are among them. -/
theorem Has_ext {a b : Int} (ha : 0 ≤ a ∧ a ≤ 63) (hb : 0 ≤ b ∧ b ≤ 63) (h : ∀ c, Has a c = Has b c) : a = b := by
  obtain ⟨a, rfl⟩ := Int.eq_ofNat_of_zero_le ha.1
  obtain ⟨b, rfl⟩ := Int.eq_ofNat_of_zero_le hb.1
  have : a = b := Nat.eq_of_testBit_eq fun i => by have := h i; rwa [Has_nat, Has_nat] at this
  rw [this]
theorem allAl_perm {ss ts : List Sy} (h : ss.Perm ts) (hall : ss.all sysOk = true) : allAl ss = allAl ts := by
  have hall' : ts.all sysOk = true := by rw [List.all_eq_true] at hall ⊢; exact fun x hx => hall x (h.mem_iff.2 hx)
  refine Has_ext (allAl_range _ hall) (allAl_range _ hall') fun c => ?_
  rw [(Has_all ss c hall).1, (Has_all ts c hall').1]
  unfold cntAl
  rw [h.countP_eq]
theorem partsOk_perm {ss ts : List Sy} (h : ss.Perm ts) : partsOk ss = partsOk ts := by
  unfold partsOk
  rw [h.length_eq]
  congr 1
  rw [Bool.eq_iff_iff, List.all_eq_true, List.all_eq_true]
  exact ⟨fun k x hx => k x (h.mem_iff.2 hx), fun k x hx => k x (h.mem_iff.1 hx)⟩
theorem partsOk_all {ss : List Sy} (h : partsOk ss = true) : ss.all sysOk = true := by
  unfold partsOk at h
  rw [Bool.and_eq_true] at h
  exact h.2
theorem partsAl_perm {ss ts : List Sy} (h : ss.Perm ts) : partsAl ss = partsAl ts := by
  unfold partsAl
  rw [partsOk_perm h]
  split
  · rename_i hk
    rw [← partsOk_perm h] at hk
    exact allAl_perm h (partsOk_all hk)
  · rfl
theorem trParts_perm {ss ts : List Sy} (h : ss.Perm ts) (w : ByteArray) : trParts ss w = trParts ts w := by
  rw [Bool.eq_iff_iff, trParts_list, trParts_list, partsOk_perm h]
  constructor
  · rintro ⟨h1, h2, h3⟩
    refine ⟨h1, ?_, fun s hs => h3 s (h.mem_iff.2 hs)⟩
    rw [← allAl_perm h (partsOk_all ((partsOk_perm h).trans h1))]
    exact h2
  · rintro ⟨h1, h2, h3⟩
    refine ⟨h1, ?_, fun s hs => h3 s (h.mem_iff.1 hs)⟩
    rw [allAl_perm h (partsOk_all ((partsOk_perm h).trans h1))]
    exact h2

theorem HasZ_sub {al al' x : Int} (h : ∀ c, Has al c = true → Has al' c = true) (hx : HasZ al x = true) : HasZ al' x = true := by
  unfold HasZ at hx ⊢
  rw [Bool.and_eq_true] at hx ⊢
  exact ⟨hx.1, h _ hx.2⟩
theorem Has_part {ss : List Sy} {s : Sy} (hall : ss.all sysOk = true) (hs : s ∈ ss) (c : Nat) (h : Has s.al c = true) : Has (allAl ss) c = true := by
  rw [(Has_all ss c hall).1]
  refine decide_eq_true ?_
  unfold cntAl
  exact List.countP_pos_iff.2 ⟨s, hs, h⟩
theorem restr_restr {w : ByteArray} {al al' : Int} (h : ∀ c, Has al c = true → Has al' c = true) : restr (restr w al') al = restr w al := by
  apply word_ext
  rw [restr_list, restr_list, restr_list, List.filter_filter]
  congr 1
  funext b
  cases hb : pk al b with
  | false => rfl
  | true => rw [show pk al' b = true from HasZ_sub h hb]; rfl
theorem alphaOk_range {a : Int} : alphaOk a = true ↔ 0 ≤ a ∧ a ≤ 63 := by unfold alphaOk; exact decide_eq_true_iff
theorem restr_within_self {w : ByteArray} {al : Int} (ha : 0 ≤ al ∧ al ≤ 63) (hw : w.size ≤ 50000) : within (restr w al) al = true := by
  rw [within_list]
  refine ⟨alphaOk_range.2 ha, ?_, fun b hb => ?_⟩
  · have h1 := size_list (restr w al)
    have h2 := size_list w
    rw [restr_list] at h1
    have := List.length_filter_le (pk al) w.data.toList
    omega
  · rw [restr_list, List.mem_filter] at hb
    exact hb.2
/-- Fewer parts do no less. -/
theorem trParts_tail {s : Sy} {ss : List Sy} {w : ByteArray} (h : trParts (s :: ss) w = true) (hn : ss ≠ []) : partsOk ss = true ∧ trParts ss (restr w (allAl ss)) = true := by
  rw [trParts_list] at h
  obtain ⟨h1, h2, h3⟩ := h
  have hp : partsOk ss = true := by
    unfold partsOk at h1 ⊢
    simp only [List.length_cons, List.all_cons, Bool.and_eq_true, decide_eq_true_eq] at h1 ⊢
    have : 0 < ss.length := List.length_pos_iff.2 hn
    refine ⟨?_, h1.2.2⟩
    have := h1.1
    omega
  have hall := partsOk_all hp
  refine ⟨hp, ?_⟩
  rw [trParts_list]
  refine ⟨hp, restr_within_self (allAl_range _ hall) (within_size h2), fun t ht => ?_⟩
  rw [restr_restr (fun c hc => Has_part hall ht c hc)]
  exact h3 t (List.mem_cons_of_mem _ ht)

end AG

/- The law FnTraceTurned. -/
namespace Go.Proofs.YtempjhgajcdibaaDoor
open Go.RowKit Go.BigFrame AG

/-- The systems of a list with the places of their edges. -/
theorem SysAt.views {w : World} {B : Nat} {A : Option Addr} {ss : List Sy} (h : SysAt w B A ss) : ∃ xs : List SyV, xs.map (·.s) = ss ∧ (∀ x ∈ xs, x.s.es.length ≤ x.c ∧ x.c ≤ 9223372036854775807 ∧ EdsAt w B x.A x.s.es) ∧
    (0 < xs.length → ∃ b o, A = some ⟨b, o, none⟩ ∧ b < B ∧ ∀ i (h : i < xs.length), w.cell? ⟨b, o + i * 3, none⟩ = some (.int .i64 xs[i].s.al) ∧ w.cell? ⟨b, o + i * 3 + 1, none⟩ = some (.int .i64 xs[i].s.st) ∧ w.cell? ⟨b, o + i * 3 + 2, none⟩ = some (.slice xs[i].A xs[i].s.es.length xs[i].c)) := by
  by_cases hn : 0 < ss.length
  · obtain ⟨b, o, hA, hb, hE⟩ := h hn
    have hx : ∀ i, ∃ x : SyV, ∀ hi : i < ss.length, x.s = ss[i] ∧ (x.s.es.length ≤ x.c ∧ x.c ≤ 9223372036854775807 ∧ EdsAt w B x.A x.s.es) ∧ w.cell? ⟨b, o + i * 3, none⟩ = some (.int .i64 x.s.al) ∧ w.cell? ⟨b, o + i * 3 + 1, none⟩ = some (.int .i64 x.s.st) ∧ w.cell? ⟨b, o + i * 3 + 2, none⟩ = some (.slice x.A x.s.es.length x.c) := fun i => by
      by_cases hi : i < ss.length
      · obtain ⟨h0, h1, Ai, ci, h2, h3, h4, h5⟩ := hE i hi
        exact ⟨⟨ss[i], Ai, ci⟩, fun _ => ⟨rfl, ⟨h3, h4, h5⟩, h0, h1, h2⟩⟩
      · exact ⟨⟨⟨0, 0, []⟩, none, 0⟩, fun hi' => absurd hi' hi⟩
    obtain ⟨f, hf⟩ := Classical.skolem.1 hx
    refine ⟨(List.range ss.length).map f, ?_, ?_, fun _ => ⟨b, o, hA, hb, fun i hi => ?_⟩⟩
    · apply List.ext_getElem
      · simp
      · intro i h1 h2
        simp only [List.getElem_map, List.getElem_range]
        exact (hf i (by simpa using h2)).1
    · intro x hx
      obtain ⟨i, hi, rfl⟩ := List.mem_map.1 hx
      exact (hf i (List.mem_range.1 hi)).2.1
    · have hi' : i < ss.length := by simpa using hi
      simp only [List.getElem_map, List.getElem_range]
      exact (hf i hi').2.2
  · have e : ss = [] := List.eq_nil_of_length_eq_zero (by omega)
    exact ⟨[], by rw [e]; rfl, (fun x hx => by cases hx), fun hl => by simp at hl⟩
/-- A list of systems that the call owns. -/
theorem own_sys {w : World} {B : Nat} {v : Value} {xs : List SyV} (h : w.ownsRow B 25 3 v xs.length (sysCells xs)) (hx : ∀ x ∈ xs, x.s.es.length ≤ x.c ∧ x.c ≤ 9223372036854775807 ∧ EdsAt w w.heap.size x.A x.s.es) :
    ∃ A c, v = .slice A xs.length c ∧ xs.length ≤ c ∧ c ≤ 9223372036854775807 ∧ SysAt w w.heap.size A (xs.map (·.s)) := by
  by_cases hn : xs.length = 0
  · obtain ⟨A, c, hv, h1, h2⟩ := own_slice h
    exact ⟨A, c, hv, h1, h2, fun hl => by simp at hl; omega⟩
  · obtain ⟨g, cap, hv, h1, h2, h3, h4, h5⟩ := own_shape h (by omega)
    refine ⟨_, cap, hv, h3, h4, fun _ => ⟨g, 0, rfl, h2, fun i hi => ?_⟩⟩
    have hi' : i < xs.length := by simpa using hi
    obtain ⟨a0, a1, a2⟩ := sysCells_at xs i hi'
    obtain ⟨e1, e2, e3⟩ := hx xs[i] (List.getElem_mem _)
    simp only [List.getElem_map, Nat.zero_add]
    exact ⟨h5 _ _ a0, h5 _ _ a1, xs[i].A, xs[i].c, h5 _ _ a2, e1, e2, e3⟩

theorem rev_next {α : Type} {xs : List α} {k : Nat} (h : k < xs.length) : (xs.drop (k + 1)).reverse ++ [xs[k]] = (xs.drop k).reverse := by
  rw [List.drop_eq_getElem_cons h, List.reverse_cons]

set_option maxRecDepth 100000 in
set_option maxHeartbeats 8000000 in
theorem FnTraceTurned_any (A : Option Addr) (n c : Nat) (w : World) (hn : n ≤ c) (hc : c ≤ 9223372036854775807) (hT : Tab w) (hx : CodeAt w A n) :
    Calls Tryd.prog 4 #[.slice A n c] w fun e w' => e = .returned (.bool true) ∧ Below w.heap.size w w' := by
  obtain ⟨i0, hi, hz0, hz1, hz2⟩ := info_parts infoSy
  replace hx := hid hx
  replace hT := hid hT
  by_cases hbig : 1048576 < n
  · go_enter Tryd.func4, Tryd.ntmps4
    go_wp2
    go_ret
    exact ⟨rfl, Below.refl _ _⟩
  · go_enter Tryd.func4, Tryd.ntmps4
    go_wp2_with fail
    refine (drawTraceOfParts_any A n c w hn hc hx.out).mono ?_
    rintro e w1 ⟨ss, As, cs, x, rfl, a1, a2, a3, a4, a5, hb1⟩
    have hz : x.size ≤ 9223372036854775807 := by omega
    have hT1 := hid (hT.out.later hb1)
    replace a5 := hid a5
    go_wp2_with fail
    refine (implTraceOfParts_any ss As cs x w1 hz a1 a2 hT1.out a5.out).mono ?_
    rintro e w2 ⟨rfl, hb2⟩
    have hB2 := hb1.trans (hb2.mono hb1.size)
    have r2 := hid (a5.out.later hb2)
    have hT2 := hid (hT1.out.later hb2)
    obtain ⟨bt, hbt⟩ : ∃ bt, Hid (bt = trParts ss x) := ⟨_, hid rfl⟩
    rw [← hbt.out]
    have hret : Hid (∀ ts : List Sy, ts.Perm ss → trParts ts x = bt ∧ partsAl ts = partsAl ss) := hid fun ts h => ⟨by rw [hbt.out]; exact trParts_perm h x, partsAl_perm h⟩
    cases bt
    all_goals
      go_wp2_with fail
      refine (specTraceOfParts_any ss As cs x w2 hz a1 a2 r2.out).mono ?_
      rintro e w3 ⟨rfl, hb3⟩
      rw [← hbt.out]
      have hB3 := hB2.trans (hb3.mono hB2.size)
      have r3 := hid (r2.out.later hb3)
      have hT3 := hid (hT2.out.later hb3)
      obtain ⟨xs, hxs, hxe, hxc⟩ := SysAt.views r3.out
      have hlen : xs.length = ss.length := by rw [← hxs]; simp
      replace hxs := hid hxs
      replace hxe := hid hxe
      replace hxc := hid hxc
      have hw0 : w3.ownsRow w3.heap.size 25 3 (.slice none 0 0) 0 [] := World.ownsRow_nil _ _ _ _
      go_wp2_with fail
      go_loopw [6, 7] (fun v iv wr => ∃ k : Nat, k ≤ xs.length ∧ iv = .int .i64 ((k : Int) - 1) ∧ wr.ownsRow w3.heap.size 25 3 v (xs.drop k).reverse.length (sysCells (xs.drop k).reverse) ∧ Below w3.heap.size w3 wr) (fun _ iv _ => (intOf iv + 1).toNat)
      case atStart =>
        refine ⟨xs.length, Nat.le_refl _, by first | rfl | (rw [hlen]) | (rw [hlen]; go_num), ?_, by (repeat (first | exact Below.refl _ _ | assumption | refine Below.drew ?_ | refine Below.alloc ?_ (by first | omega | (simp; done) | (simp; omega)) _ | refine Below.setCell ?_ (by first | omega | (simp; done) | (simp; omega)) _))⟩
        simp only [List.drop_length, List.reverse_nil]
        exact ⟨rfl, .inr ⟨w3.heap.size, 0, #[], rfl, Nat.le_refl _, heap_alloc_self _ _, Nat.le_refl _, Nat.zero_le _, rfl, rfl⟩⟩
      case round =>
        obtain ⟨k, hk, rfl, hown, hb⟩ := hrel
        have hzr := hb.size
        have hBr := hid (hB3.trans (hb.mono hB3.size))
        have rr := hid (r3.out.later hb)
        have hTr := hid (hT3.out.later hb)
        replace hb := hid hb
        by_cases h0 : 0 < k
        · obtain ⟨p, rfl⟩ : ∃ p, k = p + 1 := ⟨k - 1, by omega⟩
          have hp : p < xs.length := by omega
          obtain ⟨b, o, hA, hbb, hE⟩ := hxc.out (by omega)
          subst hA
          obtain ⟨c0, c1, c2⟩ := hE p hp
          rw [← hb.out.cell (by simpa using hbb)] at c0 c1 c2
          obtain ⟨y, hy⟩ : ∃ y, y = xs[p] := ⟨_, rfl⟩
          rw [← hy] at c0 c1 c2
          have e1 : (((p + 1 : Nat) : Int) - 1) = (p : Int) := by omega
          rw [e1]
          have k1 : (0 : Int) ≤ (p : Int) ∧ (p : Int) < (ss.length : Int) := by omega
          have hnx := hid (rev_next hp)
          rw [← hy] at hnx
          have hll : (xs.drop (p + 1)).reverse.length ≤ 100 := by simp; omega
          replace hE := hid hE
          replace hy := hid hy
          replace hown := hid hown
          go_wp2_with (at_builtin; refine wpList_append_own_at _ (by rfl) _ _ 31 (by rfl) w3.heap.size 25 i0 (.agg #[.int .i64 0, .int .i64 0, .slice none 0 0]) 3 40 Tryd.underlying31 hi hz0 hz1 hz2 rfl (by decide) _ (xs.drop (p + 1)).reverse.length (sysCells (xs.drop (p + 1)).reverse) (by rfl) (hown.out.alloc _) ⟨wr.heap.size, 0, none⟩ 1 1 [.int .i64 y.s.al, .int .i64 y.s.st, .slice y.A y.s.es.length y.c] (by rfl) (by rfl) (World.news_of_block (heap_alloc_new wr _)) ?c1 ?c3 ?c4 ?c5 ?_)
          case c1 => simp [Value.oneCell']
          case c3 => unfold maxLen; omega
          case c4 => omega
          case c5 => simp; omega
          intro v9 w9 hown9 hgrow9 hnil9 hat9
          have hB9 := hid (Below.grown (hb.out.alloc hzr _) hgrow9 (by simp; omega) (own_block hown.out))
          have hO9 : Hid (w9.ownsRow w3.heap.size 25 3 v9 (xs.drop p).reverse.length (sysCells (xs.drop p).reverse)) := hid (by
            have hn2 := rev_next hp
            have e5 : (xs.drop (p + 1)).reverse.length + [y].length = ss.length - (p + 1) + 1 := by simp; omega
            rw [← hn2, sysCells_append, List.length_append, ← hy.out, e5]
            exact hown9)
          clear hown9 hgrow9 hnil9 hat9 c0 c1 c2
          go_wp2_with fail
          go_roundw
          case rel => exact ⟨p, by omega, by go_num, hO9.out, hB9.out⟩
          case measure => simp [intOf]
        · obtain rfl : k = 0 := by omega
          have e1 : ((0 : Nat) : Int) - 1 = -1 := rfl
          rw [e1]
          have hown0 := hown
          simp only [List.drop_zero] at hown0
          obtain ⟨At, ct, hvt, t1, t2, t3⟩ := own_sys hown0 (fun y hy => by
            obtain ⟨h1, h2, h3⟩ := hxe.out y (by simpa using hy)
            exact ⟨h1, h2, h3.later hb.out⟩)
          obtain ⟨ts, hts⟩ : ∃ ts, ts = xs.reverse.map (·.s) := ⟨_, rfl⟩
          have hl : xs.reverse.length = ts.length := by rw [hts]; simp
          have hp := hret.out ts (by rw [hts, ← hxs.out]; exact (List.reverse_perm xs).map _)
          rw [← hts] at t3
          rw [hl] at t1
          subst hvt
          rw [hl]
          clear hown hown0
          replace hp := hid hp
          replace hts := hid hts
          replace t3 := hid t3
          clear hl
          go_wp2_with fail
          refine (implTraceOfParts_any ts At ct x wr hz t1 t2 hTr.out t3.out).mono ?_
          rintro e w5 ⟨rfl, hb5⟩
          rw [hp.out.1]
          have hB5 := hBr.out.trans (hb5.mono hBr.out.size)
          have r5 := hid (rr.out.later hb5)
          have t5 := hid (t3.out.later hb5)
          go_wp2_with fail
          refine (implPartsAlphabet_any ts At ct w5 t1 t2 t5.out).mono ?_
          rintro e w6 ⟨rfl, hb6⟩
          rw [hp.out.2]
          have hB6 := hB5.trans (hb6.mono hB5.size)
          have r6 := hid (r5.out.later hb6)
          obtain ⟨z, hz'⟩ : ∃ z, Hid (z = partsAl ss) := ⟨_, hid rfl⟩
          rw [← hz'.out]
          go_wp2_with fail
          refine (implPartsAlphabet_any ss As cs w6 a1 a2 r6.out).mono ?_
          rintro e w7 ⟨rfl, hb7⟩
          rw [← hz'.out]
          have hB7 := hB6.trans (hb7.mono hB6.size)
          go_wp2_with fail
          go_ret
          exact ⟨rfl, hB7⟩

end Go.Proofs.YtempjhgajcdibaaDoor
