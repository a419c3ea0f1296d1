/- Alphabets of lists of systems: both PartsAlphabet and SharedLetters. -/
import Derived.Test.YtbomhfbiaedbiaaW5
import Derived.Test.YtbomhfbiaedbiaaW2
namespace Go.Proofs.Ytbomhfbiaedbiaa
open Go.RowKit Go.BigFrame AG

set_option maxHeartbeats 1000000 in
theorem implPartsAlphabet_any (ss : List Sy) (A : Option Addr) (c : Nat) (w : World) (hl : ss.length ≤ c) (hc : c ≤ 9223372036854775807) (hr : SysAt w w.heap.size A ss) :
    Calls Try.prog 6 #[.slice A ss.length c] w fun e w' => e = .returned (.int .i64 (partsAl ss)) ∧ Below w.heap.size w w' := by
  replace hr := hid hr
  cases hp : partsOk ss
  · replace hp := hid hp
    go_enter Try.func6, Try.ntmps6
    go_wp2_with (go_at_call 15; refine (areParts_any ss A c w hl hc hr.out).mono ?_; rintro e w' ⟨rfl, hb⟩; rw [hp.out])
    go_ret
    exact ⟨ret_int (by unfold partsAl; rw [hp.out]; rfl), hb⟩
  · have hall : ss.all sysOk = true := by unfold partsOk at hp; rw [Bool.and_eq_true] at hp; exact hp.2
    replace hp := hid hp
    replace hall := hid hall
    go_enter Try.func6, Try.ntmps6
    go_wp2_with (go_at_call 15; refine (areParts_any ss A c w hl hc hr.out).mono ?_; rintro e w' ⟨rfl, hb0⟩; rw [hp.out])
    go_loopw [3, 11] (fun a i wr => ∃ k : Nat, i = .int .i64 k ∧ k ≤ ss.length ∧ a = .int .i64 (allAl (ss.take k)) ∧ Below w.heap.size w wr) (fun _ i _ => ss.length - (intOf i).toNat)
    case atStart => exact ⟨0, rfl, by omega, rfl, hb0⟩
    case round =>
      obtain ⟨k, rfl, hk, rfl, hb⟩ := hrel
      by_cases hlt : k < ss.length
      · obtain ⟨b, o, Ai, ci, rfl, hB, c0, c1, c2, hAl, hAc, hAe⟩ := hr.out.get hlt
        have hzr := hb.size
        have hts := hid (take_snoc ss k hlt)
        have hrg := allAl_range _ (all_take _ _ k hall.out)
        have hs : sysOk ss[k] = true := List.all_eq_true.1 hall.out _ (List.getElem_mem _)
        have hal := sysOk_alpha hs
        have hor := hid (bits_or (a := allAl (ss.take k)) (b := ss[k].al) (by omega) (by omega))
        replace hs := hid hs
        replace hAe := hid hAe
        go_wp2
        go_roundw
        case rel => exact ⟨k + 1, by go_num, by omega, by rw [hts.out, allAl_snoc, hor.out], by (repeat (first | exact Below.refl _ _ | assumption | refine Below.drew ?_ | refine Below.alloc ?_ (by first | omega | (simp; done) | (simp; omega)) _ | refine Below.setCell ?_ (by first | omega | (simp; done) | (simp; omega)) _))⟩
        case measure => simp [intOf]; omega
      · go_wp2
        go_ret
        exact ⟨ret_int (by unfold partsAl; rw [hp.out, if_pos rfl, List.take_of_length_le (by omega)]), hb⟩

set_option maxHeartbeats 1000000 in
theorem implSharedLetters_any (ss : List Sy) (A : Option Addr) (c : Nat) (w : World) (hl : ss.length ≤ c) (hc : c ≤ 9223372036854775807) (hr : SysAt w w.heap.size A ss) :
    Calls Try.prog 9 #[.slice A ss.length c] w fun e w' => e = .returned (.int .i64 (partsShared ss)) ∧ Below w.heap.size w w' := by
  replace hr := hid hr
  cases hp : partsOk ss
  · replace hp := hid hp
    go_enter Try.func9, Try.ntmps9
    go_wp2_with (go_at_call 15; refine (areParts_any ss A c w hl hc hr.out).mono ?_; rintro e w' ⟨rfl, hb⟩; rw [hp.out])
    go_ret
    exact ⟨ret_int (by unfold partsShared; rw [hp.out]; rfl), hb⟩
  · have hall : ss.all sysOk = true := by unfold partsOk at hp; rw [Bool.and_eq_true] at hp; exact hp.2
    replace hp := hid hp
    replace hall := hid hall
    go_enter Try.func9, Try.ntmps9
    go_wp2_with (go_at_call 15; refine (areParts_any ss A c w hl hc hr.out).mono ?_; rintro e w' ⟨rfl, hb0⟩; rw [hp.out])
    go_loopw [3, 4, 12] (fun a sh i wr => ∃ k : Nat, i = .int .i64 k ∧ k ≤ ss.length ∧ a = .int .i64 (allAl (ss.take k)) ∧ sh = .int .i64 (sharedAl (ss.take k)) ∧ Below w.heap.size w wr) (fun _ _ i _ => ss.length - (intOf i).toNat)
    case atStart => exact ⟨0, rfl, by omega, rfl, rfl, hb0⟩
    case round =>
      obtain ⟨k, rfl, hk, rfl, rfl, hb⟩ := hrel
      by_cases hlt : k < ss.length
      · obtain ⟨b, o, Ai, ci, rfl, hB, c0, c1, c2, hAl, hAc, hAe⟩ := hr.out.get hlt
        have hzr := hb.size
        have hts := hid (take_snoc ss k hlt)
        have hrg := allAl_range _ (all_take _ _ k hall.out)
        have hrs := sharedAl_range _ (all_take _ _ k hall.out)
        have hs : sysOk ss[k] = true := List.all_eq_true.1 hall.out _ (List.getElem_mem _)
        have hal := sysOk_alpha hs
        have har := andB_range (a := allAl (ss.take k)) hal
        have hor := hid (bits_or (a := allAl (ss.take k)) (b := ss[k].al) (by omega) (by omega))
        have han := hid (bits_and (a := allAl (ss.take k)) (b := ss[k].al) (by omega) (by omega))
        have hor2 := hid (bits_or (a := sharedAl (ss.take k)) (b := andB (allAl (ss.take k)) ss[k].al) (by omega) (by omega))
        replace hs := hid hs
        replace hAe := hid hAe
        go_wp2
        go_roundw
        case rel => exact ⟨k + 1, by go_num, by omega, by rw [hts.out, allAl_snoc, hor.out], by rw [hts.out, sharedAl_snoc, han.out, hor2.out], by (repeat (first | exact Below.refl _ _ | assumption | refine Below.drew ?_ | refine Below.alloc ?_ (by first | omega | (simp; done) | (simp; omega)) _ | refine Below.setCell ?_ (by first | omega | (simp; done) | (simp; omega)) _))⟩
        case measure => simp [intOf]; omega
      · go_wp2
        go_ret
        exact ⟨ret_int (by unfold partsShared; rw [hp.out, if_pos rfl, List.take_of_length_le (by omega)]), hb⟩

set_option maxHeartbeats 1000000 in
theorem specPartsAlphabet_any (ss : List Sy) (A : Option Addr) (c : Nat) (w : World) (_hl : ss.length ≤ c) (_hc : c ≤ 9223372036854775807) (hr : SysAt w w.heap.size A ss) :
    Calls Try.prog 7 #[.slice A ss.length c] w fun e w' => e = .returned (.int .i64 (partsAl ss)) ∧ Below w.heap.size w w' := by
  replace hr := hid hr
  by_cases h13 : 1 ≤ ss.length ∧ ss.length ≤ 3
  · obtain ⟨h1, h3⟩ := h13
    have hp : partsOk ss = ss.all sysOk := by unfold partsOk; rw [decide_eq_true ⟨h1, h3⟩]; rfl
    replace hp := hid hp
    go_enter Try.func7, Try.ntmps7
    go_wp2_with fail
    go_loopw [3, 4] (fun a i wr => ∃ k : Nat, i = .int .i64 k ∧ k ≤ ss.length ∧ a = .int .i64 (allAl (ss.take k)) ∧ (ss.take k).all sysOk = true ∧ Below w.heap.size w wr) (fun _ i _ => ss.length - (intOf i).toNat)
    case atStart => exact ⟨0, rfl, by omega, rfl, by simp, Below.refl _ _⟩
    case round =>
      obtain ⟨k, rfl, hk, rfl, hok, hb⟩ := hrel
      have hrg := allAl_range _ hok
      by_cases hlt : k < ss.length
      · obtain ⟨b, o, Ai, ci, rfl, hB, c0, c1, c2, hAl, hAc, hAe⟩ := hr.out.get hlt
        have hts := hid (take_snoc ss k hlt)
        have hAe' : EdsAt wr wr.heap.size Ai ss[k].es := (hAe.keep hb).more hb.size
        replace hAe := hid hAe'
        clear hAe'
        replace hok := hid hok
        cases hs : sysOk ss[k]
        · have hfin : Hid (partsAl ss = -1) := hid (by
            unfold partsAl
            rw [hp.out, if_neg]
            rw [List.all_eq_true]
            intro h
            have := h ss[k] (List.getElem_mem _)
            rw [hs] at this
            cases this)
          replace hs := hid hs
          go_wp2_with (go_at_call 16; refine (specSystemValid_any ss[k] Ai ci _ hAl hAc hAe.out).mono ?_; rintro e w' ⟨rfl, hb'⟩; rw [hs.out])
          go_ret
          exact ⟨by rw [hfin.out]; rfl, hb.trans (hb'.mono hb.size)⟩
        · have hal := sysOk_alpha hs
          have hor := hid (bits_or (a := allAl (ss.take k)) (b := ss[k].al) (by omega) (by omega))
          replace hs := hid hs
          go_wp2_with (go_at_call 16; refine (specSystemValid_any ss[k] Ai ci _ hAl hAc hAe.out).mono ?_; rintro e w' ⟨rfl, hb'⟩; rw [hs.out]; replace hb' := hb.trans (hb'.mono hb.size))
          go_roundw
          case rel => exact ⟨k + 1, by go_num, by omega, by rw [hts.out, allAl_snoc, hor.out], by rw [hts.out, List.all_append, hok.out]; simp [hs.out], hb'⟩
          case measure => simp [intOf]; omega
      · replace hok := hid hok
        go_wp2
        go_ret
        exact ⟨ret_int (by have := hok.out; rw [List.take_of_length_le (by omega)] at this; unfold partsAl; rw [hp.out, if_pos this, List.take_of_length_le (by omega)]), hb⟩
  · have hfin : Hid (partsAl ss = -1) := hid (by
      unfold partsAl partsOk
      rw [decide_eq_false h13]
      rfl)
    go_enter Try.func7, Try.ntmps7
    go_wp2
    all_goals
      go_ret
      exact ⟨by rw [hfin.out]; rfl, Below.refl _ _⟩

theorem partsAl_neg (ss : List Sy) : partsAl ss < 0 ∧ partsOk ss = false ∨ 0 ≤ partsAl ss ∧ partsOk ss = true := by
  unfold partsAl
  cases h : partsOk ss
  · exact .inl ⟨by simp, rfl⟩
  · refine .inr ⟨?_, rfl⟩
    rw [if_pos rfl]
    refine (allAl_range ss ?_).1
    unfold partsOk at h
    rw [Bool.and_eq_true] at h
    exact h.2

set_option maxHeartbeats 1000000 in
theorem specSharedLetters_any (ss : List Sy) (A : Option Addr) (c : Nat) (w : World) (hl : ss.length ≤ c) (hc : c ≤ 9223372036854775807) (hr : SysAt w w.heap.size A ss) :
    Calls Try.prog 10 #[.slice A ss.length c] w fun e w' => e = .returned (.int .i64 (partsShared ss)) ∧ Below w.heap.size w w' := by
  replace hr := hid hr
  rcases partsAl_neg ss with ⟨hn, hp⟩ | ⟨hn, hp⟩
  · replace hp := hid hp
    go_enter Try.func10, Try.ntmps10
    go_wp2_with (go_at_call 7; refine (specPartsAlphabet_any ss A c w hl hc hr.out).mono ?_; rintro e w' ⟨rfl, hb⟩)
    go_ret
    exact ⟨ret_int (by unfold partsShared; rw [hp.out]; rfl), hb⟩
  · have hall : ss.all sysOk = true := by unfold partsOk at hp; rw [Bool.and_eq_true] at hp; exact hp.2
    replace hp := hid hp
    replace hall := hid hall
    go_enter Try.func10, Try.ntmps10
    go_wp2_with (go_at_call 7; refine (specPartsAlphabet_any ss A c w hl hc hr.out).mono ?_; rintro e w' ⟨rfl, hb0⟩)
    go_loopw [3, 4] (fun sh i wr => ∃ k : Nat, i = .int .i64 k ∧ k ≤ ss.length ∧ sh = .int .i64 (sharedAl (ss.take k)) ∧ Below w.heap.size w wr) (fun _ i _ => ss.length - (intOf i).toNat)
    case atStart => exact ⟨0, rfl, by omega, rfl, hb0⟩
    case round =>
      obtain ⟨k, rfl, hk, rfl, hb⟩ := hrel
      by_cases hlt : k < ss.length
      · obtain ⟨b, o, hA, hB, hE⟩ := hr.out (by omega)
        subst hA
        have c0 : ∀ w', Below w.heap.size w w' → w'.cell? ⟨b, o + k * 3, none⟩ = some (.int .i64 ss[k].al) := fun w' hw => by rw [hw.cell (by simpa using hB)]; exact (hE k hlt).1
        have hts := hid (take_snoc ss k hlt)
        have hrs := sharedAl_range _ (all_take _ _ k hall.out)
        have hs : sysOk ss[k] = true := List.all_eq_true.1 hall.out _ (List.getElem_mem _)
        have hal := sysOk_alpha hs
        replace hs := hid hs
        replace hE := hid hE
        go_wp2
        obtain ⟨wo, rfl⟩ : ∃ wo : World, wo = wr := ⟨_, rfl⟩
        go_loopw [3, 5] (fun sh i wr => ∃ j : Nat, i = .int .i64 j ∧ j ≤ k ∧ sh = .int .i64 (orB (sharedAl (ss.take k)) (andB ss[k].al (allAl (ss.take j)))) ∧ Below w.heap.size w wr) (fun _ i _ => k - (intOf i).toNat)
        case atStart => exact ⟨0, rfl, by omega, by rw [show allAl (ss.take 0) = 0 from rfl, andB_zero, orB_zero (by omega)], hb⟩
        case round =>
          obtain ⟨j, rfl, hj, rfl, hb1⟩ := hrel
          by_cases hjk : j < k
          · have d0 : ∀ w', Below w.heap.size w w' → w'.cell? ⟨b, o + j * 3, none⟩ = some (.int .i64 ss[j].al) := fun w' hw => by rw [hw.cell (by simpa using hB)]; exact (hE.out j (by omega)).1
            have hsj : sysOk ss[j] = true := List.all_eq_true.1 hall.out _ (List.getElem_mem _)
            have hal2 := sysOk_alpha hsj
            have htj := hid (take_snoc ss j (by omega))
            have hrj := allAl_range _ (all_take _ _ j hall.out)
            have h1 := andB_range (a := ss[k].al) hrj
            have h2 := orB_range hrs h1
            have h3 := andB_range (a := ss[k].al) hal2
            have han := hid (bits_and (a := ss[k].al) (b := ss[j].al) (by omega) (by omega))
            have hor := hid (bits_or (a := orB (sharedAl (ss.take k)) (andB ss[k].al (allAl (ss.take j)))) (b := andB ss[k].al ss[j].al) (by omega) (by omega))
            replace hsj := hid hsj
            go_wp2
            refine wp_region_fam w.heap.size w (by kernel_rfl) (by kernel_rfl) hb1 ?_
            have f0 := fun x => c0 _ (Fam.below _ _ x)
            have f1 := fun x => d0 _ (Fam.below _ _ x)
            (repeat (go_big_quiet_step (fail)))
            refine wpQuiet_nil ?_
            intro w2 hw2
            replace hw2 := Fam.out hw2
            go_wp2
            go_roundw
            case rel => exact ⟨j + 1, by go_num, by omega, by rw [htj.out, allAl_snoc, andB_orB, ← orB_assoc, han.out, hor.out], hw2⟩
            case measure => simp [intOf]; omega
          · obtain rfl : j = k := by omega
            go_wp2
            go_roundw
            case rel => exact ⟨j + 1, by go_num, by omega, by rw [hts.out, sharedAl_snoc, andB_comm], hb1⟩
            case measure => simp [intOf]; omega
      · go_wp2
        go_ret
        exact ⟨ret_int (by unfold partsShared; rw [hp.out, if_pos rfl, List.take_of_length_le (by omega)]), hb⟩

end Go.Proofs.Ytbomhfbiaedbiaa
