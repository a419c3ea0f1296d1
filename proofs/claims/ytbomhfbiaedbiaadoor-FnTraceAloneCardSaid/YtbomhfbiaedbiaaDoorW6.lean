/- Alphabets of lists of systems: both PartsAlphabet and SharedLetters. -/
import Derived.Test.YtbomhfbiaedbiaaDoorW5
import Derived.Test.YtbomhfbiaedbiaaDoorW2
namespace Go.Proofs.YtbomhfbiaedbiaaDoor
open Go.RowKit Go.BigFrame AG

set_option maxHeartbeats 1000000 in
theorem implPartsAlphabet_any (ss : List Sy) (A : Option Addr) (c : Nat) (w : World) (hl : ss.length ≤ c) (hc : c ≤ 9223372036854775807) (hr : SysAt w w.heap.size A ss) :
    Calls Tryd.prog 47 #[.slice A ss.length c] w fun e w' => e = .returned (.int .i64 (partsAl ss)) ∧ Below w.heap.size w w' := by
  replace hr := hid hr
  cases hp : partsOk ss
  · replace hp := hid hp
    go_enter Tryd.func47, Tryd.ntmps47
    go_wp2_with (go_at_call 45; refine (areParts_any ss A c w hl hc hr.out).mono ?_; rintro e w' ⟨rfl, hb⟩; rw [hp.out])
    go_ret
    exact ⟨ret_int (by unfold partsAl; rw [hp.out]; rfl), hb⟩
  · have hall : ss.all sysOk = true := by unfold partsOk at hp; rw [Bool.and_eq_true] at hp; exact hp.2
    replace hp := hid hp
    replace hall := hid hall
    go_enter Tryd.func47, Tryd.ntmps47
    go_wp2_with (go_at_call 45; refine (areParts_any ss A c w hl hc hr.out).mono ?_; rintro e w' ⟨rfl, hb0⟩; rw [hp.out])
    go_loopw [3, 11] (fun a i wr => ∃ k : Nat, i = .int .i64 k ∧ k ≤ ss.length ∧ a = .int .i64 (allAl (ss.take k)) ∧ Below w.heap.size w wr) (fun _ i _ => ss.length - (intOf i).toNat)
    case atStart => exact ⟨0, rfl, by omega, rfl, hb0⟩
    case round =>
      obtain ⟨k, rfl, hk, rfl, hb⟩ := hrel
      by_cases hlt : k < ss.length
      · obtain ⟨b, o, Ai, ci, rfl, hB, c0, c1, c2, hAl, hAc, hAe⟩ := hr.out.get hlt
        have hzr := hb.size
        have hts := hid (take_snoc ss k hlt)
        have hrg := allAl_range _ (all_take _ _ k hall.out)
        have hs : sysOk ss[k] = true := List.all_eq_true.1 hall.out _ (List.getElem_mem _)
        have hal := sysOk_alpha hs
        have hor := hid (bits_or (a := allAl (ss.take k)) (b := ss[k].al) (by omega) (by omega))
        replace hs := hid hs
        replace hAe := hid hAe
        go_wp2
        go_roundw
        case rel => exact ⟨k + 1, by go_num, by omega, by rw [hts.out, allAl_snoc, hor.out], by (repeat (first | exact Below.refl _ _ | assumption | refine Below.drew ?_ | refine Below.alloc ?_ (by first | omega | (simp; done) | (simp; omega)) _ | refine Below.setCell ?_ (by first | omega | (simp; done) | (simp; omega)) _))⟩
        case measure => simp [intOf]; omega
      · go_wp2
        go_ret
        exact ⟨ret_int (by unfold partsAl; rw [hp.out, if_pos rfl, List.take_of_length_le (by omega)]), hb⟩


set_option maxHeartbeats 1000000 in
theorem specPartsAlphabet_any (ss : List Sy) (A : Option Addr) (c : Nat) (w : World) (_hl : ss.length ≤ c) (_hc : c ≤ 9223372036854775807) (hr : SysAt w w.heap.size A ss) :
    Calls Tryd.prog 42 #[.slice A ss.length c] w fun e w' => e = .returned (.int .i64 (partsAl ss)) ∧ Below w.heap.size w w' := by
  replace hr := hid hr
  by_cases h13 : 1 ≤ ss.length ∧ ss.length ≤ 3
  · obtain ⟨h1, h3⟩ := h13
    have hp : partsOk ss = ss.all sysOk := by unfold partsOk; rw [decide_eq_true ⟨h1, h3⟩]; rfl
    replace hp := hid hp
    go_enter Tryd.func42, Tryd.ntmps42
    go_wp2_with fail
    go_loopw [3, 4] (fun a i wr => ∃ k : Nat, i = .int .i64 k ∧ k ≤ ss.length ∧ a = .int .i64 (allAl (ss.take k)) ∧ (ss.take k).all sysOk = true ∧ Below w.heap.size w wr) (fun _ i _ => ss.length - (intOf i).toNat)
    case atStart => exact ⟨0, rfl, by omega, rfl, by simp, Below.refl _ _⟩
    case round =>
      obtain ⟨k, rfl, hk, rfl, hok, hb⟩ := hrel
      have hrg := allAl_range _ hok
      by_cases hlt : k < ss.length
      · obtain ⟨b, o, Ai, ci, rfl, hB, c0, c1, c2, hAl, hAc, hAe⟩ := hr.out.get hlt
        have hts := hid (take_snoc ss k hlt)
        have hAe' : EdsAt wr wr.heap.size Ai ss[k].es := (hAe.keep hb).more hb.size
        replace hAe := hid hAe'
        clear hAe'
        replace hok := hid hok
        cases hs : sysOk ss[k]
        · have hfin : Hid (partsAl ss = -1) := hid (by
            unfold partsAl
            rw [hp.out, if_neg]
            rw [List.all_eq_true]
            intro h
            have := h ss[k] (List.getElem_mem _)
            rw [hs] at this
            cases this)
          replace hs := hid hs
          go_wp2_with (go_at_call 69; refine (specSystemValid_any ss[k] Ai ci _ hAl hAc hAe.out).mono ?_; rintro e w' ⟨rfl, hb'⟩; rw [hs.out])
          go_ret
          exact ⟨by rw [hfin.out]; rfl, hb.trans (hb'.mono hb.size)⟩
        · have hal := sysOk_alpha hs
          have hor := hid (bits_or (a := allAl (ss.take k)) (b := ss[k].al) (by omega) (by omega))
          replace hs := hid hs
          go_wp2_with (go_at_call 69; refine (specSystemValid_any ss[k] Ai ci _ hAl hAc hAe.out).mono ?_; rintro e w' ⟨rfl, hb'⟩; rw [hs.out]; replace hb' := hb.trans (hb'.mono hb.size))
          go_roundw
          case rel => exact ⟨k + 1, by go_num, by omega, by rw [hts.out, allAl_snoc, hor.out], by rw [hts.out, List.all_append, hok.out]; simp [hs.out], hb'⟩
          case measure => simp [intOf]; omega
      · replace hok := hid hok
        go_wp2
        go_ret
        exact ⟨ret_int (by have := hok.out; rw [List.take_of_length_le (by omega)] at this; unfold partsAl; rw [hp.out, if_pos this, List.take_of_length_le (by omega)]), hb⟩
  · have hfin : Hid (partsAl ss = -1) := hid (by
      unfold partsAl partsOk
      rw [decide_eq_false h13]
      rfl)
    go_enter Tryd.func42, Tryd.ntmps42
    go_wp2
    all_goals
      go_ret
      exact ⟨by rw [hfin.out]; rfl, Below.refl _ _⟩

theorem partsAl_neg (ss : List Sy) : partsAl ss < 0 ∧ partsOk ss = false ∨ 0 ≤ partsAl ss ∧ partsOk ss = true := by
  unfold partsAl
  cases h : partsOk ss
  · exact .inl ⟨by simp, rfl⟩
  · refine .inr ⟨?_, rfl⟩
    rw [if_pos rfl]
    refine (allAl_range ss ?_).1
    unfold partsOk at h
    rw [Bool.and_eq_true] at h
    exact h.2


end Go.Proofs.YtbomhfbiaedbiaaDoor
