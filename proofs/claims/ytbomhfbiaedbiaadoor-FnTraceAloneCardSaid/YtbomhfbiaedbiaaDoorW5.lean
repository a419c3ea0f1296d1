/- Lists of systems: the program's areParts. -/
import Derived.Test.YtbomhfbiaedbiaaDoorW4
namespace Go.Proofs.YtbomhfbiaedbiaaDoor
open Go.RowKit Go.BigFrame AG

set_option maxHeartbeats 400000 in
theorem areParts1_any (s : Sy) (A : Option Addr) (c : Nat) (w : World) (hl : s.es.length ≤ c) (hc : c ≤ 9223372036854775807) (hr : EdsAt w w.heap.size A s.es) :
    Calls Tryd.prog 104 #[s.val A c] w fun e w' => e = .returned (.bool (!sysOk s)) ∧ Below w.heap.size w w' := by
  unfold Sy.val
  go_enter Tryd.func104, Tryd.ntmps104
  go_wp2_with fail
  obtain ⟨w0, hw0, hz0, hB0, hS0, hS1, hS2⟩ := boxed3 w (Value.int IntKind.i64 s.al) (Value.int IntKind.i64 s.st) (Value.slice A s.es.length c) 36
  rw [hw0]
  have hr0 := hid ((hr.keep hB0).more (show w.heap.size ≤ w0.heap.size by omega))
  refine (implSystemValid_any s A c w0 hl hc hr0.out).mono ?_
  rintro e w1 ⟨rfl, hb1⟩
  go_wp2
  go_ret
  exact ⟨rfl, hB0.trans (hb1.mono (by omega))⟩

set_option maxHeartbeats 1000000 in
theorem indexFuncSys_any (ss : List Sy) (A : Option Addr) (c : Nat) (w : World) (hl : ss.length ≤ c) (hc : c ≤ 9223372036854775807) (hr : SysAt w w.heap.size A ss) :
    Calls Tryd.prog 140 #[.slice A ss.length c, .func (.func 104) #[] #[]] w (IdxPost (!ss.all sysOk) w) := by
  go_enter Tryd.func140, Tryd.ntmps140
  go_wp2
  go_loopw [8] (fun i wr => ∃ k : Nat, i = .int .i64 k ∧ k ≤ ss.length ∧ (ss.take k).all sysOk = true ∧ Below w.heap.size w wr) (fun i _ => ss.length - (intOf i).toNat)
  case atStart => exact ⟨0, rfl, by omega, by simp, Below.refl _ _⟩
  case round =>
    obtain ⟨k, rfl, hk, hok, hb⟩ := hrel
    by_cases hlt : k < ss.length
    · obtain ⟨b, o, Ai, ci, rfl, hB, c0, c1, c2, hAl, hAc, hAe⟩ := hr.get hlt
      have hts := take_snoc ss k hlt
      have hAe' : EdsAt wr wr.heap.size Ai ss[k].es := (hAe.keep hb).more hb.size
      replace hAe' := hid hAe'
      replace hr := hid hr
      replace hok := hid hok
      replace hts := hid hts
      cases hs : sysOk ss[k]
      · replace hs := hid hs
        go_wp2_with (go_at_call 104; refine (areParts1_any ss[k] Ai ci _ hAl hAc hAe'.out).mono ?_; rintro e w' ⟨rfl, hb'⟩; rw [hs.out])
        go_ret
        refine ⟨k, rfl, ?_, hb.trans (hb'.mono hb.size)⟩
        have : ss.all sysOk = false := by
          rw [List.all_eq_false]
          exact ⟨ss[k], List.getElem_mem _, by rw [hs.out]; simp⟩
        rw [this]
        simp
      · replace hs := hid hs
        go_wp2_with (go_at_call 104; refine (areParts1_any ss[k] Ai ci _ hAl hAc hAe'.out).mono ?_; rintro e w' ⟨rfl, hb'⟩; rw [hs.out])
        go_roundw
        case rel => exact ⟨k + 1, by go_num, by omega, by rw [hts.out, List.all_append, hok.out]; simp [hs.out], hb.trans (hb'.mono hb.size)⟩
        case measure => simp [intOf]; omega
    · replace hok := hid hok
      go_wp2
      go_ret
      refine ⟨-1, rfl, ?_, hb⟩
      have : ss.all sysOk = true := by have := hok.out; rwa [List.take_of_length_le (by omega)] at this
      rw [this]
      simp

set_option maxHeartbeats 400000 in
theorem containsFuncSys_any (ss : List Sy) (A : Option Addr) (c : Nat) (w : World) (hl : ss.length ≤ c) (hc : c ≤ 9223372036854775807) (hr : SysAt w w.heap.size A ss) :
    Calls Tryd.prog 103 #[.slice A ss.length c, .func (.func 104) #[] #[]] w fun e w' => e = .returned (.bool (!ss.all sysOk)) ∧ Below w.heap.size w w' := by
  replace hr := hid hr
  go_enter Tryd.func103, Tryd.ntmps103
  go_wp2_with fail
  refine (indexFuncSys_any ss A c w hl hc hr.out).mono ?_
  rintro e w' ⟨r, rfl, hr', hb⟩
  replace hr' := hid hr'
  go_wp2
  go_ret
  exact ⟨by rw [← hr'.out]; rfl, hb⟩

set_option maxHeartbeats 400000 in
theorem areParts_any (ss : List Sy) (A : Option Addr) (c : Nat) (w : World) (hl : ss.length ≤ c) (hc : c ≤ 9223372036854775807) (hr : SysAt w w.heap.size A ss) :
    Calls Tryd.prog 45 #[.slice A ss.length c] w fun e w' => e = .returned (.bool (partsOk ss)) ∧ Below w.heap.size w w' := by
  replace hr := hid hr
  by_cases h1 : 1 ≤ ss.length
  · by_cases h3 : ss.length ≤ 3
    · go_enter Tryd.func45, Tryd.ntmps45
      go_wp2_with (refine (containsFuncSys_any ss A c w hl hc hr.out).mono ?_; rintro e w' ⟨rfl, hb⟩)
      go_ret
      exact ⟨ret_bool (by unfold partsOk; rw [decide_eq_true ⟨h1, h3⟩]; simp), hb⟩
    · go_enter Tryd.func45, Tryd.ntmps45
      go_wp2
      go_ret
      exact ⟨ret_bool (by unfold partsOk; rw [decide_eq_false (by omega)]; simp), Below.refl _ _⟩
  · go_enter Tryd.func45, Tryd.ntmps45
    go_wp2
    go_ret
    exact ⟨ret_bool (by unfold partsOk; rw [decide_eq_false (by omega)]; simp), Below.refl _ _⟩

end Go.Proofs.YtbomhfbiaedbiaaDoor
