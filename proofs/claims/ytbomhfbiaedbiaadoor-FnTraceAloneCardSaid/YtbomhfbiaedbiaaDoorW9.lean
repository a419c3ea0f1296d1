/- The reference's reached states. -/
import Derived.Test.YtbomhfbiaedbiaaDoorW2
import Derived.Test.YtbomhfbiaedbiaaDoorMathB
namespace Go.Proofs.YtbomhfbiaedbiaaDoor
open Go.RowKit Go.BigFrame AG

def boolOf : Value → Nat | .bool true => 1 | _ => 0

set_option maxHeartbeats 400000 in
theorem l1Bit_any (n : Nat) (w : World) (h : n ≤ 61) :
    Calls Tryd.prog 109 #[.int .i64 n] w fun e w' => e = .returned (.int .i64 ((2 ^ n : Nat) : Int)) ∧ w = w' := by
  go_enter Tryd.func109, Tryd.ntmps109
  go_wp2
  go_ret
  exact ⟨ret_int (wrap_pow h), rfl⟩

theorem l1Bit_int (n : Int) (w : World) (h0 : 0 ≤ n) (h : n ≤ 61) :
    Calls Tryd.prog 109 #[.int .i64 n] w fun e w' => e = .returned (.int .i64 ((2 ^ n.toNat : Nat) : Int)) ∧ w = w' := by
  obtain ⟨m, rfl⟩ := Int.eq_ofNat_of_zero_le h0
  exact l1Bit_any m w (by omega)

set_option maxHeartbeats 400000 in
theorem l1Has_nat (S n : Nat) (w : World) (h1 : n ≤ 63) :
    Calls Tryd.prog 101 #[.int .i64 S, .int .i64 n] w fun e w' => e = .returned (.bool (S.testBit n)) ∧ w = w' := by
  have := l1Has_any S n w (by omega) (by omega)
  rw [Int.toNat_natCast, Has_nat] at this
  exact this

set_option maxHeartbeats 1000000 in
theorem l2Reach_any (s : Sy) (A : Option Addr) (c : Nat) (S : Nat) (al : Int) (w : World) (hs : edgesIn s) (hS : S < 65536) (hl : s.es.length ≤ c) (hc : c ≤ 9223372036854775807) (hr : EdsAt w w.heap.size A s.es) :
    Calls Tryd.prog 118 #[s.val A c, .int .i64 S, .int .i64 al] w fun e w' => e = .returned (.int .i64 (reachSet s al S : Nat)) ∧ Below w.heap.size w w' := by
  unfold Sy.val
  replace hr := hid hr
  replace hs := hid hs
  go_enter Tryd.func118, Tryd.ntmps118
  go_wp2_with fail
  obtain ⟨w0, hw0, hz0, hB0, hS0, hS1, hS2⟩ := boxed3 w (Value.int IntKind.i64 s.al) (Value.int IntKind.i64 s.st) (Value.slice A s.es.length c) 36
  rw [hw0]
  clear hw0
  go_loopw [1, 7] (fun st m wr => ∃ (T : Nat) (T0 : Nat) (more : Bool), st = .int .i64 T ∧ m = .bool more ∧ (more = true → T < 65536 ∧ (∀ x, S.testBit x = true → T.testBit x = true) ∧ ∀ x, T.testBit x = true → Rch s al S x) ∧ (more = false → Pass s al S T0 T s.es.length false) ∧ Below (w.heap.size + 1) w0 wr) (fun st m _ => 65536 - (intOf st).toNat + boolOf m)
  case atStart => exact ⟨S, 0, true, rfl, rfl, fun _ => ⟨hS, fun _ h => h, fun _ h => Rch.start h⟩, fun h => (by cases h), Below.refl _ _⟩
  case round =>
    obtain ⟨T, T0, more, rfl, rfl, h1, h2, hb⟩ := hrel
    cases more with
    | false =>
      have hfin := hid (h2 rfl).done
      clear h1 h2
      go_wp2
      go_ret
      exact ⟨by rw [← hfin.out]; rfl, hB0.trans (hb.mono (by omega))⟩
    | true =>
      obtain ⟨hT, h3, h4⟩ := h1 rfl
      have hp := hid (Pass.start (A := al) hT h3 h4)
      clear h1 h2 h3 h4
      go_wp2
      obtain ⟨wo, rfl⟩ : ∃ wo : World, wo = wr := ⟨_, rfl⟩
      go_loopw [1, 7, 8] (fun st m i wr => ∃ (U k : Nat) (more : Bool), st = .int .i64 U ∧ m = .bool more ∧ i = .int .i64 k ∧ k ≤ s.es.length ∧ Pass s al S T U k more ∧ Below (w.heap.size + 1) w0 wr) (fun _ _ i _ => s.es.length - (intOf i).toNat)
      case atStart => exact ⟨T, 0, false, rfl, rfl, rfl, by omega, hp.out, hb⟩
      case round =>
        obtain ⟨U, k, more, rfl, rfl, rfl, hk, hps, hb1⟩ := hrel
        by_cases hlt : k < s.es.length
        · obtain ⟨b, o, rfl, hB, hE⟩ := hr.out.get hB0 (Nat.le_succ w.heap.size) hlt
          obtain ⟨e0, e1, e2⟩ := hE k hlt
          obtain ⟨f1, f2, f3, f4, f5, f6, f7, _⟩ := hs.out s.es[k] (List.getElem_mem _)
          have hU := hps.lt
          have hzr : w.heap.size + 1 ≤ wr.heap.size := Nat.le_trans hz0 hb1.size
          have hw3 := hid (bits_orN U (2 ^ s.es[k].t.toNat) (by omega) (by have := Nat.pow_lt_pow_right (a := 2) (by omega) (show s.es[k].t.toNat < 16 by omega); omega))
          replace hE := hid hE
          replace hps := hid hps
          go_wp2_with (first | (go_at_call 101; refine (l1Has_any _ _ _ (by omega) (by omega)).mono ?_; rintro e w' ⟨rfl, rfl⟩) | (go_at_call 109; refine (l1Bit_int _ _ (by omega) (by omega)).mono ?_; rintro e w' ⟨rfl, rfl⟩))
          · go_roundw
            case rel =>
              refine ⟨U ||| 2 ^ s.es[k].t.toNat, k + 1, true, ?_, rfl, by go_num, by omega, hps.out.add hs.out hlt (by assumption) (by rw [← Has_nat]; assumption) (by rw [← Has_nat]; simp_all), by (repeat (first | exact Below.refl _ _ | assumption | refine Below.drew ?_ | refine Below.alloc ?_ (by first | omega | (simp; done) | (simp; omega)) _ | refine Below.setCell ?_ (by first | omega | (simp; done) | (simp; omega)) _))⟩
              rw [← hw3.out, Int.natCast_pow]
              rfl
            case measure => simp [intOf]; omega
          all_goals
            go_roundw
            case rel => exact ⟨U, k + 1, more, rfl, rfl, by go_num, by omega, hps.out.skip hlt (by rw [← Has_nat, ← Has_nat]; simp_all), by (repeat (first | exact Below.refl _ _ | assumption | refine Below.drew ?_ | refine Below.alloc ?_ (by first | omega | (simp; done) | (simp; omega)) _ | refine Below.setCell ?_ (by first | omega | (simp; done) | (simp; omega)) _))⟩
            case measure => simp [intOf]; omega
        · obtain rfl : k = s.es.length := by omega
          replace hps := hid hps
          go_wp2
          go_roundw
          case rel =>
            refine ⟨U, T, more, rfl, rfl, fun hm => ⟨hps.out.lt, hps.out.base, hps.out.inside⟩, fun hm => ?_, hb1⟩
            subst hm
            exact hps.out
          case measure =>
            have h1 := hps.out.moved
            have h2 := hps.out.lt
            cases more with
            | true => have := h1 rfl; simp [intOf, boolOf]; omega
            | false => have := (hps.out.unmoved rfl).1; subst this; simp [intOf, boolOf]


end Go.Proofs.YtbomhfbiaedbiaaDoor
