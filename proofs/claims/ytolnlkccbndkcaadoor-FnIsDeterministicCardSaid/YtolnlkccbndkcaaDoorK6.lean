/- Lemmas, part 6: several texts in one. -/
import Derived.Test.YtolnlkccbndkcaaDoorK3
import Derived.Test.YtolnlkccbndkcaaDoorK1
import Derived.Test.YtolnlkccbndkcaaDoorK5
import Derived.Test.YtolnlkccbndkcaaDoorK4
import Derived.Test.YtolnlkccbndkcaaDoorK2
set_option linter.unusedSimpArgs false
set_option linter.unusedVariables false

/- The reference's SystemValid returns sysOk. -/
namespace Go.Proofs.YtolnlkccbndkcaaDoor
open Go.RowKit Go.BigFrame AG

attribute [local go_sem] Fam.below

set_option maxHeartbeats 1000000 in
theorem specSystemValid_any (s : Sy) (A : Option Addr) (c : Nat) (w : World) (hl : s.es.length ≤ c) (hc : c ≤ 9223372036854775807) (hr : EdsAt w w.heap.size A s.es) :
    Calls Tryd.prog 107 #[s.val A c] w fun e w' => e = .returned (.bool (sysOk s)) ∧ Below w.heap.size w w' := by
  unfold Sy.val
  by_cases ha : alphaOk s.al = true
  · by_cases h1 : 1 ≤ s.st ∧ s.st ≤ 16
    · obtain ⟨h1, h2⟩ := h1
      go_enter Tryd.func107, Tryd.ntmps107
      go_wp2_with (go_at_call 118; refine (l1Alphabet_any _ _).mono ?_; rintro e w' ⟨rfl, rfl⟩)
      obtain ⟨w0, hw0, hz0, hB0, hS0, hS1, hS2⟩ := boxed3 w (Value.int IntKind.i64 s.al) (Value.int IntKind.i64 s.st) (Value.slice A s.es.length c) 25
      rw [hw0]
      replace hw0 := hid hw0
      go_loopw [3] (fun i wr => ∃ k : Nat, i = .int .i64 k ∧ k ≤ s.es.length ∧ edgesOkTo s.al s.st s.es k ∧ Below (w.heap.size + 1) w0 wr) (fun i _ => s.es.length - (intOf i).toNat)
      case atStart => exact ⟨0, rfl, by omega, by intro i _ h; omega, Below.refl _ _⟩
      case round =>
        obtain ⟨k, rfl, hk, hok, hb⟩ := hrel
        by_cases hlt : k < s.es.length
        · obtain ⟨b, o, rfl, hB, hE⟩ := hr.get hB0 (Nat.le_succ w.heap.size) hlt
          obtain ⟨e0, e1, e2⟩ := hE k hlt
          have hnot : ¬ edgesOkTo s.al s.st s.es (k + 1) → sysOk s = false := fun h => by
            unfold sysOk
            rw [decide_eq_false_iff_not]
            rintro ⟨_, _, _, h'⟩
            exact h fun i hi _ => h' i hi hi
          by_cases hek : edgeOk s.al s.st s.es[k] = true
          · by_cases hk0 : k = 0
            · subst hk0
              simp only [Nat.zero_mul, Nat.add_zero] at e0 e1 e2
              have hok' : edgesOkTo s.al s.st s.es (0 + 1) := fun i hi hi' => by
                obtain rfl : i = 0 := by omega
                exact ⟨hek, fun j _ h => by omega⟩
              replace hE := hid hE
              replace hr := hid hr
              replace hok := hid hok
              replace hok' := hid hok'
              replace hnot := hid hnot
              replace hek := hid hek
              go_wp2_with fail
              refine wp_region_fam _ _ (by kernel_rfl) (by kernel_rfl) hb ?_
              repeat (go_big_quiet_step ((refine (l2Edge_any _ _ s.es[0] _).mono ?_; rintro e w1 ⟨rfl, hb1⟩; exact ⟨by rw [hek.out], Fam.next hz0 hb1⟩)))
              refine wpQuiet_nil ?_
              intro w2 hw2
              replace hw2 := Fam.out hw2
              go_wp2
              go_roundw
              case rel => exact ⟨1, by go_num, by omega, hok'.out, hw2⟩
              case measure => simp [intOf]; omega
            · obtain ⟨j, rfl⟩ : ∃ j, k = j + 1 := ⟨k - 1, by omega⟩
              obtain ⟨p0, p1, p2⟩ := hE j (by omega)
              replace hE := hid hE
              replace hr := hid hr
              have hyes : edgeLt s.es[j] s.es[j + 1] = true → edgesOkTo s.al s.st s.es (j + 1 + 1) := fun h i hi hi' => by
                by_cases e : i = j + 1
                · subst e
                  exact ⟨hek, fun m hm e => by obtain rfl : m = j := by omega
                                               exact h⟩
                · exact hok i hi (by omega)
              cases hlt' : edgeLt s.es[j] s.es[j + 1]
              all_goals
                replace hok := hid hok
                replace hnot := hid hnot
                replace hyes := hid hyes
                replace hek := hid hek
                replace hlt' := hid hlt'
                go_wp2_with fail
                refine wp_region_fam _ _ (by kernel_rfl) (by kernel_rfl) hb ?_
                repeat (go_big_quiet_step (first | (go_at_call 164; refine (l2Edge_any _ _ s.es[j + 1] _).mono ?_; rintro e w1 ⟨rfl, hb1⟩; exact ⟨by rw [hek.out], Fam.next hz0 hb1⟩) | (go_at_call 165; refine (l2Before_any s.es[j] s.es[j + 1] _).mono ?_; rintro e w1 ⟨rfl, hb1⟩; exact ⟨by rw [hlt'.out], Fam.next hz0 hb1⟩)))
                refine wpQuiet_nil ?_
                intro w2 hw2
                replace hw2 := Fam.out hw2
                go_wp2
              · go_ret
                have hfin := hnot.out fun h => by have := (h (j + 1) hlt (by omega)).2 j (by omega) rfl; rw [hlt'.out] at this; cases this
                exact ⟨by rw [hfin]; rfl, hB0.trans (hw2.mono (by omega))⟩
              · go_roundw
                case rel => exact ⟨j + 1 + 1, by go_num, by omega, hyes.out hlt'.out, hw2⟩
                case measure => simp [intOf]; omega
          · replace hE := hid hE
            replace hr := hid hr
            replace hok := hid hok
            replace hek : edgeOk s.al s.st s.es[k] = false := by simpa using hek
            have hfin := hid (hnot fun h => by have := (h k hlt (by omega)).1; rw [this] at hek; cases hek)
            clear hnot
            replace hek := hid hek
            go_wp2_with fail
            refine wp_region_fam _ _ (by kernel_rfl) (by kernel_rfl) hb ?_
            repeat (go_big_quiet_step ((refine (l2Edge_any _ _ s.es[k] _).mono ?_; rintro e w1 ⟨rfl, hb1⟩; exact ⟨by rw [hek.out], Fam.next hz0 hb1⟩)))
            refine wpQuiet_nil ?_
            intro w2 hw2
            replace hw2 := Fam.out hw2
            go_wp2
            go_ret
            exact ⟨by rw [hfin.out]; rfl, hB0.trans (hw2.mono (by omega))⟩
        · have hfin : Hid (sysOk s = true) := hid (by
            unfold sysOk
            rw [decide_eq_true_iff]
            exact ⟨ha, h1, h2, fun i hi hi' => hok i hi (by omega)⟩)
          replace hok := hid hok
          go_wp2
          go_ret
          exact ⟨by rw [hfin.out]; rfl, hB0.trans (hb.mono (by omega))⟩
    · have hfin : Hid (sysOk s = false) := hid (by
        unfold sysOk
        rw [decide_eq_false_iff_not]
        rintro ⟨_, h2, h3, _⟩
        omega)
      go_enter Tryd.func107, Tryd.ntmps107
      go_wp2_with (go_at_call 118; refine (l1Alphabet_any _ _).mono ?_; rintro e w' ⟨rfl, rfl⟩)
      all_goals
        go_ret
        exact ⟨by rw [hfin.out]; rfl, by (repeat (first | exact Below.refl _ _ | assumption | refine Below.drew ?_ | refine Below.alloc ?_ (by first | omega | (simp; done) | (simp; omega)) _ | refine Below.setCell ?_ (by first | omega | (simp; done) | (simp; omega)) _))⟩
  · have hfin : Hid (sysOk s = false) := hid (by
      unfold sysOk
      rw [decide_eq_false_iff_not]
      rintro ⟨h, _⟩
      exact ha h)
    go_enter Tryd.func107, Tryd.ntmps107
    go_wp2_with (go_at_call 118; refine (l1Alphabet_any _ _).mono ?_; rintro e w' ⟨rfl, rfl⟩)
    all_goals
      go_ret
      exact ⟨by rw [hfin.out]; rfl, by (repeat (first | exact Below.refl _ _ | assumption | refine Below.drew ?_ | refine Below.alloc ?_ (by first | omega | (simp; done) | (simp; omega)) _ | refine Below.setCell ?_ (by first | omega | (simp; done) | (simp; omega)) _))⟩

end Go.Proofs.YtolnlkccbndkcaaDoor

/- The reference's reached states. -/
namespace Go.Proofs.YtolnlkccbndkcaaDoor
open Go.RowKit Go.BigFrame AG

def boolOf : Value → Nat | .bool true => 1 | _ => 0

set_option maxHeartbeats 400000 in
theorem l1Bit_any (n : Nat) (w : World) (h : n ≤ 61) :
    Calls Tryd.prog 145 #[.int .i64 n] w fun e w' => e = .returned (.int .i64 ((2 ^ n : Nat) : Int)) ∧ w = w' := by
  go_enter Tryd.func145, Tryd.ntmps145
  go_wp2
  go_ret
  exact ⟨ret_int (wrap_pow h), rfl⟩

theorem l1Bit_int (n : Int) (w : World) (h0 : 0 ≤ n) (h : n ≤ 61) :
    Calls Tryd.prog 145 #[.int .i64 n] w fun e w' => e = .returned (.int .i64 ((2 ^ n.toNat : Nat) : Int)) ∧ w = w' := by
  obtain ⟨m, rfl⟩ := Int.eq_ofNat_of_zero_le h0
  exact l1Bit_any m w (by omega)

set_option maxHeartbeats 400000 in
theorem l1Has_nat (S n : Nat) (w : World) (h1 : n ≤ 63) :
    Calls Tryd.prog 106 #[.int .i64 S, .int .i64 n] w fun e w' => e = .returned (.bool (S.testBit n)) ∧ w = w' := by
  have := l1Has_any S n w (by omega) (by omega)
  rw [Int.toNat_natCast, Has_nat] at this
  exact this

set_option maxHeartbeats 1000000 in
theorem l2Reach_any (s : Sy) (A : Option Addr) (c : Nat) (S : Nat) (al : Int) (w : World) (hs : edgesIn s) (hS : S < 65536) (hl : s.es.length ≤ c) (hc : c ≤ 9223372036854775807) (hr : EdsAt w w.heap.size A s.es) :
    Calls Tryd.prog 163 #[s.val A c, .int .i64 S, .int .i64 al] w fun e w' => e = .returned (.int .i64 (reachSet s al S : Nat)) ∧ Below w.heap.size w w' := by
  unfold Sy.val
  replace hr := hid hr
  replace hs := hid hs
  go_enter Tryd.func163, Tryd.ntmps163
  go_wp2_with fail
  obtain ⟨w0, hw0, hz0, hB0, hS0, hS1, hS2⟩ := boxed3 w (Value.int IntKind.i64 s.al) (Value.int IntKind.i64 s.st) (Value.slice A s.es.length c) 25
  rw [hw0]
  clear hw0
  go_loopw [1, 7] (fun st m wr => ∃ (T : Nat) (T0 : Nat) (more : Bool), st = .int .i64 T ∧ m = .bool more ∧ (more = true → T < 65536 ∧ (∀ x, S.testBit x = true → T.testBit x = true) ∧ ∀ x, T.testBit x = true → Rch s al S x) ∧ (more = false → Pass s al S T0 T s.es.length false) ∧ Below (w.heap.size + 1) w0 wr) (fun st m _ => 65536 - (intOf st).toNat + boolOf m)
  case atStart => exact ⟨S, 0, true, rfl, rfl, fun _ => ⟨hS, fun _ h => h, fun _ h => Rch.start h⟩, fun h => (by cases h), Below.refl _ _⟩
  case round =>
    obtain ⟨T, T0, more, rfl, rfl, h1, h2, hb⟩ := hrel
    cases more with
    | false =>
      have hfin := hid (h2 rfl).done
      clear h1 h2
      go_wp2
      go_ret
      exact ⟨by rw [← hfin.out]; rfl, hB0.trans (hb.mono (by omega))⟩
    | true =>
      obtain ⟨hT, h3, h4⟩ := h1 rfl
      have hp := hid (Pass.start (A := al) hT h3 h4)
      clear h1 h2 h3 h4
      go_wp2
      obtain ⟨wo, rfl⟩ : ∃ wo : World, wo = wr := ⟨_, rfl⟩
      go_loopw [1, 7, 8] (fun st m i wr => ∃ (U k : Nat) (more : Bool), st = .int .i64 U ∧ m = .bool more ∧ i = .int .i64 k ∧ k ≤ s.es.length ∧ Pass s al S T U k more ∧ Below (w.heap.size + 1) w0 wr) (fun _ _ i _ => s.es.length - (intOf i).toNat)
      case atStart => exact ⟨T, 0, false, rfl, rfl, rfl, by omega, hp.out, hb⟩
      case round =>
        obtain ⟨U, k, more, rfl, rfl, rfl, hk, hps, hb1⟩ := hrel
        by_cases hlt : k < s.es.length
        · obtain ⟨b, o, rfl, hB, hE⟩ := hr.out.get hB0 (Nat.le_succ w.heap.size) hlt
          obtain ⟨e0, e1, e2⟩ := hE k hlt
          obtain ⟨f1, f2, f3, f4, f5, f6, f7, _⟩ := hs.out s.es[k] (List.getElem_mem _)
          have hU := hps.lt
          have hzr : w.heap.size + 1 ≤ wr.heap.size := Nat.le_trans hz0 hb1.size
          have hw3 := hid (bits_orN U (2 ^ s.es[k].t.toNat) (by omega) (by have := Nat.pow_lt_pow_right (a := 2) (by omega) (show s.es[k].t.toNat < 16 by omega); omega))
          replace hE := hid hE
          replace hps := hid hps
          go_wp2_with (first | (go_at_call 106; refine (l1Has_any _ _ _ (by omega) (by omega)).mono ?_; rintro e w' ⟨rfl, rfl⟩) | (go_at_call 145; refine (l1Bit_int _ _ (by omega) (by omega)).mono ?_; rintro e w' ⟨rfl, rfl⟩))
          · go_roundw
            case rel =>
              refine ⟨U ||| 2 ^ s.es[k].t.toNat, k + 1, true, ?_, rfl, by go_num, by omega, hps.out.add hs.out hlt (by assumption) (by rw [← Has_nat]; assumption) (by rw [← Has_nat]; simp_all), by (repeat (first | exact Below.refl _ _ | assumption | refine Below.drew ?_ | refine Below.alloc ?_ (by first | omega | (simp; done) | (simp; omega)) _ | refine Below.setCell ?_ (by first | omega | (simp; done) | (simp; omega)) _))⟩
              rw [← hw3.out, Int.natCast_pow]
              rfl
            case measure => simp [intOf]; omega
          all_goals
            go_roundw
            case rel => exact ⟨U, k + 1, more, rfl, rfl, by go_num, by omega, hps.out.skip hlt (by rw [← Has_nat, ← Has_nat]; simp_all), by (repeat (first | exact Below.refl _ _ | assumption | refine Below.drew ?_ | refine Below.alloc ?_ (by first | omega | (simp; done) | (simp; omega)) _ | refine Below.setCell ?_ (by first | omega | (simp; done) | (simp; omega)) _))⟩
            case measure => simp [intOf]; omega
        · obtain rfl : k = s.es.length := by omega
          replace hps := hid hps
          go_wp2
          go_roundw
          case rel =>
            refine ⟨U, T, more, rfl, rfl, fun hm => ⟨hps.out.lt, hps.out.base, hps.out.inside⟩, fun hm => ?_, hb1⟩
            subst hm
            exact hps.out
          case measure =>
            have h1 := hps.out.moved
            have h2 := hps.out.lt
            cases more with
            | true => have := h1 rfl; simp [intOf, boolOf]; omega
            | false => have := (hps.out.unmoved rfl).1; subst this; simp [intOf, boolOf]

set_option maxHeartbeats 400000 in
theorem specReachableStates_any (s : Sy) (A : Option Addr) (c : Nat) (w : World) (hl : s.es.length ≤ c) (hc : c ≤ 9223372036854775807) (hr : EdsAt w w.heap.size A s.es) :
    Calls Tryd.prog 105 #[s.val A c] w fun e w' => e = .returned (.int .i64 (if sysOk s then reachAll s else 0 : Nat)) ∧ Below w.heap.size w w' := by
  unfold Sy.val
  replace hr := hid hr
  cases hok : sysOk s
  all_goals
    replace hok := hid hok
    go_enter Tryd.func105, Tryd.ntmps105
    go_wp2_with fail
    obtain ⟨w0, hw0, hz0, hB0, hS0, hS1, hS2⟩ := boxed3 w (Value.int IntKind.i64 s.al) (Value.int IntKind.i64 s.st) (Value.slice A s.es.length c) 25
    rw [hw0]
    clear hw0
    have hr0 := hid ((hr.out.keep hB0).more (show w.heap.size ≤ w0.heap.size by omega))
    refine (specSystemValid_any s A c w0 hl hc hr0.out).mono ?_
    rintro e w1 ⟨rfl, hb1⟩
    rw [hok.out]
    have hB1 : Below w.heap.size w w1 := hB0.trans (hb1.mono (by omega))
    have hb1' := hb1.mono hz0
  · go_wp2
    go_ret
    exact ⟨rfl, hB1⟩
  · have hr1 := hid (hr0.out.later hb1)
    go_wp2_with (refine (l2Reach_any s A c 1 s.al w1 (sysOk_in hok.out) (by omega) hl hc hr1.out).mono ?_; rintro e w2 ⟨rfl, hb2⟩)
    go_ret
    exact ⟨rfl, hB1.trans (hb2.mono hB1.size)⟩

end Go.Proofs.YtolnlkccbndkcaaDoor

/- Words: the reference's WordValid, AlphabetOf, WordWithin; the program's WordWithin. -/
namespace Go.Proofs.YtolnlkccbndkcaaDoor
open Go.RowKit Go.BigFrame AG

set_option maxRecDepth 100000 in
set_option maxHeartbeats 1000000 in
theorem implWordWithin_any (s : ByteArray) (al : Int) (w : World) (hz : s.size ≤ 9223372036854775807) :
    Calls Tryd.prog 109 #[.string s, .int .i64 al] w fun e w' => e = .returned (.bool (within s al)) ∧ w = w' := by
  cases hal : alphaOk al
  · have hfin : Hid (within s al = false) := hid (by unfold within; exact decide_eq_false (fun h => by rw [hal] at h; cases h.1))
    replace hal := hid hal
    go_enter Tryd.func109, Tryd.ntmps109
    go_wp2_with (go_at_call 94; refine (isAlphabet_any al _).mono ?_; rintro e w' ⟨rfl, rfl⟩; rw [hal.out])
    go_ret
    exact ⟨ret_bool (by rw [hfin.out]), rfl⟩
  · have hal2 := hid hal
    replace hal := hid hal
    by_cases hs : s.size ≤ 50000
    · go_enter Tryd.func109, Tryd.ntmps109
      go_wp2_with (go_at_call 94; refine (isAlphabet_any al _).mono ?_; rintro e w' ⟨rfl, rfl⟩; rw [hal.out])
      go_loopw [16] (fun i wr => ∃ k : Nat, i = .int .i64 k ∧ k ≤ s.size ∧ (∀ j, j < k → HasZ al (ltr s j) = true) ∧ w = wr) (fun i _ => s.size - (intOf i).toNat)
      case atStart => exact ⟨0, rfl, by omega, fun j h => by omega, rfl⟩
      case round =>
        obtain ⟨k, rfl, hk, hall, rfl⟩ := hrel
        replace hall := hid hall
        by_cases hlt : k < s.size
        · have h63 : ltr s k ≤ 63 := by unfold ltr lOk; split; rename_i h; have := of_decide_eq_true h; omega; omega
          cases hh : HasZ al (ltr s k)
          · have hfin : Hid (within s al = false) := hid (by unfold within; exact decide_eq_false (fun h => by have := h.2.2 k hlt; rw [hh] at this; cases this))
            replace hh := hid hh
            go_wp2_with (first
              | (go_at_call 110; refine (letterAt_any s k _ hlt).mono ?_; rintro e w' ⟨rfl, rfl⟩)
              | (go_at_call 98; refine (has_any al _ _ h63).mono ?_; rintro e w' ⟨rfl, rfl⟩; rw [hh.out]))
            go_ret
            exact ⟨ret_bool (by rw [hfin.out]), rfl⟩
          · replace hh := hid hh
            go_wp2_with (first
              | (go_at_call 110; refine (letterAt_any s k _ hlt).mono ?_; rintro e w' ⟨rfl, rfl⟩)
              | (go_at_call 98; refine (has_any al _ _ h63).mono ?_; rintro e w' ⟨rfl, rfl⟩; rw [hh.out]))
            go_roundw
            case rel => exact ⟨k + 1, by go_num, by omega, fun j hj => by by_cases e : j = k; exact e ▸ hh.out; exact hall.out j (by omega), by first | trivial | rfl⟩
            case measure => simp [intOf]; omega
        · go_wp2
          go_ret
          exact ⟨ret_bool (by unfold within; exact (decide_eq_true ⟨hal2.out, hs, fun i hi => hall.out i (by omega)⟩).symm), rfl⟩
    · have hfin : Hid (within s al = false) := hid (by unfold within; exact decide_eq_false (fun h => hs h.2.1))
      go_enter Tryd.func109, Tryd.ntmps109
      go_wp2_with (go_at_call 94; refine (isAlphabet_any al _).mono ?_; rintro e w' ⟨rfl, rfl⟩; rw [hal.out])
      go_ret
      exact ⟨ret_bool (by rw [hfin.out]), rfl⟩

end Go.Proofs.YtolnlkccbndkcaaDoor

/- The program's StateAfter and AcceptsWord. -/
namespace AG

/-- The state behind the first k letters of a word. -/
def autTo (a : Au) (x : ByteArray) : Nat → Nat
  | 0 => 0
  | k + 1 => goA a (autTo a x k) (lz x k).toNat
def stA (a : Au) (x : ByteArray) : Int := if (auOk a && within x a.al) = true then (autTo a x x.size : Nat) else -1
def accB (a : Au) (x : ByteArray) : Bool := (auOk a && within x a.al) && a.ac.getD (autTo a x x.size) false

end AG
namespace Go.Proofs.YtolnlkccbndkcaaDoor
open Go.RowKit Go.BigFrame AG

theorem goA_lt {a : Au} (h : auOk a = true) {q l : Nat} (hq : q < a.nx.length) : goA a q l < a.nx.length := by
  unfold goA
  split
  · rename_i hl
    have hr := ((auOk_iff a).1 h).2.2.2.2 a.nx[q] (List.getElem_mem _)
    have hg : a.nx.getD q [] = a.nx[q] := by rw [List.getD_eq_getElem?_getD, List.getElem?_eq_getElem hq]; rfl
    have hk : (letters a.al).idxOf l < (a.nx[q]).length := by rw [hr.1]; exact List.idxOf_lt_length_iff.2 hl
    have : (a.nx[q]).getD ((letters a.al).idxOf l) 0 = (a.nx[q])[(letters a.al).idxOf l] := by rw [List.getD_eq_getElem?_getD, List.getElem?_eq_getElem hk]; rfl
    rw [hg, this]
    have := hr.2 _ (List.getElem_mem hk)
    omega
  · exact hq
theorem autTo_lt {a : Au} (h : auOk a = true) (x : ByteArray) : ∀ k, autTo a x k < a.nx.length
  | 0 => by have := ((auOk_iff a).1 h).2.1; show 0 < _; omega
  | k + 1 => goA_lt h (autTo_lt h x k)

set_option maxRecDepth 100000 in
set_option maxHeartbeats 8000000 in
theorem implStateAfter_any (a : Au) (A B : Option Addr) (c d : Nat) (x : ByteArray) (w : World) (hz : x.size ≤ 9223372036854775807) (ha : AuAt w A c B d a) :
    Calls Tryd.prog 92 #[a.val A c B d, .string x] w fun e w' => e = .returned (.int .i64 (stA a x)) ∧ Below w.heap.size w w' := by
  obtain ⟨w0, hw0, hz0, hB0, hS⟩ := boxed w #[Value.int IntKind.i64 a.al, Value.slice A a.nx.length c, Value.slice B a.ac.length d] 32
  have ha0 := hid (ha.later hB0)
  have p0 := hS 0 _ rfl _ (Below.refl _ _)
  have p1 := hS 1 _ rfl _ (Below.refl _ _)
  have p2 := hS 2 _ rfl _ (Below.refl _ _)
  replace ha := hid ha
  unfold AG.Au.val
  go_enter Tryd.func92, Tryd.ntmps92
  go_wp2_with fail
  refine (implAutomatonValid_any a A B c d w0 ha0.out).mono ?_
  rintro e w1 ⟨rfl, hb1⟩
  have hB1 := hB0.trans (hb1.mono hB0.size)
  have hC1 := hb1.mono hz0
  clear p0 p1 p2
  have p0 := hS 0 _ rfl _ hC1
  have p1 := hS 1 _ rfl _ hC1
  have p2 := hS 2 _ rfl _ hC1
  cases hok : auOk a
  case false =>
    have hno : Hid (stA a x = -1) := hid (by unfold stA; rw [hok]; rfl)
    replace hok := hid hok
    go_wp2
    go_ret
    exact ⟨ret_int (by rw [hno.out]), hB1⟩
  case true =>
  have hok' := hid hok
  clear hok
  go_wp2_with fail
  refine (implWordWithin_any x a.al w1 hz).mono ?_
  rintro e w2 ⟨rfl, rfl⟩
  cases hwi : within x a.al
  case false =>
    have hno : Hid (stA a x = -1) := hid (by unfold stA; rw [hwi]; simp)
    replace hwi := hid hwi
    go_wp2
    go_ret
    exact ⟨ret_int (by rw [hno.out]), hB1⟩
  case true =>
  have hyes : Hid (stA a x = (autTo a x x.size : Nat)) := hid (by unfold stA; rw [hwi, hok'.out]; rfl)
  have hwi' := hid hwi
  have h5 := within_size hwi
  clear hwi
  have hn12 := ((auOk_iff a).1 hok'.out).2.2.1
  go_wp2_with fail
  refine (tableOf_any a A B c d w1 (by omega) (tabOk_of hok'.out) (ha0.out.later hb1)).mono ?_
  rintro e w2 ⟨g, rfl, hg, hb2⟩
  have hB2 := hB1.trans (hb2.mono hB1.size)
  clear p0 p1 p2
  replace hg := hid hg
  go_wp2_with fail
  go_loopw [6, 22] (fun qv iv wr => ∃ k : Nat, qv = .int .i64 (autTo a x k : Nat) ∧ iv = .int .i64 (k : Nat) ∧ k ≤ x.size ∧ Below w2.heap.size w2 wr) (fun _ iv _ => x.size - (intOf iv).toNat)
  case atStart => exact ⟨0, rfl, rfl, by omega, Below.refl _ _⟩
  case round =>
    obtain ⟨k, rfl, rfl, hk, hb⟩ := hrel
    have hBr := hB2.trans (hb.mono hB2.size)
    by_cases hlt : k < x.size
    · have hlr := wordOk_at (within_word hwi'.out) hlt
      have hle := ltr_ok hlr
      obtain ⟨l, hll⟩ := Int.eq_ofNat_of_zero_le hlr.1
      have hl6 : l < 6 := by omega
      have hq := autTo_lt hok'.out x k
      obtain ⟨q, hqq⟩ : ∃ q, Hid (q = autTo a x k) := ⟨_, hid rfl⟩
      have hnx : Hid (autTo a x (k + 1) = goA a q l) := hid (by rw [autTo, hll, ← hqq.out]; rfl)
      have hle2 : Hid (ltr x k = (l : Int)) := hid (by rw [hle, hll])
      rw [← hqq.out] at hq ⊢
      obtain ⟨t, ht⟩ : ∃ t, Hid (t = goA a q l) := ⟨_, hid rfl⟩
      have y0 : ∀ x', (Fam w2.heap.size w2 x').cell? ⟨g, q * 6 + l, none⟩ = some (.int .i64 (t : Nat)) := fun x' => by rw [ht.out]; exact (hg.out.later (Fam.below w2.heap.size w2 x')).2 q l hq hl6
      have k1 : (0 : Int) ≤ (q : Int) ∧ (q : Int) < (a.nx.length : Int) ∧ (0 : Int) ≤ (l : Int) ∧ (l : Int) < 6 := by omega
      replace hll := hid hll
      replace hle := hid hle
      go_wp2_with fail
      refine wp_region_fam w2.heap.size w2 (by kernel_rfl) (by kernel_rfl) hb ?_
      (repeat (go_big_quiet_step ((refine (letterAt_any x k _ hlt).mono ?_; rintro e w3 ⟨rfl, rfl⟩; exact ⟨by rw [hle2.out], _, rfl⟩))))
      refine wpQuiet_nil ?_
      intro w3 hw3
      replace hw3 := Fam.out hw3
      clear y0
      go_wp2
      go_roundw
      case rel => exact ⟨k + 1, by rw [hnx.out, ht.out], by go_num, by omega, hw3⟩
      case measure => simp [intOf]; omega
    · obtain rfl : k = x.size := by omega
      go_wp2
      go_ret
      exact ⟨ret_int (by rw [hyes.out]), hBr⟩

set_option maxRecDepth 100000 in
set_option maxHeartbeats 4000000 in
theorem implAcceptsWord_any (a : Au) (A B : Option Addr) (c d : Nat) (x : ByteArray) (w : World) (hz : x.size ≤ 9223372036854775807) (ha : AuAt w A c B d a) :
    Calls Tryd.prog 33 #[a.val A c B d, .string x] w fun e w' => e = .returned (.bool (accB a x)) ∧ Below w.heap.size w w' := by
  obtain ⟨w0, hw0, hz0, hB0, hS⟩ := boxed w #[Value.int IntKind.i64 a.al, Value.slice A a.nx.length c, Value.slice B a.ac.length d] 32
  have ha0 := hid (ha.later hB0)
  have p0 := hS 0 _ rfl _ (Below.refl _ _)
  have p1 := hS 1 _ rfl _ (Below.refl _ _)
  have p2 := hS 2 _ rfl _ (Below.refl _ _)
  replace ha := hid ha
  unfold AG.Au.val
  go_enter Tryd.func33, Tryd.ntmps33
  go_wp2_with fail
  refine (implStateAfter_any a A B c d x w0 hz ha0.out).mono ?_
  rintro e w1 ⟨rfl, hb1⟩
  have hB1 := hB0.trans (hb1.mono hB0.size)
  have hC1 := hb1.mono hz0
  clear p0 p1 p2
  have p2 := hS 2 _ rfl _ hC1
  cases hk : (auOk a && within x a.al)
  case false =>
    have hs : stA a x = -1 := by unfold stA; rw [hk]; rfl
    have hf : Hid (accB a x = false) := hid (by unfold accB; rw [hk]; rfl)
    rw [hs]
    replace hs := hid hs
    replace hk := hid hk
    go_wp2
    go_ret
    exact ⟨ret_bool (by rw [hf.out]), hB1⟩
  case true =>
    have hs : stA a x = (autTo a x x.size : Nat) := by unfold stA; rw [hk]; rfl
    have hok : auOk a = true := by rw [Bool.and_eq_true] at hk; exact hk.1
    have hq := autTo_lt hok x x.size
    have hn3 := ((auOk_iff a).1 hok).2.2.2.1
    obtain ⟨q, hqq⟩ : ∃ q, Hid (q = autTo a x x.size) := ⟨_, hid rfl⟩
    have hf : Hid (accB a x = a.ac.getD q false) := hid (by unfold accB; rw [hk, ← hqq.out]; rfl)
    rw [hs, ← hqq.out]
    rw [← hqq.out] at hq
    have hq' : q < a.ac.length := by omega
    obtain ⟨b, o, hA, hbB, hE⟩ := (ha0.out.later hb1).acc (by omega)
    subst hA
    have c0 := hE q hq'
    obtain ⟨t, ht⟩ : ∃ t, Hid (t = a.ac[q]) := ⟨_, hid rfl⟩
    rw [← ht.out] at c0
    have hg : Hid (a.ac.getD q false = t) := hid (by rw [List.getD_eq_getElem?_getD, List.getElem?_eq_getElem hq', ht.out]; rfl)
    have k1 : (0 : Int) ≤ (q : Int) ∧ (q : Int) < (a.ac.length : Int) := by omega
    replace hE := hid hE
    replace hs := hid hs
    replace hk := hid hk
    replace hok := hid hok
    replace hn3 := hid hn3
    go_wp2
    go_ret
    exact ⟨ret_bool (by rw [hf.out, hg.out]), hB1⟩

end Go.Proofs.YtolnlkccbndkcaaDoor

/- Plain: words that the automaton of a projection accepts. -/
namespace Go.Proofs.YtolnlkccbndkcaaDoor
open AG

theorem autTo_list (a : Au) (w : ByteArray) : ∀ k, k ≤ w.size → autTo a w k = (w.data.toList.take k).foldl (fun q b => goA a q ((b.toNat : Int) - 97).toNat) 0
  | 0, _ => rfl
  | k + 1, hk => by
    have ih := autTo_list a w k (by omega)
    obtain ⟨h', e⟩ := getD_list (w := w) (i := k) (by omega)
    rw [List.take_succ_eq_append_getElem h', List.foldl_append, ← ih]
    show goA a (autTo a w k) (lz w k).toNat = goA a _ _
    unfold lz
    rw [e]
theorem autTo_fold (a : Au) : ∀ r : List Nat, (∀ l ∈ r, l < 6) → (r.reverse.map letB).foldl (fun q b => goA a q ((b.toNat : Int) - 97).toNat) 0 = runA a 0 r
  | [], _ => rfl
  | l :: r, h => by
    have ih := autTo_fold a r fun x hx => h x (List.mem_cons_of_mem _ hx)
    rw [List.reverse_cons, List.map_append, List.foldl_append, ih]
    show goA a (runA a 0 r) _ = goA a (runA a 0 r) l
    rw [letB_num (h l List.mem_cons_self)]
    rfl
theorem autTo_word (a : Au) {r : List Nat} (h : ∀ l ∈ r, l < 6) : autTo a (wordS r) (wordS r).size = runA a 0 r := by
  rw [autTo_list a _ _ (Nat.le_refl _), List.take_of_length_le (by rw [size_list]; omega), wordS_list]
  exact autTo_fold a r h
theorem prK_true {s : Sy} {al : Int} (h : prK s al = true) : prOk s al = true ∧ ∃ x, prNum s al = some x ∧ prA s al = prAu al x := by
  cases hk : prOk s al with
  | false => rw [(prA_bad hk).2] at h; cases h
  | true =>
    cases hn : prNum s al with
    | none => rw [(prA_none hn).2] at h; cases h
    | some x => exact ⟨rfl, x, rfl, (prA_some hk hn).1⟩
theorem accB_pr {s : Sy} {al : Int} (h : prK s al = true) {r : List Nat} (hr : ∀ l ∈ r, l ∈ letters al) (hl : r.length ≤ 50000) : accB (prA s al) (wordS r) = decide (prW s al r ≠ 0) := by
  obtain ⟨hk, x, hn, e⟩ := prK_true h
  obtain ⟨_, hal, _⟩ := prOk_parts hk
  rw [e]
  unfold accB
  rw [autTo_word _ fun l hl => (letters_lt (hr l hl)).1, auOk_pr hal hn]
  have : within (wordS r) (prAu al x).al = true := wordS_within (alphaOk_range.2 hal) hr hl
  rw [this]
  exact accA_pr hn hr
theorem prA_al {s : Sy} {al : Int} (h : prK s al = true) : (prA s al).al = al := by
  obtain ⟨_, x, _, e⟩ := prK_true h
  rw [e]
  rfl
theorem auOk_prA {s : Sy} {al : Int} (h : prK s al = true) : auOk (prA s al) = true := by
  obtain ⟨hk, x, hn, e⟩ := prK_true h
  rw [e]
  exact auOk_pr (prOk_parts hk).2.1 hn
/-- Traces are what the automaton accepts. -/
theorem acc_trace {s : Sy} (h : prK s s.al = true) {r : List Nat} (hr : ∀ l ∈ r, l ∈ letters s.al) (hl : r.length ≤ 50000) : accB (prA s s.al) (wordS r) = decide (setW s r ≠ 0) ∧ hasTr s (wordS r) = decide (setW s r ≠ 0) := by
  obtain ⟨hk, _⟩ := prK_true h
  obtain ⟨hs, _, _⟩ := prOk_parts hk
  rw [accB_pr h hr hl, prW_self (sysOk_alpha hs).1]
  exact ⟨rfl, hasTr_wordS hs hr hl⟩

/-- A word over an alphabet, as a list of letters. -/
theorem word_ex {x : ByteArray} {A : Int} (h : within x A = true) : ∃ r, x = wordS r ∧ (∀ l ∈ r, l ∈ letters A) ∧ r.length ≤ 50000 := by
  obtain ⟨hA, hsz, hall⟩ := (within_list x A).1 h
  have hb : ∀ b ∈ x.data.toList, ∃ l, l ∈ letters A ∧ letB l = b := fun b hb => by
    have h1 := hall b hb
    unfold pk HasZ bl at h1
    simp only [Bool.and_eq_true, decide_eq_true_eq] at h1
    by_cases ho : lOk ((b.toNat : Int) - 97) = true
    · rw [if_pos ho] at h1
      have ho' := ho
      unfold lOk at ho'
      simp only [decide_eq_true_eq] at ho'
      refine ⟨((b.toNat : Int) - 97).toNat, letters_ok.2 ⟨by omega, h1.2⟩, ?_⟩
      unfold letB
      have : 97 + ((b.toNat : Int) - 97).toNat = b.toNat := by omega
      first
        | (rw [this]; exact UInt8.ofNat_toNat)
        | (rw [Nat.add_comm, this]; exact UInt8.ofNat_toNat)
    · rw [if_neg ho] at h1
      omega
  have key : ∀ bs : List UInt8, (∀ b ∈ bs, ∃ l, l ∈ letters A ∧ letB l = b) → ∃ r : List Nat, r.map letB = bs ∧ ∀ l ∈ r, l ∈ letters A := by
    intro bs
    induction bs with
    | nil => intro _; exact ⟨[], rfl, fun l h => (by cases h)⟩
    | cons b bs ih =>
      intro h
      obtain ⟨l, hl, e⟩ := h b List.mem_cons_self
      obtain ⟨r, hr, hm⟩ := ih fun c hc => h c (List.mem_cons_of_mem _ hc)
      refine ⟨l :: r, by rw [List.map_cons, e, hr], fun y hy => ?_⟩
      rcases List.mem_cons.1 hy with rfl | hy
      · exact hl
      · exact hm y hy
  obtain ⟨r, hr, hm⟩ := key _ hb
  refine ⟨r.reverse, word_ext ?_, fun l hl => hm l (List.mem_reverse.1 hl), ?_⟩
  · rw [wordS_list, List.reverse_reverse, hr]
  · have := congrArg List.length hr
    rw [List.length_map, size_list] at this
    rw [List.length_reverse]
    omega

/-- What a word leads to is among what its projection leads to. -/
theorem prW_sub {s : Sy} {al : Int} (hk : prOk s al = true) : ∀ r : List Nat, (∀ l ∈ r, l ∈ letters s.al) → ∀ q, (setW s r).testBit q = true → (prW s al (r.filter fun l => decide (l ∈ letters al))).testBit q = true
  | [], _, q, h => by
    unfold prW
    show (reachSet s (hidA s.al al) 1).testBit q = true
    unfold reachSet
    rw [bitsOf_testBit]
    exact ⟨by have := testBit_lt (n := 16) (show (1 : Nat) < 2 ^ 16 by omega) h; exact this, Rch.start h⟩
  | l :: r, hr, q, h => by
    have ih := prW_sub hk r fun x hx => hr x (List.mem_cons_of_mem _ hx)
    obtain ⟨hs, hal, han⟩ := prOk_parts hk
    have hin := sysOk_in hs
    have hq : (stepSet s (setW s r) (l : Int)).testBit q = true := h
    unfold stepSet at hq
    rw [bitsOf_testBit] at hq
    obtain ⟨hq16, e, he, e1, e2, e3⟩ := hq
    have hf := ih _ e2
    by_cases hl : l ∈ letters al
    · rw [List.filter_cons_of_pos (by simpa using hl)]
      show (reachSet s (hidA s.al al) (stepSet s (prW s al _) (l : Int))).testBit q = true
      unfold reachSet
      rw [bitsOf_testBit]
      refine ⟨hq16, Rch.start ?_⟩
      unfold stepSet
      rw [bitsOf_testBit]
      exact ⟨hq16, e, he, e1, hf, e3⟩
    · rw [List.filter_cons_of_neg (by simpa using hl)]
      have hlet := letters_ok.1 (hr l List.mem_cons_self)
      have hel : e.l.toNat = l := by omega
      have hh : Has (hidA s.al al) e.l.toNat = true := by
        rw [Has_hid (sysOk_alpha hs) hal (by omega), hel, hlet.2]
        have : Has al l = false := by
          rw [← Bool.not_eq_true]
          exact fun h => hl (letters_ok.2 ⟨hlet.1, h⟩)
        rw [this]
        rfl
      have hform : ∃ X, prW s al (r.filter fun l => decide (l ∈ letters al)) = reachSet s (hidA s.al al) X := by
        cases r.filter fun l => decide (l ∈ letters al) with
        | nil => exact ⟨_, rfl⟩
        | cons a b => exact ⟨_, rfl⟩
      obtain ⟨X, hX⟩ := hform
      rw [hX] at hf ⊢
      unfold reachSet at hf ⊢
      rw [bitsOf_testBit] at hf ⊢
      refine ⟨hq16, ?_⟩
      rw [← e3]
      exact Rch.step he hh hf.2
theorem restr_wordS {r : List Nat} (h : ∀ l ∈ r, l < 6) (al : Int) : restr (wordS r) al = wordS (r.filter fun l => decide (l ∈ letters al)) := by
  refine word_ext ?_
  rw [restr_list, wordS_list, wordS_list, List.filter_map, ← List.filter_reverse]
  congr 1
  refine List.filter_congr fun l hl => ?_
  have h6 := h l (List.mem_reverse.1 hl)
  show pk al (letB l) = _
  unfold pk HasZ
  rw [bl_letB h6, Bool.eq_iff_iff]
  simp only [Bool.and_eq_true, decide_eq_true_eq, Int.toNat_natCast]
  rw [letters_ok]
  constructor
  · rintro ⟨_, h⟩; exact ⟨h6, h⟩
  · rintro ⟨_, h⟩; exact ⟨by omega, h⟩
/-- Projections accept restrictions. -/
theorem acc_restr {s : Sy} {al : Int} {x : ByteArray} (h : prK s al = true) (hx : hasTr s x = true) : accB (prA s al) (restr x al) = true := by
  obtain ⟨hk, _⟩ := prK_true h
  obtain ⟨hs, hw⟩ := hasTr_ok hx
  obtain ⟨r, rfl, hr, hl⟩ := word_ex hw
  rw [hasTr_wordS hs hr hl, decide_eq_true_eq] at hx
  rw [restr_wordS (fun l hl => (letters_lt (hr l hl)).1), accB_pr h (fun l hl => by simpa using (List.mem_filter.1 hl).2) (Nat.le_trans (List.length_filter_le _ _) hl), decide_eq_true_eq]
  intro h0
  obtain ⟨q, hq⟩ := Nat.exists_testBit_of_ne_zero hx
  have := prW_sub hk r hr q hq
  rw [h0] at this
  simp at this

end Go.Proofs.YtolnlkccbndkcaaDoor

/- The program's search: the closure that takes up a word's nodes. -/
namespace Go.Proofs.YtolnlkccbndkcaaDoor
open Go.RowKit Go.BigFrame AG

/-- The marks of the nodes that have been seen. -/
def SeenAt (cs : Array Value) (size : Nat) (S : Nat → Bool) : Prop := cs.size = size ∧ ∀ n, n < size → cs[n]? = some (.bool (S n))
theorem SeenAt.set_ {cs : Array Value} {size : Nat} {S S' : Nat → Bool} {n : Nat} (h : SeenAt cs size S) (hn : n < size) (hS : ∀ x, S' x = (S x || decide (x = n))) : SeenAt (cs.setIfInBounds n (.bool true)) size S' := by
  refine ⟨by simpa using h.1, fun x hx => ?_⟩
  rw [hS]
  by_cases e : x = n
  · subst e
    rw [Array.getElem?_setIfInBounds_self_of_lt (by rw [h.1]; exact hx)]
    simp
  · rw [Array.getElem?_setIfInBounds_ne (Ne.symm e), h.2 x hx]
    simp [e]

def natVals (ns : List Nat) : List Value := ns.map fun (n : Nat) => Value.int .i64 (n : Int)

/-- What the search holds in memory. -/
structure FPst (w wr : World) (size : Nat) (gv : Value) (bS bG bP gS : Nat) (sv : Value) (ss : List StV) (S : Nat → Bool) : Prop where
  below : Below w.heap.size w wr
  blkS : Blk wr bS 30 #[.slice (some ⟨gS, 0, none⟩) size size]
  blkG : Blk wr bG 77 #[gv]
  blkP : Blk wr bP 127 #[sv]
  seen : ∃ cs, Blk wr gS 4 cs ∧ SeenAt cs size S
  geS : w.heap.size ≤ gS
  geP : w.heap.size ≤ bP
  own : wr.ownsRow w.heap.size 129 3 sv ss.length (stCells ss)
  nodes : ∀ x ∈ ss, wr.ownsRow w.heap.size 3 1 (.slice x.A x.st.nodes.length x.c) x.st.nodes.length (natVals x.st.nodes)

/-- A goal of the search, as a function value. -/
structure GoalOk (w : World) (size : Nat) (G : Nat → Bool) (fG : FuncId) (capG : Array Value) : Prop where
  run : ∀ args w', (callFunc fG args).run Tryd.prog w' = .ok (.enter fG args) w'
  call : ∀ w' q, Below w.heap.size w w' → q < size → Calls Tryd.prog fG (#[.int .i64 (q : Nat)] ++ capG) w' fun e w'' => e = .returned (.bool (G q)) ∧ Below w'.heap.size w' w''

/-- What the closure leaves. -/
def VisPost (w w1 : World) (size : Nat) (gv : Value) (bS bG bP gS : Nat) (sv : Value) (ss : List StV) (S : Nat → Bool) (par : Int) (l : Nat) (fr : List Nat) (w2 : World) : Prop :=
  ∃ sv' ss', FPst w w2 size gv bS bG bP gS sv' ss' (fun n => S n || fr.contains n) ∧ ((fr = [] ∧ ss' = ss) ∨ (fr ≠ [] ∧ ∃ A c, ss' = ss ++ [⟨⟨par, l, fr⟩, A, c⟩])) ∧ KeepB (fun b => b = gS ∨ b = bP ∨ sv.ownBlock = some b) w1 w2

theorem FPst.keep {w w1 wr : World} {size : Nat} {gv : Value} {bS bG bP gS : Nat} {sv : Value} {ss : List StV} {S S' : Nat → Bool} {cs : Array Value} (h : FPst w w1 size gv bS bG bP gS sv ss S) (hk : KeepB (fun b => b = gS) w1 wr)
    (hb : Blk wr gS 4 cs) (hs : SeenAt cs size S') : FPst w wr size gv bS bG bP gS sv ss S' := by
  obtain ⟨cs0, hb0, -⟩ := h.seen
  exact ⟨hk.below h.below h.below.size (fun b hb => by rw [hb]; exact h.geS), h.blkS.keep hk (fun e => h.blkS.ne hb0 (by decide) e), h.blkG.keep hk (fun e => h.blkG.ne hb0 (by decide) e), h.blkP.keep hk (fun e => h.blkP.ne hb0 (by decide) e), ⟨cs, hb, hs⟩, h.geS, h.geP,
    own_keep h.own hk (own_ne h.own hb0 (by decide)), fun x hx => own_keep (h.nodes x hx) hk (own_ne (h.nodes x hx) hb0 (by decide))⟩

theorem cell_three_new (w : World) (x y z : Value) (t : TypeId) : ∀ j u, [x, y, z][j]? = some u → (w.alloc (.cells #[x, y, z] t)).cell? ((⟨w.heap.size, 0, none⟩ : Addr).add j) = some u := by
  intro j u hj
  match j, hj with
  | 0, hj =>
    simp at hj
    subst hj
    simp [Addr.add]
  | 1, hj =>
    simp at hj
    subst hj
    simp [Addr.add]
  | 2, hj =>
    simp at hj
    subst hj
    simp [Addr.add]
theorem infoStep : (Tryd.prog.info? 129).map (fun i => (i.zero, i.size, i.bytes)) = some (some (.agg #[.int .i64 0, .int .i64 0, .slice none 0 0]), 3, 40) := by kernel_rfl

theorem VisPost.mk {w w1 wr w6 : World} {size : Nat} {gv : Value} {bS bG bP gS : Nat} {sv v6 : Value} {ss : List StV} {S : Nat → Bool} {cs : Array Value} {par : Int} {l : Nat} {fr : List Nat} {A : Option Addr} {c : Nat} {o : Obj} (h : FPst w w1 size gv bS bG bP gS sv ss S) (hk : KeepB (fun b => b = gS) w1 wr)
    (hb : Blk wr gS 4 cs) (hs : SeenAt cs size (fun n => S n || fr.contains n)) (hfr : fr ≠ []) (hfv : wr.ownsRow w1.heap.size 3 1 (.slice A fr.length c) fr.length (natVals fr))
    (hO6 : w6.ownsRow w.heap.size 129 3 v6 (ss.length + 1) (stCells ss ++ [.int .i64 par, .int .i64 (l : Nat), .slice A fr.length c])) (hg6 : (wr.alloc o).grownBy w6 sv.ownBlock) :
    VisPost w w1 size gv bS bG bP gS sv ss S par l fr (w6.setCell ⟨bP, 0, none⟩ v6) := by
  have hr := h.keep hk hb hs
  have hkA : KeepB (fun b => sv.ownBlock = some b) wr w6 := ((KeepB.refl _ wr).alloc o).grown hg6 fun k hk _ => hk
  have hP6 : Blk w6 bP 127 #[sv] := hr.blkP.keep hkA fun e => own_ne hr.own hr.blkP (by decide) bP e rfl
  have hk7 : KeepB (fun b => b = bP) w6 (w6.setCell ⟨bP, 0, none⟩ v6) := (KeepB.refl _ w6).setCell _ _ fun _ => rfl
  have hkB : KeepB (fun b => b = bP ∨ sv.ownBlock = some b) wr (w6.setCell ⟨bP, 0, none⟩ v6) := (hkA.mono fun k h => .inr h).trans (hk7.mono fun k h => .inl h)
  have nB : ∀ {g t cs}, Blk wr g t cs → t ≠ 127 → t ≠ 129 → ¬ (g = bP ∨ sv.ownBlock = some g) := fun hg h1 h2 e => by
    rcases e with e | e
    · exact hg.ne hr.blkP h1 e
    · exact own_ne hr.own hg (Ne.symm h2) _ e rfl
  have nO : ∀ {base e size v n xs}, wr.ownsRow base e size v n xs → e ≠ 127 → e ≠ 129 → ∀ g, v.ownBlock = some g → ¬ (g = bP ∨ sv.ownBlock = some g) := fun ho h1 h2 g hg e => by
    rcases e with e | e
    · exact own_ne ho hr.blkP h1 g hg e
    · exact own_ne_own ho hr.own h2 g g hg e rfl
  obtain ⟨cs', hb', hs'⟩ := hr.seen
  refine ⟨v6, ss ++ [⟨⟨par, l, fr⟩, A, c⟩], ⟨?_, hr.blkS.keep hkB (nB hr.blkS (by decide) (by decide)), hr.blkG.keep hkB (nB hr.blkG (by decide) (by decide)), ?_, ⟨cs', hb'.keep hkB (nB hb' (by decide) (by decide)), hs'⟩, hr.geS, hr.geP, ?_, ?_⟩, .inr ⟨hfr, A, c, rfl⟩, ?_⟩
  · refine hkB.below hr.below hr.below.size fun b e => ?_
    rcases e with e | e
    · rw [e]; exact hr.geP
    · exact own_block hr.own b e
  · have := hP6.set_ 0 v6
    simpa using this
  · rw [List.length_append, stCells_append]
    exact own_keep hO6 hk7 (own_ne hO6 hP6 (by decide))
  · intro x hx
    rcases List.mem_append.1 hx with hx | hx
    · exact own_keep (hr.nodes x hx) hkB (nO (hr.nodes x hx) (by decide) (by decide))
    · rw [List.mem_singleton] at hx
      subst hx
      exact own_base (own_keep hfv hkB (nO hfv (by decide) (by decide))) h.below.size
  · refine (hk.mono fun k h => .inl h).trans ⟨hkB.os, hkB.tape, hkB.output, hkB.size, fun k hk' hne => hkB.block k hk' fun e => hne (.inr e)⟩

set_option maxRecDepth 100000 in
set_option maxHeartbeats 4000000 in
theorem visit_any (w : World) (size : Nat) (G : Nat → Bool) (fG : FuncId) (capG : Array Value) (hG : GoalOk w size G fG capG) (bS bG bP gS : Nat) (sv : Value) (ss : List StV) (S : Nat → Bool) (par : Int) (l : Nat) (nv : Value) (ns : List Nat) (w1 : World)
    (hst : FPst w w1 size (.func (.func fG) #[] capG) bS bG bP gS sv ss S) (hnv : w1.ownsRow 0 3 1 nv ns.length (natVals ns)) (hns : ∀ n ∈ ns, n < size) (hnl : ns.length ≤ 4294967296) (hsl : ss.length ≤ 4294967296) :
    Calls Tryd.prog 140 #[.int .i64 par, .int .i64 (l : Nat), nv, .pointer (some ⟨bS, 0, none⟩), .pointer (some ⟨bG, 0, none⟩), .pointer (some ⟨bP, 0, none⟩)] w1 fun e w2 => e = .returned (.bool ((frs S ns).any G)) ∧ VisPost w w1 size (.func (.func fG) #[] capG) bS bG bP gS sv ss S par l (frs S ns) w2 := by
  have hcf := hG.run
  obtain ⟨A, c, rfl, hnc, hnc'⟩ := own_slice hnv
  obtain ⟨i0, hi, hz0, hz1, hz2⟩ := info_parts infoInt
  have hneS := hst.blkS
  obtain ⟨cs0, hblk0, hseen0⟩ := hst.seen
  replace hst := hid hst
  replace hnv := hid hnv
  replace hns := hid hns
  replace hblk0 := hid hblk0
  replace hseen0 := hid hseen0
  replace hneS := hid hneS
  go_enter Tryd.func140, Tryd.ntmps140
  go_wp2_with fail
  go_loopw [10, 11, 16] (fun fv found iv wr => ∃ (k : Nat) (cs : Array Value), iv = .int .i64 k ∧ k ≤ ns.length ∧ found = .bool ((frs S (ns.take k)).any G) ∧ wr.ownsRow w1.heap.size 3 1 fv (frs S (ns.take k)).length (natVals (frs S (ns.take k))) ∧
      Blk wr gS 4 cs ∧ SeenAt cs size (fun n => S n || (frs S (ns.take k)).contains n) ∧ KeepB (fun b => b = gS) w1 wr) (fun _ _ iv _ => ns.length - (intOf iv).toNat)
  case atStart => exact ⟨0, cs0, rfl, by omega, rfl, World.ownsRow_nil _ _ _ _, hblk0.out, by simpa [frs_nil] using hseen0.out, KeepB.refl _ _⟩
  case round =>
    obtain ⟨k, cs, rfl, hk, rfl, hown, hblk, hseen, hkp⟩ := hrel
    by_cases hlt : k < ns.length
    · have hnvr := own_keep hnv.out hkp (fun g hg e => own_ne hnv.out hblk0.out (by decide) g hg e)
      obtain ⟨gn, cn, hve, -, -, -, -, hcell⟩ := own_shape hnvr (by omega)
      injection hve with hv1 hv2 hv3
      subst hv1
      subst hv3
      have n0 := hcell k _ (show (natVals ns)[k]? = some (.int .i64 (ns[k] : Nat)) from by unfold natVals; simp [hlt])
      have hns1 := hns.out ns[k] (List.getElem_mem hlt)
      have hstep := frs_take S ns hlt
      obtain ⟨n, hnn⟩ : ∃ n, n = ns[k] := ⟨_, rfl⟩
      rw [← hnn] at n0 hns1 hstep
      have hSr := hneS.out.keep hkp (fun e => hneS.out.ne hblk0.out (by decide) e)
      have s0 := hSr.cell 0
      simp only [List.getElem?_toArray, List.getElem?_cons_zero] at s0
      have m0 := hblk.cell n
      rw [hseen.2 n hns1] at m0
      dsimp only at m0
      have z0 := hblk.frozen n
      obtain ⟨fr, hfr⟩ : ∃ fr, fr = frs S (ns.take k) := ⟨_, rfl⟩
      rw [← hfr] at hown hseen m0 hstep ⊢
      have hfl : fr.length ≤ k := by
        have := frs_len S (ns.take k)
        rw [← hfr] at this
        simp at this
        omega
      have i1 : (0 : Int) ≤ (k : Int) := by omega
      have i2 : (k : Int) < (ns.length : Int) := by omega
      have i3 : (0 : Int) ≤ (n : Int) := by omega
      have i4 : (n : Int) < (size : Int) := by omega
      replace hnvr := hid hnvr
      replace hSr := hid hSr
      replace hcell := hid hcell
      replace hnn := hid hnn
      replace hfr := hid hfr
      replace hown := hid hown
      replace hseen := hid hseen
      replace hblk := hid hblk
      replace hstep := hid hstep
      cases hm : (S n || fr.contains n)
      · rw [hm] at m0
        have hst2 : Hid (frs S (ns.take (k + 1)) = fr ++ [n]) := hid (by rw [hstep.out]; unfold frsStep; rw [if_neg (by rw [hm]; simp)])
        have hany : Hid ((fr ++ [n]).any G = (fr.any G || G n)) := hid (by simp)
        replace hm := hid hm
        have hb1 := hst.out.below
        have hseen2 : Hid (SeenAt (cs.setIfInBounds n (.bool true)) size (fun x => S x || (fr ++ [n]).contains x)) := hid (hseen.out.set_ hns1 fun x => by
          simp only [List.contains_eq_mem, List.mem_append, List.mem_singleton, Bool.or_assoc]
          congr 1
          rw [Bool.eq_iff_iff]
          simp)
        have hzr := hkp.size
        have hkp2 : Hid (KeepB (fun b => b = gS) w1 (wr.setCell ⟨gS, n, none⟩ (.bool true))) := hid (hkp.setCell _ _ fun _ => rfl)
        have hblk2 : Hid (Blk (wr.setCell ⟨gS, n, none⟩ (.bool true)) gS 4 (cs.setIfInBounds n (.bool true))) := hid (hblk.out.set_ _ _)
        have hown2 : Hid ((wr.setCell ⟨gS, n, none⟩ (.bool true)).ownsRow w1.heap.size 3 1 _ fr.length (natVals fr)) := hid (ownsRow_setCell_below hown.out (by have := hblk0.out.lt; simpa using this) _)
        cases hg : fr.any G
        · go_wp2_with (at_builtin; refine wpList_append_own_at _ rfl _ _ 62 rfl w1.heap.size 3 i0 (.int .i64 0) 1 8 Tryd.underlying62 hi hz0 hz1 hz2 rfl (by decide) _ _ _ rfl (hown2.out.alloc _) ⟨wr.heap.size, 0, none⟩ 1 1 [.int .i64 (n : Int)] rfl rfl (by have := cell_one_new (wr.setCell ⟨gS, n, none⟩ (.bool true)) (.int .i64 (n : Int)) 3; simpa using this) (by intro u hu; simp at hu; subst hu; rfl) (by unfold maxLen; omega) (by omega) (by simp; omega) ?_; intro v4 w4 hown4 hgr4 _ hat4; have hkp4 : Hid (KeepB (fun b => b = gS) w1 w4) := hid ((hkp2.out.alloc _).grown hgr4 fun b hb hlt => absurd (own_block hown.out b hb) (by omega)); have hblk4 : Hid (Blk w4 gS 4 (cs.setIfInBounds n (.bool true))) := hid ((hgr4.block gS (hblk2.out.alloc _).lt (fun e => own_ne hown2.out hblk2.out (by decide) gS e.symm rfl)).trans (hblk2.out.alloc _)); have hG4 := hst.out.blkG.keep hkp4.out (fun e => hst.out.blkG.ne hblk0.out (by decide) e); have g0 := hG4.cell 0; simp only [List.getElem?_toArray, List.getElem?_cons_zero] at g0; replace hG4 := hid hG4; replace hown4 := hid hown4; replace hgr4 := hid hgr4; replace hat4 := hid hat4)
          have hb4 := hid (hkp4.out.below hb1 hb1.size fun b hb => by rw [hb]; exact hst.out.geS)
          refine (hG.call w4 n hb4.out hns1).mono ?_
          rintro e w5 ⟨rfl, hb5⟩
          replace hg := hid hg
          have hk5 : Hid (KeepB (fun b => b = gS) w1 w5) := hid (hkp4.out.trans (.of_below hb5))
          have hown5 := hid (own_keep hown4.out (.of_below (K := fun _ => False) hb5) fun _ _ h => h)
          have hblk5 := hid (hblk4.out.below hb5 hblk4.out.lt)
          go_wp2_with fail
          go_roundw
          case rel => exact ⟨k + 1, _, by go_num, by omega, by rw [hst2.out, hany.out, hg.out]; rfl, by rw [hst2.out, List.length_append]; unfold natVals; rw [List.map_append]; exact hown5.out, hblk5.out, by rw [hst2.out]; exact hseen2.out, hk5.out⟩
          case measure => simp [intOf]; omega
        · go_wp2_with (at_builtin; refine wpList_append_own_at _ rfl _ _ 62 rfl w1.heap.size 3 i0 (.int .i64 0) 1 8 Tryd.underlying62 hi hz0 hz1 hz2 rfl (by decide) _ _ _ rfl (hown2.out.alloc _) ⟨wr.heap.size, 0, none⟩ 1 1 [.int .i64 (n : Int)] rfl rfl (by have := cell_one_new (wr.setCell ⟨gS, n, none⟩ (.bool true)) (.int .i64 (n : Int)) 3; simpa using this) (by intro u hu; simp at hu; subst hu; rfl) (by unfold maxLen; omega) (by omega) (by simp; omega) ?_; intro v4 w4 hown4 hgr4 _ hat4; have hkp4 : Hid (KeepB (fun b => b = gS) w1 w4) := hid ((hkp2.out.alloc _).grown hgr4 fun b hb hlt => absurd (own_block hown.out b hb) (by omega)); have hblk4 : Hid (Blk w4 gS 4 (cs.setIfInBounds n (.bool true))) := hid ((hgr4.block gS (hblk2.out.alloc _).lt (fun e => own_ne hown2.out hblk2.out (by decide) gS e.symm rfl)).trans (hblk2.out.alloc _)); have hG4 := hst.out.blkG.keep hkp4.out (fun e => hst.out.blkG.ne hblk0.out (by decide) e); have g0 := hG4.cell 0; simp only [List.getElem?_toArray, List.getElem?_cons_zero] at g0; replace hG4 := hid hG4; replace hown4 := hid hown4; replace hgr4 := hid hgr4; replace hat4 := hid hat4)
          replace hg := hid hg
          go_roundw
          case rel => exact ⟨k + 1, _, by go_num, by omega, by rw [hst2.out, hany.out, hg.out]; rfl, by rw [hst2.out, List.length_append]; unfold natVals; rw [List.map_append]; exact hown4.out, hblk4.out, by rw [hst2.out]; exact hseen2.out, hkp4.out⟩
          case measure => simp [intOf]; omega
      · rw [hm] at m0
        have hst2 : Hid (frs S (ns.take (k + 1)) = fr) := hid (by rw [hstep.out]; unfold frsStep; rw [if_pos hm])
        replace hm := hid hm
        go_wp2_with fail
        go_roundw
        case rel => exact ⟨k + 1, cs, by go_num, by omega, by rw [hst2.out], by rw [hst2.out]; exact hown.out, hblk.out, by rw [hst2.out]; exact hseen.out, hkp⟩
        case measure => simp [intOf]; omega
    · have hkn : ns.take k = ns := List.take_of_length_le (by omega)
      rw [hkn] at hown hseen ⊢
      obtain ⟨fr, hfr⟩ : ∃ fr, fr = frs S ns := ⟨_, rfl⟩
      rw [← hfr] at hown hseen ⊢
      have hfl : fr.length ≤ ns.length := by rw [hfr]; exact frs_len S ns
      have hPr := hst.out.blkP.keep hkp (fun e => hst.out.blkP.ne hblk0.out (by decide) e)
      have p0 := hPr.cell 0
      simp only [List.getElem?_toArray, List.getElem?_cons_zero] at p0
      have hsr := hid (hst.out.keep hkp hblk hseen)
      replace hkn := hid hkn
      replace hfr := hid hfr
      replace hPr := hid hPr
      obtain ⟨fA, fc, rfl, hfc, hfc'⟩ := own_slice hown
      by_cases hf0 : fr.length = 0
      · have hfe : Hid (fr = []) := hid (by simpa using hf0)
        replace hown := hid hown
        have hn0 : ¬ (0 < fr.length) := by omega
        go_wp2_with fail
        go_ret
        exact ⟨by rw [← hfr.out]; rfl, by rw [← hfr.out]; exact ⟨_, ss, hsr.out, .inl ⟨hfe.out, rfl⟩, hkp.mono fun b h => .inl h⟩⟩
      · have hn0 : 0 < fr.length := by omega
        replace hown := hid hown
        have hzr := hkp.size
        have hbs := hst.out.below.size
        have hfne : Hid (fr ≠ []) := hid fun e => hf0 (by rw [e]; rfl)
        obtain ⟨j0, hj, hj0, hj1, hj2⟩ := info_parts infoStep
        go_wp2_with (at_builtin; refine wpList_append_own_at _ rfl _ _ 127 rfl w.heap.size 129 j0 (.agg #[.int .i64 0, .int .i64 0, .slice none 0 0]) 3 40 Tryd.underlying127 hj hj0 hj1 hj2 rfl (by decide) _ _ _ rfl (hsr.out.own.alloc _) ⟨wr.heap.size, 0, none⟩ 1 1 [.int .i64 par, .int .i64 (l : Nat), .slice fA fr.length fc] rfl rfl (cell_three_new _ _ _ _ _) (by intro u hu; simp at hu; rcases hu with rfl | rfl | rfl <;> rfl) (by unfold maxLen; omega) (by omega) (by simp; omega) ?_; intro v6 w6 hO6 hgr6 _ _; obtain ⟨A6, c6, rfl, -, -⟩ := own_slice hO6; have hkA : KeepB (fun b => sv.ownBlock = some b) wr w6 := ((KeepB.refl _ wr).alloc _).grown hgr6 fun k hk _ => hk; have hP6 : Blk w6 bP 127 #[sv] := hPr.out.keep hkA fun e => own_ne hsr.out.own hPr.out (by decide) bP e rfl; have q0 := hP6.cell 0; simp only [List.getElem?_toArray, List.getElem?_cons_zero] at q0; have zq := hP6.frozen 0; replace hP6 := hid hP6; replace hkA := hid hkA; replace hO6 := hid hO6; replace hgr6 := hid hgr6)
        go_ret
        exact ⟨by rw [← hfr.out]; rfl, by rw [← hfr.out]; exact VisPost.mk hst.out hkp hblk hseen hfne.out hown.out hO6.out hgr6.out⟩

end Go.Proofs.YtolnlkccbndkcaaDoor

/- The program's search: firstPath. -/
namespace Go.Proofs.YtolnlkccbndkcaaDoor
open Go.RowKit Go.BigFrame AG

/-- The steps of a search, as a function value: it appends to a list the nodes to which a letter leads. -/
structure NextOk (w : World) (size : Nat) (L : List Nat) (nx : Nat → Nat → List Nat) (fN : FuncId) (capN : Array Value) : Prop where
  run : ∀ args w', (callFunc fN args).run Tryd.prog w' = .ok (.enter fN args) w'
  lt : ∀ q, q < size → ∀ l ∈ L, ∀ n ∈ nx q l, n < size
  len : ∀ q, q < size → ∀ l ∈ L, (nx q l).length ≤ 4096
  call : ∀ w' (q l : Nat) (v : Value) (ns : List Nat) (base : Nat), Below w.heap.size w w' → q < size → l ∈ L → ns.length ≤ 4294967296 → w.heap.size ≤ base → base ≤ w'.heap.size → w'.ownsRow base 3 1 v ns.length (natVals ns) →
    Calls Tryd.prog fN (#[.int .i64 (q : Nat), .int .i64 (l : Nat), v] ++ capN) w' fun e w'' => ∃ v', e = .returned v' ∧ w''.ownsRow base 3 1 v' (ns ++ nx q l).length (natVals (ns ++ nx q l)) ∧ KeepB (fun b => v.ownBlock = some b) w' w''

theorem infoBoolF : (Tryd.prog.info? 4).map (fun i => (i.zero, i.size, i.bytes)) = some (some (.bool false), 1, 1) := by kernel_rfl

/-- The search in memory and as plain lists. -/
def SrchAt (w : World) (size : Nat) (G : Nat → Bool) (L : List Nat) (nx : Nat → Nat → List Nat) (I0 : List Nat) (gv : Value) (bS bG bP gS : Nat) (wr : World) (i k : Nat) (sv : Value) (ss : List StV) (ws : List (List Nat)) (S : Nat → Bool) : Prop :=
  FPst w wr size gv bS bG bP gS sv ss S ∧ SB (fun n => n ∈ I0) L nx G size (ss.map (·.st)) ws S i k

theorem PathOk.of {I : Nat → Prop} {L : List Nat} {nx : Nat → Nat → List Nat} {G : Nat → Prop} {ss : List StV} {ws : List (List Nat)} {i k : Nat} (h : Bfs I L nx G (ss.map (·.st)) ws i k) (hL6 : ∀ l ∈ L, l < 6) : PathOk ss ws := by
  refine ⟨by rw [h.len]; simp, h.zero, fun h0 => ?_, fun j hj hj' h0 => ?_⟩
  · have := h.root (by simpa using h0)
    simpa using this
  · obtain ⟨p, q, hpj, _, h1, hp, hq, h2, hw⟩ := h.link j (by simpa using hj) hj' h0
    simp only [List.getElem_map] at h1 h2
    exact ⟨p, hpj, h1, by rw [h2]; exact hL6 _ (List.getElem_mem _), hp, by rw [hw, h2]⟩
theorem PathOk.add {ss : List StV} {ws : List (List Nat)} (h : PathOk ss ws) {i l : Nat} (hi : i < ws.length) (hl : l < 6) (x : StV) (hx : x.st.par = (i : Int)) (hx' : x.st.let_ = l) : PathOk (ss ++ [x]) (ws ++ [l :: ws[i]]) := by
  have hlen := h.len
  have hpos : 0 < ws.length := by omega
  refine ⟨by simp [hlen], fun h0 => ?_, fun h0 => ?_, fun j hj hj' h0 => ?_⟩
  · rw [List.getElem_append_left hpos]; exact h.zero hpos
  · rw [List.getElem_append_left (by omega)]; exact h.root (by omega)
  · by_cases e : j < ws.length
    · obtain ⟨p, hpj, h1, h2, hp, hw⟩ := h.link j (by omega) e h0
      refine ⟨p, hpj, ?_, ?_, by simp; omega, ?_⟩
      · rw [List.getElem_append_left (by omega)]; exact h1
      · rw [List.getElem_append_left (by omega)]; exact h2
      · rw [List.getElem_append_left e, List.getElem_append_left hp, List.getElem_append_left (by omega)]; exact hw
    · obtain rfl : j = ws.length := by simp at hj'; omega
      refine ⟨i, hi, ?_, ?_, by simp; omega, ?_⟩
      · simp [hlen, hx]
      · simp [hlen, hx', hl]
      · rw [List.getElem_append_left hi]
        simp [hlen, hx']

theorem FPst.later {w w1 w2 : World} {size : Nat} {gv : Value} {bS bG bP gS : Nat} {sv : Value} {ss : List StV} {S : Nat → Bool} (h : FPst w w1 size gv bS bG bP gS sv ss S) (hb : Below w1.heap.size w1 w2) : FPst w w2 size gv bS bG bP gS sv ss S := by
  obtain ⟨cs, hc, hs⟩ := h.seen
  have hk : KeepB (fun b => b = gS) w1 w2 := .of_below hb
  exact h.keep hk (hc.below hb hc.lt) hs

theorem reachedL_len {nx : Nat → Nat → List Nat} {l size : Nat} : ∀ {ns : List Nat}, (∀ q ∈ ns, (nx q l).length ≤ 4096) → (reachedL nx l ns).length ≤ ns.length * 4096
  | [], _ => by simp [reachedL]
  | q :: ns, h => by
    have h1 := h q List.mem_cons_self
    have h2 := reachedL_len (size := size) (ns := ns) fun x hx => h x (List.mem_cons_of_mem _ hx)
    unfold reachedL at h2 ⊢
    rw [List.flatMap_cons, List.length_append, List.length_cons]
    omega

/-- What the search hands back: the first word to a goal, or none. -/
def PathPost (I : Nat → Prop) (L : List Nat) (nx : Nat → Nat → List Nat) (G : Nat → Prop) (o : Option (List Nat)) : Prop :=
  match o with
  | some r => FirstW I L nx G r
  | none => ∀ q n, RW I L nx q n → ¬ G n
def pathV (o : Option (List Nat)) : Value := .tuple #[.string (match o with | some r => wordS r | none => ⟨#[]⟩), .bool o.isSome]

theorem seen_start (size : Nat) : SeenAt (madeCells #[.bool false] size) size (fun _ => false) := by
  refine ⟨by simp [madeCells], fun n hn => ?_⟩
  have h1 := toList_madeCells_one (Value.bool false) size
  rw [← Array.getElem?_toList, h1, List.getElem?_replicate, if_pos hn]

theorem fp_start (w : World) (size : Nat) (gv : Value) :
    ∃ w4, (((w.alloc (Obj.cells #[gv] 77)).alloc (Obj.cells (madeCells #[Value.bool false] size) 4)).alloc (Obj.cells #[Value.slice (some ⟨w.heap.size + 1, 0, none⟩) size size] 30)).alloc (Obj.cells #[Value.slice none 0 0] 127) = w4 ∧
      Below w.heap.size w w4 ∧ FPst w w4 size gv (w.heap.size + 1 + 1) w.heap.size (w.heap.size + 1 + 1 + 1) (w.heap.size + 1) (.slice none 0 0) [] (fun _ => false) := by
  refine ⟨_, rfl, by (repeat (first | exact Below.refl _ _ | assumption | refine Below.drew ?_ | refine Below.alloc ?_ (by first | omega | (simp; done) | (simp; omega)) _ | refine Below.setCell ?_ (by first | omega | (simp; done) | (simp; omega)) _)), by (repeat (first | exact Below.refl _ _ | assumption | refine Below.drew ?_ | refine Below.alloc ?_ (by first | omega | (simp; done) | (simp; omega)) _ | refine Below.setCell ?_ (by first | omega | (simp; done) | (simp; omega)) _)), ?_, ?_, ?_, ⟨_, ?_, seen_start size⟩, by omega, by omega, World.ownsRow_nil _ _ _ _, fun x hx => by cases hx⟩
  · have := (Blk.new ((w.alloc (Obj.cells #[gv] 77)).alloc (Obj.cells (madeCells #[Value.bool false] size) 4)) 30 #[Value.slice (some ⟨w.heap.size + 1, 0, none⟩) size size]).alloc (Obj.cells #[Value.slice none 0 0] 127)
    simpa using this
  · exact ((Blk.new w 77 #[gv]).alloc _).alloc _ |>.alloc _
  · have := Blk.new (((w.alloc (Obj.cells #[gv] 77)).alloc (Obj.cells (madeCells #[Value.bool false] size) 4)).alloc (Obj.cells #[Value.slice (some ⟨w.heap.size + 1, 0, none⟩) size size] 30)) 127 #[Value.slice none 0 0]
    simpa using this
  · have := ((Blk.new (w.alloc (Obj.cells #[gv] 77)) 4 (madeCells #[Value.bool false] size)).alloc (Obj.cells #[Value.slice (some ⟨w.heap.size + 1, 0, none⟩) size size] 30)).alloc (Obj.cells #[Value.slice none 0 0] 127)
    simpa using this

set_option maxRecDepth 100000 in
set_option maxHeartbeats 8000000 in
theorem firstPath_any (w : World) (size : Nat) (G : Nat → Bool) (fG : FuncId) (capG : Array Value) (hG : GoalOk w size G fG capG) (L : List Nat) (hL : L.Pairwise (· < ·)) (hL6 : ∀ l ∈ L, l < 6) (nx : Nat → Nat → List Nat) (fN : FuncId) (capN : Array Value) (hN : NextOk w size L nx fN capN)
    (I0 : List Nat) (h0 : I0 ≠ []) (hI : ∀ n ∈ I0, n < size) (hIl : I0.length ≤ 4294967296) (sv lv : Value) (hsv : w.ownsRow 0 3 1 sv I0.length (natVals I0)) (hlv : w.ownsRow 0 3 1 lv L.length (natVals L)) (hsz : size ≤ 1048576) :
    Calls Tryd.prog 72 #[.int .i64 (size : Nat), sv, lv, .func (.func fN) #[] capN, .func (.func fG) #[] capG] w fun e w' => ∃ o, e = .returned (pathV o) ∧ PathPost (fun n => n ∈ I0) L nx (fun n => G n = true) o ∧ Below w.heap.size w w' := by
  obtain ⟨i0, hi, hz0, hz1, hz2⟩ := info_parts infoBoolF
  have hmk := fun W => run_make_rowN (P := Tryd.prog) 30 4 i0 _ Tryd.underlying30 hi hz0 .i64 .i64 size size (Nat.le_refl _) (by rw [hz2]; omega) (by omega) W
  obtain ⟨lA, lc, rfl, hlc, hlc'⟩ := own_slice hlv
  have hLlen : L.length ≤ 6 := by
    have := nodup_bound 6 L (hL.imp fun h => Nat.ne_of_lt h) hL6
    exact this
  replace hsv := hid hsv
  replace hlv := hid hlv
  replace hI := hid hI
  go_enter Tryd.func72, Tryd.ntmps72
  go_wp2_with fail
  obtain ⟨w4, hw4, hb4, hst4⟩ := fp_start w size (.func (.func fG) #[] capG)
  rw [hw4]
  have hz4 : w.heap.size + 1 + 1 + 1 < w4.heap.size := by rw [← hw4]; simp
  clear hw4 hmk
  generalize hbS : w.heap.size + 1 + 1 = bS at *
  generalize hbP : bS + 1 = bP at *
  generalize hgS : w.heap.size + 1 = gS at *
  replace hbS := hid hbS
  replace hbP := hid hbP
  replace hgS := hid hgS
  clear hz4
  have hz4 := hb4.size
  have hsv4 := hid (own_keep hsv.out (.of_below (K := fun _ => False) hb4) fun _ _ h => h)
  replace hst4 := hid hst4
  refine (visit_any w size G fG capG hG bS w.heap.size bP gS (.slice none 0 0) [] (fun _ => false) (-1) 0 sv I0 w4 hst4.out hsv4.out hI.out hIl (by simp)).mono ?_
  rintro e w5 ⟨rfl, sv5, ss5, hst5, hss5, hkp5⟩
  have hb5 : Below w.heap.size w w5 := hst5.below
  obtain ⟨fr0, hfr0⟩ : ∃ fr, fr = frs (fun _ => false) I0 := ⟨_, rfl⟩
  rw [← hfr0] at hst5 hss5 ⊢
  have hf0ne : fr0 ≠ [] := by
    intro e
    obtain ⟨a, ha⟩ := List.exists_mem_of_ne_nil _ h0
    have := (frs_mem (fun _ => false) I0 a).2 ⟨ha, rfl⟩
    rw [← hfr0, e] at this
    cases this
  cases hg0 : fr0.any G
  · obtain ⟨A0, c0, rfl⟩ : ∃ A c, ss5 = [⟨⟨-1, 0, fr0⟩, A, c⟩] := by
      rcases hss5 with ⟨e, _⟩ | ⟨_, A, c, e⟩
      · exact absurd e hf0ne
      · exact ⟨A, c, by simpa using e⟩
    have hSB0 : Hid (SB (fun n => n ∈ I0) L nx G size [⟨-1, 0, fr0⟩] [[]] (fun n => fr0.contains n) 0 0) := hid (by
      rw [hfr0]
      exact SB.begin h0 hI.out (by rw [← hfr0]; exact hg0))
    have hst5' : Hid (FPst w w5 size (.func (.func fG) #[] capG) bS w.heap.size bP gS sv5 [⟨⟨-1, 0, fr0⟩, A0, c0⟩] (fun n => fr0.contains n)) := hid (by simpa using hst5)
    replace hfr0 := hid hfr0
    replace hss5 := hid hss5
    replace hst5 := hid hst5
    replace hf0ne := hid hf0ne
    replace h0 := hid h0
    replace hg0 := hid hg0
    replace hkp5 := hid hkp5
    go_wp2_with (rw [hg0.out])
    go_loopw [15] (fun iv wr => ∃ (i : Nat) (sv : Value) (ss : List StV) (ws : List (List Nat)) (S : Nat → Bool), iv = .int .i64 i ∧ i ≤ ss.length ∧ SrchAt w size G L nx I0 (.func (.func fG) #[] capG) bS w.heap.size bP gS wr i 0 sv ss ws S) (fun iv _ => size + 1 - (intOf iv).toNat)
    case atStart => exact ⟨0, sv5, _, _, _, rfl, by simp, hst5'.out, hSB0.out⟩
    case round =>
      obtain ⟨i, sv, ss, ws, S, rfl, hi, hst, hSB⟩ := hrel
      have hbd := hSB.bound
      have hpos := hSB.bfs.pos
      have hwl := hSB.bfs.len
      simp only [List.length_map] at hbd hpos hwl
      have p0 := hst.blkP.cell 0
      simp only [List.getElem?_toArray, List.getElem?_cons_zero] at p0
      obtain ⟨gv, cv, rfl, hgv, hgv', hcv, hcv', hcell⟩ := own_steps hst.own hpos
      replace hst := hid hst
      replace hSB := hid hSB
      replace hcell := hid hcell
      by_cases hlt : i < ss.length
      · go_wp2_with fail
        go_loopw [35] (fun kv wr => ∃ (k : Nat) (sv : Value) (ss : List StV) (ws : List (List Nat)) (S : Nat → Bool), kv = .int .i64 k ∧ k ≤ L.length ∧ i < ss.length ∧ SrchAt w size G L nx I0 (.func (.func fG) #[] capG) bS w.heap.size bP gS wr i k sv ss ws S) (fun kv _ => L.length - (intOf kv).toNat)
        case atStart => exact ⟨0, _, _, _, _, rfl, by omega, hlt, hst.out, hSB.out⟩
        case round =>
          clear hcell hst hSB p0 hgv hgv' hcv hcv' hbd hpos hwl
          obtain ⟨k, sv, ss, ws, S, rfl, hk, hi', hst, hSB⟩ := hrel
          have hbd := hSB.bound
          have hpos := hSB.bfs.pos
          have hwl := hSB.bfs.len
          simp only [List.length_map] at hbd hpos hwl
          by_cases hkl : k < L.length
          · have hlw := own_keep hlv.out (.of_below (K := fun _ => False) hst.below) fun _ _ h => h
            obtain ⟨gl, cl, hve, -, -, -, -, hlcell⟩ := own_shape hlw (by omega)
            injection hve with hv1 hv2 hv3
            subst hv1
            subst hv3
            have l0 := hlcell k _ (show (natVals L)[k]? = some (.int .i64 (L[k] : Nat)) from by unfold natVals; simp [hkl])
            have hlL : L[k] ∈ L := List.getElem_mem hkl
            obtain ⟨l, hll⟩ : ∃ l, l = L[k] := ⟨_, rfl⟩
            rw [← hll] at l0 hlL
            have p0 := hst.blkP.cell 0
            simp only [List.getElem?_toArray, List.getElem?_cons_zero] at p0
            obtain ⟨gv, cv, rfl, hgv, hgv', hcv, hcv', hcell⟩ := own_steps hst.own hpos
            obtain ⟨-, -, c2⟩ := hcell i hi'
            have hnodes := hst.nodes ss[i] (List.getElem_mem hi')
            have hnsz : ss[i].st.nodes.length ≤ size := hSB.nodesLen (x := ss[i].st) (List.mem_map.2 ⟨_, List.getElem_mem hi', rfl⟩)
            have hnlt : ∀ n ∈ ss[i].st.nodes, n < size := hSB.small ss[i].st (List.mem_map.2 ⟨_, List.getElem_mem hi', rfl⟩)
            obtain ⟨ns, hnse⟩ : ∃ ns, ns = ss[i].st.nodes := ⟨_, rfl⟩
            obtain ⟨nA, hnA⟩ : ∃ nA, nA = ss[i].A := ⟨_, rfl⟩
            obtain ⟨nc, hnc⟩ : ∃ nc, nc = ss[i].c := ⟨_, rfl⟩
            rw [← hnse, ← hnA, ← hnc] at c2 hnodes
            rw [← hnse] at hnsz hnlt
            replace hll := hid hll
            replace hnse := hid hnse
            replace hnA := hid hnA
            replace hnc := hid hnc
            replace hst := hid hst
            replace hSB := hid hSB
            replace hcell := hid hcell
            replace hlcell := hid hlcell
            replace hlw := hid hlw
            replace hnodes := hid hnodes
            replace hnlt := hid hnlt
            have i1 : (0 : Int) ≤ (i : Int) := by omega
            have i2 : (i : Int) < (ss.length : Int) := by omega
            have hrun := hN.run
            obtain ⟨wo, rfl⟩ : ∃ wo : World, wo = wr := ⟨_, rfl⟩
            go_wp2_with fail
            go_loopw [18, 45] (fun rv jv wr2 => ∃ j : Nat, jv = .int .i64 j ∧ j ≤ ns.length ∧ wr2.ownsRow wo.heap.size 3 1 rv (reachedL nx l (ns.take j)).length (natVals (reachedL nx l (ns.take j))) ∧ Below wo.heap.size wo wr2) (fun _ jv _ => ns.length - (intOf jv).toNat)
            case atStart => exact ⟨0, rfl, by omega, World.ownsRow_nil _ _ _ _, Below.refl _ _⟩
            case round =>
              obtain ⟨j, rfl, hj, hown, hbo⟩ := hrel
              by_cases hjl : j < ns.length
              · have hnr := own_keep hnodes.out (.of_below (K := fun _ => False) hbo) fun _ _ h => h
                obtain ⟨gn, cn, hve, -, -, -, -, hncell⟩ := own_shape hnr (by omega)
                injection hve with hv1 hv2 hv3
                subst hv1
                subst hv3
                have n0 := hncell j _ (show (natVals ns)[j]? = some (.int .i64 (ns[j] : Nat)) from by unfold natVals; simp [hjl])
                have hql := hnlt.out ns[j] (List.getElem_mem hjl)
                have htk := reachedL_snoc (nx := nx) l (ns.take j) ns[j]
                rw [← List.take_succ_eq_append_getElem hjl] at htk
                obtain ⟨q, hq⟩ : ∃ q, q = ns[j] := ⟨_, rfl⟩
                rw [← hq] at n0 hql htk
                have hrl : (reachedL nx l (ns.take j)).length ≤ 4294967296 := by
                  refine Nat.le_trans (reachedL_len (size := size) fun x hx => hN.len x (hnlt.out x (List.mem_of_mem_take hx)) l hlL) ?_
                  have : (ns.take j).length ≤ 1048576 := by simp; omega
                  omega
                have hbw := hst.out.below.trans (hbo.mono hst.out.below.size)
                have hz1 := hst.out.below.size
                have hz2 := hbo.size
                replace hnr := hid hnr
                replace hncell := hid hncell
                replace hq := hid hq
                replace htk := hid htk
                replace hown := hid hown
                replace hrl := hid hrl
                go_wp2_with fail
                refine (hN.call _ q l _ _ wo.heap.size hbw hql hlL hrl.out hz1 hz2 hown.out).mono ?_
                rintro e w6 ⟨v6, rfl, hown6, hkp6⟩
                have hb6 : Hid (Below wo.heap.size wo w6) := hid (hkp6.below hbo hz2 fun b hb => own_block hown.out b hb)
                replace hown6 := hid hown6
                replace hkp6 := hid hkp6
                go_wp2_with fail
                go_roundw
                case rel => exact ⟨j + 1, by go_num, by omega, by rw [htk.out]; exact hown6.out, hb6.out⟩
                case measure => simp [intOf]; omega
              · have htk : ns.take j = ns := List.take_of_length_le (by omega)
                rw [htk] at hown
                have hbw := hst.out.below.trans (hbo.mono hst.out.below.size)
                have hst2 := hid (hst.out.later hbo)
                obtain ⟨R, hR⟩ : ∃ R, R = reachedL nx l ns := ⟨_, rfl⟩
                rw [← hR] at hown
                have hRl : R.length ≤ 4294967296 := by
                  rw [hR]
                  refine Nat.le_trans (reachedL_len (size := size) fun x hx => hN.len x (hnlt.out x hx) l hlL) ?_
                  omega
                have hRs : Hid (∀ n ∈ R, n < size) := hid fun n hn => by
                  rw [hR] at hn
                  obtain ⟨q, hq, hnq⟩ := reachedL_mem.1 hn
                  exact hN.lt q (hnlt.out q hq) l hlL n hnq
                replace htk := hid htk
                replace hR := hid hR
                have hown0 := hid (own_base hown (Nat.zero_le _))
                replace hown := hid hown
                go_wp2_with fail
                refine (visit_any w size G fG capG hG bS w.heap.size bP gS _ ss S (i : Int) l _ R wr hst2.out hown0.out hRs.out hRl (by omega)).mono ?_
                rintro e w7 ⟨rfl, sv7, ss7, hst7, hss7, hkp7⟩
                have hwi : i < ws.length := by omega
                obtain ⟨fr, hfr⟩ : ∃ fr, fr = frs S R := ⟨_, rfl⟩
                rw [← hfr] at hst7 hss7 ⊢
                have hil : i < (ss.map (fun x : StV => x.st)).length := by simpa using hi'
                have hfr' : Hid (fr = frs S (reachedL nx (L[k]'hkl) ((ss.map (fun x : StV => x.st))[i]'hil).nodes)) := hid (by
                  rw [hfr, hR.out, hnse.out, hll.out, List.getElem_map])
                replace hil := hid hil
                replace hfr := hid hfr
                replace hkp7 := hid hkp7
                cases hg : fr.any G
                · have hnx : Hid (∃ ws' , SrchAt w size G L nx I0 (.func (.func fG) #[] capG) bS w.heap.size bP gS w7 i (k + 1) sv7 ss7 ws' (fun n => S n || fr.contains n) ∧ i < ss7.length) := hid (by
                    rcases hss7 with ⟨e, rfl⟩ | ⟨hne, A7, c7, rfl⟩
                    · refine ⟨ws, ⟨hst7, ?_⟩, hi'⟩
                      have := hSB.out.old hL hil.out hkl (by rw [← hfr'.out]; exact e)
                      have hS : (fun n => S n || fr.contains n) = S := by funext n; rw [e]; simp
                      rw [hS]
                      exact this
                    · have := hSB.out.add hL hil.out hwi hkl (fun q hq n hn => hN.lt q hq _ (List.getElem_mem hkl) n hn) hfr'.out hne hg
                      refine ⟨ws ++ [l :: ws[i]], ⟨hst7, ?_⟩, by simp; omega⟩
                      rw [List.map_append, hll.out]
                      exact this)
                  replace hst7 := hid hst7
                  replace hss7 := hid hss7
                  replace hg := hid hg
                  go_wp2_with (rw [hg.out])
                  go_roundw
                  case rel =>
                    obtain ⟨ws', h1, h2⟩ := hnx.out
                    exact ⟨k + 1, sv7, ss7, ws', _, by go_num, by omega, h2, h1⟩
                  case measure => simp [intOf]; omega
                · have hF := hid (hSB.out.found hL hil.out hwi hkl (by rw [← hfr'.out]; exact hg))
                  obtain ⟨A7, c7, rfl⟩ : ∃ A c, ss7 = ss ++ [⟨⟨i, l, fr⟩, A, c⟩] := by
                    rcases hss7 with ⟨e, _⟩ | ⟨_, A, c, e⟩
                    · rw [e] at hg; cases hg
                    · exact ⟨A, c, e⟩
                  have hpath := hid (PathOk.add (PathOk.of hSB.out.bfs hL6) hwi (hL6 l hlL) ⟨⟨i, l, fr⟩, A7, c7⟩ rfl rfl)
                  obtain ⟨n, hn⟩ : ∃ n, ss.length = n + 1 := ⟨ss.length - 1, by omega⟩
                  have p7 := hst7.blkP.cell 0
                  simp only [List.getElem?_toArray, List.getElem?_cons_zero] at p7
                  obtain ⟨g7, d7, rfl, hg7, hg7', hd7, hd7', hcell7⟩ := own_steps hst7.own (by simp)
                  have hb7 := hst7.below
                  have hlast : Hid ((ws ++ [l :: ws[i]])[n + 1]'(by simp; omega) = l :: ws[i]) := hid (by
                    have : n + 1 = ws.length := by omega
                    simp [this])
                  have hword : Hid (L[k] :: ws[i] = l :: ws[i]) := hid (by rw [hll.out])
                  replace hst7 := hid hst7
                  replace hss7 := hid hss7
                  replace hg := hid hg
                  have hn' := hid (show (ss ++ [(⟨⟨i, l, fr⟩, A7, c7⟩ : StV)]).length = n + 2 by simp; omega)
                  have hc7 := hid (show ∀ j (hj : j < (ss ++ [(⟨⟨i, l, fr⟩, A7, c7⟩ : StV)]).length), w7.cell? ⟨g7, j * 3, none⟩ = some (.int .i64 (ss ++ [(⟨⟨i, l, fr⟩, A7, c7⟩ : StV)])[j].st.par) ∧ w7.cell? ⟨g7, j * 3 + 1, none⟩ = some (.int .i64 ((ss ++ [(⟨⟨i, l, fr⟩, A7, c7⟩ : StV)])[j].st.let_ : Nat)) from fun j hj => ⟨(hcell7 j hj).1, (hcell7 j hj).2.1⟩)
                  have hls := hid (show (ss ++ [(⟨⟨i, l, fr⟩, A7, c7⟩ : StV)]).length ≤ 4294967296 by simp; omega)
                  have hwl' := hid (show n + 1 < (ws ++ [l :: ws[i]]).length by simp; omega)
                  replace hcell7 := hid hcell7
                  replace hn := hid hn
                  replace hd7 := hid hd7
                  go_wp2_with (rw [hg.out])
                  refine (pathWord_any (ss ++ [⟨⟨i, l, fr⟩, A7, c7⟩]) (ws ++ [l :: ws[i]]) g7 d7 n _ w7 hn'.out hn'.out hls.out hpath.out hwl'.out hd7.out hd7' hg7' hc7.out).mono ?_
                  rintro e w8 ⟨he, hb8⟩
                  rw [hlast.out] at he
                  subst he
                  have hb9 := hb7.trans (hb8.mono hb7.size)
                  go_wp2_with fail
                  go_ret2
                  exact ⟨some (l :: ws[i]), rfl, by rw [← hword.out]; exact hF.out, hb9⟩
          · have hov := hid (show SrchAt w size G L nx I0 (.func (.func fG) #[] capG) bS w.heap.size bP gS wr (i + 1) 0 sv ss ws S from ⟨hst, hSB.over (by omega)⟩)
            replace hst := hid hst
            replace hSB := hid hSB
            go_wp2_with fail
            go_roundw
            case rel => exact ⟨i + 1, sv, ss, ws, S, by go_num, by omega, hov.out⟩
            case measure => simp [intOf]; omega
      · have hN := hid (show ∀ q n, RW (fun n => n ∈ I0) L nx q n → ¬ G n = true from by
          have := hSB.out
          obtain rfl : i = (ss.map (·.st)).length := by simp; omega
          exact this.none)
        have hbf := hst.out.below
        go_wp2
        go_ret2
        exact ⟨none, rfl, hN.out, hbf⟩
  · have hfin := hid (first_now (L := L) (nx := nx) (G := G) (I0 := I0) (by rw [← hfr0]; exact hg0))
    replace hfr0 := hid hfr0
    replace hss5 := hid hss5
    replace hst5 := hid hst5
    replace hf0ne := hid hf0ne
    replace h0 := hid h0
    replace hkp5 := hid hkp5
    go_wp2_with fail
    go_ret2
    exact ⟨some [], rfl, hfin.out, hb5⟩

end Go.Proofs.YtolnlkccbndkcaaDoor

/- Plain: the states of an automaton of sets, and the words that lead there. -/
namespace Go.Proofs.YtolnlkccbndkcaaDoor
open AG

theorem rowN_in {nx : Nat → Nat → Nat} {a y : Nat} : ∀ (L ns : List Nat), y ∈ rowN nx a ns L → y ∈ ns ∨ ∃ l ∈ L, y = nx a l
  | [], ns, h => .inl h
  | l :: L, ns, h => by
    rcases rowN_in L (addN ns (nx a l)) h with h | ⟨k, hk, e⟩
    · unfold addN at h
      split at h
      · exact .inl h
      · rcases List.mem_append.1 h with h | h
        · exact .inl h
        · exact .inr ⟨l, List.mem_cons_self, List.mem_singleton.1 h⟩
    · exact .inr ⟨k, List.mem_cons_of_mem _ hk, e⟩
theorem nsAt_word {nx : Nat → Nat → Nat} {L : List Nat} {n0 : Nat} : ∀ i y, y ∈ nsAt nx L n0 i → ∃ r, (∀ l ∈ r, l ∈ L) ∧ r.length ≤ i ∧ dW nx n0 r = y
  | 0, y, h => ⟨[], by simp, Nat.le_refl _, (List.mem_singleton.1 h).symm⟩
  | i + 1, y, h => by
    by_cases hi : i < (nsAt nx L n0 i).length
    · rw [nsAt_succ hi] at h
      rcases rowN_in L _ h with h | ⟨l, hl, rfl⟩
      · obtain ⟨r, h1, h2, h3⟩ := nsAt_word i y h
        exact ⟨r, h1, by omega, h3⟩
      · obtain ⟨r, h1, h2, h3⟩ := nsAt_word i _ (List.getElem_mem hi)
        refine ⟨l :: r, fun k hk => ?_, by simpa using h2, ?_⟩
        · rcases List.mem_cons.1 hk with rfl | hk
          · exact hl
          · exact h1 k hk
        · show nx (dW nx n0 r) l = _
          rw [h3]
    · rw [nsAt_stop (by omega) 1] at h
      obtain ⟨r, h1, h2, h3⟩ := nsAt_word i y h
      exact ⟨r, h1, by omega, h3⟩
theorem rlt_len : ∀ {r q : List Nat}, rlt r q → r.length ≤ q.length
  | [], _, _ => Nat.zero_le _
  | _ :: _, [], h => h.elim
  | _ :: r, _ :: q, h => by
    rcases h with h | ⟨rfl, _⟩
    · have := rlt_len h
      simpa using this
    · simp
theorem rle_len {r q : List Nat} (h : rle r q) : r.length ≤ q.length := by
  rcases h with h | rfl
  · exact rlt_len h
  · exact Nat.le_refl _

theorem aft_wordS {s : Sy} {r : List Nat} (hs : sysOk s = true) (hr : ∀ l ∈ r, l ∈ letters s.al) (hl : r.length ≤ 50000) : aft s (wordS r) = setW s r := by
  have hA : alphaOk s.al = true := alphaOk_range.2 (sysOk_alpha hs)
  have hw := wordS_within hA hr hl
  have e := runL_setW s r fun l h => (letters_ok.1 (hr l h)).1
  unfold aft
  rw [hs, hw, runTo_all, wordS_list, e]
  simp

/-- The set that a state stands for. -/
noncomputable def setAt (s : Sy) (i : Nat) : Nat := (nsAt (prNx s (hidA s.al s.al)) (letters s.al) (reachSet s (hidA s.al s.al) 1) 12).getD i 0
theorem setAt_pr {s : Sy} {x : List Nat × List (List Nat)} (h : prNum s s.al = some x) {i : Nat} (hi : i < x.1.length) : setAt s i = x.1[i] := by
  have e := (numRes_spec h).1
  unfold setAt
  rw [← e, List.getD_eq_getElem?_getD, List.getElem?_eq_getElem hi]
  rfl
theorem prA_len {s : Sy} {al : Int} {x : List Nat × List (List Nat)} (h : prNum s al = some x) : (prAu al x).nx.length = x.1.length := by
  show (toRows x.2).length = _
  rw [toRows_len, (numRes_len h).2.1]
theorem setAt_inj {s : Sy} (h : prK s s.al = true) {i k : Nat} (hi : i < (prA s s.al).nx.length) (hk : k < (prA s s.al).nx.length) (e : setAt s i = setAt s k) : i = k := by
  obtain ⟨_, x, hx, ea⟩ := prK_true h
  rw [ea, prA_len hx] at hi hk
  rw [setAt_pr hx hi, setAt_pr hx hk] at e
  have hnd := (numRes_spec hx).2.2.1
  have h1 := hnd.idxOf_getElem i hi
  have h2 := hnd.idxOf_getElem k hk
  rw [e, h2] at h1
  exact h1.symm
/-- The first word that leads to a state. -/
theorem accWord_pr {s : Sy} (h : prK s s.al = true) {i : Nat} (hi : i < (prA s s.al).nx.length) {o : Option (List Nat)}
    (hp : PathPost (fun n => n ∈ [0]) (letters (prA s s.al).al) (fun q l => [goA (prA s s.al) q l]) (fun n => decide (n = i) = true) o)
    (hrw : ∀ r n, RW (fun n => n ∈ [0]) (letters (prA s s.al).al) (fun q l => [goA (prA s s.al) q l]) r n ↔ (∀ l ∈ r, l ∈ letters (prA s s.al).al) ∧ n = runA (prA s s.al) 0 r) :
    ∃ r, o = some r ∧ r.length ≤ 12 ∧ aft s (wordS r) = setAt s i ∧ (prA s s.al).ac.getD i false = decide (setAt s i ≠ 0) := by
  obtain ⟨hk, x, hx, ea⟩ := prK_true h
  obtain ⟨hs, hal, _⟩ := prOk_parts hk
  have hA : alphaOk s.al = true := alphaOk_range.2 hal
  rw [ea] at hi hp hrw ⊢
  have hpal : (prAu s.al x).al = s.al := rfl
  rw [hpal] at hp hrw
  rw [prA_len hx] at hi
  have hmem := List.getElem_mem hi
  have hnd := (numRes_spec hx).2.2.1
  obtain ⟨q, hq1, hq2, hq3⟩ := nsAt_word 12 x.1[i] (by rw [← (numRes_spec hx).1]; exact hmem)
  have hqr : runA (prAu s.al x) 0 q = i := by
    rw [runA_pr hx q hq1]
    show x.1.idxOf (dW _ _ q) = i
    rw [hq3]
    exact hnd.idxOf_getElem i hi
  have hqw := (hrw q i).2 ⟨hq1, hqr.symm⟩
  cases o with
  | none => exact absurd (by simp) (hp q i hqw)
  | some r =>
    obtain ⟨⟨n, hn, hg⟩, hf⟩ := hp
    obtain ⟨h1, h2⟩ := (hrw r n).1 hn
    have hni : n = i := by simpa using hg
    have hlen := Nat.le_trans (rle_len (hf q i hqw (by simp))) hq2
    have hset : setW s r = x.1[i] := by
      rw [← prW_self hal.1 r]
      have h3 := runA_pr hx r h1
      have h4 : prW s s.al r ∈ x.1 := dW_mem hx r h1
      generalize prW s s.al r = P at h3 h4 ⊢
      have h5 := List.idxOf_lt_length_iff.2 h4
      have h6 : x.1.idxOf P = i := by rw [← h3, ← h2, hni]
      have h7 : x.1[x.1.idxOf P]? = some P := by
        rw [List.getElem?_eq_getElem h5, List.getElem_idxOf h5]
      rw [h6, List.getElem?_eq_getElem hi] at h7
      exact (Option.some.inj h7).symm
    refine ⟨r, rfl, hlen, ?_, ?_⟩
    · rw [setAt_pr hx hi, ← hset]
      exact aft_wordS hs h1 (Nat.le_trans hlen (by decide))
    · rw [setAt_pr hx hi]
      show (x.1.map fun S => decide (S ≠ 0)).getD i false = _
      rw [getD_map_of_lt _ _ _ _ hi]

end Go.Proofs.YtolnlkccbndkcaaDoor
