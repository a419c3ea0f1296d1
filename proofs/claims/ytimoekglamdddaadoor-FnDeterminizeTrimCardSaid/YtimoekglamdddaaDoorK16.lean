/- Lemmas, part 16: several texts in one. -/
import Derived.Test.YtimoekglamdddaaDoorK13
import Derived.Test.YtimoekglamdddaaDoorK3
import Derived.Test.YtimoekglamdddaaDoorK12
import Derived.Test.YtimoekglamdddaaDoorK6
import Derived.Test.YtimoekglamdddaaDoorK11
import Derived.Deep.DeepCutAuto
import Derived.Test.YtimoekglamdddaaDoorK7
set_option linter.unusedSimpArgs false
set_option linter.unusedVariables false

/- Plain: trimming keeps the automaton. -/
namespace AG

/-- The set of the ranks of a set. -/
noncomputable def rankS (R S : Nat) : Nat := bitsOf (fun j => ∃ q, S.testBit q = true ∧ rankN R q = j) 16
def InR (R S : Nat) : Prop := S < 65536 ∧ ∀ q, S.testBit q = true → R.testBit q = true
theorem rankS_bit {R S j : Nat} : (rankS R S).testBit j = true ↔ j < 16 ∧ ∃ q, S.testBit q = true ∧ rankN R q = j := bitsOf_testBit _ 16 j
theorem rankS_mem {R S q : Nat} (hS : S < 65536) (hq : S.testBit q = true) : (rankS R S).testBit (rankN R q) = true := by
  have := testBit_lt (n := 16) hS hq
  have h2 := rankN_le R q
  exact rankS_bit.2 ⟨by omega, q, hq, rfl⟩
theorem rankS_back {R S q : Nat} (hS : InR R S) (hR : R.testBit q = true) (h : (rankS R S).testBit (rankN R q) = true) : S.testBit q = true := by
  obtain ⟨_, q', h1, h2⟩ := rankS_bit.1 h
  rwa [rank_inj (hS.2 q' h1) hR h2] at h1
theorem rankS_inj {R : Nat} : ∀ S T, InR R S → InR R T → rankS R S = rankS R T → S = T := by
  intro S T hS hT e
  refine Nat.eq_of_testBit_eq fun q => ?_
  rw [Bool.eq_iff_iff]
  constructor
  · intro h
    exact rankS_back hT (hS.2 q h) (by rw [← e]; exact rankS_mem hS.1 h)
  · intro h
    exact rankS_back hS (hT.2 q h) (by rw [e]; exact rankS_mem hT.1 h)
theorem rankS_zero (R : Nat) : rankS R 0 = 0 := by
  refine Nat.eq_of_testBit_eq fun q => ?_
  rw [Nat.zero_testBit, ← Bool.not_eq_true]
  intro h
  obtain ⟨_, q', h1, _⟩ := rankS_bit.1 h
  simp at h1
theorem rankS_one (R : Nat) : rankS R 1 = 1 := by
  refine Nat.eq_of_testBit_eq fun q => ?_
  rw [Bool.eq_iff_iff, rankS_bit]
  constructor
  · rintro ⟨_, q', h1, h2⟩
    have h3 : q' = 0 := by
      have := testBit_lt (n := 1) (show (1 : Nat) < 2 ^ 1 by omega) h1
      omega
    subst h3
    have h4 : q = 0 := by have := rankN_le R 0; omega
    subst h4
    rfl
  · intro h
    have h3 : q = 0 := by
      have := testBit_lt (n := 1) (show (1 : Nat) < 2 ^ 1 by omega) h
      omega
    subst h3
    exact ⟨by omega, 0, rfl, by have := rankN_le R 0; omega⟩
theorem step_rank {s : Sy} (hs : sysOk s = true) {S : Nat} (hS : InR (reachAll s) S) (l : Nat) : InR (reachAll s) (stepSet s S (l : Int)) ∧ stepSet (trimSy s (reachAll s)) (rankS (reachAll s) S) (l : Int) = rankS (reachAll s) (stepSet s S (l : Int)) := by
  have hin := sysOk_in hs
  have hstep : ∀ e ∈ s.es, S.testBit e.f.toNat = true → (reachAll s).testBit e.t.toNat = true := fun e he hf => reach_step hs he (hS.2 _ hf)
  refine ⟨⟨stepSet_lt _ _ _, fun q hq => ?_⟩, ?_⟩
  · unfold stepSet at hq
    rw [bitsOf_testBit] at hq
    obtain ⟨_, e, he, _, h2, h3⟩ := hq
    rw [← h3]
    exact hstep e he h2
  · refine Nat.eq_of_testBit_eq fun j => ?_
    rw [Bool.eq_iff_iff, rankS_bit]
    unfold stepSet
    rw [bitsOf_testBit]
    constructor
    · rintro ⟨hj, e', he', h1, h2, h3⟩
      obtain ⟨e, he, hf, ht, rfl⟩ := trim_mem.1 he'
      have h2' : (rankS (reachAll s) S).testBit (rankN (reachAll s) e.f.toNat) = true := by simpa [trimE] using h2
      have hSf := rankS_back hS hf h2'
      refine ⟨hj, e.t.toNat, ?_, by simpa [trimE] using h3⟩
      rw [bitsOf_testBit]
      have := hin e he
      exact ⟨by omega, e, he, h1, hSf, rfl⟩
    · rintro ⟨hj, q, hq, rfl⟩
      rw [bitsOf_testBit] at hq
      obtain ⟨hq16, e, he, h1, h2, rfl⟩ := hq
      refine ⟨hj, trimE (reachAll s) e, trim_mem.2 ⟨e, he, hS.2 _ h2, hstep e he h2, rfl⟩, h1, ?_, by simp [trimE]⟩
      have := rankS_mem (R := reachAll s) hS.1 h2
      simpa [trimE] using this
theorem pr_trim {s : Sy} (hs : sysOk s = true) : prA (trimSy s (reachAll s)) s.al = prA s s.al ∧ prK (trimSy s (reachAll s)) s.al = prK s s.al := by
  have hal := sysOk_alpha hs
  have htok := trim_ok hs
  have hnx : ∀ u : Sy, prNx u 0 = fun (S l : Nat) => stepSet u S (l : Int) := fun u => by
    funext S l
    unfold prNx
    exact reach_none u (stepSet_lt _ _ _)
  have hnum : prNum (trimSy s (reachAll s)) s.al = (prNum s s.al).map fun x => (x.1.map (rankS (reachAll s)), x.2) := by
    unfold prNum
    rw [show (trimSy s (reachAll s)).al = s.al from rfl, hid_self hal.1, reach_none s (by omega), reach_none _ (by omega), hnx, hnx]
    have := numRes_map (f := rankS (reachAll s)) (nx := fun (S l : Nat) => stepSet s S (l : Int)) (nx' := fun (S l : Nat) => stepSet (trimSy s (reachAll s)) S (l : Int)) (P := InR (reachAll s)) (L := letters s.al) (n0 := 1) (lim := 12)
      ⟨by omega, fun q hq => by
        have : q = 0 := by
          have := testBit_lt (n := 1) (show (1 : Nat) < 2 ^ 1 by omega) hq
          omega
        rw [this]; exact reach_zero⟩ rankS_inj fun S hS l _ => step_rank hs hS l
    rw [rankS_one] at this
    exact this
  have hP : ∀ x, prNum s s.al = some x → ∀ S ∈ x.1, InR (reachAll s) S := fun x hx S hS => by
    obtain ⟨e, _⟩ := numRes_spec hx
    rw [e] at hS
    rw [hid_self hal.1, reach_none s (by omega), hnx] at hS
    exact nsAt_all (P := InR (reachAll s)) ⟨by omega, fun q hq => by
        have : q = 0 := by
          have := testBit_lt (n := 1) (show (1 : Nat) < 2 ^ 1 by omega) hq
          omega
        rw [this]; exact reach_zero⟩ (fun S hS l _ => (step_rank hs hS l).1) 12 S hS
  have hk := prOk_self hs
  have hkt : prOk (trimSy s (reachAll s)) s.al = true := prOk_self htok
  cases hn : prNum s s.al with
  | none =>
    rw [hn] at hnum
    rw [(prA_none hn).1, (prA_none hn).2, (prA_none hnum).1, (prA_none hnum).2]
    exact ⟨rfl, rfl⟩
  | some x =>
    rw [hn] at hnum
    rw [(prA_some hk hn).1, (prA_some hk hn).2, (prA_some hkt hnum).1, (prA_some hkt hnum).2]
    refine ⟨?_, rfl⟩
    show Au.mk s.al (toRows x.2) ((x.1.map (rankS (reachAll s))).map fun S => decide (S ≠ 0)) = Au.mk s.al (toRows x.2) (x.1.map fun S => decide (S ≠ 0))
    refine congrArg (Au.mk s.al (toRows x.2)) ?_
    rw [List.map_map]
    refine List.map_congr_left fun S hS => ?_
    have hS' := hP x hn S hS
    show decide (rankS (reachAll s) S ≠ 0) = decide (S ≠ 0)
    rw [Bool.eq_iff_iff]
    simp only [decide_eq_true_eq]
    refine not_congr ⟨fun h => rankS_inj S 0 hS' ⟨by omega, fun q hq => by simp at hq⟩ (by rw [h, rankS_zero]), fun h => by rw [h, rankS_zero]⟩

end AG

/- math/bits.OnesCount on small numbers; the program's rank. -/
namespace Go.Proofs.YtimoekglamdddaaDoor
open Go.RowKit Go.BigFrame AG

theorem and_u64 (a b : Nat) (ha : a < 18446744073709551616) (hb : b < 18446744073709551616) : bits .and .u64 (a : Int) (b : Int) = ((a &&& b : Nat) : Int) := by
  have hx : a &&& b < 2 ^ 64 := Nat.and_lt_two_pow _ (by omega)
  show IntKind.u64.wrap ((BitVec.ofInt 64 (a : Int) &&& BitVec.ofInt 64 (b : Int)).toNat : Int) = _
  rw [BitVec.toNat_and, BitVec.ofInt_natCast, BitVec.ofInt_natCast, BitVec.toNat_ofNat, BitVec.toNat_ofNat, Nat.mod_eq_of_lt (by omega), Nat.mod_eq_of_lt (by omega), IntKind.wrap_u64]
  omega
theorem wrap_u64n (a b : Nat) (h : a + b < 18446744073709551616) : IntKind.u64.wrap ((a : Int) + (b : Int)) = ((a + b : Nat) : Int) := by
  rw [IntKind.wrap_u64]
  omega

set_option maxHeartbeats 4000000 in
theorem onesCount64_any (x : Nat) (hx : x < 65536) (w : World) :
    Calls Tryd.prog 161 #[.int .u64 x] w fun e w' => e = .returned (.int .i64 (popE x : Nat)) ∧ w = w' := by
  have hp := hid (pop_steps x hx)
  obtain ⟨a1, ha1⟩ : ∃ a, a = x / 2 &&& 6148914691236517205 := ⟨_, rfl⟩
  obtain ⟨a2, ha2⟩ : ∃ a, a = x &&& 6148914691236517205 := ⟨_, rfl⟩
  have l1 : a1 ≤ x / 2 := by rw [ha1]; exact Nat.and_le_left
  have l2 : a2 ≤ x := by rw [ha2]; exact Nat.and_le_left
  have f1 : bits .and .u64 ((x : Int) / 2) 6148914691236517205 = (a1 : Nat) := by
    have := and_u64 (x / 2) 6148914691236517205 (by omega) (by omega)
    rw [← ha1] at this
    exact this
  have f2 : bits .and .u64 (x : Int) 6148914691236517205 = (a2 : Nat) := by
    have := and_u64 x 6148914691236517205 (by omega) (by omega)
    rw [← ha2] at this
    exact this
  obtain ⟨x1, hx1⟩ : ∃ a, a = a1 + a2 := ⟨_, rfl⟩
  have f3 : IntKind.u64.wrap ((a1 : Int) + (a2 : Int)) = (x1 : Nat) := by rw [wrap_u64n a1 a2 (by omega), hx1]
  obtain ⟨b1, hb1⟩ : ∃ a, a = x1 / 4 &&& 3689348814741910323 := ⟨_, rfl⟩
  obtain ⟨b2, hb2⟩ : ∃ a, a = x1 &&& 3689348814741910323 := ⟨_, rfl⟩
  have m1 : b1 ≤ x1 / 4 := by rw [hb1]; exact Nat.and_le_left
  have m2 : b2 ≤ x1 := by rw [hb2]; exact Nat.and_le_left
  have f4 : bits .and .u64 ((x1 : Int) / 4) 3689348814741910323 = (b1 : Nat) := by
    have := and_u64 (x1 / 4) 3689348814741910323 (by omega) (by omega)
    rw [← hb1] at this
    exact this
  have f5 : bits .and .u64 (x1 : Int) 3689348814741910323 = (b2 : Nat) := by
    have := and_u64 x1 3689348814741910323 (by omega) (by omega)
    rw [← hb2] at this
    exact this
  obtain ⟨x2, hx2⟩ : ∃ a, a = b1 + b2 := ⟨_, rfl⟩
  have f6 : IntKind.u64.wrap ((b1 : Int) + (b2 : Int)) = (x2 : Nat) := by rw [wrap_u64n b1 b2 (by omega), hx2]
  obtain ⟨y, hy⟩ : ∃ a, a = x2 / 16 + x2 := ⟨_, rfl⟩
  have f7 : IntKind.u64.wrap ((x2 : Int) / 16 + (x2 : Int)) = (y : Nat) := by
    have := wrap_u64n (x2 / 16) x2 (by omega)
    rw [← hy] at this
    exact this
  obtain ⟨x3, hx3⟩ : ∃ a, a = y &&& 1085102592571150095 := ⟨_, rfl⟩
  have m3 : x3 ≤ y := by rw [hx3]; exact Nat.and_le_left
  have f8 : bits .and .u64 (y : Int) 1085102592571150095 = (x3 : Nat) := by
    have := and_u64 y 1085102592571150095 (by omega) (by omega)
    rw [← hx3] at this
    exact this
  obtain ⟨x4, hx4⟩ : ∃ a, a = x3 + x3 / 256 := ⟨_, rfl⟩
  have f9 : IntKind.u64.wrap ((x3 : Int) + (x3 : Int) / 256) = (x4 : Nat) := by
    have := wrap_u64n x3 (x3 / 256) (by omega)
    rw [← hx4] at this
    exact this
  obtain ⟨x5, hx5⟩ : ∃ a, a = x4 + x4 / 65536 := ⟨_, rfl⟩
  have f10 : IntKind.u64.wrap ((x4 : Int) + (x4 : Int) / 65536) = (x5 : Nat) := by
    have := wrap_u64n x4 (x4 / 65536) (by omega)
    rw [← hx5] at this
    exact this
  obtain ⟨x6, hx6⟩ : ∃ a, a = x5 + x5 / 4294967296 := ⟨_, rfl⟩
  have f11 : IntKind.u64.wrap ((x5 : Int) + (x5 : Int) / 4294967296) = (x6 : Nat) := by
    have := wrap_u64n x5 (x5 / 4294967296) (by omega)
    rw [← hx6] at this
    exact this
  have f12 : IntKind.i64.wrap (x6 : Int) = (x6 : Int) := IntWalk.i64_in _ (by omega)
  have hfin : popE x = x6 &&& 127 := by rw [hp.out, hx6, hx5, hx4, hx3, hy, hx2, hb1, hb2, hx1, ha1, ha2]; rfl
  have f13 : bits .and .i64 (x6 : Int) 127 = ((popE x : Nat) : Int) := by
    have hx : x6 &&& 127 < 2 ^ 7 := Nat.and_lt_two_pow _ (by omega)
    rw [hfin]
    show IntKind.i64.wrap ((BitVec.ofInt 64 (x6 : Int) &&& BitVec.ofInt 64 ((127 : Nat) : Int)).toNat : Int) = _
    rw [BitVec.toNat_and, BitVec.ofInt_natCast, BitVec.ofInt_natCast, BitVec.toNat_ofNat, BitVec.toNat_ofNat, Nat.mod_eq_of_lt (by omega), Nat.mod_eq_of_lt (by omega), IntKind.wrap_i64]
    omega
  clear hp ha1 ha2 hx1 hb1 hb2 hx2 hy hx3 hx4 hx5 hx6 hfin l1 l2 m1 m2 m3
  go_enter Tryd.func161, Tryd.ntmps161
  go_wp2
  go_ret
  exact ⟨rfl, rfl⟩

set_option maxHeartbeats 1000000 in
theorem onesCount_any (x : Nat) (hx : x < 65536) (w : World) :
    Calls Tryd.prog 140 #[.int .u64 x] w fun e w' => e = .returned (.int .i64 (popE x : Nat)) ∧ w = w' := by
  go_enter Tryd.func140, Tryd.ntmps140
  go_wp2_with (go_at_call 161; refine (onesCount64_any x hx _).mono ?_; rintro e w' ⟨rfl, rfl⟩)
  go_ret
  exact ⟨rfl, rfl⟩

end Go.Proofs.YtimoekglamdddaaDoor

/- Ranks: the program's rank, the reference's l2Rank. -/
namespace Go.Proofs.YtimoekglamdddaaDoor
open Go.RowKit Go.BigFrame AG

set_option maxHeartbeats 1000000 in
theorem implRank_any (S n : Nat) (w : World) (hS : S < 65536) (hn : n ≤ 16) :
    Calls Tryd.prog 141 #[.int .i64 (S : Nat), .int .i64 (n : Nat)] w fun e w' => e = .returned (.int .i64 (rankN S n : Nat)) ∧ w = w' := by
  have h2 : 2 ^ n ≤ 2 ^ 16 := Nat.pow_le_pow_right (by omega) hn
  have h3 : 0 < 2 ^ n := Nat.two_pow_pos n
  have f1 := wrap_pow (n := n) (by omega)
  obtain ⟨M, hM⟩ : ∃ M, M = 2 ^ n - 1 := ⟨_, rfl⟩
  have f2 : (((2 ^ n : Nat) : Int) - 1) = (M : Int) := by omega
  have f3 := bits_andN S M hS (by omega)
  obtain ⟨X, hX⟩ : ∃ X, X = S &&& M := ⟨_, rfl⟩
  rw [← hX] at f3
  have hXl : X < 65536 := by
    have : X ≤ S := by rw [hX]; exact Nat.and_le_left
    omega
  have hfin : Hid (popE X = rankN S n) := hid (by rw [popE_rank, hX, hM, rank_mask S n 16 hn])
  generalize hP : 2 ^ n = P at *
  clear hM hX
  go_enter Tryd.func141, Tryd.ntmps141
  go_wp2_with (go_at_call 140; refine (onesCount_any X hXl _).mono ?_; rintro e w' ⟨rfl, rfl⟩; rw [hfin.out])
  go_ret
  exact ⟨rfl, rfl⟩

end Go.Proofs.YtimoekglamdddaaDoor

/- A system with only some of its states: the program's subSystem, the reference's l2Keep. -/
namespace Go.Proofs.YtimoekglamdddaaDoor
open Go.RowKit Go.BigFrame AG

/-- The result under way: its own block gs, its edges a row that the call owns. -/
structure SubSt (w0 wr : World) (gs : Nat) (al st : Int) (v : Value) (es : List Ed) : Prop where
  blk : Blk wr gs 34 #[.int .i64 al, .int .i64 st, v]
  own : wr.ownsRow w0.heap.size 93 3 v es.length (edCells es)
  low : w0.heap.size ≤ gs
  keep : Below w0.heap.size w0 wr
theorem SubSt.later {w0 wr w1 : World} {gs : Nat} {al st : Int} {v : Value} {es : List Ed} (h : SubSt w0 wr gs al st v es) (hb : Below wr.heap.size wr w1) : SubSt w0 w1 gs al st v es :=
  ⟨h.blk.below hb h.blk.lt, own_later h.own hb, h.low, h.keep.trans (hb.mono h.keep.size)⟩
theorem SubSt.add {w0 wr w1 : World} {gs gg cap : Nat} {al st : Int} {v : Value} {es : List Ed} {x : Ed} (h : SubSt w0 wr gs al st v es)
    (hown : w1.ownsRow w0.heap.size 93 3 (.slice (some ⟨gg, 0, none⟩) (es.length + 1) cap) (es.length + 1) (edCells es ++ [.int .i64 x.f, .int .i64 x.l, .int .i64 x.t])) (hg : wr.grownBy w1 v.ownBlock) :
    SubSt w0 (w1.setCell ⟨gs, 2, none⟩ (.slice (some ⟨gg, 0, none⟩) (es.length + 1) cap)) gs al st (.slice (some ⟨gg, 0, none⟩) (es.length + 1) cap) (es ++ [x]) := by
  have hne : v.ownBlock ≠ some gs := fun e => own_ne h.own h.blk (by decide) gs e rfl
  have hb1 : Blk w1 gs 34 #[.int .i64 al, .int .i64 st, v] := by
    have := hg.block gs h.blk.lt (Ne.symm hne)
    exact this.trans h.blk
  have hne2 : (Value.slice (some ⟨gg, 0, none⟩) (es.length + 1) cap).ownBlock ≠ some gs := fun e => own_ne hown hb1 (by decide) gs e rfl
  refine ⟨by simpa using hb1.set_ 2 (.slice (some ⟨gg, 0, none⟩) (es.length + 1) cap), ?_, h.low, ?_⟩
  · have e : (es ++ [x]).length = es.length + 1 := by simp
    rw [e, edCells_append]
    exact ownsRow_setCell_other hown hne2 _
  · exact Below.setCell (h.keep.grown hg h.keep.size (fun k hk => (h.own.lt k hk).1)) (by have := h.low; simpa using this) _

theorem has_nat (S n : Nat) (w : World) (h : n < 16) :
    Calls Tryd.prog 78 #[.int .i64 (S : Nat), .int .i64 (n : Nat)] w fun e w' => e = .returned (.bool (S.testBit n)) ∧ w = w' := by
  have := has_any (S : Int) (n : Int) w (by omega)
  have e : HasZ (S : Int) (n : Int) = S.testBit n := by unfold HasZ; rw [Int.toNat_natCast, Has_nat]; simp
  rw [e] at this
  exact this

def SubPost (w : World) (x : Sy) (e : Ending) (w' : World) : Prop := ∃ (A : Option Addr) (c : Nat), e = .returned (x.val A c) ∧ x.es.length ≤ c ∧ c ≤ 9223372036854775807 ∧ EdsAt w' w'.heap.size A x.es ∧ FreshA w.heap.size A ∧ Below w.heap.size w w'

set_option maxRecDepth 100000 in
set_option maxHeartbeats 8000000 in
theorem subSystem_any (s : Sy) (A : Option Addr) (c R : Nat) (w : World) (hs : edgesIn s) (hst : s.st ≤ 16) (hst0 : 0 ≤ s.st) (hR : R < 2 ^ s.st.toNat) (hL : s.es.length ≤ 1000000) (hl : s.es.length ≤ c) (hc : c ≤ 9223372036854775807) (hr : EdsAt w w.heap.size A s.es) :
    Calls Tryd.prog 92 #[s.val A c, .int .i64 (R : Nat)] w (SubPost w (trimSy s R)) := by
  obtain ⟨i0, hi, hz0, hz1, hz2⟩ := info_parts infoEd
  unfold Sy.val
  have hR16 : R < 65536 := by
    have : 2 ^ s.st.toNat ≤ 2 ^ 16 := Nat.pow_le_pow_right (by omega) (by omega)
    omega
  obtain ⟨n, hn⟩ := Int.eq_ofNat_of_zero_le hst0
  have hn16 : n ≤ 16 := by omega
  have hpop : Hid (popE R = rankN R n) := hid (by rw [popE_rank]; exact rank_top (by rw [hn] at hR; simpa using hR) 16 hn16)
  have htr : Hid (trimSy s R = ⟨s.al, (rankN R n : Nat), trimEs R s.es⟩) := hid (by unfold trimSy; rw [hn]; rfl)
  have hpar := (Blk.new w 34 #[.int .i64 s.al, .int .i64 s.st, .slice A s.es.length c]).alloc (.cells #[.int .i64 0, .int .i64 0, .slice none 0 0] 34)
  have hres := Blk.new (w.alloc (.cells #[.int .i64 s.al, .int .i64 s.st, .slice A s.es.length c] 34)) 34 #[.int .i64 0, .int .i64 0, .slice none 0 0]
  have hb0 : Below w.heap.size w ((w.alloc (.cells #[.int .i64 s.al, .int .i64 s.st, .slice A s.es.length c] 34)).alloc (.cells #[.int .i64 0, .int .i64 0, .slice none 0 0] 34)) := ((Below.refl _ _).alloc (Nat.le_refl _) _).alloc (by simp) _
  have hsz0 : ((w.alloc (.cells #[.int .i64 s.al, .int .i64 s.st, .slice A s.es.length c] 34)).alloc (.cells #[.int .i64 0, .int .i64 0, .slice none 0 0] 34)).heap.size = w.heap.size + 2 := by simp
  simp only [World.size_alloc] at hres
  generalize hw0 : (w.alloc (.cells #[.int .i64 s.al, .int .i64 s.st, .slice A s.es.length c] 34)).alloc (.cells #[.int .i64 0, .int .i64 0, .slice none 0 0] 34) = w0 at hres hb0 hsz0 hpar
  rw [hn] at hpar
  have p0 := hpar.cell 0
  have p1 := hpar.cell 1
  have p2 := hpar.cell 2
  simp only [List.getElem?_toArray, List.getElem?_cons_zero, List.getElem?_cons_succ] at p0 p1 p2
  have q0 := GK.BI.cell p0
  have q1 := GK.BI.cell p1
  have q2 := GK.BI.cell p2
  have hs0 := hid (hr.later hb0)
  replace hr := hid hr
  replace hs := hid hs
  replace hres := hid hres
  have hpar' := hid hpar
  replace hsz0 := hid hsz0
  replace hn := hid hn
  clear p0 p1 p2 hpar
  go_enter Tryd.func92, Tryd.ntmps92
  go_wp2_with fail
  refine GK.wp_region 7 [7] 200 (KeepB fun _ => False) (GK.BI w0) (fun _ u _ => u = .int .i64 ((rankN R n : Nat) : Int)) (by kernel_rfl) (by kernel_rfl) (GK.BI.way w0) (by decide) (Below.refl _ _).drew ?_
  simp only [List.take_succ_cons, List.take_zero]
  (repeat (refine GK.grow_quiet w0 (by rfl) (by rfl) ?_; intro K hK; go_big_quiet_op; go_big_quiet_on))
  refine GK.grow_val (.int .i64 ((rankN R n : Nat) : Int)) (by rfl) rfl (fun m wq hm2 hbq _ => ?_) ?_
  · go_simp
    exact ⟨rfl, (onesCount_any R hR16 wq).mono fun e w' ⟨h1, h2⟩ => ⟨by rw [h1, hpop.out], GK.BI.after hbq (by rw [← h2]; exact Below.refl _ _)⟩⟩
  simp only [Act.put, List.setIfInBounds_toArray, List.set_cons_zero, List.set_cons_succ]
  (repeat (refine GK.grow_quiet w0 (by rfl) (by rfl) ?_; intro K hK; go_big_quiet_op; go_big_quiet_on))
  refine GK.grow_new (K := fun _ => False) (by rfl) _ (fun b => .pointer (some ⟨b, 0, none⟩)) 34 #[.int .i64 0, .int .i64 0, .slice none 0 0] (fun _ => by go_simp) rfl (fun _ _ o h => GK.BI.alloc o h) (fun _ _ h => GK.BI.size h) (fun _ h => h.elim) (fun gs hgs => ?_)
  simp only [Act.put, List.setIfInBounds_toArray, List.set_cons_zero, List.set_cons_succ]
  refine GK.grow_nil ?_
  intro w1 hw1 hf
  simp only [List.filterMap_cons, List.filterMap_nil, List.getElem?_cons_zero, List.getElem?_cons_succ]
  obtain ⟨gs', e1, -, hblk⟩ := hf _ List.mem_cons_self
  cases e1
  replace hw1 : Below w0.heap.size w0 w1 := hw1
  clear hf q0 q1 q2 hw0
  have hblk' : Blk w1 gs 34 #[.int .i64 0, .int .i64 0, .slice none 0 0] := hblk
  have hgl := hblk'.lt
  have c0 := hblk'.cell 0
  have c1 := hblk'.cell 1
  have c2 := hblk'.cell 2
  have f0 := hblk'.frozen 0
  have f1 := hblk'.frozen 1
  have f2 := hblk'.frozen 2
  simp only [List.getElem?_toArray, List.getElem?_cons_zero, List.getElem?_cons_succ] at c0 c1 c2
  have hS1 : Hid (SubSt w0 (((w1.setCell ⟨gs, 0, none⟩ (.int .i64 s.al)).setCell ⟨gs, 1, none⟩ (.int .i64 ((rankN R n : Nat) : Int))).setCell ⟨gs, 2, none⟩ (.slice none 0 0)) gs s.al ((rankN R n : Nat) : Int) (.slice none 0 0) []) := hid
    ⟨by simpa using ((hblk'.set_ 0 (.int .i64 s.al)).set_ 1 (.int .i64 ((rankN R n : Nat) : Int))).set_ 2 (.slice none 0 0), World.ownsRow_nil _ _ _ _, hgs,
      ((hw1.setCell (by simpa using hgs) _).setCell (by simpa using hgs) _).setCell (by simpa using hgs) _⟩
  obtain ⟨w2, hw2⟩ : ∃ w2, ((w1.setCell ⟨gs, 0, none⟩ (.int .i64 s.al)).setCell ⟨gs, 1, none⟩ (.int .i64 ((rankN R n : Nat) : Int))).setCell ⟨gs, 2, none⟩ (.slice none 0 0) = w2 := ⟨_, rfl⟩
  rw [hw2] at hS1
  have hparr := fun (wr : World) (hb : Below w0.heap.size w0 wr) => (hpar'.out.below hb hpar'.out.lt)
  have hpz := hS1.out.keep
  have g0 := (hparr _ hpz).cell 0
  have g1 := (hparr _ hpz).cell 1
  have g2 := (hparr _ hpz).cell 2
  simp only [List.getElem?_toArray, List.getElem?_cons_zero, List.getElem?_cons_succ] at g0 g1 g2
  replace hparr := hid hparr
  replace hblk := hid hblk
  clear hblk' hpz
  go_wp2_with fail
  go_loopw [17] (fun i wr => ∃ (k : Nat) (v : Value), i = .int .i64 (k : Nat) ∧ k ≤ s.es.length ∧ SubSt w0 wr gs s.al ((rankN R n : Nat) : Int) v (trimEs R (s.es.take k))) (fun i _ => s.es.length - (intOf i).toNat)
  case atStart => exact ⟨0, _, rfl, by omega, hS1.out⟩
  case round =>
    clear g0 g1 g2
    obtain ⟨k, v, rfl, hk, hst2⟩ := hrel
    have hbr := hst2.keep
    have g0 := (hparr.out _ hbr).cell 0
    have g1 := (hparr.out _ hbr).cell 1
    have g2 := (hparr.out _ hbr).cell 2
    simp only [List.getElem?_toArray, List.getElem?_cons_zero, List.getElem?_cons_succ] at g0 g1 g2
    have hzr := hbr.size
    have hz00 := hsz0.out
    by_cases hlt : k < s.es.length
    · obtain ⟨b, o, hA, hbb, hE⟩ := hs0.out (by omega)
      subst hA
      obtain ⟨e0, e1, e2⟩ := hE k hlt
      rw [← hbr.cell (by simpa using hbb)] at e0 e1 e2
      obtain ⟨i1, i2, i3, i4, i5, i6, -, -, -⟩ := hs.out s.es[k] (List.getElem_mem _)
      have hhit := trimEs_hit (R := R) hlt
      have hmiss := trimEs_miss (R := R) hlt
      obtain ⟨x, hx⟩ : ∃ x, x = s.es[k] := ⟨_, rfl⟩
      rw [← hx] at e0 e1 e2 i1 i2 i3 i4 i5 i6 hhit hmiss
      obtain ⟨⟨xf, xl, xt⟩, rfl⟩ : ∃ y, y = x := ⟨_, rfl⟩
      simp only at e0 e1 e2 i1 i2 i3 i4 i5 i6
      obtain ⟨f, rfl⟩ := Int.eq_ofNat_of_zero_le i1
      obtain ⟨t, rfl⟩ := Int.eq_ofNat_of_zero_le i3
      have hf16 : f < 16 := by omega
      have ht16 : t < 16 := by omega
      have k1 : (0 : Int) ≤ (k : Int) ∧ (k : Int) < (s.es.length : Int) := by omega
      have hkept : Hid (keptE R ⟨(f : Int), xl, (t : Int)⟩ = (R.testBit f && R.testBit t)) := hid rfl
      have htrim : Hid (trimE R ⟨(f : Int), xl, (t : Int)⟩ = ⟨((rankN R f : Nat) : Int), xl, ((rankN R t : Nat) : Int)⟩) := hid rfl
      have r1 := rankN_le R f
      have r2 := rankN_le R t
      have hnb := Blk.new wr 93 #[.int .i64 (f : Int), .int .i64 xl, .int .i64 (t : Int)]
      have hba : Below wr.heap.size wr (wr.alloc (.cells #[.int .i64 (f : Int), .int .i64 xl, .int .i64 (t : Int)] 93)) := (Below.refl _ _).alloc (Nat.le_refl _) _
      have hbs : wr.heap.size < (wr.alloc (.cells #[.int .i64 (f : Int), .int .i64 xl, .int .i64 (t : Int)] 93)).heap.size := by simp
      generalize hwa : wr.alloc (.cells #[.int .i64 (f : Int), .int .i64 xl, .int .i64 (t : Int)] 93) = wa at hnb hba hbs
      have d0 := hnb.cell 0
      have d1 := hnb.cell 1
      have d2 := hnb.cell 2
      simp only [List.getElem?_toArray, List.getElem?_cons_zero, List.getElem?_cons_succ] at d0 d1 d2
      have hSa := hid (hst2.later hba)
      have hbl := hSa.out.blk.lt
      have hle : (trimEs R (s.es.take k)).length ≤ k := by have := trimEs_len R (s.es.take k); rw [List.length_take] at this; omega
      replace hE := hid hE
      replace hx := hid hx
      replace hhit := hid hhit
      replace hmiss := hid hmiss
      clear hst2
      cases hbf : R.testBit f
      · have hm := hid (hmiss.out (by rw [hkept.out, hbf]; rfl))
        replace hbf := hid hbf
        go_wp2_with (go_at_call 78; refine (has_nat R f _ hf16).mono ?_; rintro e w' ⟨rfl, rfl⟩; rw [hbf.out])
        go_roundw
        case rel => exact ⟨k + 1, v, by go_num, by omega, by rw [hm.out]; exact hSa.out⟩
        case measure => simp [intOf]; omega
      · cases hbt : R.testBit t
        · have hm := hid (hmiss.out (by rw [hkept.out, hbf, hbt]; rfl))
          replace hbf := hid hbf
          replace hbt := hid hbt
          go_wp2_with fail
          refine (has_nat R f _ hf16).mono ?_
          rintro e w' ⟨rfl, rfl⟩
          rw [hbf.out]
          go_wp2_with fail
          refine (has_nat R t _ ht16).mono ?_
          rintro e w' ⟨rfl, rfl⟩
          rw [hbt.out]
          go_wp2_with fail
          go_roundw
          case rel => exact ⟨k + 1, v, by go_num, by omega, by rw [hm.out]; exact hSa.out⟩
          case measure => simp [intOf]; omega
        · have hm := hid (hhit.out (by rw [hkept.out, hbf, hbt]; rfl))
          replace hbf := hid hbf
          replace hbt := hid hbt
          have c2 := hSa.out.blk.cell 2
          simp only [List.getElem?_toArray, List.getElem?_cons_zero, List.getElem?_cons_succ] at c2
          have q0 := GK.BI.cell c2
          have q1 := GK.BI.cell d0
          have q2 := GK.BI.cell d1
          have q3 := GK.BI.cell d2
          obtain ⟨es, hes⟩ : ∃ es, es = trimEs R (s.es.take k) := ⟨_, rfl⟩
          rw [← hes] at hSa hle hm
          replace hes := hid hes
          go_wp2_with fail
          refine (has_nat R f _ hf16).mono ?_
          rintro e w' ⟨rfl, rfl⟩
          rw [hbf.out]
          go_wp2_with fail
          refine (has_nat R t _ ht16).mono ?_
          rintro e w' ⟨rfl, rfl⟩
          rw [hbt.out]
          go_wp2_with fail
          clear c2 d0 d1 d2
          refine GK.wp_region 14 [14, 15, 16] 200 (KeepB fun _ => False) (GK.BI wa) (fun i u _ => u = .int .i64 (((if i = 5 then rankN R f else rankN R t) : Nat) : Int)) (by kernel_rfl) (by kernel_rfl) (GK.BI.way wa) (by decide) (Below.refl _ _).drew ?_
          simp only [List.take_succ_cons, List.take_zero]
          (repeat (refine GK.grow_quiet wa (by rfl) (by rfl) ?_; intro K hK; go_big_quiet_op; go_big_quiet_on))
          refine GK.grow_val (.int .i64 ((rankN R f : Nat) : Int)) (by rfl) rfl (fun m wq hm2 hbq _ => ?_) ?_
          · go_simp
            exact ⟨rfl, (implRank_any R f wq hR16 (by omega)).mono fun e w' ⟨h1, h2⟩ => ⟨h1, GK.BI.after hbq (by rw [← h2]; exact Below.refl _ _)⟩⟩
          simp only [Act.put, List.setIfInBounds_toArray, List.set_cons_zero, List.set_cons_succ]
          (repeat (refine GK.grow_quiet wa (by rfl) (by rfl) ?_; intro K hK; go_big_quiet_op; go_big_quiet_on))
          refine GK.grow_val (.int .i64 ((rankN R t : Nat) : Int)) (by rfl) rfl (fun m wq hm2 hbq _ => ?_) ?_
          · go_simp
            exact ⟨rfl, (implRank_any R t wq hR16 (by omega)).mono fun e w' ⟨h1, h2⟩ => ⟨h1, GK.BI.after hbq (by rw [← h2]; exact Below.refl _ _)⟩⟩
          simp only [Act.put, List.setIfInBounds_toArray, List.set_cons_zero, List.set_cons_succ]
          (repeat (refine GK.grow_quiet wa (by rfl) (by rfl) ?_; intro K hK; go_big_quiet_op; go_big_quiet_on))
          refine GK.grow_new (K := fun _ => False) (by rfl) _ (fun b => .slice (some ⟨b, 0, none⟩) 1 1) 93 #[.int .i64 ((rankN R f : Nat) : Int), .int .i64 xl, .int .i64 ((rankN R t : Nat) : Int)] (fun _ => by go_simp) rfl (fun _ _ o h => GK.BI.alloc o h) (fun _ _ h => GK.BI.size h) (fun _ h => h.elim) (fun bb hbb2 => ?_)
          simp only [Act.put, List.setIfInBounds_toArray, List.set_cons_zero, List.set_cons_succ]
          refine GK.grow_nil ?_
          intro w4 hw4 hf
          obtain ⟨g', hge, hge2, hblk4⟩ := hf _ List.mem_cons_self
          cases hge
          clear hf
          simp only [List.filterMap_cons, List.filterMap_nil, List.getElem?_cons_zero, List.getElem?_cons_succ]
          replace hw4 : Below wa.heap.size wa w4 := hw4
          have hS4 := hid (hSa.out.later hw4)
          have z4 := hw4.size
          have hown4 := hS4.out.own
          have hbl4 := hS4.out.blk.lt
          have ag : v.ownBlock ≠ some gs := fun e => own_ne hS4.out.own hS4.out.blk (by decide) gs e rfl
          have c2 := hS4.out.blk.cell 2
          have f2 := hS4.out.blk.frozen 2
          simp only [List.getElem?_toArray, List.getElem?_cons_zero, List.getElem?_cons_succ] at c2
          clear q0 q1 q2 q3
          refine wpList_append_lies _ (by rfl) _ _ 32 (by rfl) w0.heap.size 93 i0 (.agg #[.int .i64 0, .int .i64 0, .int .i64 0]) 3 24 Tryd.underlying32 hi hz0 hz1 hz2 rfl (by decide) v es.length (edCells es) (by rfl) hown4 ⟨bb, 0, none⟩ 1 1 [.int .i64 ((rankN R f : Nat) : Int), .int .i64 xl, .int .i64 ((rankN R t : Nat) : Int)] (by rfl) (by rfl) (World.news_of_block hblk4) ?c1 (by omega) ?c3 ?c4 ?c5 w4.heap.size rfl ?_
          case c1 => simp [Value.oneCell']
          case c3 => unfold maxLen; omega
          case c4 => omega
          case c5 => have := hS4.out.keep.size; omega
          intro gg cap w5 hown5 hgrow hat hlt5
          have c2' : w5.cell? ⟨gs, 2, none⟩ = some v := by rw [hgrow.cell_far _ (by simpa using hbl4) (Ne.symm ag)]; exact c2
          have f2' : w5.frozen? ⟨gs, 2, none⟩ = false := by rw [hgrow.frozen_far _ (by simpa using hbl4) (Ne.symm ag)]; exact f2
          have hfin := hid (hS4.out.add (x := ⟨((rankN R f : Nat) : Int), xl, ((rankN R t : Nat) : Int)⟩) hown5 hgrow)
          have hz5 := hgrow.size
          clear hown4 hown5 hgrow c2 f2
          go_wp2_with fail
          go_roundw
          case rel => exact ⟨k + 1, _, by go_num, by omega, by rw [hm.out, htrim.out]; exact hfin.out⟩
          case measure => simp [intOf]; omega
    · obtain rfl : k = s.es.length := by omega
      rw [List.take_length] at hst2
      obtain ⟨Av, cv, hve, hv1, hv2⟩ := own_slice hst2.own
      subst hve
      have hrd := OwnEds.read (show OwnEds wr w0.heap.size (.slice Av (trimEs R s.es).length cv) (trimEs R s.es) from hst2.own)
      obtain ⟨A2, c2', hve2, h1, h2, h3, h4⟩ := hrd
      cases hve2
      have c0 := hst2.blk.cell 0
      have c1 := hst2.blk.cell 1
      have c2 := hst2.blk.cell 2
      have hresb := hres.out.below hbr hres.out.lt
      have d0 := hresb.cell 0
      have d1 := hresb.cell 1
      have d2 := hresb.cell 2
      have f0 := hresb.frozen 0
      have f1 := hresb.frozen 1
      have f2 := hresb.frozen 2
      simp only [List.getElem?_toArray, List.getElem?_cons_zero, List.getElem?_cons_succ] at c0 c1 c2 d0 d1 d2
      have hfin : Hid (SubPost w (trimSy s R) (.returned (.agg #[.int .i64 s.al, .int .i64 ((rankN R n : Nat) : Int), .slice Av (trimEs R s.es).length cv])) (((wr.setCell ⟨w.heap.size + 1, 0, none⟩ (.int .i64 s.al)).setCell ⟨w.heap.size + 1, 1, none⟩ (.int .i64 ((rankN R n : Nat) : Int))).setCell ⟨w.heap.size + 1, 2, none⟩ (.slice Av (trimEs R s.es).length cv))) := hid (by
        rw [htr.out]
        have hne : ∀ b o, Av = some ⟨b, o, none⟩ → 0 < (trimEs R s.es).length → b ≠ w.heap.size + 1 := fun b o hA _ => by have := h4 b o hA; omega
        refine ⟨Av, cv, rfl, h1, h2, ?_, fun b o hA => by have := h4 b o hA; omega, ?_⟩
        · simpa [World.setCell] using ((h3.stored _ hne).stored _ hne).stored _ hne
        · exact (((hb0.trans (hbr.mono (by omega))).setCell (by simp) _).setCell (by simp) _).setCell (by simp) _)
      have hvl := hresb.lt
      clear hresb hst2 h3 h4
      go_wp2
      refine bodyPost_ret (v := .agg #[.int .i64 s.al, .int .i64 ((rankN R n : Nat) : Int), .slice Av (trimEs R s.es).length cv]) (by simp [results, Tryd.results92, go_sem, d0, d1, d2]) rfl ?_
      exact hfin.out

end Go.Proofs.YtimoekglamdddaaDoor

/- TrimSystem, both versions; the laws' agSystems on systems that are the same. -/
namespace Go.Proofs.YtimoekglamdddaaDoor
open Go.RowKit Go.BigFrame AG

theorem keep_none {w w' : World} (h : KeepB (fun _ => False) w w') : Below w.heap.size w w' := ⟨h.os, h.tape, h.output, h.size, fun i hi => h.block i hi (fun hh => hh)⟩
theorem reachAll_small {s : Sy} (h : sysOk s = true) : reachAll s < 2 ^ s.st.toNat := by
  have hin := sysOk_in h
  have h1 := sysOk_st h
  refine Nat.lt_pow_two_of_testBit _ fun i hi => ?_
  rw [← Bool.not_eq_true]
  intro hb
  unfold reachAll reachSet at hb
  rw [bitsOf_testBit] at hb
  have := hb.2 (fun q => (q : Int) < s.st) (fun x hx => by
    have := testBit_lt (n := 1) (S := 1) (by decide) hx
    show (x : Int) < s.st
    omega) (fun e he _ _ => by
    obtain ⟨a, b, c, d, _, _, _, _, f⟩ := hin e he
    show ((e.t.toNat : Nat) : Int) < s.st
    omega)
  have h3 : (i : Int) < s.st := this
  omega
noncomputable def trimOut (s : Sy) : Sy := if sysOk s = true then trimSy s (reachAll s) else ⟨0, 0, []⟩
def TrimPost (w : World) (s : Sy) (e : Ending) (w' : World) : Prop := ∃ (A : Option Addr) (c : Nat), e = .returned (.tuple #[(trimOut s).val A c, .bool (sysOk s)]) ∧ (trimOut s).es.length ≤ c ∧ c ≤ 9223372036854775807 ∧ EdsAt w' w'.heap.size A (trimOut s).es ∧ Below w.heap.size w w'

set_option maxRecDepth 100000 in
set_option maxHeartbeats 4000000 in
theorem implTrimSystem_any (s : Sy) (A : Option Addr) (c : Nat) (w : World) (hL : s.es.length ≤ 1000000) (hl : s.es.length ≤ c) (hc : c ≤ 9223372036854775807) (hT : Tab w) (hr : EdsAt w w.heap.size A s.es) :
    Calls Tryd.prog 39 #[s.val A c] w (TrimPost w s) := by
  unfold Sy.val
  have hpar := (Blk.new w 34 #[.int .i64 s.al, .int .i64 s.st, .slice A s.es.length c]).alloc (.cells #[.int .i64 0, .int .i64 0, .slice none 0 0] 34)
  have hres := Blk.new (w.alloc (.cells #[.int .i64 s.al, .int .i64 s.st, .slice A s.es.length c] 34)) 34 #[.int .i64 0, .int .i64 0, .slice none 0 0]
  have hb0 : Below w.heap.size w ((w.alloc (.cells #[.int .i64 s.al, .int .i64 s.st, .slice A s.es.length c] 34)).alloc (.cells #[.int .i64 0, .int .i64 0, .slice none 0 0] 34)) := ((Below.refl _ _).alloc (Nat.le_refl _) _).alloc (by simp) _
  have hsz0 : ((w.alloc (.cells #[.int .i64 s.al, .int .i64 s.st, .slice A s.es.length c] 34)).alloc (.cells #[.int .i64 0, .int .i64 0, .slice none 0 0] 34)).heap.size = w.heap.size + 2 := by simp
  simp only [World.size_alloc] at hres
  generalize hw0 : (w.alloc (.cells #[.int .i64 s.al, .int .i64 s.st, .slice A s.es.length c] 34)).alloc (.cells #[.int .i64 0, .int .i64 0, .slice none 0 0] 34) = w0 at hres hb0 hsz0 hpar
  have p0 := hpar.cell 0
  have p1 := hpar.cell 1
  have p2 := hpar.cell 2
  simp only [List.getElem?_toArray, List.getElem?_cons_zero, List.getElem?_cons_succ] at p0 p1 p2
  have hs0 := hid (hr.later hb0)
  have hT0 := hid (hT.later hb0)
  replace hr := hid hr
  replace hres := hid hres
  have hpar' := hid hpar
  replace hsz0 := hid hsz0
  clear hpar
  go_enter Tryd.func39, Tryd.ntmps39
  go_wp2_with fail
  refine (implSystemValid_any s A c w0 hl hc hs0.out).mono ?_
  rintro e w1 ⟨rfl, hb1⟩
  have hB1 := hb0.trans (hb1.mono hb0.size)
  have hs1 := hid (hs0.out.later hb1)
  have hT1 := hid (hT0.out.later hb1)
  have hpb := hpar'.out.below hb1 hpar'.out.lt
  have hrb := hres.out.below hb1 hres.out.lt
  clear p0 p1 p2 hw0
  have p0 := hpb.cell 0
  have p1 := hpb.cell 1
  have p2 := hpb.cell 2
  have d0 := hrb.cell 0
  have d1 := hrb.cell 1
  have d2 := hrb.cell 2
  have f0 := hrb.frozen 0
  have f1 := hrb.frozen 1
  have f2 := hrb.frozen 2
  simp only [List.getElem?_toArray, List.getElem?_cons_zero, List.getElem?_cons_succ] at p0 p1 p2 d0 d1 d2
  have hz1 := hb1.size
  have hlt1 := hrb.lt
  have hzz := hsz0.out
  cases hok : sysOk s
  · have hfin : Hid (TrimPost w s (.returned (.tuple #[.agg #[.int .i64 0, .int .i64 0, .slice none 0 0], .bool false])) (((w1.setCell ⟨w.heap.size + 1, 0, none⟩ (.int .i64 0)).setCell ⟨w.heap.size + 1, 1, none⟩ (.int .i64 0)).setCell ⟨w.heap.size + 1, 2, none⟩ (.slice none 0 0))) := hid (by
      refine ⟨none, 0, ?_, ?_, by omega, ?_, ?_⟩
      · unfold trimOut; rw [hok]; rfl
      · unfold trimOut; rw [hok]; exact Nat.le_refl _
      · unfold trimOut; rw [hok]; intro h; simp at h
      · exact ((hB1.setCell (by simp) _).setCell (by simp) _).setCell (by simp) _)
    replace hok := hid hok
    clear hpb hrb
    go_wp2
    refine bodyPost_ret (v := .tuple #[.agg #[.int .i64 0, .int .i64 0, .slice none 0 0], .bool false]) (by simp [results, Tryd.results39, go_sem, d0, d1, d2]) rfl ?_
    exact hfin.out
  · have hin := sysOk_in hok
    have hst := sysOk_st hok
    have hsm := reachAll_small hok
    have htr : Hid (trimOut s = trimSy s (reachAll s)) := hid (by unfold trimOut; rw [if_pos hok])
    have hok2 := hid hok
    have q0 := GK.BI.cell p0
    have q1 := GK.BI.cell p1
    have q2 := GK.BI.cell p2
    replace hin := hid hin
    replace hsm := hid hsm
    replace hok := hid hok
    clear hpb hrb d0 d1 d2 f0 f1 f2
    go_wp2_with fail
    clear p0 p1 p2
    refine GK.wp_region 4 [4, 5] 200 (KeepB fun _ => False) (GK.BI w1) (fun i u w' => if i = 2 then u = .int .i64 ((reachAll s : Nat) : Int) else ∃ (A2 : Option Addr) (c2 : Nat), u = (trimSy s (reachAll s)).val A2 c2 ∧ (trimSy s (reachAll s)).es.length ≤ c2 ∧ c2 ≤ 9223372036854775807 ∧ EdsAt w' w'.heap.size A2 (trimSy s (reachAll s)).es ∧ FreshA w1.heap.size A2) (by kernel_rfl) (by kernel_rfl) (GK.BI.way w1) (by decide) (Below.refl _ _).drew ?_
    simp only [List.take_succ_cons, List.take_zero]
    (repeat (refine GK.grow_quiet w1 (by rfl) (by rfl) ?_; intro K hK; go_big_quiet_op; go_big_quiet_on))
    refine GK.grow_val (.int .i64 ((reachAll s : Nat) : Int)) (by rfl) rfl (fun m wq hm2 hbq _ => ?_) ?_
    · go_simp
      exact ⟨rfl, by
        have hbq' : Below w1.heap.size w1 wq := hbq
        refine (implReachableStates_any s A c wq hl hc (hT1.out.later hbq') (hs1.out.later hbq')).mono fun e w' ⟨h1, h2⟩ => ⟨?_, GK.BI.after hbq h2⟩
        rw [h1, hok2.out]
        rfl⟩
    simp only [Act.put, List.setIfInBounds_toArray, List.set_cons_zero, List.set_cons_succ]
    (repeat (refine GK.grow_quiet w1 (by rfl) (by rfl) ?_; intro K hK; go_big_quiet_op; go_big_quiet_on))
    refine GK.grow_call (by rfl) (fun u w w' hk h => by
      obtain ⟨A2, c2, h1, h2, h3, h4, h5⟩ := h
      exact ⟨A2, c2, h1, h2, h3, h4.later (keep_none hk), h5⟩) (fun m wq hm2 hbq hf => ?_) ?_
    · go_simp
      have hbq' : Below w1.heap.size w1 wq := hbq
      exact ⟨rfl, (subSystem_any s A c (reachAll s) wq hin.out (by omega) (by omega) hsm.out hL hl hc (hs1.out.later hbq')).mono fun e w' ⟨A2, c2, h1, h2, h3, h4, h5, h6⟩ => ⟨_, h1, GK.BI.after hbq h6, A2, c2, rfl, h2, h3, h4, fun b o hA => by have := h5 b o hA; have := hbq'.size; omega⟩⟩
    rintro u ⟨_, _, _, A2, c2, rfl, a1, a2, -, -⟩
    unfold Sy.val
    simp only [Act.put, List.setIfInBounds_toArray, List.set_cons_zero, List.set_cons_succ]
    refine GK.grow_nil ?_
    intro w3 hw3 hf
    simp only [List.filterMap_cons, List.filterMap_nil, List.getElem?_cons_zero, List.getElem?_cons_succ]
    obtain ⟨A3, c3, hve, -, -, h4, h5⟩ := hf _ List.mem_cons_self
    injection hve with hve
    simp at hve
    obtain ⟨rfl, rfl⟩ := hve
    replace hw3 : Below w1.heap.size w1 w3 := hw3
    clear hf q0 q1 q2
    have hrb := (hres.out.below hb1 hres.out.lt).below hw3 hlt1
    have d0 := hrb.cell 0
    have d1 := hrb.cell 1
    have d2 := hrb.cell 2
    have f0 := hrb.frozen 0
    have f1 := hrb.frozen 1
    have f2 := hrb.frozen 2
    simp only [List.getElem?_toArray, List.getElem?_cons_zero, List.getElem?_cons_succ] at d0 d1 d2
    have hlt3 := hrb.lt
    obtain ⟨x, hx⟩ : ∃ x, x = trimSy s (reachAll s) := ⟨_, rfl⟩
    rw [← hx] at h4 a1 ⊢
    have hfin : Hid (TrimPost w s (.returned (.tuple #[.agg #[.int .i64 x.al, .int .i64 x.st, .slice A2 x.es.length c2], .bool true])) (((w3.setCell ⟨w.heap.size + 1, 0, none⟩ (.int .i64 x.al)).setCell ⟨w.heap.size + 1, 1, none⟩ (.int .i64 x.st)).setCell ⟨w.heap.size + 1, 2, none⟩ (.slice A2 x.es.length c2))) := hid (by
      have hne : ∀ b o, A2 = some ⟨b, o, none⟩ → 0 < x.es.length → b ≠ w.heap.size + 1 := fun b o hA _ => by have := h5 b o hA; omega
      refine ⟨A2, c2, ?_, ?_, a2, ?_, ?_⟩
      · rw [htr.out, ← hx, hok2.out]; rfl
      · rw [htr.out, ← hx]; exact a1
      · rw [htr.out, ← hx]; simpa [World.setCell] using ((h4.stored _ hne).stored _ hne).stored _ hne
      · exact (((hB1.trans (hw3.mono hB1.size)).setCell (by simp) _).setCell (by simp) _).setCell (by simp) _)
    clear h4 h5 hrb
    replace hx := hid hx
    go_wp2
    refine bodyPost_ret (v := .tuple #[.agg #[.int .i64 x.al, .int .i64 x.st, .slice A2 x.es.length c2], .bool true]) (by simp [results, Tryd.results39, go_sem, d0, d1, d2]) rfl ?_
    exact hfin.out

end Go.Proofs.YtimoekglamdddaaDoor

/- The law FnDeterminizeTrim. -/
namespace Go.Proofs.YtimoekglamdddaaDoor
open Go.RowKit Go.BigFrame Go.Maps AG

set_option maxRecDepth 100000 in
set_option maxHeartbeats 16000000 in
theorem FnDeterminizeTrim_any (A : Option Addr) (n c : Nat) (w : World) (hn : n ≤ c) (hc : c ≤ 9223372036854775807) (hT : Tab w) (hx : CodeAt w A n) :
    Calls Tryd.prog 12 #[.slice A n c] w fun e w' => e = .returned (.bool true) ∧ Below w.heap.size w w' := by
  replace hT := hid hT
  replace hx := hid hx
  by_cases hlen : 1048576 < n
  · have hgt : (1048576 : Int) < (n : Int) := by omega
    go_enter Tryd.func12, Tryd.ntmps12
    go_wp2
    go_ret
    exact ⟨rfl, Below.refl _ _⟩
  have hgt : ¬ ((1048576 : Int) < (n : Int)) := by omega
  go_enter Tryd.func12, Tryd.ntmps12
  go_wp2_with fail
  have BW_w : Below w.heap.size w w := Below.refl _ _
  refine (drawDeterminize_any A n c w hn hc hx.out).mono ?_
  rintro e w1 ⟨s, As, cs, rfl, a1, a2, a3, a4, -, hb_w1⟩
  unfold Sy.val
  have BW_w1 := BW_w.trans (hb_w1.mono BW_w.size)
  have es := hid a4
  have BEs_w1 : Below w1.heap.size w1 w1 := Below.refl _ _
  clear a4
  obtain ⟨a, ha⟩ : ∃ a, Hid (a = prA s s.al) := ⟨_, hid rfl⟩
  obtain ⟨ok, hok⟩ : ∃ ok, Hid (ok = prK s s.al) := ⟨_, hid rfl⟩
  go_upto_region 4 with fail
  obtain ⟨w2, hw_w2, hz_w2, hb_w2, hS_w2⟩ := boxed w1 #[.int .i64 s.al, .int .i64 s.st, .slice As s.es.length cs] 34
  rw [hw_w2]
  clear hw_w2
  have hs0 := fun w' (hb : Below w2.heap.size w2 w') => hS_w2 0 _ rfl w' (hb.mono hz_w2)
  have hs1 := fun w' (hb : Below w2.heap.size w2 w') => hS_w2 1 _ rfl w' (hb.mono hz_w2)
  have hs2 := fun w' (hb : Below w2.heap.size w2 w') => hS_w2 2 _ rfl w' (hb.mono hz_w2)
  replace hs0 := hid hs0
  replace hs1 := hid hs1
  replace hs2 := hid hs2
  clear hS_w2
  have BW_w2 := BW_w1.trans (hb_w2.mono BW_w1.size)
  have BEs_w2 := BEs_w1.trans (hb_w2.mono BEs_w1.size)
  have Bs_w2 : Below w2.heap.size w2 w2 := Below.refl _ _
  have ps0 := hs0.out _ Bs_w2
  have ps1 := hs1.out _ Bs_w2
  have ps2 := hs2.out _ Bs_w2
  go_wp2_with fail
  have hc_a := hid (implDeterminize_any s As cs w2 a1 a2 (hT.out.later BW_w2) (es.out.later BEs_w2))
  rw [← ha.out, ← hok.out] at hc_a
  refine hc_a.out.mono ?_
  clear hc_a
  clear ps0 ps1 ps2
  rintro e w3 ⟨hb_w3, v1, v2, xs, rfl, hau⟩
  obtain ⟨Aa, ca, Ba, da, rfl, rfl, ta⟩ := hau.at_
  replace ta := hid ta
  clear hau
  have BW_w3 := BW_w2.trans (hb_w3.mono BW_w2.size)
  have BEs_w3 := BEs_w2.trans (hb_w3.mono BEs_w2.size)
  have Bs_w3 := Bs_w2.trans (hb_w3.mono Bs_w2.size)
  have BTa_w3 : Below w3.heap.size w3 w3 := Below.refl _ _
  go_upto_region 5 with fail
  obtain ⟨w4, hw_w4, hz_w4, hb_w4, hS_w4⟩ := boxed w3 #[.int .i64 a.al, .slice Aa a.nx.length ca, .slice Ba a.ac.length da] 29
  rw [hw_w4]
  clear hw_w4
  have ha0 := fun w' (hb : Below w4.heap.size w4 w') => hS_w4 0 _ rfl w' (hb.mono hz_w4)
  have ha1 := fun w' (hb : Below w4.heap.size w4 w') => hS_w4 1 _ rfl w' (hb.mono hz_w4)
  have ha2 := fun w' (hb : Below w4.heap.size w4 w') => hS_w4 2 _ rfl w' (hb.mono hz_w4)
  replace ha0 := hid ha0
  replace ha1 := hid ha1
  replace ha2 := hid ha2
  clear hS_w4
  have BW_w4 := BW_w3.trans (hb_w4.mono BW_w3.size)
  have BEs_w4 := BEs_w3.trans (hb_w4.mono BEs_w3.size)
  have Bs_w4 := Bs_w3.trans (hb_w4.mono Bs_w3.size)
  have BTa_w4 := BTa_w3.trans (hb_w4.mono BTa_w3.size)
  have Ba_w4 : Below w4.heap.size w4 w4 := Below.refl _ _
  have ps0 := hs0.out _ Bs_w4
  have ps1 := hs1.out _ Bs_w4
  have ps2 := hs2.out _ Bs_w4
  go_wp2_with fail
  have hc_x := hid (specDeterminize_any s As cs w4 a1 a2 (es.out.later BEs_w4))
  rw [← ha.out, ← hok.out] at hc_x
  refine hc_x.out.mono ?_
  clear hc_x
  clear ps0 ps1 ps2
  rintro e w5 ⟨hb_w5, v1, v2, xs, rfl, hau⟩
  obtain ⟨Ax, cx, Bx, dx, rfl, rfl, tx⟩ := hau.at_
  replace tx := hid tx
  clear hau
  have BW_w5 := BW_w4.trans (hb_w5.mono BW_w4.size)
  have BEs_w5 := BEs_w4.trans (hb_w5.mono BEs_w4.size)
  have Bs_w5 := Bs_w4.trans (hb_w5.mono Bs_w4.size)
  have BTa_w5 := BTa_w4.trans (hb_w5.mono BTa_w4.size)
  have Ba_w5 := Ba_w4.trans (hb_w5.mono Ba_w4.size)
  have BTx_w5 : Below w5.heap.size w5 w5 := Below.refl _ _
  go_upto_region 6 with fail
  obtain ⟨w6, hw_w6, hz_w6, hb_w6, hS_w6⟩ := boxed w5 #[.int .i64 a.al, .slice Ax a.nx.length cx, .slice Bx a.ac.length dx] 29
  rw [hw_w6]
  clear hw_w6
  have hx0 := fun w' (hb : Below w6.heap.size w6 w') => hS_w6 0 _ rfl w' (hb.mono hz_w6)
  have hx1 := fun w' (hb : Below w6.heap.size w6 w') => hS_w6 1 _ rfl w' (hb.mono hz_w6)
  have hx2 := fun w' (hb : Below w6.heap.size w6 w') => hS_w6 2 _ rfl w' (hb.mono hz_w6)
  replace hx0 := hid hx0
  replace hx1 := hid hx1
  replace hx2 := hid hx2
  clear hS_w6
  have BW_w6 := BW_w5.trans (hb_w6.mono BW_w5.size)
  have BEs_w6 := BEs_w5.trans (hb_w6.mono BEs_w5.size)
  have Bs_w6 := Bs_w5.trans (hb_w6.mono Bs_w5.size)
  have BTa_w6 := BTa_w5.trans (hb_w6.mono BTa_w5.size)
  have Ba_w6 := Ba_w5.trans (hb_w6.mono Ba_w5.size)
  have BTx_w6 := BTx_w5.trans (hb_w6.mono BTx_w5.size)
  have Bx_w6 : Below w6.heap.size w6 w6 := Below.refl _ _
  have pa0 := ha0.out _ Ba_w6
  have pa1 := ha1.out _ Ba_w6
  have pa2 := ha2.out _ Ba_w6
  have px0 := hx0.out _ Bx_w6
  have px1 := hx1.out _ Bx_w6
  have px2 := hx2.out _ Bx_w6
  go_wp2_with fail
  refine (agAutomata_any a a Aa Ba Ax Bx ca da cx dx w6 (ta.out.later BTa_w6) (tx.out.later BTx_w6)).mono ?_
  clear pa0 pa1 pa2 px0 px1 px2
  rintro e w7 ⟨rfl, hb_w7⟩
  have BW_w7 := BW_w6.trans (hb_w7.mono BW_w6.size)
  have BEs_w7 := BEs_w6.trans (hb_w7.mono BEs_w6.size)
  have Bs_w7 := Bs_w6.trans (hb_w7.mono Bs_w6.size)
  have BTa_w7 := BTa_w6.trans (hb_w7.mono BTa_w6.size)
  have Ba_w7 := Ba_w6.trans (hb_w7.mono Ba_w6.size)
  have BTx_w7 := BTx_w6.trans (hb_w7.mono BTx_w6.size)
  have Bx_w7 := Bx_w6.trans (hb_w7.mono Bx_w6.size)
  rw [decide_eq_true rfl]
  have ps0 := hs0.out _ Bs_w7
  have ps1 := hs1.out _ Bs_w7
  have ps2 := hs2.out _ Bs_w7
  go_wp2_with fail
  refine (implSystemValid_any s As cs w7 a1 a2 (es.out.later BEs_w7)).mono ?_
  clear ps0 ps1 ps2
  rintro e w8 ⟨rfl, hb_w8⟩
  have BW_w8 := BW_w7.trans (hb_w8.mono BW_w7.size)
  have BEs_w8 := BEs_w7.trans (hb_w8.mono BEs_w7.size)
  have Bs_w8 := Bs_w7.trans (hb_w8.mono Bs_w7.size)
  have BTa_w8 := BTa_w7.trans (hb_w8.mono BTa_w7.size)
  have Ba_w8 := Ba_w7.trans (hb_w8.mono Ba_w7.size)
  have BTx_w8 := BTx_w7.trans (hb_w8.mono BTx_w7.size)
  have Bx_w8 := Bx_w7.trans (hb_w8.mono Bx_w7.size)
  cases hsk : sysOk s
  case false =>
    replace hsk := hid hsk
    have pa0 := ha0.out _ Ba_w8
    have pa1 := ha1.out _ Ba_w8
    have pa2 := ha2.out _ Ba_w8
    have px0 := hx0.out _ Bx_w8
    have px1 := hx1.out _ Bx_w8
    have px2 := hx2.out _ Bx_w8
    go_wp2_with fail
    refine (agAutomata_any a a Aa Ba Ax Bx ca da cx dx w8 (ta.out.later BTa_w8) (tx.out.later BTx_w8)).mono ?_
    clear pa0 pa1 pa2 px0 px1 px2
    rintro e w9 ⟨rfl, hb_w9⟩
    have BW_w9 := BW_w8.trans (hb_w9.mono BW_w8.size)
    have BEs_w9 := BEs_w8.trans (hb_w9.mono BEs_w8.size)
    have Bs_w9 := Bs_w8.trans (hb_w9.mono Bs_w8.size)
    have BTa_w9 := BTa_w8.trans (hb_w9.mono BTa_w8.size)
    have Ba_w9 := Ba_w8.trans (hb_w9.mono Ba_w8.size)
    have BTx_w9 := BTx_w8.trans (hb_w9.mono BTx_w8.size)
    have Bx_w9 := Bx_w8.trans (hb_w9.mono Bx_w8.size)
    rw [decide_eq_true rfl]
    go_wp2_with fail
    go_ret
    exact ⟨rfl, BW_w9⟩
  case true =>
  have hsk' := hid hsk
  clear hsk
  have ps0 := hs0.out _ Bs_w8
  have ps1 := hs1.out _ Bs_w8
  have ps2 := hs2.out _ Bs_w8
  go_wp2_with fail
  refine (implTrimSystem_any s As cs w8 (by omega) a1 a2 (hT.out.later BW_w8) (es.out.later BEs_w8)).mono ?_
  clear ps0 ps1 ps2
  rintro e w10 ⟨At, ct, rfl, b1, b2, b3, hb_w10⟩
  have BW_w10 := BW_w8.trans (hb_w10.mono BW_w8.size)
  have BEs_w10 := BEs_w8.trans (hb_w10.mono BEs_w8.size)
  have Bs_w10 := Bs_w8.trans (hb_w10.mono Bs_w8.size)
  have BTa_w10 := BTa_w8.trans (hb_w10.mono BTa_w8.size)
  have Ba_w10 := Ba_w8.trans (hb_w10.mono Ba_w8.size)
  have BTx_w10 := BTx_w8.trans (hb_w10.mono BTx_w8.size)
  have Bx_w10 := Bx_w8.trans (hb_w10.mono Bx_w8.size)
  have hto : trimOut s = trimSy s (reachAll s) := by unfold trimOut; rw [hsk'.out]; rfl
  rw [hto] at b1 b3 ⊢
  clear hto
  rw [hsk'.out]
  unfold Sy.val
  obtain ⟨t, ht⟩ : ∃ t, Hid (t = trimSy s (reachAll s)) := ⟨_, hid rfl⟩
  rw [← ht.out] at b1 b3 ⊢
  have et := hid b3
  have BEt_w10 : Below w10.heap.size w10 w10 := Below.refl _ _
  clear b3
  go_upto_region 9 with fail
  obtain ⟨w11, hw_w11, hz_w11, hb_w11, hS_w11⟩ := boxed w10 #[.int .i64 t.al, .int .i64 t.st, .slice At t.es.length ct] 34
  rw [hw_w11]
  clear hw_w11
  have ht0 := fun w' (hb : Below w11.heap.size w11 w') => hS_w11 0 _ rfl w' (hb.mono hz_w11)
  have ht1 := fun w' (hb : Below w11.heap.size w11 w') => hS_w11 1 _ rfl w' (hb.mono hz_w11)
  have ht2 := fun w' (hb : Below w11.heap.size w11 w') => hS_w11 2 _ rfl w' (hb.mono hz_w11)
  replace ht0 := hid ht0
  replace ht1 := hid ht1
  replace ht2 := hid ht2
  clear hS_w11
  have BW_w11 := BW_w10.trans (hb_w11.mono BW_w10.size)
  have BEs_w11 := BEs_w10.trans (hb_w11.mono BEs_w10.size)
  have Bs_w11 := Bs_w10.trans (hb_w11.mono Bs_w10.size)
  have BTa_w11 := BTa_w10.trans (hb_w11.mono BTa_w10.size)
  have Ba_w11 := Ba_w10.trans (hb_w11.mono Ba_w10.size)
  have BTx_w11 := BTx_w10.trans (hb_w11.mono BTx_w10.size)
  have Bx_w11 := Bx_w10.trans (hb_w11.mono Bx_w10.size)
  have BEt_w11 := BEt_w10.trans (hb_w11.mono BEt_w10.size)
  have Bt_w11 : Below w11.heap.size w11 w11 := Below.refl _ _
  have hal : Hid (t.al = s.al) := hid (by rw [ht.out]; rfl)
  have hqa : Hid (a = prA t t.al) := hid (by rw [hal.out, ht.out, (pr_trim hsk'.out).1]; exact ha.out)
  have hqok : Hid (ok = prK t t.al) := hid (by rw [hal.out, ht.out, (pr_trim hsk'.out).2]; exact hok.out)
  have pt0 := ht0.out _ Bt_w11
  have pt1 := ht1.out _ Bt_w11
  have pt2 := ht2.out _ Bt_w11
  go_wp2_with fail
  have hc_z := hid (implDeterminize_any t At ct w11 b1 b2 (hT.out.later BW_w11) (et.out.later BEt_w11))
  rw [← hqa.out, ← hqok.out] at hc_z
  refine hc_z.out.mono ?_
  clear hc_z
  clear pt0 pt1 pt2
  rintro e w12 ⟨hb_w12, v1, v2, xs, rfl, hau⟩
  obtain ⟨Az, cz, Bz, dz, rfl, rfl, tz⟩ := hau.at_
  replace tz := hid tz
  clear hau
  have BW_w12 := BW_w11.trans (hb_w12.mono BW_w11.size)
  have BEs_w12 := BEs_w11.trans (hb_w12.mono BEs_w11.size)
  have Bs_w12 := Bs_w11.trans (hb_w12.mono Bs_w11.size)
  have BTa_w12 := BTa_w11.trans (hb_w12.mono BTa_w11.size)
  have Ba_w12 := Ba_w11.trans (hb_w12.mono Ba_w11.size)
  have BTx_w12 := BTx_w11.trans (hb_w12.mono BTx_w11.size)
  have Bx_w12 := Bx_w11.trans (hb_w12.mono Bx_w11.size)
  have BEt_w12 := BEt_w11.trans (hb_w12.mono BEt_w11.size)
  have Bt_w12 := Bt_w11.trans (hb_w12.mono Bt_w11.size)
  have BTz_w12 : Below w12.heap.size w12 w12 := Below.refl _ _
  go_upto_region 10 with fail
  obtain ⟨w13, hw_w13, hz_w13, hb_w13, hS_w13⟩ := boxed w12 #[.int .i64 a.al, .slice Az a.nx.length cz, .slice Bz a.ac.length dz] 29
  rw [hw_w13]
  clear hw_w13
  have hz0 := fun w' (hb : Below w13.heap.size w13 w') => hS_w13 0 _ rfl w' (hb.mono hz_w13)
  have hz1 := fun w' (hb : Below w13.heap.size w13 w') => hS_w13 1 _ rfl w' (hb.mono hz_w13)
  have hz2 := fun w' (hb : Below w13.heap.size w13 w') => hS_w13 2 _ rfl w' (hb.mono hz_w13)
  replace hz0 := hid hz0
  replace hz1 := hid hz1
  replace hz2 := hid hz2
  clear hS_w13
  have BW_w13 := BW_w12.trans (hb_w13.mono BW_w12.size)
  have BEs_w13 := BEs_w12.trans (hb_w13.mono BEs_w12.size)
  have Bs_w13 := Bs_w12.trans (hb_w13.mono Bs_w12.size)
  have BTa_w13 := BTa_w12.trans (hb_w13.mono BTa_w12.size)
  have Ba_w13 := Ba_w12.trans (hb_w13.mono Ba_w12.size)
  have BTx_w13 := BTx_w12.trans (hb_w13.mono BTx_w12.size)
  have Bx_w13 := Bx_w12.trans (hb_w13.mono Bx_w12.size)
  have BEt_w13 := BEt_w12.trans (hb_w13.mono BEt_w12.size)
  have Bt_w13 := Bt_w12.trans (hb_w13.mono Bt_w12.size)
  have BTz_w13 := BTz_w12.trans (hb_w13.mono BTz_w12.size)
  have Bz_w13 : Below w13.heap.size w13 w13 := Below.refl _ _
  have pa0 := ha0.out _ Ba_w13
  have pa1 := ha1.out _ Ba_w13
  have pa2 := ha2.out _ Ba_w13
  have pz0 := hz0.out _ Bz_w13
  have pz1 := hz1.out _ Bz_w13
  have pz2 := hz2.out _ Bz_w13
  go_wp2_with fail
  refine (agAutomata_any a a Aa Ba Az Bz ca da cz dz w13 (ta.out.later BTa_w13) (tz.out.later BTz_w13)).mono ?_
  clear pa0 pa1 pa2 pz0 pz1 pz2
  rintro e w14 ⟨rfl, hb_w14⟩
  have BW_w14 := BW_w13.trans (hb_w14.mono BW_w13.size)
  have BEs_w14 := BEs_w13.trans (hb_w14.mono BEs_w13.size)
  have Bs_w14 := Bs_w13.trans (hb_w14.mono Bs_w13.size)
  have BTa_w14 := BTa_w13.trans (hb_w14.mono BTa_w13.size)
  have Ba_w14 := Ba_w13.trans (hb_w14.mono Ba_w13.size)
  have BTx_w14 := BTx_w13.trans (hb_w14.mono BTx_w13.size)
  have Bx_w14 := Bx_w13.trans (hb_w14.mono Bx_w13.size)
  have BEt_w14 := BEt_w13.trans (hb_w14.mono BEt_w13.size)
  have Bt_w14 := Bt_w13.trans (hb_w14.mono Bt_w13.size)
  have BTz_w14 := BTz_w13.trans (hb_w14.mono BTz_w13.size)
  have Bz_w14 := Bz_w13.trans (hb_w14.mono Bz_w13.size)
  rw [decide_eq_true rfl]
  go_wp2_with fail
  go_ret
  exact ⟨rfl, BW_w14⟩

end Go.Proofs.YtimoekglamdddaaDoor
