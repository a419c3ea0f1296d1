/- Lemmas, part 17: several texts in one. -/
import Derived.Test.YtempjhgajcdibaaDoorK2
import Derived.Test.YtempjhgajcdibaaDoorK6
import Derived.Test.YtempjhgajcdibaaDoorK8
import Derived.Test.YtempjhgajcdibaaDoorK3
import Derived.Test.YtempjhgajcdibaaDoorK4
import Derived.Deep.DeepCutAuto
import Derived.BigRegion
import Derived.Test.YtempjhgajcdibaaDoorK7
set_option linter.unusedSimpArgs false
set_option linter.unusedVariables false

/- Plain: how many bits a small number has. -/
namespace AG

def popE (x : Nat) : Nat := x % 2 + x / 2 % 2 + x / 4 % 2 + x / 8 % 2 + x / 16 % 2 + x / 32 % 2 + x / 64 % 2 + x / 128 % 2 + x / 256 % 2 + x / 512 % 2 + x / 1024 % 2 + x / 2048 % 2 + x / 4096 % 2 + x / 8192 % 2 + x / 16384 % 2 + x / 32768 % 2
/-- The library's steps. -/
def popS (x : Nat) : Nat :=
  let x1 := (x / 2 &&& 6148914691236517205) + (x &&& 6148914691236517205)
  let x2 := (x1 / 4 &&& 3689348814741910323) + (x1 &&& 3689348814741910323)
  let x3 := x2 / 16 + x2 &&& 1085102592571150095
  let x4 := x3 + x3 / 256
  let x5 := x4 + x4 / 65536
  let x6 := x5 + x5 / 4294967296
  x6 &&& 127
theorem pop_all : ∀ a : Fin 256, ∀ b : Fin 256, popE (a.val * 256 + b.val) = popS (a.val * 256 + b.val) := by decide +kernel
theorem pop_steps (x : Nat) (hx : x < 65536) : popE x = popS x := by
  have := pop_all ⟨x / 256, by omega⟩ ⟨x % 256, by omega⟩
  simp only at this
  rwa [show x / 256 * 256 + x % 256 = x from by omega] at this

end AG

/- math/bits.OnesCount on small numbers; the program's rank. -/
namespace Go.Proofs.YtempjhgajcdibaaDoor
open Go.RowKit Go.BigFrame AG

theorem and_u64 (a b : Nat) (ha : a < 18446744073709551616) (hb : b < 18446744073709551616) : bits .and .u64 (a : Int) (b : Int) = ((a &&& b : Nat) : Int) := by
  have hx : a &&& b < 2 ^ 64 := Nat.and_lt_two_pow _ (by omega)
  show IntKind.u64.wrap ((BitVec.ofInt 64 (a : Int) &&& BitVec.ofInt 64 (b : Int)).toNat : Int) = _
  rw [BitVec.toNat_and, BitVec.ofInt_natCast, BitVec.ofInt_natCast, BitVec.toNat_ofNat, BitVec.toNat_ofNat, Nat.mod_eq_of_lt (by omega), Nat.mod_eq_of_lt (by omega), IntKind.wrap_u64]
  omega
theorem wrap_u64n (a b : Nat) (h : a + b < 18446744073709551616) : IntKind.u64.wrap ((a : Int) + (b : Int)) = ((a + b : Nat) : Int) := by
  rw [IntKind.wrap_u64]
  omega

set_option maxHeartbeats 4000000 in
theorem onesCount64_any (x : Nat) (hx : x < 65536) (w : World) :
    Calls Tryd.prog 171 #[.int .u64 x] w fun e w' => e = .returned (.int .i64 (popE x : Nat)) ∧ w = w' := by
  have hp := hid (pop_steps x hx)
  obtain ⟨a1, ha1⟩ : ∃ a, a = x / 2 &&& 6148914691236517205 := ⟨_, rfl⟩
  obtain ⟨a2, ha2⟩ : ∃ a, a = x &&& 6148914691236517205 := ⟨_, rfl⟩
  have l1 : a1 ≤ x / 2 := by rw [ha1]; exact Nat.and_le_left
  have l2 : a2 ≤ x := by rw [ha2]; exact Nat.and_le_left
  have f1 : bits .and .u64 ((x : Int) / 2) 6148914691236517205 = (a1 : Nat) := by
    have := and_u64 (x / 2) 6148914691236517205 (by omega) (by omega)
    rw [← ha1] at this
    exact this
  have f2 : bits .and .u64 (x : Int) 6148914691236517205 = (a2 : Nat) := by
    have := and_u64 x 6148914691236517205 (by omega) (by omega)
    rw [← ha2] at this
    exact this
  obtain ⟨x1, hx1⟩ : ∃ a, a = a1 + a2 := ⟨_, rfl⟩
  have f3 : IntKind.u64.wrap ((a1 : Int) + (a2 : Int)) = (x1 : Nat) := by rw [wrap_u64n a1 a2 (by omega), hx1]
  obtain ⟨b1, hb1⟩ : ∃ a, a = x1 / 4 &&& 3689348814741910323 := ⟨_, rfl⟩
  obtain ⟨b2, hb2⟩ : ∃ a, a = x1 &&& 3689348814741910323 := ⟨_, rfl⟩
  have m1 : b1 ≤ x1 / 4 := by rw [hb1]; exact Nat.and_le_left
  have m2 : b2 ≤ x1 := by rw [hb2]; exact Nat.and_le_left
  have f4 : bits .and .u64 ((x1 : Int) / 4) 3689348814741910323 = (b1 : Nat) := by
    have := and_u64 (x1 / 4) 3689348814741910323 (by omega) (by omega)
    rw [← hb1] at this
    exact this
  have f5 : bits .and .u64 (x1 : Int) 3689348814741910323 = (b2 : Nat) := by
    have := and_u64 x1 3689348814741910323 (by omega) (by omega)
    rw [← hb2] at this
    exact this
  obtain ⟨x2, hx2⟩ : ∃ a, a = b1 + b2 := ⟨_, rfl⟩
  have f6 : IntKind.u64.wrap ((b1 : Int) + (b2 : Int)) = (x2 : Nat) := by rw [wrap_u64n b1 b2 (by omega), hx2]
  obtain ⟨y, hy⟩ : ∃ a, a = x2 / 16 + x2 := ⟨_, rfl⟩
  have f7 : IntKind.u64.wrap ((x2 : Int) / 16 + (x2 : Int)) = (y : Nat) := by
    have := wrap_u64n (x2 / 16) x2 (by omega)
    rw [← hy] at this
    exact this
  obtain ⟨x3, hx3⟩ : ∃ a, a = y &&& 1085102592571150095 := ⟨_, rfl⟩
  have m3 : x3 ≤ y := by rw [hx3]; exact Nat.and_le_left
  have f8 : bits .and .u64 (y : Int) 1085102592571150095 = (x3 : Nat) := by
    have := and_u64 y 1085102592571150095 (by omega) (by omega)
    rw [← hx3] at this
    exact this
  obtain ⟨x4, hx4⟩ : ∃ a, a = x3 + x3 / 256 := ⟨_, rfl⟩
  have f9 : IntKind.u64.wrap ((x3 : Int) + (x3 : Int) / 256) = (x4 : Nat) := by
    have := wrap_u64n x3 (x3 / 256) (by omega)
    rw [← hx4] at this
    exact this
  obtain ⟨x5, hx5⟩ : ∃ a, a = x4 + x4 / 65536 := ⟨_, rfl⟩
  have f10 : IntKind.u64.wrap ((x4 : Int) + (x4 : Int) / 65536) = (x5 : Nat) := by
    have := wrap_u64n x4 (x4 / 65536) (by omega)
    rw [← hx5] at this
    exact this
  obtain ⟨x6, hx6⟩ : ∃ a, a = x5 + x5 / 4294967296 := ⟨_, rfl⟩
  have f11 : IntKind.u64.wrap ((x5 : Int) + (x5 : Int) / 4294967296) = (x6 : Nat) := by
    have := wrap_u64n x5 (x5 / 4294967296) (by omega)
    rw [← hx6] at this
    exact this
  have f12 : IntKind.i64.wrap (x6 : Int) = (x6 : Int) := IntWalk.i64_in _ (by omega)
  have hfin : popE x = x6 &&& 127 := by rw [hp.out, hx6, hx5, hx4, hx3, hy, hx2, hb1, hb2, hx1, ha1, ha2]; rfl
  have f13 : bits .and .i64 (x6 : Int) 127 = ((popE x : Nat) : Int) := by
    have hx : x6 &&& 127 < 2 ^ 7 := Nat.and_lt_two_pow _ (by omega)
    rw [hfin]
    show IntKind.i64.wrap ((BitVec.ofInt 64 (x6 : Int) &&& BitVec.ofInt 64 ((127 : Nat) : Int)).toNat : Int) = _
    rw [BitVec.toNat_and, BitVec.ofInt_natCast, BitVec.ofInt_natCast, BitVec.toNat_ofNat, BitVec.toNat_ofNat, Nat.mod_eq_of_lt (by omega), Nat.mod_eq_of_lt (by omega), IntKind.wrap_i64]
    omega
  clear hp ha1 ha2 hx1 hb1 hb2 hx2 hy hx3 hx4 hx5 hx6 hfin l1 l2 m1 m2 m3
  go_enter Tryd.func171, Tryd.ntmps171
  go_wp2
  go_ret
  exact ⟨rfl, rfl⟩

set_option maxHeartbeats 1000000 in
theorem onesCount_any (x : Nat) (hx : x < 65536) (w : World) :
    Calls Tryd.prog 143 #[.int .u64 x] w fun e w' => e = .returned (.int .i64 (popE x : Nat)) ∧ w = w' := by
  go_enter Tryd.func143, Tryd.ntmps143
  go_wp2_with (go_at_call 171; refine (onesCount64_any x hx _).mono ?_; rintro e w' ⟨rfl, rfl⟩)
  go_ret
  exact ⟨rfl, rfl⟩

end Go.Proofs.YtempjhgajcdibaaDoor

/- Plain: ranks in a set, and a system with only some of its states. -/
namespace AG

/-- How many numbers below n are in the set. -/
def rankN (S : Nat) : Nat → Nat
  | 0 => 0
  | n + 1 => rankN S n + if S.testBit n = true then 1 else 0
theorem rankN_le (S : Nat) : ∀ n, rankN S n ≤ n
  | 0 => Nat.le_refl _
  | n + 1 => by
    have := rankN_le S n
    unfold rankN
    split <;> omega
theorem bit_num (x i : Nat) : (if x.testBit i = true then 1 else 0) = x / 2 ^ i % 2 := by
  have h := Nat.testBit_eq_decide_div_mod_eq (x := x) (i := i)
  rw [h]
  by_cases hh : x / 2 ^ i % 2 = 1
  · simp [hh]
  · simp [hh]; omega
theorem popE_rank (x : Nat) : popE x = rankN x 16 := by
  unfold popE
  simp only [rankN, bit_num]
  simp
theorem rank_mask (S n : Nat) : ∀ m, n ≤ m → rankN (S &&& (2 ^ n - 1)) m = rankN S n := by
  have key : ∀ i, (S &&& (2 ^ n - 1)).testBit i = (S.testBit i && decide (i < n)) := fun i => by rw [Nat.testBit_and, Nat.testBit_two_pow_sub_one]
  have low : ∀ m, m ≤ n → rankN (S &&& (2 ^ n - 1)) m = rankN S m := by
    intro m
    induction m with
    | zero => intro _; rfl
    | succ m ih =>
      intro h
      rw [rankN, rankN, ih (by omega), key, decide_eq_true (by omega : m < n), Bool.and_true]
  intro m
  induction m with
  | zero => intro h; exact low 0 (by omega) |>.trans (by rw [show n = 0 from by omega])
  | succ m ih =>
    intro h
    by_cases e : n = m + 1
    · rw [e, ← e]; exact low n (Nat.le_refl _)
    · rw [rankN, ih (by omega), key, decide_eq_false (by omega : ¬ m < n)]
      simp
theorem rank_top {S n : Nat} (hS : S < 2 ^ n) : ∀ m, n ≤ m → rankN S m = rankN S n := by
  intro m h
  have := rank_mask S n m h
  have e : S &&& (2 ^ n - 1) = S := by rw [Nat.and_two_pow_sub_one_eq_mod, Nat.mod_eq_of_lt hS]
  rwa [e] at this

def trimE (R : Nat) (e : Ed) : Ed := ⟨(rankN R e.f.toNat : Nat), e.l, (rankN R e.t.toNat : Nat)⟩
def keptE (R : Nat) (e : Ed) : Bool := R.testBit e.f.toNat && R.testBit e.t.toNat
def trimEs (R : Nat) (es : List Ed) : List Ed := (es.filter (keptE R)).map (trimE R)
/-- A system with only the states of a set, renumbered. -/
def trimSy (s : Sy) (R : Nat) : Sy := ⟨s.al, (rankN R s.st.toNat : Nat), trimEs R s.es⟩
theorem trimEs_hit {R : Nat} {es : List Ed} {k : Nat} (hk : k < es.length) (h : keptE R es[k] = true) : trimEs R (es.take (k + 1)) = trimEs R (es.take k) ++ [trimE R es[k]] := by
  unfold trimEs
  rw [List.take_succ_eq_append_getElem hk, List.filter_append, List.map_append]
  simp [h]
theorem trimEs_miss {R : Nat} {es : List Ed} {k : Nat} (hk : k < es.length) (h : keptE R es[k] = false) : trimEs R (es.take (k + 1)) = trimEs R (es.take k) := by
  unfold trimEs
  rw [List.take_succ_eq_append_getElem hk, List.filter_append, List.map_append]
  simp [h]
theorem trimEs_len (R : Nat) (es : List Ed) : (trimEs R es).length ≤ es.length := by
  unfold trimEs
  rw [List.length_map]
  exact List.length_filter_le _ _

end AG

/- Ranks: the program's rank, the reference's l2Rank. -/
namespace Go.Proofs.YtempjhgajcdibaaDoor
open Go.RowKit Go.BigFrame AG

set_option maxHeartbeats 1000000 in
theorem implRank_any (S n : Nat) (w : World) (hS : S < 65536) (hn : n ≤ 16) :
    Calls Tryd.prog 144 #[.int .i64 (S : Nat), .int .i64 (n : Nat)] w fun e w' => e = .returned (.int .i64 (rankN S n : Nat)) ∧ w = w' := by
  have h2 : 2 ^ n ≤ 2 ^ 16 := Nat.pow_le_pow_right (by omega) hn
  have h3 : 0 < 2 ^ n := Nat.two_pow_pos n
  have f1 := wrap_pow (n := n) (by omega)
  obtain ⟨M, hM⟩ : ∃ M, M = 2 ^ n - 1 := ⟨_, rfl⟩
  have f2 : (((2 ^ n : Nat) : Int) - 1) = (M : Int) := by omega
  have f3 := bits_andN S M hS (by omega)
  obtain ⟨X, hX⟩ : ∃ X, X = S &&& M := ⟨_, rfl⟩
  rw [← hX] at f3
  have hXl : X < 65536 := by
    have : X ≤ S := by rw [hX]; exact Nat.and_le_left
    omega
  have hfin : Hid (popE X = rankN S n) := hid (by rw [popE_rank, hX, hM, rank_mask S n 16 hn])
  generalize hP : 2 ^ n = P at *
  clear hM hX
  go_enter Tryd.func144, Tryd.ntmps144
  go_wp2_with (go_at_call 143; refine (onesCount_any X hXl _).mono ?_; rintro e w' ⟨rfl, rfl⟩; rw [hfin.out])
  go_ret
  exact ⟨rfl, rfl⟩

set_option maxHeartbeats 1000000 in
theorem l2Rank_any (S n : Nat) (w : World) (hn : n ≤ 16) :
    Calls Tryd.prog 145 #[.int .i64 (S : Nat), .int .i64 (n : Nat)] w fun e w' => e = .returned (.int .i64 (rankN S n : Nat)) ∧ w = w' := by
  go_enter Tryd.func145, Tryd.ntmps145
  go_wp2_with fail
  go_loopw [5, 6] (fun o i wr => ∃ k : Nat, i = .int .i64 (k : Nat) ∧ k ≤ n ∧ o = .int .i64 (rankN S k : Nat) ∧ w = wr) (fun _ i _ => n - (intOf i).toNat)
  case atStart => exact ⟨0, rfl, by omega, rfl, rfl⟩
  case round =>
    obtain ⟨k, rfl, hk, rfl, rfl⟩ := hrel
    have hle := rankN_le S k
    by_cases hlt : k < n
    · have hnx : Hid (rankN S (k + 1) = rankN S k + if S.testBit k = true then 1 else 0) := hid rfl
      cases hb : S.testBit k
      · have hn2 : Hid (rankN S (k + 1) = rankN S k) := hid (by rw [hnx.out, hb]; simp)
        replace hb := hid hb
        go_wp2_with (go_at_call 95; refine (l1Has_nat S k _ (by omega)).mono ?_; rintro e w' ⟨rfl, rfl⟩; rw [hb.out])
        go_roundw
        case rel => exact ⟨k + 1, by go_num, by omega, by rw [hn2.out], by first | trivial | rfl⟩
        case measure => simp [intOf]; omega
      · have hn2 : Hid (rankN S (k + 1) = rankN S k + 1) := hid (by rw [hnx.out, hb]; simp)
        replace hb := hid hb
        go_wp2_with (go_at_call 95; refine (l1Has_nat S k _ (by omega)).mono ?_; rintro e w' ⟨rfl, rfl⟩; rw [hb.out])
        go_roundw
        case rel => exact ⟨k + 1, by go_num, by omega, by rw [hn2.out]; go_num, by first | trivial | rfl⟩
        case measure => simp [intOf]; omega
    · obtain rfl : k = n := by omega
      go_wp2
      go_ret
      exact ⟨rfl, rfl⟩

end Go.Proofs.YtempjhgajcdibaaDoor

/- A system with only some of its states: the program's subSystem, the reference's l2Keep. -/
namespace Go.Proofs.YtempjhgajcdibaaDoor
open Go.RowKit Go.BigFrame AG

/-- The result under way: its own block gs, its edges a row that the call owns. -/
structure SubSt (w0 wr : World) (gs : Nat) (al st : Int) (v : Value) (es : List Ed) : Prop where
  blk : Blk wr gs 25 #[.int .i64 al, .int .i64 st, v]
  own : wr.ownsRow w0.heap.size 64 3 v es.length (edCells es)
  low : w0.heap.size ≤ gs
  keep : Below w0.heap.size w0 wr
theorem SubSt.later {w0 wr w1 : World} {gs : Nat} {al st : Int} {v : Value} {es : List Ed} (h : SubSt w0 wr gs al st v es) (hb : Below wr.heap.size wr w1) : SubSt w0 w1 gs al st v es :=
  ⟨h.blk.below hb h.blk.lt, own_later h.own hb, h.low, h.keep.trans (hb.mono h.keep.size)⟩
theorem SubSt.add {w0 wr w1 : World} {gs gg cap : Nat} {al st : Int} {v : Value} {es : List Ed} {x : Ed} (h : SubSt w0 wr gs al st v es)
    (hown : w1.ownsRow w0.heap.size 64 3 (.slice (some ⟨gg, 0, none⟩) (es.length + 1) cap) (es.length + 1) (edCells es ++ [.int .i64 x.f, .int .i64 x.l, .int .i64 x.t])) (hg : wr.grownBy w1 v.ownBlock) :
    SubSt w0 (w1.setCell ⟨gs, 2, none⟩ (.slice (some ⟨gg, 0, none⟩) (es.length + 1) cap)) gs al st (.slice (some ⟨gg, 0, none⟩) (es.length + 1) cap) (es ++ [x]) := by
  have hne : v.ownBlock ≠ some gs := fun e => own_ne h.own h.blk (by decide) gs e rfl
  have hb1 : Blk w1 gs 25 #[.int .i64 al, .int .i64 st, v] := by
    have := hg.block gs h.blk.lt (Ne.symm hne)
    exact this.trans h.blk
  have hne2 : (Value.slice (some ⟨gg, 0, none⟩) (es.length + 1) cap).ownBlock ≠ some gs := fun e => own_ne hown hb1 (by decide) gs e rfl
  refine ⟨by simpa using hb1.set_ 2 (.slice (some ⟨gg, 0, none⟩) (es.length + 1) cap), ?_, h.low, ?_⟩
  · have e : (es ++ [x]).length = es.length + 1 := by simp
    rw [e, edCells_append]
    exact ownsRow_setCell_other hown hne2 _
  · exact Below.setCell (h.keep.grown hg h.keep.size (fun k hk => (h.own.lt k hk).1)) (by have := h.low; simpa using this) _

theorem has_nat (S n : Nat) (w : World) (h : n < 16) :
    Calls Tryd.prog 58 #[.int .i64 (S : Nat), .int .i64 (n : Nat)] w fun e w' => e = .returned (.bool (S.testBit n)) ∧ w = w' := by
  have := has_any (S : Int) (n : Int) w (by omega)
  have e : HasZ (S : Int) (n : Int) = S.testBit n := by unfold HasZ; rw [Int.toNat_natCast, Has_nat]; simp
  rw [e] at this
  exact this

def SubPost (w : World) (x : Sy) (e : Ending) (w' : World) : Prop := ∃ (A : Option Addr) (c : Nat), e = .returned (x.val A c) ∧ x.es.length ≤ c ∧ c ≤ 9223372036854775807 ∧ EdsAt w' w'.heap.size A x.es ∧ FreshA w.heap.size A ∧ Below w.heap.size w w'

set_option maxRecDepth 100000 in
set_option maxHeartbeats 8000000 in
theorem l2Keep_any (s : Sy) (A : Option Addr) (c R : Nat) (w : World) (hs : edgesIn s) (hst : s.st ≤ 16) (hst0 : 0 ≤ s.st) (hR : R < 2 ^ s.st.toNat) (hL : s.es.length ≤ 1000000) (hl : s.es.length ≤ c) (hc : c ≤ 9223372036854775807) (hr : EdsAt w w.heap.size A s.es) :
    Calls Tryd.prog 100 #[s.val A c, .int .i64 (R : Nat)] w (SubPost w (trimSy s R)) := by
  obtain ⟨i0, hi, hz0, hz1, hz2⟩ := info_parts infoEd
  unfold Sy.val
  have hR16 : R < 65536 := by
    have : 2 ^ s.st.toNat ≤ 2 ^ 16 := Nat.pow_le_pow_right (by omega) (by omega)
    omega
  obtain ⟨n, hn⟩ := Int.eq_ofNat_of_zero_le hst0
  have hn16 : n ≤ 16 := by omega
  have hpop : Hid (popE R = rankN R n) := hid (by rw [popE_rank]; exact rank_top (by rw [hn] at hR; simpa using hR) 16 hn16)
  have htr : Hid (trimSy s R = ⟨s.al, (rankN R n : Nat), trimEs R s.es⟩) := hid (by unfold trimSy; rw [hn]; rfl)
  have hpar := (Blk.new w 25 #[.int .i64 s.al, .int .i64 s.st, .slice A s.es.length c]).alloc (.cells #[.int .i64 0, .int .i64 0, .slice none 0 0] 25)
  have hres := Blk.new (w.alloc (.cells #[.int .i64 s.al, .int .i64 s.st, .slice A s.es.length c] 25)) 25 #[.int .i64 0, .int .i64 0, .slice none 0 0]
  have hb0 : Below w.heap.size w ((w.alloc (.cells #[.int .i64 s.al, .int .i64 s.st, .slice A s.es.length c] 25)).alloc (.cells #[.int .i64 0, .int .i64 0, .slice none 0 0] 25)) := ((Below.refl _ _).alloc (Nat.le_refl _) _).alloc (by simp) _
  have hsz0 : ((w.alloc (.cells #[.int .i64 s.al, .int .i64 s.st, .slice A s.es.length c] 25)).alloc (.cells #[.int .i64 0, .int .i64 0, .slice none 0 0] 25)).heap.size = w.heap.size + 2 := by simp
  simp only [World.size_alloc] at hres
  generalize hw0 : (w.alloc (.cells #[.int .i64 s.al, .int .i64 s.st, .slice A s.es.length c] 25)).alloc (.cells #[.int .i64 0, .int .i64 0, .slice none 0 0] 25) = w0 at hres hb0 hsz0 hpar
  rw [hn] at hpar
  have p0 := hpar.cell 0
  have p1 := hpar.cell 1
  have p2 := hpar.cell 2
  simp only [List.getElem?_toArray, List.getElem?_cons_zero, List.getElem?_cons_succ] at p0 p1 p2
  have q0 := GK.BI.cell p0
  have q1 := GK.BI.cell p1
  have q2 := GK.BI.cell p2
  have hs0 := hid (hr.later hb0)
  replace hr := hid hr
  replace hs := hid hs
  replace hres := hid hres
  have hpar' := hid hpar
  replace hsz0 := hid hsz0
  replace hn := hid hn
  clear p0 p1 p2 hpar
  go_enter Tryd.func100, Tryd.ntmps100
  go_wp2_with fail
  refine GK.wp_region 8 [8] 200 (KeepB fun _ => False) (GK.BI w0) (fun _ u _ => u = .int .i64 ((rankN R n : Nat) : Int)) (by kernel_rfl) (by kernel_rfl) (GK.BI.way w0) (by decide) (Below.refl _ _).drew ?_
  simp only [List.take_succ_cons, List.take_zero]
  (repeat (refine GK.grow_quiet w0 (by rfl) (by rfl) ?_; intro K hK; go_big_quiet_op; go_big_quiet_on))
  refine GK.grow_val (.int .i64 ((rankN R n : Nat) : Int)) (by rfl) rfl (fun m wq hm2 hbq _ => ?_) ?_
  · go_simp
    exact ⟨rfl, (l2Rank_any R n wq hn16).mono fun e w' ⟨h1, h2⟩ => ⟨h1, GK.BI.after hbq (by rw [← h2]; exact Below.refl _ _)⟩⟩
  simp only [Act.put, List.setIfInBounds_toArray, List.set_cons_zero, List.set_cons_succ]
  (repeat (refine GK.grow_quiet w0 (by rfl) (by rfl) ?_; intro K hK; go_big_quiet_op; go_big_quiet_on))
  refine GK.grow_new (K := fun _ => False) (by rfl) _ (fun b => .pointer (some ⟨b, 0, none⟩)) 25 #[.int .i64 0, .int .i64 0, .slice none 0 0] (fun _ => by go_simp) rfl (fun _ _ o h => GK.BI.alloc o h) (fun _ _ h => GK.BI.size h) (fun _ h => h.elim) (fun gs hgs => ?_)
  simp only [Act.put, List.setIfInBounds_toArray, List.set_cons_zero, List.set_cons_succ]
  refine GK.grow_nil ?_
  intro w1 hw1 hf
  simp only [List.filterMap_cons, List.filterMap_nil, List.getElem?_cons_zero, List.getElem?_cons_succ]
  obtain ⟨gs', e1, -, hblk⟩ := hf _ List.mem_cons_self
  cases e1
  replace hw1 : Below w0.heap.size w0 w1 := hw1
  clear hf q0 q1 q2 hw0
  have hblk' : Blk w1 gs 25 #[.int .i64 0, .int .i64 0, .slice none 0 0] := hblk
  have hgl := hblk'.lt
  have c0 := hblk'.cell 0
  have c1 := hblk'.cell 1
  have c2 := hblk'.cell 2
  have f0 := hblk'.frozen 0
  have f1 := hblk'.frozen 1
  have f2 := hblk'.frozen 2
  simp only [List.getElem?_toArray, List.getElem?_cons_zero, List.getElem?_cons_succ] at c0 c1 c2
  have hS1 : Hid (SubSt w0 (((w1.setCell ⟨gs, 0, none⟩ (.int .i64 s.al)).setCell ⟨gs, 1, none⟩ (.int .i64 ((rankN R n : Nat) : Int))).setCell ⟨gs, 2, none⟩ (.slice none 0 0)) gs s.al ((rankN R n : Nat) : Int) (.slice none 0 0) []) := hid
    ⟨by simpa using ((hblk'.set_ 0 (.int .i64 s.al)).set_ 1 (.int .i64 ((rankN R n : Nat) : Int))).set_ 2 (.slice none 0 0), World.ownsRow_nil _ _ _ _, hgs,
      ((hw1.setCell (by simpa using hgs) _).setCell (by simpa using hgs) _).setCell (by simpa using hgs) _⟩
  obtain ⟨w2, hw2⟩ : ∃ w2, ((w1.setCell ⟨gs, 0, none⟩ (.int .i64 s.al)).setCell ⟨gs, 1, none⟩ (.int .i64 ((rankN R n : Nat) : Int))).setCell ⟨gs, 2, none⟩ (.slice none 0 0) = w2 := ⟨_, rfl⟩
  rw [hw2] at hS1
  have hparr := fun (wr : World) (hb : Below w0.heap.size w0 wr) => (hpar'.out.below hb hpar'.out.lt)
  have hpz := hS1.out.keep
  have g0 := (hparr _ hpz).cell 0
  have g1 := (hparr _ hpz).cell 1
  have g2 := (hparr _ hpz).cell 2
  simp only [List.getElem?_toArray, List.getElem?_cons_zero, List.getElem?_cons_succ] at g0 g1 g2
  replace hparr := hid hparr
  replace hblk := hid hblk
  clear hblk' hpz
  go_wp2_with fail
  go_loopw [6] (fun i wr => ∃ (k : Nat) (v : Value), i = .int .i64 (k : Nat) ∧ k ≤ s.es.length ∧ SubSt w0 wr gs s.al ((rankN R n : Nat) : Int) v (trimEs R (s.es.take k))) (fun i _ => s.es.length - (intOf i).toNat)
  case atStart => exact ⟨0, _, rfl, by omega, hS1.out⟩
  case round =>
    clear g0 g1 g2
    obtain ⟨k, v, rfl, hk, hst2⟩ := hrel
    have hbr := hst2.keep
    have g0 := (hparr.out _ hbr).cell 0
    have g1 := (hparr.out _ hbr).cell 1
    have g2 := (hparr.out _ hbr).cell 2
    simp only [List.getElem?_toArray, List.getElem?_cons_zero, List.getElem?_cons_succ] at g0 g1 g2
    have hzr := hbr.size
    have hz00 := hsz0.out
    by_cases hlt : k < s.es.length
    · obtain ⟨b, o, hA, hbb, hE⟩ := hs0.out (by omega)
      subst hA
      obtain ⟨e0, e1, e2⟩ := hE k hlt
      rw [← hbr.cell (by simpa using hbb)] at e0 e1 e2
      obtain ⟨i1, i2, i3, i4, i5, i6, -, -, -⟩ := hs.out s.es[k] (List.getElem_mem _)
      have hhit := trimEs_hit (R := R) hlt
      have hmiss := trimEs_miss (R := R) hlt
      obtain ⟨x, hx⟩ : ∃ x, x = s.es[k] := ⟨_, rfl⟩
      rw [← hx] at e0 e1 e2 i1 i2 i3 i4 i5 i6 hhit hmiss
      obtain ⟨⟨xf, xl, xt⟩, rfl⟩ : ∃ y, y = x := ⟨_, rfl⟩
      simp only at e0 e1 e2 i1 i2 i3 i4 i5 i6
      obtain ⟨f, rfl⟩ := Int.eq_ofNat_of_zero_le i1
      obtain ⟨t, rfl⟩ := Int.eq_ofNat_of_zero_le i3
      have hf16 : f < 16 := by omega
      have ht16 : t < 16 := by omega
      have k1 : (0 : Int) ≤ (k : Int) ∧ (k : Int) < (s.es.length : Int) := by omega
      have hkept : Hid (keptE R ⟨(f : Int), xl, (t : Int)⟩ = (R.testBit f && R.testBit t)) := hid rfl
      have htrim : Hid (trimE R ⟨(f : Int), xl, (t : Int)⟩ = ⟨((rankN R f : Nat) : Int), xl, ((rankN R t : Nat) : Int)⟩) := hid rfl
      have r1 := rankN_le R f
      have r2 := rankN_le R t
      have hnb := Blk.new wr 64 #[.int .i64 (f : Int), .int .i64 xl, .int .i64 (t : Int)]
      have hba : Below wr.heap.size wr (wr.alloc (.cells #[.int .i64 (f : Int), .int .i64 xl, .int .i64 (t : Int)] 64)) := (Below.refl _ _).alloc (Nat.le_refl _) _
      have hbs : wr.heap.size < (wr.alloc (.cells #[.int .i64 (f : Int), .int .i64 xl, .int .i64 (t : Int)] 64)).heap.size := by simp
      generalize hwa : wr.alloc (.cells #[.int .i64 (f : Int), .int .i64 xl, .int .i64 (t : Int)] 64) = wa at hnb hba hbs
      have d0 := hnb.cell 0
      have d1 := hnb.cell 1
      have d2 := hnb.cell 2
      simp only [List.getElem?_toArray, List.getElem?_cons_zero, List.getElem?_cons_succ] at d0 d1 d2
      have hSa := hid (hst2.later hba)
      have hbl := hSa.out.blk.lt
      have hle : (trimEs R (s.es.take k)).length ≤ k := by have := trimEs_len R (s.es.take k); rw [List.length_take] at this; omega
      replace hE := hid hE
      replace hx := hid hx
      replace hhit := hid hhit
      replace hmiss := hid hmiss
      clear hst2
      cases hbf : R.testBit f
      · have hm := hid (hmiss.out (by rw [hkept.out, hbf]; rfl))
        replace hbf := hid hbf
        go_wp2_with (go_at_call 95; refine (l1Has_nat R f _ (by omega)).mono ?_; rintro e w' ⟨rfl, rfl⟩; rw [hbf.out])
        go_roundw
        case rel => exact ⟨k + 1, v, by go_num, by omega, by rw [hm.out]; exact hSa.out⟩
        case measure => simp [intOf]; omega
      · cases hbt : R.testBit t
        · have hm := hid (hmiss.out (by rw [hkept.out, hbf, hbt]; rfl))
          replace hbf := hid hbf
          replace hbt := hid hbt
          go_wp2_with fail
          refine (l1Has_nat R f _ (by omega)).mono ?_
          rintro e w' ⟨rfl, rfl⟩
          rw [hbf.out]
          go_wp2_with fail
          refine (l1Has_nat R t _ (by omega)).mono ?_
          rintro e w' ⟨rfl, rfl⟩
          rw [hbt.out]
          go_wp2_with fail
          go_roundw
          case rel => exact ⟨k + 1, v, by go_num, by omega, by rw [hm.out]; exact hSa.out⟩
          case measure => simp [intOf]; omega
        · have hm := hid (hhit.out (by rw [hkept.out, hbf, hbt]; rfl))
          replace hbf := hid hbf
          replace hbt := hid hbt
          have c2 := hSa.out.blk.cell 2
          simp only [List.getElem?_toArray, List.getElem?_cons_zero, List.getElem?_cons_succ] at c2
          have q0 := GK.BI.cell c2
          have q1 := GK.BI.cell d0
          have q2 := GK.BI.cell d1
          have q3 := GK.BI.cell d2
          obtain ⟨es, hes⟩ : ∃ es, es = trimEs R (s.es.take k) := ⟨_, rfl⟩
          rw [← hes] at hSa hle hm
          replace hes := hid hes
          go_wp2_with fail
          refine (l1Has_nat R f _ (by omega)).mono ?_
          rintro e w' ⟨rfl, rfl⟩
          rw [hbf.out]
          go_wp2_with fail
          refine (l1Has_nat R t _ (by omega)).mono ?_
          rintro e w' ⟨rfl, rfl⟩
          rw [hbt.out]
          go_wp2_with fail
          clear c2 d0 d1 d2
          refine GK.wp_region 14 [14, 15, 16] 200 (KeepB fun _ => False) (GK.BI wa) (fun i u _ => u = .int .i64 (((if i = 5 then rankN R f else rankN R t) : Nat) : Int)) (by kernel_rfl) (by kernel_rfl) (GK.BI.way wa) (by decide) (Below.refl _ _).drew ?_
          simp only [List.take_succ_cons, List.take_zero]
          (repeat (refine GK.grow_quiet wa (by rfl) (by rfl) ?_; intro K hK; go_big_quiet_op; go_big_quiet_on))
          refine GK.grow_val (.int .i64 ((rankN R f : Nat) : Int)) (by rfl) rfl (fun m wq hm2 hbq _ => ?_) ?_
          · go_simp
            exact ⟨rfl, (l2Rank_any R f wq (by omega)).mono fun e w' ⟨h1, h2⟩ => ⟨h1, GK.BI.after hbq (by rw [← h2]; exact Below.refl _ _)⟩⟩
          simp only [Act.put, List.setIfInBounds_toArray, List.set_cons_zero, List.set_cons_succ]
          (repeat (refine GK.grow_quiet wa (by rfl) (by rfl) ?_; intro K hK; go_big_quiet_op; go_big_quiet_on))
          refine GK.grow_val (.int .i64 ((rankN R t : Nat) : Int)) (by rfl) rfl (fun m wq hm2 hbq _ => ?_) ?_
          · go_simp
            exact ⟨rfl, (l2Rank_any R t wq (by omega)).mono fun e w' ⟨h1, h2⟩ => ⟨h1, GK.BI.after hbq (by rw [← h2]; exact Below.refl _ _)⟩⟩
          simp only [Act.put, List.setIfInBounds_toArray, List.set_cons_zero, List.set_cons_succ]
          (repeat (refine GK.grow_quiet wa (by rfl) (by rfl) ?_; intro K hK; go_big_quiet_op; go_big_quiet_on))
          refine GK.grow_new (K := fun _ => False) (by rfl) _ (fun b => .slice (some ⟨b, 0, none⟩) 1 1) 64 #[.int .i64 ((rankN R f : Nat) : Int), .int .i64 xl, .int .i64 ((rankN R t : Nat) : Int)] (fun _ => by go_simp) rfl (fun _ _ o h => GK.BI.alloc o h) (fun _ _ h => GK.BI.size h) (fun _ h => h.elim) (fun bb hbb2 => ?_)
          simp only [Act.put, List.setIfInBounds_toArray, List.set_cons_zero, List.set_cons_succ]
          refine GK.grow_nil ?_
          intro w4 hw4 hf
          obtain ⟨g', hge, hge2, hblk4⟩ := hf _ List.mem_cons_self
          cases hge
          clear hf
          simp only [List.filterMap_cons, List.filterMap_nil, List.getElem?_cons_zero, List.getElem?_cons_succ]
          replace hw4 : Below wa.heap.size wa w4 := hw4
          have hS4 := hid (hSa.out.later hw4)
          have z4 := hw4.size
          have hown4 := hS4.out.own
          have hbl4 := hS4.out.blk.lt
          have ag : v.ownBlock ≠ some gs := fun e => own_ne hS4.out.own hS4.out.blk (by decide) gs e rfl
          have c2 := hS4.out.blk.cell 2
          have f2 := hS4.out.blk.frozen 2
          simp only [List.getElem?_toArray, List.getElem?_cons_zero, List.getElem?_cons_succ] at c2
          clear q0 q1 q2 q3
          refine wpList_append_lies _ (by rfl) _ _ 23 (by rfl) w0.heap.size 64 i0 (.agg #[.int .i64 0, .int .i64 0, .int .i64 0]) 3 24 Tryd.underlying23 hi hz0 hz1 hz2 rfl (by decide) v es.length (edCells es) (by rfl) hown4 ⟨bb, 0, none⟩ 1 1 [.int .i64 ((rankN R f : Nat) : Int), .int .i64 xl, .int .i64 ((rankN R t : Nat) : Int)] (by rfl) (by rfl) (World.news_of_block hblk4) ?c1 (by omega) ?c3 ?c4 ?c5 w4.heap.size rfl ?_
          case c1 => simp [Value.oneCell']
          case c3 => unfold maxLen; omega
          case c4 => omega
          case c5 => have := hS4.out.keep.size; omega
          intro gg cap w5 hown5 hgrow hat hlt5
          have c2' : w5.cell? ⟨gs, 2, none⟩ = some v := by rw [hgrow.cell_far _ (by simpa using hbl4) (Ne.symm ag)]; exact c2
          have f2' : w5.frozen? ⟨gs, 2, none⟩ = false := by rw [hgrow.frozen_far _ (by simpa using hbl4) (Ne.symm ag)]; exact f2
          have hfin := hid (hS4.out.add (x := ⟨((rankN R f : Nat) : Int), xl, ((rankN R t : Nat) : Int)⟩) hown5 hgrow)
          have hz5 := hgrow.size
          clear hown4 hown5 hgrow c2 f2
          go_wp2_with fail
          go_roundw
          case rel => exact ⟨k + 1, _, by go_num, by omega, by rw [hm.out, htrim.out]; exact hfin.out⟩
          case measure => simp [intOf]; omega
    · obtain rfl : k = s.es.length := by omega
      rw [List.take_length] at hst2
      obtain ⟨Av, cv, hve, hv1, hv2⟩ := own_slice hst2.own
      subst hve
      have hrd := OwnEds.read (show OwnEds wr w0.heap.size (.slice Av (trimEs R s.es).length cv) (trimEs R s.es) from hst2.own)
      obtain ⟨A2, c2', hve2, h1, h2, h3, h4⟩ := hrd
      cases hve2
      have c0 := hst2.blk.cell 0
      have c1 := hst2.blk.cell 1
      have c2 := hst2.blk.cell 2
      have hresb := hres.out.below hbr hres.out.lt
      have d0 := hresb.cell 0
      have d1 := hresb.cell 1
      have d2 := hresb.cell 2
      have f0 := hresb.frozen 0
      have f1 := hresb.frozen 1
      have f2 := hresb.frozen 2
      simp only [List.getElem?_toArray, List.getElem?_cons_zero, List.getElem?_cons_succ] at c0 c1 c2 d0 d1 d2
      have hfin : Hid (SubPost w (trimSy s R) (.returned (.agg #[.int .i64 s.al, .int .i64 ((rankN R n : Nat) : Int), .slice Av (trimEs R s.es).length cv])) (((wr.setCell ⟨w.heap.size + 1, 0, none⟩ (.int .i64 s.al)).setCell ⟨w.heap.size + 1, 1, none⟩ (.int .i64 ((rankN R n : Nat) : Int))).setCell ⟨w.heap.size + 1, 2, none⟩ (.slice Av (trimEs R s.es).length cv))) := hid (by
        rw [htr.out]
        have hne : ∀ b o, Av = some ⟨b, o, none⟩ → 0 < (trimEs R s.es).length → b ≠ w.heap.size + 1 := fun b o hA _ => by have := h4 b o hA; omega
        refine ⟨Av, cv, rfl, h1, h2, ?_, fun b o hA => by have := h4 b o hA; omega, ?_⟩
        · simpa [World.setCell] using ((h3.stored _ hne).stored _ hne).stored _ hne
        · exact (((hb0.trans (hbr.mono (by omega))).setCell (by simp) _).setCell (by simp) _).setCell (by simp) _)
      have hvl := hresb.lt
      clear hresb hst2 h3 h4
      go_wp2
      refine bodyPost_ret (v := .agg #[.int .i64 s.al, .int .i64 ((rankN R n : Nat) : Int), .slice Av (trimEs R s.es).length cv]) (by simp [results, Tryd.results100, go_sem, d0, d1, d2]) rfl ?_
      exact hfin.out

set_option maxRecDepth 100000 in
set_option maxHeartbeats 8000000 in
theorem subSystem_any (s : Sy) (A : Option Addr) (c R : Nat) (w : World) (hs : edgesIn s) (hst : s.st ≤ 16) (hst0 : 0 ≤ s.st) (hR : R < 2 ^ s.st.toNat) (hL : s.es.length ≤ 1000000) (hl : s.es.length ≤ c) (hc : c ≤ 9223372036854775807) (hr : EdsAt w w.heap.size A s.es) :
    Calls Tryd.prog 99 #[s.val A c, .int .i64 (R : Nat)] w (SubPost w (trimSy s R)) := by
  obtain ⟨i0, hi, hz0, hz1, hz2⟩ := info_parts infoEd
  unfold Sy.val
  have hR16 : R < 65536 := by
    have : 2 ^ s.st.toNat ≤ 2 ^ 16 := Nat.pow_le_pow_right (by omega) (by omega)
    omega
  obtain ⟨n, hn⟩ := Int.eq_ofNat_of_zero_le hst0
  have hn16 : n ≤ 16 := by omega
  have hpop : Hid (popE R = rankN R n) := hid (by rw [popE_rank]; exact rank_top (by rw [hn] at hR; simpa using hR) 16 hn16)
  have htr : Hid (trimSy s R = ⟨s.al, (rankN R n : Nat), trimEs R s.es⟩) := hid (by unfold trimSy; rw [hn]; rfl)
  have hpar := (Blk.new w 25 #[.int .i64 s.al, .int .i64 s.st, .slice A s.es.length c]).alloc (.cells #[.int .i64 0, .int .i64 0, .slice none 0 0] 25)
  have hres := Blk.new (w.alloc (.cells #[.int .i64 s.al, .int .i64 s.st, .slice A s.es.length c] 25)) 25 #[.int .i64 0, .int .i64 0, .slice none 0 0]
  have hb0 : Below w.heap.size w ((w.alloc (.cells #[.int .i64 s.al, .int .i64 s.st, .slice A s.es.length c] 25)).alloc (.cells #[.int .i64 0, .int .i64 0, .slice none 0 0] 25)) := ((Below.refl _ _).alloc (Nat.le_refl _) _).alloc (by simp) _
  have hsz0 : ((w.alloc (.cells #[.int .i64 s.al, .int .i64 s.st, .slice A s.es.length c] 25)).alloc (.cells #[.int .i64 0, .int .i64 0, .slice none 0 0] 25)).heap.size = w.heap.size + 2 := by simp
  simp only [World.size_alloc] at hres
  generalize hw0 : (w.alloc (.cells #[.int .i64 s.al, .int .i64 s.st, .slice A s.es.length c] 25)).alloc (.cells #[.int .i64 0, .int .i64 0, .slice none 0 0] 25) = w0 at hres hb0 hsz0 hpar
  rw [hn] at hpar
  have p0 := hpar.cell 0
  have p1 := hpar.cell 1
  have p2 := hpar.cell 2
  simp only [List.getElem?_toArray, List.getElem?_cons_zero, List.getElem?_cons_succ] at p0 p1 p2
  have q0 := GK.BI.cell p0
  have q1 := GK.BI.cell p1
  have q2 := GK.BI.cell p2
  have hs0 := hid (hr.later hb0)
  replace hr := hid hr
  replace hs := hid hs
  replace hres := hid hres
  have hpar' := hid hpar
  replace hsz0 := hid hsz0
  replace hn := hid hn
  clear p0 p1 p2 hpar
  go_enter Tryd.func99, Tryd.ntmps99
  go_wp2_with fail
  refine GK.wp_region 7 [7] 200 (KeepB fun _ => False) (GK.BI w0) (fun _ u _ => u = .int .i64 ((rankN R n : Nat) : Int)) (by kernel_rfl) (by kernel_rfl) (GK.BI.way w0) (by decide) (Below.refl _ _).drew ?_
  simp only [List.take_succ_cons, List.take_zero]
  (repeat (refine GK.grow_quiet w0 (by rfl) (by rfl) ?_; intro K hK; go_big_quiet_op; go_big_quiet_on))
  refine GK.grow_val (.int .i64 ((rankN R n : Nat) : Int)) (by rfl) rfl (fun m wq hm2 hbq _ => ?_) ?_
  · go_simp
    exact ⟨rfl, (onesCount_any R hR16 wq).mono fun e w' ⟨h1, h2⟩ => ⟨by rw [h1, hpop.out], GK.BI.after hbq (by rw [← h2]; exact Below.refl _ _)⟩⟩
  simp only [Act.put, List.setIfInBounds_toArray, List.set_cons_zero, List.set_cons_succ]
  (repeat (refine GK.grow_quiet w0 (by rfl) (by rfl) ?_; intro K hK; go_big_quiet_op; go_big_quiet_on))
  refine GK.grow_new (K := fun _ => False) (by rfl) _ (fun b => .pointer (some ⟨b, 0, none⟩)) 25 #[.int .i64 0, .int .i64 0, .slice none 0 0] (fun _ => by go_simp) rfl (fun _ _ o h => GK.BI.alloc o h) (fun _ _ h => GK.BI.size h) (fun _ h => h.elim) (fun gs hgs => ?_)
  simp only [Act.put, List.setIfInBounds_toArray, List.set_cons_zero, List.set_cons_succ]
  refine GK.grow_nil ?_
  intro w1 hw1 hf
  simp only [List.filterMap_cons, List.filterMap_nil, List.getElem?_cons_zero, List.getElem?_cons_succ]
  obtain ⟨gs', e1, -, hblk⟩ := hf _ List.mem_cons_self
  cases e1
  replace hw1 : Below w0.heap.size w0 w1 := hw1
  clear hf q0 q1 q2 hw0
  have hblk' : Blk w1 gs 25 #[.int .i64 0, .int .i64 0, .slice none 0 0] := hblk
  have hgl := hblk'.lt
  have c0 := hblk'.cell 0
  have c1 := hblk'.cell 1
  have c2 := hblk'.cell 2
  have f0 := hblk'.frozen 0
  have f1 := hblk'.frozen 1
  have f2 := hblk'.frozen 2
  simp only [List.getElem?_toArray, List.getElem?_cons_zero, List.getElem?_cons_succ] at c0 c1 c2
  have hS1 : Hid (SubSt w0 (((w1.setCell ⟨gs, 0, none⟩ (.int .i64 s.al)).setCell ⟨gs, 1, none⟩ (.int .i64 ((rankN R n : Nat) : Int))).setCell ⟨gs, 2, none⟩ (.slice none 0 0)) gs s.al ((rankN R n : Nat) : Int) (.slice none 0 0) []) := hid
    ⟨by simpa using ((hblk'.set_ 0 (.int .i64 s.al)).set_ 1 (.int .i64 ((rankN R n : Nat) : Int))).set_ 2 (.slice none 0 0), World.ownsRow_nil _ _ _ _, hgs,
      ((hw1.setCell (by simpa using hgs) _).setCell (by simpa using hgs) _).setCell (by simpa using hgs) _⟩
  obtain ⟨w2, hw2⟩ : ∃ w2, ((w1.setCell ⟨gs, 0, none⟩ (.int .i64 s.al)).setCell ⟨gs, 1, none⟩ (.int .i64 ((rankN R n : Nat) : Int))).setCell ⟨gs, 2, none⟩ (.slice none 0 0) = w2 := ⟨_, rfl⟩
  rw [hw2] at hS1
  have hparr := fun (wr : World) (hb : Below w0.heap.size w0 wr) => (hpar'.out.below hb hpar'.out.lt)
  have hpz := hS1.out.keep
  have g0 := (hparr _ hpz).cell 0
  have g1 := (hparr _ hpz).cell 1
  have g2 := (hparr _ hpz).cell 2
  simp only [List.getElem?_toArray, List.getElem?_cons_zero, List.getElem?_cons_succ] at g0 g1 g2
  replace hparr := hid hparr
  replace hblk := hid hblk
  clear hblk' hpz
  go_wp2_with fail
  go_loopw [17] (fun i wr => ∃ (k : Nat) (v : Value), i = .int .i64 (k : Nat) ∧ k ≤ s.es.length ∧ SubSt w0 wr gs s.al ((rankN R n : Nat) : Int) v (trimEs R (s.es.take k))) (fun i _ => s.es.length - (intOf i).toNat)
  case atStart => exact ⟨0, _, rfl, by omega, hS1.out⟩
  case round =>
    clear g0 g1 g2
    obtain ⟨k, v, rfl, hk, hst2⟩ := hrel
    have hbr := hst2.keep
    have g0 := (hparr.out _ hbr).cell 0
    have g1 := (hparr.out _ hbr).cell 1
    have g2 := (hparr.out _ hbr).cell 2
    simp only [List.getElem?_toArray, List.getElem?_cons_zero, List.getElem?_cons_succ] at g0 g1 g2
    have hzr := hbr.size
    have hz00 := hsz0.out
    by_cases hlt : k < s.es.length
    · obtain ⟨b, o, hA, hbb, hE⟩ := hs0.out (by omega)
      subst hA
      obtain ⟨e0, e1, e2⟩ := hE k hlt
      rw [← hbr.cell (by simpa using hbb)] at e0 e1 e2
      obtain ⟨i1, i2, i3, i4, i5, i6, -, -, -⟩ := hs.out s.es[k] (List.getElem_mem _)
      have hhit := trimEs_hit (R := R) hlt
      have hmiss := trimEs_miss (R := R) hlt
      obtain ⟨x, hx⟩ : ∃ x, x = s.es[k] := ⟨_, rfl⟩
      rw [← hx] at e0 e1 e2 i1 i2 i3 i4 i5 i6 hhit hmiss
      obtain ⟨⟨xf, xl, xt⟩, rfl⟩ : ∃ y, y = x := ⟨_, rfl⟩
      simp only at e0 e1 e2 i1 i2 i3 i4 i5 i6
      obtain ⟨f, rfl⟩ := Int.eq_ofNat_of_zero_le i1
      obtain ⟨t, rfl⟩ := Int.eq_ofNat_of_zero_le i3
      have hf16 : f < 16 := by omega
      have ht16 : t < 16 := by omega
      have k1 : (0 : Int) ≤ (k : Int) ∧ (k : Int) < (s.es.length : Int) := by omega
      have hkept : Hid (keptE R ⟨(f : Int), xl, (t : Int)⟩ = (R.testBit f && R.testBit t)) := hid rfl
      have htrim : Hid (trimE R ⟨(f : Int), xl, (t : Int)⟩ = ⟨((rankN R f : Nat) : Int), xl, ((rankN R t : Nat) : Int)⟩) := hid rfl
      have r1 := rankN_le R f
      have r2 := rankN_le R t
      have hnb := Blk.new wr 64 #[.int .i64 (f : Int), .int .i64 xl, .int .i64 (t : Int)]
      have hba : Below wr.heap.size wr (wr.alloc (.cells #[.int .i64 (f : Int), .int .i64 xl, .int .i64 (t : Int)] 64)) := (Below.refl _ _).alloc (Nat.le_refl _) _
      have hbs : wr.heap.size < (wr.alloc (.cells #[.int .i64 (f : Int), .int .i64 xl, .int .i64 (t : Int)] 64)).heap.size := by simp
      generalize hwa : wr.alloc (.cells #[.int .i64 (f : Int), .int .i64 xl, .int .i64 (t : Int)] 64) = wa at hnb hba hbs
      have d0 := hnb.cell 0
      have d1 := hnb.cell 1
      have d2 := hnb.cell 2
      simp only [List.getElem?_toArray, List.getElem?_cons_zero, List.getElem?_cons_succ] at d0 d1 d2
      have hSa := hid (hst2.later hba)
      have hbl := hSa.out.blk.lt
      have hle : (trimEs R (s.es.take k)).length ≤ k := by have := trimEs_len R (s.es.take k); rw [List.length_take] at this; omega
      replace hE := hid hE
      replace hx := hid hx
      replace hhit := hid hhit
      replace hmiss := hid hmiss
      clear hst2
      cases hbf : R.testBit f
      · have hm := hid (hmiss.out (by rw [hkept.out, hbf]; rfl))
        replace hbf := hid hbf
        go_wp2_with (go_at_call 58; refine (has_nat R f _ hf16).mono ?_; rintro e w' ⟨rfl, rfl⟩; rw [hbf.out])
        go_roundw
        case rel => exact ⟨k + 1, v, by go_num, by omega, by rw [hm.out]; exact hSa.out⟩
        case measure => simp [intOf]; omega
      · cases hbt : R.testBit t
        · have hm := hid (hmiss.out (by rw [hkept.out, hbf, hbt]; rfl))
          replace hbf := hid hbf
          replace hbt := hid hbt
          go_wp2_with fail
          refine (has_nat R f _ hf16).mono ?_
          rintro e w' ⟨rfl, rfl⟩
          rw [hbf.out]
          go_wp2_with fail
          refine (has_nat R t _ ht16).mono ?_
          rintro e w' ⟨rfl, rfl⟩
          rw [hbt.out]
          go_wp2_with fail
          go_roundw
          case rel => exact ⟨k + 1, v, by go_num, by omega, by rw [hm.out]; exact hSa.out⟩
          case measure => simp [intOf]; omega
        · have hm := hid (hhit.out (by rw [hkept.out, hbf, hbt]; rfl))
          replace hbf := hid hbf
          replace hbt := hid hbt
          have c2 := hSa.out.blk.cell 2
          simp only [List.getElem?_toArray, List.getElem?_cons_zero, List.getElem?_cons_succ] at c2
          have q0 := GK.BI.cell c2
          have q1 := GK.BI.cell d0
          have q2 := GK.BI.cell d1
          have q3 := GK.BI.cell d2
          obtain ⟨es, hes⟩ : ∃ es, es = trimEs R (s.es.take k) := ⟨_, rfl⟩
          rw [← hes] at hSa hle hm
          replace hes := hid hes
          go_wp2_with fail
          refine (has_nat R f _ hf16).mono ?_
          rintro e w' ⟨rfl, rfl⟩
          rw [hbf.out]
          go_wp2_with fail
          refine (has_nat R t _ ht16).mono ?_
          rintro e w' ⟨rfl, rfl⟩
          rw [hbt.out]
          go_wp2_with fail
          clear c2 d0 d1 d2
          refine GK.wp_region 14 [14, 15, 16] 200 (KeepB fun _ => False) (GK.BI wa) (fun i u _ => u = .int .i64 (((if i = 5 then rankN R f else rankN R t) : Nat) : Int)) (by kernel_rfl) (by kernel_rfl) (GK.BI.way wa) (by decide) (Below.refl _ _).drew ?_
          simp only [List.take_succ_cons, List.take_zero]
          (repeat (refine GK.grow_quiet wa (by rfl) (by rfl) ?_; intro K hK; go_big_quiet_op; go_big_quiet_on))
          refine GK.grow_val (.int .i64 ((rankN R f : Nat) : Int)) (by rfl) rfl (fun m wq hm2 hbq _ => ?_) ?_
          · go_simp
            exact ⟨rfl, (implRank_any R f wq hR16 (by omega)).mono fun e w' ⟨h1, h2⟩ => ⟨h1, GK.BI.after hbq (by rw [← h2]; exact Below.refl _ _)⟩⟩
          simp only [Act.put, List.setIfInBounds_toArray, List.set_cons_zero, List.set_cons_succ]
          (repeat (refine GK.grow_quiet wa (by rfl) (by rfl) ?_; intro K hK; go_big_quiet_op; go_big_quiet_on))
          refine GK.grow_val (.int .i64 ((rankN R t : Nat) : Int)) (by rfl) rfl (fun m wq hm2 hbq _ => ?_) ?_
          · go_simp
            exact ⟨rfl, (implRank_any R t wq hR16 (by omega)).mono fun e w' ⟨h1, h2⟩ => ⟨h1, GK.BI.after hbq (by rw [← h2]; exact Below.refl _ _)⟩⟩
          simp only [Act.put, List.setIfInBounds_toArray, List.set_cons_zero, List.set_cons_succ]
          (repeat (refine GK.grow_quiet wa (by rfl) (by rfl) ?_; intro K hK; go_big_quiet_op; go_big_quiet_on))
          refine GK.grow_new (K := fun _ => False) (by rfl) _ (fun b => .slice (some ⟨b, 0, none⟩) 1 1) 64 #[.int .i64 ((rankN R f : Nat) : Int), .int .i64 xl, .int .i64 ((rankN R t : Nat) : Int)] (fun _ => by go_simp) rfl (fun _ _ o h => GK.BI.alloc o h) (fun _ _ h => GK.BI.size h) (fun _ h => h.elim) (fun bb hbb2 => ?_)
          simp only [Act.put, List.setIfInBounds_toArray, List.set_cons_zero, List.set_cons_succ]
          refine GK.grow_nil ?_
          intro w4 hw4 hf
          obtain ⟨g', hge, hge2, hblk4⟩ := hf _ List.mem_cons_self
          cases hge
          clear hf
          simp only [List.filterMap_cons, List.filterMap_nil, List.getElem?_cons_zero, List.getElem?_cons_succ]
          replace hw4 : Below wa.heap.size wa w4 := hw4
          have hS4 := hid (hSa.out.later hw4)
          have z4 := hw4.size
          have hown4 := hS4.out.own
          have hbl4 := hS4.out.blk.lt
          have ag : v.ownBlock ≠ some gs := fun e => own_ne hS4.out.own hS4.out.blk (by decide) gs e rfl
          have c2 := hS4.out.blk.cell 2
          have f2 := hS4.out.blk.frozen 2
          simp only [List.getElem?_toArray, List.getElem?_cons_zero, List.getElem?_cons_succ] at c2
          clear q0 q1 q2 q3
          refine wpList_append_lies _ (by rfl) _ _ 23 (by rfl) w0.heap.size 64 i0 (.agg #[.int .i64 0, .int .i64 0, .int .i64 0]) 3 24 Tryd.underlying23 hi hz0 hz1 hz2 rfl (by decide) v es.length (edCells es) (by rfl) hown4 ⟨bb, 0, none⟩ 1 1 [.int .i64 ((rankN R f : Nat) : Int), .int .i64 xl, .int .i64 ((rankN R t : Nat) : Int)] (by rfl) (by rfl) (World.news_of_block hblk4) ?c1 (by omega) ?c3 ?c4 ?c5 w4.heap.size rfl ?_
          case c1 => simp [Value.oneCell']
          case c3 => unfold maxLen; omega
          case c4 => omega
          case c5 => have := hS4.out.keep.size; omega
          intro gg cap w5 hown5 hgrow hat hlt5
          have c2' : w5.cell? ⟨gs, 2, none⟩ = some v := by rw [hgrow.cell_far _ (by simpa using hbl4) (Ne.symm ag)]; exact c2
          have f2' : w5.frozen? ⟨gs, 2, none⟩ = false := by rw [hgrow.frozen_far _ (by simpa using hbl4) (Ne.symm ag)]; exact f2
          have hfin := hid (hS4.out.add (x := ⟨((rankN R f : Nat) : Int), xl, ((rankN R t : Nat) : Int)⟩) hown5 hgrow)
          have hz5 := hgrow.size
          clear hown4 hown5 hgrow c2 f2
          go_wp2_with fail
          go_roundw
          case rel => exact ⟨k + 1, _, by go_num, by omega, by rw [hm.out, htrim.out]; exact hfin.out⟩
          case measure => simp [intOf]; omega
    · obtain rfl : k = s.es.length := by omega
      rw [List.take_length] at hst2
      obtain ⟨Av, cv, hve, hv1, hv2⟩ := own_slice hst2.own
      subst hve
      have hrd := OwnEds.read (show OwnEds wr w0.heap.size (.slice Av (trimEs R s.es).length cv) (trimEs R s.es) from hst2.own)
      obtain ⟨A2, c2', hve2, h1, h2, h3, h4⟩ := hrd
      cases hve2
      have c0 := hst2.blk.cell 0
      have c1 := hst2.blk.cell 1
      have c2 := hst2.blk.cell 2
      have hresb := hres.out.below hbr hres.out.lt
      have d0 := hresb.cell 0
      have d1 := hresb.cell 1
      have d2 := hresb.cell 2
      have f0 := hresb.frozen 0
      have f1 := hresb.frozen 1
      have f2 := hresb.frozen 2
      simp only [List.getElem?_toArray, List.getElem?_cons_zero, List.getElem?_cons_succ] at c0 c1 c2 d0 d1 d2
      have hfin : Hid (SubPost w (trimSy s R) (.returned (.agg #[.int .i64 s.al, .int .i64 ((rankN R n : Nat) : Int), .slice Av (trimEs R s.es).length cv])) (((wr.setCell ⟨w.heap.size + 1, 0, none⟩ (.int .i64 s.al)).setCell ⟨w.heap.size + 1, 1, none⟩ (.int .i64 ((rankN R n : Nat) : Int))).setCell ⟨w.heap.size + 1, 2, none⟩ (.slice Av (trimEs R s.es).length cv))) := hid (by
        rw [htr.out]
        have hne : ∀ b o, Av = some ⟨b, o, none⟩ → 0 < (trimEs R s.es).length → b ≠ w.heap.size + 1 := fun b o hA _ => by have := h4 b o hA; omega
        refine ⟨Av, cv, rfl, h1, h2, ?_, fun b o hA => by have := h4 b o hA; omega, ?_⟩
        · simpa [World.setCell] using ((h3.stored _ hne).stored _ hne).stored _ hne
        · exact (((hb0.trans (hbr.mono (by omega))).setCell (by simp) _).setCell (by simp) _).setCell (by simp) _)
      have hvl := hresb.lt
      clear hresb hst2 h3 h4
      go_wp2
      refine bodyPost_ret (v := .agg #[.int .i64 s.al, .int .i64 ((rankN R n : Nat) : Int), .slice Av (trimEs R s.es).length cv]) (by simp [results, Tryd.results99, go_sem, d0, d1, d2]) rfl ?_
      exact hfin.out

end Go.Proofs.YtempjhgajcdibaaDoor

/- TrimSystem, both versions; the laws' agSystems on systems that are the same. -/
namespace Go.Proofs.YtempjhgajcdibaaDoor
open Go.RowKit Go.BigFrame AG

theorem keep_none {w w' : World} (h : KeepB (fun _ => False) w w') : Below w.heap.size w w' := ⟨h.os, h.tape, h.output, h.size, fun i hi => h.block i hi (fun hh => hh)⟩
theorem reachAll_small {s : Sy} (h : sysOk s = true) : reachAll s < 2 ^ s.st.toNat := by
  have hin := sysOk_in h
  have h1 := sysOk_st h
  refine Nat.lt_pow_two_of_testBit _ fun i hi => ?_
  rw [← Bool.not_eq_true]
  intro hb
  unfold reachAll reachSet at hb
  rw [bitsOf_testBit] at hb
  have := hb.2 (fun q => (q : Int) < s.st) (fun x hx => by
    have := testBit_lt (n := 1) (S := 1) (by decide) hx
    show (x : Int) < s.st
    omega) (fun e he _ _ => by
    obtain ⟨a, b, c, d, _, _, _, _, f⟩ := hin e he
    show ((e.t.toNat : Nat) : Int) < s.st
    omega)
  have h3 : (i : Int) < s.st := this
  omega
noncomputable def trimOut (s : Sy) : Sy := if sysOk s = true then trimSy s (reachAll s) else ⟨0, 0, []⟩
def TrimPost (w : World) (s : Sy) (e : Ending) (w' : World) : Prop := ∃ (A : Option Addr) (c : Nat), e = .returned (.tuple #[(trimOut s).val A c, .bool (sysOk s)]) ∧ (trimOut s).es.length ≤ c ∧ c ≤ 9223372036854775807 ∧ EdsAt w' w'.heap.size A (trimOut s).es ∧ Below w.heap.size w w'

set_option maxRecDepth 100000 in
set_option maxHeartbeats 4000000 in
theorem specTrimSystem_any (s : Sy) (A : Option Addr) (c : Nat) (w : World) (hL : s.es.length ≤ 1000000) (hl : s.es.length ≤ c) (hc : c ≤ 9223372036854775807) (hT : Tab w) (hr : EdsAt w w.heap.size A s.es) :
    Calls Tryd.prog 44 #[s.val A c] w (TrimPost w s) := by
  unfold Sy.val
  have hpar := (Blk.new w 25 #[.int .i64 s.al, .int .i64 s.st, .slice A s.es.length c]).alloc (.cells #[.int .i64 0, .int .i64 0, .slice none 0 0] 25)
  have hres := Blk.new (w.alloc (.cells #[.int .i64 s.al, .int .i64 s.st, .slice A s.es.length c] 25)) 25 #[.int .i64 0, .int .i64 0, .slice none 0 0]
  have hb0 : Below w.heap.size w ((w.alloc (.cells #[.int .i64 s.al, .int .i64 s.st, .slice A s.es.length c] 25)).alloc (.cells #[.int .i64 0, .int .i64 0, .slice none 0 0] 25)) := ((Below.refl _ _).alloc (Nat.le_refl _) _).alloc (by simp) _
  have hsz0 : ((w.alloc (.cells #[.int .i64 s.al, .int .i64 s.st, .slice A s.es.length c] 25)).alloc (.cells #[.int .i64 0, .int .i64 0, .slice none 0 0] 25)).heap.size = w.heap.size + 2 := by simp
  simp only [World.size_alloc] at hres
  generalize hw0 : (w.alloc (.cells #[.int .i64 s.al, .int .i64 s.st, .slice A s.es.length c] 25)).alloc (.cells #[.int .i64 0, .int .i64 0, .slice none 0 0] 25) = w0 at hres hb0 hsz0 hpar
  have p0 := hpar.cell 0
  have p1 := hpar.cell 1
  have p2 := hpar.cell 2
  simp only [List.getElem?_toArray, List.getElem?_cons_zero, List.getElem?_cons_succ] at p0 p1 p2
  have hs0 := hid (hr.later hb0)
  have hT0 := hid (hT.later hb0)
  replace hr := hid hr
  replace hres := hid hres
  have hpar' := hid hpar
  replace hsz0 := hid hsz0
  clear hpar
  go_enter Tryd.func44, Tryd.ntmps44
  go_wp2_with fail
  refine (specSystemValid_any s A c w0 hl hc hs0.out).mono ?_
  rintro e w1 ⟨rfl, hb1⟩
  have hB1 := hb0.trans (hb1.mono hb0.size)
  have hs1 := hid (hs0.out.later hb1)
  have hT1 := hid (hT0.out.later hb1)
  have hpb := hpar'.out.below hb1 hpar'.out.lt
  have hrb := hres.out.below hb1 hres.out.lt
  clear p0 p1 p2 hw0
  have p0 := hpb.cell 0
  have p1 := hpb.cell 1
  have p2 := hpb.cell 2
  have d0 := hrb.cell 0
  have d1 := hrb.cell 1
  have d2 := hrb.cell 2
  have f0 := hrb.frozen 0
  have f1 := hrb.frozen 1
  have f2 := hrb.frozen 2
  simp only [List.getElem?_toArray, List.getElem?_cons_zero, List.getElem?_cons_succ] at p0 p1 p2 d0 d1 d2
  have hz1 := hb1.size
  have hlt1 := hrb.lt
  have hzz := hsz0.out
  cases hok : sysOk s
  · have hfin : Hid (TrimPost w s (.returned (.tuple #[.agg #[.int .i64 0, .int .i64 0, .slice none 0 0], .bool false])) (((w1.setCell ⟨w.heap.size + 1, 0, none⟩ (.int .i64 0)).setCell ⟨w.heap.size + 1, 1, none⟩ (.int .i64 0)).setCell ⟨w.heap.size + 1, 2, none⟩ (.slice none 0 0))) := hid (by
      refine ⟨none, 0, ?_, ?_, by omega, ?_, ?_⟩
      · unfold trimOut; rw [hok]; rfl
      · unfold trimOut; rw [hok]; exact Nat.le_refl _
      · unfold trimOut; rw [hok]; intro h; simp at h
      · exact ((hB1.setCell (by simp) _).setCell (by simp) _).setCell (by simp) _)
    replace hok := hid hok
    clear hpb hrb
    go_wp2
    refine bodyPost_ret (v := .tuple #[.agg #[.int .i64 0, .int .i64 0, .slice none 0 0], .bool false]) (by simp [results, Tryd.results44, go_sem, d0, d1, d2]) rfl ?_
    exact hfin.out
  · have hin := sysOk_in hok
    have hst := sysOk_st hok
    have hsm := reachAll_small hok
    have htr : Hid (trimOut s = trimSy s (reachAll s)) := hid (by unfold trimOut; rw [if_pos hok])
    have hok2 := hid hok
    have q0 := GK.BI.cell p0
    have q1 := GK.BI.cell p1
    have q2 := GK.BI.cell p2
    replace hin := hid hin
    replace hsm := hid hsm
    replace hok := hid hok
    clear hpb hrb d0 d1 d2 f0 f1 f2
    go_wp2_with fail
    clear p0 p1 p2
    refine GK.wp_region 4 [4, 5] 200 (KeepB fun _ => False) (GK.BI w1) (fun i u w' => if i = 2 then u = .int .i64 ((reachAll s : Nat) : Int) else ∃ (A2 : Option Addr) (c2 : Nat), u = (trimSy s (reachAll s)).val A2 c2 ∧ (trimSy s (reachAll s)).es.length ≤ c2 ∧ c2 ≤ 9223372036854775807 ∧ EdsAt w' w'.heap.size A2 (trimSy s (reachAll s)).es ∧ FreshA w1.heap.size A2) (by kernel_rfl) (by kernel_rfl) (GK.BI.way w1) (by decide) (Below.refl _ _).drew ?_
    simp only [List.take_succ_cons, List.take_zero]
    (repeat (refine GK.grow_quiet w1 (by rfl) (by rfl) ?_; intro K hK; go_big_quiet_op; go_big_quiet_on))
    refine GK.grow_val (.int .i64 ((reachAll s : Nat) : Int)) (by rfl) rfl (fun m wq hm2 hbq _ => ?_) ?_
    · go_simp
      exact ⟨rfl, by
        have hbq' : Below w1.heap.size w1 wq := hbq
        refine (specReachableStates_any s A c wq hl hc (hs1.out.later hbq')).mono fun e w' ⟨h1, h2⟩ => ⟨?_, GK.BI.after hbq h2⟩
        rw [h1, hok2.out]
        rfl⟩
    simp only [Act.put, List.setIfInBounds_toArray, List.set_cons_zero, List.set_cons_succ]
    (repeat (refine GK.grow_quiet w1 (by rfl) (by rfl) ?_; intro K hK; go_big_quiet_op; go_big_quiet_on))
    refine GK.grow_call (by rfl) (fun u w w' hk h => by
      obtain ⟨A2, c2, h1, h2, h3, h4, h5⟩ := h
      exact ⟨A2, c2, h1, h2, h3, h4.later (keep_none hk), h5⟩) (fun m wq hm2 hbq hf => ?_) ?_
    · go_simp
      have hbq' : Below w1.heap.size w1 wq := hbq
      exact ⟨rfl, (l2Keep_any s A c (reachAll s) wq hin.out (by omega) (by omega) hsm.out hL hl hc (hs1.out.later hbq')).mono fun e w' ⟨A2, c2, h1, h2, h3, h4, h5, h6⟩ => ⟨_, h1, GK.BI.after hbq h6, A2, c2, rfl, h2, h3, h4, fun b o hA => by have := h5 b o hA; have := hbq'.size; omega⟩⟩
    rintro u ⟨_, _, _, A2, c2, rfl, a1, a2, -, -⟩
    unfold Sy.val
    simp only [Act.put, List.setIfInBounds_toArray, List.set_cons_zero, List.set_cons_succ]
    refine GK.grow_nil ?_
    intro w3 hw3 hf
    simp only [List.filterMap_cons, List.filterMap_nil, List.getElem?_cons_zero, List.getElem?_cons_succ]
    obtain ⟨A3, c3, hve, -, -, h4, h5⟩ := hf _ List.mem_cons_self
    injection hve with hve
    simp at hve
    obtain ⟨rfl, rfl⟩ := hve
    replace hw3 : Below w1.heap.size w1 w3 := hw3
    clear hf q0 q1 q2
    have hrb := (hres.out.below hb1 hres.out.lt).below hw3 hlt1
    have d0 := hrb.cell 0
    have d1 := hrb.cell 1
    have d2 := hrb.cell 2
    have f0 := hrb.frozen 0
    have f1 := hrb.frozen 1
    have f2 := hrb.frozen 2
    simp only [List.getElem?_toArray, List.getElem?_cons_zero, List.getElem?_cons_succ] at d0 d1 d2
    have hlt3 := hrb.lt
    obtain ⟨x, hx⟩ : ∃ x, x = trimSy s (reachAll s) := ⟨_, rfl⟩
    rw [← hx] at h4 a1 ⊢
    have hfin : Hid (TrimPost w s (.returned (.tuple #[.agg #[.int .i64 x.al, .int .i64 x.st, .slice A2 x.es.length c2], .bool true])) (((w3.setCell ⟨w.heap.size + 1, 0, none⟩ (.int .i64 x.al)).setCell ⟨w.heap.size + 1, 1, none⟩ (.int .i64 x.st)).setCell ⟨w.heap.size + 1, 2, none⟩ (.slice A2 x.es.length c2))) := hid (by
      have hne : ∀ b o, A2 = some ⟨b, o, none⟩ → 0 < x.es.length → b ≠ w.heap.size + 1 := fun b o hA _ => by have := h5 b o hA; omega
      refine ⟨A2, c2, ?_, ?_, a2, ?_, ?_⟩
      · rw [htr.out, ← hx, hok2.out]; rfl
      · rw [htr.out, ← hx]; exact a1
      · rw [htr.out, ← hx]; simpa [World.setCell] using ((h4.stored _ hne).stored _ hne).stored _ hne
      · exact (((hB1.trans (hw3.mono hB1.size)).setCell (by simp) _).setCell (by simp) _).setCell (by simp) _)
    clear h4 h5 hrb
    replace hx := hid hx
    go_wp2
    refine bodyPost_ret (v := .tuple #[.agg #[.int .i64 x.al, .int .i64 x.st, .slice A2 x.es.length c2], .bool true]) (by simp [results, Tryd.results44, go_sem, d0, d1, d2]) rfl ?_
    exact hfin.out

set_option maxRecDepth 100000 in
set_option maxHeartbeats 4000000 in
theorem implTrimSystem_any (s : Sy) (A : Option Addr) (c : Nat) (w : World) (hL : s.es.length ≤ 1000000) (hl : s.es.length ≤ c) (hc : c ≤ 9223372036854775807) (hT : Tab w) (hr : EdsAt w w.heap.size A s.es) :
    Calls Tryd.prog 43 #[s.val A c] w (TrimPost w s) := by
  unfold Sy.val
  have hpar := (Blk.new w 25 #[.int .i64 s.al, .int .i64 s.st, .slice A s.es.length c]).alloc (.cells #[.int .i64 0, .int .i64 0, .slice none 0 0] 25)
  have hres := Blk.new (w.alloc (.cells #[.int .i64 s.al, .int .i64 s.st, .slice A s.es.length c] 25)) 25 #[.int .i64 0, .int .i64 0, .slice none 0 0]
  have hb0 : Below w.heap.size w ((w.alloc (.cells #[.int .i64 s.al, .int .i64 s.st, .slice A s.es.length c] 25)).alloc (.cells #[.int .i64 0, .int .i64 0, .slice none 0 0] 25)) := ((Below.refl _ _).alloc (Nat.le_refl _) _).alloc (by simp) _
  have hsz0 : ((w.alloc (.cells #[.int .i64 s.al, .int .i64 s.st, .slice A s.es.length c] 25)).alloc (.cells #[.int .i64 0, .int .i64 0, .slice none 0 0] 25)).heap.size = w.heap.size + 2 := by simp
  simp only [World.size_alloc] at hres
  generalize hw0 : (w.alloc (.cells #[.int .i64 s.al, .int .i64 s.st, .slice A s.es.length c] 25)).alloc (.cells #[.int .i64 0, .int .i64 0, .slice none 0 0] 25) = w0 at hres hb0 hsz0 hpar
  have p0 := hpar.cell 0
  have p1 := hpar.cell 1
  have p2 := hpar.cell 2
  simp only [List.getElem?_toArray, List.getElem?_cons_zero, List.getElem?_cons_succ] at p0 p1 p2
  have hs0 := hid (hr.later hb0)
  have hT0 := hid (hT.later hb0)
  replace hr := hid hr
  replace hres := hid hres
  have hpar' := hid hpar
  replace hsz0 := hid hsz0
  clear hpar
  go_enter Tryd.func43, Tryd.ntmps43
  go_wp2_with fail
  refine (implSystemValid_any s A c w0 hl hc hs0.out).mono ?_
  rintro e w1 ⟨rfl, hb1⟩
  have hB1 := hb0.trans (hb1.mono hb0.size)
  have hs1 := hid (hs0.out.later hb1)
  have hT1 := hid (hT0.out.later hb1)
  have hpb := hpar'.out.below hb1 hpar'.out.lt
  have hrb := hres.out.below hb1 hres.out.lt
  clear p0 p1 p2 hw0
  have p0 := hpb.cell 0
  have p1 := hpb.cell 1
  have p2 := hpb.cell 2
  have d0 := hrb.cell 0
  have d1 := hrb.cell 1
  have d2 := hrb.cell 2
  have f0 := hrb.frozen 0
  have f1 := hrb.frozen 1
  have f2 := hrb.frozen 2
  simp only [List.getElem?_toArray, List.getElem?_cons_zero, List.getElem?_cons_succ] at p0 p1 p2 d0 d1 d2
  have hz1 := hb1.size
  have hlt1 := hrb.lt
  have hzz := hsz0.out
  cases hok : sysOk s
  · have hfin : Hid (TrimPost w s (.returned (.tuple #[.agg #[.int .i64 0, .int .i64 0, .slice none 0 0], .bool false])) (((w1.setCell ⟨w.heap.size + 1, 0, none⟩ (.int .i64 0)).setCell ⟨w.heap.size + 1, 1, none⟩ (.int .i64 0)).setCell ⟨w.heap.size + 1, 2, none⟩ (.slice none 0 0))) := hid (by
      refine ⟨none, 0, ?_, ?_, by omega, ?_, ?_⟩
      · unfold trimOut; rw [hok]; rfl
      · unfold trimOut; rw [hok]; exact Nat.le_refl _
      · unfold trimOut; rw [hok]; intro h; simp at h
      · exact ((hB1.setCell (by simp) _).setCell (by simp) _).setCell (by simp) _)
    replace hok := hid hok
    clear hpb hrb
    go_wp2
    refine bodyPost_ret (v := .tuple #[.agg #[.int .i64 0, .int .i64 0, .slice none 0 0], .bool false]) (by simp [results, Tryd.results43, go_sem, d0, d1, d2]) rfl ?_
    exact hfin.out
  · have hin := sysOk_in hok
    have hst := sysOk_st hok
    have hsm := reachAll_small hok
    have htr : Hid (trimOut s = trimSy s (reachAll s)) := hid (by unfold trimOut; rw [if_pos hok])
    have hok2 := hid hok
    have q0 := GK.BI.cell p0
    have q1 := GK.BI.cell p1
    have q2 := GK.BI.cell p2
    replace hin := hid hin
    replace hsm := hid hsm
    replace hok := hid hok
    clear hpb hrb d0 d1 d2 f0 f1 f2
    go_wp2_with fail
    clear p0 p1 p2
    refine GK.wp_region 4 [4, 5] 200 (KeepB fun _ => False) (GK.BI w1) (fun i u w' => if i = 2 then u = .int .i64 ((reachAll s : Nat) : Int) else ∃ (A2 : Option Addr) (c2 : Nat), u = (trimSy s (reachAll s)).val A2 c2 ∧ (trimSy s (reachAll s)).es.length ≤ c2 ∧ c2 ≤ 9223372036854775807 ∧ EdsAt w' w'.heap.size A2 (trimSy s (reachAll s)).es ∧ FreshA w1.heap.size A2) (by kernel_rfl) (by kernel_rfl) (GK.BI.way w1) (by decide) (Below.refl _ _).drew ?_
    simp only [List.take_succ_cons, List.take_zero]
    (repeat (refine GK.grow_quiet w1 (by rfl) (by rfl) ?_; intro K hK; go_big_quiet_op; go_big_quiet_on))
    refine GK.grow_val (.int .i64 ((reachAll s : Nat) : Int)) (by rfl) rfl (fun m wq hm2 hbq _ => ?_) ?_
    · go_simp
      exact ⟨rfl, by
        have hbq' : Below w1.heap.size w1 wq := hbq
        refine (implReachableStates_any s A c wq hl hc (hT1.out.later hbq') (hs1.out.later hbq')).mono fun e w' ⟨h1, h2⟩ => ⟨?_, GK.BI.after hbq h2⟩
        rw [h1, hok2.out]
        rfl⟩
    simp only [Act.put, List.setIfInBounds_toArray, List.set_cons_zero, List.set_cons_succ]
    (repeat (refine GK.grow_quiet w1 (by rfl) (by rfl) ?_; intro K hK; go_big_quiet_op; go_big_quiet_on))
    refine GK.grow_call (by rfl) (fun u w w' hk h => by
      obtain ⟨A2, c2, h1, h2, h3, h4, h5⟩ := h
      exact ⟨A2, c2, h1, h2, h3, h4.later (keep_none hk), h5⟩) (fun m wq hm2 hbq hf => ?_) ?_
    · go_simp
      have hbq' : Below w1.heap.size w1 wq := hbq
      exact ⟨rfl, (subSystem_any s A c (reachAll s) wq hin.out (by omega) (by omega) hsm.out hL hl hc (hs1.out.later hbq')).mono fun e w' ⟨A2, c2, h1, h2, h3, h4, h5, h6⟩ => ⟨_, h1, GK.BI.after hbq h6, A2, c2, rfl, h2, h3, h4, fun b o hA => by have := h5 b o hA; have := hbq'.size; omega⟩⟩
    rintro u ⟨_, _, _, A2, c2, rfl, a1, a2, -, -⟩
    unfold Sy.val
    simp only [Act.put, List.setIfInBounds_toArray, List.set_cons_zero, List.set_cons_succ]
    refine GK.grow_nil ?_
    intro w3 hw3 hf
    simp only [List.filterMap_cons, List.filterMap_nil, List.getElem?_cons_zero, List.getElem?_cons_succ]
    obtain ⟨A3, c3, hve, -, -, h4, h5⟩ := hf _ List.mem_cons_self
    injection hve with hve
    simp at hve
    obtain ⟨rfl, rfl⟩ := hve
    replace hw3 : Below w1.heap.size w1 w3 := hw3
    clear hf q0 q1 q2
    have hrb := (hres.out.below hb1 hres.out.lt).below hw3 hlt1
    have d0 := hrb.cell 0
    have d1 := hrb.cell 1
    have d2 := hrb.cell 2
    have f0 := hrb.frozen 0
    have f1 := hrb.frozen 1
    have f2 := hrb.frozen 2
    simp only [List.getElem?_toArray, List.getElem?_cons_zero, List.getElem?_cons_succ] at d0 d1 d2
    have hlt3 := hrb.lt
    obtain ⟨x, hx⟩ : ∃ x, x = trimSy s (reachAll s) := ⟨_, rfl⟩
    rw [← hx] at h4 a1 ⊢
    have hfin : Hid (TrimPost w s (.returned (.tuple #[.agg #[.int .i64 x.al, .int .i64 x.st, .slice A2 x.es.length c2], .bool true])) (((w3.setCell ⟨w.heap.size + 1, 0, none⟩ (.int .i64 x.al)).setCell ⟨w.heap.size + 1, 1, none⟩ (.int .i64 x.st)).setCell ⟨w.heap.size + 1, 2, none⟩ (.slice A2 x.es.length c2))) := hid (by
      have hne : ∀ b o, A2 = some ⟨b, o, none⟩ → 0 < x.es.length → b ≠ w.heap.size + 1 := fun b o hA _ => by have := h5 b o hA; omega
      refine ⟨A2, c2, ?_, ?_, a2, ?_, ?_⟩
      · rw [htr.out, ← hx, hok2.out]; rfl
      · rw [htr.out, ← hx]; exact a1
      · rw [htr.out, ← hx]; simpa [World.setCell] using ((h4.stored _ hne).stored _ hne).stored _ hne
      · exact (((hB1.trans (hw3.mono hB1.size)).setCell (by simp) _).setCell (by simp) _).setCell (by simp) _)
    clear h4 h5 hrb
    replace hx := hid hx
    go_wp2
    refine bodyPost_ret (v := .tuple #[.agg #[.int .i64 x.al, .int .i64 x.st, .slice A2 x.es.length c2], .bool true]) (by simp [results, Tryd.results43, go_sem, d0, d1, d2]) rfl ?_
    exact hfin.out

end Go.Proofs.YtempjhgajcdibaaDoor

/- Both IsDeterministic return detB. -/
namespace Go.Proofs.YtempjhgajcdibaaDoor
open Go.RowKit Go.BigFrame AG

theorem detB_false {s : Sy} {k : Nat} (h : ¬ detAt s (reachAll s) (k + 1)) : detB s = false := by
  unfold detB
  have : ¬ detAt s (reachAll s) s.es.length := fun h' => h fun i hi _ => h' i hi (by omega)
  simp [this]

theorem detAt.next {s : Sy} {S k : Nat} (h : detAt s S k) (hlt : k + 1 < s.es.length) (hn : ¬ (Has (S : Int) s.es[k].f.toNat = true ∧ s.es[k].f = s.es[k + 1].f ∧ s.es[k].l = s.es[k + 1].l)) : detAt s S (k + 1) := fun i hi hik => by
  by_cases e : i = k
  · subst e
    exact hn
  · exact h i hi (by omega)

set_option maxHeartbeats 1000000 in
theorem implIsDeterministic_any (s : Sy) (A : Option Addr) (c : Nat) (w : World) (hl : s.es.length ≤ c) (hc : c ≤ 9223372036854775807) (hT : Tab w) (hr : EdsAt w w.heap.size A s.es) :
    Calls Tryd.prog 38 #[s.val A c] w fun e w' => e = .returned (.bool (detB s)) ∧ Below w.heap.size w w' := by
  unfold Sy.val
  replace hr := hid hr
  replace hT := hid hT
  cases hok : sysOk s
  all_goals
    replace hok := hid hok
    go_enter Tryd.func38, Tryd.ntmps38
    go_wp2_with fail
    obtain ⟨w0, hw0, hz0, hB0, hS0, hS1, hS2⟩ := boxed3 w (Value.int IntKind.i64 s.al) (Value.int IntKind.i64 s.st) (Value.slice A s.es.length c) 25
    rw [hw0]
    clear hw0
    have hr0 := hid (hr.out.later hB0)
    refine (implSystemValid_any s A c w0 hl hc hr0.out).mono ?_
    rintro e w1 ⟨rfl, hb1⟩
    rw [hok.out]
    have hB1 : Below w.heap.size w w1 := hB0.trans (hb1.mono (by omega))
    have hb1' := hb1.mono hz0
  · go_wp2
    go_ret
    exact ⟨ret_bool (by unfold detB; rw [hok.out]; rfl), hB1⟩
  · have hr1 := hid (hr0.out.later hb1)
    have hT1 := hid (hT.out.later hB1)
    go_wp2_with fail
    refine (implReachableStates_any s A c w1 hl hc hT1.out hr1.out).mono ?_
    rintro e w2 ⟨rfl, hb2⟩
    rw [hok.out, if_pos rfl]
    have hb2' : Below (w.heap.size + 1) w0 w2 := hb1'.trans (hb2.mono (Nat.le_trans hz0 hb1.size))
    have hin := hid (sysOk_in hok.out)
    go_wp2_with fail
    go_loopw [4] (fun i wr => ∃ k : Nat, i = .int .i64 (k + 1 : Nat) ∧ (k = 0 ∨ k + 1 ≤ s.es.length) ∧ detAt s (reachAll s) k ∧ Below (w.heap.size + 1) w0 wr) (fun i _ => s.es.length + 1 - (intOf i).toNat)
    case atStart => exact ⟨0, rfl, .inl rfl, fun i _ h => by omega, hb2'⟩
    case round =>
      obtain ⟨k, rfl, hk, hdet, hb⟩ := hrel
      replace hdet := hid hdet
      by_cases hlt : k + 1 < s.es.length
      · obtain ⟨b, o, rfl, hB, hE⟩ := hr.out.get hB0 (Nat.le_succ w.heap.size) hlt
        obtain ⟨e0, e1, e2⟩ := hE k (by omega)
        obtain ⟨f0, f1, f2⟩ := hE (k + 1) hlt
        replace hE := hid hE
        replace e0 := e0 _ hb
        replace e1 := e1 _ hb
        replace e2 := e2 _ hb
        replace f0 := f0 _ hb
        replace f1 := f1 _ hb
        replace f2 := f2 _ hb
        have q0 := hS0 _ hb
        have q1 := hS1 _ hb
        have q2 := hS2 _ hb
        have hzr := hb.size
        have up : ∀ (B' O' : Nat) (v : Value), B' < wr.heap.size → wr.cell? ⟨B', O', none⟩ = some v → ∀ X Y : Array Value, ((wr.alloc (Obj.cells X 64)).alloc (Obj.cells Y 64)).cell? ⟨B', O', none⟩ = some v := fun B' O' v hB' h X Y => by
          rw [World.cell?_alloc_lt (h := by simp; omega), World.cell?_alloc_lt (h := by simpa using hB')]
          exact h
        have u2 := up _ _ _ (by omega) q2
        have v0 := up _ _ _ (by omega) e0
        have v1 := up _ _ _ (by omega) e1
        have v2 := up _ _ _ (by omega) e2
        have w0' := up _ _ _ (by omega) f0
        have w1' := up _ _ _ (by omega) f1
        have w2' := up _ _ _ (by omega) f2
        have up1 : ∀ (B' O' : Nat) (v : Value), B' < wr.heap.size → wr.cell? ⟨B', O', none⟩ = some v → ∀ X : Array Value, (wr.alloc (Obj.cells X 64)).cell? ⟨B', O', none⟩ = some v := fun B' O' v hB' h X => by
          rw [World.cell?_alloc_lt (h := by simpa using hB')]
          exact h
        have x2 := up1 _ _ _ (by omega) q2
        have y0 := up1 _ _ _ (by omega) e0
        have y1 := up1 _ _ _ (by omega) e1
        have y2 := up1 _ _ _ (by omega) e2
        have z0 := up1 _ _ _ (by omega) f0
        have z1 := up1 _ _ _ (by omega) f1
        have z2 := up1 _ _ _ (by omega) f2
        replace up := hid up
        replace up1 := hid up1
        obtain ⟨fa, fb, _⟩ := hin.out s.es[k] (List.getElem_mem _)
        have hasZ : Hid (HasZ (reachAll s : Nat) s.es[k].f = Has (reachAll s : Nat) s.es[k].f.toNat) := hid (by unfold HasZ; rw [decide_eq_true fa]; rfl)
        have hbx := hb.mono (Nat.le_succ w.heap.size)
        go_wp2_with fail
        go_region
        all_goals
          go_wp2_with (go_at_call 58; refine (has_any _ _ _ (by omega)).mono ?_; rintro e w' ⟨rfl, rfl⟩)
        all_goals
          first
          | (refine ⟨⟨k + 1, by go_num, .inr (by omega), detAt.next hdet.out hlt ?_, ?_⟩, by simp [intOf]; omega⟩
             · rintro ⟨h1, h2, h3⟩
               rw [← hasZ.out] at h1
               first
               | contradiction
               | exact absurd (beq_iff_eq.mpr h3) (ne_true_of_eq_false ‹_›)
             · (repeat (first | exact Below.refl _ _ | assumption | refine Below.drew ?_ | refine Below.alloc ?_ (by first | omega | (simp; done) | (simp; omega)) _ | refine Below.setCell ?_ (by first | omega | (simp; done) | (simp; omega)) _)))
          | (go_ret
             refine ⟨ret_bool (detB_false (k := k) fun h => h k hlt (by omega) ⟨?_, ?_, ?_⟩).symm, hB0.trans (by (repeat (first | exact Below.refl _ _ | assumption | refine Below.drew ?_ | refine Below.alloc ?_ (by first | omega | (simp; done) | (simp; omega)) _ | refine Below.setCell ?_ (by first | omega | (simp; done) | (simp; omega)) _)))⟩
             · rw [← hasZ.out]; assumption
             · assumption
             · exact beq_iff_eq.mp (by assumption))
      · have hall : Hid (detB s = true) := hid (by
          unfold detB
          rw [hok.out]
          simp only [Bool.true_and, decide_eq_true_eq]
          exact fun i hi _ => hdet.out i hi (by omega))
        go_wp2
        go_ret
        exact ⟨ret_bool hall.out.symm, hB0.trans (hb.mono (by omega))⟩

end Go.Proofs.YtempjhgajcdibaaDoor

/- Plain: a system with only its reached states does the same. -/
namespace AG

theorem rank_mono (S : Nat) {a b : Nat} (h : a ≤ b) : rankN S a ≤ rankN S b := by
  induction b with
  | zero => rw [show a = 0 from by omega]; exact Nat.le_refl _
  | succ b ih =>
    by_cases e : a = b + 1
    · rw [e]; exact Nat.le_refl _
    · have := ih (by omega)
      rw [rankN]
      omega
theorem rank_lt {S a b : Nat} (h : a < b) (ha : S.testBit a = true) : rankN S a < rankN S b := by
  have h1 : rankN S (a + 1) = rankN S a + 1 := by rw [rankN, ha]; simp
  have h2 := rank_mono S (show a + 1 ≤ b from h)
  omega
theorem rank_inj {S a b : Nat} (ha : S.testBit a = true) (hb : S.testBit b = true) (h : rankN S a = rankN S b) : a = b := by
  rcases Nat.lt_trichotomy a b with h1 | h1 | h1
  · have := rank_lt h1 ha; omega
  · exact h1
  · have := rank_lt h1 hb; omega

theorem edgeLt_iff (a b : Ed) : edgeLt a b = true ↔ a.f < b.f ∨ (a.f = b.f ∧ (a.l < b.l ∨ (a.l = b.l ∧ a.t < b.t))) := by
  unfold edgeLt
  by_cases h1 : a.f = b.f
  · by_cases h2 : a.l = b.l
    · simp [h1, h2]
    · simp [h1, h2]
  · simp [h1]
theorem edgeLt_trans {a b c : Ed} (h : edgeLt a b = true) (k : edgeLt b c = true) : edgeLt a c = true := by
  rw [edgeLt_iff] at h k ⊢
  omega
theorem edges_pairwise {s : Sy} (h : sysOk s = true) : s.es.Pairwise fun a b => edgeLt a b = true := by
  rw [List.pairwise_iff_getElem]
  intro i j hi hj hij
  induction j with
  | zero => omega
  | succ j ih =>
    have h1 := sysOk_lt h (i := j) (by omega)
    by_cases e : i = j
    · subst e; exact h1
    · exact edgeLt_trans (ih (by omega) (by omega)) h1
theorem sysOk_of {s : Sy} (h1 : alphaOk s.al = true) (h2 : 1 ≤ s.st ∧ s.st ≤ 16) (h3 : ∀ e ∈ s.es, edgeOk s.al s.st e = true) (h4 : s.es.Pairwise fun a b => edgeLt a b = true) : sysOk s = true := by
  unfold sysOk
  refine decide_eq_true ⟨h1, h2.1, h2.2, fun i hi _ => ⟨h3 _ (List.getElem_mem _), fun j hj hji => ?_⟩⟩
  exact List.pairwise_iff_getElem.1 h4 j i hj hi (by omega)

theorem reach_bit {s : Sy} (q : Nat) : (reachAll s).testBit q = true ↔ q < 16 ∧ Rch s s.al 1 q := by
  unfold reachAll reachSet
  exact bitsOf_testBit _ _ _
theorem reach_zero {s : Sy} : (reachAll s).testBit 0 = true := (reach_bit 0).2 ⟨by omega, Rch.start (by decide)⟩
theorem reach_step {s : Sy} (hs : sysOk s = true) {e : Ed} (he : e ∈ s.es) (h : (reachAll s).testBit e.f.toNat = true) : (reachAll s).testBit e.t.toNat = true := by
  obtain ⟨a, b, c, d, e1, f, g, _⟩ := sysOk_in hs e he
  exact (reach_bit _).2 ⟨by omega, Rch.step he g ((reach_bit _).1 h).2⟩

theorem trim_mem {s : Sy} {R : Nat} {e' : Ed} : e' ∈ (trimSy s R).es ↔ ∃ e ∈ s.es, R.testBit e.f.toNat = true ∧ R.testBit e.t.toNat = true ∧ e' = trimE R e := by
  show e' ∈ trimEs R s.es ↔ _
  unfold trimEs
  rw [List.mem_map]
  constructor
  · rintro ⟨e, he, rfl⟩
    rw [List.mem_filter] at he
    unfold keptE at he
    rw [Bool.and_eq_true] at he
    exact ⟨e, he.1, he.2.1, he.2.2, rfl⟩
  · rintro ⟨e, he, h1, h2, rfl⟩
    exact ⟨e, List.mem_filter.2 ⟨he, by unfold keptE; rw [h1, h2]; rfl⟩, rfl⟩

theorem trim_ok {s : Sy} (hs : sysOk s = true) : sysOk (trimSy s (reachAll s)) = true := by
  have hst := sysOk_st hs
  have hin := sysOk_in hs
  refine sysOk_of (by have := hs; unfold sysOk at this; exact (of_decide_eq_true this).1) ?_ (fun e' he' => ?_) ?_
  · show 1 ≤ ((rankN (reachAll s) s.st.toNat : Nat) : Int) ∧ ((rankN (reachAll s) s.st.toNat : Nat) : Int) ≤ 16
    have h1 := rank_lt (S := reachAll s) (a := 0) (b := s.st.toNat) (by omega) reach_zero
    have h2 := rankN_le (reachAll s) s.st.toNat
    omega
  · obtain ⟨e, he, h1, h2, rfl⟩ := trim_mem.1 he'
    obtain ⟨a, b, c, d, e1, f, g, g1, g2⟩ := hin e he
    have r1 := rank_lt (S := reachAll s) (a := e.f.toNat) (b := s.st.toNat) (by omega) h1
    have r2 := rank_lt (S := reachAll s) (a := e.t.toNat) (b := s.st.toNat) (by omega) h2
    unfold edgeOk
    rw [Bool.and_eq_true, decide_eq_true_iff]
    refine ⟨⟨?_, ?_, ?_, ?_, e1, f⟩, g⟩
    · show (0 : Int) ≤ ((rankN (reachAll s) e.f.toNat : Nat) : Int); omega
    · show ((rankN (reachAll s) e.f.toNat : Nat) : Int) < ((rankN (reachAll s) s.st.toNat : Nat) : Int); omega
    · show (0 : Int) ≤ ((rankN (reachAll s) e.t.toNat : Nat) : Int); omega
    · show ((rankN (reachAll s) e.t.toNat : Nat) : Int) < ((rankN (reachAll s) s.st.toNat : Nat) : Int); omega
  · show (trimEs (reachAll s) s.es).Pairwise _
    unfold trimEs
    rw [List.pairwise_map]
    have hp := (edges_pairwise hs).filter (keptE (reachAll s))
    refine hp.imp_of_mem fun {a b} ha hb hlt => ?_
    rw [List.mem_filter] at ha hb
    have ka := ha.2
    have kb := hb.2
    unfold keptE at ka kb
    rw [Bool.and_eq_true] at ka kb
    obtain ⟨a1, a2, a3, a4, _⟩ := hin a ha.1
    obtain ⟨b1, b2, b3, b4, _⟩ := hin b hb.1
    rw [edgeLt_iff] at hlt ⊢
    show ((rankN (reachAll s) a.f.toNat : Nat) : Int) < ((rankN (reachAll s) b.f.toNat : Nat) : Int) ∨ (((rankN (reachAll s) a.f.toNat : Nat) : Int) = ((rankN (reachAll s) b.f.toNat : Nat) : Int) ∧ (a.l < b.l ∨ (a.l = b.l ∧ ((rankN (reachAll s) a.t.toNat : Nat) : Int) < ((rankN (reachAll s) b.t.toNat : Nat) : Int))))
    rcases hlt with h | ⟨h, h'⟩
    · left
      have := rank_lt (S := reachAll s) (a := a.f.toNat) (b := b.f.toNat) (by omega) ka.1
      omega
    · right
      refine ⟨by rw [h], ?_⟩
      rcases h' with h' | ⟨h', h2⟩
      · exact .inl h'
      · refine .inr ⟨h', ?_⟩
        have := rank_lt (S := reachAll s) (a := a.t.toNat) (b := b.t.toNat) (by omega) ka.2
        omega

theorem setW_reach {s : Sy} (hs : sysOk s = true) : ∀ (r : List Nat) (q : Nat), (setW s r).testBit q = true → (reachAll s).testBit q = true
  | [], q, h => by
    have : q = 0 := by
      have := testBit_lt (n := 1) (S := 1) (by decide) h
      omega
    rw [this]
    exact reach_zero
  | l :: r, q, h => by
    have h' : (stepSet s (setW s r) (l : Int)).testBit q = true := h
    unfold stepSet at h'
    rw [bitsOf_testBit] at h'
    obtain ⟨_, e, he, _, hf, rfl⟩ := h'
    exact reach_step hs he (setW_reach hs r _ hf)
/-- The trimmed system's states are the ranks of the system's. -/
theorem setW_trim {s : Sy} (hs : sysOk s = true) : ∀ (r : List Nat) (t' : Nat), (setW (trimSy s (reachAll s)) r).testBit t' = true ↔ ∃ q, (setW s r).testBit q = true ∧ rankN (reachAll s) q = t'
  | [], t' => by
    show (1 : Nat).testBit t' = true ↔ _
    constructor
    · intro h
      have : t' = 0 := by
        have := testBit_lt (n := 1) (S := 1) (by decide) h
        omega
      exact ⟨0, (by show (1 : Nat).testBit 0 = true; decide), by rw [this]; rfl⟩
    · rintro ⟨q, hq, rfl⟩
      have : q = 0 := by
        have := testBit_lt (n := 1) (S := 1) (by decide) hq
        omega
      rw [this]
      show (1 : Nat).testBit 0 = true
      decide
  | l :: r, t' => by
    have ih := setW_trim hs r
    show (stepSet (trimSy s (reachAll s)) (setW (trimSy s (reachAll s)) r) (l : Int)).testBit t' = true ↔ ∃ q, (stepSet s (setW s r) (l : Int)).testBit q = true ∧ _
    unfold stepSet
    rw [bitsOf_testBit]
    constructor
    · rintro ⟨_, e', he', hl, hf, ht⟩
      obtain ⟨e, he, h1, h2, rfl⟩ := trim_mem.1 he'
      have hf' : (setW (trimSy s (reachAll s)) r).testBit (rankN (reachAll s) e.f.toNat) = true := hf
      obtain ⟨q, hq, hr⟩ := (ih _).1 hf'
      have hqf := rank_inj (setW_reach hs r q hq) h1 hr
      subst hqf
      refine ⟨e.t.toNat, ?_, ht⟩
      rw [bitsOf_testBit]
      obtain ⟨a, b, c, d, _⟩ := sysOk_in hs e he
      exact ⟨by omega, e, he, hl, hq, rfl⟩
    · rintro ⟨q, hq, rfl⟩
      rw [bitsOf_testBit] at hq
      obtain ⟨hq16, e, he, hl, hf, rfl⟩ := hq
      have h1 := setW_reach hs r _ hf
      have h2 := reach_step hs he h1
      have h3 := rankN_le (reachAll s) e.t.toNat
      exact ⟨by omega, trimE (reachAll s) e, trim_mem.2 ⟨e, he, h1, h2, rfl⟩, hl, (ih _).2 ⟨_, hf, rfl⟩, rfl⟩
theorem setW_same {s : Sy} (hs : sysOk s = true) (r : List Nat) : setW (trimSy s (reachAll s)) r = 0 ↔ setW s r = 0 := by
  constructor
  · intro h
    refine Nat.eq_of_testBit_eq fun q => ?_
    rw [Nat.zero_testBit, ← Bool.not_eq_true]
    intro hq
    have := (setW_trim hs r _).2 ⟨q, hq, rfl⟩
    rw [h, Nat.zero_testBit] at this
    cases this
  · intro h
    refine Nat.eq_of_testBit_eq fun q => ?_
    rw [Nat.zero_testBit, ← Bool.not_eq_true]
    intro hq
    obtain ⟨p, hp, _⟩ := (setW_trim hs r q).1 hq
    rw [h, Nat.zero_testBit] at hp
    cases hp
theorem reach_trim {s : Sy} (hs : sysOk s = true) {q : Nat} (hq : (reachAll s).testBit q = true) : (reachAll (trimSy s (reachAll s))).testBit (rankN (reachAll s) q) = true := by
  have h := ((reach_bit q).1 hq).2
  have := h (fun q => (reachAll s).testBit q = true ∧ (reachAll (trimSy s (reachAll s))).testBit (rankN (reachAll s) q) = true) (fun x hx => by
    have : x = 0 := by
      have := testBit_lt (n := 1) (S := 1) (by decide) hx
      omega
    rw [this]
    exact ⟨reach_zero, reach_zero⟩) (fun e he _ hf => by
    have h2 := reach_step hs he hf.1
    refine ⟨h2, ?_⟩
    exact reach_step (trim_ok hs) (e := trimE (reachAll s) e) (trim_mem.2 ⟨e, he, hf.1, h2, rfl⟩) hf.2)
  exact this.2

/-- No two edges from a reached state have one letter. -/
def DetP (s : Sy) : Prop := ∀ a ∈ s.es, ∀ b ∈ s.es, (reachAll s).testBit a.f.toNat = true → a.f = b.f → a.l = b.l → a = b
theorem detAt_iff {s : Sy} (hs : sysOk s = true) : detAt s (reachAll s) s.es.length ↔ DetP s := by
  have hp := List.pairwise_iff_getElem.1 (edges_pairwise hs)
  constructor
  · intro h a ha b hb hr hf hl
    obtain ⟨i, hi, rfl⟩ := List.getElem_of_mem ha
    obtain ⟨j, hj, rfl⟩ := List.getElem_of_mem hb
    have key : ∀ i j (hi : i < s.es.length) (hj : j < s.es.length), i < j → (reachAll s).testBit s.es[i].f.toNat = true → s.es[i].f = s.es[j].f → s.es[i].l = s.es[j].l → False := by
      intro i j hi hj hij hr hf hl
      refine h i (by omega) (by omega) ⟨by rw [Has_nat]; exact hr, ?_⟩
      have h1 := hp i (i + 1) hi (by omega) (by omega)
      by_cases e : i + 1 = j
      · subst e; exact ⟨hf, hl⟩
      · have h2 := hp (i + 1) j (by omega) hj (by omega)
        rw [edgeLt_iff] at h1 h2
        constructor <;> omega
    rcases Nat.lt_trichotomy i j with e | e | e
    · exact (key i j hi hj e hr hf hl).elim
    · subst e; rfl
    · exact (key j i hj hi e (by rw [← hf]; exact hr) hf.symm hl.symm).elim
  · intro h i hi _ ⟨h1, h2, h3⟩
    rw [Has_nat] at h1
    have e := h _ (List.getElem_mem _) _ (List.getElem_mem hi) h1 h2 h3
    have h4 := hp i (i + 1) (by omega) hi (by omega)
    rw [e, edgeLt_iff] at h4
    omega
theorem detP_trim {s : Sy} (hs : sysOk s = true) : DetP (trimSy s (reachAll s)) ↔ DetP s := by
  have hin := sysOk_in hs
  constructor
  · intro h a ha b hb hr hf hl
    have hra : (reachAll s).testBit b.f.toNat = true := by rw [← hf]; exact hr
    have ta := reach_step hs ha hr
    have tb := reach_step hs hb hra
    have e := h (trimE (reachAll s) a) (trim_mem.2 ⟨a, ha, hr, ta, rfl⟩) (trimE (reachAll s) b) (trim_mem.2 ⟨b, hb, hra, tb, rfl⟩) (reach_trim hs hr) (by show ((rankN (reachAll s) a.f.toNat : Nat) : Int) = ((rankN (reachAll s) b.f.toNat : Nat) : Int); rw [hf]) hl
    have e2 : ((rankN (reachAll s) a.t.toNat : Nat) : Int) = ((rankN (reachAll s) b.t.toNat : Nat) : Int) := congrArg Ed.t e
    have e3 := rank_inj ta tb (by omega)
    obtain ⟨_, _, a3, _⟩ := hin a ha
    obtain ⟨_, _, b3, _⟩ := hin b hb
    have e4 : a.t = b.t := by omega
    cases a
    cases b
    simp only at hf hl e4
    rw [hf, hl, e4]
  · intro h a' ha' b' hb' _ hf hl
    obtain ⟨a, ha, a1, a2, rfl⟩ := trim_mem.1 ha'
    obtain ⟨b, hb, b1, b2, rfl⟩ := trim_mem.1 hb'
    have hf' : ((rankN (reachAll s) a.f.toNat : Nat) : Int) = ((rankN (reachAll s) b.f.toNat : Nat) : Int) := hf
    have e := rank_inj a1 b1 (by omega)
    obtain ⟨c1, _⟩ := hin a ha
    obtain ⟨d1, _⟩ := hin b hb
    rw [h a ha b hb a1 (by omega) hl]
theorem detB_trim {s : Sy} (hs : sysOk s = true) : detB (trimSy s (reachAll s)) = detB s := by
  have e : detAt (trimSy s (reachAll s)) (reachAll (trimSy s (reachAll s))) (trimSy s (reachAll s)).es.length = detAt s (reachAll s) s.es.length := propext ((detAt_iff (trim_ok hs)).trans ((detP_trim hs).trans (detAt_iff hs).symm))
  unfold detB
  rw [hs, trim_ok hs, Bool.true_and, Bool.true_and]
  exact decide_eq_decide.2 (by rw [e])

end AG
