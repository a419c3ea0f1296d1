/- Lemmas, part 5: several texts in one. -/
import Derived.Test.YtjhlbeamfngebaaDoorY4
import Derived.Test.YtjhlbeamfngebaaDoorY2
import Derived.Test.YtjhlbeamfngebaaDoorY3
import Derived.WalkKit
import Derived.Deep.Quiet
import Derived.Test.YtjhlbeamfngebaaDoorCards
import Derived.Test.YtjhlbeamfngebaaDoorTie
import Derived.ProofKit
import Derived.OpenShut
import Derived.Deep.DeepHandedRow
import Derived.Lib.LaidTab
import Derived.Stop.LaidErr
import Derived.Test.YtjhlbeamfngebaaDoorY1
set_option linter.unusedSimpArgs false
set_option linter.unusedVariables false

/- The program's search in two automata: firstOfBoth. -/
namespace Go.Proofs.YtjhlbeamfngebaaDoor
open Go.RowKit Go.BigFrame AG

theorem TabA.far {w : World} {g n : Nat} {a : Au} (h : TabA w g n a) (p : Addr) (v : Value) (hne : g ≠ p.block) : TabA (w.setCell p v) g n a :=
  ⟨by simpa using h.1, fun q l h1 h2 => by rw [setFar_cell _ _ _ (by simpa using hne)]; exact h.2 q l h1 h2⟩
end Go.Proofs.YtjhlbeamfngebaaDoor

/- The drawing kit's reader: what it is in memory; pick. -/
namespace Go.Proofs.YtjhlbeamfngebaaDoor
open Go.RowKit Go.BigFrame AG

/-- The reader at block R: its bytes are the slice '.slice A n c', its position p. -/
structure RdAt (w : World) (R : Nat) (A : Option Addr) (n c p : Nat) : Prop where
  blk : Blk w R 129 #[.slice A n c, .int .i64 (p : Int)]
  len : n ≤ 2000
  cap : n ≤ c
  top : c ≤ 9223372036854775807
  pos : p ≤ 1125899906842624
  bytes : 0 < n → ∃ b o, A = some ⟨b, o, none⟩ ∧ b < R ∧ ∀ i, i < n → ∃ x : Nat, x < 256 ∧ w.cell? ⟨b, o + i, none⟩ = some (.int .u8 (x : Int))

theorem xor_nonneg {a b : Int} (ha : 0 ≤ a ∧ a < 9223372036854775808) (hb : 0 ≤ b ∧ b < 9223372036854775808) : 0 ≤ bits .xor .i64 a b ∧ bits .xor .i64 a b < 9223372036854775808 := by
  obtain ⟨a, rfl⟩ := Int.eq_ofNat_of_zero_le ha.1
  obtain ⟨b, rfl⟩ := Int.eq_ofNat_of_zero_le hb.1
  have hx : a ^^^ b < 2 ^ 63 := Nat.xor_lt_two_pow (by omega) (by omega)
  have : bits .xor .i64 (a : Int) (b : Int) = ((a ^^^ b : Nat) : Int) := by
    show IntKind.i64.wrap ((BitVec.ofInt 64 (a : Int) ^^^ BitVec.ofInt 64 (b : Int)).toNat : Int) = _
    rw [BitVec.toNat_xor, ofInt_i64 a (by omega), ofInt_i64 b (by omega), IntKind.wrap_i64]
    omega
  rw [this]
  omega

theorem RdAt.later {w w' : World} {R : Nat} {A : Option Addr} {n c p : Nat} (h : RdAt w R A n c p) (hb : Below w.heap.size w w') : RdAt w' R A n c p :=
  ⟨h.blk.below hb h.blk.lt, h.len, h.cap, h.top, h.pos, fun hn => by
    obtain ⟨b, o, hA, hlt, hx⟩ := h.bytes hn
    have hR := h.blk.lt
    refine ⟨b, o, hA, hlt, fun i hi => ?_⟩
    obtain ⟨x, h1, h2⟩ := hx i hi
    exact ⟨x, h1, by rw [hb.cell (by simp; omega)]; exact h2⟩⟩

theorem RdAt.step {w : World} {R : Nat} {A : Option Addr} {n c p : Nat} {v : Value} (h : RdAt w R A n c p) (hp : p < 1125899906842624) (hv : v = .int .i64 ((p : Int) + 1)) :
    RdAt (w.setCell ⟨R, 1, none⟩ v) R A n c (p + 1) ∧ KeepB (fun b => b = R) w (w.setCell ⟨R, 1, none⟩ v) := by
  subst hv
  refine ⟨⟨?_, h.len, h.cap, h.top, by omega, fun hn => ?_⟩, (KeepB.refl _ w).setCell _ _ (fun _ => rfl)⟩
  · have := h.blk.set_ 1 (.int .i64 ((p : Int) + 1))
    simpa using this
  · obtain ⟨b, o, hA, hlt, hx⟩ := h.bytes hn
    refine ⟨b, o, hA, hlt, fun i hi => ?_⟩
    obtain ⟨x, h1, h2⟩ := hx i hi
    refine ⟨x, h1, ?_⟩
    rw [World.cell?_setCell_other (h := addr_ne (by omega))]
    exact h2

set_option maxRecDepth 100000 in
set_option maxHeartbeats 2000000 in
theorem pick_any (R : Nat) (A : Option Addr) (n c p : Nat) (m : Int) (w : World) (hp : p < 1125899906842624) (hm : m ≤ 9223372036854775807) (hr : RdAt w R A n c p) :
    Calls Tryd.prog 108 #[.pointer (some ⟨R, 0, none⟩), .int .i64 m] w fun e w' => ∃ k : Int, e = .returned (.int .i64 k) ∧ 0 ≤ k ∧ (k < m ∨ k = 0) ∧ RdAt w' R A n c (p + 1) ∧ KeepB (fun b => b = R) w w' := by
  have hblk := hr.blk
  have hR := hblk.lt
  have e0 : w.cell? ⟨R, 0, none⟩ = some (.slice A n c) := by rw [hblk.cell]; rfl
  have e1 : w.cell? ⟨R, 1, none⟩ = some (.int .i64 (p : Int)) := by rw [hblk.cell]; rfl
  have hfr : w.frozen? ⟨R, 1, none⟩ = false := hblk.frozen 1
  have hlen := hr.len
  have hcap := hr.cap
  have htop := hr.top
  replace hr := hid hr
  replace hblk := hid hblk
  have hst := hid (hr.out.step (v := .int .i64 ((p : Int) + 1)) hp rfl)
  by_cases hm1 : m < 1
  · go_enter Tryd.func108, Tryd.ntmps108
    go_wp2
    go_ret
    exact ⟨0, rfl, by omega, .inr rfl, hst.out.1, hst.out.2⟩
  · have hm0 : (m == 0) = false := by simp; omega
    by_cases hn : n = 0
    · subst hn
      go_enter Tryd.func108, Tryd.ntmps108
      go_wp2
      go_ret
      exact ⟨0, rfl, by omega, .inr rfl, hst.out.1, hst.out.2⟩
    · obtain ⟨b, o, rfl, hltR, hx⟩ := hr.out.bytes (by omega)
      have hne : b ≠ R := by omega
      have hlt : b < w.heap.size := by omega
      have hn0 : ((n : Int) == 0) = false := by simp; omega
      by_cases hpn : p < n
      · obtain ⟨x, hx1, hx2⟩ := hx p hpn
        have hmod : 0 ≤ (x : Int) % m ∧ (x : Int) % m < m := ⟨Int.emod_nonneg _ (by omega), Int.emod_lt_of_pos _ (by omega)⟩
        replace hx := hid hx
        replace hmod := hid hmod
        have hneA : (⟨R, 1, none⟩ : Addr) ≠ ⟨b, o + p, none⟩ := addr_ne hne
        go_enter Tryd.func108, Tryd.ntmps108
        go_wp2
        go_ret
        exact ⟨_, rfl, hmod.out.1, .inl hmod.out.2, hst.out.1, hst.out.2⟩
      · have hw1 := hst.out.1
        obtain ⟨i1, hi1⟩ : ∃ i1, i1 = p % n := ⟨_, rfl⟩
        obtain ⟨i2, hi2⟩ : ∃ i2, i2 = (p * 7 + 3) % n := ⟨_, rfl⟩
        obtain ⟨q, hq⟩ : ∃ q, q = p / n := ⟨_, rfl⟩
        have hi1n : i1 < n := by rw [hi1]; exact Nat.mod_lt _ (by omega)
        have hi2n : i2 < n := by rw [hi2]; exact Nat.mod_lt _ (by omega)
        have hqp : q ≤ p := by rw [hq]; exact Nat.div_le_self _ _
        have k1 : (p : Int) % (n : Int) = (i1 : Int) := by rw [hi1]; omega
        have k2 : ((p : Int) * 7 + 3) % (n : Int) = (i2 : Int) := by rw [hi2]; simp
        have k3 : (p : Int) / (n : Int) = (q : Int) := by rw [hq]; omega
        obtain ⟨b', o', hA', -, hx'⟩ := hw1.bytes (by omega)
        injection hA' with hA'
        injection hA' with hA1 hA2
        subst hA1 hA2
        obtain ⟨x1, hx1, hy1⟩ := hx' i1 hi1n
        obtain ⟨x2, hx2, hy2⟩ := hx' i2 hi2n
        have hblk1 := hw1.blk
        replace hx := hid hx
        replace hx' := hid hx'
        replace hi1 := hid hi1
        replace hi2 := hid hi2
        replace hq := hid hq
        obtain ⟨w1, hw1e⟩ : ∃ w1, w1 = w.setCell ⟨R, 1, none⟩ (.int .i64 ((p : Int) + 1)) := ⟨_, rfl⟩
        rw [← hw1e] at hy1 hy2 hblk1
        have g0 : ∀ y, (Fam w1.heap.size w1 y).cell? ⟨R, 0, none⟩ = some (.slice (some ⟨b, o, none⟩) n c) := fun y => by rw [(Fam.below _ _ y).cell (by simpa using hblk1.lt), hblk1.cell]; rfl
        have hb1 : b < w1.heap.size := by rw [hw1e]; simpa using hlt
        have g1 : ∀ y, (Fam w1.heap.size w1 y).cell? ⟨b, o + i1, none⟩ = some (.int .u8 (x1 : Int)) := fun y => by rw [(Fam.below _ _ y).cell (by simpa using hb1)]; exact hy1
        have g2 : ∀ y, (Fam w1.heap.size w1 y).cell? ⟨b, o + i2, none⟩ = some (.int .u8 (x2 : Int)) := fun y => by rw [(Fam.below _ _ y).cell (by simpa using hb1)]; exact hy2
        replace hw1e := hid hw1e
        replace hw1 := hid hw1
        replace hblk1 := hid hblk1
        clear hy1 hy2
        have hxor := hid (xor_nonneg (a := (x1 : Int) * 131 + x2 * 1117 + p * 29 + q * 53) (b := ((x1 : Int) * 131 + x2 * 1117 + p * 29 + q * 53) / 64) (by omega) (by omega))
        go_enter Tryd.func108, Tryd.ntmps108
        go_wp2_with fail
        rw [← hw1e.out]
        refine wp_region_fam w1.heap.size w1 (by kernel_rfl) (by kernel_rfl) (Below.refl _ _) ?_
        (repeat (go_big_quiet_step (fail)))
        refine wpQuiet_nil ?_
        intro w2 hw2
        replace hw2 := Fam.out hw2
        go_wp2
        go_ret
        have hw1' : RdAt w1 R (some ⟨b, o, none⟩) n c (p + 1) := by rw [hw1e.out]; exact hw1.out
        have hk1 : KeepB (fun b => b = R) w w1 := by rw [hw1e.out]; exact hst.out.2
        exact ⟨_, rfl, Int.tmod_nonneg _ hxor.out.1, .inl (Int.tmod_lt_of_pos _ (by omega)), hw1'.later hw2, hk1.trans (KeepB.of_below hw2)⟩

/-- The reader at block R, its position at most P. -/
def RdUp (w : World) (R P : Nat) : Prop := ∃ A n c p, p ≤ P ∧ RdAt w R A n c p
theorem RdUp.more {w : World} {R P P' : Nat} (h : RdUp w R P) (hP : P ≤ P') : RdUp w R P' := by
  obtain ⟨A, n, c, p, h1, h2⟩ := h
  exact ⟨A, n, c, p, by omega, h2⟩
theorem RdUp.later {w w' : World} {R P : Nat} (h : RdUp w R P) (hb : Below w.heap.size w w') : RdUp w' R P := by
  obtain ⟨A, n, c, p, h1, h2⟩ := h
  exact ⟨A, n, c, p, h1, h2.later hb⟩
theorem RdUp.lt {w : World} {R P : Nat} (h : RdUp w R P) : R < w.heap.size := by
  obtain ⟨A, n, c, p, h1, h2⟩ := h
  exact h2.blk.lt
/-- Later blocks may be written. -/
theorem RdUp.keep {K : Nat → Prop} {w w' : World} {R P : Nat} (h : RdUp w R P) (hb : KeepB K w w') (hK : ∀ k, K k → R < k) : RdUp w' R P := by
  obtain ⟨A, n, c, p, h1, h2⟩ := h
  have hR := h2.blk.lt
  refine ⟨A, n, c, p, h1, h2.blk.keep hb (fun hk => by have := hK _ hk; omega), h2.len, h2.cap, h2.top, h2.pos, fun hn => ?_⟩
  obtain ⟨b, o, hA, hlt, hx⟩ := h2.bytes hn
  refine ⟨b, o, hA, hlt, fun i hi => ?_⟩
  obtain ⟨x, g1, g2⟩ := hx i hi
  refine ⟨x, g1, ?_⟩
  have : w'.cell? ⟨b, o + i, none⟩ = w.cell? ⟨b, o + i, none⟩ := by
    unfold World.cell?
    rw [hb.block b (by omega) (fun hk => by have := hK _ hk; omega)]
  rw [this]
  exact g2

def PickPost (R P : Nat) (m : Int) (w : World) (e : Ending) (w' : World) : Prop := ∃ k : Int, e = .returned (.int .i64 k) ∧ 0 ≤ k ∧ (k < m ∨ k = 0) ∧ RdUp w' R (P + 1) ∧ KeepB (fun b => b = R) w w'
theorem pick_up (R P : Nat) (m : Int) (w : World) (hP : P < 1125899906842624) (hm : m ≤ 9223372036854775807) (h : RdUp w R P) :
    Calls Tryd.prog 108 #[.pointer (some ⟨R, 0, none⟩), .int .i64 m] w (PickPost R P m w) := by
  obtain ⟨A, n, c, p, h1, h2⟩ := h
  exact (pick_any R A n c p m w (by omega) hm h2).mono fun e w' ⟨k, a1, a2, a3, a4, a5⟩ => ⟨k, a1, a2, a3, ⟨A, n, c, p + 1, by omega, a4⟩, a5⟩

end Go.Proofs.YtjhlbeamfngebaaDoor

/- The drawing kit: l19Open, num, of. -/
namespace Go.Proofs.YtjhlbeamfngebaaDoor
open Go.RowKit Go.BigFrame AG

theorem KeepB.cell_ {K : Nat → Prop} {w w' : World} (h : KeepB K w w') {p : Addr} (hb : p.block < w.heap.size) (hK : ¬ K p.block) : w'.cell? p = w.cell? p := by
  unfold World.cell?
  rw [h.block _ hb hK]

set_option maxHeartbeats 1000000 in
theorem num_up (R P g o k cap : Nat) (xs : List Int) (w : World) (hxl : xs.length = k) (hk : 0 < k) (hk2 : k ≤ 4294967296) (hP : P < 1125899906842624)
    (hgR : g ≠ R) (hgl : g < w.heap.size) (hxs : ∀ i (h : i < xs.length), w.cell? ⟨g, o + i, none⟩ = some (.int .i64 xs[i])) (hr : RdUp w R P) :
    Calls Tryd.prog 154 #[.pointer (some ⟨R, 0, none⟩), .slice (some ⟨g, o, none⟩) k cap] w fun e w' => ∃ x, x ∈ xs ∧ e = .returned (.int .i64 x) ∧ RdUp w' R (P + 1) ∧ KeepB (fun b => b = R) w w' := by
  replace hr := hid hr
  replace hxs := hid hxs
  go_enter Tryd.func154, Tryd.ntmps154
  go_wp2_with fail
  refine (pick_up R P k w hP (by omega) hr.out).mono ?_
  rintro e w1 ⟨j, rfl, hj0, hj1, hr1, hk1⟩
  obtain ⟨i, rfl⟩ := Int.eq_ofNat_of_zero_le hj0
  have hik : i < xs.length := by omega
  have e1 : w1.cell? ⟨g, o + i, none⟩ = some (.int .i64 xs[i]) := by rw [KeepB.cell_ hk1 (p := ⟨g, o + i, none⟩) hgl hgR]; exact hxs.out i hik
  have hik2 : (i : Int) < (k : Int) := by omega
  replace hr1 := hid hr1
  replace hk1 := hid hk1
  clear hj1
  go_wp2
  go_ret
  exact ⟨_, List.getElem_mem _, rfl, hr1.out, hk1.out⟩

set_option maxHeartbeats 1000000 in
theorem of_up (R P g o k cap : Nat) (xs : List ByteArray) (w : World) (hxl : xs.length = k) (hk : 0 < k) (hk2 : k ≤ 4294967296) (hP : P < 1125899906842624)
    (hgR : g ≠ R) (hgl : g < w.heap.size) (hxs : ∀ i (h : i < xs.length), w.cell? ⟨g, o + i, none⟩ = some (.string xs[i])) (hr : RdUp w R P) :
    Calls Tryd.prog 158 #[.pointer (some ⟨R, 0, none⟩), .slice (some ⟨g, o, none⟩) k cap] w fun e w' => ∃ x, x ∈ xs ∧ e = .returned (.string x) ∧ RdUp w' R (P + 1) ∧ KeepB (fun b => b = R) w w' := by
  replace hr := hid hr
  replace hxs := hid hxs
  go_enter Tryd.func158, Tryd.ntmps158
  go_wp2_with fail
  refine (pick_up R P k w hP (by omega) hr.out).mono ?_
  rintro e w1 ⟨j, rfl, hj0, hj1, hr1, hk1⟩
  obtain ⟨i, rfl⟩ := Int.eq_ofNat_of_zero_le hj0
  have hik : i < xs.length := by omega
  have e1 : w1.cell? ⟨g, o + i, none⟩ = some (.string xs[i]) := by rw [KeepB.cell_ hk1 (p := ⟨g, o + i, none⟩) hgl hgR]; exact hxs.out i hik
  have hik2 : (i : Int) < (k : Int) := by omega
  replace hr1 := hid hr1
  replace hk1 := hid hk1
  clear hj1
  go_wp2
  go_ret
  exact ⟨_, List.getElem_mem _, rfl, hr1.out, hk1.out⟩

/-- The bytes of an argument, below block B. -/
def CodeAt (w : World) (A : Option Addr) (n : Nat) : Prop := 0 < n → ∃ b o, A = some ⟨b, o, none⟩ ∧ b < w.heap.size ∧ ∀ i, i < n → ∃ x : Nat, x < 256 ∧ w.cell? ⟨b, o + i, none⟩ = some (.int .u8 (x : Int))

set_option maxHeartbeats 1000000 in
theorem l19Open_any (A : Option Addr) (n c : Nat) (w : World) (hn : n ≤ c) (hc : c ≤ 9223372036854775807) (hx : 0 < n → ∃ b o, A = some ⟨b, o, none⟩ ∧ b < w.heap.size ∧ ∀ i, i < n → ∃ x : Nat, x < 256 ∧ w.cell? ⟨b, o + i, none⟩ = some (.int .u8 (x : Int))) :
    Calls Tryd.prog 45 #[.slice A n c] w fun e w' => ∃ R, e = .returned (.pointer (some ⟨R, 0, none⟩)) ∧ w.heap.size ≤ R ∧ RdUp w' R 0 ∧ Below w.heap.size w w' := by
  replace hx := hid hx
  by_cases h2 : n ≤ 2000
  · go_enter Tryd.func45, Tryd.ntmps45
    go_wp2
    go_ret
    refine ⟨w.heap.size, rfl, Nat.le_refl _, ⟨A, n, c, 0, Nat.le_refl _, Blk.new w _ _, h2, hn, hc, by omega, fun hpos => ?_⟩, (Below.refl _ _).alloc (Nat.le_refl _) _⟩
    obtain ⟨b, o, hA, hb, hx'⟩ := hx.out hpos
    refine ⟨b, o, hA, hb, fun i hi => ?_⟩
    obtain ⟨x, h1, h3⟩ := hx' i hi
    exact ⟨x, h1, by rw [World.cell?_alloc_lt (h := by simpa using hb)]; exact h3⟩
  · obtain ⟨b, o, rfl, hb, hx'⟩ := hx.out (by omega)
    replace hx' := hid hx'
    go_enter Tryd.func45, Tryd.ntmps45
    go_wp2
    go_ret
    refine ⟨w.heap.size, rfl, Nat.le_refl _, ⟨_, 2000, c, 0, Nat.le_refl _, Blk.new w _ _, Nat.le_refl _, by omega, hc, by omega, fun _ => ⟨b, o, rfl, hb, fun i hi => ?_⟩⟩, (Below.refl _ _).alloc (Nat.le_refl _) _⟩
    obtain ⟨x, h1, h3⟩ := hx'.out i (by omega)
    exact ⟨x, h1, by rw [World.cell?_alloc_lt (h := by simpa using hb)]; exact h3⟩

def NumUp (R P : Nat) (xs : List Int) (w : World) (e : Ending) (w' : World) : Prop := ∃ x, x ∈ xs ∧ e = .returned (.int .i64 x) ∧ RdUp w' R (P + 1) ∧ KeepB (fun b => b = R) w w'
/-- A number out of a list that has just been made. -/
theorem num_lit (R P : Nat) (xs : List Int) (w : World) (T : TypeId) (hk : 0 < xs.length) (hk2 : xs.length ≤ 1000) (hP : P < 1125899906842624) (hr : RdUp w R P) :
    Calls Tryd.prog 154 #[.pointer (some ⟨R, 0, none⟩), .slice (some ⟨w.heap.size, 0, none⟩) xs.length xs.length] (w.alloc (.cells (xs.map (Value.int .i64)).toArray T)) (NumUp R P xs w) := by
  have hR := hr.lt
  have hb : Below w.heap.size w (w.alloc (.cells (xs.map (Value.int .i64)).toArray T)) := (Below.refl _ _).alloc (Nat.le_refl _) _
  refine (num_up R P w.heap.size 0 xs.length xs.length xs _ rfl hk (by omega) hP (by omega) (by simp) (fun i h => ?_) (hr.later hb)).mono fun e w' ⟨x, h1, h2, h3, h4⟩ => ⟨x, h1, h2, h3, (KeepB.of_below hb).trans h4⟩
  rw [Nat.zero_add, World.cell?_alloc_at _ _ _ _ rfl]
  simp [h]

end Go.Proofs.YtjhlbeamfngebaaDoor

/- A statement that draws its order and whose calls may write some old blocks one after the other: one walk in the order of the text serves every order, if what holds behind m operations is told (I m). -/
namespace AG
open Go Go.RowKit

/-- The ways on of a world: what one operation may do (S), and what holds behind m operations (I m). -/
structure Way (S : World → World → Prop) (I : Nat → World → Prop) : Prop where
  refl : ∀ w, S w w
  trans : ∀ a b c, S a b → S b c → S a c
  more : ∀ m w, I m w → I (m + 1) w

theorem Way.mono {S : World → World → Prop} {I : Nat → World → Prop} (y : Way S I) {m : Nat} {w : World} (h : I m w) : ∀ k, I (m + k) w
  | 0 => h
  | k + 1 => y.more _ _ (y.mono h k)

namespace GK
section
variable {P : Program} {ops : Array Oper} {md : Region.Mode} {n M : Nat} {S : World → World → Prop} {I : Nat → World → Prop} {sp : Nat → Value → World → Prop}

/-- What the check says of the first n operations. -/
structure Ok (md : Region.Mode) (ops : Array Oper) (n : Nat) : Prop where
  sel : Region.noSelect ops = true
  size : n ≤ ops.size
  back : ∀ j, j < n → ∀ k ∈ predsOf md ops j, k < j
  one : ∀ i k t, i < n → k < n → dstOf ops i = some t → dstOf ops k = some t → i = k
  seen : ∀ j k t, j < n → k < n → dstOf ops k = some t → t ∈ looksOf ops j → k ∈ predsOf md ops j

/-- The frames of two ways look the same to an operation whose callers have all come up. -/
theorem Ok.same {L : Nat → Bool} {val vh : Nat → Value} {a0 ar a : Act} {j : Nat} {oj : Oper} (g : Ok md ops n) (hr : Pt ops n L val a0 ar) (hl : Pt ops n (fun k => decide (k < j)) vh a0 a) (hj : j < n)
    (ho : ops[j]? = some oj) (hp : ∀ k ∈ predsOf md ops j, L k = true) (hv : ∀ k, k < j → L k = true → vh k = val k) :
    execOp a.eval oj = execOp ar.eval oj ∧ Region.wanted oj (yielded ops a.tmps) = Region.wanted oj (yielded ops ar.tmps) := by
  refine look_same (Region.noSelect_spec g.sel j oj · · ho) fun t ht => hl.agree hr fun k hk hd => ?_
  have hm := g.seen j k t hj hk hd (by simpa [looksOf, ho] using ht)
  have hlt := g.back j hj k hm
  have hLk := hp k hm
  exact ⟨by simp [hlt, hLk], fun _ => hv k hlt hLk⟩

/-- A fact that stays whatever the operations do. -/
def Steady (S : World → World → Prop) (F : World → Prop) : Prop := ∀ w w', S w w' → F w → F w'

/-- The walk in the order of the text; L: the operations that have been carried out already (none, for who walks). -/
def Res (P : Program) (md : Region.Mode) (ops : Array Oper) (S : World → World → Prop) (I : Nat → World → Prop) (M : Nat) (sp : Nat → Value → World → Prop) (L : Nat → Bool) (val : Nat → Value) (wr : World)
    (Q : List (Nat × (World → Prop)) → Act → Prop) : List Oper → Nat → List (Nat × (World → Prop)) → Act → Prop
  | [], _, Γ, a => Q Γ a
  | o :: rest, i, Γ, a =>
    if Region.wanted o (yielded ops a.tmps) = true then
      (∃ v, (∀ m w, m < M → I m w → fnUpon (fun u w' => u = v ∧ w' = w) ((execOp a.eval o).run P w)) ∧ (L i = true → val i = v) ∧ Res P md ops S I M sp L val wr Q rest (i + 1) Γ (a.put o.dst v)) ∨
      (∃ Z : Value → World → Prop, (∀ u, Steady S (Z u)) ∧ (∀ m w, m < M → I m w → FactsAt md ops i Γ w → fnUpon (fun u w' => (S w w' ∧ I (m + 1) w') ∧ Z u w') ((execOp a.eval o).run P w)) ∧ (L i = true → Z (val i) wr) ∧
        ∀ u, (L i = true → u = val i) → (L i = false → ∃ m w', I m w' ∧ Z u w') → Res P md ops S I M sp L val wr Q rest (i + 1) ((i, Z u) :: Γ) (a.put o.dst u)) ∨
      ((∀ u, Steady S (sp i u)) ∧ (∀ m w, m < M → I m w → FactsAt md ops i Γ w → callUpon P w (fun e w' => ∃ u, e = .returned u ∧ (S w w' ∧ I (m + 1) w') ∧ sp i u w') ((execOp a.eval o).run P w)) ∧ (L i = true → sp i (val i) wr) ∧
        ∀ u, (L i = true → u = val i) → (L i = false → ∃ m w', I m w' ∧ sp i u w') → Res P md ops S I M sp L val wr Q rest (i + 1) ((i, sp i u) :: Γ) (a.put o.dst u))
    else (L i = true → val i = undef) ∧ Res P md ops S I M sp L val wr Q rest (i + 1) Γ (a.put o.dst undef)

variable {Q : List (Nat × (World → Prop)) → Act → Prop}

/-- Behind the place of what was carried out last: only the world has moved on. -/
theorem Res.later {L L' : Nat → Bool} {val val' : Nat → Value} {wr w1 : World} (hb : S wr w1) : ∀ (l : List Oper) (i : Nat) (Γ : List (Nat × (World → Prop))) (a : Act),
    (∀ k, i ≤ k → L' k = L k ∧ val' k = val k) → Res P md ops S I M sp L val wr Q l i Γ a → Res P md ops S I M sp L' val' w1 Q l i Γ a := by
  intro l
  induction l with
  | nil => intro i Γ a _ h; exact h
  | cons o rest ih =>
    intro i Γ a he h
    obtain ⟨hL, hv⟩ := he i (Nat.le_refl i)
    have he' : ∀ k, i + 1 ≤ k → L' k = L k ∧ val' k = val k := fun k hk => he k (by omega)
    unfold Res at h ⊢
    rw [hL, hv]
    split
    · rename_i hw
      rw [if_pos hw] at h
      rcases h with ⟨v, h1, h2, h3⟩ | ⟨Z, hs, h1, h2, h3⟩ | ⟨hs, h1, h2, h3⟩
      · exact .inl ⟨v, h1, h2, ih _ _ _ he' h3⟩
      · exact .inr (.inl ⟨Z, hs, h1, fun h => hs _ _ _ hb (h2 h), fun u hu hu' => ih _ _ _ he' (h3 u hu hu')⟩)
      · exact .inr (.inr ⟨hs, h1, fun h => hs _ _ _ hb (h2 h), fun u hu hu' => ih _ _ _ he' (h3 u hu hu')⟩)
    · rename_i hw
      rw [if_neg hw] at h
      exact ⟨h.1, ih _ _ _ he' h.2⟩

/-- Some way leads to operation j. -/
theorem Res.reach {L : Nat → Bool} {val : Nat → Value} {wr : World} {a0 : Act} {j : Nat} {oj : Oper} (y : Way S I) (g : Ok md ops n) (hj : j < n) (ho : ops[j]? = some oj) :
    ∀ (l : List Oper) (i : Nat) (Γ : List (Nat × (World → Prop))) (a : Act) (vh : Nat → Value) (mh : Nat) (wh : World), (∀ m, m < l.length → l[m]? = ops[i + m]?) → i + l.length = n → i ≤ j → Res P md ops S I M sp L val wr Q l i Γ a →
      Pt ops n (fun k => decide (k < i)) vh a0 a → (∀ k, k < i → L k = true → vh k = val k) → (∀ p ∈ Γ, Steady S p.2) → (∀ p ∈ Γ, L p.1 = true → p.2 wr) → mh + l.length ≤ M → S wr wh → I mh wh → (∀ p ∈ Γ, p.2 wh) →
      ∃ rest Γj aj vj, Res P md ops S I M sp L val wr Q (oj :: rest) j Γj aj ∧ Pt ops n (fun k => decide (k < j)) vj a0 aj ∧ (∀ k, k < j → L k = true → vj k = val k) ∧ (∀ p ∈ Γj, L p.1 = true → p.2 wr) := by
  intro l
  induction l with
  | nil => intro i Γ a vh mh wh _ hn hij; simp at hn; omega
  | cons o rest ih =>
    intro i Γ a vh mh wh hl hn hij h hpt hv hst hlr hmh hrh hBh hfh
    have hio : ops[i]? = some o := by simpa using (hl 0 (by simp)).symm
    by_cases e : i = j
    · subst e
      obtain rfl : o = oj := Option.some.inj (hio.symm.trans ho)
      exact ⟨rest, Γ, a, vh, h, hpt, hv, hlr⟩
    · have hlt : i < j := by omega
      have hin : i < n := by omega
      have hl' : ∀ m, m < rest.length → rest[m]? = ops[i + 1 + m]? := fun m hm => by
        have := hl (m + 1) (by simp; omega)
        simpa [Nat.add_assoc, Nat.add_comm 1 m] using this
      have hn' : i + 1 + rest.length = n := by simp at hn; omega
      have hm1 : mh + rest.length ≤ M ∧ mh + 1 + rest.length ≤ M ∧ mh < M := by simp at hmh; omega
      have hput : ∀ u, Pt ops n (fun k => decide (k < i + 1)) (upd vh i u) a0 (a.put o.dst u) := fun u => by
        have := hpt.put (u := u) g.one hin (by simp) hio
        have e2 : ins (fun k => decide (k < i)) i = fun k => decide (k < i + 1) := by
          funext k; simp only [ins]; rw [Bool.eq_iff_iff]; simp; omega
        rwa [e2] at this
      have hvu : ∀ u, (L i = true → u = val i) → ∀ k, k < i + 1 → L k = true → upd vh i u k = val k := fun u hu k hk hLk => by
        unfold upd
        by_cases e : k = i
        · subst e; rw [if_pos rfl]; exact hu hLk
        · rw [if_neg e]; exact hv k (by omega) hLk
      unfold Res at h
      split at h
      · rcases h with ⟨v, h1, h2, h3⟩ | ⟨Z, hs, h1, h2, h3⟩ | ⟨hs, h1, h2, h3⟩
        · exact ih _ _ _ _ mh wh hl' hn' (by omega) h3 (hput v) (hvu v fun h => (h2 h).symm) hst hlr hm1.1 hrh hBh hfh
        · cases hLi : L i with
          | true =>
            refine ih _ _ _ _ mh wh hl' hn' (by omega) (h3 (val i) (fun _ => rfl) (fun h => by rw [hLi] at h; cases h)) (hput _) (hvu _ fun _ => rfl) ?_ ?_ hm1.1 hrh hBh ?_
            · exact fun p hp => by rcases List.mem_cons.1 hp with rfl | hp; exact hs _; exact hst p hp
            · exact fun p hp hL => by rcases List.mem_cons.1 hp with rfl | hp; exact h2 hLi; exact hlr p hp hL
            · exact fun p hp => by rcases List.mem_cons.1 hp with rfl | hp; exact hs _ _ _ hrh (h2 hLi); exact hfh p hp
          | false =>
            have hx := h1 mh wh hm1.2.2 hBh fun p hp _ => hfh p hp
            have hgo : ∀ u w', (S wh w' ∧ I (mh + 1) w') ∧ Z u w' → _ := fun u w' hz =>
              ih (i + 1) ((i, Z u) :: Γ) (a.put o.dst u) (upd vh i u) (mh + 1) w' hl' hn' (by omega) (h3 u (fun h => by rw [hLi] at h; cases h) (fun _ => ⟨_, w', hz.1.2, hz.2⟩)) (hput u)
                (hvu u fun h => by rw [hLi] at h; cases h) (fun p hp => by rcases List.mem_cons.1 hp with rfl | hp; exact hs _; exact hst p hp)
                (fun p hp hL => by rcases List.mem_cons.1 hp with rfl | hp; (rw [hLi] at hL; cases hL); exact hlr p hp hL) hm1.2.1 (y.trans _ _ _ hrh hz.1.1) hz.1.2
                (fun p hp => by rcases List.mem_cons.1 hp with rfl | hp; exact hz.2; exact hst p hp _ _ hz.1.1 (hfh p hp))
            generalize (execOp a.eval o).run P wh = r at hx
            cases r with
            | ok x w' => cases x <;> simp only [fnUpon] at hx <;> exact hgo _ _ hx
            | halt x w' => exact hx.elim
        · cases hLi : L i with
          | true =>
            refine ih _ _ _ _ mh wh hl' hn' (by omega) (h3 (val i) (fun _ => rfl) (fun h => by rw [hLi] at h; cases h)) (hput _) (hvu _ fun _ => rfl) ?_ ?_ hm1.1 hrh hBh ?_
            · exact fun p hp => by rcases List.mem_cons.1 hp with rfl | hp; exact hs _; exact hst p hp
            · exact fun p hp hL => by rcases List.mem_cons.1 hp with rfl | hp; exact h2 hLi; exact hlr p hp hL
            · exact fun p hp => by rcases List.mem_cons.1 hp with rfl | hp; exact hs _ _ _ hrh (h2 hLi); exact hfh p hp
          | false =>
            have hx := h1 mh wh hm1.2.2 hBh fun p hp _ => hfh p hp
            have hgo : ∀ u w', (S wh w' ∧ I (mh + 1) w') ∧ sp i u w' → _ := fun u w' hz =>
              ih (i + 1) ((i, sp i u) :: Γ) (a.put o.dst u) (upd vh i u) (mh + 1) w' hl' hn' (by omega) (h3 u (fun h => by rw [hLi] at h; cases h) (fun _ => ⟨_, w', hz.1.2, hz.2⟩)) (hput u)
                (hvu u fun h => by rw [hLi] at h; cases h) (fun p hp => by rcases List.mem_cons.1 hp with rfl | hp; exact hs _; exact hst p hp)
                (fun p hp hL => by rcases List.mem_cons.1 hp with rfl | hp; (rw [hLi] at hL; cases hL); exact hlr p hp hL) hm1.2.1 (y.trans _ _ _ hrh hz.1.1) hz.1.2
                (fun p hp => by rcases List.mem_cons.1 hp with rfl | hp; exact hz.2; exact hst p hp _ _ hz.1.1 (hfh p hp))
            generalize (execOp a.eval o).run P wh = r at hx
            cases r with
            | ok x w' =>
              cases x <;> simp only [callUpon] at hx
              obtain ⟨_, hc⟩ := hx
              obtain ⟨e', w'', _, ⟨u, _, hz⟩, _⟩ := hc []
              exact hgo u w'' hz
            | halt x w' => exact hx.elim
      · exact ih _ _ _ _ mh wh hl' hn' (by omega) h.2 (hput undef) (hvu undef fun hL => (h.1 hL).symm) hst hlr hm1.1 hrh hBh hfh

theorem Res.mark {L : Nat → Bool} {val : Nat → Value} {wr w1 : World} {a0 ar : Act} {j mr m1 : Nat} {oj : Oper} {u : Value} (g : Ok md ops n) (hj : j < n) (ho : ops[j]? = some oj) (hLj : L j = false)
    (hp : ∀ k ∈ predsOf md ops j, L k = true) (hdep : ∀ k, depB md ops j k = true → L k = true) (hr : Pt ops n L val a0 ar) (hmr : mr < M) (hBr : I mr wr) (hb : S wr w1) (hB1 : I m1 w1) (hout : Outc P ops sp j oj ar wr u w1) :
    ∀ (l : List Oper) (i : Nat) (Γ : List (Nat × (World → Prop))) (a : Act) (vh : Nat → Value), (∀ m, m < l.length → l[m]? = ops[i + m]?) → i + l.length = n → i ≤ j → Res P md ops S I M sp L val wr Q l i Γ a →
      Pt ops n (fun k => decide (k < i)) vh a0 a → (∀ k, k < i → L k = true → vh k = val k) → (∀ p ∈ Γ, L p.1 = true → p.2 wr) → Res P md ops S I M sp (ins L j) (upd val j u) w1 Q l i Γ a := by
  intro l
  induction l with
  | nil => intro i Γ a vh _ hn hij; simp at hn; omega
  | cons o rest ih =>
    intro i Γ a vh hl hn hij h hpt hv hlr
    have hio : ops[i]? = some o := by simpa using (hl 0 (by simp)).symm
    by_cases e : i = j
    · subst e
      obtain rfl : o = oj := Option.some.inj (hio.symm.trans ho)
      obtain ⟨hex, hwt⟩ := g.same hr hpt hj ho hp hv
      have hins : ins L i i = true := by simp [ins]
      have hupd : upd val i u i = u := by simp [upd]
      have hafter : ∀ k, i + 1 ≤ k → ins L i k = L k ∧ upd val i u k = val k := fun k hk => by
        have : k ≠ i := by omega
        simp [ins, upd, this]
      have hF : FactsAt md ops i Γ wr := fun p hp' hd => hlr p hp' (hdep _ hd)
      unfold Res at h ⊢
      rw [hins, hupd]
      unfold Outc at hout
      rw [← hex, ← hwt] at hout
      split
      · rename_i hw
        rw [if_pos hw] at h hout
        rcases h with ⟨v, h1, h2, h3⟩ | ⟨Z, hs, h1, h2, h3⟩ | ⟨hs, h1, h2, h3⟩
        · have hx := h1 mr wr hmr hBr
          have huv : u = v := by
            generalize (execOp a.eval o).run P wr = r at hx hout
            cases r with
            | ok x w' => cases x <;> simp only [fnUpon] at hx <;> simp only at hout <;> rw [← hout.1, hx.1]
            | halt x w' => exact hx.elim
          exact .inl ⟨v, h1, fun _ => huv, Res.later hb _ _ _ _ hafter h3⟩
        · have hx := h1 mr wr hmr hBr hF
          have hz : Z u w1 := by
            generalize (execOp a.eval o).run P wr = r at hx hout
            cases r with
            | ok x w' => cases x <;> simp only [fnUpon] at hx <;> simp only at hout <;> (obtain ⟨rfl, rfl⟩ := hout; exact hx.2)
            | halt x w' => exact hx.elim
          refine .inr (.inl ⟨Z, hs, h1, fun _ => hz, fun u' hu' _ => ?_⟩)
          obtain rfl := hu' rfl
          exact Res.later hb _ _ _ _ hafter (h3 u' (fun h => by rw [hLj] at h; cases h) (fun _ => ⟨m1, w1, hB1, hz⟩))
        · have hx := h1 mr wr hmr hBr hF
          have hz : sp i u w1 := by
            generalize (execOp a.eval o).run P wr = r at hx hout
            cases r with
            | ok x w' => cases x <;> simp only [callUpon] at hx; exact hout
            | halt x w' => exact hx.elim
          refine .inr (.inr ⟨hs, h1, fun _ => hz, fun u' hu' _ => ?_⟩)
          obtain rfl := hu' rfl
          exact Res.later hb _ _ _ _ hafter (h3 u' (fun h => by rw [hLj] at h; cases h) (fun _ => ⟨m1, w1, hB1, hz⟩))
      · rename_i hw
        rw [if_neg hw] at h hout
        exact ⟨fun _ => hout.1.symm, Res.later hb _ _ _ _ hafter h.2⟩
    · have hlt : i < j := by omega
      have hin : i < n := by omega
      have hl' : ∀ m, m < rest.length → rest[m]? = ops[i + 1 + m]? := fun m hm => by
        have := hl (m + 1) (by simp; omega)
        simpa [Nat.add_assoc, Nat.add_comm 1 m] using this
      have hn' : i + 1 + rest.length = n := by simp at hn; omega
      have hput : ∀ u, Pt ops n (fun k => decide (k < i + 1)) (upd vh i u) a0 (a.put o.dst u) := fun u => by
        have := hpt.put (u := u) g.one hin (by simp) hio
        have e2 : ins (fun k => decide (k < i)) i = fun k => decide (k < i + 1) := by
          funext k; simp only [ins]; rw [Bool.eq_iff_iff]; simp; omega
        rwa [e2] at this
      have hvu : ∀ u, (L i = true → u = val i) → ∀ k, k < i + 1 → L k = true → upd vh i u k = val k := fun u hu k hk hLk => by
        unfold upd
        by_cases e : k = i
        · subst e; rw [if_pos rfl]; exact hu hLk
        · rw [if_neg e]; exact hv k (by omega) hLk
      have hins : ins L j i = L i := by simp [ins, e]
      have hupd : upd val j u i = val i := by simp [upd, e]
      unfold Res at h ⊢
      rw [hins, hupd]
      split
      · rename_i hw
        rw [if_pos hw] at h
        rcases h with ⟨v, h1, h2, h3⟩ | ⟨Z, hs, h1, h2, h3⟩ | ⟨hs, h1, h2, h3⟩
        · exact .inl ⟨v, h1, h2, ih _ _ _ _ hl' hn' (by omega) h3 (hput v) (hvu v fun h => (h2 h).symm) hlr⟩
        · exact .inr (.inl ⟨Z, hs, h1, fun h => hs _ _ _ hb (h2 h), fun u' hu hu' => ih _ _ _ _ hl' hn' (by omega) (h3 u' hu hu') (hput u') (hvu u' hu) fun p hp hL => by
            rcases List.mem_cons.1 hp with rfl | hp
            · rw [hu hL]; exact h2 hL
            · exact hlr p hp hL⟩)
        · exact .inr (.inr ⟨hs, h1, fun h => hs _ _ _ hb (h2 h), fun u' hu hu' => ih _ _ _ _ hl' hn' (by omega) (h3 u' hu hu') (hput u') (hvu u' hu) fun p hp hL => by
            rcases List.mem_cons.1 hp with rfl | hp
            · rw [hu hL]; exact h2 hL
            · exact hlr p hp hL⟩)
      · rename_i hw
        rw [if_neg hw] at h
        exact ⟨h.1, ih _ _ _ _ hl' hn' (by omega) h.2 (hput undef) (hvu undef fun hL => (h.1 hL).symm) hlr⟩

/-- All have come up. -/
theorem Res.over {L : Nat → Bool} {val : Nat → Value} {wr : World} {a0 : Act} (g : Ok md ops n) (hL : ∀ k, k < n → L k = true) :
    ∀ (l : List Oper) (i : Nat) (Γ : List (Nat × (World → Prop))) (a : Act) (vh : Nat → Value), (∀ m, m < l.length → l[m]? = ops[i + m]?) → i + l.length = n → Res P md ops S I M sp L val wr Q l i Γ a →
      Pt ops n (fun k => decide (k < i)) vh a0 a → (∀ k, k < i → vh k = val k) → (∀ p ∈ Γ, p.2 wr) → ∃ Γ' a' vh', Q Γ' a' ∧ Pt ops n (fun k => decide (k < n)) vh' a0 a' ∧ (∀ k, k < n → vh' k = val k) ∧ ∀ p ∈ Γ', p.2 wr := by
  intro l
  induction l with
  | nil =>
    intro i Γ a vh _ hn h hpt hv hf
    obtain rfl : i = n := by simpa using hn
    exact ⟨Γ, a, vh, h, hpt, hv, hf⟩
  | cons o rest ih =>
    intro i Γ a vh hl hn h hpt hv hf
    have hio : ops[i]? = some o := by simpa using (hl 0 (by simp)).symm
    have hin : i < n := by simp at hn; omega
    have hLi := hL i hin
    have hl' : ∀ m, m < rest.length → rest[m]? = ops[i + 1 + m]? := fun m hm => by
      have := hl (m + 1) (by simp; omega)
      simpa [Nat.add_assoc, Nat.add_comm 1 m] using this
    have hn' : i + 1 + rest.length = n := by simp at hn; omega
    have hput : ∀ u, Pt ops n (fun k => decide (k < i + 1)) (upd vh i u) a0 (a.put o.dst u) := fun u => by
      have := hpt.put (u := u) g.one hin (by simp) hio
      have e2 : ins (fun k => decide (k < i)) i = fun k => decide (k < i + 1) := by
        funext k; simp only [ins]; rw [Bool.eq_iff_iff]; simp; omega
      rwa [e2] at this
    have hvu : ∀ u, u = val i → ∀ k, k < i + 1 → upd vh i u k = val k := fun u hu k hk => by
      unfold upd
      by_cases e : k = i
      · subst e; rw [if_pos rfl]; exact hu
      · rw [if_neg e]; exact hv k (by omega)
    unfold Res at h
    split at h
    · rcases h with ⟨v, h1, h2, h3⟩ | ⟨Z, hs, h1, h2, h3⟩ | ⟨hs, h1, h2, h3⟩
      · exact ih _ _ _ _ hl' hn' h3 (hput v) (hvu v (h2 hLi).symm) hf
      · exact ih _ _ _ _ hl' hn' (h3 (val i) (fun _ => rfl) (fun h => by rw [hLi] at h; cases h)) (hput _) (hvu _ rfl) fun p hp => by
          rcases List.mem_cons.1 hp with rfl | hp
          exact h2 hLi; exact hf p hp
      · exact ih _ _ _ _ hl' hn' (h3 (val i) (fun _ => rfl) (fun h => by rw [hLi] at h; cases h)) (hput _) (hvu _ rfl) fun p hp => by
          rcases List.mem_cons.1 hp with rfl | hp
          exact h2 hLi; exact hf p hp
    · exact ih _ _ _ _ hl' hn' h.2 (hput undef) (hvu undef (h.1 hLi).symm) hf

/-- One operation comes up. -/
theorem Res.step {Qx : Exit → Act → World → Prop} {L : Nat → Bool} {val : Nat → Value} {wr : World} {a0 ar : Act} {j mr : Nat} {oj : Oper} {l : List Oper} (y : Way S I) (g : Ok md ops n) (hj : j < n) (ho : ops[j]? = some oj)
    (hLj : L j = false) (hp : ∀ k ∈ predsOf md ops j, L k = true) (hdep : ∀ k, depB md ops j k = true → L k = true) (hr : Pt ops n L val a0 ar) (hmr : mr + n ≤ M) (hBr : I mr wr) (hl : ∀ m, m < l.length → l[m]? = ops[m]?) (hn : l.length = n)
    (h : Res P md ops S I M sp L val wr Q l 0 [] a0) :
    wpOp P ops Qx j (fun a' w' => ∃ u, a' = ar.put oj.dst u ∧ I (mr + 1) w' ∧ Res P md ops S I M sp (ins L j) (upd val j u) w' Q l 0 [] a0) ar wr := by
  have pt0 : ∀ v, Pt ops n (fun k => decide (k < 0)) v a0 a0 := fun v => ⟨rfl, fun k t _ hS => by simp at hS, fun _ _ => rfl⟩
  have hl0 : ∀ m, m < l.length → l[m]? = ops[0 + m]? := fun m hm => by rw [Nat.zero_add]; exact hl m hm
  have hmM : mr < M := by omega
  have after : ∀ u w1, S wr w1 → I (mr + 1) w1 → Outc P ops sp j oj ar wr u w1 → (∃ u', ar.put oj.dst u = ar.put oj.dst u' ∧ I (mr + 1) w1 ∧ Res P md ops S I M sp (ins L j) (upd val j u') w1 Q l 0 [] a0) := fun u w1 hb hB1 hout =>
    ⟨u, rfl, hB1, Res.mark g hj ho hLj hp hdep hr hmM hBr hb hB1 hout l 0 [] a0 val hl0 (by omega) (Nat.zero_le _) h (pt0 _) (fun k hk => by omega) (fun p hp => by cases hp)⟩
  obtain ⟨rest, Γ, a, vh, hres, hpt, hv, hlr⟩ := Res.reach (j := j) y g hj ho l 0 [] a0 val mr wr hl0 (by omega) (Nat.zero_le _) h (pt0 _) (fun k hk => by omega) (fun p hp => by cases hp) (fun p hp => by cases hp) (by omega) (y.refl _) hBr (fun p hp => by cases hp)
  obtain ⟨hex, hwt⟩ := g.same hr hpt hj ho hp hv
  have hF : FactsAt md ops j Γ wr := fun p hp' hd => hlr p hp' (hdep _ hd)
  unfold wpOp
  simp only [ho]
  unfold Res at hres
  rw [hex, hwt] at hres
  split
  · rename_i hw
    rw [if_pos hw] at hres
    refine .inl ?_
    unfold Oper.wp
    have hout : ∀ u w1, (match (execOp ar.eval oj).run P wr with | .ok (.value v) w' => v = u ∧ w' = w1 | .ok .skip w' => undef = u ∧ w' = w1 | .ok (.enter _ _) _ => sp j u w1 | _ => False) → Outc P ops sp j oj ar wr u w1 := fun u w1 h => by
      unfold Outc; rw [if_pos hw]; exact h
    rcases hres with ⟨v, h1, h2, h3⟩ | ⟨Z, hs, h1, h2, h3⟩ | ⟨hs, h1, h2, h3⟩
    · have hx := h1 mr wr hmM hBr
      cases hrun : (execOp ar.eval oj).run P wr with
      | ok x w' =>
        rw [hrun] at hx hout
        cases x <;> simp only [fnUpon] at hx <;> simp only [Oper.upon]
        case value v' => exact after _ _ (by rw [hx.2]; exact y.refl _) (by rw [hx.2]; exact y.more _ _ hBr) (hout _ _ ⟨rfl, rfl⟩)
        case skip => exact after _ _ (by rw [hx.2]; exact y.refl _) (by rw [hx.2]; exact y.more _ _ hBr) (hout _ _ ⟨rfl, rfl⟩)
      | halt x w' => rw [hrun] at hx; exact hx.elim
    · have hx := h1 mr wr hmM hBr hF
      cases hrun : (execOp ar.eval oj).run P wr with
      | ok x w' =>
        rw [hrun] at hx hout
        cases x <;> simp only [fnUpon] at hx <;> simp only [Oper.upon]
        case value v' => exact after _ _ hx.1.1 hx.1.2 (hout _ _ ⟨rfl, rfl⟩)
        case skip => exact after _ _ hx.1.1 hx.1.2 (hout _ _ ⟨rfl, rfl⟩)
      | halt x w' => rw [hrun] at hx; exact hx.elim
    · have hx := h1 mr wr hmM hBr hF
      cases hrun : (execOp ar.eval oj).run P wr with
      | ok x w' =>
        rw [hrun] at hx hout
        cases x <;> simp only [callUpon] at hx
        simp only [Oper.upon]
        obtain ⟨rfl, hc⟩ := hx
        exact hc.mono fun e w'' ⟨u, he, hb, hz⟩ => by subst he; exact after u w'' hb.1 hb.2 (hout _ _ hz)
      | halt x w' => rw [hrun] at hx; exact hx.elim
  · rename_i hw
    rw [if_neg hw] at hres
    exact after _ _ (y.refl _) (y.more _ _ hBr) (by unfold Outc; rw [if_neg hw]; exact ⟨rfl, rfl⟩)

/-- Operations that the walk need not wait for (Z) have been carried out; the others behind the first n have not. -/
structure HInv (md : Region.Mode) (ops : Array Oper) (n : Nat) (Z : Nat → Bool) (listed : Array Bool) : Prop where
  size : listed.size = ops.size
  closed : ∀ j oj, ops[j]? = some oj → listed.getD j false = true → ∀ e ∈ oj.after, Region.binds md e = true → listed.getD e.on false = true
  tail : ∀ t, n ≤ t → t < ops.size → Z t = false → listed.getD t true = false
  zin : ∀ t, n ≤ t → t < ops.size → Z t = true → listed.getD t false = true
theorem HInv.set {Z : Nat → Bool} {i : Nat} {listed : Array Bool} (inv : HInv md ops n Z listed) (hi : i ∈ Region.ready md ops listed) (hin : i < n) : HInv md ops n Z (listed.setIfInBounds i true) := by
  obtain ⟨_, oi, hoi, hall⟩ := mem_ready.1 hi
  refine ⟨by simp [inv.size], fun j oj hj hl e he hb => ?_, fun t ht ht' hz => by rw [getD_set_ne true (by omega)]; exact inv.tail t ht ht' hz, fun t ht ht' hz => getD_set_true (inv.zin t ht ht' hz)⟩
  by_cases hij : i = j
  · subst hij
    have : oj = oi := Option.some.inj (hj.symm.trans hoi)
    subst this
    exact getD_set_true (hall e he hb)
  · rw [getD_set_ne false hij] at hl
    exact getD_set_true (inv.closed j oj hj hl e he hb)
def canonZ (ops : Array Oper) (n : Nat) (Z : Nat → Bool) : Array Bool := ((List.range ops.size).map fun k => decide (k < n) || Z k).toArray
/-- The operations that operation j waits for, at once or through others. -/
def needs (md : Region.Mode) (ops : Array Oper) (j : Nat) : List Nat := upset md ops ops.size (predsOf md ops j)

theorem grow_any {Qx : Exit → Act → World → Prop} {a0 : Act} {l : List Oper} {Z : Nat → Bool} {m1 : Nat} (y : Way S I) (g : Ok md ops n) (hM : 2 * n ≤ M) (hwait : ∀ t, n ≤ t → t < ops.size → Z t = false → ∀ i, i < n → i ∈ needs md ops t) (hl : ∀ m, m < l.length → l[m]? = ops[m]?) (hn : l.length = n)
    (hQ : ∀ Γ a w, Q Γ a → I n w → (∀ p ∈ Γ, p.2 w) → wpAny P md ops Qx m1 (canonZ ops n Z) a w) :
    ∀ (f : Nat) (listed : Array Bool) (ar : Act) (mr : Nat) (wr : World) (val : Nat → Value), (List.range n).countP (fun k => !listed.getD k false) = f → HInv md ops n Z listed → Pt ops n (fun k => listed.getD k false) val a0 ar → mr + f = n → I mr wr →
      Res P md ops S I M sp (fun k => listed.getD k false) val wr Q l 0 [] a0 → wpAny P md ops Qx (f + m1) listed ar wr := by
  intro f
  induction f with
  | zero =>
    intro listed ar mr wr val hc inv hpt hmr hB h
    have hall : ∀ k, k < n → listed.getD k false = true := fun k hk => by
      have := List.countP_eq_zero.1 hc k (List.mem_range.2 hk)
      simpa using this
    obtain ⟨Γ, a, vh, hq, hpa, hv, hf⟩ := Res.over g hall l 0 [] a0 val (fun m hm => by rw [Nat.zero_add]; exact hl m hm) (by omega) h ⟨rfl, fun k t _ hS => by simp at hS, fun _ _ => rfl⟩ (fun k hk => by omega) (fun p hp => by cases hp)
    have hcan : listed = canonZ ops n Z := by
      apply Array.ext_getElem?
      intro k
      unfold canonZ
      by_cases hks : k < ops.size
      · have hks' : k < listed.size := by rw [inv.size]; exact hks
        by_cases hkn : k < n
        · have := hall k hkn
          simp [hks, hks', hkn] at this ⊢
          exact this
        · cases hz : Z k
          · have := inv.tail k (by omega) hks hz
            simp [hks, hks', hkn, hz] at this ⊢
            exact this
          · have := inv.zin k (by omega) hks hz
            simp [hks, hks', hkn, hz] at this ⊢
            exact this
      · have hks' : ¬ k < listed.size := by rw [inv.size]; exact hks
        simp [hks, hks']
    have hfr : ar = a := by
      have h1 : ar.defers = a.defers := hpt.defers.trans hpa.defers.symm
      have h2 : ar.tmps = a.tmps := Array.ext_getElem? fun t => hpt.agree hpa fun k hk _ => ⟨by simp [hk, hall k hk], fun _ => (hv k hk).symm⟩
      cases ar; cases a; simp_all
    obtain rfl : mr = n := by omega
    rw [Nat.zero_add, hcan, hfr]
    exact hQ Γ a wr hq hB hf
  | succ f ih =>
    intro listed ar mr wr val hc inv hpt hmr hB h
    have hex : ∃ k, k < n ∧ listed.getD k false = false := by
      have : 0 < (List.range n).countP (fun k => !listed.getD k false) := by omega
      obtain ⟨k, hk, hp⟩ := List.countP_pos_iff.1 this
      exact ⟨k, List.mem_range.1 hk, by simpa using hp⟩
    obtain ⟨k0, hk0, hun0⟩ := hex
    obtain ⟨m, hm, hm1, hm2⟩ := least_of (p := fun k => !listed.getD k false) k0 (by simpa using hun0)
    have hmn : m < n := by omega
    have hms : m < listed.size := by rw [inv.size]; have := g.size; omega
    have hun : listed.getD m true = false := getD_in hms (by simpa using hm1)
    have hready : m ∈ Region.ready md ops listed := by
      have hmo : m < ops.size := by have := g.size; omega
      refine mem_ready.2 ⟨hun, ops[m], by simp [hmo], fun e he hb => ?_⟩
      have : e.on < m := g.back m hmn _ (by
        unfold predsOf
        rw [Array.getElem?_eq_getElem hmo]
        exact List.mem_map.2 ⟨e, List.mem_filter.2 ⟨by simpa using he, hb⟩, rfl⟩)
      have := hm2 _ this
      simpa using this
    have e1 : f + 1 + m1 = (f + m1) + 1 := by omega
    rw [e1]
    refine ⟨fun h0 => absurd (h0 ▸ hready) (by simp), fun j hj => ?_⟩
    obtain ⟨hju, oj, hoj, hall⟩ := mem_ready.1 hj
    have hjs : j < ops.size := (Array.getElem?_eq_some_iff.1 hoj).1
    have hp : ∀ k ∈ predsOf md ops j, listed.getD k false = true := fun k hk => by
      unfold predsOf at hk
      rw [hoj] at hk
      obtain ⟨e, he, rfl⟩ := List.mem_map.1 hk
      obtain ⟨he1, he2⟩ := List.mem_filter.1 he
      exact hall e (by simpa using he1) he2
    have hcl : ∀ i, listed.getD i false = true → ∀ k ∈ predsOf md ops i, listed.getD k false = true := fun i hi k hk => by
      unfold predsOf at hk
      cases hoi : ops[i]? with
      | none => rw [hoi] at hk; cases hk
      | some oi =>
        rw [hoi] at hk
        obtain ⟨e, he, rfl⟩ := List.mem_map.1 hk
        obtain ⟨he1, he2⟩ := List.mem_filter.1 he
        exact inv.closed i oi hoi hi e (by simpa using he1) he2
    have hjn : j < n := by
      rcases Nat.lt_or_ge j n with h | h
      · exact h
      · cases hz : Z j
        · have := upset_in hcl _ _ hp m (hwait j h hjs hz m hmn)
          rw [getD_both hun] at this
          cases this
        · have h1 := inv.zin j h hjs hz
          have hjl : j < listed.size := by rw [inv.size]; exact hjs
          simp [hjl] at h1 hju
          rw [h1] at hju
          cases hju
    have hdep : ∀ k, depB md ops j k = true → listed.getD k false = true := fun k hk => by
      unfold depB at hk
      exact upset_in hcl _ _ hp k (by simpa using hk)
    have hset : (fun k => (listed.setIfInBounds j true).getD k false) = ins (fun k => listed.getD k false) j := by
      funext k
      unfold ins
      by_cases e : k = j
      · subst e
        have : k < listed.size := by rw [inv.size]; exact hjs
        simp [this]
      · rw [getD_set_ne false (Ne.symm e)]
        simp [e]
    have hjf : listed.getD j false = false := getD_both hju
    refine wpOp_mono (fun a' w' ⟨u, he, hB', hres⟩ => ?_) (Res.step (Qx := Qx) y g hjn hoj hjf hp hdep hpt (by omega) hB hl hn h)
    subst he
    have hpt' := hpt.put (u := u) g.one hjn hjf hoj
    rw [← hset] at hres hpt'
    refine ih _ _ (mr + 1) _ _ ?_ (inv.set hj hjn) hpt' (by omega) hB' hres
    have := count_off n (fun k => !listed.getD k false) j hjn (by simpa using hjf)
    rw [hc] at this
    have e3 : (List.range n).countP (fun k => !(listed.setIfInBounds j true).getD k false) = (List.range n).countP (fun k => (!listed.getD k false) && k != j) := List.countP_congr fun k _ => by
      have := congrFun hset k
      simp only [ins] at this
      rw [this]
      by_cases e : k = j <;> simp [e]
    omega

theorem Res.fresh {val val' : Nat → Value} {wr w1 : World} : ∀ (l : List Oper) (i : Nat) (Γ : List (Nat × (World → Prop))) (a : Act), Res P md ops S I M sp (fun _ => false) val wr Q l i Γ a → Res P md ops S I M sp (fun _ => false) val' w1 Q l i Γ a := by
  intro l
  induction l with
  | nil => intro i Γ a h; exact h
  | cons o rest ih =>
    intro i Γ a h
    unfold Res at h ⊢
    split
    · rename_i hw
      rw [if_pos hw] at h
      rcases h with ⟨v, h1, h2, h3⟩ | ⟨Z, hs, h1, h2, h3⟩ | ⟨hs, h1, h2, h3⟩
      · exact .inl ⟨v, h1, (fun h => by cases h), ih _ _ _ h3⟩
      · exact .inr (.inl ⟨Z, hs, h1, (fun h => by cases h), fun u _ hu' => ih _ _ _ (h3 u (fun h => by cases h) hu')⟩)
      · exact .inr (.inr ⟨hs, h1, (fun h => by cases h), fun u _ hu' => ih _ _ _ (h3 u (fun h => by cases h) hu')⟩)
    · rename_i hw
      rw [if_neg hw] at h
      exact ⟨(fun h => by cases h), ih _ _ _ h.2⟩
end

/-- The walk that a prover makes: nothing has been carried out yet. -/
abbrev wpGrow (P : Program) (ops : Array Oper) (S : World → World → Prop) (I : Nat → World → Prop) (M : Nat) (w0 : World) (sp : Nat → Value → World → Prop) (Q : List (Nat × (World → Prop)) → Act → Prop) (l : List Oper) (i : Nat) (Γ : List (Nat × (World → Prop))) (a : Act) : Prop :=
  Res P .any ops S I M sp (fun _ => false) (fun _ => undef) w0 Q l i Γ a

def seqT (md : Region.Mode) (ops : Array Oper) : List Nat → Array Bool → Bool
  | [], listed => (Region.ready md ops listed).isEmpty
  | k :: τ, listed => decide (Region.ready md ops listed = [k]) && seqT md ops τ (listed.setIfInBounds k true)
theorem wpAny_of_seqT {P : Program} {md : Region.Mode} {ops : Array Oper} {Q' : Exit → Act → World → Prop} : ∀ (τ : List Nat) (listed : Array Bool) (a : Act) (w : World), (∀ k ∈ τ, k < ops.size) →
    seqT md ops τ listed = true → wpList P ops Q' (τ.filterMap (ops[·]?)) a w → wpAny P md ops Q' τ.length listed a w
  | [], _, _, _, _, hB, h => ⟨by simpa [seqT] using hB, h⟩
  | k :: τ, listed, a, w, hl, hB, h => by
    have hk : k < ops.size := hl k List.mem_cons_self
    have h0 : ops[k]? = some ops[k] := Array.getElem?_eq_getElem hk
    simp only [seqT, Bool.and_eq_true, decide_eq_true_eq] at hB
    rw [List.filterMap_cons, h0] at h
    refine ⟨fun h1 => (by rw [hB.1] at h1; cases h1), fun i hi => ?_⟩
    rw [hB.1] at hi
    have hik : i = k := by simpa using hi
    subst hik
    have hw : wpOp P ops Q' i (wpList P ops Q' (τ.filterMap (ops[·]?))) a w := by unfold wpOp; simp only [h0]; exact h
    exact wpOp_mono (fun a' w' h' => wpAny_of_seqT τ _ a' w' (fun k hk => hl k (List.mem_cons_of_mem _ hk)) hB.2 h') hw

def okB (md : Region.Mode) (ops : Array Oper) (n : Nat) : Bool :=
  Region.noSelect ops && decide (n ≤ ops.size) &&
  (List.range n).all fun j => (predsOf md ops j).all (fun k => decide (k < j)) && (List.range n).all fun k =>
    match dstOf ops k with
    | none => true
    | some t => (k == j || dstOf ops j != some t) && (!(looksOf ops j).contains t || (predsOf md ops j).contains k)
theorem okB_ok {md : Region.Mode} {ops : Array Oper} {n : Nat} (h : okB md ops n = true) : Ok md ops n := by
  unfold okB at h
  simp only [Bool.and_eq_true, decide_eq_true_eq] at h
  obtain ⟨⟨h1, h2⟩, h4⟩ := h
  have key : ∀ j, j < n → _ := fun j hj => List.all_eq_true.1 h4 j (List.mem_range.2 hj)
  simp only [Bool.and_eq_true] at key
  refine ⟨h1, h2, fun j hj k hk => by simpa using List.all_eq_true.1 (key j hj).1 k hk, fun i k t hi hk hdi hdk => ?_, fun j k t hj hk hd ht => ?_⟩
  · have := List.all_eq_true.1 (key i hi).2 k (List.mem_range.2 hk)
    simp only [hdk, hdi, Bool.and_eq_true, Bool.or_eq_true, beq_iff_eq, bne_self_eq_false, Bool.false_eq_true, or_false] at this
    exact this.1.symm
  · have := List.all_eq_true.1 (key j hj).2 k (List.mem_range.2 hk)
    simp only [hd, Bool.and_eq_true, Bool.or_eq_true] at this
    rcases this.2 with h | h
    · simp [ht] at h
    · simpa using h
def waitB (md : Region.Mode) (ops : Array Oper) (n : Nat) (Z : Nat → Bool) : Bool :=
  (List.range ops.size).all fun t => decide (t < n) || Z t || (List.range n).all fun i => (needs md ops t).contains i
theorem waitB_ok {md : Region.Mode} {ops : Array Oper} {n : Nat} {Z : Nat → Bool} (h : waitB md ops n Z = true) : ∀ t, n ≤ t → t < ops.size → Z t = false → ∀ i, i < n → i ∈ needs md ops t := fun t h1 h2 hz i hi => by
  have := List.all_eq_true.1 h t (List.mem_range.2 h2)
  have h3 : ¬ t < n := by omega
  simp only [hz, h3, decide_false, Bool.false_or] at this
  simpa using List.all_eq_true.1 this i (List.mem_range.2 hi)
/-- No operation is taken ahead; those behind the first n come in the order τ. -/
def growTB (md : Region.Mode) (ops : Array Oper) (n : Nat) (τ : List Nat) : Bool :=
  okB md ops n && waitB md ops n (fun _ => false) && seqT md ops τ (canonZ ops n fun _ => false) && decide (n + τ.length = ops.size) && τ.all fun k => decide (k < ops.size)
theorem wp_region {P : Program} {id : Nat} {Qx : Exit → Act → World → Prop} {a : Act} {w : World} {l : List Oper} (n : Nat) (τ : List Nat) (M : Nat) (S : World → World → Prop) (I : Nat → World → Prop) (sp : Nat → Value → World → Prop) (hm : P.follows .mixedOrders = true) (hg : growTB .any l.toArray n τ = true)
    (y : Way S I) (hM : 2 * n ≤ M) (hC : I 0 w.drew)
    (h : wpGrow P l.toArray S I M w sp (fun Γ a' => ∀ w', I n w' → (∀ p ∈ Γ, p.2 w') → wpList P l.toArray Qx (τ.filterMap (l[·]?)) a' w') (l.take n) 0 [] a) : (Code.region id l.toArray true).wp P Qx a w := by
  unfold growTB at hg
  simp only [Bool.and_eq_true, decide_eq_true_eq] at hg
  obtain ⟨⟨⟨⟨g1, g2⟩, g3⟩, g4⟩, g5⟩ := hg
  have g := okB_ok g1
  have hsz : n ≤ l.length := by simpa using g.size
  have htl : (l.take n).length = n := by simp; omega
  have hrep : (fun k => (Array.replicate l.toArray.size false).getD k false) = fun _ => false := funext fun k => getD_replicate_false _ _
  have key0 : ∀ L a w, wpAny P .any l.toArray Qx (n + τ.length) L a w → wpAny P .any l.toArray Qx l.toArray.size L a w := fun _ _ _ h => by rwa [← g4]
  refine wp_region_any hm (key0 _ _ _ ?_)
  refine grow_any (Qx := Qx) (P := P) (sp := sp) (S := S) (I := I) (M := M) (a0 := a) (l := l.take n) (Z := fun _ => false) (m1 := τ.length) (Q := fun Γ a' => ∀ w', I n w' → (∀ p ∈ Γ, p.2 w') → wpList P l.toArray Qx (τ.filterMap (l[·]?)) a' w') y g hM (waitB_ok g2) (fun m hm' => by rw [htl] at hm'; simp [hm']) htl (fun Γ a' w' hq hb hf =>
    wpAny_of_seqT τ _ a' w' (fun k hk => of_decide_eq_true (List.all_eq_true.1 g5 k hk)) g3 (by simpa using hq w' hb hf)) n _ a 0 { w with drawn := w.drawn + 1 } (fun _ => undef) ?_ ?_ ?_ (by omega) (show I 0 w.drew from hC) ?_
  · rw [List.countP_eq_length.2 (fun k _ => by rw [getD_replicate_false]; rfl)]; simp
  · exact ⟨by simp, fun j oj _ hl => (by rw [getD_replicate_false] at hl; cases hl), fun t _ ht _ => getD_in (by simpa using ht) (getD_replicate_false _ _), fun t _ _ hz => by cases hz⟩
  · rw [hrep]; exact ⟨rfl, fun k t _ hS => by simp at hS, fun _ _ => rfl⟩
  · rw [hrep]
    exact Res.fresh _ _ _ _ h

/-- Every world of a kind, as a family (what is not so is replaced by w1). -/
noncomputable def FamI (J : World → Prop) (w1 x : World) : World := open Classical in if J x then x else w1
theorem FamI.is {J : World → Prop} {w1 : World} (h : J w1) (x : World) : J (FamI J w1 x) := by
  unfold FamI
  split
  · assumption
  · exact h
theorem FamI.of {J : World → Prop} {w w1 : World} (h : J w) : ∃ x, w = FamI J w1 x := ⟨w, by unfold FamI; rw [if_pos h]⟩

/-- Some m below M. -/
def Upto (I : Nat → World → Prop) (M : Nat) (w : World) : Prop := ∃ m, m < M ∧ I m w

section
variable {P : Program} {ops : Array Oper} {M : Nat} {S : World → World → Prop} {I : Nat → World → Prop} {sp : Nat → Value → World → Prop} {w0 w1 : World}
variable {Q : List (Nat × (World → Prop)) → Act → Prop} {o : Oper} {rest : List Oper} {i : Nat} {Γ : List (Nat × (World → Prop))} {a : Act}
theorem grow_nil (h : Q Γ a) : wpGrow P ops S I M w0 sp Q [] i Γ a := h
theorem grow_quiet (w1 : World) (hw : Region.wanted o (yielded ops a.tmps) = true) (hf : fnOp o = true)
    (h : ∀ K : Act → Prop, (∀ a, wpGrow P ops S I M w0 sp Q rest (i + 1) Γ a → K a) → o.quiet P a (fun w => ∃ x, w = FamI (Upto I M) w1 x) K) : wpGrow P ops S I M w0 sp Q (o :: rest) i Γ a := by
  obtain ⟨v, h1, h2⟩ := h _ fun _ h => h
  unfold wpGrow Res
  rw [if_pos hw]
  refine .inl ⟨v, fun m w hm hb => ?_, (fun h => by cases h), h2⟩
  have hq := h1 w (FamI.of ⟨m, hm, hb⟩)
  unfold Oper.quietAt at hq
  cases hr : (execOp a.eval o).run P w with
  | ok x w' =>
    rw [hr] at hq
    cases x <;> simp only [Oper.quietUpon] at hq
    case value u => exact ⟨hq.2, hq.1⟩
    case skip => exact ⟨hq.2.symm, hq.1⟩
    case enter f args => exact absurd hr (fnOp_run hf _ _ _ _ _)
  | halt x w' => rw [hr] at hq; exact hq.elim

/-- An operation that makes a block: its value hangs on the block's number alone. -/
theorem grow_new {K : Nat → Prop} (hw : Region.wanted o (yielded ops a.tmps) = true) (B : Nat) (mk : Nat → Value) (T : TypeId) (cs : Array Value) (hrun : ∀ w, (execOp a.eval o).run P w = .ok (.value (mk w.heap.size)) (w.alloc (.cells cs T)))
    (hS : S = KeepB K) (hI : ∀ m w o, I m w → I (m + 1) (w.alloc o)) (hB : ∀ m w, I m w → B ≤ w.heap.size) (hK : ∀ k, K k → k < B)
    (h : ∀ b, B ≤ b → wpGrow P ops S I M w0 sp Q rest (i + 1) ((i, fun w' => ∃ b', mk b = mk b' ∧ B ≤ b' ∧ w'.heap[b']? = some (.cells cs T (0, 0))) :: Γ) (a.put o.dst (mk b))) : wpGrow P ops S I M w0 sp Q (o :: rest) i Γ a := by
  subst hS
  unfold wpGrow Res
  rw [if_pos hw]
  refine .inr (.inl ⟨fun u w' => ∃ b', u = mk b' ∧ B ≤ b' ∧ w'.heap[b']? = some (.cells cs T (0, 0)), fun u w w' hb ⟨b', h1, h2, h3⟩ => ⟨b', h1, h2, ?_⟩, fun m w hm hb _ => ?_, (fun h => by cases h), fun u _ hu => ?_⟩)
  · rw [hb.block b' (by
      rcases Nat.lt_or_ge b' w.heap.size with h | h
      · exact h
      · rw [Array.getElem?_eq_none h] at h3; cases h3) (fun hk => by have := hK _ hk; omega), h3]
  · rw [hrun]
    exact ⟨⟨(KeepB.refl _ _).alloc _, hI _ _ _ hb⟩, w.heap.size, rfl, hB _ _ hb, heap_alloc_new w _⟩
  · obtain ⟨_, w', _, b', rfl, h2, _⟩ := hu rfl
    exact h b' h2

/-- A call of a Go function. -/
theorem grow_call (hw : Region.wanted o (yielded ops a.tmps) = true) (hs : ∀ u, Steady S (sp i u))
    (hc : ∀ m w, m < M → I m w → FactsAt .any ops i Γ w → callUpon P w (fun e w' => ∃ u, e = .returned u ∧ (S w w' ∧ I (m + 1) w') ∧ sp i u w') ((execOp a.eval o).run P w))
    (h : ∀ u, (∃ m w', I m w' ∧ sp i u w') → wpGrow P ops S I M w0 sp Q rest (i + 1) ((i, sp i u) :: Γ) (a.put o.dst u)) : wpGrow P ops S I M w0 sp Q (o :: rest) i Γ a := by
  unfold wpGrow Res
  rw [if_pos hw]
  exact .inr (.inr ⟨hs, hc, (fun h => by cases h), fun u _ hu => h u (hu rfl)⟩)
/-- A call of a Go function whose value is known. -/
theorem grow_val (v : Value) (hw : Region.wanted o (yielded ops a.tmps) = true) (hsp : sp i = fun u _ => u = v)
    (hc : ∀ m w, m < M → I m w → FactsAt .any ops i Γ w → callUpon P w (fun e w' => e = .returned v ∧ S w w' ∧ I (m + 1) w') ((execOp a.eval o).run P w))
    (h : wpGrow P ops S I M w0 sp Q rest (i + 1) ((i, fun _ => v = v) :: Γ) (a.put o.dst v)) : wpGrow P ops S I M w0 sp Q (o :: rest) i Γ a := by
  refine grow_call hw (fun u => by rw [hsp]; exact fun _ _ _ h => h) (fun m w hm hb hf => ?_) fun u ⟨_, w', _, hu⟩ => ?_
  · have hx := hc m w hm hb hf
    generalize (execOp a.eval o).run P w = r at hx ⊢
    cases r with
    | ok x w' =>
      cases x <;> simp only [callUpon] at hx ⊢
      exact ⟨hx.1, hx.2.mono fun e w'' ⟨he, hb⟩ => ⟨v, he, hb, by rw [hsp]⟩⟩
    | halt x w' => exact hx.elim
  · rw [hsp] at hu
    subst hu
    rw [hsp]
    exact h
end
/-- Worlds that are as w0 but for what has been made since. -/
def BI (w0 : World) : Nat → World → Prop := fun _ w => Below w0.heap.size w0 w
theorem BI.way (w0 : World) : Way (KeepB fun _ => False) (BI w0) := ⟨fun w => KeepB.refl _ w, fun _ _ _ h k => h.trans k, fun _ _ h => h⟩
theorem BI.fam (w0 x : World) : Below w0.heap.size w0 (FamI (Upto (BI w0) 200) w0 x) := by
  obtain ⟨_, _, h⟩ := FamI.is (J := Upto (BI w0) 200) (w1 := w0) ⟨0, by omega, Below.refl _ _⟩ x
  exact h
theorem BI.cell {w0 : World} {b o : Nat} {v : Value} (h : w0.cell? ⟨b, o, none⟩ = some v) (x : World) : (FamI (Upto (BI w0) 200) w0 x).cell? ⟨b, o, none⟩ = some v := by
  rw [(BI.fam w0 x).cell (World.block_lt_of_cell? _ _ h)]
  exact h
theorem BI.after {w0 w w' : World} {m : Nat} (h : BI w0 m w) (hb : Below w.heap.size w w') : KeepB (fun _ => False) w w' ∧ BI w0 (m + 1) w' := ⟨KeepB.of_below hb, h.trans (hb.mono h.size)⟩
theorem BI.alloc {w0 w : World} {m : Nat} (o : Obj) (h : BI w0 m w) : BI w0 (m + 1) (w.alloc o) := (h.after ((Below.refl _ _).alloc (Nat.le_refl _) _)).2
theorem BI.size {w0 w : World} {m : Nat} (h : BI w0 m w) : w0.heap.size ≤ w.heap.size := Below.size h
end GK
end AG

/- The two tables of math/bits that the cards list: what a walk reads of them, and a world that holds them. -/
namespace Go.Proofs.YtjhlbeamfngebaaDoor
open Go.ChangeShapes Go.WideShapes Go.ChangeAt Go.RowKit AG

theorem g64 : Tryd.prog.globalNamed "math/bits.deBruijn64tab" = some 1 := by kernel_rfl
theorem g64Type : (Tryd.prog.globals[1]?).map (·.type) = some 198 := by kernel_rfl
theorem g64Under : Tryd.prog.underlying 198 = some (.array 64 5) := by kernel_rfl
theorem u8Under : Tryd.prog.underlying 5 = some (.int .u8) := by kernel_rfl
theorem u8Cells : Tryd.prog.cellsOf 5 = 1 := by kernel_rfl
theorem g64Cells : Tryd.prog.cellsOf 198 = 64 := by kernel_rfl

theorem tab_of_laid {W : World} (h : laidMetH Tryd.prog [("math/bits.deBruijn32tab", Rows.laid_math_bits_deBruijn32tab), ("math/bits.deBruijn64tab", Rows.laid_math_bits_deBruijn64tab)] W) : Tab W := by
  have h1 : laidMet Tryd.prog [("math/bits.deBruijn32tab", Rows.laid_math_bits_deBruijn32tab), ("math/bits.deBruijn64tab", Rows.laid_math_bits_deBruijn64tab)] W := h
  have h2 : laidMet Tryd.prog (("math/bits.deBruijn64tab", Lib.tabData .u8 (Lib.deBruijn64tab.map Int.ofNat)) :: []) W := laidMet.tail h1
  have h3 := Lib.tabIs_of_head g64 g64Type g64Under u8Under u8Cells g64Cells h2
  intro j hj
  rw [h3.cell g64 j (by simpa using hj)]
  simp [List.getD, hj]

def layTab (zs : List Nat) : Obj → Obj
  | .cells _ t frozen => .cells (zs.map fun n => Value.int .u8 (Int.ofNat n)).toArray t frozen
  | o => o

/-- A world for the witness: the settled one, the two tables holding what their initialisers lay. -/
noncomputable def laidWorld (os : Os) : World :=
  { World.holding Tryd.prog os ⟨#[], #[], []⟩ with heap := ((World.holding Tryd.prog os ⟨#[], #[], []⟩).heap.modify 0 (layTab Lib.deBruijn32tab)).modify 1 (layTab Lib.deBruijn64tab) }

end Go.Proofs.YtjhlbeamfngebaaDoor

/- The reference's l5Order. -/
namespace Go.Proofs.YtjhlbeamfngebaaDoor
open Go.RowKit Go.BigFrame Go.Maps AG

/-- A list of numbers under way. -/
structure OrdSt (w0 wr : World) (v : Value) (ns : List Nat) : Prop where
  below : Below w0.heap.size w0 wr
  own : wr.ownsRow w0.heap.size 3 1 v ns.length (natVals ns)
theorem OrdSt.later {w0 wr w' : World} {v : Value} {ns : List Nat} (h : OrdSt w0 wr v ns) (hb : Below wr.heap.size wr w') : OrdSt w0 w' v ns := ⟨h.below.trans (hb.mono h.below.size), own_later_ h.own hb⟩
theorem OrdSt.app {w0 wr w1 : World} {v v' : Value} {ns : List Nat} {o : Obj} {x : Nat} (h : OrdSt w0 wr v ns) (hg : (wr.alloc o).grownBy w1 v.ownBlock)
    (ho : w1.ownsRow w0.heap.size 3 1 v' (ns.length + 1) (natVals ns ++ [.int .i64 (x : Nat)])) : OrdSt w0 w1 v' (ns ++ [x]) := by
  have hkA : KeepB (fun b => v.ownBlock = some b) wr w1 := ((KeepB.refl _ wr).alloc o).grown hg fun k hk _ => hk
  refine ⟨hkA.below h.below h.below.size fun b e => own_block h.own b e, ?_⟩
  rw [List.length_append]
  unfold natVals at ho ⊢
  simpa using ho
theorem OrdSt.new (w0 : World) (x : Nat) : OrdSt w0 (w0.alloc (.cells #[.int .i64 (x : Nat)] 3)) (.slice (some ⟨w0.heap.size, 0, none⟩) 1 1) [x] :=
  ⟨(Below.refl _ _).alloc (Nat.le_refl _) _, ⟨rfl, .inr ⟨w0.heap.size, 1, #[.int .i64 (x : Nat)], rfl, Nat.le_refl _, heap_alloc_self _ _, Nat.le_refl _, by unfold maxLen; omega, rfl, rfl⟩⟩⟩
theorem OrdSt.new0 (w0 : World) : OrdSt w0 (w0.alloc (.cells #[] 3)) (.slice (some ⟨w0.heap.size, 0, none⟩) 0 0) [] :=
  ⟨(Below.refl _ _).alloc (Nat.le_refl _) _, ⟨rfl, .inr ⟨w0.heap.size, 0, #[], rfl, Nat.le_refl _, heap_alloc_self _ _, Nat.le_refl _, Nat.zero_le _, rfl, rfl⟩⟩⟩

end Go.Proofs.YtjhlbeamfngebaaDoor

/- Plain: the states together to which a letter leads some systems that run together. -/
namespace AG

/-- The states to which a letter leads one system. -/
noncomputable def stepQ (s : Sy) (node l : Nat) : List Nat := if HasZ s.al (l : Int) = true then memL (mv s (node % s.st.toNat) l) else [node % s.st.toNat]
def joinN (qs re : List Nat) (wt : Nat) : List Nat := qs.flatMap fun q => re.map fun r => q * wt + r
structure PSt where
  re : List Nat
  wt : Nat
  nd : Nat
noncomputable def pstep (s : Sy) (l : Nat) (x : PSt) : PSt := ⟨joinN (stepQ s x.nd l) x.re x.wt, x.wt * s.st.toNat, x.nd / s.st.toNat⟩
/-- The last k systems are gone through. -/
noncomputable def pst (ss : List Sy) (l node : Nat) : Nat → PSt
  | 0 => ⟨[0], 1, node⟩
  | k + 1 => match ss[ss.length - 1 - k]? with
    | some s => pstep s l (pst ss l node k)
    | none => pst ss l node k
noncomputable def nxParts (ss : List Sy) (node l : Nat) : List Nat := (pst ss l node ss.length).re
theorem pst_succ {ss : List Sy} {l node k i : Nat} (hk : k < ss.length) (hi : i + k + 1 = ss.length) : ∃ h : i < ss.length, pst ss l node (k + 1) = pstep ss[i] l (pst ss l node k) := by
  refine ⟨by omega, ?_⟩
  rw [pst, show ss.length - 1 - k = i from by omega, List.getElem?_eq_getElem (by omega)]

theorem stepQ_lt {s : Sy} (hs : sysOk s = true) (node l : Nat) : ∀ q ∈ stepQ s node l, q < s.st.toNat := by
  have hst := sysOk_st hs
  intro q hq
  unfold stepQ at hq
  split at hq
  · obtain ⟨_, hb⟩ := memL_mem.1 hq
    exact testBit_lt (mv_small (sysOk_in hs) _ _) hb
  · rw [List.mem_singleton.1 hq]
    exact Nat.mod_lt _ (by omega)
theorem stepQ_len {s : Sy} (node l : Nat) : (stepQ s node l).length ≤ 16 := by
  unfold stepQ
  split
  · exact memL_len _
  · simp
theorem joinN_len (qs re : List Nat) (wt : Nat) : (joinN qs re wt).length = qs.length * re.length := by
  unfold joinN
  induction qs with
  | nil => simp
  | cons q qs ih => rw [List.flatMap_cons, List.length_append, ih, List.length_map, List.length_cons, Nat.add_mul]; omega
theorem joinN_take {qs re : List Nat} {wt j : Nat} (hj : j < qs.length) : joinN (qs.take (j + 1)) re wt = joinN (qs.take j) re wt ++ re.map fun r => qs[j] * wt + r := by
  unfold joinN
  rw [List.take_succ_eq_append_getElem hj, List.flatMap_append]
  simp
theorem map_take {re : List Nat} {f : Nat → Nat} {k : Nat} (hk : k < re.length) : (re.take (k + 1)).map f = (re.take k).map f ++ [f re[k]] := by
  rw [List.take_succ_eq_append_getElem hk, List.map_append]
  rfl
/-- How great the numbers get. -/
theorem pst_ok {ss : List Sy} (hall : ss.all sysOk = true) (l node : Nat) : ∀ k, k ≤ ss.length → (pst ss l node k).wt ≤ 16 ^ k ∧ (pst ss l node k).nd ≤ node ∧ (pst ss l node k).re.length ≤ 16 ^ k ∧ ∀ r ∈ (pst ss l node k).re, r < (pst ss l node k).wt
  | 0, _ => by simp [pst]
  | k + 1, hk => by
    obtain ⟨h1, h2, h3, h4⟩ := pst_ok hall l node k (by omega)
    obtain ⟨hi, e⟩ := pst_succ (ss := ss) (l := l) (node := node) (k := k) (i := ss.length - 1 - k) (by omega) (by omega)
    have hs : sysOk ss[ss.length - 1 - k] = true := List.all_eq_true.1 hall _ (List.getElem_mem _)
    have hst := sysOk_st hs
    rw [e]
    generalize ss[ss.length - 1 - k] = s at *
    generalize pst ss l node k = x at *
    have hn : s.st.toNat ≤ 16 := by omega
    unfold pstep
    simp only
    refine ⟨?_, Nat.le_trans (Nat.div_le_self _ _) h2, ?_, ?_⟩
    · rw [Nat.pow_succ]; exact Nat.mul_le_mul h1 hn
    · rw [joinN_len, Nat.pow_succ, Nat.mul_comm]
      exact Nat.mul_le_mul h3 (stepQ_len _ _)
    · intro r hr
      unfold joinN at hr
      obtain ⟨q, hq, hr⟩ := List.mem_flatMap.1 hr
      obtain ⟨p, hp, rfl⟩ := List.mem_map.1 hr
      have hq2 := stepQ_lt hs _ _ q hq
      have hp2 := h4 p hp
      have : (q + 1) * x.wt ≤ s.st.toNat * x.wt := Nat.mul_le_mul_right _ hq2
      rw [Nat.add_mul] at this
      rw [Nat.mul_comm x.wt]
      omega

end AG

/- Plain: the reference's search for a first word: distances from the goals, then forward. -/
namespace Go.Proofs.YtjhlbeamfngebaaDoor
open AG

section
variable (L : List Nat) (nx : Nat → Nat → List Nat) (fd : Nat → Bool)
/-- Next to a node at a distance. -/
def nearB (f : Nat → Option Nat) (d n : Nat) : Bool := L.any fun l => (nx n l).any fun m => decide (f m = some d)
/-- The distances up to d. -/
def lay : Nat → Nat → Option Nat
  | 0, n => if fd n = true then some 0 else none
  | d + 1, n => match lay d n with
    | some e => some e
    | none => if nearB L nx (lay d) d n = true then some (d + 1) else none
end
section
variable {L : List Nat} {nx : Nat → Nat → List Nat} {fd : Nat → Bool} {N D s : Nat}
theorem near_iff {f : Nat → Option Nat} {d n : Nat} : nearB L nx f d n = true ↔ ∃ l ∈ L, ∃ m ∈ nx n l, f m = some d := by
  unfold nearB
  rw [List.any_eq_true]
  constructor
  · rintro ⟨l, hl, h⟩
    obtain ⟨m, hm, h⟩ := List.any_eq_true.1 h
    exact ⟨l, hl, m, hm, by simpa using h⟩
  · rintro ⟨l, hl, m, hm, h⟩
    exact ⟨l, hl, List.any_eq_true.2 ⟨m, hm, by simpa using h⟩⟩
theorem lay_succ (d n : Nat) : lay L nx fd (d + 1) n = match lay L nx fd d n with
    | some e => some e
    | none => if nearB L nx (lay L nx fd d) d n = true then some (d + 1) else none := rfl
theorem lay_le : ∀ {d n e : Nat}, lay L nx fd d n = some e → e ≤ d
  | 0, n, e, h => by
    unfold lay at h
    split at h
    · injection h with h; omega
    · cases h
  | d + 1, n, e, h => by
    rw [lay_succ] at h
    cases h1 : lay L nx fd d n with
    | some e' =>
      rw [h1] at h
      injection h with h
      have := lay_le h1
      omega
    | none =>
      rw [h1] at h
      dsimp only at h
      split at h
      · injection h with h; omega
      · cases h
theorem lay_up {d n e : Nat} (h : lay L nx fd d n = some e) : lay L nx fd (d + 1) n = some e := by rw [lay_succ, h]
theorem lay_mono {d n e : Nat} (h : lay L nx fd d n = some e) : ∀ k, lay L nx fd (d + k) n = some e
  | 0 => h
  | k + 1 => lay_up (lay_mono h k)
theorem lay_mono' {d d' n e : Nat} (h : lay L nx fd d n = some e) (hd : d ≤ d') : lay L nx fd d' n = some e := by
  have := lay_mono h (d' - d)
  rwa [show d + (d' - d) = d' from by omega] at this
theorem lay_at : ∀ {d n e : Nat}, lay L nx fd d n = some e → lay L nx fd e n = some e
  | 0, n, e, h => by
    have := lay_le h
    obtain rfl : e = 0 := by omega
    exact h
  | d + 1, n, e, h => by
    cases h1 : lay L nx fd d n with
    | some e' =>
      rw [lay_up h1] at h
      injection h with h
      subst h
      exact lay_at h1
    | none =>
      have h0 := h
      rw [lay_succ, h1] at h
      dsimp only at h
      split at h
      · injection h with h
        subst h
        exact h0
      · cases h
theorem lay_zero {d n : Nat} : lay L nx fd d n = some 0 ↔ fd n = true := by
  constructor
  · intro h
    have := lay_at h
    unfold lay at this
    split at this
    · assumption
    · cases this
  · intro h
    have : lay L nx fd 0 n = some 0 := by unfold lay; rw [if_pos h]
    exact lay_mono' this (Nat.zero_le _)
theorem lay_new {d n : Nat} (h : lay L nx fd d n = none) (hn : ∃ l ∈ L, ∃ m ∈ nx n l, lay L nx fd d m = some d) : lay L nx fd (d + 1) n = some (d + 1) := by
  rw [lay_succ, h]
  dsimp only
  rw [if_pos (near_iff.2 hn)]
theorem lay_step {d n e : Nat} (h : lay L nx fd d n = some (e + 1)) : ∃ l ∈ L, ∃ m ∈ nx n l, lay L nx fd d m = some e := by
  have hd := lay_le h
  have h1 := lay_at h
  cases h2 : lay L nx fd e n with
  | some e' =>
    rw [lay_up h2] at h1
    injection h1 with h1
    have := lay_le h2
    omega
  | none =>
    rw [lay_succ, h2] at h1
    dsimp only at h1
    split at h1
    · rename_i hn
      obtain ⟨l, hl, m, hm, h3⟩ := near_iff.1 hn
      exact ⟨l, hl, m, hm, lay_mono' h3 (by omega)⟩
    · cases h1
/-- The distances do not change any more. -/
def Still (L : List Nat) (nx : Nat → Nat → List Nat) (fd : Nat → Bool) (N D : Nat) : Prop := ∀ n, n < N → lay L nx fd (D + 1) n = lay L nx fd D n
theorem lay_back (hs : Still L nx fd N D) {n l m e : Nat} (hn : n < N) (hl : l ∈ L) (hm : m ∈ nx n l) (h : lay L nx fd D m = some e) : ∃ e', e' ≤ e + 1 ∧ lay L nx fd D n = some e' := by
  have he := lay_le h
  cases h2 : lay L nx fd e n with
  | some e' => exact ⟨e', by have := lay_le h2; omega, lay_mono' h2 he⟩
  | none =>
    have h3 := lay_new h2 ⟨l, hl, m, hm, lay_at h⟩
    rcases Nat.lt_or_ge e D with hlt | hge
    · exact ⟨e + 1, Nat.le_refl _, lay_mono' h3 hlt⟩
    · obtain rfl : e = D := by omega
      rw [hs n hn] at h3
      exact ⟨_, Nat.le_refl _, h3⟩
theorem RW_lt (hN : ∀ n, n < N → ∀ l ∈ L, ∀ m ∈ nx n l, m < N) (hs : s < N) : ∀ {q : List Nat} {n : Nat}, RW (fun m => m ∈ [s]) L nx q n → n < N
  | [], n, h => by
    change n ∈ [s] at h
    rw [List.mem_singleton.1 h]
    exact hs
  | l :: q, n, h => by
    obtain ⟨hl, m, hm, hn⟩ := h
    exact hN m (RW_lt hN hs hm) l hl n hn
theorem lay_from (hst : Still L nx fd N D) (hN : ∀ n, n < N → ∀ l ∈ L, ∀ m ∈ nx n l, m < N) (hs : s < N) : ∀ {q : List Nat} {n e : Nat}, RW (fun m => m ∈ [s]) L nx q n → lay L nx fd D n = some e → ∃ e', e' ≤ q.length + e ∧ lay L nx fd D s = some e'
  | [], n, e, h, h1 => by
    change n ∈ [s] at h
    rw [List.mem_singleton.1 h] at h1
    exact ⟨e, by simp, h1⟩
  | l :: q, n, e, h, h1 => by
    obtain ⟨hl, m, hm, hn⟩ := h
    obtain ⟨e1, h2, h3⟩ := lay_back hst (RW_lt hN hs hm) hl hn h1
    obtain ⟨e2, h4, h5⟩ := lay_from hst hN hs hm h3
    exact ⟨e2, by rw [List.length_cons]; omega, h5⟩
/-- The nodes at a distance to which a letter leads from some nodes. -/
def clo (L : List Nat) (nx : Nat → Nat → List Nat) (fd : Nat → Bool) (D : Nat) (at_ : List Nat) (l d : Nat) : List Nat := dd ((at_.flatMap fun n => nx n l).filter fun m => decide (lay L nx fd D m = some d))
theorem clo_mem {at_ : List Nat} {l d m : Nat} : m ∈ clo L nx fd D at_ l d ↔ ∃ n ∈ at_, m ∈ nx n l ∧ lay L nx fd D m = some d := by
  unfold clo
  rw [dd_mem, List.mem_filter, List.mem_flatMap, decide_eq_true_iff]
  constructor
  · rintro ⟨⟨n, h1, h2⟩, h3⟩
    exact ⟨n, h1, h2, h3⟩
  · rintro ⟨n, h1, h2, h3⟩
    exact ⟨⟨n, h1, h2⟩, h3⟩
theorem rlt_of_len : ∀ {r q : List Nat}, r.length < q.length → rlt r q
  | [], [], h => by simp at h
  | [], _ :: _, _ => trivial
  | _ :: _, [], h => by simp at h
  | _ :: r, _ :: q, h => .inl (rlt_of_len (by simpa using h))
/-- The state of the way forward: d letters are still to come. -/
structure Fwd (L : List Nat) (nx : Nat → Nat → List Nat) (fd : Nat → Bool) (D s D0 : Nat) (r at_ : List Nat) (d : Nat) : Prop where
  len : r.length + d = D0
  mem : ∀ n, n ∈ at_ ↔ RW (fun m => m ∈ [s]) L nx r n ∧ lay L nx fd D n = some d
  least : ∀ p n, p.length = r.length → RW (fun m => m ∈ [s]) L nx p n → lay L nx fd D n = some d → rle r p
  ne : ∃ n, n ∈ at_
theorem Fwd.start {D0 : Nat} (h : lay L nx fd D s = some D0) : Fwd L nx fd D s D0 [] [s] D0 := by
  refine ⟨by simp, fun n => ?_, fun p n hp _ _ => ?_, ⟨s, by simp⟩⟩
  · rw [List.mem_singleton]
    constructor
    · rintro rfl
      exact ⟨List.mem_singleton.2 rfl, h⟩
    · rintro ⟨h1, _⟩
      exact List.mem_singleton.1 h1
  · rw [List.eq_nil_of_length_eq_zero hp]
    exact rle_refl _
theorem Fwd.some_ {D0 d : Nat} {r at_ : List Nat} (h : Fwd L nx fd D s D0 r at_ (d + 1)) : ∃ k, ∃ (hk : k < L.length), clo L nx fd D at_ L[k] d ≠ [] := by
  obtain ⟨n, hn⟩ := h.ne
  obtain ⟨_, h2⟩ := (h.mem n).1 hn
  obtain ⟨l, hl, m, hm, h3⟩ := lay_step h2
  obtain ⟨k, hk, e⟩ := List.mem_iff_getElem.1 hl
  refine ⟨k, hk, fun h0 => ?_⟩
  have : m ∈ clo L nx fd D at_ L[k] d := clo_mem.2 ⟨n, hn, by rw [e]; exact hm, h3⟩
  rw [h0] at this
  cases this
theorem Fwd.next (hst : Still L nx fd N D) (hN : ∀ n, n < N → ∀ l ∈ L, ∀ m ∈ nx n l, m < N) (hs : s < N) (hL : L.Pairwise (· < ·)) {D0 d k : Nat} {r at_ : List Nat} (h : Fwd L nx fd D s D0 r at_ (d + 1)) (h0 : lay L nx fd D s = some D0)
    (hk : k < L.length) (hne : clo L nx fd D at_ L[k] d ≠ []) (hmin : ∀ j (hj : j < L.length), j < k → clo L nx fd D at_ L[j] d = []) : Fwd L nx fd D s D0 (L[k] :: r) (clo L nx fd D at_ L[k] d) d := by
  have hlen := h.len
  have key : ∀ {p : List Nat} {m l n : Nat}, p.length = r.length → RW (fun m => m ∈ [s]) L nx p m → l ∈ L → n ∈ nx m l → lay L nx fd D n = some d → lay L nx fd D m = some (d + 1) := by
    intro p m l n hp hm hl hn h1
    obtain ⟨e1, h2, h3⟩ := lay_back hst (RW_lt hN hs hm) hl hn h1
    obtain ⟨e2, h4, h5⟩ := lay_from hst hN hs hm h3
    rw [h0] at h5
    injection h5 with h5
    obtain rfl : e1 = d + 1 := by omega
    exact h3
  refine ⟨by rw [List.length_cons]; omega, fun n => ?_, fun p n hp hn h1 => ?_, ?_⟩
  · rw [clo_mem]
    constructor
    · rintro ⟨m, hm, h1, h2⟩
      exact ⟨⟨List.getElem_mem hk, m, ((h.mem m).1 hm).1, h1⟩, h2⟩
    · rintro ⟨⟨_, m, hm, h1⟩, h2⟩
      exact ⟨m, (h.mem m).2 ⟨hm, key rfl hm (List.getElem_mem hk) h1 h2⟩, h1, h2⟩
  · cases p with
    | nil => simp at hp
    | cons l p =>
      obtain ⟨hl, m, hm, hn⟩ := hn
      have hpl : p.length = r.length := by simpa using hp
      have hm1 := key hpl hm hl hn h1
      rcases h.least p m hpl hm hm1 with hlt | rfl
      · exact .inl (.inl hlt)
      · obtain ⟨j, hj, rfl⟩ := List.mem_iff_getElem.1 hl
        rcases Nat.lt_trichotomy j k with hjk | rfl | hjk
        · have := hmin j hj hjk
          have hmem : n ∈ clo L nx fd D at_ L[j] d := clo_mem.2 ⟨m, (h.mem m).2 ⟨hm, hm1⟩, hn, h1⟩
          rw [this] at hmem
          cases hmem
        · exact rle_refl _
        · exact .inl (.inr ⟨rfl, List.pairwise_iff_getElem.1 hL k j hk hj hjk⟩)
  · cases hc : clo L nx fd D at_ L[k] d with
    | nil => exact absurd hc hne
    | cons x xs => exact ⟨x, List.mem_cons_self⟩
theorem Fwd.done (hst : Still L nx fd N D) (hN : ∀ n, n < N → ∀ l ∈ L, ∀ m ∈ nx n l, m < N) (hs : s < N) {D0 : Nat} {r at_ : List Nat} (h : Fwd L nx fd D s D0 r at_ 0) (h0 : lay L nx fd D s = some D0) : FirstW (fun m => m ∈ [s]) L nx (fun n => fd n = true) r := by
  have hlen := h.len
  obtain ⟨n, hn⟩ := h.ne
  obtain ⟨h1, h2⟩ := (h.mem n).1 hn
  refine ⟨⟨n, h1, lay_zero.1 h2⟩, fun q m hm hf => ?_⟩
  have h3 : lay L nx fd D m = some 0 := lay_zero.2 hf
  obtain ⟨e, h4, h5⟩ := lay_from hst hN hs hm h3
  rw [h0] at h5
  injection h5 with h5
  by_cases he : q.length = r.length
  · exact h.least q m he hm h3
  · exact .inl (rlt_of_len (by omega))
theorem first_none (hst : Still L nx fd N D) (hN : ∀ n, n < N → ∀ l ∈ L, ∀ m ∈ nx n l, m < N) (hs : s < N) (h0 : lay L nx fd D s = none) : ∀ q n, RW (fun m => m ∈ [s]) L nx q n → ¬ fd n = true := by
  intro q n hq hf
  obtain ⟨e, _, h5⟩ := lay_from hst hN hs hq (lay_zero.2 hf)
  rw [h0] at h5
  cases h5
/-- How many nodes have a distance. -/
def cntL (L : List Nat) (nx : Nat → Nat → List Nat) (fd : Nat → Bool) (d : Nat) : Nat → Nat
  | 0 => 0
  | n + 1 => cntL L nx fd d n + if (lay L nx fd d n).isSome then 1 else 0
theorem cntL_le (d : Nat) : ∀ n, cntL L nx fd d n ≤ n
  | 0 => Nat.le_refl _
  | n + 1 => by
    have := cntL_le d n
    unfold cntL
    split <;> omega
theorem cntL_mono (d : Nat) : ∀ n, cntL L nx fd d n ≤ cntL L nx fd (d + 1) n
  | 0 => Nat.le_refl _
  | n + 1 => by
    have := cntL_mono d n
    unfold cntL
    cases h : lay L nx fd d n with
    | none => simp; omega
    | some e => rw [lay_up h]; simp; omega
theorem cntL_grow {d : Nat} : ∀ {n : Nat}, (∃ m, m < n ∧ lay L nx fd (d + 1) m ≠ lay L nx fd d m) → cntL L nx fd d n + 1 ≤ cntL L nx fd (d + 1) n
  | 0, h => by obtain ⟨m, hm, _⟩ := h; omega
  | n + 1, ⟨m, hm, hne⟩ => by
    unfold cntL
    by_cases hmn : m = n
    · subst hmn
      have h1 := cntL_mono d m (L := L) (nx := nx) (fd := fd)
      cases h : lay L nx fd d m with
      | some e => rw [lay_up h, h] at hne; exact absurd rfl hne
      | none =>
        cases h2 : lay L nx fd (d + 1) m with
        | none => rw [h, h2] at hne; exact absurd rfl hne
        | some e => simp; omega
    · have h1 := cntL_grow (n := n) ⟨m, by omega, hne⟩
      cases h : lay L nx fd d n with
      | none => simp; omega
      | some e => rw [lay_up h]; simp; omega
end

end Go.Proofs.YtjhlbeamfngebaaDoor

/- Plain: the nodes of a product as numbers. -/
namespace Go.Proofs.YtjhlbeamfngebaaDoor
open AG

def prodL : List Nat → Nat
  | [] => 1
  | a :: l => a * prodL l
/-- The states of a node. -/
def decS : List Nat → Nat → List Nat
  | [], _ => []
  | a :: l, n => (n / prodL l % a) :: decS l n
theorem decS_len : ∀ (ss : List Nat) (n : Nat), (decS ss n).length = ss.length
  | [], _ => rfl
  | a :: l, n => by
    show (decS l n).length + 1 = l.length + 1
    rw [decS_len l n]
theorem decS_get : ∀ (ss : List Nat) (n i : Nat) (h : i < ss.length), (decS ss n)[i]'(by rw [decS_len]; exact h) = n / prodL (ss.drop (i + 1)) % ss[i]
  | a :: l, n, 0, _ => rfl
  | a :: l, n, i + 1, h => by
    exact decS_get l n i (by simpa using h)
theorem prodL_pos : ∀ {ss : List Nat}, (∀ a ∈ ss, 1 ≤ a) → 1 ≤ prodL ss
  | [], _ => Nat.le_refl _
  | a :: l, h => by
    have h1 := prodL_pos (ss := l) fun x hx => h x (List.mem_cons_of_mem _ hx)
    have h2 := h a List.mem_cons_self
    exact Nat.mul_le_mul h2 h1
theorem prodL_drop {ss : List Nat} {i : Nat} (h : i < ss.length) : prodL (ss.drop i) = ss[i] * prodL (ss.drop (i + 1)) := by
  rw [List.drop_eq_getElem_cons h]
  rfl
theorem decS_step {ss : List Nat} {n i : Nat} (h : i < ss.length) : n / prodL (ss.drop (i + 1)) / ss[i] = n / prodL (ss.drop i) := by
  rw [Nat.div_div_eq_div_mul, prodL_drop h, Nat.mul_comm]
theorem decS_lt {ss : List Nat} (hs : ∀ a ∈ ss, 1 ≤ a) (n i : Nat) (h : i < ss.length) : (decS ss n).getD i 0 < ss[i] := by
  rw [List.getD_eq_getElem?_getD, List.getElem?_eq_getElem (by rw [decS_len]; exact h), Option.getD_some, decS_get ss n i h]
  exact Nat.mod_lt _ (hs _ (List.getElem_mem h))
/-- The number of some states. -/
def encK (ss qs : List Nat) : Nat → Nat
  | 0 => 0
  | k + 1 => encK ss qs k * ss.getD k 1 + qs.getD k 0
theorem encK_zero {ss qs : List Nat} (h : ∀ q ∈ qs, q = 0) : ∀ k, encK ss qs k = 0
  | 0 => rfl
  | k + 1 => by
    have h1 : qs.getD k 0 = 0 := by
      rw [List.getD_eq_getElem?_getD]
      cases e : qs[k]? with
      | none => rfl
      | some q => exact h q (List.mem_of_getElem? e)
    rw [encK, encK_zero h k, h1]
    simp
/-- One member more. -/
def stepN (a : Nat) (c out : List Nat) : List Nat := out.flatMap fun o => c.map fun x => o * a + x
/-- The nodes to which the choices of the first k members lead. -/
def nxK (ss : List Nat) (C : Nat → List Nat) : Nat → List Nat
  | 0 => [0]
  | k + 1 => stepN (ss.getD k 1) (C k) (nxK ss C k)
theorem stepN_mem {a : Nat} {c out : List Nat} {m : Nat} : m ∈ stepN a c out ↔ ∃ o ∈ out, ∃ x ∈ c, m = o * a + x := by
  unfold stepN
  rw [List.mem_flatMap]
  constructor
  · rintro ⟨o, ho, h⟩
    obtain ⟨x, hx, rfl⟩ := List.mem_map.1 h
    exact ⟨o, ho, x, hx, rfl⟩
  · rintro ⟨o, ho, x, hx, rfl⟩
    exact ⟨o, ho, List.mem_map_of_mem hx⟩
theorem stepN_take {a : Nat} {c out : List Nat} {k : Nat} (h : k < out.length) : stepN a c (out.take (k + 1)) = stepN a c (out.take k) ++ c.map fun x => out[k] * a + x := by
  unfold stepN
  rw [List.take_succ_eq_append_getElem h, List.flatMap_append]
  simp
theorem stepN_len (a : Nat) (c : List Nat) : ∀ out : List Nat, (stepN a c out).length = out.length * c.length
  | [] => by simp [stepN]
  | o :: out => by
    have ih := stepN_len a c out
    have e : stepN a c (o :: out) = (c.map fun x => o * a + x) ++ stepN a c out := rfl
    rw [e, List.length_append, List.length_map, ih, List.length_cons, Nat.add_mul]
    omega
/-- The product of the first k sizes. -/
def prodT (ss : List Nat) : Nat → Nat
  | 0 => 1
  | k + 1 => prodT ss k * ss.getD k 1
theorem nxK_lt {ss : List Nat} {C : Nat → List Nat} : ∀ {k : Nat}, k ≤ ss.length → (∀ i, i < ss.length → ∀ x ∈ C i, x < ss.getD i 1) → ∀ m ∈ nxK ss C k, m < prodT ss k
  | 0, _, _, m, h => by
    rw [List.mem_singleton.1 h]
    exact Nat.one_pos
  | k + 1, hk, hC, m, h => by
    obtain ⟨o, ho, x, hx, rfl⟩ := stepN_mem.1 h
    have h1 := nxK_lt (by omega) hC o ho
    have h2 := hC k (by omega) x hx
    show o * ss.getD k 1 + x < prodT ss k * ss.getD k 1
    have h3 : (o + 1) * ss.getD k 1 ≤ prodT ss k * ss.getD k 1 := Nat.mul_le_mul_right _ h1
    rw [Nat.add_mul] at h3
    omega
theorem nxK_len {ss : List Nat} {C : Nat → List Nat} {b : Nat} (hC : ∀ i, (C i).length ≤ b) : ∀ k, (nxK ss C k).length ≤ b ^ k
  | 0 => Nat.le_refl _
  | k + 1 => by
    show (stepN _ _ _).length ≤ _
    rw [stepN_len, Nat.pow_succ]
    exact Nat.mul_le_mul (nxK_len hC k) (hC k)
theorem prodT_succ (a : Nat) (l : List Nat) : ∀ k, prodT (a :: l) (k + 1) = a * prodT l k
  | 0 => by simp [prodT]
  | k + 1 => by
    rw [prodT, prodT_succ a l k, prodT, Nat.mul_assoc]
    rfl
theorem prodT_all : ∀ ss : List Nat, prodT ss ss.length = prodL ss
  | [] => rfl
  | a :: l => by
    show prodT (a :: l) (l.length + 1) = _
    rw [prodT_succ, prodT_all l]
    rfl
theorem prodT_le {ss : List Nat} {b : Nat} (hs : ∀ a ∈ ss, a ≤ b) (hb : 1 ≤ b) : ∀ k, prodT ss k ≤ b ^ k
  | 0 => Nat.le_refl _
  | k + 1 => by
    rw [prodT, Nat.pow_succ]
    refine Nat.mul_le_mul (prodT_le hs hb k) ?_
    rw [List.getD_eq_getElem?_getD]
    cases e : ss[k]? with
    | none => exact hb
    | some x => exact hs x (List.mem_of_getElem? e)
/-- The nodes to which a letter leads from a node. -/
def nxN (ss : List Nat) (ch : Nat → Nat → Nat → List Nat) (n l : Nat) : List Nat := nxK ss (fun i => ch i ((decS ss n).getD i 0) l) ss.length
theorem nxN_lt {ss : List Nat} {ch : Nat → Nat → Nat → List Nat} (hs : ∀ a ∈ ss, 1 ≤ a) (hC : ∀ i, i < ss.length → ∀ q, q < ss.getD i 1 → ∀ l, ∀ x ∈ ch i q l, x < ss.getD i 1) (n l : Nat) : ∀ m ∈ nxN ss ch n l, m < prodL ss := by
  intro m hm
  rw [← prodT_all]
  refine nxK_lt (Nat.le_refl _) (fun i hi x hx => ?_) m hm
  refine hC i hi _ ?_ l x hx
  have h1 := decS_lt hs n i hi
  rw [show ss.getD i 1 = ss[i] from by rw [List.getD_eq_getElem?_getD, List.getElem?_eq_getElem hi]; rfl]
  exact h1

end Go.Proofs.YtjhlbeamfngebaaDoor

/- The reference's l4Decode, l4Encode. -/
namespace Go.Proofs.YtjhlbeamfngebaaDoor
open Go.RowKit Go.BigFrame AG

theorem getD_at1 {c : List Nat} {i d : Nat} (h : i < c.length) : c.getD i d = c[i] := by
  rw [List.getD_eq_getElem?_getD, List.getElem?_eq_getElem h]
  rfl

theorem own_of_blk {w : World} {B g n : Nat} {cs : Array Value} {ns : List Nat} (hb : Blk w g 3 cs) (hsz : cs.size = n) (hn : ns.length = n) (hmax : n ≤ 1000000) (hc : ∀ p, p < n → cs[p]? = some (.int .i64 (ns.getD p 0 : Nat))) (hB : B ≤ g) : OwnNats w B (.slice (some ⟨g, 0, none⟩) n n) ns := by
  subst hn
  refine ⟨by simp, .inr ⟨g, ns.length, cs, rfl, hB, hb, Nat.le_refl _, by unfold maxLen; omega, by omega, ?_⟩⟩
  refine List.ext_getElem? fun p => ?_
  rw [Nat.mul_one, List.getElem?_take]
  by_cases hp : p < ns.length
  · rw [if_pos hp, Array.getElem?_toList, hc p hp, List.getElem?_map, List.getElem?_eq_getElem hp, getD_at1 hp]
    rfl
  · rw [if_neg hp, List.getElem?_eq_none (by simpa using hp)]

set_option maxRecDepth 100000 in
set_option maxHeartbeats 4000000 in
theorem l4Decode_any (ss : List Nat) (A : Option Addr) (c n : Nat) (w : World) (hs : ∀ a ∈ ss, 1 ≤ a) (hl : ss.length ≤ 3) (hn : n ≤ 1000000) (hsc : ss.length ≤ c) (hc : c ≤ 9223372036854775807) (hr : NatsAt w w.heap.size A ss) :
    Calls Tryd.prog 133 #[.slice A ss.length c, .int .i64 (n : Nat)] w fun e w' => ∃ v, e = .returned v ∧ OwnNats w' w.heap.size v (decS ss n) ∧ Below w.heap.size w w' := by
  obtain ⟨i0, hi, hz0', hz1, hz2⟩ := info_parts infoInt
  have hmk := fun W => run_make_rowN (P := Tryd.prog) 72 3 i0 _ Tryd.underlying72 hi hz0' .i64 .i64 ss.length ss.length (Nat.le_refl _) (by rw [hz2]; omega) (by omega) W
  rw [hz1] at hmk
  clear hz1 hz0' hz2 hi
  have hcn : ss.length * 1 = ss.length := Nat.mul_one _
  rw [hcn] at hmk
  clear hcn
  have hs' := hid hs
  replace hr := hid hr
  clear hs
  go_enter Tryd.func133, Tryd.ntmps133
  go_upto_region 2 with fail
  obtain ⟨w2, hw2⟩ : ∃ w2, w.alloc (.cells (madeCells #[Value.int IntKind.i64 0] ss.length) 3) = w2 := ⟨_, rfl⟩
  have hblk2 : Blk w2 w.heap.size 3 (madeCells #[Value.int IntKind.i64 0] ss.length) := by rw [← hw2]; exact Blk.new _ _ _
  have hB2 : Below w.heap.size w w2 := by rw [← hw2]; exact (Below.refl _ _).alloc (Nat.le_refl _) _
  rw [hw2]
  clear hw2
  have hbl2 := hid hblk2
  have hr2 := hid (hr.out.later hB2)
  have hz2 := hblk2.lt
  clear hblk2
  have hsz0 : Hid ((madeCells #[Value.int IntKind.i64 0] ss.length).size = ss.length) := hid (by rw [size_madeCells])
  go_wp2_with fail
  go_loopw [1, 6] (fun nv kv wr => ∃ (k m : Nat) (cs : Array Value), nv = .int .i64 (m : Nat) ∧ kv = .int .i64 ((k : Int) - 1) ∧ k ≤ ss.length ∧ m = n / prodL (ss.drop k) ∧ Blk wr w.heap.size 3 cs ∧ cs.size = ss.length ∧ (∀ p, k ≤ p → p < ss.length → cs[p]? = some (.int .i64 ((decS ss n).getD p 0 : Nat))) ∧ KeepB (fun b => b = w.heap.size) w2 wr) (fun _ kv _ => (intOf kv + 1).toNat)
  case atStart => exact ⟨ss.length, n, _, rfl, rfl, Nat.le_refl _, by rw [List.drop_length]; simp [prodL], hbl2.out, hsz0.out, fun p h1 h2 => by omega, KeepB.refl _ _⟩
  case round =>
    clear hbl2
    obtain ⟨k, m, cs, rfl, rfl, hk, hm, hblk, hsz, hin, hkp⟩ := hrel
    have hBr : Below w.heap.size w wr := KeepB.below hB2 hkp hB2.size fun b e => by omega
    by_cases hk0 : 0 < k
    · obtain ⟨k', rfl⟩ : ∃ k', k = k' + 1 := ⟨k - 1, by omega⟩
      have e1 : (((k' + 1 : Nat) : Int) - 1) = (k' : Int) := by omega
      rw [e1]
      obtain ⟨b, o, hAe, hb, hE⟩ := hr.out (by omega)
      subst hAe
      have a0 := (hBr.cell (p := ⟨b, o + k', none⟩) (by simpa using hb)).trans (hE k' (by omega))
      have hne : b ≠ w.heap.size := by omega
      have hne' : w.heap.size ≠ b := by omega
      obtain ⟨a, ha⟩ : ∃ a, Hid (a = ss[k']'(by omega)) := ⟨_, hid rfl⟩
      rw [← ha.out] at a0
      have ha1 : 1 ≤ a := by rw [ha.out]; exact hs'.out _ (List.getElem_mem _)
      have hml : m ≤ 1000000 := by rw [hm]; exact Nat.le_trans (Nat.div_le_self _ _) hn
      obtain ⟨x, hx⟩ : ∃ x, Hid (x = m % a) := ⟨_, hid rfl⟩
      have hrem : Int.tmod (m : Int) (a : Int) = (x : Int) := by rw [hx.out]; exact (Int.ofNat_tmod m a).symm
      obtain ⟨y, hy⟩ : ∃ y, Hid (y = m / a) := ⟨_, hid rfl⟩
      have hquo : Int.tdiv (m : Int) (a : Int) = (y : Int) := by rw [hy.out]; exact (Int.ofNat_tdiv m a).symm
      have hxd : Hid ((decS ss n).getD k' 0 = x) := hid (by
        rw [getD_at1 (by rw [decS_len]; omega), decS_get ss n k' (by omega), hx.out, hm, ha.out])
      have hyd : Hid (y = n / prodL (ss.drop k')) := hid (by rw [hy.out, hm, ha.out, decS_step (by omega)])
      obtain ⟨v0, d0⟩ := hblk.some_ (i := k') (by omega)
      have z0 := hblk.frozen k'
      have hbk2 := hid (hblk.set_ k' (.int .i64 (x : Nat)))
      have hkp2 := hid (hkp.setCell ⟨w.heap.size, k', none⟩ (.int .i64 (x : Nat)) fun _ => rfl)
      have hin2 : Hid (∀ p, k' ≤ p → p < ss.length → (cs.setIfInBounds k' (.int .i64 (x : Nat)))[p]? = some (.int .i64 ((decS ss n).getD p 0 : Nat))) := hid (fun p h1 h2 => by
        by_cases e : p = k'
        · subst e
          rw [Array.getElem?_setIfInBounds_self_of_lt (by omega), hxd.out]
        · rw [Array.getElem?_setIfInBounds_ne (Ne.symm e)]
          exact hin p (by omega) h2)
      have hsz2 : Hid ((cs.setIfInBounds k' (.int .i64 (x : Nat))).size = ss.length) := hid (by simpa using hsz)
      have ha0 : (a : Int) ≠ 0 := by omega
      have hxl : x ≤ 1000000 := by rw [hx.out]; exact Nat.le_trans (Nat.mod_le _ _) hml
      have hyl : y ≤ 1000000 := by rw [hy.out]; exact Nat.le_trans (Nat.div_le_self _ _) hml
      have k1 : (0 : Int) ≤ (k' : Int) ∧ (k' : Int) < (ss.length : Int) := by omega
      replace hblk := hid hblk
      replace hin := hid hin
      replace hsz := hid hsz
      replace hkp := hid hkp
      replace hm := hid hm
      replace hE := hid hE
      clear e1
      go_wp2_with fail
      go_roundw
      case rel => exact ⟨k', y, _, rfl, by go_num, by omega, hyd.out, hbk2.out, hsz2.out, hin2.out, hkp2.out⟩
      case measure => simp [intOf] <;> omega
    · obtain rfl : k = 0 := by omega
      have hfin : Hid (OwnNats wr w.heap.size (.slice (some ⟨w.heap.size, 0, none⟩) ss.length ss.length) (decS ss n)) := hid (by
        exact own_of_blk hblk hsz (decS_len ss n) (by omega) (fun p hp => hin p (Nat.zero_le _) hp) (Nat.le_refl _))
      replace hblk := hid hblk
      replace hin := hid hin
      replace hkp := hid hkp
      replace hm := hid hm
      go_wp2_with fail
      go_ret
      exact ⟨_, rfl, hfin.out, hBr⟩

set_option maxRecDepth 100000 in
set_option maxHeartbeats 4000000 in
theorem l4Encode_any (ss qs : List Nat) (A B : Option Addr) (c d : Nat) (w : World) (hs : ∀ a ∈ ss, a ≤ 1000) (hq : ∀ a ∈ qs, a ≤ 1000) (he : ∀ k, encK ss qs k ≤ 1000000) (hl : qs.length = ss.length) (hsc : ss.length ≤ c) (hc : c ≤ 9223372036854775807) (hqd : qs.length ≤ d) (hd : d ≤ 9223372036854775807) (hr : NatsAt w w.heap.size A ss) (hr2 : NatsAt w w.heap.size B qs) :
    Calls Tryd.prog 135 #[.slice A ss.length c, .slice B qs.length d] w fun e w' => e = .returned (.int .i64 (encK ss qs ss.length : Nat)) ∧ Below w.heap.size w w' := by
  replace hr := hid hr
  replace hr2 := hid hr2
  replace hl := hid hl
  have hs' := hid hs
  have hq' := hid hq
  have he' := hid he
  clear hs hq he
  go_enter Tryd.func135, Tryd.ntmps135
  go_wp2_with fail
  go_loopw [5, 6] (fun nv kv wr => ∃ k m : Nat, nv = .int .i64 (m : Nat) ∧ kv = .int .i64 (k : Nat) ∧ k ≤ ss.length ∧ m = encK ss qs k ∧ Below w.heap.size w wr) (fun _ kv _ => ss.length - (intOf kv).toNat)
  case atStart => exact ⟨0, 0, rfl, rfl, Nat.zero_le _, rfl, Below.refl _ _⟩
  case round =>
    obtain ⟨k, m, rfl, rfl, hk, hm, hb⟩ := hrel
    by_cases hkl : k < ss.length
    · have hkq : k < qs.length := by have := hl.out; omega
      obtain ⟨b, o, hAe, hbb, hE⟩ := (hr.out.later hb) (by omega)
      subst hAe
      obtain ⟨b2, o2, hAe2, hbb2, hE2⟩ := (hr2.out.later hb) (by omega)
      subst hAe2
      have a0 := hE k hkl
      have a1 := hE2 k hkq
      obtain ⟨a, ha⟩ : ∃ a, Hid (a = ss[k]) := ⟨_, hid rfl⟩
      obtain ⟨q, hqq⟩ : ∃ q, Hid (q = qs[k]) := ⟨_, hid rfl⟩
      rw [← ha.out] at a0
      rw [← hqq.out] at a1
      have hal : a ≤ 1000 := by rw [ha.out]; exact hs'.out _ (List.getElem_mem _)
      have hql : q ≤ 1000 := by rw [hqq.out]; exact hq'.out _ (List.getElem_mem _)
      have hml : m ≤ 1000000 := by rw [hm]; exact he'.out k
      have hnx : Hid (m * a + q = encK ss qs (k + 1)) := hid (by rw [encK, getD_at1 hkl, getD_at1 hkq, ← ha.out, ← hqq.out, hm])
      have k1 : (0 : Int) ≤ (k : Int) ∧ (k : Int) < (ss.length : Int) ∧ (k : Int) < (qs.length : Int) := by omega
      have hk1 : k + 1 ≤ ss.length := hkl
      obtain ⟨P, hP⟩ : ∃ P, Hid (P = m * a) := ⟨_, hid rfl⟩
      have hPl : P ≤ 1000000000 := by rw [hP.out]; exact Nat.le_trans (Nat.mul_le_mul hml hal) (by decide)
      have hsum : P + q < 9223372036854775807 := by omega
      have e5 : wrap64 ((m : Int) * (a : Int)) = (P : Int) := by rw [← Int.natCast_mul, ← hP.out]; exact IntWalk.wrap64_in _ ⟨by omega, by omega⟩
      have e6 := wrap_addN P q hsum
      obtain ⟨Z, hZ⟩ : ∃ Z, Hid (Z = P + q) := ⟨_, hid rfl⟩
      rw [← hZ.out] at e6
      rw [← hP.out, ← hZ.out] at hnx
      clear hPl hal hql hml hsum
      have y0 : ∀ x', (Fam wr.heap.size wr x').cell? ⟨b, o + k, none⟩ = some (.int .i64 (a : Nat)) := fun x' => by rw [(Fam.below wr.heap.size wr x').cell (by simpa using hbb)]; exact a0
      have y1 : ∀ x', (Fam wr.heap.size wr x').cell? ⟨b2, o2 + k, none⟩ = some (.int .i64 (q : Nat)) := fun x' => by rw [(Fam.below wr.heap.size wr x').cell (by simpa using hbb2)]; exact a1
      replace hE := hid hE
      replace hE2 := hid hE2
      replace hm := hid hm
      clear a0 a1
      go_upto_region 5 with fail
      refine wp_region_fam wr.heap.size wr (by kernel_rfl) (by kernel_rfl) (Below.refl _ _) ?_
      (repeat (go_big_quiet_step (fail)))
      refine wpQuiet_nil ?_
      intro w5 hw5
      replace hw5 := hid (hb.trans ((Fam.out hw5).mono hb.size))
      clear y0 y1
      go_wp2_with fail
      go_roundw
      case rel => exact ⟨k + 1, Z, by first | rfl | go_num, by go_num, by omega, hnx.out, hw5.out⟩
      case measure => simp [intOf]; omega
    · obtain rfl : k = ss.length := by omega
      have hm' := hid hm
      clear hm
      go_wp2_with fail
      go_ret
      exact ⟨ret_int (by rw [hm'.out]), hb⟩

end Go.Proofs.YtjhlbeamfngebaaDoor

/- The reference's l4Nexts. -/
namespace Go.Proofs.YtjhlbeamfngebaaDoor
open Go.RowKit Go.BigFrame AG

theorem OrdSt.app0 {w0 wr w1 : World} {v v' : Value} {ns : List Nat} {x : Nat} (h : OrdSt w0 wr v ns) (hg : wr.grownBy w1 v.ownBlock)
    (ho : w1.ownsRow w0.heap.size 3 1 v' (ns.length + 1) (natVals ns ++ [.int .i64 (x : Nat)])) : OrdSt w0 w1 v' (ns ++ [x]) := by
  have hkA : KeepB (fun b => v.ownBlock = some b) wr w1 := (KeepB.refl _ wr).grown hg fun k hk _ => hk
  refine ⟨hkA.below h.below h.below.size fun b e => own_block h.own b e, ?_⟩
  rw [List.length_append]
  unfold natVals at ho ⊢
  simpa using ho
def netV (c0 c1 c2 : Value) (lt kd gl : Int) : Value := .agg #[c0, c1, c2, .int .i64 lt, .int .i64 kd, .int .i64 gl]
/-- What the search asks of a product: the sizes of its members, the choices that a letter leaves to each of them. -/
structure NetOk (w0 : World) (nv : Value) (ss : List Nat) (ch : Nat → Nat → Nat → List Nat) : Prop where
  len3 : ss.length ≤ 3
  size : ∀ a ∈ ss, 1 ≤ a ∧ a ≤ 16
  chlen : ∀ i q l, (ch i q l).length ≤ 16
  chlt : ∀ i, i < ss.length → ∀ q, q < ss.getD i 1 → ∀ l, ∀ x ∈ ch i q l, x < ss.getD i 1
  call : ∀ w' i q l, Below w0.heap.size w0 w' → i < ss.length → q < ss.getD i 1 → l < 6 → Calls Tryd.prog 191 #[nv, .int .i64 (i : Nat), .int .i64 (q : Nat), .int .i64 (l : Nat)] w' fun e w'' => ∃ v, e = .returned v ∧ OwnNats w'' w'.heap.size v (ch i q l) ∧ Below w'.heap.size w' w''
theorem NetOk.later {w0 w1 : World} {nv : Value} {ss : List Nat} {ch : Nat → Nat → Nat → List Nat} (h : NetOk w0 nv ss ch) (hb : Below w0.heap.size w0 w1) : NetOk w1 nv ss ch :=
  ⟨h.len3, h.size, h.chlen, h.chlt, fun w' i q l hb' => h.call w' i q l (hb.trans (hb'.mono hb.size))⟩
theorem nxK_4096 {ss : List Nat} {C : Nat → List Nat} (hC : ∀ i, (C i).length ≤ 16) {k : Nat} (hk : k ≤ 3) : (nxK ss C k).length ≤ 4096 :=
  Nat.le_trans (nxK_len hC k) (Nat.le_trans (Nat.pow_le_pow_right (by decide) hk) (by decide))

set_option maxRecDepth 100000 in
set_option maxHeartbeats 8000000 in
theorem l4Nexts_any (c0 c1 c2 : Value) (lt kd gl : Int) (ss qs : List Nat) (ch : Nat → Nat → Nat → List Nat) (A B : Option Addr) (c d l : Nat) (w : World) (hN : NetOk w (netV c0 c1 c2 lt kd gl) ss ch) (hql : qs.length = ss.length) (hq : ∀ i, i < ss.length → qs.getD i 0 < ss.getD i 1) (hl : l < 6)
    (hsc : ss.length ≤ c) (hc : c ≤ 9223372036854775807) (hqd : qs.length ≤ d) (hd : d ≤ 9223372036854775807) (hr : NatsAt w w.heap.size A ss) (hr2 : NatsAt w w.heap.size B qs) :
    Calls Tryd.prog 175 #[netV c0 c1 c2 lt kd gl, .slice A ss.length c, .slice B qs.length d, .int .i64 (l : Nat)] w fun e w' => ∃ v, e = .returned v ∧ OwnNats w' w.heap.size v (nxK ss (fun i => ch i (qs.getD i 0) l) ss.length) ∧ Below w.heap.size w w' := by
  obtain ⟨i0, hi, hz0, hz1, hz2⟩ := info_parts infoInt
  have hlen3 := hN.len3
  obtain ⟨w0, hw0, hzz0, hB0, hS⟩ := boxed w #[c0, c1, c2, .int .i64 lt, .int .i64 kd, .int .i64 gl] 93
  have hN0 := hid (hN.later hB0)
  have hr0 := hid (hr.later hB0)
  have hr20 := hid (hr2.later hB0)
  have hSp := hid (fun w' (hb : Below w0.heap.size w0 w') => And.intro (And.intro (hS 0 _ rfl w' (hb.mono hzz0)) (And.intro (hS 1 _ rfl w' (hb.mono hzz0)) (hS 2 _ rfl w' (hb.mono hzz0)))) (And.intro (hS 3 _ rfl w' (hb.mono hzz0)) (And.intro (hS 4 _ rfl w' (hb.mono hzz0)) (hS 5 _ rfl w' (hb.mono hzz0)))))
  obtain ⟨C, hC⟩ : ∃ C : Nat → List Nat, Hid (C = fun i => ch i (qs.getD i 0) l) := ⟨_, hid rfl⟩
  rw [← hC.out]
  have hC16 : Hid (∀ i, (C i).length ≤ 16) := hid fun i => by rw [hC.out]; exact hN.chlen _ _ _
  have hClt : Hid (∀ i, i < ss.length → ∀ x ∈ C i, x < 16) := hid fun i hi x hx => by
    rw [hC.out] at hx
    have h1 := hN.chlt i hi _ (hq i hi) l x hx
    rw [getD_at1 hi] at h1
    have h2 := (hN.size _ (List.getElem_mem hi)).2
    omega
  have hcall := hid (fun w' i (hb : Below w0.heap.size w0 w') (hi : i < ss.length) => by
    have h := hN0.out.call w' i (qs.getD i 0) l hb hi (hq i hi) hl
    rw [show ch i (qs.getD i 0) l = C i from by rw [hC.out]] at h
    exact h)
  have hsz16 : Hid (∀ a ∈ ss, a ≤ 16) := hid fun a ha => (hN.size a ha).2
  have hnx := hid (fun k (hk : k ≤ 3) => nxK_4096 (ss := ss) hC16.out hk)
  have hnlt : Hid (∀ k, k ≤ ss.length → ∀ m ∈ nxK ss C k, m < 4096) := hid fun k hk m hm => by
    have h1 := nxK_lt (ss := ss) (C := C) hk (fun i hi x hx => by
      rw [hC.out] at hx
      exact hN.chlt i hi _ (hq i hi) l x hx) m hm
    have h2 := prodT_le (ss := ss) (b := 16) hsz16.out (by decide) k
    have h3 : 16 ^ k ≤ 16 ^ 3 := Nat.pow_le_pow_right (by decide) (by omega)
    have h4 : (16 : Nat) ^ 3 = 4096 := by decide
    omega
  have hst0 := hid (OrdSt.new w0 0)
  replace hql := hid hql
  replace hq := hid hq
  replace hr := hid hr
  replace hr2 := hid hr2
  clear hN hS
  unfold netV
  unfold netV at hcall
  go_enter Tryd.func175, Tryd.ntmps175
  go_wp2_with fail
  go_loopw [9, 10] (fun vO iv wr => ∃ (i : Nat) (out : List Nat) (AO : Option Addr) (cO : Nat), vO = .slice AO out.length cO ∧ iv = .int .i64 (i : Nat) ∧ i ≤ ss.length ∧ nxK ss C i = out ∧ OrdSt w0 wr (.slice AO out.length cO) out) (fun _ iv _ => ss.length - (intOf iv).toNat)
  case atStart => exact ⟨0, [0], _, _, rfl, rfl, Nat.zero_le _, rfl, hst0.out⟩
  case round =>
    clear hst0 hw0
    obtain ⟨i, out, AO, cO, rfl, rfl, hiN, ho, hst⟩ := hrel
    have hBm := hst.below
    have hszm := hBm.size
    by_cases hlt : i < ss.length
    · have hiq : i < qs.length := by have := hql.out; omega
      obtain ⟨bA, oA, hAe, hbA, hEA⟩ := (hr0.out.later hBm) (by omega)
      subst hAe
      obtain ⟨bQ, oQ, hQe, hbQ, hEQ⟩ := (hr20.out.later hBm) (by omega)
      subst hQe
      have q0 := hEQ i hiq
      obtain ⟨q, hqq⟩ : ∃ q, Hid (q = qs[i]) := ⟨_, hid rfl⟩
      rw [← hqq.out] at q0
      have hcl := hid (fun w' (hb : Below wr.heap.size wr w') => by
        have h := hcall.out w' i (hBm.trans (hb.mono hszm)) hlt
        rw [show qs.getD i 0 = q from by rw [getD_at1 hiq, hqq.out]] at h
        exact h)
      obtain ⟨⟨p0, p1, p2⟩, p3, p4, p5⟩ := hSp.out wr hBm
      have hlw : w.heap.size < wr.heap.size := by omega
      have y0 : ∀ x', (Fam wr.heap.size wr x').cell? ⟨w.heap.size, 0, none⟩ = some c0 := fun x' => by rw [(Fam.below wr.heap.size wr x').cell (by simpa using hlw)]; exact p0
      have y1 : ∀ x', (Fam wr.heap.size wr x').cell? ⟨w.heap.size, 1, none⟩ = some c1 := fun x' => by rw [(Fam.below wr.heap.size wr x').cell (by simpa using hlw)]; exact p1
      have y2 : ∀ x', (Fam wr.heap.size wr x').cell? ⟨w.heap.size, 2, none⟩ = some c2 := fun x' => by rw [(Fam.below wr.heap.size wr x').cell (by simpa using hlw)]; exact p2
      have y3 : ∀ x', (Fam wr.heap.size wr x').cell? ⟨w.heap.size, 3, none⟩ = some (.int .i64 lt) := fun x' => by rw [(Fam.below wr.heap.size wr x').cell (by simpa using hlw)]; exact p3
      have y4 : ∀ x', (Fam wr.heap.size wr x').cell? ⟨w.heap.size, 4, none⟩ = some (.int .i64 kd) := fun x' => by rw [(Fam.below wr.heap.size wr x').cell (by simpa using hlw)]; exact p4
      have y5 : ∀ x', (Fam wr.heap.size wr x').cell? ⟨w.heap.size, 5, none⟩ = some (.int .i64 gl) := fun x' => by rw [(Fam.below wr.heap.size wr x').cell (by simpa using hlw)]; exact p5
      have y6 : ∀ x', (Fam wr.heap.size wr x').cell? ⟨bQ, oQ + i, none⟩ = some (.int .i64 (q : Nat)) := fun x' => by rw [(Fam.below wr.heap.size wr x').cell (by simpa using hbQ)]; exact q0
      have k1 : (0 : Int) ≤ (i : Int) ∧ (i : Int) < (ss.length : Int) ∧ (i : Int) < (qs.length : Int) := by omega
      have hst' := hid hst
      replace ho := hid ho
      replace hEA := hid hEA
      replace hEQ := hid hEQ
      clear hst p0 p1 p2 p3 p4 p5 q0
      go_upto_region 5 with fail
      refine wp_region_grow 8 wr.heap.size wr (fun _ u w' => OwnNats w' wr.heap.size u (C i)) (by kernel_rfl) (by kernel_rfl) (Nat.le_refl _) (Below.refl _ _) ?_
      simp only [List.take_succ_cons, List.take_zero, List.drop_succ_cons, List.drop_zero]
      (repeat (refine grow_quiet (by rfl) (by rfl) (by rfl) ?_; intro K hK; go_big_quiet_op; go_big_quiet_on))
      refine grow_call (by rfl) (by rfl) (fun u v v' hb h => own_keep h (.of_below (K := fun _ => False) hb) fun _ _ h => h) (fun wq hbq _ => ?_) fun u hu => ?_
      · go_simp
        refine ⟨rfl, (hcl.out wq hbq).mono ?_⟩
        rintro e w5 ⟨v, rfl, ho, hb5⟩
        exact ⟨v, rfl, hb5, own_base ho hbq.size⟩
      obtain ⟨wX, -, hoX⟩ := hu
      obtain ⟨AC, cC, rfl, -, -, -⟩ := OwnNats.read hoX
      clear hoX
      simp only [Act.put, List.setIfInBounds_toArray, List.set_cons_zero, List.set_cons_succ]
      (repeat (refine grow_quiet (by rfl) (by rfl) (by rfl) ?_; intro K hK; go_big_quiet_op; go_big_quiet_on))
      refine grow_nil ?_
      intro w5 hb5 hf
      have hoC5 : OwnNats w5 wr.heap.size (.slice AC (C i).length cC) (C i) := hf _ List.mem_cons_self
      clear hf y0 y1 y2 y3 y4 y5 y6
      have hst5 := hid (hst'.out.later hb5)
      have hB5 := hst5.out.below
      have hz5 := hB5.size
      have hzr5 := hb5.size
      obtain ⟨a, ha⟩ : ∃ a, Hid (a = ss[i]) := ⟨_, hid rfl⟩
      have ha16 : a ≤ 16 := by rw [ha.out]; exact hsz16.out _ (List.getElem_mem _)
      obtain ⟨cs, hcs⟩ : ∃ cs, Hid (cs = C i) := ⟨_, hid rfl⟩
      have hcs16 : cs.length ≤ 16 := by rw [hcs.out]; exact hC16.out i
      have hcsl : Hid (∀ x ∈ cs, x < 16) := hid (by rw [hcs.out]; exact hClt.out i hlt)
      have hol : out.length ≤ 4096 := by rw [← ho.out]; exact hnx.out i (by omega)
      have houtl : Hid (∀ m ∈ out, m < 4096) := hid (by rw [← ho.out]; exact hnlt.out i (by omega))
      have hnew : Hid (stepN a cs out = nxK ss C (i + 1)) := hid (by rw [nxK, ho.out, getD_at1 hlt, ← ha.out, ← hcs.out])
      rw [← hcs.out] at hoC5 ⊢
      obtain ⟨AC', cC', e, -, -, hNC⟩ := OwnNats.read hoC5
      cases e
      obtain ⟨AO', cO', e, hcO, hcO', hNO⟩ := OwnN.read hst5.out.own
      cases e
      have hNC' := hid hNC
      have hNO' := hid hNO
      have hn0 := hid (OrdSt.new0 w5)
      replace hoC5 := hid hoC5
      clear hNC hNO
      go_wp2_with fail
      obtain ⟨wo, rfl⟩ : ∃ wo : World, wo = wr := ⟨_, rfl⟩
      go_loopw [12, 13] (fun vN kv wr => ∃ (k : Nat) (nx : List Nat) (AN : Option Addr) (cN : Nat), vN = .slice AN nx.length cN ∧ kv = .int .i64 (k : Nat) ∧ k ≤ out.length ∧ stepN a cs (out.take k) = nx ∧ OrdSt w5 wr (.slice AN nx.length cN) nx) (fun _ kv _ => out.length - (intOf kv).toNat)
      case atStart => exact ⟨0, [], _, _, rfl, rfl, Nat.zero_le _, by simp [stepN], hn0.out⟩
      case round =>
        clear hn0
        obtain ⟨k, nx, AN, cN, rfl, rfl, hk, hnxe, hsn⟩ := hrel
        have hnxl : nx.length ≤ 65536 := by
          rw [← hnxe, stepN_len, List.length_take]
          exact Nat.le_trans (Nat.mul_le_mul (Nat.le_trans (Nat.min_le_right _ _) hol) hcs16) (by decide)
        by_cases hkl : k < out.length
        · have hsn' := hid hsn
          obtain ⟨o, hoo⟩ : ∃ o, Hid (o = out[k]) := ⟨_, hid rfl⟩
          have ho4 : o < 4096 := by rw [hoo.out]; exact houtl.out _ (List.getElem_mem _)
          have hstp := hid (stepN_take (a := a) (c := cs) hkl)
          rw [hnxe, ← hoo.out] at hstp
          replace hnxe := hid hnxe
          clear hsn
          go_wp2_with fail
          obtain ⟨wp, rfl⟩ : ∃ wp : World, wp = wr := ⟨_, rfl⟩
          go_loopw [12, 14] (fun vN jv wr => ∃ (j : Nat) (ny : List Nat) (AN : Option Addr) (cN : Nat), vN = .slice AN ny.length cN ∧ jv = .int .i64 (j : Nat) ∧ j ≤ cs.length ∧ ny = nx ++ (cs.take j).map (fun x => o * a + x) ∧ OrdSt w5 wr (.slice AN ny.length cN) ny) (fun _ jv _ => cs.length - (intOf jv).toNat)
          case atStart => exact ⟨0, nx, _, _, rfl, rfl, Nat.zero_le _, by simp, hsn'.out⟩
          case round =>
            clear hsn'
            obtain ⟨j, ny, AN, cN, rfl, rfl, hj, hny, hsy⟩ := hrel
            have hnyl : ny.length ≤ 65600 := by
              rw [hny, List.length_append, List.length_map, List.length_take]
              omega
            have hBy := hsy.below
            have hzy := hBy.size
            by_cases hjl : j < cs.length
            · obtain ⟨bO, oO, hOe, hbO, hEO⟩ := hNO'.out (by omega)
              subst hOe
              obtain ⟨bC, oC, hCe, hbC, hEC⟩ := hNC'.out (by omega)
              subst hCe
              have o0 := (hBy.cell (p := ⟨bO, oO + k, none⟩) (by simpa using hbO)).trans (hEO k hkl)
              have c0' := (hBy.cell (p := ⟨bC, oC + j, none⟩) (by simpa using hbC)).trans (hEC j hjl)
              rw [← hoo.out] at o0
              obtain ⟨x, hxx⟩ : ∃ x, Hid (x = cs[j]) := ⟨_, hid rfl⟩
              rw [← hxx.out] at c0'
              have hx16 : x < 16 := by rw [hxx.out]; exact hcsl.out _ (List.getElem_mem _)
              have hBwr := hB5.trans (hBy.mono hz5)
              obtain ⟨bA2, oA2, hAe2, hbA2, hEA2⟩ := hr0.out (by omega)
              cases hAe2
              have a0 := (hBwr.cell (p := ⟨bA, oA + i, none⟩) (by simpa using hbA2)).trans (hEA2 i hlt)
              rw [← ha.out] at a0
              have hbO' : bO < wr.heap.size := by omega
              have hbC' : bC < wr.heap.size := by omega
              have hbA' : bA < wr.heap.size := by have := hBwr.size; omega
              have y0 : ∀ x', (Fam wr.heap.size wr x').cell? ⟨bO, oO + k, none⟩ = some (.int .i64 (o : Nat)) := fun x' => by rw [(Fam.below wr.heap.size wr x').cell (by simpa using hbO')]; exact o0
              have y1 : ∀ x', (Fam wr.heap.size wr x').cell? ⟨bC, oC + j, none⟩ = some (.int .i64 (x : Nat)) := fun x' => by rw [(Fam.below wr.heap.size wr x').cell (by simpa using hbC')]; exact c0'
              have y2 : ∀ x', (Fam wr.heap.size wr x').cell? ⟨bA, oA + i, none⟩ = some (.int .i64 (a : Nat)) := fun x' => by rw [(Fam.below wr.heap.size wr x').cell (by simpa using hbA')]; exact a0
              have k2 : (0 : Int) ≤ (k : Int) ∧ (k : Int) < (out.length : Int) ∧ (0 : Int) ≤ (j : Int) ∧ (j : Int) < (cs.length : Int) ∧ (0 : Int) ≤ (i : Int) ∧ (i : Int) < (ss.length : Int) := by omega
              have hj1 : j + 1 ≤ cs.length := hjl
              obtain ⟨P, hP⟩ : ∃ P, Hid (P = o * a) := ⟨_, hid rfl⟩
              have hPl : P ≤ 65536 := by rw [hP.out]; exact Nat.le_trans (Nat.mul_le_mul (Nat.le_of_lt ho4) ha16) (by decide)
              have hsum : P + x < 9223372036854775807 := by omega
              obtain ⟨Z, hZ⟩ : ∃ Z, Hid (Z = P + x) := ⟨_, hid rfl⟩
              have hny2 : Hid (ny ++ [Z] = nx ++ (cs.take (j + 1)).map (fun x => o * a + x)) := hid (by
                rw [List.take_succ_eq_append_getElem hjl, List.map_append, List.map_singleton, ← List.append_assoc, ← hny, ← hxx.out, ← hP.out, ← hZ.out])
              have hw7 := hid hsy
              have hAN : ny.length ≤ 65600 := hnyl
              replace hny := hid hny
              replace hEO := hid hEO
              replace hEC := hid hEC
              replace hEA2 := hid hEA2
              replace hBwr := hid hBwr
              replace hBy := hid hBy
              have e5 : wrap64 ((o : Int) * (a : Int)) = (P : Int) := by rw [← Int.natCast_mul, ← hP.out]; exact IntWalk.wrap64_in _ ⟨by omega, by omega⟩
              have e6 := wrap_addN P x hsum
              rw [← hZ.out] at e6
              clear hsy o0 c0' a0 hPl hsum ho4 ha16 hx16
              go_upto_region 13 with fail
              refine wp_region_grow 16 wr.heap.size wr (fun _ _ _ => True) (by kernel_rfl) (by kernel_rfl) (Nat.le_refl _) (Below.refl _ _) ?_
              simp only [List.take_succ_cons, List.take_zero, List.drop_succ_cons, List.drop_zero]
              (repeat (refine grow_quiet (by rfl) (by rfl) (by rfl) ?_; intro K hK; go_big_quiet_op; go_big_quiet_on))
              refine grow_new (by rfl) (fun b => .slice (some ⟨b, 0, none⟩) 1 1) 3 #[.int .i64 (Z : Nat)] (fun _ => by go_simp) (fun _ => rfl) (Nat.le_refl _) fun g3 hg3 => ?_
              simp only [Act.put, List.setIfInBounds_toArray, List.set_cons_zero, List.set_cons_succ]
              refine grow_nil ?_
              intro w7 hb7 hf
              obtain ⟨g3', hge, -, hblk3⟩ := hf _ List.mem_cons_self
              cases hge
              have hnew3 := hid (Blk.news hblk3)
              clear hblk3 hf y0 y1 y2 e5 e6
              have hst7 := hid (hw7.out.later hb7)
              have hz7 := hst7.out.below.size
              go_wp2_with (at_builtin; refine wpList_append_own_at _ rfl _ _ 72 rfl w5.heap.size 3 i0 (.int .i64 0) 1 8 Tryd.underlying72 hi hz0 hz1 hz2 rfl (by decide) _ _ _ rfl hst7.out.own ⟨g3, 0, none⟩ 1 1 [.int .i64 (Z : Nat)] rfl rfl hnew3.out (by intro u hu; simp at hu; subst hu; rfl) (by unfold maxLen; omega) (by omega) (by first | omega | (simp; omega)) ?_; intro v8 w8 hO8 hg8 _ hat8; obtain ⟨Av8, cv8, ev8, -, -⟩ := own_slice hO8; subst ev8; have hst8 := hid (hst7.out.app0 (x := Z) hg8 hO8); clear hO8 hg8 hat8)
              go_roundw
              case rel => exact ⟨j + 1, ny ++ [Z], _, _, by rw [List.length_append]; rfl, by go_num, by omega, hny2.out, by have := hst8.out; rw [List.length_append]; exact this⟩
              case measure => simp [intOf]; omega
            · obtain rfl : j = cs.length := by omega
              have hny3 : Hid (stepN a cs (out.take (k + 1)) = ny) := hid (by rw [hstp.out, hny, List.take_length])
              replace hny := hid hny
              have hsy' := hid hsy
              clear hsy
              go_wp2_with fail
              go_roundw
              case rel => exact ⟨k + 1, ny, _, _, rfl, by go_num, by omega, hny3.out, hsy'.out⟩
              case measure => simp [intOf]; omega
        · obtain rfl : k = out.length := by omega
          have hfin : Hid (nxK ss C (i + 1) = nx) := hid (by rw [← hnew.out, ← hnxe, List.take_length])
          have hst9 := hid (show OrdSt w0 wr (.slice AN nx.length cN) nx from ⟨hB5.trans (hsn.below.mono hz5), own_base hsn.own hz5⟩)
          replace hnxe := hid hnxe
          replace hsn := hid hsn
          go_wp2_with fail
          go_roundw
          case rel => exact ⟨i + 1, nx, _, _, rfl, by go_num, by omega, hfin.out, hst9.out⟩
          case measure => simp [intOf]; omega
    · obtain rfl : i = ss.length := by omega
      have hfin : Hid (OwnNats wr w.heap.size (.slice AO out.length cO) (nxK ss C ss.length)) := hid (by
        rw [ho]
        exact own_base hst.own hB0.size)
      have hB := hB0.trans (hst.below.mono hB0.size)
      have hge : ¬ ((ss.length : Int) < (qs.length : Int)) := by have := hql.out; omega
      replace hst := hid hst
      replace ho := hid ho
      go_wp2_with fail
      go_ret
      exact ⟨_, rfl, hfin.out, hB⟩

end Go.Proofs.YtjhlbeamfngebaaDoor
