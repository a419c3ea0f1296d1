/- Lemmas, part 2: several texts in one. -/
import Derived.Test.YtempjhgajcdibaaDoorK1
import Derived.WalkKit
import Derived.Deep.Quiet
import Derived.Laws.IdiomStrings
set_option linter.unusedSimpArgs false
set_option linter.unusedVariables false

/- The drawing kit's reader: what it is in memory; pick. -/
namespace Go.Proofs.YtempjhgajcdibaaDoor
open Go.RowKit Go.BigFrame AG

/-- The reader at block R: its bytes are the slice '.slice A n c', its position p. -/
structure RdAt (w : World) (R : Nat) (A : Option Addr) (n c p : Nat) : Prop where
  blk : Blk w R 123 #[.slice A n c, .int .i64 (p : Int)]
  len : n ≤ 2000
  cap : n ≤ c
  top : c ≤ 9223372036854775807
  pos : p ≤ 1125899906842624
  bytes : 0 < n → ∃ b o, A = some ⟨b, o, none⟩ ∧ b < R ∧ ∀ i, i < n → ∃ x : Nat, x < 256 ∧ w.cell? ⟨b, o + i, none⟩ = some (.int .u8 (x : Int))

theorem xor_nonneg {a b : Int} (ha : 0 ≤ a ∧ a < 9223372036854775808) (hb : 0 ≤ b ∧ b < 9223372036854775808) : 0 ≤ bits .xor .i64 a b ∧ bits .xor .i64 a b < 9223372036854775808 := by
  obtain ⟨a, rfl⟩ := Int.eq_ofNat_of_zero_le ha.1
  obtain ⟨b, rfl⟩ := Int.eq_ofNat_of_zero_le hb.1
  have hx : a ^^^ b < 2 ^ 63 := Nat.xor_lt_two_pow (by omega) (by omega)
  have : bits .xor .i64 (a : Int) (b : Int) = ((a ^^^ b : Nat) : Int) := by
    show IntKind.i64.wrap ((BitVec.ofInt 64 (a : Int) ^^^ BitVec.ofInt 64 (b : Int)).toNat : Int) = _
    rw [BitVec.toNat_xor, ofInt_i64 a (by omega), ofInt_i64 b (by omega), IntKind.wrap_i64]
    omega
  rw [this]
  omega

theorem RdAt.later {w w' : World} {R : Nat} {A : Option Addr} {n c p : Nat} (h : RdAt w R A n c p) (hb : Below w.heap.size w w') : RdAt w' R A n c p :=
  ⟨h.blk.below hb h.blk.lt, h.len, h.cap, h.top, h.pos, fun hn => by
    obtain ⟨b, o, hA, hlt, hx⟩ := h.bytes hn
    have hR := h.blk.lt
    refine ⟨b, o, hA, hlt, fun i hi => ?_⟩
    obtain ⟨x, h1, h2⟩ := hx i hi
    exact ⟨x, h1, by rw [hb.cell (by simp; omega)]; exact h2⟩⟩

theorem RdAt.step {w : World} {R : Nat} {A : Option Addr} {n c p : Nat} {v : Value} (h : RdAt w R A n c p) (hp : p < 1125899906842624) (hv : v = .int .i64 ((p : Int) + 1)) :
    RdAt (w.setCell ⟨R, 1, none⟩ v) R A n c (p + 1) ∧ KeepB (fun b => b = R) w (w.setCell ⟨R, 1, none⟩ v) := by
  subst hv
  refine ⟨⟨?_, h.len, h.cap, h.top, by omega, fun hn => ?_⟩, (KeepB.refl _ w).setCell _ _ (fun _ => rfl)⟩
  · have := h.blk.set_ 1 (.int .i64 ((p : Int) + 1))
    simpa using this
  · obtain ⟨b, o, hA, hlt, hx⟩ := h.bytes hn
    refine ⟨b, o, hA, hlt, fun i hi => ?_⟩
    obtain ⟨x, h1, h2⟩ := hx i hi
    refine ⟨x, h1, ?_⟩
    rw [World.cell?_setCell_other (h := addr_ne (by omega))]
    exact h2

set_option maxRecDepth 100000 in
set_option maxHeartbeats 2000000 in
theorem pick_any (R : Nat) (A : Option Addr) (n c p : Nat) (m : Int) (w : World) (hp : p < 1125899906842624) (hm : m ≤ 9223372036854775807) (hr : RdAt w R A n c p) :
    Calls Tryd.prog 62 #[.pointer (some ⟨R, 0, none⟩), .int .i64 m] w fun e w' => ∃ k : Int, e = .returned (.int .i64 k) ∧ 0 ≤ k ∧ (k < m ∨ k = 0) ∧ RdAt w' R A n c (p + 1) ∧ KeepB (fun b => b = R) w w' := by
  have hblk := hr.blk
  have hR := hblk.lt
  have e0 : w.cell? ⟨R, 0, none⟩ = some (.slice A n c) := by rw [hblk.cell]; rfl
  have e1 : w.cell? ⟨R, 1, none⟩ = some (.int .i64 (p : Int)) := by rw [hblk.cell]; rfl
  have hfr : w.frozen? ⟨R, 1, none⟩ = false := hblk.frozen 1
  have hlen := hr.len
  have hcap := hr.cap
  have htop := hr.top
  replace hr := hid hr
  replace hblk := hid hblk
  have hst := hid (hr.out.step (v := .int .i64 ((p : Int) + 1)) hp rfl)
  by_cases hm1 : m < 1
  · go_enter Tryd.func62, Tryd.ntmps62
    go_wp2
    go_ret
    exact ⟨0, rfl, by omega, .inr rfl, hst.out.1, hst.out.2⟩
  · have hm0 : (m == 0) = false := by simp; omega
    by_cases hn : n = 0
    · subst hn
      go_enter Tryd.func62, Tryd.ntmps62
      go_wp2
      go_ret
      exact ⟨0, rfl, by omega, .inr rfl, hst.out.1, hst.out.2⟩
    · obtain ⟨b, o, rfl, hltR, hx⟩ := hr.out.bytes (by omega)
      have hne : b ≠ R := by omega
      have hlt : b < w.heap.size := by omega
      have hn0 : ((n : Int) == 0) = false := by simp; omega
      by_cases hpn : p < n
      · obtain ⟨x, hx1, hx2⟩ := hx p hpn
        have hmod : 0 ≤ (x : Int) % m ∧ (x : Int) % m < m := ⟨Int.emod_nonneg _ (by omega), Int.emod_lt_of_pos _ (by omega)⟩
        replace hx := hid hx
        replace hmod := hid hmod
        have hneA : (⟨R, 1, none⟩ : Addr) ≠ ⟨b, o + p, none⟩ := addr_ne hne
        go_enter Tryd.func62, Tryd.ntmps62
        go_wp2
        go_ret
        exact ⟨_, rfl, hmod.out.1, .inl hmod.out.2, hst.out.1, hst.out.2⟩
      · have hw1 := hst.out.1
        obtain ⟨i1, hi1⟩ : ∃ i1, i1 = p % n := ⟨_, rfl⟩
        obtain ⟨i2, hi2⟩ : ∃ i2, i2 = (p * 7 + 3) % n := ⟨_, rfl⟩
        obtain ⟨q, hq⟩ : ∃ q, q = p / n := ⟨_, rfl⟩
        have hi1n : i1 < n := by rw [hi1]; exact Nat.mod_lt _ (by omega)
        have hi2n : i2 < n := by rw [hi2]; exact Nat.mod_lt _ (by omega)
        have hqp : q ≤ p := by rw [hq]; exact Nat.div_le_self _ _
        have k1 : (p : Int) % (n : Int) = (i1 : Int) := by rw [hi1]; omega
        have k2 : ((p : Int) * 7 + 3) % (n : Int) = (i2 : Int) := by rw [hi2]; simp
        have k3 : (p : Int) / (n : Int) = (q : Int) := by rw [hq]; omega
        obtain ⟨b', o', hA', -, hx'⟩ := hw1.bytes (by omega)
        injection hA' with hA'
        injection hA' with hA1 hA2
        subst hA1 hA2
        obtain ⟨x1, hx1, hy1⟩ := hx' i1 hi1n
        obtain ⟨x2, hx2, hy2⟩ := hx' i2 hi2n
        have hblk1 := hw1.blk
        replace hx := hid hx
        replace hx' := hid hx'
        replace hi1 := hid hi1
        replace hi2 := hid hi2
        replace hq := hid hq
        obtain ⟨w1, hw1e⟩ : ∃ w1, w1 = w.setCell ⟨R, 1, none⟩ (.int .i64 ((p : Int) + 1)) := ⟨_, rfl⟩
        rw [← hw1e] at hy1 hy2 hblk1
        have g0 : ∀ y, (Fam w1.heap.size w1 y).cell? ⟨R, 0, none⟩ = some (.slice (some ⟨b, o, none⟩) n c) := fun y => by rw [(Fam.below _ _ y).cell (by simpa using hblk1.lt), hblk1.cell]; rfl
        have hb1 : b < w1.heap.size := by rw [hw1e]; simpa using hlt
        have g1 : ∀ y, (Fam w1.heap.size w1 y).cell? ⟨b, o + i1, none⟩ = some (.int .u8 (x1 : Int)) := fun y => by rw [(Fam.below _ _ y).cell (by simpa using hb1)]; exact hy1
        have g2 : ∀ y, (Fam w1.heap.size w1 y).cell? ⟨b, o + i2, none⟩ = some (.int .u8 (x2 : Int)) := fun y => by rw [(Fam.below _ _ y).cell (by simpa using hb1)]; exact hy2
        replace hw1e := hid hw1e
        replace hw1 := hid hw1
        replace hblk1 := hid hblk1
        clear hy1 hy2
        have hxor := hid (xor_nonneg (a := (x1 : Int) * 131 + x2 * 1117 + p * 29 + q * 53) (b := ((x1 : Int) * 131 + x2 * 1117 + p * 29 + q * 53) / 64) (by omega) (by omega))
        go_enter Tryd.func62, Tryd.ntmps62
        go_wp2_with fail
        rw [← hw1e.out]
        refine wp_region_fam w1.heap.size w1 (by kernel_rfl) (by kernel_rfl) (Below.refl _ _) ?_
        (repeat (go_big_quiet_step (fail)))
        refine wpQuiet_nil ?_
        intro w2 hw2
        replace hw2 := Fam.out hw2
        go_wp2
        go_ret
        have hw1' : RdAt w1 R (some ⟨b, o, none⟩) n c (p + 1) := by rw [hw1e.out]; exact hw1.out
        have hk1 : KeepB (fun b => b = R) w w1 := by rw [hw1e.out]; exact hst.out.2
        exact ⟨_, rfl, Int.tmod_nonneg _ hxor.out.1, .inl (Int.tmod_lt_of_pos _ (by omega)), hw1'.later hw2, hk1.trans (KeepB.of_below hw2)⟩

/-- The reader at block R, its position at most P. -/
def RdUp (w : World) (R P : Nat) : Prop := ∃ A n c p, p ≤ P ∧ RdAt w R A n c p
theorem RdUp.more {w : World} {R P P' : Nat} (h : RdUp w R P) (hP : P ≤ P') : RdUp w R P' := by
  obtain ⟨A, n, c, p, h1, h2⟩ := h
  exact ⟨A, n, c, p, by omega, h2⟩
theorem RdUp.later {w w' : World} {R P : Nat} (h : RdUp w R P) (hb : Below w.heap.size w w') : RdUp w' R P := by
  obtain ⟨A, n, c, p, h1, h2⟩ := h
  exact ⟨A, n, c, p, h1, h2.later hb⟩
theorem RdUp.lt {w : World} {R P : Nat} (h : RdUp w R P) : R < w.heap.size := by
  obtain ⟨A, n, c, p, h1, h2⟩ := h
  exact h2.blk.lt
/-- Later blocks may be written. -/
theorem RdUp.keep {K : Nat → Prop} {w w' : World} {R P : Nat} (h : RdUp w R P) (hb : KeepB K w w') (hK : ∀ k, K k → R < k) : RdUp w' R P := by
  obtain ⟨A, n, c, p, h1, h2⟩ := h
  have hR := h2.blk.lt
  refine ⟨A, n, c, p, h1, h2.blk.keep hb (fun hk => by have := hK _ hk; omega), h2.len, h2.cap, h2.top, h2.pos, fun hn => ?_⟩
  obtain ⟨b, o, hA, hlt, hx⟩ := h2.bytes hn
  refine ⟨b, o, hA, hlt, fun i hi => ?_⟩
  obtain ⟨x, g1, g2⟩ := hx i hi
  refine ⟨x, g1, ?_⟩
  have : w'.cell? ⟨b, o + i, none⟩ = w.cell? ⟨b, o + i, none⟩ := by
    unfold World.cell?
    rw [hb.block b (by omega) (fun hk => by have := hK _ hk; omega)]
  rw [this]
  exact g2

def PickPost (R P : Nat) (m : Int) (w : World) (e : Ending) (w' : World) : Prop := ∃ k : Int, e = .returned (.int .i64 k) ∧ 0 ≤ k ∧ (k < m ∨ k = 0) ∧ RdUp w' R (P + 1) ∧ KeepB (fun b => b = R) w w'
theorem pick_up (R P : Nat) (m : Int) (w : World) (hP : P < 1125899906842624) (hm : m ≤ 9223372036854775807) (h : RdUp w R P) :
    Calls Tryd.prog 62 #[.pointer (some ⟨R, 0, none⟩), .int .i64 m] w (PickPost R P m w) := by
  obtain ⟨A, n, c, p, h1, h2⟩ := h
  exact (pick_any R A n c p m w (by omega) hm h2).mono fun e w' ⟨k, a1, a2, a3, a4, a5⟩ => ⟨k, a1, a2, a3, ⟨A, n, c, p + 1, by omega, a4⟩, a5⟩

end Go.Proofs.YtempjhgajcdibaaDoor

/- The drawing kit: l19Open, num, of. -/
namespace Go.Proofs.YtempjhgajcdibaaDoor
open Go.RowKit Go.BigFrame AG

theorem KeepB.cell_ {K : Nat → Prop} {w w' : World} (h : KeepB K w w') {p : Addr} (hb : p.block < w.heap.size) (hK : ¬ K p.block) : w'.cell? p = w.cell? p := by
  unfold World.cell?
  rw [h.block _ hb hK]

set_option maxHeartbeats 1000000 in
theorem num_up (R P g o k cap : Nat) (xs : List Int) (w : World) (hxl : xs.length = k) (hk : 0 < k) (hk2 : k ≤ 4294967296) (hP : P < 1125899906842624)
    (hgR : g ≠ R) (hgl : g < w.heap.size) (hxs : ∀ i (h : i < xs.length), w.cell? ⟨g, o + i, none⟩ = some (.int .i64 xs[i])) (hr : RdUp w R P) :
    Calls Tryd.prog 115 #[.pointer (some ⟨R, 0, none⟩), .slice (some ⟨g, o, none⟩) k cap] w fun e w' => ∃ x, x ∈ xs ∧ e = .returned (.int .i64 x) ∧ RdUp w' R (P + 1) ∧ KeepB (fun b => b = R) w w' := by
  replace hr := hid hr
  replace hxs := hid hxs
  go_enter Tryd.func115, Tryd.ntmps115
  go_wp2_with fail
  refine (pick_up R P k w hP (by omega) hr.out).mono ?_
  rintro e w1 ⟨j, rfl, hj0, hj1, hr1, hk1⟩
  obtain ⟨i, rfl⟩ := Int.eq_ofNat_of_zero_le hj0
  have hik : i < xs.length := by omega
  have e1 : w1.cell? ⟨g, o + i, none⟩ = some (.int .i64 xs[i]) := by rw [KeepB.cell_ hk1 (p := ⟨g, o + i, none⟩) hgl hgR]; exact hxs.out i hik
  have hik2 : (i : Int) < (k : Int) := by omega
  replace hr1 := hid hr1
  replace hk1 := hid hk1
  clear hj1
  go_wp2
  go_ret
  exact ⟨_, List.getElem_mem _, rfl, hr1.out, hk1.out⟩

set_option maxHeartbeats 1000000 in
theorem of_up (R P g o k cap : Nat) (xs : List ByteArray) (w : World) (hxl : xs.length = k) (hk : 0 < k) (hk2 : k ≤ 4294967296) (hP : P < 1125899906842624)
    (hgR : g ≠ R) (hgl : g < w.heap.size) (hxs : ∀ i (h : i < xs.length), w.cell? ⟨g, o + i, none⟩ = some (.string xs[i])) (hr : RdUp w R P) :
    Calls Tryd.prog 121 #[.pointer (some ⟨R, 0, none⟩), .slice (some ⟨g, o, none⟩) k cap] w fun e w' => ∃ x, x ∈ xs ∧ e = .returned (.string x) ∧ RdUp w' R (P + 1) ∧ KeepB (fun b => b = R) w w' := by
  replace hr := hid hr
  replace hxs := hid hxs
  go_enter Tryd.func121, Tryd.ntmps121
  go_wp2_with fail
  refine (pick_up R P k w hP (by omega) hr.out).mono ?_
  rintro e w1 ⟨j, rfl, hj0, hj1, hr1, hk1⟩
  obtain ⟨i, rfl⟩ := Int.eq_ofNat_of_zero_le hj0
  have hik : i < xs.length := by omega
  have e1 : w1.cell? ⟨g, o + i, none⟩ = some (.string xs[i]) := by rw [KeepB.cell_ hk1 (p := ⟨g, o + i, none⟩) hgl hgR]; exact hxs.out i hik
  have hik2 : (i : Int) < (k : Int) := by omega
  replace hr1 := hid hr1
  replace hk1 := hid hk1
  clear hj1
  go_wp2
  go_ret
  exact ⟨_, List.getElem_mem _, rfl, hr1.out, hk1.out⟩

/-- The bytes of an argument, below block B. -/
def CodeAt (w : World) (A : Option Addr) (n : Nat) : Prop := 0 < n → ∃ b o, A = some ⟨b, o, none⟩ ∧ b < w.heap.size ∧ ∀ i, i < n → ∃ x : Nat, x < 256 ∧ w.cell? ⟨b, o + i, none⟩ = some (.int .u8 (x : Int))

set_option maxHeartbeats 1000000 in
theorem l19Open_any (A : Option Addr) (n c : Nat) (w : World) (hn : n ≤ c) (hc : c ≤ 9223372036854775807) (hx : 0 < n → ∃ b o, A = some ⟨b, o, none⟩ ∧ b < w.heap.size ∧ ∀ i, i < n → ∃ x : Nat, x < 256 ∧ w.cell? ⟨b, o + i, none⟩ = some (.int .u8 (x : Int))) :
    Calls Tryd.prog 54 #[.slice A n c] w fun e w' => ∃ R, e = .returned (.pointer (some ⟨R, 0, none⟩)) ∧ w.heap.size ≤ R ∧ RdUp w' R 0 ∧ Below w.heap.size w w' := by
  replace hx := hid hx
  by_cases h2 : n ≤ 2000
  · go_enter Tryd.func54, Tryd.ntmps54
    go_wp2
    go_ret
    refine ⟨w.heap.size, rfl, Nat.le_refl _, ⟨A, n, c, 0, Nat.le_refl _, Blk.new w _ _, h2, hn, hc, by omega, fun hpos => ?_⟩, (Below.refl _ _).alloc (Nat.le_refl _) _⟩
    obtain ⟨b, o, hA, hb, hx'⟩ := hx.out hpos
    refine ⟨b, o, hA, hb, fun i hi => ?_⟩
    obtain ⟨x, h1, h3⟩ := hx' i hi
    exact ⟨x, h1, by rw [World.cell?_alloc_lt (h := by simpa using hb)]; exact h3⟩
  · obtain ⟨b, o, rfl, hb, hx'⟩ := hx.out (by omega)
    replace hx' := hid hx'
    go_enter Tryd.func54, Tryd.ntmps54
    go_wp2
    go_ret
    refine ⟨w.heap.size, rfl, Nat.le_refl _, ⟨_, 2000, c, 0, Nat.le_refl _, Blk.new w _ _, Nat.le_refl _, by omega, hc, by omega, fun _ => ⟨b, o, rfl, hb, fun i hi => ?_⟩⟩, (Below.refl _ _).alloc (Nat.le_refl _) _⟩
    obtain ⟨x, h1, h3⟩ := hx'.out i (by omega)
    exact ⟨x, h1, by rw [World.cell?_alloc_lt (h := by simpa using hb)]; exact h3⟩

def NumUp (R P : Nat) (xs : List Int) (w : World) (e : Ending) (w' : World) : Prop := ∃ x, x ∈ xs ∧ e = .returned (.int .i64 x) ∧ RdUp w' R (P + 1) ∧ KeepB (fun b => b = R) w w'
/-- A number out of a list that has just been made. -/
theorem num_lit (R P : Nat) (xs : List Int) (w : World) (T : TypeId) (hk : 0 < xs.length) (hk2 : xs.length ≤ 1000) (hP : P < 1125899906842624) (hr : RdUp w R P) :
    Calls Tryd.prog 115 #[.pointer (some ⟨R, 0, none⟩), .slice (some ⟨w.heap.size, 0, none⟩) xs.length xs.length] (w.alloc (.cells (xs.map (Value.int .i64)).toArray T)) (NumUp R P xs w) := by
  have hR := hr.lt
  have hb : Below w.heap.size w (w.alloc (.cells (xs.map (Value.int .i64)).toArray T)) := (Below.refl _ _).alloc (Nat.le_refl _) _
  refine (num_up R P w.heap.size 0 xs.length xs.length xs _ rfl hk (by omega) hP (by omega) (by simp) (fun i h => ?_) (hr.later hb)).mono fun e w' ⟨x, h1, h2, h3, h4⟩ => ⟨x, h1, h2, h3, (KeepB.of_below hb).trans h4⟩
  rw [Nat.zero_add, World.cell?_alloc_at _ _ _ _ rfl]
  simp [h]

end Go.Proofs.YtempjhgajcdibaaDoor

/- The drawing kit: l2Texts, l19Num. -/
namespace Go.Proofs.YtempjhgajcdibaaDoor
open Go.RowKit Go.BigFrame AG

def isText (v : Value) : Bool := match v with | .string b => decide (b.size ≤ 60) | _ => false
theorem texts_list : ∀ vs : List Value, vs.all isText = true → ∃ xs : List ByteArray, vs = xs.map Value.string ∧ ∀ x ∈ xs, x.size ≤ 60
  | [], _ => ⟨[], rfl, by simp⟩
  | v :: vs, h => by
    rw [List.all_cons, Bool.and_eq_true] at h
    obtain ⟨xs, h1, h2⟩ := texts_list vs h.2
    have h3 := h.1
    unfold isText at h3
    split at h3
    · rename_i b
      refine ⟨b :: xs, by rw [h1]; rfl, fun x hx => ?_⟩
      rcases List.mem_cons.1 hx with rfl | hx
      · exact of_decide_eq_true h3
      · exact h2 x hx
    · cases h3
theorem texts_of (w : World) (T : TypeId) (cs : Array Value) (h : cs.toList.all isText = true) :
    ∃ xs : List ByteArray, xs.length = cs.size ∧ (∀ x ∈ xs, x.size ≤ 60) ∧ ∀ i (hi : i < xs.length), (w.alloc (.cells cs T)).cell? ⟨w.heap.size, 0 + i, none⟩ = some (.string xs[i]) := by
  obtain ⟨xs, h1, h2⟩ := texts_list _ h
  have hlen : xs.length = cs.size := by
    have := congrArg List.length h1
    simpa using this.symm
  refine ⟨xs, hlen, h2, fun i hi => ?_⟩
  rw [Nat.zero_add, World.cell?_alloc_at _ _ _ _ rfl, ← Array.getElem?_toList, h1, List.getElem?_map, List.getElem?_eq_getElem hi]
  rfl

theorem texts_post (w : World) (T : TypeId) (cs : Array Value) (e : Ending) (he : e = .returned (.slice (some ⟨w.heap.size, 0, none⟩) 11 11)) (hn : cs.size = 11) (h : cs.toList.all isText = true) :
    ∃ xs : List ByteArray, xs.length = 11 ∧ (∀ x ∈ xs, x.size ≤ 60) ∧ e = .returned (.slice (some ⟨w.heap.size, 0, none⟩) 11 11) ∧ (∀ i (hi : i < xs.length), (w.alloc (.cells cs T)).cell? ⟨w.heap.size, 0 + i, none⟩ = some (.string xs[i])) ∧ w.heap.size < (w.alloc (.cells cs T)).heap.size ∧ Below w.heap.size w (w.alloc (.cells cs T)) := by
  obtain ⟨xs, h1, h2, h3⟩ := texts_of w T cs h
  exact ⟨xs, h1.trans hn, h2, he, h3, by simp, (Below.refl _ _).alloc (Nat.le_refl _) _⟩

set_option maxHeartbeats 1000000 in
theorem l2Texts_any (w : World) :
    Calls Tryd.prog 158 #[] w fun e w' => ∃ xs : List ByteArray, xs.length = 11 ∧ (∀ x ∈ xs, x.size ≤ 60) ∧ e = .returned (.slice (some ⟨w.heap.size, 0, none⟩) 11 11) ∧ (∀ i (hi : i < xs.length), w'.cell? ⟨w.heap.size, 0 + i, none⟩ = some (.string xs[i])) ∧ w.heap.size < w'.heap.size ∧ Below w.heap.size w w' := by
  go_enter Tryd.func158, Tryd.ntmps158
  go_wp2
  go_ret
  exact texts_post w _ _ _ rfl rfl (by kernel_rfl)

end Go.Proofs.YtempjhgajcdibaaDoor

/- The drawing kit: l19Num ends with some number. -/
namespace Go.Proofs.YtempjhgajcdibaaDoor
open Go.RowKit Go.BigFrame AG

theorem byte_some (s : ByteArray) (i : Nat) (h : i < s.size) : ∃ y : Nat, y < 256 ∧ ((s[i]'h).toNat : Int) = (y : Int) := ⟨(s[i]'h).toNat, (s[i]'h).toNat_lt, rfl⟩

def NumPost (w : World) (e : Ending) (w' : World) : Prop := ∃ (n : Int) (b : Bool), e = .returned (.tuple #[.int .i64 n, .bool b]) ∧ w = w'

set_option maxHeartbeats 2000000 in
theorem l19Num_plain (s : ByteArray) (w : World) (hz : s.size ≤ 1000000) (hn : ∀ h : 0 < s.size, (s[0]'h).toNat ≠ 45) :
    Calls Tryd.prog 178 #[.string s] w (NumPost w) := by
  by_cases h0 : s.size = 0
  · go_enter Tryd.func178, Tryd.ntmps178
    go_wp2
    go_ret2
    exact ⟨_, _, rfl, rfl⟩
  · have hpos : (0 : Int) < (s.size : Int) := by omega
    obtain ⟨y, hy, hy2⟩ := byte_some s 0 (by omega)
    have hneg2 : ((y : Int) == 45) = false := by
      have h45 : (s[0]'(by omega)).toNat ≠ 45 := hn (by omega)
      rw [beq_eq_false_iff_ne]
      omega
    replace hn := hid hn
    have a1 : ((s.size : Int) == 0) = false := by rw [beq_eq_false_iff_ne]; omega
    by_cases h17 : 17 < s.size
    · have a2 : decide (17 < (s.size : Int)) = true := by simp; omega
      go_enter Tryd.func178, Tryd.ntmps178
      go_wp2
      go_ret2
      exact ⟨_, _, rfl, rfl⟩
    · have a2 : decide (17 < (s.size : Int)) = false := by simp; omega
      by_cases hbad : y = 48 ∧ 1 < s.size
      · have a3 : ((y : Int) == 48) = true := by simp; omega
        have a4 : decide (1 < (s.size : Int)) = true := by simp; omega
        go_enter Tryd.func178, Tryd.ntmps178
        go_wp2
        go_ret2
        exact ⟨_, _, rfl, rfl⟩
      · by_cases h48 : y = 48
        · have a3 : ((y : Int) == 48) = true := by simp; omega
          have a4 : decide (1 < (s.size : Int)) = false := by simp; omega
          replace hbad := hid hbad
          go_enter Tryd.func178, Tryd.ntmps178
          go_wp2_with fail
          go_loopw [5, 6] (fun v i wr => ∃ (x : Int) (k : Nat), v = .int .i64 x ∧ i = .int .i64 k ∧ k ≤ s.size ∧ w = wr) (fun _ i _ => s.size - (intOf i).toNat)
          case atStart => exact ⟨0, 0, rfl, rfl, by omega, rfl⟩
          case round =>
            obtain ⟨x, k, rfl, rfl, hk, rfl⟩ := hrel
            by_cases hlt : k < s.size
            · obtain ⟨z, hz1, hz2⟩ := byte_some s k hlt
              have hk2 : (0 : Int) ≤ (k : Int) ∧ (k : Int) < (s.size : Int) := by omega
              go_wp2
              all_goals first
                | (go_ret2; exact ⟨_, _, rfl, rfl⟩)
                | (go_roundw
                   case rel => exact ⟨_, k + 1, rfl, by go_num, by omega, by first | trivial | rfl⟩
                   case measure => simp [intOf]; omega)
            · go_wp2
              go_ret2
              exact ⟨_, _, rfl, rfl⟩
        · have a3 : ((y : Int) == 48) = false := by simp; omega
          replace hbad := hid hbad
          go_enter Tryd.func178, Tryd.ntmps178
          go_wp2_with fail
          go_loopw [5, 6] (fun v i wr => ∃ (x : Int) (k : Nat), v = .int .i64 x ∧ i = .int .i64 k ∧ k ≤ s.size ∧ w = wr) (fun _ i _ => s.size - (intOf i).toNat)
          case atStart => exact ⟨0, 0, rfl, rfl, by omega, rfl⟩
          case round =>
            obtain ⟨x, k, rfl, rfl, hk, rfl⟩ := hrel
            by_cases hlt : k < s.size
            · obtain ⟨z, hz1, hz2⟩ := byte_some s k hlt
              have hk2 : (0 : Int) ≤ (k : Int) ∧ (k : Int) < (s.size : Int) := by omega
              go_wp2
              all_goals first
                | (go_ret2; exact ⟨_, _, rfl, rfl⟩)
                | (go_roundw
                   case rel => exact ⟨_, k + 1, rfl, by go_num, by omega, by first | trivial | rfl⟩
                   case measure => simp [intOf]; omega)
            · go_wp2
              go_ret2
              exact ⟨_, _, rfl, rfl⟩

set_option maxHeartbeats 2000000 in
theorem l19Num_sign (s : ByteArray) (w : World) (hz : s.size ≤ 1000000) (hs : 0 < s.size) (hn : (s[0]'hs).toNat = 45) :
    Calls Tryd.prog 178 #[.string s] w (NumPost w) := by
  have hpos : (0 : Int) < (s.size : Int) := by omega
  obtain ⟨y, hy, hy2⟩ := byte_some s 0 hs
  have hneg2 : ((y : Int) == 45) = true := by rw [beq_iff_eq]; omega
  obtain ⟨t, ht⟩ : ∃ t, s.extract 1 s.size = t := ⟨_, rfl⟩
  have htz : t.size = s.size - 1 := by rw [← ht, ByteArray.size_extract]; omega
  have hle : (1 : Int) ≤ (s.size : Int) := by omega
  have htl : t.size ≤ 1000000 := by omega
  replace htz := hid htz
  replace hn := hid hn
  by_cases h0 : t.size = 0
  · have a1 : ((t.size : Int) == 0) = true := by rw [beq_iff_eq]; omega
    go_enter Tryd.func178, Tryd.ntmps178
    go_wp2
    go_ret2
    exact ⟨_, _, rfl, rfl⟩
  · have a1 : ((t.size : Int) == 0) = false := by rw [beq_eq_false_iff_ne]; omega
    have hpos2 : (0 : Int) < (t.size : Int) := by omega
    obtain ⟨y2, hy3, hy4⟩ := byte_some t 0 (by omega)
    by_cases h17 : 17 < t.size
    · have a2 : decide (17 < (t.size : Int)) = true := by simp; omega
      go_enter Tryd.func178, Tryd.ntmps178
      go_wp2
      go_ret2
      exact ⟨_, _, rfl, rfl⟩
    · have a2 : decide (17 < (t.size : Int)) = false := by simp; omega
      by_cases h48 : y2 = 48
      · have a3 : ((y2 : Int) == 48) = true := by simp; omega
        by_cases h1 : 1 < t.size
        all_goals
          go_enter Tryd.func178, Tryd.ntmps178
          go_wp2
          go_ret2
          exact ⟨_, _, rfl, rfl⟩
      · have a3 : ((y2 : Int) == 48) = false := by simp; omega
        go_enter Tryd.func178, Tryd.ntmps178
        go_wp2_with fail
        go_loopw [5, 6] (fun v i wr => ∃ (x : Int) (k : Nat), v = .int .i64 x ∧ i = .int .i64 k ∧ k ≤ t.size ∧ w = wr) (fun _ i _ => t.size - (intOf i).toNat)
        case atStart => exact ⟨0, 0, rfl, rfl, by omega, rfl⟩
        case round =>
          obtain ⟨x, k, rfl, rfl, hk, rfl⟩ := hrel
          by_cases hlt : k < t.size
          · obtain ⟨z, hz1, hz2⟩ := byte_some t k hlt
            have hk2 : (0 : Int) ≤ (k : Int) ∧ (k : Int) < (t.size : Int) := by omega
            go_wp2
            all_goals first
              | (go_ret2; exact ⟨_, _, rfl, rfl⟩)
              | (go_roundw
                 case rel => exact ⟨_, k + 1, rfl, by go_num, by omega, by first | trivial | rfl⟩
                 case measure => simp [intOf]; omega)
          · go_wp2
            go_ret2
            exact ⟨_, _, rfl, rfl⟩

theorem l19Num_any (s : ByteArray) (w : World) (hz : s.size ≤ 1000000) : Calls Tryd.prog 178 #[.string s] w (NumPost w) := by
  by_cases hs : 0 < s.size
  · by_cases hn : (s[0]'hs).toNat = 45
    · exact l19Num_sign s w hz hs hn
    · exact l19Num_plain s w hz fun _ => hn
  · exact l19Num_plain s w hz fun h => absurd h hs

end Go.Proofs.YtempjhgajcdibaaDoor

/- Plain: sets of states as numbers; the states that letters of an alphabet lead to; deterministic systems. -/
namespace AG

/-- The set of the numbers below n of which p holds, as a number. -/
noncomputable def bitsOf (p : Nat → Prop) : Nat → Nat
  | 0 => 0
  | n + 1 => open Classical in if p n then bitsOf p n ||| 2 ^ n else bitsOf p n

theorem bitsOf_testBit (p : Nat → Prop) (n q : Nat) : (bitsOf p n).testBit q = true ↔ q < n ∧ p q := by
  induction n with
  | zero => simp [bitsOf]
  | succ n ih =>
    unfold bitsOf
    split
    · rename_i h
      rw [Nat.testBit_or, Nat.testBit_two_pow, Bool.or_eq_true, ih, decide_eq_true_eq]
      constructor
      · rintro (⟨h1, h2⟩ | rfl)
        · exact ⟨by omega, h2⟩
        · exact ⟨by omega, h⟩
      · rintro ⟨h1, h2⟩
        by_cases e : n = q
        · exact .inr e
        · exact .inl ⟨by omega, h2⟩
    · rename_i h
      rw [ih]
      constructor
      · rintro ⟨h1, h2⟩; exact ⟨by omega, h2⟩
      · rintro ⟨h1, h2⟩
        by_cases e : q = n
        · subst e; exact absurd h2 h
        · exact ⟨by omega, h2⟩

theorem bitsOf_lt (p : Nat → Prop) (n : Nat) : bitsOf p n < 2 ^ n := by
  refine Nat.lt_pow_two_of_testBit _ fun i hi => ?_
  rw [← Bool.not_eq_true]
  intro h
  have := ((bitsOf_testBit p n i).1 h).1
  omega

theorem Has_nat (S n : Nat) : Has (S : Int) n = S.testBit n := by
  unfold Has
  rw [Nat.testBit_eq_decide_div_mod_eq]
  have : ((S : Int) / (2 : Int) ^ n) % 2 = ((S / 2 ^ n % 2 : Nat) : Int) := by
    rw [Int.natCast_emod, Int.natCast_ediv, Int.natCast_pow]; rfl
  rw [this]
  congr 1
  rw [eq_iff_iff]
  omega

theorem testBit_lt {S n q : Nat} (h : S < 2 ^ n) (hq : S.testBit q = true) : q < n := by
  rcases Nat.lt_or_ge q n with h1 | h1
  · exact h1
  · rw [Nat.testBit_lt_two_pow (Nat.lt_of_lt_of_le h (Nat.pow_le_pow_right (by omega) h1))] at hq
    cases hq

/-- The states to which a letter leads from a set of states. -/
noncomputable def stepSet (s : Sy) (S : Nat) (l : Int) : Nat := bitsOf (fun t => ∃ e ∈ s.es, e.l = l ∧ S.testBit e.f.toNat = true ∧ e.t.toNat = t) 16

/-- q is reached from S along edges whose letters are in the alphabet A. -/
def Rch (s : Sy) (A : Int) (S : Nat) (q : Nat) : Prop :=
  ∀ R : Nat → Prop, (∀ x, S.testBit x = true → R x) → (∀ e ∈ s.es, Has A e.l.toNat = true → R e.f.toNat → R e.t.toNat) → R q

noncomputable def reachSet (s : Sy) (A : Int) (S : Nat) : Nat := bitsOf (Rch s A S) 16

/-- The edges' numbers are in their ranges. -/
def edgesIn (s : Sy) : Prop := ∀ e ∈ s.es, 0 ≤ e.f ∧ e.f < 16 ∧ 0 ≤ e.t ∧ e.t < 16 ∧ 0 ≤ e.l ∧ e.l < 6 ∧ Has s.al e.l.toNat = true ∧ e.f < s.st ∧ e.t < s.st

theorem sysOk_edge {s : Sy} (h : sysOk s = true) {i : Nat} (hi : i < s.es.length) : edgeOk s.al s.st s.es[i] = true := by
  unfold sysOk at h
  rw [decide_eq_true_iff] at h
  exact (h.2.2.2 i hi hi).1
theorem sysOk_st {s : Sy} (h : sysOk s = true) : 1 ≤ s.st ∧ s.st ≤ 16 := by
  unfold sysOk at h
  rw [decide_eq_true_iff] at h
  exact ⟨h.2.1, h.2.2.1⟩
theorem sysOk_lt {s : Sy} (h : sysOk s = true) {i : Nat} (hi : i + 1 < s.es.length) : edgeLt s.es[i] s.es[i + 1] = true := by
  unfold sysOk at h
  rw [decide_eq_true_iff] at h
  exact (h.2.2.2 (i + 1) hi hi).2 i (by omega) rfl
theorem sysOk_in {s : Sy} (h : sysOk s = true) : edgesIn s := by
  intro e he
  obtain ⟨i, hi, rfl⟩ := List.mem_iff_getElem.1 he
  have h1 := sysOk_edge h hi
  have h2 := sysOk_st h
  unfold edgeOk at h1
  rw [Bool.and_eq_true, decide_eq_true_iff] at h1
  obtain ⟨⟨a, b, c, d, e1, f⟩, g⟩ := h1
  exact ⟨a, by omega, c, by omega, e1, f, g, b, d⟩

/-- A set that holds S, is closed, and lies in every such set is the set reached. -/
theorem reach_unique {s : Sy} {A : Int} {S R : Nat} (hR : R < 2 ^ 16) (h0 : ∀ x, S.testBit x = true → R.testBit x = true)
    (h1 : ∀ e ∈ s.es, Has A e.l.toNat = true → R.testBit e.f.toNat = true → R.testBit e.t.toNat = true) (h2 : ∀ x, R.testBit x = true → Rch s A S x) : R = reachSet s A S := by
  refine Nat.eq_of_testBit_eq fun q => ?_
  rw [Bool.eq_iff_iff, reachSet, bitsOf_testBit]
  exact ⟨fun h => ⟨testBit_lt hR h, h2 q h⟩, fun h => h.2 _ h0 h1⟩

theorem Rch.start {s : Sy} {A : Int} {S q : Nat} (h : S.testBit q = true) : Rch s A S q := fun _ h0 _ => h0 q h
theorem Rch.step {s : Sy} {A : Int} {S : Nat} {e : Ed} (he : e ∈ s.es) (hA : Has A e.l.toNat = true) (h : Rch s A S e.f.toNat) : Rch s A S e.t.toNat :=
  fun R h0 h1 => h1 e he hA (h R h0 h1)

/-- All reached states. -/
noncomputable def reachAll (s : Sy) : Nat := reachSet s s.al 1

/-- No two edges with one letter leave a reached state. -/
def detAt (s : Sy) (S : Nat) (k : Nat) : Prop := ∀ i (h : i + 1 < s.es.length), i < k → ¬ (Has (S : Int) s.es[i].f.toNat = true ∧ s.es[i].f = s.es[i + 1].f ∧ s.es[i].l = s.es[i + 1].l)
open Classical in
noncomputable def detB (s : Sy) : Bool := sysOk s && decide (detAt s (reachAll s) s.es.length)

theorem or_pow_lt {S n t : Nat} (h : S < 2 ^ n) (ht : t < n) : S ||| 2 ^ t < 2 ^ n := Nat.or_lt_two_pow h (Nat.pow_lt_pow_right (by omega) ht)
theorem testBit_or_pow (S t q : Nat) : (S ||| 2 ^ t).testBit q = true ↔ S.testBit q = true ∨ t = q := by
  rw [Nat.testBit_or, Nat.testBit_two_pow, Bool.or_eq_true, decide_eq_true_eq]

/-- The states to which the first k edges lead from q with the letter l. -/
noncomputable def mvTo (s : Sy) (k q l : Nat) : Nat := bitsOf (fun t => ∃ i, ∃ (h : i < s.es.length), i < k ∧ s.es[i].f.toNat = q ∧ s.es[i].l.toNat = l ∧ s.es[i].t.toNat = t) 16
noncomputable def mv (s : Sy) (q l : Nat) : Nat := mvTo s s.es.length q l
theorem mvTo_lt (s : Sy) (k q l : Nat) : mvTo s k q l < 65536 := by unfold mvTo; exact bitsOf_lt _ 16
theorem mv_lt (s : Sy) (q l : Nat) : mv s q l < 65536 := mvTo_lt s _ q l
theorem mvTo_zero (s : Sy) (q l : Nat) : mvTo s 0 q l = 0 := by
  refine Nat.eq_of_testBit_eq fun t => ?_
  rw [Nat.zero_testBit, ← Bool.not_eq_true, mvTo, bitsOf_testBit]
  rintro ⟨_, i, _, h, _⟩
  omega
theorem mvTo_hit {s : Sy} (hs : edgesIn s) {k : Nat} (hk : k < s.es.length) : mvTo s (k + 1) s.es[k].f.toNat s.es[k].l.toNat = mvTo s k s.es[k].f.toNat s.es[k].l.toNat ||| 2 ^ s.es[k].t.toNat := by
  refine Nat.eq_of_testBit_eq fun t => ?_
  obtain ⟨a, b, c, d, _⟩ := hs s.es[k] (List.getElem_mem _)
  rw [Bool.eq_iff_iff, testBit_or_pow, mvTo, mvTo, bitsOf_testBit, bitsOf_testBit]
  constructor
  · rintro ⟨h1, i, hi, hik, e1, e2, e3⟩
    by_cases e : i = k
    · subst e; exact .inr e3
    · exact .inl ⟨h1, i, hi, by omega, e1, e2, e3⟩
  · rintro (⟨h1, i, hi, hik, e1, e2, e3⟩ | e)
    · exact ⟨h1, i, hi, by omega, e1, e2, e3⟩
    · exact ⟨by omega, k, hk, by omega, rfl, rfl, e⟩
theorem mvTo_miss {s : Sy} {k q l : Nat} (hk : k < s.es.length) (h : ¬ (s.es[k].f.toNat = q ∧ s.es[k].l.toNat = l)) : mvTo s (k + 1) q l = mvTo s k q l := by
  refine Nat.eq_of_testBit_eq fun t => ?_
  rw [Bool.eq_iff_iff, mvTo, mvTo, bitsOf_testBit, bitsOf_testBit]
  constructor
  · rintro ⟨h1, i, hi, hik, e1, e2, e3⟩
    by_cases e : i = k
    · subst e; exact absurd ⟨e1, e2⟩ h
    · exact ⟨h1, i, hi, by omega, e1, e2, e3⟩
  · rintro ⟨h1, i, hi, hik, e1, e2, e3⟩
    exact ⟨h1, i, hi, by omega, e1, e2, e3⟩
theorem mv_testBit (s : Sy) (q l t : Nat) : (mv s q l).testBit t = true ↔ t < 16 ∧ ∃ e ∈ s.es, e.f.toNat = q ∧ e.l.toNat = l ∧ e.t.toNat = t := by
  rw [mv, mvTo, bitsOf_testBit]
  constructor
  · rintro ⟨h, i, hi, _, h2⟩
    exact ⟨h, s.es[i], List.getElem_mem _, h2⟩
  · rintro ⟨h, e, he, h2⟩
    obtain ⟨i, hi, rfl⟩ := List.mem_iff_getElem.1 he
    exact ⟨h, i, hi, hi, h2⟩

/-- The union of the sets that a table has at the members of S. -/
noncomputable def unionOf (m : Nat → Nat → Nat) (S l : Nat) : Nat := bitsOf (fun t => ∃ q, S.testBit q = true ∧ (m q l).testBit t = true) 16
theorem unionOf_lt (m : Nat → Nat → Nat) (S l : Nat) : unionOf m S l < 65536 := by unfold unionOf; exact bitsOf_lt _ 16
theorem unionOf_mv (s : Sy) (hs : edgesIn s) (S : Nat) (l : Nat) : unionOf (mv s) S l = stepSet s S (l : Int) := by
  refine Nat.eq_of_testBit_eq fun t => ?_
  rw [Bool.eq_iff_iff, unionOf, stepSet, bitsOf_testBit, bitsOf_testBit]
  constructor
  · rintro ⟨h, q, hq, hm⟩
    obtain ⟨_, e, he, h1, h2, h3⟩ := (mv_testBit s q l t).1 hm
    obtain ⟨_, _, _, _, a, _⟩ := hs e he
    exact ⟨h, e, he, by omega, by rw [h1]; exact hq, h3⟩
  · rintro ⟨h, e, he, h1, h2, h3⟩
    exact ⟨h, e.f.toNat, h2, (mv_testBit s _ l t).2 ⟨h, e, he, rfl, by omega, h3⟩⟩

/-- Half way through the members of S: T is left, O gathered. -/
structure Gather (m : Nat → Nat → Nat) (S l T O : Nat) : Prop where
  lt : T < 65536
  olt : O < 65536
  eq : ∀ t, (unionOf m S l).testBit t = true ↔ O.testBit t = true ∨ ∃ q, T.testBit q = true ∧ (m q l).testBit t = true
theorem Gather.start {m : Nat → Nat → Nat} {S l : Nat} (hm : ∀ q, m q l < 65536) (h : S < 65536) : Gather m S l S 0 :=
  ⟨h, by omega, fun t => by
    rw [unionOf, bitsOf_testBit, Nat.zero_testBit]
    constructor
    · rintro ⟨_, h⟩; exact .inr h
    · rintro (h | ⟨q, hq, ht⟩)
      · cases h
      · exact ⟨testBit_lt (n := 16) (hm q) ht, q, hq, ht⟩⟩
theorem Gather.next {m : Nat → Nat → Nat} {S l T O q : Nat} (h : Gather m S l T O) (hm : m q l < 65536) (hq : T.testBit q = true) {T' : Nat} (hT : ∀ j, T'.testBit j = (T.testBit j && decide (j ≠ q))) : Gather m S l T' (O ||| m q l) := by
  refine ⟨?_, Nat.or_lt_two_pow (n := 16) h.olt hm, fun t => ?_⟩
  · refine Nat.lt_pow_two_of_testBit (n := 16) _ fun i hi => ?_
    rw [hT, Nat.testBit_lt_two_pow (Nat.lt_of_lt_of_le h.lt (Nat.pow_le_pow_right (n := 2) (by omega) hi))]
    rfl
  · rw [h.eq, Nat.testBit_or, Bool.or_eq_true]
    constructor
    · rintro (h1 | ⟨r, hr, ht⟩)
      · exact .inl (.inl h1)
      · by_cases e : r = q
        · subst e; exact .inl (.inr ht)
        · exact .inr ⟨r, by rw [hT, hr]; simpa using e, ht⟩
    · rintro ((h1 | h1) | ⟨r, hr, ht⟩)
      · exact .inl h1
      · exact .inr ⟨q, hq, h1⟩
      · rw [hT, Bool.and_eq_true] at hr
        exact .inr ⟨r, hr.1, ht⟩
theorem Gather.done {m : Nat → Nat → Nat} {S l O : Nat} (h : Gather m S l 0 O) : O = unionOf m S l := by
  refine Nat.eq_of_testBit_eq fun t => ?_
  rw [Bool.eq_iff_iff, h.eq]
  simp [Nat.zero_testBit]

/-- Taking the lowest bit away. -/
theorem drop_low {x q m : Nat} (hx : x = 2 ^ q * (2 * m + 1)) : x.testBit q = true ∧ (∀ j, (x &&& (x - 1)).testBit j = (x.testBit j && decide (j ≠ q))) ∧ x &&& (x - 1) < x := by
  have hpos : 0 < 2 ^ q := Nat.two_pow_pos q
  have e1 : x = 2 ^ q * (2 * m + 1) + 0 := by omega
  have e2 : x - 1 = 2 ^ q * (2 * m) + (2 ^ q - 1) := by rw [hx, Nat.mul_add]; omega
  have t1 : ∀ j, x.testBit j = if j < q then false else (2 * m + 1).testBit (j - q) := fun j => by
    rw [e1, Nat.testBit_two_pow_mul_add _ hpos, Nat.zero_testBit]
  have t2 : ∀ j, (x - 1).testBit j = if j < q then (2 ^ q - 1).testBit j else (2 * m).testBit (j - q) := fun j => by
    rw [e2, Nat.testBit_two_pow_mul_add _ (by omega)]
  refine ⟨by rw [t1, if_neg (by omega)]; simp, fun j => ?_, ?_⟩
  · rw [Nat.testBit_and, t1, t2]
    by_cases hj : j < q
    · simp [hj]
    · rw [if_neg hj, if_neg hj]
      by_cases e : j = q
      · subst e; simp
      · obtain ⟨d, rfl⟩ : ∃ d, j = q + 1 + d := ⟨j - q - 1, by omega⟩
        have : q + 1 + d - q = d + 1 := by omega
        rw [this, Nat.testBit_succ, Nat.testBit_succ]
        have a1 : (2 * m + 1) / 2 = m := by omega
        have a2 : 2 * m / 2 = m := by omega
        rw [a1, a2, Bool.and_self]
        simp; omega
  · have := Nat.and_le_right (n := x) (m := x - 1)
    have hx1 : 0 < x := by rw [hx]; exact Nat.mul_pos hpos (by omega)
    omega

theorem lt_or_pow {T t : Nat} (h : T.testBit t = false) : T < T ||| 2 ^ t := by
  have h1 : T ≤ T ||| 2 ^ t := Nat.left_le_or
  rcases Nat.lt_or_ge T (T ||| 2 ^ t) with h2 | h2
  · exact h2
  · have e : T = T ||| 2 ^ t := by omega
    have : T.testBit t = true := by rw [e, testBit_or_pow]; exact .inr rfl
    rw [h] at this
    cases this

/-- A pass over the edges that gathers what is reached: T0 at its start, T behind k edges. -/
structure Pass (s : Sy) (A : Int) (S T0 T : Nat) (k : Nat) (more : Bool) : Prop where
  lt : T < 2 ^ 16
  base : ∀ x, S.testBit x = true → T.testBit x = true
  inside : ∀ x, T.testBit x = true → Rch s A S x
  unmoved : more = false → T = T0 ∧ ∀ i (h : i < s.es.length), i < k → Has A s.es[i].l.toNat = true → T.testBit s.es[i].f.toNat = true → T.testBit s.es[i].t.toNat = true
  moved : more = true → T0 < T
theorem Pass.start {s : Sy} {A : Int} {S T : Nat} (h0 : T < 2 ^ 16) (h1 : ∀ x, S.testBit x = true → T.testBit x = true) (h2 : ∀ x, T.testBit x = true → Rch s A S x) : Pass s A S T T 0 false :=
  ⟨h0, h1, h2, fun _ => ⟨rfl, fun _ _ h => by omega⟩, fun h => by cases h⟩
theorem Pass.skip {s : Sy} {A : Int} {S T0 T k : Nat} {more : Bool} (h : Pass s A S T0 T k more) (hk : k < s.es.length)
    (hn : ¬ (Has A s.es[k].l.toNat = true ∧ T.testBit s.es[k].f.toNat = true ∧ T.testBit s.es[k].t.toNat = false)) : Pass s A S T0 T (k + 1) more :=
  ⟨h.lt, h.base, h.inside, fun hm => ⟨(h.unmoved hm).1, fun i hi hik ha hf => by
    by_cases e : i = k
    · subst e
      rcases hb : T.testBit s.es[i].t.toNat with _ | _
      · exact absurd ⟨ha, hf, hb⟩ hn
      · rfl
    · exact (h.unmoved hm).2 i hi (by omega) ha hf⟩, h.moved⟩
theorem Pass.add {s : Sy} {A : Int} {S T0 T k : Nat} {more : Bool} (hs : edgesIn s) (h : Pass s A S T0 T k more) (hk : k < s.es.length)
    (ha : Has A s.es[k].l.toNat = true) (hf : T.testBit s.es[k].f.toNat = true) (ht : T.testBit s.es[k].t.toNat = false) : Pass s A S T0 (T ||| 2 ^ s.es[k].t.toNat) (k + 1) true := by
  obtain ⟨a, b, c, d, _⟩ := hs s.es[k] (List.getElem_mem _)
  have hlt := lt_or_pow ht
  refine ⟨or_pow_lt h.lt (by omega), fun x hx => by rw [testBit_or_pow]; exact .inl (h.base x hx), fun x hx => ?_, fun hm => (by cases hm), fun _ => ?_⟩
  · rw [testBit_or_pow] at hx
    rcases hx with hx | rfl
    · exact h.inside x hx
    · exact Rch.step (List.getElem_mem hk) ha (h.inside _ hf)
  · cases more with
    | true => have := h.moved rfl; omega
    | false => have := (h.unmoved rfl).1; omega
theorem Pass.done {s : Sy} {A : Int} {S T0 T : Nat} (h : Pass s A S T0 T s.es.length false) : T = reachSet s A S := by
  refine reach_unique h.lt h.base (fun e he ha hf => ?_) h.inside
  obtain ⟨i, hi, rfl⟩ := List.mem_iff_getElem.1 he
  exact (h.unmoved rfl).2 i hi hi ha hf

/-- T and all that the letters ls lead to from T. -/
noncomputable def closeL (m : Nat → Nat → Nat) (T : Nat) (ls : List Nat) : Nat := ls.foldl (fun U l => U ||| unionOf m T l) T
theorem closeL_snoc (m : Nat → Nat → Nat) (T : Nat) (ls : List Nat) (l : Nat) : closeL m T (ls ++ [l]) = closeL m T ls ||| unionOf m T l := by simp [closeL]
theorem closeL_testBit (m : Nat → Nat → Nat) (T : Nat) (ls : List Nat) (t : Nat) : (closeL m T ls).testBit t = true ↔ T.testBit t = true ∨ ∃ l ∈ ls, (unionOf m T l).testBit t = true := by
  have key : ∀ (ls : List Nat) (U : Nat), (ls.foldl (fun U l => U ||| unionOf m T l) U).testBit t = true ↔ U.testBit t = true ∨ ∃ l ∈ ls, (unionOf m T l).testBit t = true := by
    intro ls
    induction ls with
    | nil => intro U; simp
    | cons l ls ih =>
      intro U
      rw [List.foldl_cons, ih, Nat.testBit_or, Bool.or_eq_true]
      simp only [List.mem_cons, exists_eq_or_imp]
      exact or_assoc
  exact key ls T
theorem closeL_lt (m : Nat → Nat → Nat) {T : Nat} (hT : T < 65536) (ls : List Nat) : closeL m T ls < 65536 := by
  have key : ∀ (ls : List Nat) (U : Nat), U < 65536 → ls.foldl (fun U l => U ||| unionOf m T l) U < 65536 := by
    intro ls
    induction ls with
    | nil => intro U h; exact h
    | cons l ls ih => intro U h; exact ih _ (Nat.or_lt_two_pow (n := 16) h (unionOf_lt m T l))
  exact key ls T hT
theorem closeL_ge (m : Nat → Nat → Nat) (T : Nat) (ls : List Nat) : T ≤ closeL m T ls := by
  have key : ∀ (ls : List Nat) (U : Nat), U ≤ ls.foldl (fun U l => U ||| unionOf m T l) U := by
    intro ls
    induction ls with
    | nil => intro U; exact Nat.le_refl _
    | cons l ls ih => intro U; exact Nat.le_trans Nat.left_le_or (ih _)
  exact key ls T
theorem closeL_inside {s : Sy} (hs : edgesIn s) {A : Int} {S T : Nat} {ls : List Nat} (h : ∀ x, T.testBit x = true → Rch s A S x) (hls : ∀ e ∈ s.es, e.l.toNat ∈ ls → Has A e.l.toNat = true) : ∀ x, (closeL (mv s) T ls).testBit x = true → Rch s A S x := by
  intro x hx
  rcases (closeL_testBit _ _ _ _).1 hx with h1 | ⟨l, hl, h1⟩
  · exact h x h1
  · rw [unionOf_mv s hs, stepSet, bitsOf_testBit] at h1
    obtain ⟨_, e, he, e1, e2, e3⟩ := h1
    have h2 : e.l.toNat = l := by omega
    rw [← e3]
    exact Rch.step he (hls e he (by rw [h2]; exact hl)) (h _ e2)
theorem closeL_fix {s : Sy} (hs : edgesIn s) {A : Int} {S T : Nat} {ls : List Nat} (hT : T < 65536) (hfix : closeL (mv s) T ls = T) (hbase : ∀ x, S.testBit x = true → T.testBit x = true) (hin : ∀ x, T.testBit x = true → Rch s A S x)
    (hls : ∀ e ∈ s.es, Has A e.l.toNat = true → e.l.toNat ∈ ls) : T = reachSet s A S := by
  refine reach_unique hT hbase (fun e he hA hf => ?_) hin
  obtain ⟨a, b, c, d, e1, f, _⟩ := hs e he
  rw [← hfix, closeL_testBit]
  refine .inr ⟨e.l.toNat, hls e he hA, ?_⟩
  rw [unionOf_mv s hs, stepSet, bitsOf_testBit]
  exact ⟨by omega, e, he, by omega, hf, rfl⟩
/-- .. the first k letters. -/
noncomputable def closeTo (m : Nat → Nat → Nat) (T k : Nat) : Nat := closeL m T (List.range k)
theorem closeTo_zero (m : Nat → Nat → Nat) (T : Nat) : closeTo m T 0 = T := rfl
theorem closeTo_succ (m : Nat → Nat → Nat) (T k : Nat) : closeTo m T (k + 1) = closeTo m T k ||| unionOf m T k := by unfold closeTo; rw [List.range_succ, closeL_snoc]
theorem reachSet_lt (s : Sy) (A : Int) (S : Nat) : reachSet s A S < 65536 := by unfold reachSet; exact bitsOf_lt _ 16
theorem reachAll_lt (s : Sy) : reachAll s < 65536 := reachSet_lt _ _ _

end AG

/- Plain: one step of a set of states, edge by edge; the letters of an alphabet in order. -/
namespace AG

/-- The states to which the first k edges lead from the members of S with the letter l. -/
noncomputable def stTo (s : Sy) (S : Nat) (l : Int) (k : Nat) : Nat := bitsOf (fun t => ∃ i, ∃ (_ : i < s.es.length), i < k ∧ s.es[i].l = l ∧ S.testBit s.es[i].f.toNat = true ∧ s.es[i].t.toNat = t) 16
theorem stTo_lt (s : Sy) (S : Nat) (l : Int) (k : Nat) : stTo s S l k < 65536 := by unfold stTo; exact bitsOf_lt _ 16
theorem stTo_zero (s : Sy) (S : Nat) (l : Int) : stTo s S l 0 = 0 := by
  refine Nat.eq_of_testBit_eq fun t => ?_
  rw [Nat.zero_testBit, ← Bool.not_eq_true, stTo, bitsOf_testBit]
  rintro ⟨_, i, _, h, _⟩
  omega
theorem stTo_hit {s : Sy} (hs : edgesIn s) {S : Nat} {l : Int} {k : Nat} (hk : k < s.es.length) (h1 : s.es[k].l = l) (h2 : S.testBit s.es[k].f.toNat = true) : stTo s S l (k + 1) = stTo s S l k ||| 2 ^ s.es[k].t.toNat := by
  refine Nat.eq_of_testBit_eq fun t => ?_
  obtain ⟨a, b, c, d, _⟩ := hs s.es[k] (List.getElem_mem _)
  rw [Bool.eq_iff_iff, testBit_or_pow, stTo, stTo, bitsOf_testBit, bitsOf_testBit]
  constructor
  · rintro ⟨h1, i, hi, hik, e1, e2, e3⟩
    by_cases e : i = k
    · subst e; exact .inr e3
    · exact .inl ⟨h1, i, hi, by omega, e1, e2, e3⟩
  · rintro (⟨h1, i, hi, hik, e1, e2, e3⟩ | e)
    · exact ⟨h1, i, hi, by omega, e1, e2, e3⟩
    · exact ⟨by omega, k, hk, by omega, h1, h2, e⟩
theorem stTo_miss {s : Sy} {S : Nat} {l : Int} {k : Nat} (hk : k < s.es.length) (h : ¬ (s.es[k].l = l ∧ S.testBit s.es[k].f.toNat = true)) : stTo s S l (k + 1) = stTo s S l k := by
  refine Nat.eq_of_testBit_eq fun t => ?_
  rw [Bool.eq_iff_iff, stTo, stTo, bitsOf_testBit, bitsOf_testBit]
  constructor
  · rintro ⟨h1, i, hi, hik, e1, e2, e3⟩
    by_cases e : i = k
    · subst e; exact absurd ⟨e1, e2⟩ h
    · exact ⟨h1, i, hi, by omega, e1, e2, e3⟩
  · rintro ⟨h1, i, hi, hik, e1, e2, e3⟩
    exact ⟨h1, i, hi, by omega, e1, e2, e3⟩
theorem stTo_all (s : Sy) (S : Nat) (l : Int) : stTo s S l s.es.length = stepSet s S l := by
  refine Nat.eq_of_testBit_eq fun t => ?_
  rw [Bool.eq_iff_iff, stTo, stepSet, bitsOf_testBit, bitsOf_testBit]
  constructor
  · rintro ⟨h, i, hi, _, e1, e2, e3⟩
    exact ⟨h, s.es[i], List.getElem_mem _, e1, e2, e3⟩
  · rintro ⟨h, e, he, e1, e2, e3⟩
    obtain ⟨i, hi, rfl⟩ := List.mem_iff_getElem.1 he
    exact ⟨h, i, hi, hi, e1, e2, e3⟩
theorem stepSet_lt (s : Sy) (S : Nat) (l : Int) : stepSet s S l < 65536 := by unfold stepSet; exact bitsOf_lt _ 16

/-- Two systems that may be compared. -/
def cmpOk (a b : Sy) : Bool := sysOk a && (sysOk b && decide (a.al = b.al))

/-- The letters of an alphabet, in order. -/
def lettersTo (A : Int) (k : Nat) : List Nat := (List.range k).filter fun l => Has A l
def letters (A : Int) : List Nat := lettersTo A 6
theorem lettersTo_zero (A : Int) : lettersTo A 0 = [] := rfl
theorem lettersTo_succ (A : Int) (k : Nat) : lettersTo A (k + 1) = if Has A k then lettersTo A k ++ [k] else lettersTo A k := by
  unfold lettersTo
  rw [List.range_succ, List.filter_append]
  by_cases h : Has A k = true
  · simp [h]
  · simp [h]
theorem lettersTo_len (A : Int) (k : Nat) : (lettersTo A k).length ≤ k := by
  unfold lettersTo
  exact Nat.le_trans (List.length_filter_le _ _) (by simp)
theorem letters_lt {A : Int} {l : Nat} (h : l ∈ letters A) : l < 6 ∧ Has A l = true := by
  unfold letters lettersTo at h
  rw [List.mem_filter, List.mem_range] at h
  exact h
theorem letters_sorted (A : Int) : (letters A).Pairwise (· < ·) := by
  unfold letters lettersTo
  exact List.Pairwise.filter _ List.pairwise_lt_range

end AG

/- The reference's l1Letters, l1Text. -/
namespace Go.Proofs.YtempjhgajcdibaaDoor
open Go.RowKit Go.BigFrame AG

theorem infoInt : (Tryd.prog.info? 3).map (fun i => (i.zero, i.size, i.bytes)) = some (some (.int .i64 0), 1, 8) := by kernel_rfl

/-- The numbers ns, as an owned slice. -/
def OwnNats (w : World) (B : Nat) (v : Value) (ns : List Nat) : Prop := w.ownsRow B 3 1 v ns.length (ns.map fun (n : Nat) => Value.int .i64 (n : Int))

theorem own_block {w : World} {B : Nat} {e : TypeId} {size : Nat} {v : Value} {n : Nat} {xs : List Value} (h : w.ownsRow B e size v n xs) : ∀ k, v.ownBlock = some k → B ≤ k := by
  intro k hk
  obtain ⟨_, ⟨rfl, _⟩ | ⟨g, cap, cur, rfl, hg, _⟩⟩ := h
  · cases hk
  · cases hk
    exact hg

theorem heap_alloc_self (w : World) (o : Obj) : (w.alloc o).heap[w.heap.size]? = some o := by
  unfold World.alloc
  simp

/-- A letter is appended. -/
theorem letters_next {w wr w1 : World} {A : Int} {k : Nat} {v v' : Value} {c : Array Value} {t : TypeId} (hB : w.heap.size ≤ wr.heap.size) (h : Has A k = true) (hown : OwnNats wr w.heap.size v (lettersTo A k)) (hb : Below w.heap.size w wr)
    (hown' : w1.ownsRow w.heap.size 3 1 v' ((lettersTo A k).length + 1) (((lettersTo A k).map fun (n : Nat) => Value.int .i64 (n : Int)) ++ [.int .i64 (k : Int)])) (hg : (wr.alloc (.cells c t)).grownBy w1 v.ownBlock) :
    OwnNats w1 w.heap.size v' (lettersTo A (k + 1)) ∧ Below w.heap.size w w1 := by
  refine ⟨?_, Below.grown (hb.alloc hB _) hg (by simp; omega) (own_block hown)⟩
  unfold OwnNats
  rw [lettersTo_succ, if_pos h, List.length_append, List.map_append]
  exact hown'

set_option maxRecDepth 100000 in
set_option maxHeartbeats 1000000 in
theorem l1Letters_any (A : Int) (w : World) :
    Calls Tryd.prog 85 #[.int .i64 A] w fun e w' => ∃ v, e = .returned v ∧ OwnNats w' w.heap.size v (letters A) ∧ Below w.heap.size w w' := by
  obtain ⟨i0, hi, hz0, hz1, hz2⟩ := info_parts infoInt
  go_enter Tryd.func85, Tryd.ntmps85
  go_wp2_with fail
  go_loopw [3, 4] (fun v i wr => ∃ k : Nat, k ≤ 6 ∧ i = .int .i64 k ∧ OwnNats wr w.heap.size v (lettersTo A k) ∧ Below w.heap.size w wr) (fun _ i _ => 6 - (intOf i).toNat)
  case atStart =>
    refine ⟨0, by omega, rfl, ?_, by (repeat (first | exact Below.refl _ _ | assumption | refine Below.drew ?_ | refine Below.alloc ?_ (by first | omega | (simp; done) | (simp; omega)) _ | refine Below.setCell ?_ (by first | omega | (simp; done) | (simp; omega)) _))⟩
    refine ⟨rfl, .inr ⟨w.heap.size, 0, #[], rfl, Nat.le_refl _, heap_alloc_self _ _, Nat.le_refl _, Nat.zero_le _, rfl, rfl⟩⟩
  case round =>
    obtain ⟨k, hk, rfl, hown, hb⟩ := hrel
    have hz := hb.size
    have hlen := lettersTo_len A k
    by_cases hlt : k < 6
    · cases hH : Has A k
      · replace hH := hid hH
        go_wp2_with (go_at_call 95; refine (l1Has_any A k _ (by omega) (by omega)).mono ?_; rintro e w' ⟨rfl, rfl⟩; rw [Int.toNat_natCast, hH.out])
        refine ⟨⟨k + 1, by omega, by go_num, ?_, hb⟩, by simp [intOf]; omega⟩
        rw [lettersTo_succ, hH.out]
        exact hown
      · replace hH := hid hH
        unfold OwnNats at hown
        go_wp2_with (first
          | (go_at_call 95; refine (l1Has_any A k _ (by omega) (by omega)).mono ?_; rintro e w' ⟨rfl, rfl⟩; rw [Int.toNat_natCast, hH.out])
          | (at_builtin; refine wpList_append_own _ rfl _ _ 81 rfl w.heap.size 3 i0 (.int .i64 0) 1 8 Tryd.underlying81 hi hz0 hz1 hz2 rfl (by decide) _ _ _ rfl (hown.alloc _) ⟨wr.heap.size, 0, none⟩ 1 1 [.int .i64 (k : Int)] rfl rfl ?c1 ?c2 ?c3 ?c4 ?c5 ?_))
        case c1 =>
          intro j u hj
          match j, hj with
          | 0, hj => simp at hj; subst hj; simp [Addr.add]
        case c2 => intro u hu; simp at hu; subst hu; rfl
        case c3 => unfold maxLen; omega
        case c4 => omega
        case c5 => simp; omega
        · intro v' w1 hown' hgrow _
          have R := letters_next hz hH.out hown hb hown' hgrow
          clear hown' hgrow hown hb hlen
          go_wp2
          go_roundw
          case rel => exact ⟨k + 1, by omega, by go_num, R.1, R.2⟩
          case measure => simp [intOf]; omega
    · obtain rfl : k = 6 := by omega
      go_wp2
      go_ret
      exact ⟨_, rfl, hown, hb⟩

end Go.Proofs.YtempjhgajcdibaaDoor

/- The reference's l1Text. -/
namespace Go.Proofs.YtempjhgajcdibaaDoor
open Go.RowKit Go.BigFrame AG

/-- A letter's byte. -/
def letB (l : Nat) : UInt8 := UInt8.ofNat (97 + l)

set_option maxHeartbeats 1000000 in
theorem l1Text_any (l : Nat) (h : l < 6) (w : World) :
    Calls Tryd.prog 88 #[.int .i64 l] w fun e w' => e = .returned (.string ⟨#[letB l]⟩) ∧ Below w.heap.size w w' := by
  have hb : ((letB l).toNat : Int) = 97 + (l : Int) := by
    unfold letB
    rw [UInt8.toNat_ofNat']
    omega
  have kc : (convert 22 9 (.slice (some ⟨w.heap.size, 0, none⟩) 1 1)).run Tryd.prog (w.alloc (Obj.cells #[Value.int IntKind.u8 (97 + (l : Int))] 5)) = .ok (.string ⟨#[letB l]⟩) (w.alloc (Obj.cells #[Value.int IntKind.u8 (97 + (l : Int))] 5)) :=
    run_convert_bytes_back (P := Tryd.prog) _ 22 9 5 ⟨w.heap.size, 0, none⟩ 1 [letB l] Tryd.underlying22 Tryd.underlying5 Tryd.underlying9 (fun j hj => by
      obtain rfl : j = 0 := by simpa using hj
      rw [List.getElem_cons_zero, hb]
      simp [Addr.add])
  replace hb := hid hb
  go_enter Tryd.func88, Tryd.ntmps88
  go_wp2_with fail
  go_ret
  exact ⟨rfl, by (repeat (first | exact Below.refl _ _ | assumption | refine Below.drew ?_ | refine Below.alloc ?_ (by first | omega | (simp; done) | (simp; omega)) _ | refine Below.setCell ?_ (by first | omega | (simp; done) | (simp; omega)) _))⟩

end Go.Proofs.YtempjhgajcdibaaDoor
