/- Lemmas, part 7: several texts in one. -/
import Derived.Test.YtdkjnemakkppfaaGreatDoorU6
import Derived.Deep.Upon
import Derived.Deep.AppendSrc
import Derived.Test.YtdkjnemakkppfaaGreatDoorU2
import Derived.Test.YtdkjnemakkppfaaGreatDoorU3
import Derived.WalkKit
import Derived.Deep.Quiet
import Derived.Deep.AppendLies
import Derived.Test.YtdkjnemakkppfaaGreatDoorU4
set_option linter.unusedSimpArgs false
set_option linter.unusedVariables false

/- A slice is copied: append(empty, s...). -/
namespace AG
open Go Go.RowKit

theorem run_append_copy {P : Program} (w : World) (base : Nat) (t ty e : TypeId) (i : TypeInfo) (z : Value) (size bytes : Nat) (ht : P.underlying t = some (.slice e)) (hi : P.info? e = some i) (hz : i.zero = some z)
    (hsize : i.size = size) (hby : i.bytes = bytes) (hzs : z.cells.size = size) (g : Nat) (hg : w.heap[g]? = some (.cells #[] e (0, 0))) (hbg : base ≤ g) (hbase : base ≤ w.heap.size)
    (A : Option Addr) (m c : Nat) (news : List Value) (hl : news.length = m * size) (hA : 0 < m → ∃ a, A = some a ∧ ∀ j u, news[j]? = some u → w.cell? (a.add j) = some u) (h1 : ∀ u ∈ news, u.oneCell' = true)
    (h63 : m ≤ maxLen) (hbytes : m * bytes ≤ 140737488355328) :
    ∃ v' w', (Builtin.append_ #[t, t] ty #[.slice (some ⟨g, 0, none⟩) 0 0, .slice A m c]).run P w = .ok v' w' ∧ w'.ownsRow base e size v' m news ∧ Below w.heap.size w w' := by
  subst hsize
  subst hby
  by_cases hm : m = 0
  · subst hm
    have hn : news = [] := List.eq_nil_of_length_eq_zero (by simpa using hl)
    subst hn
    have hs : Src P i.size t (.slice A 0 c) 0 [] w := by
      cases A with
      | none => exact Src.ofNil w ht c
      | some a => exact Src.ofSlice w ht a 0 c [] (by simp) (fun j u hj => by simp at hj) (fun u hu => by cases hu)
    exact ⟨_, w, run_append_nothing w t t ty e i ht hi (some ⟨g, 0, none⟩) 0 0 (Nat.le_refl _) _ hs, ⟨by simp, .inr ⟨g, 0, #[], rfl, hbg, hg, Nat.le_refl _, Nat.zero_le _, by simp, by simp⟩⟩, Below.refl _ _⟩
  · obtain ⟨a, rfl, hnews⟩ := hA (by omega)
    have hsmall : m ≤ 9223372036854775807 := by simp only [maxLen] at h63; omega
    have hr := run_append_grow (P := P) w t ty e i z ht hi hz ⟨g, 0, none⟩ 0 0 [] (by simp) (fun j u hj => by simp at hj) a m c news hl hnews (by omega) (by omega) (growslice_fits (by omega) (by simpa using hbytes))
    simp only [Nat.zero_add] at hr
    refine ⟨_, _, hr, ⟨hl, .inr ⟨w.heap.size, _, _, rfl, hbase, heap_alloc_new w.drew _, grownCap_ge w m 0 e, grownCap_le_maxLen w m 0 e h63, ?_, ?_⟩⟩, ?_⟩
    · have := grownCap_ge w m 0 e
      simp only [Array.size_append, List.size_toArray, size_zeroCells, hzs, List.length_nil, Nat.zero_add, hl, ← Nat.add_mul]
      congr 1
      omega
    · have e1 : ([].toArray ++ news.toArray ++ Builtin.zeroCells z.cells (grownCap w m 0 e - m)).toList = news ++ (Builtin.zeroCells z.cells (grownCap w m 0 e - m)).toList := by simp
      rw [e1, ← hl]
      exact List.take_left
    · exact (Below.refl w.heap.size w).drew.alloc (Nat.le_refl _) _

namespace GK
section
variable {P : Program} {ops : Array Oper} {M : Nat} {S : World → World → Prop} {I : Nat → World → Prop} {sp : Nat → Value → World → Prop} {w0 w1 : World}
variable {Q : List (Nat × (World → Prop)) → Act → Prop} {o : Oper} {rest : List Oper} {i : Nat} {Γ : List (Nat × (World → Prop))} {a : Act}
theorem grow_fact (Z : Value → World → Prop) (hw : Region.wanted o (yielded ops a.tmps) = true) (hs : ∀ u, Steady S (Z u))
    (hc : ∀ m w, m < M → I m w → FactsAt .any ops i Γ w → fnUpon (fun u w' => (S w w' ∧ I (m + 1) w') ∧ Z u w') ((execOp a.eval o).run P w))
    (h : ∀ u, (∃ m w', I m w' ∧ Z u w') → wpGrow P ops S I M w0 sp Q rest (i + 1) ((i, Z u) :: Γ) (a.put o.dst u)) : wpGrow P ops S I M w0 sp Q (o :: rest) i Γ a := by
  unfold wpGrow Res
  rw [if_pos hw]
  exact .inr (.inl ⟨Z, hs, hc, (fun h => by cases h), fun u _ hu => h u (hu rfl)⟩)

theorem own_steady {base : Nat} {e : TypeId} {size m : Nat} {news : List Value} (u : Value) : Steady (KeepB fun _ => False) (fun w => w.ownsRow base e size u m news) := fun _ _ h k => own_keep k h fun _ _ h => h

/-- append(empty, s...): a copy is made. -/
theorem grow_copy (hw : Region.wanted o (yielded ops a.tmps) = true) (s x : Operand) (t : TypeId) (ho : o.op = .call { callee := .builtin .append, args := #[s, x], argTypes := #[t, t] })
    (e : TypeId) (ti : TypeInfo) (z : Value) (size bytes : Nat) (ht : P.underlying t = some (.slice e)) (hi : P.info? e = some ti) (hz : ti.zero = some z)
    (hsize : ti.size = size) (hby : ti.bytes = bytes) (hzs : z.cells.size = size) (g : Nat) (hs : a.eval s = .slice (some ⟨g, 0, none⟩) 0 0) (hgf : ∀ w, FactsAt .any ops i Γ w → w1.heap.size ≤ g ∧ w.heap[g]? = some (.cells #[] e (0, 0)))
    (A : Option Addr) (m c : Nat) (news : List Value) (hx : a.eval x = .slice A m c) (hl : news.length = m * size) (hA : 0 < m → ∃ a, A = some a ∧ ∀ j u, news[j]? = some u → w1.cell? (a.add j) = some u) (h1 : ∀ u ∈ news, u.oneCell' = true)
    (h63 : m ≤ maxLen) (hbytes : m * bytes ≤ 140737488355328)
    (h : ∀ u, (∃ w', Below w1.heap.size w1 w' ∧ w'.ownsRow w1.heap.size e size u m news) → wpGrow P ops (KeepB fun _ => False) (BI w1) M w0 sp Q rest (i + 1) ((i, fun w' => w'.ownsRow w1.heap.size e size u m news) :: Γ) (a.put o.dst u)) :
    wpGrow P ops (KeepB fun _ => False) (BI w1) M w0 sp Q (o :: rest) i Γ a := by
  refine grow_fact (fun u w' => w'.ownsRow w1.heap.size e size u m news) hw own_steady (fun k w hk hb hf => ?_) fun u ⟨_, w', h1, h2⟩ => h u ⟨w', h1, h2⟩
  obtain ⟨g1, g2⟩ := hgf w hf
  obtain ⟨v', w', hr, h2, h3⟩ := run_append_copy (P := P) w w1.heap.size t o.type e ti z size bytes ht hi hz hsize hby hzs g g2 g1 hb.size A m c news hl (fun hm => by
    obtain ⟨a, ha, hc⟩ := hA hm
    refine ⟨a, ha, fun j u hj => ?_⟩
    have h4 := hc j u hj
    rw [Below.cell hb (World.block_lt_of_cell? _ _ h4)]
    exact h4) h1 h63 hbytes
  unfold execOp
  simp only [ho, resolve, invoke, builtin, Sem.run_bind, Sem.run_pure, Result.andThen_ok, List.map_toArray, List.map_cons, List.map_nil, hs, hx, hr]
  exact ⟨hb.after h3, h2⟩
end
end GK
end AG

/- The drawing kit's reader: what it is in memory; pick. -/
namespace Go.Proofs.YtdkjnemakkppfaaGreatDoor
open Go.RowKit Go.BigFrame AG

/-- The reader at block R: its bytes are the slice '.slice A n c', its position p. -/
structure RdAt (w : World) (R : Nat) (A : Option Addr) (n c p : Nat) : Prop where
  blk : Blk w R 107 #[.slice A n c, .int .i64 (p : Int)]
  len : n ≤ 2000
  cap : n ≤ c
  top : c ≤ 9223372036854775807
  pos : p ≤ 1125899906842624
  bytes : 0 < n → ∃ b o, A = some ⟨b, o, none⟩ ∧ b < R ∧ ∀ i, i < n → ∃ x : Nat, x < 256 ∧ w.cell? ⟨b, o + i, none⟩ = some (.int .u8 (x : Int))

theorem xor_nonneg {a b : Int} (ha : 0 ≤ a ∧ a < 9223372036854775808) (hb : 0 ≤ b ∧ b < 9223372036854775808) : 0 ≤ bits .xor .i64 a b ∧ bits .xor .i64 a b < 9223372036854775808 := by
  obtain ⟨a, rfl⟩ := Int.eq_ofNat_of_zero_le ha.1
  obtain ⟨b, rfl⟩ := Int.eq_ofNat_of_zero_le hb.1
  have hx : a ^^^ b < 2 ^ 63 := Nat.xor_lt_two_pow (by omega) (by omega)
  have : bits .xor .i64 (a : Int) (b : Int) = ((a ^^^ b : Nat) : Int) := by
    show IntKind.i64.wrap ((BitVec.ofInt 64 (a : Int) ^^^ BitVec.ofInt 64 (b : Int)).toNat : Int) = _
    rw [BitVec.toNat_xor, ofInt_i64 a (by omega), ofInt_i64 b (by omega), IntKind.wrap_i64]
    omega
  rw [this]
  omega

theorem RdAt.later {w w' : World} {R : Nat} {A : Option Addr} {n c p : Nat} (h : RdAt w R A n c p) (hb : Below w.heap.size w w') : RdAt w' R A n c p :=
  ⟨h.blk.below hb h.blk.lt, h.len, h.cap, h.top, h.pos, fun hn => by
    obtain ⟨b, o, hA, hlt, hx⟩ := h.bytes hn
    have hR := h.blk.lt
    refine ⟨b, o, hA, hlt, fun i hi => ?_⟩
    obtain ⟨x, h1, h2⟩ := hx i hi
    exact ⟨x, h1, by rw [hb.cell (by simp; omega)]; exact h2⟩⟩

theorem RdAt.step {w : World} {R : Nat} {A : Option Addr} {n c p : Nat} {v : Value} (h : RdAt w R A n c p) (hp : p < 1125899906842624) (hv : v = .int .i64 ((p : Int) + 1)) :
    RdAt (w.setCell ⟨R, 1, none⟩ v) R A n c (p + 1) ∧ KeepB (fun b => b = R) w (w.setCell ⟨R, 1, none⟩ v) := by
  subst hv
  refine ⟨⟨?_, h.len, h.cap, h.top, by omega, fun hn => ?_⟩, (KeepB.refl _ w).setCell _ _ (fun _ => rfl)⟩
  · have := h.blk.set_ 1 (.int .i64 ((p : Int) + 1))
    simpa using this
  · obtain ⟨b, o, hA, hlt, hx⟩ := h.bytes hn
    refine ⟨b, o, hA, hlt, fun i hi => ?_⟩
    obtain ⟨x, h1, h2⟩ := hx i hi
    refine ⟨x, h1, ?_⟩
    rw [World.cell?_setCell_other (h := addr_ne (by omega))]
    exact h2

set_option maxRecDepth 100000 in
set_option maxHeartbeats 2000000 in
theorem pick_any (R : Nat) (A : Option Addr) (n c p : Nat) (m : Int) (w : World) (hp : p < 1125899906842624) (hm : m ≤ 9223372036854775807) (hr : RdAt w R A n c p) :
    Calls Tryz.prog 34 #[.pointer (some ⟨R, 0, none⟩), .int .i64 m] w fun e w' => ∃ k : Int, e = .returned (.int .i64 k) ∧ 0 ≤ k ∧ (k < m ∨ k = 0) ∧ RdAt w' R A n c (p + 1) ∧ KeepB (fun b => b = R) w w' := by
  have hblk := hr.blk
  have hR := hblk.lt
  have e0 : w.cell? ⟨R, 0, none⟩ = some (.slice A n c) := by rw [hblk.cell]; rfl
  have e1 : w.cell? ⟨R, 1, none⟩ = some (.int .i64 (p : Int)) := by rw [hblk.cell]; rfl
  have hfr : w.frozen? ⟨R, 1, none⟩ = false := hblk.frozen 1
  have hlen := hr.len
  have hcap := hr.cap
  have htop := hr.top
  replace hr := hid hr
  replace hblk := hid hblk
  have hst := hid (hr.out.step (v := .int .i64 ((p : Int) + 1)) hp rfl)
  by_cases hm1 : m < 1
  · go_enter Tryz.func34, Tryz.ntmps34
    go_wp2
    go_ret
    exact ⟨0, rfl, by omega, .inr rfl, hst.out.1, hst.out.2⟩
  · have hm0 : (m == 0) = false := by simp; omega
    by_cases hn : n = 0
    · subst hn
      go_enter Tryz.func34, Tryz.ntmps34
      go_wp2
      go_ret
      exact ⟨0, rfl, by omega, .inr rfl, hst.out.1, hst.out.2⟩
    · obtain ⟨b, o, rfl, hltR, hx⟩ := hr.out.bytes (by omega)
      have hne : b ≠ R := by omega
      have hlt : b < w.heap.size := by omega
      have hn0 : ((n : Int) == 0) = false := by simp; omega
      by_cases hpn : p < n
      · obtain ⟨x, hx1, hx2⟩ := hx p hpn
        have hmod : 0 ≤ (x : Int) % m ∧ (x : Int) % m < m := ⟨Int.emod_nonneg _ (by omega), Int.emod_lt_of_pos _ (by omega)⟩
        replace hx := hid hx
        replace hmod := hid hmod
        have hneA : (⟨R, 1, none⟩ : Addr) ≠ ⟨b, o + p, none⟩ := addr_ne hne
        go_enter Tryz.func34, Tryz.ntmps34
        go_wp2
        go_ret
        exact ⟨_, rfl, hmod.out.1, .inl hmod.out.2, hst.out.1, hst.out.2⟩
      · have hw1 := hst.out.1
        obtain ⟨i1, hi1⟩ : ∃ i1, i1 = p % n := ⟨_, rfl⟩
        obtain ⟨i2, hi2⟩ : ∃ i2, i2 = (p * 7 + 3) % n := ⟨_, rfl⟩
        obtain ⟨q, hq⟩ : ∃ q, q = p / n := ⟨_, rfl⟩
        have hi1n : i1 < n := by rw [hi1]; exact Nat.mod_lt _ (by omega)
        have hi2n : i2 < n := by rw [hi2]; exact Nat.mod_lt _ (by omega)
        have hqp : q ≤ p := by rw [hq]; exact Nat.div_le_self _ _
        have k1 : (p : Int) % (n : Int) = (i1 : Int) := by rw [hi1]; omega
        have k2 : ((p : Int) * 7 + 3) % (n : Int) = (i2 : Int) := by rw [hi2]; simp
        have k3 : (p : Int) / (n : Int) = (q : Int) := by rw [hq]; omega
        obtain ⟨b', o', hA', -, hx'⟩ := hw1.bytes (by omega)
        injection hA' with hA'
        injection hA' with hA1 hA2
        subst hA1 hA2
        obtain ⟨x1, hx1, hy1⟩ := hx' i1 hi1n
        obtain ⟨x2, hx2, hy2⟩ := hx' i2 hi2n
        have hblk1 := hw1.blk
        replace hx := hid hx
        replace hx' := hid hx'
        replace hi1 := hid hi1
        replace hi2 := hid hi2
        replace hq := hid hq
        obtain ⟨w1, hw1e⟩ : ∃ w1, w1 = w.setCell ⟨R, 1, none⟩ (.int .i64 ((p : Int) + 1)) := ⟨_, rfl⟩
        rw [← hw1e] at hy1 hy2 hblk1
        have g0 : ∀ y, (Fam w1.heap.size w1 y).cell? ⟨R, 0, none⟩ = some (.slice (some ⟨b, o, none⟩) n c) := fun y => by rw [(Fam.below _ _ y).cell (by simpa using hblk1.lt), hblk1.cell]; rfl
        have hb1 : b < w1.heap.size := by rw [hw1e]; simpa using hlt
        have g1 : ∀ y, (Fam w1.heap.size w1 y).cell? ⟨b, o + i1, none⟩ = some (.int .u8 (x1 : Int)) := fun y => by rw [(Fam.below _ _ y).cell (by simpa using hb1)]; exact hy1
        have g2 : ∀ y, (Fam w1.heap.size w1 y).cell? ⟨b, o + i2, none⟩ = some (.int .u8 (x2 : Int)) := fun y => by rw [(Fam.below _ _ y).cell (by simpa using hb1)]; exact hy2
        replace hw1e := hid hw1e
        replace hw1 := hid hw1
        replace hblk1 := hid hblk1
        clear hy1 hy2
        have hxor := hid (xor_nonneg (a := (x1 : Int) * 131 + x2 * 1117 + p * 29 + q * 53) (b := ((x1 : Int) * 131 + x2 * 1117 + p * 29 + q * 53) / 64) (by omega) (by omega))
        go_enter Tryz.func34, Tryz.ntmps34
        go_wp2_with fail
        rw [← hw1e.out]
        refine wp_region_fam w1.heap.size w1 (by kernel_rfl) (by kernel_rfl) (Below.refl _ _) ?_
        (repeat (go_big_quiet_step (fail)))
        refine wpQuiet_nil ?_
        intro w2 hw2
        replace hw2 := Fam.out hw2
        go_wp2
        go_ret
        have hw1' : RdAt w1 R (some ⟨b, o, none⟩) n c (p + 1) := by rw [hw1e.out]; exact hw1.out
        have hk1 : KeepB (fun b => b = R) w w1 := by rw [hw1e.out]; exact hst.out.2
        exact ⟨_, rfl, Int.tmod_nonneg _ hxor.out.1, .inl (Int.tmod_lt_of_pos _ (by omega)), hw1'.later hw2, hk1.trans (KeepB.of_below hw2)⟩

/-- The reader at block R, its position at most P. -/
def RdUp (w : World) (R P : Nat) : Prop := ∃ A n c p, p ≤ P ∧ RdAt w R A n c p
theorem RdUp.more {w : World} {R P P' : Nat} (h : RdUp w R P) (hP : P ≤ P') : RdUp w R P' := by
  obtain ⟨A, n, c, p, h1, h2⟩ := h
  exact ⟨A, n, c, p, by omega, h2⟩
theorem RdUp.later {w w' : World} {R P : Nat} (h : RdUp w R P) (hb : Below w.heap.size w w') : RdUp w' R P := by
  obtain ⟨A, n, c, p, h1, h2⟩ := h
  exact ⟨A, n, c, p, h1, h2.later hb⟩
theorem RdUp.lt {w : World} {R P : Nat} (h : RdUp w R P) : R < w.heap.size := by
  obtain ⟨A, n, c, p, h1, h2⟩ := h
  exact h2.blk.lt
/-- Later blocks may be written. -/
theorem RdUp.keep {K : Nat → Prop} {w w' : World} {R P : Nat} (h : RdUp w R P) (hb : KeepB K w w') (hK : ∀ k, K k → R < k) : RdUp w' R P := by
  obtain ⟨A, n, c, p, h1, h2⟩ := h
  have hR := h2.blk.lt
  refine ⟨A, n, c, p, h1, h2.blk.keep hb (fun hk => by have := hK _ hk; omega), h2.len, h2.cap, h2.top, h2.pos, fun hn => ?_⟩
  obtain ⟨b, o, hA, hlt, hx⟩ := h2.bytes hn
  refine ⟨b, o, hA, hlt, fun i hi => ?_⟩
  obtain ⟨x, g1, g2⟩ := hx i hi
  refine ⟨x, g1, ?_⟩
  have : w'.cell? ⟨b, o + i, none⟩ = w.cell? ⟨b, o + i, none⟩ := by
    unfold World.cell?
    rw [hb.block b (by omega) (fun hk => by have := hK _ hk; omega)]
  rw [this]
  exact g2

def PickPost (R P : Nat) (m : Int) (w : World) (e : Ending) (w' : World) : Prop := ∃ k : Int, e = .returned (.int .i64 k) ∧ 0 ≤ k ∧ (k < m ∨ k = 0) ∧ RdUp w' R (P + 1) ∧ KeepB (fun b => b = R) w w'
theorem pick_up (R P : Nat) (m : Int) (w : World) (hP : P < 1125899906842624) (hm : m ≤ 9223372036854775807) (h : RdUp w R P) :
    Calls Tryz.prog 34 #[.pointer (some ⟨R, 0, none⟩), .int .i64 m] w (PickPost R P m w) := by
  obtain ⟨A, n, c, p, h1, h2⟩ := h
  exact (pick_any R A n c p m w (by omega) hm h2).mono fun e w' ⟨k, a1, a2, a3, a4, a5⟩ => ⟨k, a1, a2, a3, ⟨A, n, c, p + 1, by omega, a4⟩, a5⟩

end Go.Proofs.YtdkjnemakkppfaaGreatDoor

/- The drawing kit: l19Open, num, of. -/
namespace Go.Proofs.YtdkjnemakkppfaaGreatDoor
open Go.RowKit Go.BigFrame AG

theorem KeepB.cell_ {K : Nat → Prop} {w w' : World} (h : KeepB K w w') {p : Addr} (hb : p.block < w.heap.size) (hK : ¬ K p.block) : w'.cell? p = w.cell? p := by
  unfold World.cell?
  rw [h.block _ hb hK]

set_option maxHeartbeats 1000000 in
theorem num_up (R P g o k cap : Nat) (xs : List Int) (w : World) (hxl : xs.length = k) (hk : 0 < k) (hk2 : k ≤ 4294967296) (hP : P < 1125899906842624)
    (hgR : g ≠ R) (hgl : g < w.heap.size) (hxs : ∀ i (h : i < xs.length), w.cell? ⟨g, o + i, none⟩ = some (.int .i64 xs[i])) (hr : RdUp w R P) :
    Calls Tryz.prog 85 #[.pointer (some ⟨R, 0, none⟩), .slice (some ⟨g, o, none⟩) k cap] w fun e w' => ∃ x, x ∈ xs ∧ e = .returned (.int .i64 x) ∧ RdUp w' R (P + 1) ∧ KeepB (fun b => b = R) w w' := by
  replace hr := hid hr
  replace hxs := hid hxs
  go_enter Tryz.func85, Tryz.ntmps85
  go_wp2_with fail
  refine (pick_up R P k w hP (by omega) hr.out).mono ?_
  rintro e w1 ⟨j, rfl, hj0, hj1, hr1, hk1⟩
  obtain ⟨i, rfl⟩ := Int.eq_ofNat_of_zero_le hj0
  have hik : i < xs.length := by omega
  have e1 : w1.cell? ⟨g, o + i, none⟩ = some (.int .i64 xs[i]) := by rw [KeepB.cell_ hk1 (p := ⟨g, o + i, none⟩) hgl hgR]; exact hxs.out i hik
  have hik2 : (i : Int) < (k : Int) := by omega
  replace hr1 := hid hr1
  replace hk1 := hid hk1
  clear hj1
  go_wp2
  go_ret
  exact ⟨_, List.getElem_mem _, rfl, hr1.out, hk1.out⟩

set_option maxHeartbeats 1000000 in
theorem of_up (R P g o k cap : Nat) (xs : List ByteArray) (w : World) (hxl : xs.length = k) (hk : 0 < k) (hk2 : k ≤ 4294967296) (hP : P < 1125899906842624)
    (hgR : g ≠ R) (hgl : g < w.heap.size) (hxs : ∀ i (h : i < xs.length), w.cell? ⟨g, o + i, none⟩ = some (.string xs[i])) (hr : RdUp w R P) :
    Calls Tryz.prog 87 #[.pointer (some ⟨R, 0, none⟩), .slice (some ⟨g, o, none⟩) k cap] w fun e w' => ∃ x, x ∈ xs ∧ e = .returned (.string x) ∧ RdUp w' R (P + 1) ∧ KeepB (fun b => b = R) w w' := by
  replace hr := hid hr
  replace hxs := hid hxs
  go_enter Tryz.func87, Tryz.ntmps87
  go_wp2_with fail
  refine (pick_up R P k w hP (by omega) hr.out).mono ?_
  rintro e w1 ⟨j, rfl, hj0, hj1, hr1, hk1⟩
  obtain ⟨i, rfl⟩ := Int.eq_ofNat_of_zero_le hj0
  have hik : i < xs.length := by omega
  have e1 : w1.cell? ⟨g, o + i, none⟩ = some (.string xs[i]) := by rw [KeepB.cell_ hk1 (p := ⟨g, o + i, none⟩) hgl hgR]; exact hxs.out i hik
  have hik2 : (i : Int) < (k : Int) := by omega
  replace hr1 := hid hr1
  replace hk1 := hid hk1
  clear hj1
  go_wp2
  go_ret
  exact ⟨_, List.getElem_mem _, rfl, hr1.out, hk1.out⟩

/-- The bytes of an argument, below block B. -/
def CodeAt (w : World) (A : Option Addr) (n : Nat) : Prop := 0 < n → ∃ b o, A = some ⟨b, o, none⟩ ∧ b < w.heap.size ∧ ∀ i, i < n → ∃ x : Nat, x < 256 ∧ w.cell? ⟨b, o + i, none⟩ = some (.int .u8 (x : Int))

set_option maxHeartbeats 1000000 in
theorem l19Open_any (A : Option Addr) (n c : Nat) (w : World) (hn : n ≤ c) (hc : c ≤ 9223372036854775807) (hx : 0 < n → ∃ b o, A = some ⟨b, o, none⟩ ∧ b < w.heap.size ∧ ∀ i, i < n → ∃ x : Nat, x < 256 ∧ w.cell? ⟨b, o + i, none⟩ = some (.int .u8 (x : Int))) :
    Calls Tryz.prog 32 #[.slice A n c] w fun e w' => ∃ R, e = .returned (.pointer (some ⟨R, 0, none⟩)) ∧ w.heap.size ≤ R ∧ RdUp w' R 0 ∧ Below w.heap.size w w' := by
  replace hx := hid hx
  by_cases h2 : n ≤ 2000
  · go_enter Tryz.func32, Tryz.ntmps32
    go_wp2
    go_ret
    refine ⟨w.heap.size, rfl, Nat.le_refl _, ⟨A, n, c, 0, Nat.le_refl _, Blk.new w _ _, h2, hn, hc, by omega, fun hpos => ?_⟩, (Below.refl _ _).alloc (Nat.le_refl _) _⟩
    obtain ⟨b, o, hA, hb, hx'⟩ := hx.out hpos
    refine ⟨b, o, hA, hb, fun i hi => ?_⟩
    obtain ⟨x, h1, h3⟩ := hx' i hi
    exact ⟨x, h1, by rw [World.cell?_alloc_lt (h := by simpa using hb)]; exact h3⟩
  · obtain ⟨b, o, rfl, hb, hx'⟩ := hx.out (by omega)
    replace hx' := hid hx'
    go_enter Tryz.func32, Tryz.ntmps32
    go_wp2
    go_ret
    refine ⟨w.heap.size, rfl, Nat.le_refl _, ⟨_, 2000, c, 0, Nat.le_refl _, Blk.new w _ _, Nat.le_refl _, by omega, hc, by omega, fun _ => ⟨b, o, rfl, hb, fun i hi => ?_⟩⟩, (Below.refl _ _).alloc (Nat.le_refl _) _⟩
    obtain ⟨x, h1, h3⟩ := hx'.out i (by omega)
    exact ⟨x, h1, by rw [World.cell?_alloc_lt (h := by simpa using hb)]; exact h3⟩

def NumUp (R P : Nat) (xs : List Int) (w : World) (e : Ending) (w' : World) : Prop := ∃ x, x ∈ xs ∧ e = .returned (.int .i64 x) ∧ RdUp w' R (P + 1) ∧ KeepB (fun b => b = R) w w'
/-- A number out of a list that has just been made. -/
theorem num_lit (R P : Nat) (xs : List Int) (w : World) (T : TypeId) (hk : 0 < xs.length) (hk2 : xs.length ≤ 1000) (hP : P < 1125899906842624) (hr : RdUp w R P) :
    Calls Tryz.prog 85 #[.pointer (some ⟨R, 0, none⟩), .slice (some ⟨w.heap.size, 0, none⟩) xs.length xs.length] (w.alloc (.cells (xs.map (Value.int .i64)).toArray T)) (NumUp R P xs w) := by
  have hR := hr.lt
  have hb : Below w.heap.size w (w.alloc (.cells (xs.map (Value.int .i64)).toArray T)) := (Below.refl _ _).alloc (Nat.le_refl _) _
  refine (num_up R P w.heap.size 0 xs.length xs.length xs _ rfl hk (by omega) hP (by omega) (by simp) (fun i h => ?_) (hr.later hb)).mono fun e w' ⟨x, h1, h2, h3, h4⟩ => ⟨x, h1, h2, h3, (KeepB.of_below hb).trans h4⟩
  rw [Nat.zero_add, World.cell?_alloc_at _ _ _ _ rfl]
  simp [h]

end Go.Proofs.YtdkjnemakkppfaaGreatDoor

/- The drawing kit: l2Texts, l19Num. -/
namespace Go.Proofs.YtdkjnemakkppfaaGreatDoor
open Go.RowKit Go.BigFrame AG

def isText (v : Value) : Bool := match v with | .string b => decide (b.size ≤ 60) | _ => false
theorem texts_list : ∀ vs : List Value, vs.all isText = true → ∃ xs : List ByteArray, vs = xs.map Value.string ∧ ∀ x ∈ xs, x.size ≤ 60
  | [], _ => ⟨[], rfl, by simp⟩
  | v :: vs, h => by
    rw [List.all_cons, Bool.and_eq_true] at h
    obtain ⟨xs, h1, h2⟩ := texts_list vs h.2
    have h3 := h.1
    unfold isText at h3
    split at h3
    · rename_i b
      refine ⟨b :: xs, by rw [h1]; rfl, fun x hx => ?_⟩
      rcases List.mem_cons.1 hx with rfl | hx
      · exact of_decide_eq_true h3
      · exact h2 x hx
    · cases h3
theorem texts_of (w : World) (T : TypeId) (cs : Array Value) (h : cs.toList.all isText = true) :
    ∃ xs : List ByteArray, xs.length = cs.size ∧ (∀ x ∈ xs, x.size ≤ 60) ∧ ∀ i (hi : i < xs.length), (w.alloc (.cells cs T)).cell? ⟨w.heap.size, 0 + i, none⟩ = some (.string xs[i]) := by
  obtain ⟨xs, h1, h2⟩ := texts_list _ h
  have hlen : xs.length = cs.size := by
    have := congrArg List.length h1
    simpa using this.symm
  refine ⟨xs, hlen, h2, fun i hi => ?_⟩
  rw [Nat.zero_add, World.cell?_alloc_at _ _ _ _ rfl, ← Array.getElem?_toList, h1, List.getElem?_map, List.getElem?_eq_getElem hi]
  rfl

theorem texts_post (w : World) (T : TypeId) (cs : Array Value) (e : Ending) (he : e = .returned (.slice (some ⟨w.heap.size, 0, none⟩) 11 11)) (hn : cs.size = 11) (h : cs.toList.all isText = true) :
    ∃ xs : List ByteArray, xs.length = 11 ∧ (∀ x ∈ xs, x.size ≤ 60) ∧ e = .returned (.slice (some ⟨w.heap.size, 0, none⟩) 11 11) ∧ (∀ i (hi : i < xs.length), (w.alloc (.cells cs T)).cell? ⟨w.heap.size, 0 + i, none⟩ = some (.string xs[i])) ∧ w.heap.size < (w.alloc (.cells cs T)).heap.size ∧ Below w.heap.size w (w.alloc (.cells cs T)) := by
  obtain ⟨xs, h1, h2, h3⟩ := texts_of w T cs h
  exact ⟨xs, h1.trans hn, h2, he, h3, by simp, (Below.refl _ _).alloc (Nat.le_refl _) _⟩

set_option maxHeartbeats 1000000 in
theorem l2Texts_any (w : World) :
    Calls Tryz.prog 88 #[] w fun e w' => ∃ xs : List ByteArray, xs.length = 11 ∧ (∀ x ∈ xs, x.size ≤ 60) ∧ e = .returned (.slice (some ⟨w.heap.size, 0, none⟩) 11 11) ∧ (∀ i (hi : i < xs.length), w'.cell? ⟨w.heap.size, 0 + i, none⟩ = some (.string xs[i])) ∧ w.heap.size < w'.heap.size ∧ Below w.heap.size w w' := by
  go_enter Tryz.func88, Tryz.ntmps88
  go_wp2
  go_ret
  exact texts_post w _ _ _ rfl rfl (by kernel_rfl)

end Go.Proofs.YtdkjnemakkppfaaGreatDoor

/- The drawing kit: l19Num ends with some number. -/
namespace Go.Proofs.YtdkjnemakkppfaaGreatDoor
open Go.RowKit Go.BigFrame AG

theorem byte_some (s : ByteArray) (i : Nat) (h : i < s.size) : ∃ y : Nat, y < 256 ∧ ((s[i]'h).toNat : Int) = (y : Int) := ⟨(s[i]'h).toNat, (s[i]'h).toNat_lt, rfl⟩

def NumLitPost (w : World) (e : Ending) (w' : World) : Prop := ∃ (n : Int) (b : Bool), e = .returned (.tuple #[.int .i64 n, .bool b]) ∧ w = w'

set_option maxHeartbeats 2000000 in
theorem l19Num_plain (s : ByteArray) (w : World) (hz : s.size ≤ 1000000) (hn : ∀ h : 0 < s.size, (s[0]'h).toNat ≠ 45) :
    Calls Tryz.prog 119 #[.string s] w (NumLitPost w) := by
  by_cases h0 : s.size = 0
  · go_enter Tryz.func119, Tryz.ntmps119
    go_wp2
    go_ret2
    exact ⟨_, _, rfl, rfl⟩
  · have hpos : (0 : Int) < (s.size : Int) := by omega
    obtain ⟨y, hy, hy2⟩ := byte_some s 0 (by omega)
    have hneg2 : ((y : Int) == 45) = false := by
      have h45 : (s[0]'(by omega)).toNat ≠ 45 := hn (by omega)
      rw [beq_eq_false_iff_ne]
      omega
    replace hn := hid hn
    have a1 : ((s.size : Int) == 0) = false := by rw [beq_eq_false_iff_ne]; omega
    by_cases h17 : 17 < s.size
    · have a2 : decide (17 < (s.size : Int)) = true := by simp; omega
      go_enter Tryz.func119, Tryz.ntmps119
      go_wp2
      go_ret2
      exact ⟨_, _, rfl, rfl⟩
    · have a2 : decide (17 < (s.size : Int)) = false := by simp; omega
      by_cases hbad : y = 48 ∧ 1 < s.size
      · have a3 : ((y : Int) == 48) = true := by simp; omega
        have a4 : decide (1 < (s.size : Int)) = true := by simp; omega
        go_enter Tryz.func119, Tryz.ntmps119
        go_wp2
        go_ret2
        exact ⟨_, _, rfl, rfl⟩
      · by_cases h48 : y = 48
        · have a3 : ((y : Int) == 48) = true := by simp; omega
          have a4 : decide (1 < (s.size : Int)) = false := by simp; omega
          replace hbad := hid hbad
          go_enter Tryz.func119, Tryz.ntmps119
          go_wp2_with fail
          go_loopw [5, 6] (fun v i wr => ∃ (x : Int) (k : Nat), v = .int .i64 x ∧ i = .int .i64 k ∧ k ≤ s.size ∧ w = wr) (fun _ i _ => s.size - (intOf i).toNat)
          case atStart => exact ⟨0, 0, rfl, rfl, by omega, rfl⟩
          case round =>
            obtain ⟨x, k, rfl, rfl, hk, rfl⟩ := hrel
            by_cases hlt : k < s.size
            · obtain ⟨z, hz1, hz2⟩ := byte_some s k hlt
              have hk2 : (0 : Int) ≤ (k : Int) ∧ (k : Int) < (s.size : Int) := by omega
              go_wp2
              all_goals first
                | (go_ret2; exact ⟨_, _, rfl, rfl⟩)
                | (go_roundw
                   case rel => exact ⟨_, k + 1, rfl, by go_num, by omega, by first | trivial | rfl⟩
                   case measure => simp [intOf]; omega)
            · go_wp2
              go_ret2
              exact ⟨_, _, rfl, rfl⟩
        · have a3 : ((y : Int) == 48) = false := by simp; omega
          replace hbad := hid hbad
          go_enter Tryz.func119, Tryz.ntmps119
          go_wp2_with fail
          go_loopw [5, 6] (fun v i wr => ∃ (x : Int) (k : Nat), v = .int .i64 x ∧ i = .int .i64 k ∧ k ≤ s.size ∧ w = wr) (fun _ i _ => s.size - (intOf i).toNat)
          case atStart => exact ⟨0, 0, rfl, rfl, by omega, rfl⟩
          case round =>
            obtain ⟨x, k, rfl, rfl, hk, rfl⟩ := hrel
            by_cases hlt : k < s.size
            · obtain ⟨z, hz1, hz2⟩ := byte_some s k hlt
              have hk2 : (0 : Int) ≤ (k : Int) ∧ (k : Int) < (s.size : Int) := by omega
              go_wp2
              all_goals first
                | (go_ret2; exact ⟨_, _, rfl, rfl⟩)
                | (go_roundw
                   case rel => exact ⟨_, k + 1, rfl, by go_num, by omega, by first | trivial | rfl⟩
                   case measure => simp [intOf]; omega)
            · go_wp2
              go_ret2
              exact ⟨_, _, rfl, rfl⟩

set_option maxHeartbeats 2000000 in
theorem l19Num_sign (s : ByteArray) (w : World) (hz : s.size ≤ 1000000) (hs : 0 < s.size) (hn : (s[0]'hs).toNat = 45) :
    Calls Tryz.prog 119 #[.string s] w (NumLitPost w) := by
  have hpos : (0 : Int) < (s.size : Int) := by omega
  obtain ⟨y, hy, hy2⟩ := byte_some s 0 hs
  have hneg2 : ((y : Int) == 45) = true := by rw [beq_iff_eq]; omega
  obtain ⟨t, ht⟩ : ∃ t, s.extract 1 s.size = t := ⟨_, rfl⟩
  have htz : t.size = s.size - 1 := by rw [← ht, ByteArray.size_extract]; omega
  have hle : (1 : Int) ≤ (s.size : Int) := by omega
  have htl : t.size ≤ 1000000 := by omega
  replace htz := hid htz
  replace hn := hid hn
  by_cases h0 : t.size = 0
  · have a1 : ((t.size : Int) == 0) = true := by rw [beq_iff_eq]; omega
    go_enter Tryz.func119, Tryz.ntmps119
    go_wp2
    go_ret2
    exact ⟨_, _, rfl, rfl⟩
  · have a1 : ((t.size : Int) == 0) = false := by rw [beq_eq_false_iff_ne]; omega
    have hpos2 : (0 : Int) < (t.size : Int) := by omega
    obtain ⟨y2, hy3, hy4⟩ := byte_some t 0 (by omega)
    by_cases h17 : 17 < t.size
    · have a2 : decide (17 < (t.size : Int)) = true := by simp; omega
      go_enter Tryz.func119, Tryz.ntmps119
      go_wp2
      go_ret2
      exact ⟨_, _, rfl, rfl⟩
    · have a2 : decide (17 < (t.size : Int)) = false := by simp; omega
      by_cases h48 : y2 = 48
      · have a3 : ((y2 : Int) == 48) = true := by simp; omega
        by_cases h1 : 1 < t.size
        all_goals
          go_enter Tryz.func119, Tryz.ntmps119
          go_wp2
          go_ret2
          exact ⟨_, _, rfl, rfl⟩
      · have a3 : ((y2 : Int) == 48) = false := by simp; omega
        go_enter Tryz.func119, Tryz.ntmps119
        go_wp2_with fail
        go_loopw [5, 6] (fun v i wr => ∃ (x : Int) (k : Nat), v = .int .i64 x ∧ i = .int .i64 k ∧ k ≤ t.size ∧ w = wr) (fun _ i _ => t.size - (intOf i).toNat)
        case atStart => exact ⟨0, 0, rfl, rfl, by omega, rfl⟩
        case round =>
          obtain ⟨x, k, rfl, rfl, hk, rfl⟩ := hrel
          by_cases hlt : k < t.size
          · obtain ⟨z, hz1, hz2⟩ := byte_some t k hlt
            have hk2 : (0 : Int) ≤ (k : Int) ∧ (k : Int) < (t.size : Int) := by omega
            go_wp2
            all_goals first
              | (go_ret2; exact ⟨_, _, rfl, rfl⟩)
              | (go_roundw
                 case rel => exact ⟨_, k + 1, rfl, by go_num, by omega, by first | trivial | rfl⟩
                 case measure => simp [intOf]; omega)
          · go_wp2
            go_ret2
            exact ⟨_, _, rfl, rfl⟩

theorem l19Num_any (s : ByteArray) (w : World) (hz : s.size ≤ 1000000) : Calls Tryz.prog 119 #[.string s] w (NumLitPost w) := by
  by_cases hs : 0 < s.size
  · by_cases hn : (s[0]'hs).toNat = 45
    · exact l19Num_sign s w hz hs hn
    · exact l19Num_plain s w hz fun _ => hn
  · exact l19Num_plain s w hz fun h => absurd h hs

end Go.Proofs.YtdkjnemakkppfaaGreatDoor

/- The drawing kit: texts of alphabets, numbers and edges (their texts are not told, only their sizes). -/
namespace Go.Proofs.YtdkjnemakkppfaaGreatDoor
open Go.RowKit Go.BigFrame AG

def StrPost (N : Nat) (w : World) (e : Ending) (w' : World) : Prop := ∃ x : ByteArray, e = .returned (.string x) ∧ x.size ≤ N ∧ Below w.heap.size w w'

theorem conv_digit (w : World) (d : Nat) (hd : d < 10) :
    (convert 22 9 (.slice (some ⟨w.heap.size, 0, none⟩) 1 1)).run Tryz.prog (w.alloc (Obj.cells #[Value.int IntKind.u8 (48 + (d : Int))] 5)) = .ok (.string ⟨#[UInt8.ofNat (48 + d)]⟩) (w.alloc (Obj.cells #[Value.int IntKind.u8 (48 + (d : Int))] 5)) := by
  have hb : ((UInt8.ofNat (48 + d)).toNat : Int) = 48 + (d : Int) := by
    rw [UInt8.toNat_ofNat']
    omega
  exact run_convert_bytes_back (P := Tryz.prog) _ 22 9 5 ⟨w.heap.size, 0, none⟩ 1 [UInt8.ofNat (48 + d)] Tryz.underlying22 Tryz.underlying5 Tryz.underlying9 (fun j hj => by
      obtain rfl : j = 0 := by simpa using hj
      rw [List.getElem_cons_zero, hb]
      simp [Addr.add])

set_option maxRecDepth 100000 in
set_option maxHeartbeats 1000000 in
theorem l19Dec_any (n : Nat) (hn : n ≤ 1000) (w : World) : Calls Tryz.prog 153 #[.int .i64 n] w (StrPost 1001 w) := by
  go_enter Tryz.func153, Tryz.ntmps153
  go_wp2_with fail
  go_loopw [0, 3] (fun i s wr => ∃ (m : Nat) (x : ByteArray), i = .int .i64 m ∧ s = .string x ∧ x.size + m ≤ 1000 ∧ Below w.heap.size w wr) (fun i _ _ => (intOf i).toNat)
  case atStart => exact ⟨n, ⟨#[]⟩, rfl, rfl, by show 0 + n ≤ 1000; omega, Below.refl _ _⟩
  case round =>
    obtain ⟨m, x, rfl, rfl, hx, hb⟩ := hrel
    have hz := hb.size
    by_cases hm : 9 < m
    · obtain ⟨d, hd⟩ : ∃ d : Nat, d = m % 10 := ⟨_, rfl⟩
      obtain ⟨q, hq⟩ : ∃ q : Nat, q = m / 10 := ⟨_, rfl⟩
      have e1 : (m : Int) % 10 = (d : Int) := by omega
      have e2 : (m : Int) / 10 = (q : Int) := by omega
      have hd10 : d < 10 := by omega
      have hqm : q + 1 ≤ m := by omega
      have kc := conv_digit wr d hd10
      replace hd := hid hd
      replace hq := hid hq
      go_wp2_with fail
      go_roundw
      case rel => exact ⟨q, _, rfl, rfl, by rw [ByteArray.size_append]; show 1 + x.size + q ≤ 1000; omega, hb.alloc hz _⟩
      case measure => simp [intOf]; omega
    · have kc := conv_digit wr m (by omega)
      go_wp2_with fail
      go_ret
      exact ⟨_, rfl, by rw [ByteArray.size_append]; show 1 + x.size ≤ 1001; omega, hb.alloc hz _⟩

set_option maxRecDepth 100000 in
set_option maxHeartbeats 2000000 in
theorem formatAlpha_any (A : Int) (w : World) : Calls Tryz.prog 151 #[.int .i64 A] w (StrPost 6 w) := by
  by_cases ha : alphaOk A = true
  · by_cases h0 : A = 0
    · subst h0
      replace ha := hid ha
      go_enter Tryz.func151, Tryz.ntmps151
      go_wp2_with (go_at_call 96; refine (l1Alphabet_any _ _).mono ?_; rintro e w' ⟨rfl, rfl⟩; rw [ha.out])
      go_ret
      exact ⟨_, rfl, by decide, Below.refl _ _⟩
    · have hb0 : ((A : Int) == 0) = false := by simpa using h0
      replace ha := hid ha
      replace h0 := hid h0
      go_enter Tryz.func151, Tryz.ntmps151
      go_wp2_with (first
        | (go_at_call 96; refine (l1Alphabet_any _ _).mono ?_; rintro e w' ⟨rfl, rfl⟩; rw [ha.out])
        | (go_at_call 49; refine (l1Letters_any _ _).mono ?_; rintro e w2 ⟨lv, rfl, hown, hb2⟩))
      have hl6 := lettersTo_len A 6
      have hll : letters A = lettersTo A 6 := rfl
      rw [← hll] at hl6
      obtain ⟨Al, cl, hvl, hcl, hcl'⟩ := own_slice hown
      subst hvl
      obtain ⟨ls, hls⟩ : ∃ ls, Hid (ls = letters A) := ⟨_, hid rfl⟩
      rw [← hls.out] at hown hl6 hcl
      rw [← hls.out]
      clear hll
      replace hown := hid hown
      go_wp2_with fail
      go_loopw [3, 5] (fun s i wr => ∃ (k : Nat) (x : ByteArray), i = .int .i64 k ∧ s = .string x ∧ x.size = k ∧ k ≤ ls.length ∧ Below w2.heap.size w2 wr) (fun _ i _ => ls.length - (intOf i).toNat)
      case atStart => exact ⟨0, ⟨#[]⟩, rfl, rfl, rfl, by omega, Below.refl _ _⟩
      case round =>
        obtain ⟨k, x, rfl, rfl, hx, hk, hb⟩ := hrel
        replace hx := hid hx
        have hz := hb.size
        by_cases hlt : k < ls.length
        · obtain ⟨g, cap, hve, hg1, hg2, -, -, hL⟩ := own_nats hown.out (by omega)
          injection hve with hv1 hv2 hv3
          subst hv1
          subst hv3
          have l0 := hL k hlt
          obtain ⟨l, hl⟩ : ∃ l : Nat, l = ls[k] := ⟨_, rfl⟩
          have hl6' : l < 6 := by
            have := letters_lt (A := A) (l := l) (by rw [← hls.out, hl]; exact List.getElem_mem _)
            exact this.1
          rw [← hl] at l0
          have l1 : wr.cell? ⟨g, k, none⟩ = some (.int .i64 (l : Nat)) := by rw [hb.cell (by simpa using hg2)]; exact l0
          have k1 : (0 : Int) ≤ (k : Int) ∧ (k : Int) < (ls.length : Int) := by omega
          have hxs : x.size ≤ 6 := by rw [hx.out]; omega
          replace hL := hid hL
          replace hl := hid hl
          clear l0
          go_wp2_with (go_at_call 111; refine (l1Text_any l hl6' _).mono ?_; rintro e w3 ⟨rfl, hb3⟩)
          have hb4 := hb.trans (hb3.mono hz)
          go_roundw
          case rel => exact ⟨k + 1, _, by go_num, rfl, by rw [ByteArray.size_append, hx.out]; rfl, by omega, hb4⟩
          case measure => simp [intOf]; omega
        · have hb4 := hb2.trans (hb.mono hb2.size)
          go_wp2_with fail
          go_ret
          exact ⟨_, rfl, by rw [hx.out]; omega, hb4⟩
  · replace ha : alphaOk A = false := by simpa using ha
    replace ha := hid ha
    go_enter Tryz.func151, Tryz.ntmps151
    go_wp2_with (go_at_call 96; refine (l1Alphabet_any _ _).mono ?_; rintro e w' ⟨rfl, rfl⟩; rw [ha.out])
    go_ret
    exact ⟨_, rfl, by decide, Below.refl _ _⟩

def NumPostB (w : World) (e : Ending) (w' : World) : Prop := ∃ (n : Int) (b : Bool), e = .returned (.tuple #[.int .i64 n, .bool b]) ∧ Below w.heap.size w w'

set_option maxRecDepth 100000 in
set_option maxHeartbeats 1000000 in
theorem parseAlpha_any (s : ByteArray) (w : World) : Calls Tryz.prog 118 #[.string s] w (NumPostB w) := by
  go_enter Tryz.func118, Tryz.ntmps118
  go_wp2_with fail
  go_loopw [4] (fun i wr => ∃ (k : Nat), i = .int .i64 k ∧ k ≤ 64 ∧ Below w.heap.size w wr) (fun i _ => 64 - (intOf i).toNat)
  case atStart => exact ⟨0, rfl, by omega, Below.refl _ _⟩
  case round =>
    obtain ⟨k, rfl, hk, hb⟩ := hrel
    have hz := hb.size
    by_cases hlt : k ≤ 63
    · go_wp2_with (go_at_call 151; refine (formatAlpha_any _ _).mono ?_; rintro e w2 ⟨x, rfl, hx, hb2⟩)
      all_goals have hb3 := hb.trans (hb2.mono hz)
      all_goals first
        | (go_ret2; exact ⟨_, _, rfl, hb3⟩)
        | (go_roundw
           case rel => exact ⟨k + 1, by go_num, by omega, hb3⟩
           case measure => simp [intOf]; omega)
    · go_wp2_with fail
      go_ret2
      exact ⟨_, _, rfl, hb⟩

end Go.Proofs.YtdkjnemakkppfaaGreatDoor

/- The drawing kit: l19Cut, l2Parse. -/
namespace Go.Proofs.YtdkjnemakkppfaaGreatDoor
open Go.RowKit Go.BigFrame AG

theorem infoStrD : (Tryz.prog.info? 9).map (fun i => (i.zero, i.size, i.bytes)) = some (some (.string ⟨#[]⟩), 1, 16) := by kernel_rfl

/-- Texts of at most N bytes each, as an owned slice. -/
def OwnStrs (w : World) (B : Nat) (v : Value) (ws : List ByteArray) : Prop := w.ownsRow B 9 1 v ws.length (ws.map Value.string)
theorem own_strs {w : World} {B : Nat} {v : Value} {ns : List ByteArray} (h : OwnStrs w B v ns) (hn : 0 < ns.length) :
    ∃ g cap, v = .slice (some ⟨g, 0, none⟩) ns.length cap ∧ B ≤ g ∧ g < w.heap.size ∧ ns.length ≤ cap ∧ cap ≤ 9223372036854775807 ∧
      ∀ i (hi : i < ns.length), w.cell? ⟨g, i, none⟩ = some (.string ns[i]) := by
  obtain ⟨g, cap, hv, h1, h2, h3, h4, h5⟩ := own_shape h hn
  exact ⟨g, cap, hv, h1, h2, h3, h4, fun i hi => h5 _ _ (by simp [hi])⟩

structure CutSt (w wr : World) (v : Value) (ws : List ByteArray) (N k : Nat) : Prop where
  own : OwnStrs wr w.heap.size v ws
  len : ws.length ≤ k
  small : ∀ x ∈ ws, x.size ≤ N
  below : Below w.heap.size w wr

theorem CutSt.add {w wr w1 : World} {v v' : Value} {ws : List ByteArray} {N k : Nat} {x : ByteArray} {o : Obj} (h : CutSt w wr v ws N k) (hx : x.size ≤ N) (hown : w1.ownsRow w.heap.size 9 1 v' (ws.length + 1) (ws.map Value.string ++ [.string x])) (hg : (wr.alloc o).grownBy w1 v.ownBlock) :
    CutSt w w1 v' (ws ++ [x]) N (k + 1) := by
  refine ⟨?_, ?_, ?_, ?_⟩
  · have : (ws ++ [x]).length = ws.length + 1 := by simp
    unfold OwnStrs
    rw [this, List.map_append]
    exact hown
  · have := h.len
    simp
    omega
  · intro y hy
    rcases List.mem_append.1 hy with hy | hy
    · exact h.small y hy
    · rw [List.mem_singleton.1 hy]; exact hx
  · exact (h.below.alloc h.below.size o).grown hg (by have := h.below.size; simp; omega) (fun k hk => (World.ownsRow.lt h.own k hk).1)

def CutPost (s : ByteArray) (w : World) (e : Ending) (w' : World) : Prop := ∃ v ws, e = .returned v ∧ CutSt w w' v ws s.size (s.size + 1)

set_option maxRecDepth 100000 in
set_option maxHeartbeats 2000000 in
theorem l19Cut_any (s : ByteArray) (c : Nat) (w : World) (hz : s.size ≤ 1000000) : Calls Tryz.prog 117 #[.string s, .int .u8 c] w (CutPost s w) := by
  obtain ⟨i0, hi, hz0, hz1, hz2⟩ := info_parts infoStrD
  have h0 : CutSt w (w.alloc (.cells #[] 9)) (.slice (some ⟨w.heap.size, 0, none⟩) 0 0) [] s.size 0 :=
    ⟨⟨rfl, .inr ⟨w.heap.size, 0, #[], rfl, Nat.le_refl _, heap_alloc_self _ _, Nat.le_refl _, Nat.zero_le _, rfl, rfl⟩⟩, Nat.le_refl _, fun x hx => (by cases hx), (Below.refl _ _).alloc (Nat.le_refl _) _⟩
  replace h0 := hid h0
  go_enter Tryz.func117, Tryz.ntmps117
  go_wp2_with fail
  go_loopw [5, 6, 7] (fun v f i wr => ∃ (ws : List ByteArray) (a k : Nat), i = .int .i64 k ∧ f = .int .i64 a ∧ (a ≤ k ∨ k = s.size + 1) ∧ k ≤ s.size + 1 ∧ CutSt w wr v ws s.size k) (fun _ _ i _ => s.size + 1 - (intOf i).toNat)
  case atStart => exact ⟨[], 0, 0, rfl, rfl, by omega, by omega, h0.out⟩
  case round =>
    obtain ⟨ws, a, k, rfl, rfl, ha, hk, hs⟩ := hrel
    have hzr := hs.below.size
    have hln := hs.len
    by_cases hlt : k ≤ s.size
    · have hak : a ≤ k := by omega
      have b1 : (0 : Int) ≤ (a : Int) := by omega
      have b2 : (a : Int) ≤ (k : Int) := by omega
      have b3 : (k : Int) ≤ (s.size : Int) := by omega
      have hxs : (s.extract a k).size ≤ s.size := by rw [ByteArray.size_extract]; omega
      have hown := hs.own
      unfold OwnStrs at hown
      replace hown := hid hown
      replace hs := hid hs
      by_cases hend : k = s.size
      · have e1 : ((k : Int) == (s.size : Int)) = true := by simp; omega
        replace hxs := hid hxs
        replace hend := hid hend
        go_wp2_with (at_builtin; refine wpList_append_lies _ (by rfl) _ _ 112 (by rfl) w.heap.size 9 i0 (.string ⟨#[]⟩) 1 16 Tryz.underlying112 hi hz0 hz1 hz2 rfl (by decide) _ ws.length _ (by rfl) (hown.out.alloc _) ⟨wr.heap.size, 0, none⟩ 1 1 [.string (s.extract a k)] (by rfl) (by rfl) (World.news_of_block (heap_alloc_new wr _)) ?c1 (by omega) ?c3 ?c4 ?c5 _ rfl ?_)
        case c1 => simp [Value.oneCell']
        case c3 => unfold maxLen; omega
        case c4 => omega
        case c5 => simp; omega
        intro gg cap w5 hown5 hgrow hat hlt5
        have hfin := hid (hs.out.add hxs.out hown5 hgrow)
        clear hown5 hgrow hat
        go_wp2_with fail
        go_roundw
        case rel => exact ⟨_, k + 1, k + 1, by go_num, by go_num, by omega, by omega, hfin.out⟩
        case measure => simp [intOf]; omega
      · have e1 : ((k : Int) == (s.size : Int)) = false := by simp; omega
        obtain ⟨y, hy, hy2⟩ := byte_some s k (by omega)
        have b4 : (0 : Int) ≤ (k : Int) ∧ (k : Int) < (s.size : Int) := by omega
        replace hend := hid hend
        by_cases hyc : y = c
        · have e2 : ((y : Int) == (c : Int)) = true := by simp; omega
          replace hyc := hid hyc
          replace hxs := hid hxs
          go_wp2_with (at_builtin; refine wpList_append_lies _ (by rfl) _ _ 112 (by rfl) w.heap.size 9 i0 (.string ⟨#[]⟩) 1 16 Tryz.underlying112 hi hz0 hz1 hz2 rfl (by decide) _ ws.length _ (by rfl) (hown.out.alloc _) ⟨wr.heap.size, 0, none⟩ 1 1 [.string (s.extract a k)] (by rfl) (by rfl) (World.news_of_block (heap_alloc_new wr _)) ?c1 (by omega) ?c3 ?c4 ?c5 _ rfl ?_)
          case c1 => simp [Value.oneCell']
          case c3 => unfold maxLen; omega
          case c4 => omega
          case c5 => simp; omega
          intro gg cap w5 hown5 hgrow hat hlt5
          have hfin := hid (hs.out.add hxs.out hown5 hgrow)
          clear hown5 hgrow hat
          go_wp2_with fail
          go_roundw
          case rel => exact ⟨_, k + 1, k + 1, by go_num, by go_num, by omega, by omega, hfin.out⟩
          case measure => simp [intOf]; omega
        · have e2 : ((y : Int) == (c : Int)) = false := by simp; omega
          replace hyc := hid hyc
          go_wp2_with fail
          go_roundw
          case rel => exact ⟨ws, a, k + 1, by go_num, rfl, by omega, by omega, ⟨hs.out.own, by have := hs.out.len; omega, hs.out.small, hs.out.below⟩⟩
          case measure => simp [intOf]; omega
    · go_wp2_with fail
      go_ret
      exact ⟨_, ws, rfl, ⟨hs.own, by have := hs.len; omega, hs.small, hs.below⟩⟩

def EdBPost (w : World) (e : Ending) (w' : World) : Prop := ∃ (x : Ed) (b : Bool), e = .returned (.tuple #[x.val, .bool b]) ∧ Below w.heap.size w w'

set_option maxRecDepth 100000 in
set_option maxHeartbeats 4000000 in
theorem l2Parse_any (s : ByteArray) (w : World) (hz : s.size ≤ 1000000) : Calls Tryz.prog 120 #[.string s] w (EdBPost w) := by
  have hres := Blk.new w 50 #[.int .i64 0, .int .i64 0, .int .i64 0]
  have hb0 : Below w.heap.size w (w.alloc (.cells #[.int .i64 0, .int .i64 0, .int .i64 0] 50)) := (Below.refl _ _).alloc (Nat.le_refl _) _
  generalize hw0 : w.alloc (.cells #[.int .i64 0, .int .i64 0, .int .i64 0] 50) = w0 at hres hb0
  replace hres := hid hres
  go_enter Tryz.func120, Tryz.ntmps120
  go_wp2_with fail
  clear hw0
  go_loopw [4] (fun i wr => ∃ (k : Nat), i = .int .i64 k ∧ k ≤ s.size ∧ w0 = wr) (fun i _ => s.size - (intOf i).toNat)
  case atStart => exact ⟨0, rfl, by omega, rfl⟩
  case round =>
    obtain ⟨k, rfl, hk, rfl⟩ := hrel
    have d0 := hres.out.cell 0
    have d1 := hres.out.cell 1
    have d2 := hres.out.cell 2
    have f0 := hres.out.frozen 0
    have f1 := hres.out.frozen 1
    have f2 := hres.out.frozen 2
    simp only [List.getElem?_toArray, List.getElem?_cons_zero, List.getElem?_cons_succ] at d0 d1 d2
    by_cases hlt : k < s.size
    · obtain ⟨y, hy, hy2⟩ := byte_some s k hlt
      have b4 : (0 : Int) ≤ (k : Int) ∧ (k : Int) < (s.size : Int) := by omega
      have t1 : (s.extract 0 k).size ≤ 1000000 := by rw [ByteArray.size_extract]; omega
      have t2 : (s.extract (k + 1) s.size).size ≤ 1000000 := by rw [ByteArray.size_extract]; omega
      obtain ⟨s1, hs1⟩ : ∃ s1, s.extract 0 k = s1 := ⟨_, rfl⟩
      obtain ⟨s2, hs2⟩ : ∃ s2, s.extract (k + 1) s.size = s2 := ⟨_, rfl⟩
      rw [hs1] at t1
      rw [hs2] at t2
      have b5 : ((k : Int) + 1) ≤ (s.size : Int) := by omega
      by_cases h1 : y < 97
      · go_wp2_with fail
        go_roundw
        case rel => exact ⟨k + 1, by go_num, by omega, by first | trivial | rfl⟩
        case measure => simp [intOf]; omega
      · by_cases h2 : 102 < y
        · go_wp2_with fail
          go_roundw
          case rel => exact ⟨k + 1, by go_num, by omega, by first | trivial | rfl⟩
          case measure => simp [intOf]; omega
        · go_wp2_with fail
          refine (l19Num_any s1 w0 t1).mono ?_
          rintro e w' ⟨n1, c1, rfl, rfl⟩
          go_wp2_with fail
          refine (l19Num_any s2 w0 t2).mono ?_
          rintro e w' ⟨n2, c2, rfl, rfl⟩
          cases c1
          · go_wp2_with (refine (l1At_any s k _ hlt).mono ?_; rintro e w1 ⟨rfl, rfl⟩)
            refine bodyPost_ret (v := .tuple #[.agg #[.int .i64 n1, .int .i64 (lz s k), .int .i64 n2], .bool false]) (by simp [results, Tryz.results120, go_sem, d0, d1, d2]) rfl ?_
            exact ⟨⟨n1, lz s k, n2⟩, _, rfl, by (repeat (first | exact Below.refl _ _ | assumption | refine Below.drew ?_ | refine Below.alloc ?_ (by first | omega | (simp; done) | (simp; omega)) _ | refine Below.setCell ?_ (by first | omega | (simp; done) | (simp; omega)) _))⟩
          · go_wp2_with (refine (l1At_any s k _ hlt).mono ?_; rintro e w1 ⟨rfl, rfl⟩)
            refine bodyPost_ret (v := .tuple #[.agg #[.int .i64 n1, .int .i64 (lz s k), .int .i64 n2], .bool c2]) (by simp [results, Tryz.results120, go_sem, d0, d1, d2]) rfl ?_
            exact ⟨⟨n1, lz s k, n2⟩, _, rfl, by (repeat (first | exact Below.refl _ _ | assumption | refine Below.drew ?_ | refine Below.alloc ?_ (by first | omega | (simp; done) | (simp; omega)) _ | refine Below.setCell ?_ (by first | omega | (simp; done) | (simp; omega)) _))⟩
    · go_wp2_with fail
      refine bodyPost_ret (v := .tuple #[.agg #[.int .i64 0, .int .i64 0, .int .i64 0], .bool false]) (by simp [results, Tryz.results120, go_sem, d0, d1, d2]) rfl ?_
      exact ⟨⟨0, 0, 0⟩, _, rfl, by (repeat (first | exact Below.refl _ _ | assumption | refine Below.drew ?_ | refine Below.alloc ?_ (by first | omega | (simp; done) | (simp; omega)) _ | refine Below.setCell ?_ (by first | omega | (simp; done) | (simp; omega)) _))⟩

end Go.Proofs.YtdkjnemakkppfaaGreatDoor

/- The drawing kit: l2Random, l2Small. -/
namespace Go.Proofs.YtdkjnemakkppfaaGreatDoor
open Go.RowKit Go.BigFrame AG

theorem infoEd : (Tryz.prog.info? 50).map (fun i => (i.zero, i.size, i.bytes)) = some (some (.agg #[.int .i64 0, .int .i64 0, .int .i64 0]), 3, 24) := by kernel_rfl

def edCells : List Ed → List Value
  | [] => []
  | e :: es => .int .i64 e.f :: .int .i64 e.l :: .int .i64 e.t :: edCells es
theorem edCells_append : ∀ ps qs : List Ed, edCells (ps ++ qs) = edCells ps ++ edCells qs
  | [], _ => rfl
  | p :: ps, qs => by rw [List.cons_append, edCells, edCells_append ps qs]; rfl
theorem edCells_at : ∀ (ps : List Ed) (i : Nat) (h : i < ps.length), (edCells ps)[i * 3]? = some (.int .i64 ps[i].f) ∧ (edCells ps)[i * 3 + 1]? = some (.int .i64 ps[i].l) ∧ (edCells ps)[i * 3 + 2]? = some (.int .i64 ps[i].t)
  | p :: ps, 0, _ => ⟨rfl, rfl, rfl⟩
  | p :: ps, i + 1, h => by
    have := edCells_at ps i (by simpa using h)
    rw [show (i + 1) * 3 = i * 3 + 1 + 1 + 1 from by omega]
    exact this
theorem edCells_len : ∀ ps : List Ed, (edCells ps).length = ps.length * 3
  | [] => rfl
  | p :: ps => by simp [edCells, edCells_len ps]; omega

/-- The edges es, as an owned slice. -/
def OwnEds (w : World) (B : Nat) (v : Value) (es : List Ed) : Prop := w.ownsRow B 50 3 v es.length (edCells es)
theorem OwnEds.read {w : World} {B : Nat} {v : Value} {es : List Ed} (h : OwnEds w B v es) : ∃ A c, v = .slice A es.length c ∧ es.length ≤ c ∧ c ≤ 9223372036854775807 ∧ EdsAt w w.heap.size A es ∧ FreshA B A := by
  have hlt := World.ownsRow.lt h
  have hcl := fun {g} hg => World.ownsRow.cells h (g := g) hg
  obtain ⟨_, ⟨rfl, h0⟩ | ⟨g, cap, cur, rfl, hg, hw, h1, h2, h3, h4⟩⟩ := h
  · exact ⟨none, 0, by rw [h0], by omega, by omega, fun hl => by omega, fun b o hA => by cases hA⟩
  · refine ⟨_, cap, rfl, h1, h2, fun _ => ⟨g, 0, rfl, (hlt g rfl).2, fun i hi => ?_⟩, fun b o hA => by injection hA with hA; injection hA with hA; omega⟩
    obtain ⟨a1, a2, a3⟩ := edCells_at es i hi
    have b1 := hcl rfl _ _ a1
    have b2 := hcl rfl _ _ a2
    have b3 := hcl rfl _ _ a3
    have hadd : ∀ j, (⟨g, 0, none⟩ : Addr).add j = ⟨g, j, none⟩ := fun j => by unfold Addr.add; split <;> simp_all
    rw [hadd] at b1 b2 b3
    simp only [Nat.zero_add]
    exact ⟨b1, b2, b3⟩

/-- Some system comes back; the reader has moved on to P at most. -/
def SyUp (R P L : Nat) (w : World) (e : Ending) (w' : World) : Prop :=
  ∃ (s : Sy) (A : Option Addr) (c : Nat), e = .returned (s.val A c) ∧ s.es.length ≤ c ∧ c ≤ 9223372036854775807 ∧ s.es.length ≤ L ∧ EdsAt w' w'.heap.size A s.es ∧ FreshA w.heap.size A ∧ RdUp w' R P ∧ KeepB (fun b => b = R) w w'

/-- What l2Random holds in its loops: N rounds at most are behind it. -/
structure RndSt (w wr : World) (R P gs : Nat) (al st : Int) (lv : Value) (ls : List Nat) (N : Nat) (v : Value) (es : List Ed) : Prop where
  len : es.length ≤ N
  blk : Blk wr gs 25 #[.int .i64 al, .int .i64 st, v]
  own : OwnEds wr (gs + 1) v es
  list : OwnNats wr (gs + 1) lv ls
  rd : RdUp wr R (P + N)
  keep : KeepB (fun b => b = R) w wr
  res : Blk wr w.heap.size 25 #[.int .i64 0, .int .i64 0, .slice none 0 0]
theorem RndSt.pick {w wr w1 : World} {R P gs : Nat} {al st : Int} {lv : Value} {ls : List Nat} {N : Nat} {v : Value} {es : List Ed} (h : RndSt w wr R P gs al st lv ls N v es) (hR : R < w.heap.size) (hgs : w.heap.size < gs) (hr : RdUp w1 R (P + N + 1)) (hk : KeepB (fun b => b = R) wr w1) :
    RndSt w w1 R P gs al st lv ls (N + 1) v es :=
  ⟨by have := h.len; omega, h.blk.keep hk (by omega), own_keep h.own hk (fun g hg => by have := (h.own.lt g hg).1; omega), own_keep h.list hk (fun g hg => by have := (World.ownsRow.lt h.list g hg).1; omega), hr, h.keep.trans hk, h.res.keep hk (by omega)⟩
theorem RndSt.later {w wr w1 : World} {R P gs : Nat} {al st : Int} {lv : Value} {ls : List Nat} {N : Nat} {v : Value} {es : List Ed} (h : RndSt w wr R P gs al st lv ls N v es) (hb : Below wr.heap.size wr w1) : RndSt w w1 R P gs al st lv ls N v es :=
  ⟨h.len, h.blk.below hb h.blk.lt, own_later h.own hb, own_later h.list hb, h.rd.later hb, h.keep.trans (KeepB.of_below hb), h.res.below hb h.res.lt⟩
theorem RndSt.begin {w w2 : World} {R P : Nat} {al st : Int} {lv : Value} {ls : List Nat}
    (hr : RdUp w R P) (hown : OwnNats w2 (w.heap.size + 2) lv ls) (hb : Below (w.heap.size + 2) ((w.alloc (.cells #[.int .i64 0, .int .i64 0, .slice none 0 0] 25)).alloc (.cells #[.int .i64 al, .int .i64 st, .slice none 0 0] 25)) w2) :
    RndSt w w2 R P (w.heap.size + 1) al st lv ls 0 (.slice none 0 0) [] := by
  have b1 : Below w.heap.size w w2 := (((Below.refl _ _).alloc (Nat.le_refl _) _).alloc (by simp) _).trans (hb.mono (by omega))
  refine ⟨Nat.le_refl _, ?_, World.ownsRow_nil _ _ _ _, own_base hown (by omega), hr.later b1, KeepB.of_below b1, ?_⟩
  · have := Blk.new (w.alloc (.cells #[.int .i64 0, .int .i64 0, .slice none 0 0] 25)) 25 #[.int .i64 al, .int .i64 st, .slice none 0 0]
    rw [World.size_alloc] at this
    exact this.below hb (by omega)
  · have := (Blk.new w 25 #[.int .i64 0, .int .i64 0, .slice none 0 0]).alloc (.cells #[.int .i64 al, .int .i64 st, .slice none 0 0] 25)
    exact this.below hb (by omega)
/-- An edge is appended and the field stored. -/
theorem RndSt.add' {w wr w1 : World} {R P gs : Nat} {al st : Int} {lv : Value} {ls : List Nat} {N : Nat} {v v' : Value} {es : List Ed} {x : Ed} (h : RndSt w wr R P gs al st lv ls N v es) (hN : es.length + 1 ≤ N) (hR : R < w.heap.size) (hgs : w.heap.size < gs)
    (hown : w1.ownsRow (gs + 1) 50 3 v' (es.length + 1) (edCells es ++ [.int .i64 x.f, .int .i64 x.l, .int .i64 x.t])) (hg : wr.grownBy w1 v.ownBlock) :
    RndSt w (w1.setCell ⟨gs, 2, none⟩ v') R P gs al st lv ls N v' (es ++ [x]) := by
  have hv : ∀ k, v.ownBlock = some k → gs < k := fun k hk => by have := (h.own.lt k hk).1; omega
  have hv' : ∀ k, v'.ownBlock = some k → gs < k := fun k hk => by have := (World.ownsRow.lt hown k hk).1; omega
  have k1 : KeepB (fun b => v.ownBlock = some b) wr w1 := (KeepB.refl _ wr).grown hg (fun k hk _ => hk)
  have k2 : KeepB (fun b => v.ownBlock = some b ∨ b = gs) wr (w1.setCell ⟨gs, 2, none⟩ v') := (k1.mono fun _ h => .inl h).setCell _ _ fun _ => .inr rfl
  have hb := h.blk.lt
  have hneL : ∀ k, lv.ownBlock = some k → ¬ v.ownBlock = some k := fun k hk hk2 => own_ne_own h.list h.own (by decide) k k hk hk2 rfl
  have hll := World.ownsRow.lt h.list
  refine ⟨by simp; omega, ?_, ?_, ?_, h.rd.keep k2 ?_, ?_, ?_⟩
  · have := (h.blk.keep k1 (fun hk => by have := hv _ hk; omega)).set_ 2 v'
    simpa using this
  · have e : (es ++ [x]).length = es.length + 1 := by simp
    unfold OwnEds
    rw [e, edCells_append]
    exact ownsRow_setCell_other hown (fun hk => by have := hv' _ hk; simp at this) _
  · exact own_keep h.list k2 (fun g hg hk => by
      rcases hk with hk | hk
      · exact hneL g hg hk
      · have := (hll g hg).1; omega)
  · rintro k (hk | rfl)
    · have := hv k hk; omega
    · omega
  · exact h.keep.grown hg (fun k hk hlt => by have := hv k hk; omega) |>.setCell _ _ fun hlt => by simp at hlt; omega
  · exact h.res.keep k2 (by rintro (hk | hk); (have := hv _ hk; omega); omega)
theorem RndSt.post {w wr : World} {R P : Nat} {al st : Int} {lv : Value} {ls : List Nat} {N : Nat} {v : Value} {es : List Ed} (h : RndSt w wr R P (w.heap.size + 1) al st lv ls N v es) (hN : N ≤ 1536) (hR : R < w.heap.size) (v1 v2 v3 : Value) :
    SyUp R (P + 1536) 1536 w (.returned (.agg #[.int .i64 al, .int .i64 st, v])) (((wr.setCell ⟨w.heap.size, 0, none⟩ v1).setCell ⟨w.heap.size, 1, none⟩ v2).setCell ⟨w.heap.size, 2, none⟩ v3) := by
  obtain ⟨A, c, hv, h1, h2, h3, h4⟩ := h.own.read
  have hl := h.len
  have hk : KeepB (fun b => b = w.heap.size) wr (((wr.setCell ⟨w.heap.size, 0, none⟩ v1).setCell ⟨w.heap.size, 1, none⟩ v2).setCell ⟨w.heap.size, 2, none⟩ v3) := (((KeepB.refl _ wr).setCell _ _ (by simp)).setCell _ _ (by simp)).setCell _ _ (by simp)
  refine ⟨⟨al, st, es⟩, A, c, by rw [hv]; rfl, h1, h2, by show es.length ≤ 1536; omega, ?_, fun b o hA => by have := h4 b o hA; omega, (h.rd.more (by omega)).keep hk (by omega), ?_⟩
  · have hne : ∀ b o, A = some ⟨b, o, none⟩ → 0 < es.length → b ≠ w.heap.size := fun b o hA _ => by have := h4 b o hA; omega
    simpa [World.setCell] using ((h3.stored v1 hne).stored v2 hne).stored v3 hne
  · exact (((h.keep).setCell _ _ (by simp)).setCell _ _ (by simp)).setCell _ _ (by simp)


set_option maxRecDepth 100000 in
set_option maxHeartbeats 4000000 in
theorem l2Random_up (R P : Nat) (al st few : Int) (w : World) (hP : P + 100000 ≤ 1125899906842624) (hst : st ≤ 16) (hf : few ≤ 9223372036854775807) (hr : RdUp w R P) :
    Calls Tryz.prog 84 #[.pointer (some ⟨R, 0, none⟩), .int .i64 al, .int .i64 st, .int .i64 few] w (SyUp R (P + 1536) 1536 w) := by
  obtain ⟨i0, hi, hz0, hz1, hz2⟩ := info_parts infoEd
  have hR := hr.lt
  replace hr := hid hr
  go_enter Tryz.func84, Tryz.ntmps84
  go_wp2_with fail
  refine (l1Letters_any al _).mono ?_
  rintro e w2 ⟨lv, rfl, hown, hb2⟩
  simp only [World.size_alloc] at hown hb2
  have H0 := hid (RndSt.begin (st := st) hr.out hown hb2)
  clear hown hb2
  obtain ⟨ls, hls⟩ : ∃ ls, Hid (ls = letters al) := ⟨_, hid rfl⟩
  rw [← hls.out] at H0
  have hl6 : ls.length ≤ 6 := by rw [hls.out]; exact lettersTo_len al 6
  obtain ⟨Al, cl, hvl, hcl, hcl'⟩ := own_slice H0.out.list
  subst hvl
  go_wp2_with fail
  go_loopw [11] (fun i wr => ∃ (k N : Nat) (v : Value) (es : List Ed), i = .int .i64 k ∧ k ≤ 16 ∧ N ≤ k * 96 ∧ RndSt w wr R P (w.heap.size + 1) al st (.slice Al ls.length cl) ls N v es) (fun i _ => st.toNat - (intOf i).toNat)
  case atStart => exact ⟨0, 0, _, [], rfl, by omega, by omega, H0.out⟩
  case round =>
    obtain ⟨k, N, v, es, rfl, hk, hN, hs⟩ := hrel
    replace hs := hid hs
    by_cases hlt : (k : Int) < st
    · go_wp2_with fail
      obtain ⟨wo, rfl⟩ : ∃ wo : World, wo = wr := ⟨_, rfl⟩
      go_loopw [12] (fun i wr => ∃ (m N : Nat) (v : Value) (es : List Ed), i = .int .i64 m ∧ m ≤ ls.length ∧ N ≤ k * 96 + m * 16 ∧ RndSt w wr R P (w.heap.size + 1) al st (.slice Al ls.length cl) ls N v es) (fun i _ => ls.length - (intOf i).toNat)
      case atStart => exact ⟨0, N, v, es, rfl, by omega, by omega, hs.out⟩
      case round =>
        clear hs hN
        obtain ⟨m, N, v, es, rfl, hm, hN, hs⟩ := hrel
        replace hs := hid hs
        by_cases hlm : m < ls.length
        · go_wp2_with fail
          obtain ⟨wo2, rfl⟩ : ∃ wo2 : World, wo2 = wr := ⟨_, rfl⟩
          go_loopw [13] (fun i wr => ∃ (t N : Nat) (v : Value) (es : List Ed), i = .int .i64 t ∧ t ≤ 16 ∧ N ≤ k * 96 + m * 16 + t ∧ RndSt w wr R P (w.heap.size + 1) al st (.slice Al ls.length cl) ls N v es) (fun i _ => st.toNat - (intOf i).toNat)
          case atStart => exact ⟨0, N, v, es, rfl, by omega, by omega, hs.out⟩
          case round =>
            clear hs hN
            obtain ⟨t, N, v, es, rfl, ht, hN, hs⟩ := hrel
            have hrd := hid hs.rd
            replace hs := hid hs
            by_cases hlt2 : (t : Int) < st
            · go_wp2_with fail
              refine (pick_up R (P + N) few wr (by omega) hf hrd.out).mono ?_
              rintro e w3 ⟨j, rfl, hj0, hj1, hr3, hk3⟩
              have h3 := hid (hs.out.pick hR (by omega) hr3 hk3)
              have hle0 := hs.out.len
              clear hs hrd hr3 hk3 hj1
              by_cases hj : j = 0
              · subst hj
                obtain ⟨gl, cl2, hve, hgl, hgl', -, -, hLc⟩ := own_nats h3.out.list (by omega)
                injection hve with hv1 hv2 hv3
                subst hv1
                subst hv3
                have l0 := hLc m hlm
                obtain ⟨l, hll⟩ : ∃ l : Nat, l = ls[m] := ⟨_, rfl⟩
                rw [← hll] at l0
                replace hll := hid hll
                replace hLc := hid hLc
                have hown := h3.out.own
                unfold OwnEds at hown
                have hbl := h3.out.blk.lt
                have c2 := h3.out.blk.cell 2
                simp only [List.getElem?_toArray, List.getElem?_cons_zero, List.getElem?_cons_succ] at c2
                have m1 : (0 : Int) ≤ (m : Int) := by omega
                have m2 : (m : Int) < (ls.length : Int) := by omega
                have ag : v.ownBlock ≠ some (w.heap.size + 1) := fun e => by have := (hown.lt _ e).1; omega
                have al' : v.ownBlock ≠ some gl := fun e => own_ne_own h3.out.list hown (by decide) gl gl rfl e rfl
                have hle := h3.out.len
                replace hown := hid hown
                have q0 := GK.BI.cell c2
                have q1 := GK.BI.cell l0
                clear c2 l0
                go_wp2_with fail
                refine GK.wp_region 10 [10, 11, 12] 200 (KeepB fun _ => False) (GK.BI w3) (fun _ _ _ => True) (by kernel_rfl) (by kernel_rfl) (GK.BI.way w3) (by decide) (Below.refl _ _).drew ?_
                simp only [List.take_succ_cons, List.take_zero]
                (repeat (refine GK.grow_quiet w3 (by rfl) (by rfl) ?_; intro K hK; go_big_quiet_op; go_big_quiet_on))
                refine GK.grow_new (K := fun _ => False) (by rfl) _ (fun b => .slice (some ⟨b, 0, none⟩) 1 1) 50 #[.int .i64 (k : Nat), .int .i64 (l : Nat), .int .i64 (t : Nat)] (fun _ => by go_simp) rfl (fun _ _ o h => GK.BI.alloc o h) (fun _ _ h => GK.BI.size h) (fun _ h => h.elim) (fun b hb => ?_)
                simp only [Act.put, List.setIfInBounds_toArray, List.set_cons_zero, List.set_cons_succ]
                refine GK.grow_nil ?_
                intro w4 hw4 hf
                obtain ⟨g', hge, hge2, hblk⟩ := hf _ List.mem_cons_self
                cases hge
                clear hf
                simp only [List.filterMap_cons, List.filterMap_nil, List.getElem?_cons_zero, List.getElem?_cons_succ]
                have hown4 := own_later hown.out hw4
                have z4 := Below.size hw4
                have c2 : w4.cell? ⟨w.heap.size + 1, 2, none⟩ = some v := by rw [Below.cell hw4 (by simpa using hbl)]; exact h3.out.blk.cell 2
                have f2 : w4.frozen? ⟨w.heap.size + 1, 2, none⟩ = false := by rw [Below.frozen hw4 (by simpa using hbl)]; exact h3.out.blk.frozen 2
                have hS4 := hid (h3.out.later hw4)
                clear q0 q1
                refine wpList_append_lies _ (by rfl) _ _ 23 (by rfl) (w.heap.size + 1 + 1) 50 i0 (.agg #[.int .i64 0, .int .i64 0, .int .i64 0]) 3 24 Tryz.underlying23 hi hz0 hz1 hz2 rfl (by decide) v es.length (edCells es) (by rfl) hown4 ⟨b, 0, none⟩ 1 1 [.int .i64 (k : Nat), .int .i64 (l : Nat), .int .i64 (t : Nat)] (by rfl) (by rfl) (World.news_of_block hblk) ?c1 (by omega) ?c3 ?c4 ?c5 w4.heap.size rfl ?_
                case c1 => simp [Value.oneCell']
                case c3 => unfold maxLen; omega
                case c4 => omega
                case c5 => omega
                intro gg cap w5 hown5 hgrow hat hlt5
                have c2' : w5.cell? ⟨w.heap.size + 1, 2, none⟩ = some v := by rw [hgrow.cell_far _ (by simp; omega) (Ne.symm ag)]; exact c2
                have f2' : w5.frozen? ⟨w.heap.size + 1, 2, none⟩ = false := by rw [hgrow.frozen_far _ (by simp; omega) (Ne.symm ag)]; exact f2
                have hfin := hid (hS4.out.add' (x := ⟨k, l, t⟩) (by omega) hR (by omega) hown5 hgrow)
                clear hown4 hown5 hgrow c2 f2
                go_wp2_with fail
                go_roundw
                case rel => exact ⟨t + 1, N + 1, _, _, by go_num, by omega, by omega, hfin.out⟩
                case measure => simp [intOf]; omega
              · have hjb : ((j : Int) == 0) = false := by simp; omega
                replace hj := hid hj
                go_wp2_with fail
                go_roundw
                case rel => exact ⟨t + 1, N + 1, v, es, by go_num, by omega, by omega, h3.out⟩
                case measure => simp [intOf]; omega
            · go_wp2_with fail
              go_roundw
              case rel => exact ⟨m + 1, N, v, es, by go_num, by omega, by omega, hs.out⟩
              case measure => simp [intOf]; omega
        · go_wp2_with fail
          go_roundw
          case rel => exact ⟨k + 1, N, v, es, by go_num, by omega, by omega, hs.out⟩
          case measure => simp [intOf]; omega
    · obtain ⟨Av, cv, hve, -, -⟩ := own_slice hs.out.own
      subst hve
      have c0 := hs.out.blk.cell 0
      have c1 := hs.out.blk.cell 1
      have c2 := hs.out.blk.cell 2
      have d0 := hs.out.res.cell 0
      have d1 := hs.out.res.cell 1
      have d2 := hs.out.res.cell 2
      have f0 := hs.out.res.frozen 0
      have f1 := hs.out.res.frozen 1
      have f2 := hs.out.res.frozen 2
      simp only [List.getElem?_toArray, List.getElem?_cons_zero, List.getElem?_cons_succ] at c0 c1 c2 d0 d1 d2
      have hfin := hid (hs.out.post (by omega) hR (.int .i64 al) (.int .i64 st) (.slice Av es.length cv))
      have hvl := hs.out.res.lt
      go_wp2
      refine bodyPost_ret (v := .agg #[.int .i64 al, .int .i64 st, .slice Av es.length cv]) (by simp [results, Tryz.results84, go_sem, d0, d1, d2]) rfl ?_
      exact hfin.out

/-- The result's own block, which the function made first, is stored into. -/
theorem SyUp.ret {R P L : Nat} {w w1 : World} {s : Sy} {A : Option Addr} {c : Nat} (h1 : s.es.length ≤ c) (h2 : c ≤ 9223372036854775807) (h3 : s.es.length ≤ L) (h4 : EdsAt w1 w1.heap.size A s.es) (h5 : FreshA (w.heap.size + 1) A)
    (h6 : RdUp w1 R P) (h7 : KeepB (fun b => b = R) w w1) (hR : R < w.heap.size) (v1 v2 v3 : Value) :
    SyUp R P L w (.returned (.agg #[.int .i64 s.al, .int .i64 s.st, .slice A s.es.length c])) (((w1.setCell ⟨w.heap.size, 0, none⟩ v1).setCell ⟨w.heap.size, 1, none⟩ v2).setCell ⟨w.heap.size, 2, none⟩ v3) := by
  have hk : KeepB (fun b => b = w.heap.size) w1 (((w1.setCell ⟨w.heap.size, 0, none⟩ v1).setCell ⟨w.heap.size, 1, none⟩ v2).setCell ⟨w.heap.size, 2, none⟩ v3) := (((KeepB.refl _ w1).setCell _ _ (by simp)).setCell _ _ (by simp)).setCell _ _ (by simp)
  have hne : ∀ b o, A = some ⟨b, o, none⟩ → 0 < s.es.length → b ≠ w.heap.size := fun b o hA _ => by have := h5 b o hA; omega
  refine ⟨s, A, c, rfl, h1, h2, h3, ?_, fun b o hA => by have := h5 b o hA; omega, h6.keep hk (by omega), ?_⟩
  · simpa [World.setCell] using ((h4.stored v1 hne).stored v2 hne).stored v3 hne
  · exact ((h7.setCell _ _ (by simp)).setCell _ _ (by simp)).setCell _ _ (by simp)

set_option maxRecDepth 100000 in
set_option maxHeartbeats 2000000 in
theorem l2Small_up (R P : Nat) (w : World) (hP : P + 200000 ≤ 1125899906842624) (hr : RdUp w R P) :
    Calls Tryz.prog 33 #[.pointer (some ⟨R, 0, none⟩)] w (SyUp R (P + 2000) 1536 w) := by
  have hR := hr.lt
  have hres := Blk.new w 25 #[.int .i64 0, .int .i64 0, .slice none 0 0]
  have hb0 : Below w.heap.size w (w.alloc (.cells #[.int .i64 0, .int .i64 0, .slice none 0 0] 25)) := (Below.refl _ _).alloc (Nat.le_refl _) _
  generalize hw0 : w.alloc (.cells #[.int .i64 0, .int .i64 0, .slice none 0 0] 25) = w0 at hres hb0
  have hz0 : w0.heap.size = w.heap.size + 1 := by rw [← hw0]; simp
  have hr0 := hid (hr.later hb0)
  replace hr := hid hr
  replace hres := hid hres
  replace hz0 := hid hz0
  go_enter Tryz.func33, Tryz.ntmps33
  go_wp2_with fail
  refine (num_lit R P [3, 6, 7, 5, 2] w0 _ (by decide) (by decide) (by omega) hr0.out).mono ?_
  rintro e w1 ⟨al, hal, rfl, hr1, hk1⟩
  replace hr1 := hid hr1
  replace hk1 := hid hk1
  clear hal
  go_wp2_with fail
  refine (num_lit R (P + 1) [2, 3, 1, 3] w1 _ (by decide) (by decide) (by omega) hr1.out).mono ?_
  rintro e w2 ⟨st, hst, rfl, hr2, hk2⟩
  have hst2 : st ≤ 16 := by simp at hst; omega
  replace hr2 := hid hr2
  replace hk2 := hid hk2
  clear hst
  go_wp2_with fail
  refine (num_lit R (P + 2) [2, 3, 4] w2 _ (by decide) (by decide) (by omega) hr2.out).mono ?_
  rintro e w3 ⟨few, hfew, rfl, hr3, hk3⟩
  have hf : few ≤ 9223372036854775807 := by simp at hfew; omega
  replace hr3 := hid hr3
  replace hk3 := hid hk3
  clear hfew
  go_wp2_with fail
  refine (l2Random_up R (P + 3) al st few w3 (by omega) hst2 hf hr3.out).mono ?_
  rintro e w4 ⟨s, A, c, rfl, h1, h2, h3, h4, h5, h6, h7⟩
  unfold Sy.val
  have K1 : KeepB (fun b => b = R) w0 w3 := (hk1.out.trans hk2.out).trans hk3.out
  have K2 : KeepB (fun b => b = R) w0 w4 := K1.trans h7
  have hbl := hres.out.keep K2 (by omega)
  have d0 := hbl.cell 0
  have d1 := hbl.cell 1
  have d2 := hbl.cell 2
  have f0 := hbl.frozen 0
  have f1 := hbl.frozen 1
  have f2 := hbl.frozen 2
  simp only [List.getElem?_toArray, List.getElem?_cons_zero, List.getElem?_cons_succ] at d0 d1 d2
  have hfin := hid (SyUp.ret (w := w) h1 h2 h3 h4 (fun b o hA => by have := h5 b o hA; have := K1.size; have := hz0.out; omega) (h6.more (by omega : P + 3 + 1536 ≤ P + 2000)) ((KeepB.of_below hb0).trans K2) hR (.int .i64 s.al) (.int .i64 s.st) (.slice A s.es.length c))
  have hlt := hbl.lt
  clear h4 h5 h6 h7 hbl K1 K2 hw0
  go_wp2
  refine bodyPost_ret (v := .agg #[.int .i64 s.al, .int .i64 s.st, .slice A s.es.length c]) (by simp [results, Tryz.results33, go_sem, d0, d1, d2]) rfl ?_
  exact hfin.out

end Go.Proofs.YtdkjnemakkppfaaGreatDoor

/- The drawing kit: FormatSystem, ParseSystem. -/
namespace Go.Proofs.YtdkjnemakkppfaaGreatDoor
open Go.RowKit Go.BigFrame AG

def isStr (N : Nat) (u : Value) : Prop := ∃ x : ByteArray, u = .string x ∧ x.size ≤ N

set_option maxRecDepth 100000 in
set_option maxHeartbeats 4000000 in
theorem formatSystem_any (s : Sy) (A : Option Addr) (c : Nat) (w : World) (hl : s.es.length ≤ c) (hc : c ≤ 9223372036854775807) (hL : s.es.length ≤ 10000) (hr : EdsAt w w.heap.size A s.es) :
    Calls Tryz.prog 121 #[s.val A c] w (StrPost 1000000000 w) := by
  unfold Sy.val
  replace hr := hid hr
  obtain ⟨w0, hw0, hz0, hB0, hS0, hS1, hS2⟩ := boxed3 w (Value.int IntKind.i64 s.al) (Value.int IntKind.i64 s.st) (Value.slice A s.es.length c) 25
  have hr0 := hid (hr.out.later hB0)
  have p0 := hS0 _ (Below.refl _ _)
  have p1 := hS1 _ (Below.refl _ _)
  have p2 := hS2 _ (Below.refl _ _)
  cases hok : sysOk s
  · replace hok := hid hok
    go_enter Tryz.func121, Tryz.ntmps121
    go_wp2_with fail
    refine (specSystemValid_any s A c w0 hl hc hr0.out).mono ?_
    rintro e w1 ⟨rfl, hb1⟩
    rw [hok.out]
    have hB1 : Below w.heap.size w w1 := hB0.trans (hb1.mono (by omega))
    go_wp2_with fail
    go_ret
    exact ⟨_, rfl, by decide, hB1⟩
  · have hst := sysOk_st hok
    have hin := hid (sysOk_in hok)
    replace hok := hid hok
    obtain ⟨sn, hsn⟩ := Int.eq_ofNat_of_zero_le (show 0 ≤ s.st by omega)
    have hsn16 : sn ≤ 1000 := by omega
    replace hsn := hid hsn
    go_enter Tryz.func121, Tryz.ntmps121
    go_wp2_with fail
    refine (specSystemValid_any s A c w0 hl hc hr0.out).mono ?_
    rintro e w1 ⟨rfl, hb1⟩
    rw [hok.out]
    have hb1' := hb1.mono hz0
    clear p0 p1 p2
    have p0 := hS0 _ hb1'
    have p1 := hS1 _ hb1'
    rw [hsn.out] at p1
    have q0 := GK.BI.cell p0
    have q1 := GK.BI.cell p1
    clear p0 p1 hw0
    go_wp2_with fail
    refine GK.wp_region 9 [] 200 (KeepB fun _ => False) (GK.BI w1) (fun _ u _ => isStr 1001 u) (by kernel_rfl) (by kernel_rfl) (GK.BI.way w1) (by decide) (Below.refl _ _).drew ?_
    simp only [List.take_succ_cons, List.take_zero]
    (repeat (refine GK.grow_quiet w1 (by rfl) (by rfl) ?_; intro K hK; go_big_quiet_op; go_big_quiet_on))
    refine GK.grow_call (by rfl) (fun u w w' _ h => h) (fun m wq hm hbq _ => ?_) ?_
    · go_simp
      exact ⟨rfl, (formatAlpha_any s.al wq).mono fun e w' ⟨x, h1, h2, h3⟩ => ⟨_, h1, hbq.after h3, x, rfl, by omega⟩⟩
    rintro u ⟨_, _, _, x, rfl, hx⟩
    simp only [Act.put, List.setIfInBounds_toArray, List.set_cons_zero, List.set_cons_succ]
    (repeat (refine GK.grow_quiet w1 (by rfl) (by rfl) ?_; intro K hK; go_big_quiet_op; go_big_quiet_on))
    refine GK.grow_call (by rfl) (fun u w w' _ h => h) (fun m wq hm hbq _ => ?_) ?_
    · go_simp
      exact ⟨rfl, (l19Dec_any sn hsn16 wq).mono fun e w' ⟨x, h1, h2, h3⟩ => ⟨_, h1, hbq.after h3, x, rfl, by omega⟩⟩
    rintro u ⟨_, _, _, y, rfl, hy⟩
    simp only [Act.put, List.setIfInBounds_toArray, List.set_cons_zero, List.set_cons_succ]
    (repeat (refine GK.grow_quiet w1 (by rfl) (by rfl) ?_; intro K hK; go_big_quiet_op; go_big_quiet_on))
    refine GK.grow_nil ?_
    intro w2 hw2 _
    simp only [List.filterMap_nil]
    have hw2' : Below w1.heap.size w1 w2 := hw2
    have hb2 := hb1'.trans (hw2'.mono (by have := hb1.size; omega))
    have hB2 : Below w.heap.size w w2 := hB0.trans (hb2.mono (by omega))
    have hr2 := hid (hr.out.later hB2)
    clear q0 q1
    go_wp2_with fail
    go_loopw [3, 4] (fun o i wr => ∃ (k : Nat) (x : ByteArray), i = .int .i64 k ∧ o = .string x ∧ x.size ≤ 10000 + k * 10000 ∧ k ≤ s.es.length ∧ Below w2.heap.size w2 wr) (fun _ i _ => s.es.length - (intOf i).toNat)
    case atStart => exact ⟨0, _, rfl, rfl, by rw [ByteArray.size_append, ByteArray.size_append]; show x.size + 1 + y.size ≤ _; omega, by omega, Below.refl _ _⟩
    case round =>
      clear hx hy
      obtain ⟨k, x, rfl, rfl, hx, hk, hb⟩ := hrel
      have hbw : Below (w.heap.size + 1) w0 wr := hb2.trans (hb.mono (by have := hB2.size; have := hb2.size; omega))
      have p0 := hS0 _ hbw
      have p2 := hS2 _ hbw
      have hzr := hb.size
      by_cases hlt : k < s.es.length
      · obtain ⟨b, o, rfl, hbb, hE⟩ := hr2.out (by omega)
        obtain ⟨e0, e1, e2⟩ := hE k hlt
        have hok2 := hin.out s.es[k] (List.getElem_mem _)
        replace hE := hid hE
        obtain ⟨f, hf⟩ := Int.eq_ofNat_of_zero_le hok2.1
        obtain ⟨tt, ht⟩ := Int.eq_ofNat_of_zero_le hok2.2.2.1
        obtain ⟨l, hll⟩ := Int.eq_ofNat_of_zero_le hok2.2.2.2.2.1
        have hf1 : f ≤ 1000 := by omega
        have ht1 : tt ≤ 1000 := by omega
        have hl1 : l < 6 := by omega
        rw [hf] at e0
        rw [hll] at e1
        rw [ht] at e2
        replace hf := hid hf
        replace ht := hid ht
        replace hll := hid hll
        replace hok2 := hid hok2
        have g0 : wr.cell? ⟨b, o + k * 3, none⟩ = some (.int .i64 (f : Nat)) := by rw [hb.cell (by simpa using hbb)]; exact e0
        have g1 : wr.cell? ⟨b, o + k * 3 + 1, none⟩ = some (.int .i64 (l : Nat)) := by rw [hb.cell (by simpa using hbb)]; exact e1
        have g2 : wr.cell? ⟨b, o + k * 3 + 2, none⟩ = some (.int .i64 (tt : Nat)) := by rw [hb.cell (by simpa using hbb)]; exact e2
        have k1 : (0 : Int) ≤ (k : Int) ∧ (k : Int) < (s.es.length : Int) := by omega
        clear e0 e1 e2
        have hnb : Below wr.heap.size wr (wr.alloc (.cells #[.int .i64 (f : Nat), .int .i64 (l : Nat), .int .i64 (tt : Nat)] 50)) := (Below.refl _ _).alloc (Nat.le_refl _) _
        have hnk := Blk.new wr 50 #[.int .i64 (f : Nat), .int .i64 (l : Nat), .int .i64 (tt : Nat)]
        generalize hw3 : wr.alloc (.cells #[.int .i64 (f : Nat), .int .i64 (l : Nat), .int .i64 (tt : Nat)] 50) = w3 at hnb hnk
        have m0 := hnk.cell 0
        have m1 := hnk.cell 1
        have m2 := hnk.cell 2
        simp only [List.getElem?_toArray, List.getElem?_cons_zero, List.getElem?_cons_succ] at m0 m1 m2
        have q0 := GK.BI.cell m0
        have q1 := GK.BI.cell m1
        have q2 := GK.BI.cell m2
        replace hnk := hid hnk
        go_wp2_with fail
        clear m0 m1 m2 g0 g1 g2 p0 p2
        refine GK.wp_region 14 [14] 200 (KeepB fun _ => False) (GK.BI w3) (fun _ u _ => isStr 1001 u) (by kernel_rfl) (by kernel_rfl) (GK.BI.way w3) (by decide) (Below.refl _ _).drew ?_
        simp only [List.take_succ_cons, List.take_zero]
        (repeat (refine GK.grow_quiet w3 (by rfl) (by rfl) ?_; intro K hK; go_big_quiet_op; go_big_quiet_on))
        refine GK.grow_call (by rfl) (fun u w w' _ h => h) (fun m wq hm hbq _ => ?_) ?_
        · go_simp
          exact ⟨rfl, (l19Dec_any f hf1 wq).mono fun e w' ⟨x, h1, h2, h3⟩ => ⟨_, h1, hbq.after h3, x, rfl, by omega⟩⟩
        rintro u ⟨_, _, _, y, rfl, hy⟩
        simp only [Act.put, List.setIfInBounds_toArray, List.set_cons_zero, List.set_cons_succ]
        (repeat (refine GK.grow_quiet w3 (by rfl) (by rfl) ?_; intro K hK; go_big_quiet_op; go_big_quiet_on))
        refine GK.grow_call (by rfl) (fun u w w' _ h => h) (fun m wq hm hbq _ => ?_) ?_
        · go_simp
          exact ⟨rfl, (l1Text_any l hl1 wq).mono fun e w' ⟨h1, h3⟩ => ⟨_, h1, hbq.after h3, _, rfl, by show 1 ≤ 1001; omega⟩⟩
        rintro u ⟨_, _, _, z, rfl, hz⟩
        simp only [Act.put, List.setIfInBounds_toArray, List.set_cons_zero, List.set_cons_succ]
        (repeat (refine GK.grow_quiet w3 (by rfl) (by rfl) ?_; intro K hK; go_big_quiet_op; go_big_quiet_on))
        refine GK.grow_call (by rfl) (fun u w w' _ h => h) (fun m wq hm hbq _ => ?_) ?_
        · go_simp
          exact ⟨rfl, (l19Dec_any tt ht1 wq).mono fun e w' ⟨x, h1, h2, h3⟩ => ⟨_, h1, hbq.after h3, x, rfl, by omega⟩⟩
        rintro u ⟨_, _, _, y2, rfl, hy2⟩
        simp only [Act.put, List.setIfInBounds_toArray, List.set_cons_zero, List.set_cons_succ]
        (repeat (refine GK.grow_quiet w3 (by rfl) (by rfl) ?_; intro K hK; go_big_quiet_op; go_big_quiet_on))
        refine GK.grow_nil ?_
        intro w4 hw4 _
        simp only [List.filterMap_cons, List.filterMap_nil, List.getElem?_cons_zero, List.getElem?_cons_succ]
        have hw4' : Below w3.heap.size w3 w4 := hw4
        have hb4 := hb.trans ((hnb.trans (hw4'.mono hnb.size)).mono hzr)
        clear q0 q1 q2
        go_wp2_with fail
        go_roundw
        case rel => exact ⟨k + 1, _, by go_num, rfl, by simp only [ByteArray.size_append]; show x.size + 1 + y.size + z.size + y2.size ≤ _; omega, by omega, hb4⟩
        case measure => simp [intOf]; omega
      · have hb4 := hB2.trans (hb.mono hB2.size)
        go_wp2_with fail
        go_ret
        exact ⟨_, rfl, by omega, hb4⟩

end Go.Proofs.YtdkjnemakkppfaaGreatDoor

/- The drawing kit: ParseSystem. -/
namespace Go.Proofs.YtdkjnemakkppfaaGreatDoor
open Go.RowKit Go.BigFrame AG

/-- Some system and a Bool come back. -/
def SyBPost (L : Nat) (w : World) (e : Ending) (w' : World) : Prop :=
  ∃ (s : Sy) (A : Option Addr) (c : Nat) (b : Bool), e = .returned (.tuple #[s.val A c, .bool b]) ∧ s.es.length ≤ c ∧ c ≤ 9223372036854775807 ∧ s.es.length ≤ L ∧ EdsAt w' w'.heap.size A s.es ∧ FreshA w.heap.size A ∧ Below w.heap.size w w'

structure PsSt (w2 wr : World) (al st : Int) (v : Value) (es : List Ed) (k : Nat) : Prop where
  blk : Blk wr w2.heap.size 25 #[.int .i64 al, .int .i64 st, v]
  own : OwnEds wr (w2.heap.size + 1) v es
  len : es.length ≤ k
  below : Below w2.heap.size w2 wr
theorem PsSt.later {w2 wr w1 : World} {al st : Int} {v : Value} {es : List Ed} {k : Nat} (h : PsSt w2 wr al st v es k) (hb : Below wr.heap.size wr w1) : PsSt w2 w1 al st v es k :=
  ⟨h.blk.below hb h.blk.lt, own_later h.own hb, h.len, h.below.trans (hb.mono h.below.size)⟩
theorem PsSt.add {w2 wr w1 : World} {al st : Int} {v v' : Value} {es : List Ed} {k : Nat} {x : Ed} (h : PsSt w2 wr al st v es k)
    (hown : w1.ownsRow (w2.heap.size + 1) 50 3 v' (es.length + 1) (edCells es ++ [.int .i64 x.f, .int .i64 x.l, .int .i64 x.t])) (hg : wr.grownBy w1 v.ownBlock) :
    PsSt w2 (w1.setCell ⟨w2.heap.size, 2, none⟩ v') al st v' (es ++ [x]) (k + 1) := by
  have hv : ∀ k, v.ownBlock = some k → w2.heap.size < k := fun k hk => by have := (h.own.lt k hk).1; omega
  have hv' : ∀ k, v'.ownBlock = some k → w2.heap.size < k := fun k hk => by have := (World.ownsRow.lt hown k hk).1; omega
  have k1 : KeepB (fun b => v.ownBlock = some b) wr w1 := (KeepB.refl _ wr).grown hg (fun k hk _ => hk)
  have hb := h.blk.lt
  refine ⟨?_, ?_, by have := h.len; simp; omega, ?_⟩
  · have := (h.blk.keep k1 (fun hk => by have := hv _ hk; omega)).set_ 2 v'
    simpa using this
  · have e : (es ++ [x]).length = es.length + 1 := by simp
    unfold OwnEds
    rw [e, edCells_append]
    exact ownsRow_setCell_other hown (fun hk => by have := hv' _ hk; simp at this) _
  · exact (h.below.grown hg h.below.size (fun k hk => by have := hv k hk; omega)).setCell (by simp) _

theorem SyBPost.ret {L : Nat} {w w1 : World} {s : Sy} {A : Option Addr} {c : Nat} (b : Bool) (h1 : s.es.length ≤ c) (h2 : c ≤ 9223372036854775807) (h3 : s.es.length ≤ L) (h4 : EdsAt w1 w1.heap.size A s.es) (h5 : FreshA (w.heap.size + 1) A)
    (h7 : Below w.heap.size w w1) (v1 v2 v3 : Value) :
    SyBPost L w (.returned (.tuple #[.agg #[.int .i64 s.al, .int .i64 s.st, .slice A s.es.length c], .bool b])) (((w1.setCell ⟨w.heap.size, 0, none⟩ v1).setCell ⟨w.heap.size, 1, none⟩ v2).setCell ⟨w.heap.size, 2, none⟩ v3) := by
  have hne : ∀ b o, A = some ⟨b, o, none⟩ → 0 < s.es.length → b ≠ w.heap.size := fun b o hA _ => by have := h5 b o hA; omega
  refine ⟨s, A, c, b, rfl, h1, h2, h3, ?_, fun b o hA => by have := h5 b o hA; omega, ?_⟩
  · simpa [World.setCell] using ((h4.stored v1 hne).stored v2 hne).stored v3 hne
  · (repeat (first | exact Below.refl _ _ | assumption | refine Below.drew ?_ | refine Below.alloc ?_ (by first | omega | (simp; done) | (simp; omega)) _ | refine Below.setCell ?_ (by first | omega | (simp; done) | (simp; omega)) _))

set_option maxRecDepth 100000 in
set_option maxHeartbeats 8000000 in
theorem parseSystem_any (t : ByteArray) (w : World) (hz : t.size ≤ 900) : Calls Tryz.prog 86 #[.string t] w (SyBPost 1000 w) := by
  obtain ⟨i0, hi, hz0, hz1, hz2⟩ := info_parts infoEd
  have hres := Blk.new w 25 #[.int .i64 0, .int .i64 0, .slice none 0 0]
  have hb0 : Below w.heap.size w (w.alloc (.cells #[.int .i64 0, .int .i64 0, .slice none 0 0] 25)) := (Below.refl _ _).alloc (Nat.le_refl _) _
  have hsz0 : (w.alloc (.cells #[.int .i64 0, .int .i64 0, .slice none 0 0] 25)).heap.size = w.heap.size + 1 := by simp
  generalize hw0 : w.alloc (.cells #[.int .i64 0, .int .i64 0, .slice none 0 0] 25) = w0 at hres hb0 hsz0
  replace hres := hid hres
  have hzero : ∀ w1, Below w0.heap.size w0 w1 → Hid (SyBPost 1000 w (.returned (.tuple #[.agg #[.int .i64 0, .int .i64 0, .slice none 0 0], .bool false])) (((w1.setCell ⟨w.heap.size, 0, none⟩ (.int .i64 0)).setCell ⟨w.heap.size, 1, none⟩ (.int .i64 0)).setCell ⟨w.heap.size, 2, none⟩ (.slice none 0 0))) := fun w1 h =>
    hid (SyBPost.ret (s := ⟨0, 0, []⟩) (A := none) (c := 0) false (by simp) (by omega) (by simp) (fun h => by simp at h) (fun b o h => by cases h) (hb0.trans (h.mono (by omega))) _ _ _)
  replace hsz0 := hid hsz0
  have hrb : ∀ w1, Below w0.heap.size w0 w1 → Hid (Blk w1 w.heap.size 25 #[.int .i64 0, .int .i64 0, .slice none 0 0]) := fun w1 h => hid (hres.out.below h (by have := hsz0.out; omega))
  go_enter Tryz.func86, Tryz.ntmps86
  go_wp2_with fail
  refine (l19Cut_any t 32 w0 (by omega)).mono ?_
  rintro e w1 ⟨pv, ps, rfl, hcut⟩
  have hb1 := hcut.below
  have hplen := hcut.len
  obtain ⟨Ap, cp, hpv, hcp, hcp'⟩ := own_slice hcut.own
  subst hpv
  replace hcut := hid hcut
  by_cases hlen : ps.length < 2
  · have hfin := hzero w1 hb1
    have hbl := hrb w1 hb1
    have d0 := hbl.out.cell 0
    have d1 := hbl.out.cell 1
    have d2 := hbl.out.cell 2
    have f0 := hbl.out.frozen 0
    have f1 := hbl.out.frozen 1
    have f2 := hbl.out.frozen 2
    simp only [List.getElem?_toArray, List.getElem?_cons_zero, List.getElem?_cons_succ] at d0 d1 d2
    have hlt := hbl.out.lt
    clear hw0
    go_wp2
    refine bodyPost_ret (v := .tuple #[.agg #[.int .i64 0, .int .i64 0, .slice none 0 0], .bool false]) (by simp [results, Tryz.results86, go_sem, d0, d1, d2]) rfl ?_
    exact hfin.out
  · obtain ⟨gp, cap, hve, hg1, hg2, -, -, hP⟩ := own_strs hcut.out.own (by omega)
    injection hve with hv1 hv2 hv3
    subst hv1
    subst hv3
    have s0 := hP 0 (by omega)
    have hsm : ∀ i (h : i < ps.length), (ps[i]'h).size ≤ 900 := fun i h => by have := hcut.out.small _ (List.getElem_mem h); omega
    replace hsm := hid hsm
    replace hP := hid hP
    have i1 : (1 : Int) < (ps.length : Int) := by omega
    have i0' : (0 : Int) < (ps.length : Int) := by omega
    go_wp2_with fail
    refine (parseAlpha_any _ w1).mono ?_
    rintro e w2 ⟨al, ok, rfl, hb2⟩
    have s1 : w2.cell? ⟨gp, 1, none⟩ = some (.string ps[1]) := by rw [hb2.cell (by simpa using hg2)]; exact hP.out 1 (by omega)
    have hb02 := hb1.trans (hb2.mono hb1.size)
    clear s0
    go_wp2_with fail
    refine (l19Num_any ps[1] w2 (by have := hsm.out 1 (by omega); omega)).mono ?_
    rintro e w' ⟨st, fine, rfl, rfl⟩
    clear s1 hw0
    have hfin := hzero w2 hb02
    have hbl := hrb w2 hb02
    have d0 := hbl.out.cell 0
    have d1 := hbl.out.cell 1
    have d2 := hbl.out.cell 2
    have f0 := hbl.out.frozen 0
    have f1 := hbl.out.frozen 1
    have f2 := hbl.out.frozen 2
    simp only [List.getElem?_toArray, List.getElem?_cons_zero, List.getElem?_cons_succ] at d0 d1 d2
    have hlt := hbl.out.lt
    cases ok
    · go_wp2
      refine bodyPost_ret (v := .tuple #[.agg #[.int .i64 0, .int .i64 0, .slice none 0 0], .bool false]) (by simp [results, Tryz.results86, go_sem, d0, d1, d2]) rfl ?_
      exact hfin.out
    · cases fine
      · go_wp2
        refine bodyPost_ret (v := .tuple #[.agg #[.int .i64 0, .int .i64 0, .slice none 0 0], .bool false]) (by simp [results, Tryz.results86, go_sem, d0, d1, d2]) rfl ?_
        exact hfin.out
      · clear d0 d1 d2 f0 f1 f2 hfin hbl
        go_wp2_with fail
        have hs0 : PsSt w2 (w2.alloc (.cells #[.int .i64 al, .int .i64 st, .slice none 0 0] 25)) al st (.slice none 0 0) [] 2 :=
          ⟨Blk.new _ _ _, World.ownsRow_nil _ _ _ _, by simp, (Below.refl _ _).alloc (Nat.le_refl _) _⟩
        replace hs0 := hid hs0
        go_loopw [10] (fun i wr => ∃ (k : Nat) (v : Value) (es : List Ed), i = .int .i64 k ∧ 2 ≤ k ∧ k ≤ ps.length ∧ PsSt w2 wr al st v es k) (fun i _ => ps.length - (intOf i).toNat)
        case atStart => exact ⟨2, _, [], rfl, by omega, by omega, hs0.out⟩
        case round =>
          obtain ⟨k, v, es, rfl, hk2, hk, hs⟩ := hrel
          have hbr := hs.below
          have hln := hs.len
          have hb0r := hb02.trans (hbr.mono hb02.size)
          replace hs := hid hs
          by_cases hkl : k < ps.length
          · have s1 : wr.cell? ⟨gp, k, none⟩ = some (.string ps[k]) := by rw [hbr.cell (by have := hb2.size; simp; omega), hb2.cell (by simpa using hg2)]; exact hP.out k hkl
            have i2 : (0 : Int) ≤ (k : Int) ∧ (k : Int) < (ps.length : Int) := by omega
            go_wp2_with fail
            refine (l2Parse_any ps[k] wr (by have := hsm.out k (by omega); omega)).mono ?_
            rintro e w3 ⟨x, good, rfl, hb3⟩
            have hb03 := hb0r.trans (hb3.mono hb0r.size)
            have hs3 := hid (hs.out.later hb3)
            clear s1 hs
            unfold Ed.val
            cases good
            · have b4 : Below w0.heap.size w0 (w3.alloc (.cells #[.int .i64 x.f, .int .i64 x.l, .int .i64 x.t] 50)) := hb03.alloc hb03.size _
              have hfin := hzero _ b4
              have hbl := hrb _ b4
              have d0 := hbl.out.cell 0
              have d1 := hbl.out.cell 1
              have d2 := hbl.out.cell 2
              have f0 := hbl.out.frozen 0
              have f1 := hbl.out.frozen 1
              have f2 := hbl.out.frozen 2
              simp only [List.getElem?_toArray, List.getElem?_cons_zero, List.getElem?_cons_succ] at d0 d1 d2
              have hlt := hbl.out.lt
              generalize hw4 : w3.alloc (.cells #[.int .i64 x.f, .int .i64 x.l, .int .i64 x.t] 50) = w4 at *
              go_wp2
              refine bodyPost_ret (v := .tuple #[.agg #[.int .i64 0, .int .i64 0, .slice none 0 0], .bool false]) (by simp [results, Tryz.results86, go_sem, d0, d1, d2]) rfl ?_
              exact hfin.out
            · have hs4 := hid (hs3.out.later ((Below.refl _ w3).alloc (Nat.le_refl _) (.cells #[.int .i64 x.f, .int .i64 x.l, .int .i64 x.t] 50)))
              have hnb := Blk.new w3 50 #[.int .i64 x.f, .int .i64 x.l, .int .i64 x.t]
              have hsz4 : w3.heap.size < (w3.alloc (.cells #[.int .i64 x.f, .int .i64 x.l, .int .i64 x.t] 50)).heap.size := by simp
              have b4 : Below w0.heap.size w0 (w3.alloc (.cells #[.int .i64 x.f, .int .i64 x.l, .int .i64 x.t] 50)) := hb03.alloc hb03.size _
              generalize hw4 : w3.alloc (.cells #[.int .i64 x.f, .int .i64 x.l, .int .i64 x.t] 50) = w4 at *
              have m0 := hnb.cell 0
              have m1 := hnb.cell 1
              have m2 := hnb.cell 2
              simp only [List.getElem?_toArray, List.getElem?_cons_zero, List.getElem?_cons_succ] at m0 m1 m2
              have c2 := hs4.out.blk.cell 2
              simp only [List.getElem?_toArray, List.getElem?_cons_zero, List.getElem?_cons_succ] at c2
              have hgl := hs4.out.blk.lt
              have hown := hs4.out.own
              unfold OwnEds at hown
              have ag : v.ownBlock ≠ some w2.heap.size := fun e => by have := (hown.lt _ e).1; omega
              replace hown := hid hown
              replace hnb := hid hnb
              go_wp2_with (at_builtin; refine wpList_append_lies _ (by rfl) _ _ 23 (by rfl) (w2.heap.size + 1) 50 i0 (.agg #[.int .i64 0, .int .i64 0, .int .i64 0]) 3 24 Tryz.underlying23 hi hz0 hz1 hz2 rfl (by decide) v es.length (edCells es) (by rfl) (hown.out.alloc _) ⟨w4.heap.size, 0, none⟩ 1 1 [.int .i64 x.f, .int .i64 x.l, .int .i64 x.t] (by rfl) (by rfl) (World.news_of_block (heap_alloc_new w4 _)) ?c1 (by omega) ?c3 ?c4 ?c5 _ rfl ?_)
              case c1 => simp [Value.oneCell']
              case c3 => unfold maxLen; omega
              case c4 => omega
              case c5 => simp; omega
              intro gg cap5 w5 hown5 hgrow hat hlt5
              have hs5 := hid ((hs4.out.later ((Below.refl _ w4).alloc (Nat.le_refl _) _)).add (x := x) hown5 hgrow)
              have c2' : w5.cell? ⟨w2.heap.size, 2, none⟩ = some v := by rw [hgrow.cell_far _ (by simp; omega) (Ne.symm ag), World.cell?_alloc_lt (h := by simpa using hgl)]; exact c2
              have f2' : w5.frozen? ⟨w2.heap.size, 2, none⟩ = false := by rw [hgrow.frozen_far _ (by simp; omega) (Ne.symm ag)]; exact (hs4.out.blk.alloc _).frozen 2
              clear hown5 hgrow hat c2 m0 m1 m2 hw4
              go_wp2_with fail
              go_roundw
              case rel => exact ⟨k + 1, _, _, by go_num, by omega, by omega, hs5.out⟩
              case measure => simp [intOf]; omega
          · obtain ⟨Av, cv, hve, h1, h2⟩ := own_slice hs.out.own
            subst hve
            obtain ⟨A', c', hv', -, -, hE, hF⟩ := hs.out.own.read
            cases hv'
            have c0 := hs.out.blk.cell 0
            have c1 := hs.out.blk.cell 1
            have c2 := hs.out.blk.cell 2
            simp only [List.getElem?_toArray, List.getElem?_cons_zero, List.getElem?_cons_succ] at c0 c1 c2
            replace hE := hid hE
            replace hF := hid hF
            go_wp2_with fail
            refine (formatSystem_any ⟨al, st, es⟩ Av cv wr h1 h2 (by show es.length ≤ 10000; omega) hE.out).mono ?_
            rintro e w3 ⟨x, rfl, hx, hb3⟩
            have hb03 := hb0r.trans (hb3.mono hb0r.size)
            have hs3 := hid (hs.out.later hb3)
            have hE3 := hid (hE.out.later hb3)
            clear c0 c1 c2
            have c0 := hs3.out.blk.cell 0
            have c1 := hs3.out.blk.cell 1
            have c2 := hs3.out.blk.cell 2
            simp only [List.getElem?_toArray, List.getElem?_cons_zero, List.getElem?_cons_succ] at c0 c1 c2
            have hfin := hzero w3 hb03
            have hfin2 := hid (SyBPost.ret (w := w) (L := 1000) (s := ⟨al, st, es⟩) (A := Av) (c := cv) true h1 h2 (by show es.length ≤ 1000; omega) hE3.out (fun b o hA => by have := hF.out b o hA; have := hb02.size; have := hsz0.out; omega) (hb0.trans (hb03.mono (by have := hsz0.out; omega))) (.int .i64 al) (.int .i64 st) (.slice Av es.length cv))
            have hbl := hrb w3 hb03
            have d0 := hbl.out.cell 0
            have d1 := hbl.out.cell 1
            have d2 := hbl.out.cell 2
            have f0 := hbl.out.frozen 0
            have f1 := hbl.out.frozen 1
            have f2 := hbl.out.frozen 2
            simp only [List.getElem?_toArray, List.getElem?_cons_zero, List.getElem?_cons_succ] at d0 d1 d2
            have hlt := hbl.out.lt
            go_wp2
            all_goals first
              | (refine bodyPost_ret (v := .tuple #[.agg #[.int .i64 al, .int .i64 st, .slice Av es.length cv], .bool true]) (by simp [results, Tryz.results86, go_sem, d0, d1, d2]; done) rfl ?_; exact hfin2.out)
              | (refine bodyPost_ret (v := .tuple #[.agg #[.int .i64 0, .int .i64 0, .slice none 0 0], .bool false]) (by simp [results, Tryz.results86, go_sem, d0, d1, d2]; done) rfl ?_; exact hfin.out)

end Go.Proofs.YtdkjnemakkppfaaGreatDoor

/- The drawing kit: l2Draw. -/
namespace Go.Proofs.YtdkjnemakkppfaaGreatDoor
open Go.RowKit Go.BigFrame AG

set_option maxRecDepth 100000 in
set_option maxHeartbeats 4000000 in
theorem l2Draw_up (R P : Nat) (w : World) (hP : P + 200000 ≤ 1125899906842624) (hr : RdUp w R P) :
    Calls Tryz.prog 35 #[.pointer (some ⟨R, 0, none⟩)] w (SyUp R (P + 2000) 1536 w) := by
  have hR := hr.lt
  have hres := Blk.new w 25 #[.int .i64 0, .int .i64 0, .slice none 0 0]
  have hb0 : Below w.heap.size w (w.alloc (.cells #[.int .i64 0, .int .i64 0, .slice none 0 0] 25)) := (Below.refl _ _).alloc (Nat.le_refl _) _
  generalize hw0 : w.alloc (.cells #[.int .i64 0, .int .i64 0, .slice none 0 0] 25) = w0 at hres hb0
  have hz0 : w0.heap.size = w.heap.size + 1 := by rw [← hw0]; simp
  have hr0 := hid (hr.later hb0)
  replace hr := hid hr
  replace hres := hid hres
  replace hz0 := hid hz0
  go_enter Tryz.func35, Tryz.ntmps35
  go_wp2_with fail
  refine (pick_up R P 3 w0 (by omega) (by omega) hr0.out).mono ?_
  rintro e wp ⟨j, rfl, hj0, hj1, hrp, hkp⟩
  clear hw0 hj1
  by_cases hj : j = 0
  · subst hj
    replace hrp := hid hrp
    replace hkp := hid hkp
    go_wp2_with fail
    refine (l2Texts_any wp).mono ?_
    rintro e wt ⟨xs, hxl, hxs, rfl, hcell, hlt, hbt⟩
    have hrt := hid (hrp.out.later hbt)
    have hRt := hrp.out.lt
    replace hcell := hid hcell
    replace hxs := hid hxs
    replace hxl := hid hxl
    go_wp2_with fail
    refine (of_up R (P + 1) wp.heap.size 0 11 11 xs wt hxl.out (by omega) (by omega) (by omega) (by omega) hlt (fun i h => hcell.out i h) hrt.out).mono ?_
    rintro e wo ⟨x, hx, rfl, hro, hko⟩
    have hx60 : x.size ≤ 900 := by have := hxs.out x hx; omega
    replace hro := hid hro
    replace hko := hid hko
    clear hx
    go_wp2_with fail
    refine (parseSystem_any x wo hx60).mono ?_
    rintro e wq ⟨s, A, c, ok, rfl, h1, h2, h3, h4, h5, h6⟩
    unfold Sy.val
    have kq0 : KeepB (fun b => b = R) w0 wq := ((hkp.out.trans (KeepB.of_below hbt)).trans hko.out).trans (KeepB.of_below h6)
    have hnb := Blk.new wq 25 #[.int .i64 s.al, .int .i64 s.st, .slice A s.es.length c]
    have hba : Below wq.heap.size wq (wq.alloc (.cells #[.int .i64 s.al, .int .i64 s.st, .slice A s.es.length c] 25)) := (Below.refl _ _).alloc (Nat.le_refl _) _
    have hrq := hid ((hro.out.later h6).later hba)
    have hkq := hid (kq0.trans (KeepB.of_below hba))
    replace h4 := hid (h4.later hba)
    have h5' : Hid (FreshA (w.heap.size + 1) A) := hid (fun b o hA => by have := h5 b o hA; have := (hkp.out.trans (KeepB.of_below hbt)).size; have := hko.out.size; have := hz0.out; omega)
    clear h5 h6
    have hsq : wq.heap.size < (wq.alloc (.cells #[.int .i64 s.al, .int .i64 s.st, .slice A s.es.length c] 25)).heap.size := by simp
    generalize hwa : wq.alloc (.cells #[.int .i64 s.al, .int .i64 s.st, .slice A s.es.length c] 25) = wa at *
    cases ok
    · go_wp2_with fail
      clear hwa
      refine (num_lit R (P + 2) [3, 6, 7, 5, 1, 0, 12] wa _ (by decide) (by decide) (by omega) hrq.out).mono ?_
      rintro e w1 ⟨al, hal, rfl, hr1, hk1⟩
      replace hr1 := hid hr1
      replace hk1 := hid hk1
      clear hal
      go_wp2_with fail
      refine (num_lit R (P + 2 + 1) [3, 2, 4, 1, 5] w1 _ (by decide) (by decide) (by omega) hr1.out).mono ?_
      rintro e w2 ⟨st, hst, rfl, hr2, hk2⟩
      have hst2 : st ≤ 16 := by simp at hst; omega
      replace hr2 := hid hr2
      replace hk2 := hid hk2
      clear hst
      go_wp2_with fail
      refine (num_lit R (P + 2 + 2) [3, 2, 4, 6] w2 _ (by decide) (by decide) (by omega) hr2.out).mono ?_
      rintro e w3 ⟨few, hfew, rfl, hr3, hk3⟩
      have hf : few ≤ 9223372036854775807 := by simp at hfew; omega
      replace hr3 := hid hr3
      replace hk3 := hid hk3
      clear hfew
      go_wp2_with fail
      refine (l2Random_up R (P + 2 + 3) al st few w3 (by omega) hst2 hf hr3.out).mono ?_
      rintro e w4 ⟨s, A, c, rfl, h1, h2, h3, h4, h5, h6, h7⟩
      unfold Sy.val
      have K1 : KeepB (fun b => b = R) w0 w3 := ((hkq.out.trans hk1.out).trans hk2.out).trans hk3.out
      have K2 : KeepB (fun b => b = R) w0 w4 := K1.trans h7
      have hbl := hres.out.keep K2 (by omega)
      have d0 := hbl.cell 0
      have d1 := hbl.cell 1
      have d2 := hbl.cell 2
      have f0 := hbl.frozen 0
      have f1 := hbl.frozen 1
      have f2 := hbl.frozen 2
      simp only [List.getElem?_toArray, List.getElem?_cons_zero, List.getElem?_cons_succ] at d0 d1 d2
      have hfin := hid (SyUp.ret (w := w) h1 h2 h3 h4 (fun b o hA => by have := h5 b o hA; have := K1.size; have := hz0.out; omega) (h6.more (by omega : P + 2 + 3 + 1536 ≤ P + 2000)) ((KeepB.of_below hb0).trans K2) hR (.int .i64 s.al) (.int .i64 s.st) (.slice A s.es.length c))
      have hlt := hbl.lt
      clear h4 h5 h6 h7 hbl K1 K2
      go_wp2
      refine bodyPost_ret (v := .agg #[.int .i64 s.al, .int .i64 s.st, .slice A s.es.length c]) (by simp [results, Tryz.results35, go_sem, d0, d1, d2]) rfl ?_
      exact hfin.out
    · have c0 := hnb.cell 0
      have c1 := hnb.cell 1
      have c2 := hnb.cell 2
      have hbl := hres.out.keep hkq.out (by omega)
      have d0 := hbl.cell 0
      have d1 := hbl.cell 1
      have d2 := hbl.cell 2
      have f0 := hbl.frozen 0
      have f1 := hbl.frozen 1
      have f2 := hbl.frozen 2
      simp only [List.getElem?_toArray, List.getElem?_cons_zero, List.getElem?_cons_succ] at d0 d1 d2 c0 c1 c2
      have hfin := hid (SyUp.ret (w := w) h1 h2 (show s.es.length ≤ 1536 by omega) h4.out h5'.out (hrq.out.more (by omega : P + 1 + 1 ≤ P + 2000)) ((KeepB.of_below hb0).trans hkq.out) hR (.int .i64 s.al) (.int .i64 s.st) (.slice A s.es.length c))
      have hlt2 := hbl.lt
      replace hnb := hid hnb
      replace hbl := hid hbl
      go_wp2
      refine bodyPost_ret (v := .agg #[.int .i64 s.al, .int .i64 s.st, .slice A s.es.length c]) (by simp [results, Tryz.results35, go_sem, d0, d1, d2]) rfl ?_
      exact hfin.out
  · have hjb : ((j : Int) == 0) = false := by simp; omega
    replace hj := hid hj
    have hrq := hid hrp
    have hkq := hid hkp
    clear hrp hkp
    go_wp2_with fail
    refine (num_lit R (P + 1) [3, 6, 7, 5, 1, 0, 12] wp _ (by decide) (by decide) (by omega) hrq.out).mono ?_
    rintro e w1 ⟨al, hal, rfl, hr1, hk1⟩
    replace hr1 := hid hr1
    replace hk1 := hid hk1
    clear hal
    go_wp2_with fail
    refine (num_lit R (P + 1 + 1) [3, 2, 4, 1, 5] w1 _ (by decide) (by decide) (by omega) hr1.out).mono ?_
    rintro e w2 ⟨st, hst, rfl, hr2, hk2⟩
    have hst2 : st ≤ 16 := by simp at hst; omega
    replace hr2 := hid hr2
    replace hk2 := hid hk2
    clear hst
    go_wp2_with fail
    refine (num_lit R (P + 1 + 2) [3, 2, 4, 6] w2 _ (by decide) (by decide) (by omega) hr2.out).mono ?_
    rintro e w3 ⟨few, hfew, rfl, hr3, hk3⟩
    have hf : few ≤ 9223372036854775807 := by simp at hfew; omega
    replace hr3 := hid hr3
    replace hk3 := hid hk3
    clear hfew
    go_wp2_with fail
    refine (l2Random_up R (P + 1 + 3) al st few w3 (by omega) hst2 hf hr3.out).mono ?_
    rintro e w4 ⟨s, A, c, rfl, h1, h2, h3, h4, h5, h6, h7⟩
    unfold Sy.val
    have K1 : KeepB (fun b => b = R) w0 w3 := ((hkq.out.trans hk1.out).trans hk2.out).trans hk3.out
    have K2 : KeepB (fun b => b = R) w0 w4 := K1.trans h7
    have hbl := hres.out.keep K2 (by omega)
    have d0 := hbl.cell 0
    have d1 := hbl.cell 1
    have d2 := hbl.cell 2
    have f0 := hbl.frozen 0
    have f1 := hbl.frozen 1
    have f2 := hbl.frozen 2
    simp only [List.getElem?_toArray, List.getElem?_cons_zero, List.getElem?_cons_succ] at d0 d1 d2
    have hfin := hid (SyUp.ret (w := w) h1 h2 h3 h4 (fun b o hA => by have := h5 b o hA; have := K1.size; have := hz0.out; omega) (h6.more (by omega : P + 1 + 3 + 1536 ≤ P + 2000)) ((KeepB.of_below hb0).trans K2) hR (.int .i64 s.al) (.int .i64 s.st) (.slice A s.es.length c))
    have hlt := hbl.lt
    clear h4 h5 h6 h7 hbl K1 K2
    go_wp2
    refine bodyPost_ret (v := .agg #[.int .i64 s.al, .int .i64 s.st, .slice A s.es.length c]) (by simp [results, Tryz.results35, go_sem, d0, d1, d2]) rfl ?_
    exact hfin.out

end Go.Proofs.YtdkjnemakkppfaaGreatDoor
