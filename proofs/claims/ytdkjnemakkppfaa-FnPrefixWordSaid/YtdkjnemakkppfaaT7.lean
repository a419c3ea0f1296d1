/- Lemmas, part 7: several texts in one. -/
import Derived.Test.YtdkjnemakkppfaaT6
import Derived.Test.YtdkjnemakkppfaaT4
import Derived.Test.YtdkjnemakkppfaaT2
import Derived.Laws.IdiomStrings
import Derived.Laws.BytesString
import Derived.Maps.AppendAt
import Derived.Test.YtdkjnemakkppfaaT3
import Derived.Test.YtdkjnemakkppfaaT1
import Derived.Lib.TrailingZeros
import Derived.Laws.Bits64b
import Derived.Shelf.Spec.TrailingZeros
import Derived.Deep.Quiet
set_option linter.unusedSimpArgs false
set_option linter.unusedVariables false

/- The drawing kit: l2Any, words. -/
namespace Go.Proofs.Ytdkjnemakkppfaa
open Go.RowKit Go.BigFrame AG

def ManyPost (N : Nat) (w : World) (e : Ending) (w' : World) : Prop := ∃ x : ByteArray, e = .returned (.string x) ∧ x.size ≤ N ∧ w = w'

set_option maxRecDepth 100000 in
set_option maxHeartbeats 2000000 in
theorem l19Many_any (s : ByteArray) (n : Nat) (w : World) (hs : s.size = 1) (hn : n ≤ 100000) : Calls Try.prog 38 #[.string s, .int .i64 n] w (ManyPost 200000 w) := by
  replace hs := hid hs
  go_enter Try.func38, Try.ntmps38
  go_wp2_with fail
  go_loopw [0, 1, 5] (fun a i o wr => ∃ (x y : ByteArray) (m : Nat), a = .string x ∧ i = .int .i64 m ∧ o = .string y ∧ y.size + x.size * m ≤ 100000 ∧ x.size ≤ 200000 ∧ m ≤ 100000 ∧ w = wr) (fun _ i _ _ => (intOf i).toNat)
  case atStart => exact ⟨s, ⟨#[]⟩, n, rfl, rfl, rfl, by rw [hs.out]; show 0 + 1 * n ≤ 100000; omega, by rw [hs.out]; omega, by omega, rfl⟩
  case round =>
    obtain ⟨x, y, m, rfl, rfl, rfl, h1, h2, hmb, rfl⟩ := hrel
    by_cases hm : 0 < m
    · have hm' : (0 : Int) < (m : Int) := by omega
      obtain ⟨q, hq⟩ : ∃ q : Nat, q = m / 2 := ⟨_, rfl⟩
      have e2 : (m : Int) / 2 = (q : Int) := by omega
      have hqb : q ≤ 100000 := by omega
      have hxm : x.size ≤ x.size * m := Nat.le_mul_of_pos_right _ hm
      have hy1 : y.size ≤ 100000 := by omega
      have hx1 : x.size ≤ 100000 := by omega
      by_cases hodd : m % 2 = 1
      · have e1 : (m : Int) % 2 = 1 := by omega
        have hqm : m = 2 * q + 1 := by omega
        have h3 : Hid (y.size + x.size + (x.size + x.size) * q ≤ 100000) := hid (by
          rw [hqm] at h1
          have : x.size * (2 * q + 1) = x.size + (x.size + x.size) * q := by rw [Nat.mul_add, Nat.add_mul, Nat.mul_one]; rw [Nat.two_mul, Nat.mul_add]; omega
          omega)
        replace h1 := hid h1
        replace hq := hid hq
        replace hqm := hid hqm
        replace hxm := hid hxm
        go_wp2_with fail
        go_roundw
        case rel => exact ⟨_, _, q, rfl, rfl, rfl, by rw [ByteArray.size_append, ByteArray.size_append]; exact h3.out, by rw [ByteArray.size_append]; omega, hqb, by first | trivial | rfl⟩
        case measure => have := hqm.out; simp [intOf]; omega
      · have e1 : (m : Int) % 2 = 0 := by omega
        have hqm : m = 2 * q := by omega
        have h3 : Hid (y.size + (x.size + x.size) * q ≤ 100000) := hid (by
          rw [hqm] at h1
          have : x.size * (2 * q) = (x.size + x.size) * q := by rw [Nat.add_mul, Nat.two_mul, Nat.mul_add]
          omega)
        replace h1 := hid h1
        replace hq := hid hq
        replace hqm := hid hqm
        replace hxm := hid hxm
        go_wp2_with fail
        go_roundw
        case rel => exact ⟨_, _, q, rfl, rfl, rfl, by rw [ByteArray.size_append]; exact h3.out, by rw [ByteArray.size_append]; omega, hqb, by first | trivial | rfl⟩
        case measure => have := hqm.out; simp [intOf]; omega
    · go_wp2_with fail
      go_ret
      exact ⟨y, rfl, by omega, rfl⟩

def StrUp (R P N : Nat) (w : World) (e : Ending) (w' : World) : Prop := ∃ x : ByteArray, e = .returned (.string x) ∧ x.size ≤ N ∧ RdUp w' R P ∧ KeepB (fun b => b = R) w w'
set_option maxRecDepth 100000 in
set_option maxHeartbeats 4000000 in
theorem l1Word_up (R P : Nat) (A : Int) (n : Nat) (w : World) (hP : P + 1000 ≤ 1125899906842624) (hn : n ≤ 100) (hr : RdUp w R P) :
    Calls Try.prog 17 #[.pointer (some ⟨R, 0, none⟩), .int .i64 A, .int .i64 n] w (StrUp R (P + 200) 200 w) := by
  have hR := hr.lt
  replace hr := hid hr
  go_enter Try.func17, Try.ntmps17
  go_wp2_with fail
  refine (l1Letters_any A w).mono ?_
  rintro e w1 ⟨lv, rfl, hown, hb1⟩
  obtain ⟨ls, hls⟩ : ∃ ls, Hid (ls = letters A) := ⟨_, hid rfl⟩
  rw [← hls.out] at hown
  have hl6 : ls.length ≤ 6 := by rw [hls.out]; exact lettersTo_len A 6
  obtain ⟨Al, cl, hvl, hcl, hcl'⟩ := own_slice hown
  subst hvl
  have hr1 := hid (hr.out.later hb1)
  replace hown := hid hown
  have hz1 := hb1.size
  go_wp2_with fail
  refine (pick_up R P (n + 1) w1 (by omega) (by omega) hr1.out).mono ?_
  rintro e w2 ⟨j, rfl, hj0, hj1, hr2, hk2⟩
  obtain ⟨m, rfl⟩ := Int.eq_ofNat_of_zero_le hj0
  have hmn : m ≤ n := by omega
  have hown2 := hid (own_keep hown.out hk2 (fun g hg => by have := (World.ownsRow.lt hown.out g hg).1; omega))
  have hkw : KeepB (fun b => b = R) w w2 := (KeepB.of_below hb1).trans hk2
  replace hr2 := hid hr2
  clear hk2 hj0 hj1 hown
  go_wp2_with fail
  go_loopw [8, 9] (fun o i wr => ∃ (x : ByteArray) (k : Nat), o = .string x ∧ i = .int .i64 k ∧ x.size + k ≤ n ∧ RdUp wr R (P + 1 + x.size) ∧ OwnNats wr w.heap.size (.slice Al ls.length cl) ls ∧ KeepB (fun b => b = R) w wr) (fun _ i _ => (intOf i).toNat)
  case atStart => exact ⟨⟨#[]⟩, m, rfl, rfl, by show 0 + m ≤ n; omega, hr2.out, hown2.out, hkw⟩
  case round =>
    clear hown2 hr2 hkw
    obtain ⟨x, k, rfl, rfl, hx, hrr, hown, hkw⟩ := hrel
    replace hrr := hid hrr
    replace hkw := hid hkw
    replace hown := hid hown
    by_cases hk : 0 < k
    · have hk' : (0 : Int) < (k : Int) := by omega
      by_cases hl0 : ls.length = 0
      · go_wp2_with fail
        go_ret
        exact ⟨x, rfl, by omega, hrr.out.more (by omega), hkw.out⟩
      · have e0 : (0 : Int) < (ls.length : Int) := by omega
        go_wp2_with fail
        refine (pick_up R (P + 1 + x.size) ls.length wr (by omega) (by omega) hrr.out).mono ?_
        rintro e w3 ⟨q, rfl, hq0, hq1, hr3, hk3⟩
        obtain ⟨q, rfl⟩ := Int.eq_ofNat_of_zero_le hq0
        have hql : q < ls.length := by omega
        have hown3 := hid (own_keep hown.out hk3 (fun g hg => by have := (World.ownsRow.lt hown.out g hg).1; omega))
        have hkw3 := hid (hkw.out.trans hk3)
        obtain ⟨g, cap, hve, hg1, hg2, -, -, hL⟩ := own_nats hown3.out (by omega)
        cases hve
        have l0 := hL q hql
        obtain ⟨l, hl⟩ : ∃ l : Nat, l = ls[q] := ⟨_, rfl⟩
        have hlt6 : l < 6 := by
          have := letters_lt (A := A) (l := l) (by rw [← hls.out, hl]; exact List.getElem_mem _)
          exact this.1
        rw [← hl] at l0
        have i1 : (0 : Int) ≤ (q : Int) ∧ (q : Int) < (ls.length : Int) := by omega
        replace hr3 := hid hr3
        replace hl := hid hl
        replace hL := hid hL
        replace hl0 := hid hl0
        clear hk3 hq0 hq1
        go_wp2_with (go_at_call 36; refine (l1Text_any l hlt6 _).mono ?_; rintro e w4 ⟨rfl, hb4⟩)
        have hr4 := hid (hr3.out.later hb4)
        have hown4 := hid (own_later hown3.out hb4)
        have hkw4 := hid (hkw3.out.trans (KeepB.of_below hb4))
        go_roundw
        case rel => exact ⟨_, k - 1, rfl, by go_num, by rw [ByteArray.size_append]; show x.size + 1 + (k - 1) ≤ n; omega, hr4.out.more (by rw [ByteArray.size_append]; show _ ≤ P + 1 + (x.size + 1); omega), hown4.out, hkw4.out⟩
        case measure => simp [intOf]; omega
    · go_wp2_with fail
      go_ret
      exact ⟨x, rfl, by omega, hrr.out.more (by omega), hkw.out⟩

end Go.Proofs.Ytdkjnemakkppfaa

/- The drawing kit: words that are traces; a system and a word. -/
namespace Go.Proofs.Ytdkjnemakkppfaa
open Go.RowKit Go.BigFrame AG

def OfUp (R P : Nat) (xs : List ByteArray) (w : World) (e : Ending) (w' : World) : Prop := ∃ x, x ∈ xs ∧ e = .returned (.string x) ∧ RdUp w' R (P + 1) ∧ KeepB (fun b => b = R) w w'
/-- A text out of a list that has just been made. -/
theorem of_lit (R P : Nat) (xs : List ByteArray) (w : World) (T : TypeId) (hk : 0 < xs.length) (hk2 : xs.length ≤ 1000) (hP : P < 1125899906842624) (hr : RdUp w R P) :
    Calls Try.prog 37 #[.pointer (some ⟨R, 0, none⟩), .slice (some ⟨w.heap.size, 0, none⟩) xs.length xs.length] (w.alloc (.cells (xs.map Value.string).toArray T)) (OfUp R P xs w) := by
  have hR := hr.lt
  have hb : Below w.heap.size w (w.alloc (.cells (xs.map Value.string).toArray T)) := (Below.refl _ _).alloc (Nat.le_refl _) _
  refine (of_up R P w.heap.size 0 xs.length xs.length xs _ rfl hk (by omega) hP (by omega) (by simp) (fun i h => ?_) (hr.later hb)).mono fun e w' ⟨x, h1, h2, h3, h4⟩ => ⟨x, h1, h2, h3, (KeepB.of_below hb).trans h4⟩
  rw [Nat.zero_add, World.cell?_alloc_at _ _ _ _ rfl]
  simp [h]

set_option maxRecDepth 100000 in
set_option maxHeartbeats 4000000 in
theorem l1Bad_up (R P : Nat) (s : ByteArray) (w : World) (hP : P + 1000 ≤ 1125899906842624) (hs : s.size ≤ 1000000) (hr : RdUp w R P) :
    Calls Try.prog 18 #[.pointer (some ⟨R, 0, none⟩), .string s] w (StrUp R (P + 10) 2000000 w) := by
  replace hr := hid hr
  go_enter Try.func18, Try.ntmps18
  go_wp2_with fail
  refine (pick_up R P 24 w (by omega) (by omega) hr.out).mono ?_
  rintro e w1 ⟨j, rfl, hj0, hj1, hr1, hk1⟩
  replace hr1 := hid hr1
  replace hk1 := hid hk1
  clear hj1
  by_cases hj0 : j = 0
  · subst hj0
    go_wp2_with fail
    refine (of_lit R (P + 1) [⟨#[103]⟩, ⟨#[65]⟩, ⟨#[96]⟩, ⟨#[32]⟩, ⟨#[97]⟩, ⟨#[0]⟩] w1 _ (by decide) (by decide) (by omega) hr1.out).mono ?_
    rintro e w2 ⟨x, hx, rfl, hr2, hk2⟩
    have hxz : x.size ≤ 10 := by
      simp only [List.mem_cons, List.not_mem_nil, or_false] at hx
      rcases hx with rfl | rfl | rfl | rfl | rfl | rfl <;> decide
    replace hr2 := hid hr2
    replace hk2 := hid hk2
    clear hx
    go_wp2_with fail
    go_ret
    exact ⟨_, rfl, by rw [ByteArray.size_append]; omega, hr2.out.more (by omega), hk1.out.trans hk2.out⟩
  · have hjb0 : ((j : Int) == 0) = false := by simpa using hj0
    replace hj0 := hid hj0
    by_cases hj1 : j = 1
    · subst hj1
      go_wp2_with fail
      refine (of_lit R (P + 1) [⟨#[98]⟩, ⟨#[120]⟩, ⟨#[45]⟩, ⟨#[102]⟩] w1 _ (by decide) (by decide) (by omega) hr1.out).mono ?_
      rintro e w2 ⟨x, hx, rfl, hr2, hk2⟩
      have hxz : x.size ≤ 10 := by
        simp only [List.mem_cons, List.not_mem_nil, or_false] at hx
        rcases hx with rfl | rfl | rfl | rfl <;> decide
      replace hr2 := hid hr2
      replace hk2 := hid hk2
      clear hx
      go_wp2_with fail
      go_ret
      exact ⟨_, rfl, by rw [ByteArray.size_append]; omega, hr2.out.more (by omega), hk1.out.trans hk2.out⟩
    · have hjb1 : ((j : Int) == 1) = false := by simpa using hj1
      replace hj1 := hid hj1
      by_cases hj2 : j = 2
      · subst hj2
        go_wp2_with fail
        refine (num_lit R (P + 1) [50000, 50001, 49999, 8] w1 _ (by decide) (by decide) (by omega) hr1.out).mono ?_
        rintro e w2 ⟨x, hx, rfl, hr2, hk2⟩
        have hxz : 0 ≤ x ∧ x ≤ 100000 := by simp at hx; omega
        obtain ⟨x, rfl⟩ := Int.eq_ofNat_of_zero_le hxz.1
        have hxz2 : x ≤ 100000 := by omega
        replace hr2 := hid hr2
        replace hk2 := hid hk2
        clear hx hxz
        go_wp2_with fail
        refine (l19Many_any _ x w2 (by decide) hxz2).mono ?_
        rintro e w' ⟨y, rfl, hy, rfl⟩
        go_wp2_with fail
        go_ret
        exact ⟨_, rfl, by omega, hr2.out.more (by omega), hk1.out.trans hk2.out⟩
      · have hjb2 : ((j : Int) == 2) = false := by simpa using hj2
        replace hj2 := hid hj2
        by_cases hj3 : j = 3
        · subst hj3
          go_wp2_with fail
          refine (num_lit R (P + 1) [50000, 8, 7] w1 _ (by decide) (by decide) (by omega) hr1.out).mono ?_
          rintro e w2 ⟨x, hx, rfl, hr2, hk2⟩
          have hxz : 0 ≤ x ∧ x ≤ 100000 := by simp at hx; omega
          obtain ⟨x, rfl⟩ := Int.eq_ofNat_of_zero_le hxz.1
          have hxz2 : x ≤ 100000 := by omega
          replace hr2 := hid hr2
          replace hk2 := hid hk2
          clear hx hxz
          go_wp2_with fail
          refine (l19Many_any _ x w2 (by decide) hxz2).mono ?_
          rintro e w' ⟨y, rfl, hy, rfl⟩
          go_wp2_with fail
          go_ret
          exact ⟨_, rfl, by omega, hr2.out.more (by omega), hk1.out.trans hk2.out⟩
        · have hjb3 : ((j : Int) == 3) = false := by simpa using hj3
          replace hj3 := hid hj3
          go_wp2_with fail
          go_ret
          exact ⟨_, rfl, by omega, hr1.out.more (by omega), hk1.out⟩

end Go.Proofs.Ytdkjnemakkppfaa

/- Automata under way in memory: rows and marks that are owned; what the drawing functions hand back. -/
namespace Go.Proofs.Ytdkjnemakkppfaa
open Go.RowKit Go.BigFrame AG

/-- An automaton under way in the block gs: all old blocks but those of K are as they were. -/
structure AuSt (K : Nat → Prop) (w0 wr : World) (gs : Nat) (v1 v2 : Value) (a : Au) (xs : List RowV) : Prop where
  keep : KeepB K w0 wr
  ge : w0.heap.size ≤ gs
  own : AuOwn wr w0.heap.size v1 v2 a xs
  blk : Blk wr gs 26 #[.int .i64 a.al, v1, v2]
section
variable {K : Nat → Prop} {w0 wr w1 : World} {gs : Nat} {v1 v2 v1' v2' : Value} {a : Au} {xs : List RowV}
theorem AuSt.rowLt (h : AuSt K w0 wr gs v1 v2 a xs) {x : RowV} (hx : x ∈ xs) {k : Nat} (e : x.v.ownBlock = some k) : w0.heap.size ≤ k ∧ k < wr.heap.size := (h.own.rows.rows x hx).lt k e
theorem AuSt.keepK (h : AuSt K w0 wr gs v1 v2 a xs) (hK : ∀ b, K b → b < w0.heap.size) (hk : KeepB K wr w1) : AuSt K w0 w1 gs v1 v2 a xs := by
  have hn : ∀ {b : Nat}, w0.heap.size ≤ b → ¬ K b := fun hb hk => by have := hK _ hk; omega
  exact ⟨h.keep.trans hk, h.ge, ⟨h.own.rows.keep hk (fun g hg => hn (h.own.rows.own.lt g hg).1) (fun x hx g hg => hn (h.rowLt hx hg).1), h.own.eq, own_keep h.own.acc hk fun g hg => hn (h.own.acc.lt g hg).1⟩, h.blk.keep hk (hn h.ge)⟩
theorem AuSt.later (h : AuSt K w0 wr gs v1 v2 a xs) (hb : Below wr.heap.size wr w1) : AuSt K w0 w1 gs v1 v2 a xs :=
  ⟨h.keep.trans (.of_below hb), h.ge, h.own.later hb, h.blk.below hb h.blk.lt⟩
/-- Blocks made since a world are written. -/
theorem AuSt.far {wo : World} (h0 : AuSt K w0 wo gs v1 v2 a xs) (h : AuSt K w0 wr gs v1 v2 a xs) (hk : KeepB (fun b => wo.heap.size ≤ b) wr w1) : AuSt K w0 w1 gs v1 v2 a xs := by
  have hz := h0.keep.size
  have hb := h0.blk.lt
  refine ⟨⟨hk.os.trans h.keep.os, hk.tape.trans h.keep.tape, hk.output.trans h.keep.output, Nat.le_trans h.keep.size hk.size, fun i hi hne => ?_⟩, h.ge, ⟨h.own.rows.keep hk (fun g hg hb => by have := (h0.own.rows.own.lt g hg).2; omega) (fun x hx g hg hb => by have := (h0.rowLt hx hg).2; omega), h.own.eq, own_keep h.own.acc hk fun g hg hb => by have := (h0.own.acc.lt g hg).2; omega⟩, h.blk.keep hk (by omega)⟩
  rw [hk.block i (by have := h.keep.size; omega) (by omega)]
  exact h.keep.block i hi hne
theorem AuSt.len (h : AuSt K w0 wr gs v1 v2 a xs) : xs.length = a.nx.length := by rw [← h.own.eq, List.length_map]
/-- A row is appended to the table. -/
theorem AuSt.row {x : RowV} (h : AuSt K w0 wr gs v1 v2 a xs) (hx : wr.ownsRow w0.heap.size 3 1 x.v x.r.length (intVals x.r)) (hap : ∀ y ∈ xs, ∀ k, y.v.ownBlock = some k → x.v.ownBlock ≠ some k) (hg : wr.grownBy w1 v1.ownBlock)
    (ho : w1.ownsRow w0.heap.size 40 1 v1' (xs.length + 1) (rowVals xs ++ [x.v])) : AuSt K w0 (w1.setCell ⟨gs, 1, none⟩ v1') gs v1' v2 ⟨a.al, a.nx ++ [x.r], a.ac⟩ (xs ++ [x]) := by
  have hkA : KeepB (fun b => v1.ownBlock = some b) wr w1 := (KeepB.refl _ wr).grown hg fun k hk _ => hk
  have hblk1 : Blk w1 gs 26 #[.int .i64 a.al, v1, v2] := h.blk.keep hkA fun e => own_ne h.own.rows.own h.blk (by decide) _ e rfl
  have hkB : KeepB (fun b => b = gs) w1 (w1.setCell ⟨gs, 1, none⟩ v1') := (KeepB.refl _ w1).setCell _ _ fun _ => rfl
  have hrow : ∀ y, y ∈ xs ++ [x] → wr.ownsRow w0.heap.size 3 1 y.v y.r.length (intVals y.r) := fun y hy => by
    rcases List.mem_append.1 hy with hy | hy
    · exact h.own.rows.rows y hy
    · rw [List.mem_singleton.1 hy]; exact hx
  refine ⟨?_, h.ge, ⟨⟨?_, fun y hy => ?_, ?_⟩, by rw [List.map_append, h.own.eq]; rfl, ?_⟩, by simpa using hblk1.set_ 1 v1'⟩
  · exact (h.keep.grown hg fun k hk hlt => by have := (h.own.rows.own.lt k hk).1; omega).setCell _ _ fun hlt => by have := h.ge; simp at hlt; omega
  · have h2 : w1.ownsRow w0.heap.size 40 1 v1' (xs ++ [x]).length (rowVals (xs ++ [x])) := by
      unfold rowVals at ho ⊢
      rw [List.length_append, List.map_append]
      exact ho
    exact own_keep h2 hkB (own_ne h2 hblk1 (by decide))
  · have h1 := own_keep (hrow y hy) hkA fun g hg e => own_ne_own h.own.rows.own (hrow y hy) (by decide) g g e hg rfl
    exact own_keep h1 hkB (own_ne h1 hblk1 (by decide))
  · rw [List.pairwise_append]
    exact ⟨h.own.rows.apart, List.pairwise_singleton _ _, fun y hy z hz k e => by rw [List.mem_singleton.1 hz]; exact hap y hy k e⟩
  · have h3 := own_keep h.own.acc hkA fun g hg e => own_ne_own h.own.acc h.own.rows.own (by decide) g g hg e rfl
    exact own_keep h3 hkB (own_ne h3 hblk1 (by decide))
/-- A truth value is appended. -/
theorem AuSt.put {t : Bool} (h : AuSt K w0 wr gs v1 v2 a xs) (hg : wr.grownBy w1 v2.ownBlock)
    (ho : w1.ownsRow w0.heap.size 4 1 v2' (a.ac.length + 1) (boolVals a.ac ++ [.bool t])) : AuSt K w0 (w1.setCell ⟨gs, 2, none⟩ v2') gs v1 v2' ⟨a.al, a.nx, a.ac ++ [t]⟩ xs := by
  have hkA : KeepB (fun b => v2.ownBlock = some b) wr w1 := (KeepB.refl _ wr).grown hg fun k hk _ => hk
  have hblk1 : Blk w1 gs 26 #[.int .i64 a.al, v1, v2] := h.blk.keep hkA fun e => own_ne h.own.acc h.blk (by decide) _ e rfl
  have hkB : KeepB (fun b => b = gs) w1 (w1.setCell ⟨gs, 2, none⟩ v2') := (KeepB.refl _ w1).setCell _ _ fun _ => rfl
  refine ⟨?_, h.ge, ⟨⟨?_, fun y hy => ?_, h.own.rows.apart⟩, h.own.eq, ?_⟩, by simpa using hblk1.set_ 2 v2'⟩
  · exact (h.keep.grown hg fun k hk hlt => by have := (h.own.acc.lt k hk).1; omega).setCell _ _ fun hlt => by have := h.ge; simp at hlt; omega
  · have h3 := own_keep h.own.rows.own hkA fun g hg e => own_ne_own h.own.rows.own h.own.acc (by decide) g g hg e rfl
    exact own_keep h3 hkB (own_ne h3 hblk1 (by decide))
  · have h1 := own_keep (h.own.rows.rows y hy) hkA fun g hg e => own_ne_own h.own.acc (h.own.rows.rows y hy) (by decide) g g e hg rfl
    exact own_keep h1 hkB (own_ne h1 hblk1 (by decide))
  · have h2 : w1.ownsRow w0.heap.size 4 1 v2' (a.ac ++ [t]).length (boolVals (a.ac ++ [t])) := by
      unfold boolVals at ho ⊢
      rw [List.length_append, List.map_append]
      exact ho
    exact own_keep h2 hkB (own_ne h2 hblk1 (by decide))
/-- The alphabet is stored. -/
theorem AuSt.setAl (h : AuSt K w0 wr gs v1 v2 a xs) (x : Int) : AuSt K w0 (wr.setCell ⟨gs, 0, none⟩ (.int .i64 x)) gs v1 v2 ⟨x, a.nx, a.ac⟩ xs := by
  have hkB : KeepB (fun b => b = gs) wr (wr.setCell ⟨gs, 0, none⟩ (.int .i64 x)) := (KeepB.refl _ wr).setCell _ _ fun _ => rfl
  refine ⟨h.keep.setCell _ _ fun hlt => by have := h.ge; simp at hlt; omega, h.ge, ⟨h.own.rows.keep hkB (own_ne h.own.rows.own h.blk (by decide)) fun y hy => own_ne (h.own.rows.rows y hy) h.blk (by decide), h.own.eq, own_keep h.own.acc hkB (own_ne h.own.acc h.blk (by decide))⟩, by simpa using h.blk.set_ 0 (.int .i64 x)⟩
/-- A mark is stored. -/
theorem AuSt.setAc {g c i : Nat} (h : AuSt K w0 wr gs v1 (.slice (some ⟨g, 0, none⟩) a.ac.length c) a xs) (t : Bool) : AuSt K w0 (wr.setCell ⟨g, i, none⟩ (.bool t)) gs v1 (.slice (some ⟨g, 0, none⟩) a.ac.length c) ⟨a.al, a.nx, a.ac.set i t⟩ xs := by
  have hs := World.ownsRow.stored h.own.acc i (.bool t)
  have hg := h.own.acc.lt g rfl
  have hkB : KeepB (fun b => b = g) wr (wr.setCell ⟨g, i, none⟩ (.bool t)) := (KeepB.refl _ wr).setCell _ _ fun _ => rfl
  have hb : (Value.slice (some ⟨g, 0, none⟩) a.ac.length c).ownBlock = some g := rfl
  refine ⟨h.keep.setCell _ _ fun hlt => by simp at hlt; omega, h.ge, ⟨h.own.rows.keep hkB (fun k hk e => own_ne_own h.own.rows.own h.own.acc (by decide) k g hk hb e) fun y hy k hk e => own_ne_own (h.own.rows.rows y hy) h.own.acc (by decide) k g hk hb e, h.own.eq, ?_⟩, h.blk.keep hkB fun e => own_ne h.own.acc h.blk (by decide) g hb e.symm⟩
  have e1 : boolVals (a.ac.set i t) = (boolVals a.ac).set i (.bool t) := by unfold boolVals; rw [List.map_set]
  show World.ownsRow _ _ _ _ _ (a.ac.set i t).length (boolVals (a.ac.set i t))
  rw [e1, List.length_set]
  exact hs.1
/-- An entry of a row is stored. -/
theorem AuSt.setRow {l1 l2 : List RowV} {r : List Int} {g c j : Nat} (h : AuSt K w0 wr gs v1 v2 a (l1 ++ ⟨r, some ⟨g, 0, none⟩, c⟩ :: l2)) (t : Int) :
    AuSt K w0 (wr.setCell ⟨g, j, none⟩ (.int .i64 t)) gs v1 v2 ⟨a.al, (l1 ++ ⟨r.set j t, some ⟨g, 0, none⟩, c⟩ :: l2).map (·.r), a.ac⟩ (l1 ++ ⟨r.set j t, some ⟨g, 0, none⟩, c⟩ :: l2) := by
  have hx := h.own.rows.rows ⟨r, some ⟨g, 0, none⟩, c⟩ (by simp)
  have hs := World.ownsRow.stored (show wr.ownsRow w0.heap.size 3 1 (.slice (some ⟨g, 0, none⟩) r.length c) r.length (intVals r) from hx) j (.int .i64 t)
  have hg := hx.lt g rfl
  have hkB : KeepB (fun b => (RowV.v ⟨r, some ⟨g, 0, none⟩, c⟩).ownBlock = some b) wr (wr.setCell ⟨g, j, none⟩ (.int .i64 t)) := (KeepB.refl _ wr).setCell _ _ fun _ => rfl
  refine ⟨h.keep.setCell _ _ fun hlt => by simp at hlt; omega, h.ge, ⟨h.own.rows.set_ hkB (by unfold RowV.v; simp) ?_, rfl, own_keep h.own.acc hkB fun k hk e => own_ne_own h.own.acc hx (by decide) k k hk e rfl⟩, h.blk.keep hkB fun e => own_ne hx h.blk (by decide) _ e rfl⟩
  have e1 : intVals (r.set j t) = (intVals r).set j (.int .i64 t) := by unfold intVals; rw [List.map_set]
  show World.ownsRow _ _ _ _ (.slice _ (r.set j t).length c) (r.set j t).length (intVals (r.set j t))
  rw [e1, List.length_set]
  exact hs.1
end

theorem AuSt.begin {K : Nat → Prop} {w0 : World} (al : Int) {wr : World} (hk : KeepB K w0 wr) (hz : w0.heap.size ≤ wr.heap.size) : AuSt K w0 (wr.alloc (.cells #[.int .i64 al, .slice none 0 0, .slice none 0 0] 26)) wr.heap.size (.slice none 0 0) (.slice none 0 0) ⟨al, [], []⟩ [] :=
  ⟨hk.alloc _, hz, ⟨⟨World.ownsRow_nil _ _ _ _, fun x hx => (by cases hx), List.Pairwise.nil⟩, rfl, World.ownsRow_nil _ _ _ _⟩, Blk.new _ _ _⟩

/-- The rows have at most N entries; there are at most N of them. -/
def AuSz (N : Nat) (a : Au) : Prop := a.nx.length ≤ N ∧ a.ac.length ≤ N ∧ ∀ r ∈ a.nx, r.length ≤ N
/-- Some automaton comes back; the reader has moved on to P at most. -/
def AuUp (Q : Au → Prop) (R P : Nat) (w : World) (e : Ending) (w' : World) : Prop :=
  ∃ (a : Au) (v1 v2 : Value) (xs : List RowV), e = .returned (.agg #[.int .i64 a.al, v1, v2]) ∧ Q a ∧ AuOwn w' w.heap.size v1 v2 a xs ∧ RdUp w' R P ∧ KeepB (fun b => b = R) w w'
theorem AuOwn.keepNew {K : Nat → Prop} {w w' : World} {B : Nat} {v1 v2 : Value} {a : Au} {xs : List RowV} (h : AuOwn w B v1 v2 a xs) (hk : KeepB K w w') (hK : ∀ b, K b → b < B) : AuOwn w' B v1 v2 a xs :=
  ⟨h.rows.keep hk (fun g hg hb => by have := (h.rows.own.lt g hg).1; have := hK g hb; omega) (fun x hx g hg hb => by have := ((h.rows.rows x hx).lt g hg).1; have := hK g hb; omega), h.eq, own_keep h.acc hk fun g hg hb => by have := (h.acc.lt g hg).1; have := hK g hb; omega⟩
/-- The result variable (its block is that of the world before) is stored into. -/
theorem AuUp.ret {Q : Au → Prop} {w w1 : World} {R P P' : Nat} {a : Au} {v1 v2 : Value} {xs : List RowV} (hq : Q a) (ho : AuOwn w1 (w.heap.size + 1) v1 v2 a xs) (hr : RdUp w1 R P) (hP : P ≤ P') (hk : KeepB (fun b => b = R) w w1) (hR : R < w.heap.size) (u1 u2 u3 : Value) :
    AuUp Q R P' w (.returned (.agg #[.int .i64 a.al, v1, v2])) (((w1.setCell ⟨w.heap.size, 0, none⟩ u1).setCell ⟨w.heap.size, 1, none⟩ u2).setCell ⟨w.heap.size, 2, none⟩ u3) := by
  have hk2 : KeepB (fun b => b = w.heap.size) w1 (((w1.setCell ⟨w.heap.size, 0, none⟩ u1).setCell ⟨w.heap.size, 1, none⟩ u2).setCell ⟨w.heap.size, 2, none⟩ u3) := (((KeepB.refl _ w1).setCell _ _ (by simp)).setCell _ _ (by simp)).setCell _ _ (by simp)
  exact ⟨a, v1, v2, xs, rfl, hq, (ho.keepNew hk2 (fun b e => by omega)).base (by omega), (hr.more hP).keep hk2 (by omega), ((hk.setCell _ _ (by simp)).setCell _ _ (by simp)).setCell _ _ (by simp)⟩

end Go.Proofs.Ytdkjnemakkppfaa

/- The drawing kit: l3Random. -/
namespace Go.Proofs.Ytdkjnemakkppfaa
open Go.RowKit Go.BigFrame AG

theorem infoRows : (Try.prog.info? 40).map (fun i => (i.zero, i.size, i.bytes)) = some (some (.slice none 0 0), 1, 24) := by kernel_rfl
theorem infoBools : (Try.prog.info? 4).map (fun i => (i.zero, i.size, i.bytes)) = some (some (.bool false), 1, 1) := by kernel_rfl

/-- What l3Random holds: i states are drawn. -/
structure RaSt (R P : Nat) (w0 wr : World) (gs : Nat) (al : Int) (v1 v2 : Value) (a : Au) (xs : List RowV) (i N : Nat) : Prop where
  st : AuSt (fun b => b = R) w0 wr gs v1 v2 a xs
  al : a.al = al
  nx : a.nx.length = i
  ac : a.ac.length = i
  rows : ∀ r ∈ a.nx, r.length ≤ 6
  rd : RdUp wr R (P + N)
def RaQ (al : Int) (n : Nat) (a : Au) : Prop := a.al = al ∧ a.nx.length = n ∧ a.ac.length = n ∧ ∀ r ∈ a.nx, r.length ≤ 6
theorem append_snoc_int (xs : List Int) (t : Int) : intVals (xs ++ [t]) = intVals xs ++ [.int .i64 t] := by unfold intVals; rw [List.map_append]; rfl

set_option maxRecDepth 100000 in
set_option maxHeartbeats 8000000 in
theorem l3Random_up (R P : Nat) (al st : Int) (w : World) (hP : P + 100000000 ≤ 1125899906842624) (hst : st ≤ 16) (hr : RdUp w R P) :
    Calls Try.prog 59 #[.pointer (some ⟨R, 0, none⟩), .int .i64 al, .int .i64 st] w (AuUp (RaQ al st.toNat) R (P + 20000000) w) := by
  obtain ⟨i0, hi, hz0, hz1, hz2⟩ := info_parts infoInt
  obtain ⟨j0, hj, jz0, jz1, jz2⟩ := info_parts infoRows
  obtain ⟨b0, hb, bz0, bz1, bz2⟩ := info_parts infoBools
  have hR := hr.lt
  obtain ⟨wA, hwA, hzA, hBA, -⟩ := boxed w #[.int .i64 0, .slice none 0 0, .slice none 0 0] 26
  have hzAe : wA.heap.size = w.heap.size + 1 := by rw [← hwA]; simp
  have hres : Blk wA w.heap.size 26 #[.int .i64 0, .slice none 0 0, .slice none 0 0] := by rw [← hwA]; exact Blk.new _ _ _
  have hst0 := AuSt.begin (K := fun b => b = R) (w0 := wA) (wr := wA) al (KeepB.refl _ _) (Nat.le_refl _)
  have hK : ∀ b, b = R → b < wA.heap.size := fun b e => by omega
  have hrA := hr.later hBA
  replace hr := hid hr
  replace hres := hid hres
  have hzAe' := hid hzAe
  clear hzAe
  go_enter Try.func59, Try.ntmps59
  go_upto_region 2 with fail
  obtain ⟨wB, hwB, hzB, hBB, -⟩ := boxed wA #[.int .i64 al, .slice none 0 0, .slice none 0 0] 26
  rw [hwB]
  rw [hwB] at hst0
  clear hwB
  have hrB := hrA.later hBB
  replace hst0 := hid hst0
  go_wp2_with fail
  refine (l1Letters_any al wB).mono ?_
  rintro e w2 ⟨lv, rfl, hown, hb2⟩
  obtain ⟨AL, cL, rfl, hcL, hcL'⟩ := own_slice hown
  obtain ⟨L, hL⟩ : ∃ L, Hid (L = (letters al).length) := ⟨_, hid rfl⟩
  have hL6 : L ≤ 6 := by rw [hL.out]; exact lettersTo_len al 6
  rw [← hL.out] at hcL ⊢
  have h0 : Hid (RaSt R P wA w2 wA.heap.size al (.slice none 0 0) (.slice none 0 0) ⟨al, [], []⟩ [] 0 0) := hid ⟨hst0.out.later hb2, rfl, rfl, rfl, fun r h => (by cases h), hrB.later hb2⟩
  clear hown hrA hrB hwA
  go_wp2_with fail
  go_loopw [9] (fun iv wr => ∃ (i N : Nat) (v1 v2 : Value) (a : Au) (xs : List RowV), iv = .int .i64 (i : Nat) ∧ i ≤ st.toNat ∧ N ≤ i * 1000000 ∧ RaSt R P wA wr wA.heap.size al v1 v2 a xs i N) (fun iv _ => st.toNat - (intOf iv).toNat)
  case atStart => exact ⟨0, 0, _, _, _, _, rfl, by omega, by omega, h0.out⟩
  case round =>
    obtain ⟨i, N, v1, v2, a, xs, rfl, hi1, hN, hs⟩ := hrel
    by_cases hlt : (i : Int) < st
    · have hi16 : i < 16 := by omega
      replace hs := hid hs
      go_upto_region 7 with fail
      obtain ⟨wo, rfl⟩ : ∃ wo : World, wo = wr := ⟨_, rfl⟩
      have hrow0 := Blk.new wo 3 #[]
      obtain ⟨wC, hwC, hzC, hBC, -⟩ := boxed wo #[] 3
      rw [hwC]
      rw [hwC] at hrow0
      have hzCe : wC.heap.size = wo.heap.size + 1 := by rw [← hwC]; simp
      clear hwC
      have hs1 := hid (hs.out.st.later hBC)
      have hwoz : wA.heap.size ≤ wo.heap.size := hs.out.st.keep.size
      have hrow1 : Hid (wC.ownsRow wo.heap.size 3 1 (.slice (some ⟨wo.heap.size, 0, none⟩) 0 0) 0 (intVals [])) := hid ⟨rfl, .inr ⟨wo.heap.size, 0, #[], rfl, Nat.le_refl _, hrow0, Nat.le_refl _, Nat.zero_le _, rfl, rfl⟩⟩
      have hrdC := hid (hs.out.rd.later hBC)
      have hlow : Hid (∀ y ∈ xs, ∀ k, y.v.ownBlock = some k → k < wo.heap.size) := hid fun y hy k e => (hs.out.st.rowLt hy e).2
      clear hrow0
      go_wp2_with fail
      go_loopw [10, 11] (fun rv kv wr => ∃ (M : Nat) (r : List Int), kv = .int .i64 (r.length : Nat) ∧ r.length ≤ L ∧ M ≤ N + r.length * 10 ∧ AuSt (fun b => b = R) wA wr wA.heap.size v1 v2 a xs ∧ wr.ownsRow wo.heap.size 3 1 rv r.length (intVals r) ∧ RdUp wr R (P + M) ∧ wo.heap.size ≤ wr.heap.size) (fun _ kv _ => L - (intOf kv).toNat)
      case atStart => exact ⟨N, [], rfl, by simp, by simp, hs1.out, hrow1.out, hrdC.out, by omega⟩
      case round =>
        obtain ⟨M, r, rfl, hk, hM, hsr, hor, hrd, hwor⟩ := hrel
        obtain ⟨Ar, cr, rfl, hcr, hcr'⟩ := own_slice hor
        have hzr := World.ownsRow.lt hor
        have hzAe := hzAe'.out
        by_cases hkl : r.length < L
        · replace hsr := hid hsr
          replace hor := hid hor
          replace hrd := hid hrd
          clear hzAe
          go_wp2_with fail
          refine (pick_up R (P + M) st wr (by omega) (by omega) hrd.out).mono ?_
          rintro e w3 ⟨t, rfl, ht0, -, hr3, hk3⟩
          have hs3 := hid (hsr.out.keepK hK hk3)
          have ho3 := hid (own_keep hor.out hk3 fun g hg e => by have := (hor.out.lt g hg).1; have := hzAe'.out; omega)
          have hz3 := hk3.size
          replace hr3 := hid hr3
          replace hk3 := hid hk3
          go_wp2_with (at_builtin; refine wpList_append_own_at _ rfl _ _ 40 rfl wo.heap.size 3 i0 (.int .i64 0) 1 8 Try.underlying40 hi hz0 hz1 hz2 rfl (by decide) _ _ _ rfl (ho3.out.alloc _) ⟨w3.heap.size, 0, none⟩ 1 1 [.int .i64 t] rfl rfl (cell_one_new _ _ _) (by intro u hu; simp at hu; subst hu; rfl) (by unfold maxLen; omega) (by omega) (by simp; omega) ?_; intro v5 w5 hO5 hg5 _ hat5; obtain ⟨A5, c5, ev5, -, -⟩ := own_slice hO5; subst ev5; replace hO5 := hid hO5; replace hg5 := hid hg5; replace hat5 := hid hat5)
          have hkk : Hid (KeepB (fun b => wo.heap.size ≤ b) w3 w5) := hid (((KeepB.refl _ w3).alloc _).grown hg5.out fun k hk _ => (ho3.out.lt k hk).1)
          have hfin : Hid (AuSt (fun b => b = R) wA w5 wA.heap.size v1 v2 a xs) := hid (hs.out.st.far hs3.out hkk.out)
          have hrd5 : Hid (RdUp w5 R (P + (M + 1))) := hid (hr3.out.keep hkk.out fun k hk => by have := hzAe'.out; omega)
          have hz5 : Hid (wo.heap.size ≤ w5.heap.size) := hid (by have := hkk.out.size; omega)
          go_roundw
          case rel => exact ⟨M + 1, r ++ [t], by rw [List.length_append]; go_num, by rw [List.length_append]; exact hkl, by rw [List.length_append]; simp; omega, hfin.out, by rw [append_snoc_int, List.length_append]; exact hO5.out, hrd5.out, hz5.out⟩
          case measure => simp [intOf]; omega
        · have hsr' := hsr
          obtain ⟨A1, c1, e1, -, -⟩ := own_slice hsr.own.rows.own
          subst e1
          have b0 := hsr.blk.cell 0
          have b1 := hsr.blk.cell 1
          simp only [List.getElem?_toArray, List.getElem?_cons_zero, List.getElem?_cons_succ] at b0 b1
          have hxl := hsr.len
          have hxl2 : xs.length ≤ 16 := by have := hs.out.nx; omega
          replace hsr := hid hsr
          replace hsr' := hid hsr'
          replace hor := hid hor
          replace hrd := hid hrd
          replace hxl := hid hxl
          have hgsl := hsr.out.blk.lt
          clear hzAe
          go_upto_region 12 with (at_builtin; refine wpList_append_own_at _ rfl _ _ 23 rfl wA.heap.size 40 j0 (.slice none 0 0) 1 24 Try.underlying23 hj jz0 jz1 jz2 rfl (by decide) _ _ _ rfl (hsr.out.own.rows.own.alloc _) ⟨wr.heap.size, 0, none⟩ 1 1 [.slice Ar r.length cr] rfl rfl (cell_one_new _ _ _) (by intro u hu; simp at hu; subst hu; rfl) (by unfold maxLen; omega) (by omega) (by simp; omega) ?_; intro v5 w5 hO5 hg5 _ hat5; obtain ⟨A5, c5, ev5, -, -⟩ := own_slice hO5; subst ev5; have hbl5 : Blk w5 wA.heap.size 26 #[.int .i64 a.al, .slice A1 xs.length c1, v2] := ((hsr.out.blk.alloc _).keep ((KeepB.refl _ _).grown hg5 (fun k hk _ => hk)) (fun e => own_ne hsr.out.own.rows.own hsr.out.blk (by decide) _ e rfl)); have x1 := hbl5.cell 1; have y1 := hbl5.frozen 1; simp only [List.getElem?_toArray, List.getElem?_cons_zero, List.getElem?_cons_succ] at x1; replace hO5 := hid hO5; replace hg5 := hid hg5; replace hat5 := hid hat5; replace hbl5 := hid hbl5)
          have hx5 := hid ((hsr.out.later ((Below.refl _ wr).alloc (Nat.le_refl _) (.cells #[.slice Ar r.length cr] 40))).row (x := ⟨r, Ar, cr⟩) (own_base (own_later_ (show wr.ownsRow wo.heap.size 3 1 (.slice Ar r.length cr) r.length (intVals r) from hor.out) ((Below.refl _ wr).alloc (Nat.le_refl _) _)) hwoz)
            (fun y hy k e e2 => by have := hlow.out y hy k e; have := (hor.out.lt k e2).1; omega) hg5.out hO5.out)
          obtain ⟨w6, hw6⟩ : ∃ w6, w5.setCell ⟨wA.heap.size, 1, none⟩ (.slice A5 (xs.length + 1) c5) = w6 := ⟨_, rfl⟩
          rw [hw6] at hx5 ⊢
          have hk6 : KeepB (fun b => wA.heap.size ≤ b) wr w6 := by
            rw [← hw6]
            exact (((KeepB.refl _ wr).alloc _).grown hg5.out fun k hk _ => (hsr.out.own.rows.own.lt k hk).1).setCell _ _ fun _ => Nat.le_refl _
          have hrd6 := hrd.out.keep hk6 fun k hk => by have := hzAe'.out; omega
          clear hw6 x1 y1 b0 b1
          obtain ⟨a6, ha6⟩ : ∃ a6, Hid (a6 = (⟨a.al, a.nx ++ [r], a.ac⟩ : Au)) := ⟨_, hid rfl⟩
          have hal6 : a6.al = a.al := by rw [ha6.out]
          rw [← ha6.out, ] at hx5
          have c2 := hx5.out.blk.cell 2
          simp only [List.getElem?_toArray, List.getElem?_cons_zero, List.getElem?_cons_succ] at c2
          obtain ⟨A2, c2', e2, -, -⟩ := own_slice hx5.out.own.acc
          subst e2
          have hgs6 := hx5.out.blk.lt
          have hac6 := hid (show a6.ac.length = i by rw [ha6.out]; exact hs.out.ac)
          have hac16 : a6.ac.length ≤ 16 := by have := hac6.out; omega
          have q2 := RI.cell hrd6 c2 (by have := hzAe'.out; omega)
          have hgR := hid (show wA.heap.size ≠ R from by have := hzAe'.out; omega)
          replace hrd6 := hid hrd6
          replace hk6 := hid hk6
          replace hal6 := hid hal6
          clear c2
          refine GK.wp_region 6 [6, 7, 8] 200 (KeepB fun b => b = R) (RI w6 R (P + M)) (fun _ u _ => ∃ x : Int, u = .int .i64 x) (by kernel_rfl) (by kernel_rfl) (RI.way w6 R _) (by decide) (RI.drew hrd6.out) ?_
          simp only [List.take_succ_cons, List.take_zero]
          (repeat (refine GK.grow_quiet w6 (by rfl) (by rfl) ?_; intro K hK; go_big_quiet_op; go_big_quiet_on))
          refine GK.grow_call (by rfl) (fun u w w' _ h => h) (fun m wq hm hbq hf => ?_) ?_
          · go_simp
            exact ⟨rfl, (pick_up R (P + M + m * 10000) 3 wq (by omega) (by omega) hbq.2).mono fun e w' ⟨x, h2, _, _, h3, h4⟩ => ⟨_, h2, RI.call hbq h4 h3 (by omega), x, rfl⟩⟩
          rintro u ⟨_, _, _, x, rfl⟩
          simp only [Act.put, List.setIfInBounds_toArray, List.set_cons_zero, List.set_cons_succ]
          (repeat (refine GK.grow_quiet w6 (by rfl) (by rfl) ?_; intro K hK; go_big_quiet_op; go_big_quiet_on))
          refine GK.grow_new (K := fun b => b = R) (by rfl) w6.heap.size (fun b => .slice (some ⟨b, 0, none⟩) 1 1) 4 #[.bool (decide (0 < x))] (fun _ => by go_simp) rfl (fun _ _ o h => RI.alloc o h) (fun _ _ h => RI.size h) (fun k hk => by have := hrd6.out.lt; omega) (fun bb hbb => ?_)
          simp only [Act.put, List.setIfInBounds_toArray, List.set_cons_zero, List.set_cons_succ]
          refine GK.grow_nil ?_
          intro w8 hw8 hf
          obtain ⟨g', hge, hge2, hblk8⟩ := hf _ List.mem_cons_self
          cases hge
          clear hf q2
          simp only [List.filterMap_cons, List.filterMap_nil, List.getElem?_cons_zero, List.getElem?_cons_succ]
          have hs8 := hx5.out.keepK hK hw8.1
          have hown8 := hs8.own.acc
          have hbl8 := hs8.blk
          have ag : (Value.slice A2 a6.ac.length c2').ownBlock ≠ some wA.heap.size := fun e => own_ne hown8 hbl8 (by decide) _ e rfl
          have hbl8' := hbl8.lt
          have c2 := hbl8.cell 2
          have f2 := hbl8.frozen 2
          simp only [List.getElem?_toArray, List.getElem?_cons_zero, List.getElem?_cons_succ] at c2
          replace hs8 := hid hs8
          refine wpList_append_own_at _ (by rfl) _ _ 24 (by rfl) wA.heap.size 4 b0 (.bool false) 1 1 Try.underlying24 hb bz0 bz1 bz2 rfl (by decide) _ a6.ac.length (boolVals a6.ac) (by rfl) hown8 ⟨bb, 0, none⟩ 1 1 [.bool (decide (0 < x))] (by rfl) (by rfl) (World.news_of_block hblk8) ?c1 ?c3 ?c4 ?c5 ?_
          case c1 => simp [Value.oneCell']
          case c3 => unfold maxLen; omega
          case c4 => omega
          case c5 => have := hs8.out.keep.size; omega
          intro v9 w9 hown9 hgrow hnil9 hat9
          obtain ⟨A9, c9, hv9, -, -⟩ := own_slice hown9
          subst hv9
          have c2'' : w9.cell? ⟨wA.heap.size, 2, none⟩ = some (.slice A2 a6.ac.length c2') := by rw [hgrow.cell_far _ (by simpa using hbl8') (Ne.symm ag)]; exact c2
          have f2'' : w9.frozen? ⟨wA.heap.size, 2, none⟩ = false := by rw [hgrow.frozen_far _ (by simpa using hbl8') (Ne.symm ag)]; exact f2
          have hfin := hid (hs8.out.put hgrow hown9)
          have hk9 : Hid (KeepB (fun b => wA.heap.size ≤ b) w8 (w9.setCell ⟨wA.heap.size, 2, none⟩ (.slice A9 (a6.ac.length + 1) c9))) := hid (((KeepB.refl _ w8).grown hgrow fun k hk _ => (hs8.out.own.acc.lt k hk).1).setCell _ _ fun _ => Nat.le_refl _)
          have hrd9 := hid ((hw8.2.keep hk9.out fun k hk => by have := hzAe'.out; omega).more (by omega : P + M + _ ≤ P + (M + 90000)))
          clear hown8 hbl8 hown9 hgrow c2 f2
          go_wp2_with fail
          go_roundw
          case rel => exact ⟨i + 1, M + 90000, _, _, _, _, by go_num, by omega, by omega, ⟨hfin.out, by show a6.al = al; rw [hal6.out]; exact hs.out.al, by show a6.nx.length = i + 1; rw [ha6.out]; simp [hs.out.nx], by show (a6.ac ++ _).length = i + 1; rw [List.length_append]; rw [hac6.out]; rfl, by
            show ∀ y ∈ a6.nx, y.length ≤ 6
            rw [ha6.out]
            intro y hy
            rcases List.mem_append.1 hy with hy | hy
            · exact hs.out.rows y hy
            · rw [List.mem_singleton.1 hy]; omega, hrd9.out⟩⟩
          case measure => simp [intOf]; omega
    · obtain ⟨A1, c1, e1, -, -⟩ := own_slice hs.st.own.rows.own
      subst e1
      obtain ⟨A2, c2, e2, -, -⟩ := own_slice hs.st.own.acc
      subst e2
      have k0 := hs.st.blk.cell 0
      have k1 := hs.st.blk.cell 1
      have k2 := hs.st.blk.cell 2
      have hzAe := hzAe'.out
      have hbl := hres.out.keep hs.st.keep (by omega)
      have d0 := hbl.cell 0
      have d1 := hbl.cell 1
      have d2 := hbl.cell 2
      have f0 := hbl.frozen 0
      have f1 := hbl.frozen 1
      have f2 := hbl.frozen 2
      simp only [List.getElem?_toArray, List.getElem?_cons_zero, List.getElem?_cons_succ] at d0 d1 d2 k0 k1 k2
      have hlt2 := hbl.lt
      have hown := hs.st.own
      rw [hzAe] at hown
      have hfin := hid (AuUp.ret (Q := RaQ al st.toNat) (P' := P + 20000000) ⟨hs.al, by have := hs.nx; omega, by have := hs.ac; omega, hs.rows⟩ hown hs.rd (by omega) ((KeepB.of_below hBA).trans hs.st.keep) hR (.int .i64 a.al) (.slice A1 xs.length c1) (.slice A2 a.ac.length c2))
      replace hs := hid hs
      clear hbl hown hzAe
      go_wp2
      refine bodyPost_ret (v := .agg #[.int .i64 a.al, .slice A1 xs.length c1, .slice A2 a.ac.length c2]) (by simp [results, Try.results59, go_sem, d0, d1, d2]) rfl ?_
      exact hfin.out

end Go.Proofs.Ytdkjnemakkppfaa

/- The drawing kit: l3Copy. -/
namespace Go.Proofs.Ytdkjnemakkppfaa
open Go.RowKit Go.BigFrame AG

theorem add_none (b o j : Nat) : (⟨b, o, none⟩ : Addr).add j = ⟨b, o + j, none⟩ := by unfold Addr.add; split <;> simp_all
theorem BoolsAt.news {w : World} {B : Nat} {A : Option Addr} {xs : List Bool} (h : BoolsAt w B A xs) (hn : 0 < xs.length) : ∃ a, A = some a ∧ ∀ (j : Nat) u, (boolVals xs)[j]? = some u → w.cell? (a.add j) = some u := by
  obtain ⟨b, o, hA, -, hE⟩ := h hn
  refine ⟨_, hA, fun j u hj => ?_⟩
  unfold boolVals at hj
  rw [List.getElem?_map] at hj
  cases hx : xs[j]? with
  | none => rw [hx] at hj; cases hj
  | some t =>
    rw [hx] at hj
    obtain ⟨hj2, e⟩ := List.getElem?_eq_some_iff.1 hx
    have := hE j hj2
    rw [e] at this
    have e2 : Value.bool t = u := by simpa using hj
    rw [← e2, add_none]
    exact this
theorem IntsAt.news {w : World} {B : Nat} {A : Option Addr} {xs : List Int} (h : IntsAt w B A xs) (hn : 0 < xs.length) : ∃ a, A = some a ∧ ∀ (j : Nat) u, (intVals xs)[j]? = some u → w.cell? (a.add j) = some u := by
  obtain ⟨b, o, hA, -, hE⟩ := h hn
  refine ⟨_, hA, fun j u hj => ?_⟩
  unfold intVals at hj
  rw [List.getElem?_map] at hj
  cases hx : xs[j]? with
  | none => rw [hx] at hj; cases hj
  | some t =>
    rw [hx] at hj
    obtain ⟨hj2, e⟩ := List.getElem?_eq_some_iff.1 hx
    have := hE j hj2
    rw [e] at this
    have e2 : Value.int .i64 t = u := by simpa using hj
    rw [← e2, add_none]
    exact this
theorem boolVals_one (xs : List Bool) (u : Value) (h : u ∈ boolVals xs) : u.oneCell' = true := by
  unfold boolVals at h
  obtain ⟨t, _, rfl⟩ := List.mem_map.1 h
  rfl
theorem intVals_one (xs : List Int) (u : Value) (h : u ∈ intVals xs) : u.oneCell' = true := by
  unfold intVals at h
  obtain ⟨t, _, rfl⟩ := List.mem_map.1 h
  rfl
theorem boolVals_len (xs : List Bool) : (boolVals xs).length = xs.length := by unfold boolVals; simp

/-- An automaton of the call's own comes back. -/
def AuNew (a : Au) (w : World) (e : Ending) (w' : World) : Prop := ∃ (v1 v2 : Value) (xs : List RowV), e = .returned (.agg #[.int .i64 a.al, v1, v2]) ∧ AuOwn w' w.heap.size v1 v2 a xs ∧ Below w.heap.size w w'

set_option maxRecDepth 100000 in
set_option maxHeartbeats 8000000 in
theorem l3Copy_any (a : Au) (A B : Option Addr) (c d : Nat) (w : World) (hsz : AuSz 1000000 a) (ha : AuAt w A c B d a) :
    Calls Try.prog 26 #[a.val A c B d] w (AuNew a w) := by
  obtain ⟨i0, hi, hz0, hz1, hz2⟩ := info_parts infoInt
  obtain ⟨j0, hj, jz0, jz1, jz2⟩ := info_parts infoRows
  obtain ⟨b0, hb, bz0, bz1, bz2⟩ := info_parts infoBools
  obtain ⟨s1, s2, s3⟩ := hsz
  obtain ⟨w0, hw0, hz00, hB0, hS, -⟩ := boxed2 w #[Value.int IntKind.i64 a.al, Value.slice A a.nx.length c, Value.slice B a.ac.length d] 26 #[Value.int IntKind.i64 0, Value.slice none 0 0, Value.slice none 0 0] 26
  have hres : Hid (Blk w0 (w.heap.size + 1) 26 #[Value.int IntKind.i64 0, Value.slice none 0 0, Value.slice none 0 0]) := hid (by
    rw [← hw0]
    have := Blk.new (w.alloc (.cells #[Value.int IntKind.i64 a.al, Value.slice A a.nx.length c, Value.slice B a.ac.length d] 26)) 26 #[Value.int IntKind.i64 0, Value.slice none 0 0, Value.slice none 0 0]
    simpa using this)
  have hz0e : Hid (w0.heap.size = w.heap.size + 2) := hid (by rw [← hw0]; simp)
  have ha0 := hid (ha.later hB0)
  have hcl := ha.cl
  have hcm := ha.cm
  have hdl := ha.dl
  have hdm := ha.dm
  have p0 := hS 0 _ rfl _ (Below.refl _ _)
  have p1 := hS 1 _ rfl _ (Below.refl _ _)
  have p2 := hS 2 _ rfl _ (Below.refl _ _)
  replace ha := hid ha
  have q0 := GK.BI.cell p0
  have q2 := GK.BI.cell p2
  unfold AG.Au.val
  go_enter Try.func26, Try.ntmps26
  go_upto_region 1 with fail
  clear p0 p1 p2 hw0
  refine GK.wp_region 8 [8] 200 (KeepB fun _ => False) (GK.BI w0) (fun _ _ _ => True) (by kernel_rfl) (by kernel_rfl) (GK.BI.way w0) (by decide) (Below.refl _ _).drew ?_
  simp only [List.take_succ_cons, List.take_zero]
  (repeat (refine GK.grow_quiet w0 (by rfl) (by rfl) ?_; intro K hK; go_big_quiet_op; go_big_quiet_on))
  refine GK.grow_new (K := fun _ => False) (by rfl) _ (fun b => .slice (some ⟨b, 0, none⟩) 0 0) 4 #[] (fun _ => by go_simp) rfl (fun _ _ o h => GK.BI.alloc o h) (fun _ _ h => GK.BI.size h) (fun _ h => h.elim) (fun b hbb => ?_)
  simp only [Act.put, List.setIfInBounds_toArray, List.set_cons_zero, List.set_cons_succ]
  (repeat (refine GK.grow_quiet w0 (by rfl) (by rfl) ?_; intro K hK; go_big_quiet_op; go_big_quiet_on))
  refine GK.grow_copy (by rfl) _ _ 24 (by rfl) 4 b0 (.bool false) 1 1 Try.underlying24 hb bz0 bz1 bz2 rfl b (by rfl) (fun w hf => ?_) B a.ac.length d (boolVals a.ac) (by rfl) (by rw [boolVals_len, Nat.mul_one]) (fun hn => ha0.out.acc.news hn) (boolVals_one _) (by unfold maxLen; omega) (by omega) fun v hv => ?_
  · obtain ⟨b', e1, e2, e3⟩ := hf _ List.mem_cons_self (by kernel_rfl)
    cases e1
    exact ⟨e2, e3⟩
  obtain ⟨A2, c2, hve, hc2, hc2'⟩ : ∃ Av cv, v = .slice Av a.ac.length cv ∧ a.ac.length ≤ cv ∧ cv ≤ 9223372036854775807 := by obtain ⟨_, _, hv⟩ := hv; exact own_slice hv
  subst hve
  clear hv
  simp only [Act.put, List.setIfInBounds_toArray, List.set_cons_zero, List.set_cons_succ]
  (repeat (refine GK.grow_quiet w0 (by rfl) (by rfl) ?_; intro K hK; go_big_quiet_op; go_big_quiet_on))
  refine GK.grow_new (K := fun _ => False) (by rfl) _ (fun b => .pointer (some ⟨b, 0, none⟩)) 26 #[.int .i64 0, .slice none 0 0, .slice none 0 0] (fun _ => by go_simp) rfl (fun _ _ o h => GK.BI.alloc o h) (fun _ _ h => GK.BI.size h) (fun _ h => h.elim) (fun gs hgs => ?_)
  simp only [Act.put, List.setIfInBounds_toArray, List.set_cons_zero, List.set_cons_succ]
  refine GK.grow_nil ?_
  intro w2 hw2 hf
  simp only [List.filterMap_cons, List.filterMap_nil, List.getElem?_cons_zero, List.getElem?_cons_succ]
  obtain ⟨gs', e1, -, hblk⟩ := hf _ List.mem_cons_self
  cases e1
  have hown := hf _ (List.mem_cons_of_mem _ List.mem_cons_self)
  replace hw2 : Below w0.heap.size w0 w2 := hw2
  clear hf q0 q2
  have hblk' : Blk w2 gs 26 #[.int .i64 0, .slice none 0 0, .slice none 0 0] := hblk
  have hown' : w2.ownsRow w0.heap.size 4 1 (.slice A2 a.ac.length c2) a.ac.length (boolVals a.ac) := hown
  have hgl := hblk'.lt
  have c0 := hblk'.cell 0
  have c1 := hblk'.cell 1
  have c2x := hblk'.cell 2
  have f0 := hblk'.frozen 0
  have f1 := hblk'.frozen 1
  have f2 := hblk'.frozen 2
  simp only [List.getElem?_toArray, List.getElem?_cons_zero, List.getElem?_cons_succ] at c0 c1 c2x
  have hneO : (Value.slice A2 a.ac.length c2).ownBlock ≠ some gs := fun e => own_ne hown' hblk' (by decide) gs e rfl
  obtain ⟨w3, hw3⟩ : ∃ w3, Hid (((w2.setCell ⟨gs, 0, none⟩ (.int .i64 a.al)).setCell ⟨gs, 1, none⟩ (.slice none 0 0)).setCell ⟨gs, 2, none⟩ (.slice A2 a.ac.length c2) = w3) := ⟨_, hid rfl⟩
  have hst : Hid (AuSt (fun _ => False) w0 w3 gs (.slice none 0 0) (.slice A2 a.ac.length c2) ⟨a.al, [], a.ac⟩ []) := hid (by
    rw [← hw3.out]
    exact ⟨KeepB.of_below (((hw2.setCell (by simpa using hgs) _).setCell (by simpa using hgs) _).setCell (by simpa using hgs) _), hgs, ⟨⟨World.ownsRow_nil _ _ _ _, fun x hx => (by cases hx), List.Pairwise.nil⟩, rfl, ownsRow_setCell_other (ownsRow_setCell_other (ownsRow_setCell_other hown' hneO _) hneO _) hneO _⟩,
      by simpa using ((hblk'.set_ 0 (.int .i64 a.al)).set_ 1 (.slice none 0 0)).set_ 2 (.slice A2 a.ac.length c2)⟩)
  have hB03 : ∀ {wr : World} {v1 v2 : Value} {x : Au} {ys : List RowV}, AuSt (fun _ => False) w0 wr gs v1 v2 x ys → Below w0.heap.size w0 wr := fun h => ⟨h.keep.os, h.keep.tape, h.keep.output, h.keep.size, fun i hi => h.keep.block i hi (fun h => h)⟩
  replace hblk := hid hblk
  replace hown := hid hown
  replace hown' := hid hown'
  replace hblk' := hid hblk'
  go_upto_region 2 with fail
  rw [hw3.out]
  have p1 := hS 1 _ rfl _ ((hB03 hst.out).mono hz00)
  clear c0 c1 c2x f0 f1 f2
  go_wp2_with fail
  clear p1
  go_loopw [4] (fun iv wr => ∃ (i : Nat) (v1 : Value) (xs : List RowV), iv = .int .i64 (i : Nat) ∧ i ≤ a.nx.length ∧ AuSt (fun _ => False) w0 wr gs v1 (.slice A2 a.ac.length c2) ⟨a.al, a.nx.take i, a.ac⟩ xs) (fun iv _ => a.nx.length - (intOf iv).toNat)
  case atStart => exact ⟨0, _, _, rfl, by omega, hst.out⟩
  case round =>
    obtain ⟨i, v1, xs, rfl, hi', hs⟩ := hrel
    obtain ⟨A1, c1, e1, -, -⟩ := own_slice hs.own.rows.own
    subst e1
    have hbr := hB03 hs
    have p1 := hS 1 _ rfl _ (hbr.mono hz00)
    by_cases hlt : i < a.nx.length
    · obtain ⟨bR, oR, hRe, hbR, hER⟩ := ha0.out.rows (by omega)
      subst hRe
      obtain ⟨Ai, ci, r0, h1, h2, h3⟩ := hER i hlt
      rw [← hbr.cell (by simpa using hbR)] at r0
      have htk : Hid (a.nx.take (i + 1) = a.nx.take i ++ [a.nx[i]]) := hid (List.take_succ_eq_append_getElem hlt)
      obtain ⟨r, hr⟩ : ∃ r, Hid (r = a.nx[i]) := ⟨_, hid rfl⟩
      have hrl := s3 _ (List.getElem_mem hlt)
      rw [← hr.out] at r0 h1 h3 htk hrl
      have hxl : xs.length ≤ 1000000 := by have := hs.len; have h4 : (a.nx.take i).length ≤ i := by rw [List.length_take]; omega
                                           show xs.length ≤ _; have h5 : xs.length = (a.nx.take i).length := this; omega
      have k1 : (0 : Int) ≤ (i : Int) ∧ (i : Int) < (a.nx.length : Int) := by omega
      have k2 := hs.blk.cell 1
      simp only [List.getElem?_toArray, List.getElem?_cons_zero, List.getElem?_cons_succ] at k2
      have hgsr := hs.blk.lt
      have q0 := GK.BI.cell p1
      have q1 := GK.BI.cell k2
      have q2 := GK.BI.cell r0
      have h3r := hid (h3.later hbr)
      have hlow : Hid (∀ y ∈ xs, ∀ k, y.v.ownBlock = some k → k < wr.heap.size) := hid fun y hy k e => (hs.rowLt hy e).2
      have hbrz := hbr.size
      replace hs := hid hs
      replace hER := hid hER
      replace h3 := hid h3
      go_upto_region 5 with fail
      clear p1 k2 r0
      refine GK.wp_region 10 [10, 11, 12] 200 (KeepB fun _ => False) (GK.BI wr) (fun _ _ _ => True) (by kernel_rfl) (by kernel_rfl) (GK.BI.way wr) (by decide) (Below.refl _ _).drew ?_
      simp only [List.take_succ_cons, List.take_zero]
      (repeat (refine GK.grow_quiet wr (by rfl) (by rfl) ?_; intro K hK; go_big_quiet_op; go_big_quiet_on))
      refine GK.grow_new (K := fun _ => False) (by rfl) _ (fun b => .slice (some ⟨b, 0, none⟩) 0 0) 3 #[] (fun _ => by go_simp) rfl (fun _ _ o h => GK.BI.alloc o h) (fun _ _ h => GK.BI.size h) (fun _ h => h.elim) (fun b hbb => ?_)
      simp only [Act.put, List.setIfInBounds_toArray, List.set_cons_zero, List.set_cons_succ]
      (repeat (refine GK.grow_quiet wr (by rfl) (by rfl) ?_; intro K hK; go_big_quiet_op; go_big_quiet_on))
      refine GK.grow_copy (by rfl) _ _ 40 (by rfl) 3 i0 (.int .i64 0) 1 8 Try.underlying40 hi hz0 hz1 hz2 rfl b (by rfl) (fun w hf => ?_) Ai r.length ci (intVals r) (by rfl) (by rw [intVals_len, Nat.mul_one]) (fun hn => h3r.out.news hn) (intVals_one _) (by unfold maxLen; omega) (by omega) fun v hv => ?_
      · obtain ⟨b', e1, e2, e3⟩ := hf _ List.mem_cons_self (by kernel_rfl)
        cases e1
        exact ⟨e2, e3⟩
      obtain ⟨Ar, cr, hve, hcr, hcr'⟩ : ∃ Av cv, v = .slice Av r.length cv ∧ r.length ≤ cv ∧ cv ≤ 9223372036854775807 := by obtain ⟨_, _, hv⟩ := hv; exact own_slice hv
      subst hve
      clear hv
      simp only [Act.put, List.setIfInBounds_toArray, List.set_cons_zero, List.set_cons_succ]
      (repeat (refine GK.grow_quiet wr (by rfl) (by rfl) ?_; intro K hK; go_big_quiet_op; go_big_quiet_on))
      refine GK.grow_new (K := fun _ => False) (by rfl) _ (fun b => .slice (some ⟨b, 0, none⟩) 1 1) 40 #[.slice Ar r.length cr] (fun _ => by go_simp) rfl (fun _ _ o h => GK.BI.alloc o h) (fun _ _ h => GK.BI.size h) (fun _ h => h.elim) (fun bb hbb2 => ?_)
      simp only [Act.put, List.setIfInBounds_toArray, List.set_cons_zero, List.set_cons_succ]
      refine GK.grow_nil ?_
      intro w4 hw4 hf
      simp only [List.filterMap_cons, List.filterMap_nil, List.getElem?_cons_zero, List.getElem?_cons_succ]
      obtain ⟨bb', e1, -, hblk4⟩ := hf _ List.mem_cons_self
      cases e1
      have hor : w4.ownsRow wr.heap.size 3 1 (.slice Ar r.length cr) r.length (intVals r) := hf _ (List.mem_cons_of_mem _ List.mem_cons_self)
      replace hw4 : Below wr.heap.size wr w4 := hw4
      clear hf q0 q1 q2
      have hs4 := hs.out.later hw4
      have hown4 := hs4.own.rows.own
      have hbl4 := hs4.blk
      have ag : (Value.slice A1 xs.length c1).ownBlock ≠ some gs := fun e => own_ne hown4 hbl4 (by decide) _ e rfl
      have hbl4' := hbl4.lt
      have k2 := hbl4.cell 1
      have f2 := hbl4.frozen 1
      simp only [List.getElem?_toArray, List.getElem?_cons_zero, List.getElem?_cons_succ] at k2
      replace hs4 := hid hs4
      have hz4 := hw4.size
      have hor' := hid hor
      clear hor
      refine wpList_append_own_at _ (by rfl) _ _ 23 (by rfl) w0.heap.size 40 j0 (.slice none 0 0) 1 24 Try.underlying23 hj jz0 jz1 jz2 rfl (by decide) _ xs.length (rowVals xs) (by rfl) hown4 ⟨bb, 0, none⟩ 1 1 [.slice Ar r.length cr] (by rfl) (by rfl) (World.news_of_block hblk4) ?c1 ?c3 ?c4 ?c5 ?_
      case c1 => simp [Value.oneCell']
      case c3 => unfold maxLen; omega
      case c4 => omega
      case c5 => have := hs4.out.keep.size; omega
      intro v9 w9 hown9 hgrow hnil9 hat9
      obtain ⟨A9, c9, hv9, -, -⟩ := own_slice hown9
      subst hv9
      have c2'' : w9.cell? ⟨gs, 1, none⟩ = some (.slice A1 xs.length c1) := by rw [hgrow.cell_far _ (by simpa using hbl4') (Ne.symm ag)]; exact k2
      have f2'' : w9.frozen? ⟨gs, 1, none⟩ = false := by rw [hgrow.frozen_far _ (by simpa using hbl4') (Ne.symm ag)]; exact f2
      have hfin := hid (hs4.out.row (x := ⟨r, Ar, cr⟩) (own_base (show w4.ownsRow wr.heap.size 3 1 (.slice Ar r.length cr) r.length (intVals r) from hor'.out) hbrz) (fun y hy k e e2 => by have := hlow.out y hy k e; have := (hor'.out.lt k e2).1; omega) hgrow hown9)
      clear hown4 hbl4 hown9 hgrow k2 f2
      go_wp2_with fail
      go_roundw
      case rel => exact ⟨i + 1, _, _, by go_num, by omega, by rw [htk.out]; exact hfin.out⟩
      case measure => simp [intOf]; omega
    · rw [List.take_of_length_le (by omega)] at hs
      have hxl : xs.length = a.nx.length := hs.len
      rw [hxl] at hs
      have k0 := hs.blk.cell 0
      have k1 := hs.blk.cell 1
      have k2 := hs.blk.cell 2
      have hbl := hres.out.below hbr (by have := hz0e.out; omega)
      have d0 := hbl.cell 0
      have d1 := hbl.cell 1
      have d2 := hbl.cell 2
      have f0 := hbl.frozen 0
      have f1 := hbl.frozen 1
      have f2 := hbl.frozen 2
      simp only [List.getElem?_toArray, List.getElem?_cons_zero, List.getElem?_cons_succ] at d0 d1 d2 k0 k1 k2
      have hltb := hbl.lt
      have hfin : Hid (AuNew a w (.returned (.agg #[.int .i64 a.al, .slice A1 a.nx.length c1, .slice A2 a.ac.length c2])) (((wr.setCell ⟨w.heap.size + 1, 0, none⟩ (.int .i64 a.al)).setCell ⟨w.heap.size + 1, 1, none⟩ (.slice A1 a.nx.length c1)).setCell ⟨w.heap.size + 1, 2, none⟩ (.slice A2 a.ac.length c2))) := hid (by
        have hk2 : KeepB (fun b => b = w.heap.size + 1) wr (((wr.setCell ⟨w.heap.size + 1, 0, none⟩ (.int .i64 a.al)).setCell ⟨w.heap.size + 1, 1, none⟩ (.slice A1 a.nx.length c1)).setCell ⟨w.heap.size + 1, 2, none⟩ (.slice A2 a.ac.length c2)) := (((KeepB.refl _ wr).setCell _ _ (by simp)).setCell _ _ (by simp)).setCell _ _ (by simp)
        refine ⟨_, _, xs, rfl, (hs.own.keepNew hk2 (fun b e => by have := hz0e.out; omega)).base (by have := hz0e.out; omega), ?_⟩
        exact (((hB0.trans (hbr.mono (by have := hz0e.out; omega))).setCell (by simp) _).setCell (by simp) _).setCell (by simp) _)
      replace hs := hid hs
      replace hxl := hid hxl
      clear hbl
      go_wp2
      refine bodyPost_ret (v := .agg #[.int .i64 a.al, .slice A1 a.nx.length c1, .slice A2 a.ac.length c2]) (by simp [results, Try.results26, go_sem, d0, d1, d2]) rfl ?_
      exact hfin.out

end Go.Proofs.Ytdkjnemakkppfaa

/- The drawing kit: l3Safe, l3Over. -/
namespace Go.Proofs.Ytdkjnemakkppfaa
open Go.RowKit Go.BigFrame AG

theorem AuSt.of {K : Nat → Prop} {w0 w1 : World} {v1 v2 : Value} {a : Au} {xs : List RowV} (ho : AuOwn w1 w0.heap.size v1 v2 a xs) (hk : KeepB K w0 w1) :
    AuSt K w0 (w1.alloc (.cells #[.int .i64 a.al, v1, v2] 26)) w1.heap.size v1 v2 a xs :=
  ⟨hk.alloc _, hk.size, ho.later ((Below.refl _ _).alloc (Nat.le_refl _) _), Blk.new _ _ _⟩
theorem AuUp.imp {Q Q' : Au → Prop} {R P P' : Nat} {w : World} {e : Ending} {w' : World} (h : AuUp Q R P w e w') (hq : ∀ a, Q a → Q' a) (hP : P ≤ P') : AuUp Q' R P' w e w' := by
  obtain ⟨a, v1, v2, xs, h1, h2, h3, h4, h5⟩ := h
  exact ⟨a, v1, v2, xs, h1, hq a h2, h3, h4.more hP, h5⟩

theorem own_frozen {w : World} {base : Nat} {e : TypeId} {size : Nat} {v : Value} {n : Nat} {xs : List Value} {g : Nat} (h : w.ownsRow base e size v n xs) (hg : v.ownBlock = some g) (i : Nat) : w.frozen? ⟨g, i, none⟩ = false := by
  rcases h.2 with ⟨rfl, _⟩ | ⟨g', cap, cur, rfl, _, hgg, _⟩
  · cases hg
  · cases hg
    exact Blk.frozen (show Blk w g' e cur from hgg) i
set_option maxRecDepth 100000 in
set_option maxHeartbeats 8000000 in
theorem l3Safe_up (R P n : Nat) (al : Int) (w : World) (hP : P + 200000000 ≤ 1125899906842624) (hn1 : 1 ≤ n) (hn : n ≤ 16) (hr : RdUp w R P) :
    Calls Try.prog 58 #[.pointer (some ⟨R, 0, none⟩), .int .i64 al, .int .i64 (n : Nat)] w (AuUp (RaQ al n) R (P + 20000000) w) := by
  have hR := hr.lt
  obtain ⟨wA, hwA, hzA, hBA, -⟩ := boxed w #[.int .i64 0, .slice none 0 0, .slice none 0 0] 26
  have hzAe : wA.heap.size = w.heap.size + 1 := by rw [← hwA]; simp
  have hres : Blk wA w.heap.size 26 #[.int .i64 0, .slice none 0 0, .slice none 0 0] := by rw [← hwA]; exact Blk.new _ _ _
  have hK : ∀ b, b = R → b < wA.heap.size := fun b e => by omega
  have hrA := hid (hr.later hBA)
  replace hr := hid hr
  replace hres := hid hres
  have hzAe' := hid hzAe
  clear hzAe
  go_enter Try.func58, Try.ntmps58
  go_wp2_with fail
  refine (l3Random_up R P al (n : Nat) wA (by omega) (by omega) hrA.out).mono ?_
  rintro e w1 ⟨a, v1, v2, xs, rfl, hq, ho, hr1, hk1⟩
  rw [Int.toNat_natCast] at hq
  clear hwA
  have hst := AuSt.of ho hk1
  have hr2 := hr1.later ((Below.refl _ w1).alloc (Nat.le_refl _) (.cells #[.int .i64 a.al, v1, v2] 26))
  obtain ⟨q1, q2, q3, q4⟩ := hq
  have hal := hid q1
  have hnx := hid q2
  have hac := hid q3
  have hrw := hid q4
  clear q1 q2 q3 q4 ho hr1
  obtain ⟨A1, c1, e1, -, -⟩ := own_slice hst.own.rows.own
  obtain ⟨g2, c2, e2, -, -, -, -, -⟩ := own_shape hst.own.acc (by have := hac.out; omega)
  subst e1 e2
  have hxl := hst.len
  rw [hxl, hnx.out] at hst hr2 ⊢
  rw [hac.out] at hst hr2 ⊢
  have hz1 := hk1.size
  replace hst := hid hst
  replace hr2 := hid hr2
  replace hxl := hid hxl
  replace hk1 := hid hk1
  obtain ⟨gs, hgs⟩ : ∃ gs, Hid (gs = w1.heap.size) := ⟨_, hid rfl⟩
  go_upto_region 2 with fail
  rw [← hgs.out] at hst ⊢
  obtain ⟨w2, hw2⟩ : ∃ w2, w1.alloc (.cells #[.int .i64 a.al, .slice A1 n c1, .slice (some ⟨g2, 0, none⟩) n c2] 26) = w2 := ⟨_, rfl⟩
  rw [hw2] at hst hr2 ⊢
  clear hw2
  go_wp2_with fail
  go_loopw [8] (fun iv wr => ∃ (i : Nat) (ac : List Bool), iv = .int .i64 (i : Nat) ∧ i ≤ n ∧ ac.length = n ∧ AuSt (fun b => b = R) wA wr gs (.slice A1 n c1) (.slice (some ⟨g2, 0, none⟩) n c2) ⟨a.al, a.nx, ac⟩ xs ∧ RdUp wr R (P + 20000000)) (fun iv _ => n - (intOf iv).toNat)
  case atStart => exact ⟨0, a.ac, rfl, by omega, hac.out, hst.out, hr2.out⟩
  case round =>
    obtain ⟨i, ac, rfl, hi, hacl, hs, hrd⟩ := hrel
    have k1 := hs.blk.cell 1
    have k2 := hs.blk.cell 2
    simp only [List.getElem?_toArray, List.getElem?_cons_zero, List.getElem?_cons_succ] at k1 k2
    by_cases hlt : i < n
    · have hgsl := hs.blk.lt
      obtain ⟨g, cap, hve, hg1, hg2, hcap1, hcap2, hcell⟩ := own_shape hs.own.acc (by show 0 < ac.length; omega)
      have hve' : g = g2 := by injection hve with hve; injection hve with hve; injection hve with hve; exact hve.symm
      subst hve'
      obtain ⟨t0, c0⟩ : ∃ t0, wr.cell? ⟨g, i, none⟩ = some (.bool t0) := ⟨_, hcell i _ (show (boolVals ac)[i]? = some (.bool (ac[i]'(by omega))) from by unfold boolVals; simp [hacl, hlt])⟩
      have fz : wr.frozen? ⟨g, i, none⟩ = false := own_frozen hs.own.acc rfl i
      have hacl' := hid hacl
      have hset := hid (fun t => AuSt.setAc (g := g) (c := c2) (i := i) (t := t) (a := ⟨a.al, a.nx, ac⟩) (by rw [show (⟨a.al, a.nx, ac⟩ : Au).ac.length = n from hacl'.out]; exact hs))
      have kx : (0 : Int) ≤ (i : Int) ∧ (i : Int) < (n : Int) := by omega
      have hrd' := hid hrd
      replace hs := hid hs
      replace hcell := hid hcell
      clear hacl hrd hve
      go_wp2_with fail
      go_roundw
      case rel =>
        have h1 := hset.out (decide ((i : Int) < (n : Int) - 1))
        rw [show (⟨a.al, a.nx, ac⟩ : Au).ac.length = n from hacl'.out] at h1
        exact ⟨i + 1, _, by go_num, by omega, by rw [List.length_set]; exact hacl'.out, h1, hrd'.out.keep ((KeepB.refl (fun b => wA.heap.size ≤ b) wr).setCell _ _ fun _ => hg1) fun k hk => by have := hzAe'.out; omega⟩
      case measure => simp [intOf]; omega
    · obtain ⟨n1, hn1'⟩ : ∃ n1, n = n1 + 1 := ⟨n - 1, by omega⟩
      have hxln : xs.length = n := by rw [hxl.out, hnx.out]
      obtain ⟨x, hx⟩ : ∃ x, x = xs[n1]'(by omega) := ⟨_, rfl⟩
      have hsplit : xs = xs.take n1 ++ x :: xs.drop (n1 + 1) := by
        rw [hx, ← List.drop_eq_getElem_cons (by omega), List.take_append_drop]
      obtain ⟨l1, hl1⟩ : ∃ l1, l1 = xs.take n1 := ⟨_, rfl⟩
      obtain ⟨l2, hl2⟩ : ∃ l2, l2 = xs.drop (n1 + 1) := ⟨_, rfl⟩
      have hl1n : l1.length = n1 := by rw [hl1, List.length_take]; omega
      rw [← hl1, ← hl2] at hsplit
      have hrx : x.r.length ≤ 6 := by
        refine hrw.out x.r ?_
        have := hst.out.own.eq
        rw [← this]
        exact List.mem_map_of_mem (by rw [hx]; exact List.getElem_mem _)
      obtain ⟨r, Ax, cx⟩ := x
      have hlen2 : Hid ((l1 ++ ⟨r, Ax, cx⟩ :: l2).length = n) := hid (by rw [← hsplit]; exact hxln)
      have hs' : AuSt (fun b => b = R) wA wr gs (.slice A1 n c1) (.slice (some ⟨g2, 0, none⟩) n c2) ⟨a.al, (l1 ++ ⟨r, Ax, cx⟩ :: l2).map (·.r), ac⟩ (l1 ++ ⟨r, Ax, cx⟩ :: l2) := by
        have := hs.own.eq
        rw [hsplit] at hs this
        rw [this]
        exact hs
      have hrx' : r.length ≤ 6 := hrx
      have hrows : Hid (∀ y, y ∈ l1 ++ l2 → y.r.length ≤ 6) := hid fun y hy => by
        refine hrw.out y.r ?_
        have := hst.out.own.eq
        rw [← this, hsplit]
        refine List.mem_map_of_mem ?_
        rcases List.mem_append.1 hy with hy | hy
        · exact List.mem_append_left _ hy
        · exact List.mem_append_right _ (List.mem_cons_of_mem _ hy)
      have hacl' := hid hacl
      have hnn : (n : Int) - 1 = (n1 : Int) := by omega
      have hn1l : (0 : Int) ≤ (n1 : Int) ∧ (n1 : Int) < (n : Int) := by omega
      have hrd' := hid hrd
      replace hs' := hid hs'
      replace hl1n := hid hl1n
      replace hxln := hid hxln
      clear hs hx hl1 hl2 hsplit hacl hrd hrx
      replace hn1' := hid hn1'
      go_wp2_with fail
      go_loopw [9] (fun kv wr => ∃ (k : Nat) (r' : List Int), kv = .int .i64 (k : Nat) ∧ k ≤ r.length ∧ r'.length = r.length ∧ AuSt (fun b => b = R) wA wr gs (.slice A1 n c1) (.slice (some ⟨g2, 0, none⟩) n c2) ⟨a.al, (l1 ++ ⟨r', Ax, cx⟩ :: l2).map (·.r), ac⟩ (l1 ++ ⟨r', Ax, cx⟩ :: l2) ∧ RdUp wr R (P + 20000000)) (fun kv _ => r.length - (intOf kv).toNat)
      case atStart => exact ⟨0, r, rfl, by omega, rfl, hs'.out, hrd'.out⟩
      case round =>
        clear k1 k2 hs' hrd'
        obtain ⟨k, r', rfl, hk, hrl, hs, hrd⟩ := hrel
        have k0 := hs.blk.cell 0
        have k1 := hs.blk.cell 1
        have k2 := hs.blk.cell 2
        simp only [List.getElem?_toArray, List.getElem?_cons_zero, List.getElem?_cons_succ] at k0 k1 k2
        obtain ⟨gT, capT, hve, -, -, -, -, hcell⟩ := own_shape hs.own.rows.own (by have := hlen2.out; simp at this ⊢; omega)
        have e1 : A1 = some ⟨gT, 0, none⟩ := by injection hve
        subst e1
        have t0 := hcell n1 _ (show (rowVals (l1 ++ ⟨r', Ax, cx⟩ :: l2))[n1]? = some (.slice Ax r'.length cx) from by
          unfold rowVals
          rw [List.map_append, List.getElem?_append_right (by rw [List.length_map, hl1n.out]; exact Nat.le_refl _), List.length_map, hl1n.out, Nat.sub_self]
          rfl)
        rw [hrl] at t0
        by_cases hlt2 : k < r.length
        · have hxo := hs.own.rows.rows ⟨r', Ax, cx⟩ (by simp)
          obtain ⟨gr, capr, hver, hgr1, hgr2, -, -, hcellr⟩ := own_shape hxo (by show 0 < r'.length; omega)
          have e2 : Ax = some ⟨gr, 0, none⟩ := by injection hver
          subst e2
          obtain ⟨y0, c0⟩ : ∃ y0, wr.cell? ⟨gr, k, none⟩ = some (.int .i64 y0) := ⟨_, hcellr k _ (show (intVals r')[k]? = some (.int .i64 (r'[k]'(by omega))) from by unfold intVals; simp [hrl, hlt2])⟩
          have fz : wr.frozen? ⟨gr, k, none⟩ = false := own_frozen hxo rfl k
          have hset := hid (fun t => hs.setRow (j := k) t)
          have hrl' := hid hrl
          have kx : (0 : Int) ≤ (k : Int) ∧ (k : Int) < (r.length : Int) := by omega
          replace hs := hid hs
          replace hcell := hid hcell
          replace hcellr := hid hcellr
          replace hxo := hid hxo
          have hrd2 := hid hrd
          clear hrl hver hve hrd
          go_wp2_with fail
          go_roundw
          case rel => exact ⟨k + 1, r'.set k (n1 : Int), by go_num, by omega, by rw [List.length_set]; exact hrl'.out, hset.out (n1 : Int), hrd2.out.keep ((KeepB.refl (fun b => wA.heap.size ≤ b) wr).setCell _ _ fun _ => hgr1) fun k hk => by have := hzAe'.out; omega⟩
          case measure => simp [intOf]; omega
        · have hbl := hres.out.keep hs.keep (by omega)
          have d0 := hbl.cell 0
          have d1 := hbl.cell 1
          have d2 := hbl.cell 2
          have f0 := hbl.frozen 0
          have f1 := hbl.frozen 1
          have f2 := hbl.frozen 2
          simp only [List.getElem?_toArray, List.getElem?_cons_zero, List.getElem?_cons_succ] at d0 d1 d2
          have hltb := hbl.lt
          have hown := hs.own
          rw [hzAe'.out] at hown
          have hfin := hid (AuUp.ret (Q := RaQ al n) (P' := P + 20000000) (a := ⟨a.al, (l1 ++ ⟨r', Ax, cx⟩ :: l2).map (·.r), ac⟩) ⟨hal.out, by have := hlen2.out; simp at this ⊢; omega, hacl'.out, fun y hy => by
            obtain ⟨z, hz, rfl⟩ := List.mem_map.1 hy
            rcases List.mem_append.1 hz with hz | hz
            · exact hrows.out z (List.mem_append_left _ hz)
            · rcases List.mem_cons.1 hz with rfl | hz
              · show r'.length ≤ 6; omega
              · exact hrows.out z (List.mem_append_right _ hz)⟩ hown hrd (Nat.le_refl _) ((KeepB.of_below hBA).trans hs.keep) hR (.int .i64 a.al) (.slice (some ⟨gT, 0, none⟩) n c1) (.slice (some ⟨g2, 0, none⟩) n c2))
          replace hs := hid hs
          replace hcell := hid hcell
          have hrl' := hid hrl
          clear hbl hown hve hrl
          go_wp2
          refine bodyPost_ret (v := .agg #[.int .i64 a.al, .slice (some ⟨gT, 0, none⟩) n c1, .slice (some ⟨g2, 0, none⟩) n c2]) (by simp [results, Try.results58, go_sem, d0, d1, d2]) rfl ?_
          exact hfin.out

def OvQ (al : Int) (a : Au) : Prop := a.al = al ∧ 1 ≤ a.nx.length ∧ a.nx.length ≤ 12 ∧ a.ac.length = a.nx.length ∧ ∀ r ∈ a.nx, r.length ≤ 6
set_option maxRecDepth 100000 in
set_option maxHeartbeats 4000000 in
theorem l3Over_up (R P : Nat) (al : Int) (w : World) (hP : P + 300000000 ≤ 1125899906842624) (hr : RdUp w R P) :
    Calls Try.prog 46 #[.pointer (some ⟨R, 0, none⟩), .int .i64 al] w (AuUp (OvQ al) R (P + 30000000) w) := by
  have hR := hr.lt
  obtain ⟨wA, hwA, hzA, hBA, -⟩ := boxed w #[.int .i64 0, .slice none 0 0, .slice none 0 0] 26
  have hzAe : wA.heap.size = w.heap.size + 1 := by rw [← hwA]; simp
  have hres : Blk wA w.heap.size 26 #[.int .i64 0, .slice none 0 0, .slice none 0 0] := by rw [← hwA]; exact Blk.new _ _ _
  have hrA := hid (hr.later hBA)
  replace hr := hid hr
  replace hres := hid hres
  have hzAe' := hid hzAe
  clear hzAe
  go_enter Try.func46, Try.ntmps46
  go_wp2_with fail
  refine (pick_up R P 2 wA (by omega) (by omega) hrA.out).mono ?_
  rintro e wp ⟨j, rfl, hj0, hj1, hrp, hkp⟩
  clear hwA hj1
  replace hrp := hid hrp
  replace hkp := hid hkp
  by_cases hj : j = 0
  · subst hj
    go_wp2_with fail
    refine (num_lit R (P + 1) [3, 2, 4, 1] wp _ (by decide) (by decide) (by omega) hrp.out).mono ?_
    rintro e w1 ⟨x, hx, rfl, hr1, hk1⟩
    obtain ⟨n, rfl, hn1, hn⟩ : ∃ n : Nat, x = (n : Int) ∧ 1 ≤ n ∧ n ≤ 12 := by
      simp at hx
      exact ⟨x.toNat, by omega, by omega, by omega⟩
    replace hr1 := hid hr1
    replace hk1 := hid hk1
    clear hx
    go_wp2_with fail
    refine (l3Safe_up R (P + 1 + 1) n al w1 (by omega) hn1 (by omega) hr1.out).mono ?_
    rintro e w2 ⟨a, v1, v2, xs, rfl, hq, ho, hr2, hk2⟩
    obtain ⟨A1, c1, e1, -, -⟩ := own_slice ho.rows.own
    obtain ⟨A2, c2, e2, -, -⟩ := own_slice ho.acc
    subst e1 e2
    have hkk := (hkp.out.trans hk1.out).trans hk2
    have hbl := hres.out.keep hkk (by omega)
    have d0 := hbl.cell 0
    have d1 := hbl.cell 1
    have d2 := hbl.cell 2
    have f0 := hbl.frozen 0
    have f1 := hbl.frozen 1
    have f2 := hbl.frozen 2
    simp only [List.getElem?_toArray, List.getElem?_cons_zero, List.getElem?_cons_succ] at d0 d1 d2
    have hltb := hbl.lt
    obtain ⟨q1, q2, q3, q4⟩ := hq
    have hz1 : wA.heap.size ≤ w1.heap.size := (hkp.out.trans hk1.out).size
    have hfin := hid (AuUp.ret (w := w) (Q := OvQ al) (P' := P + 30000000) (a := a) ⟨q1, by omega, by omega, by omega, q4⟩ (ho.base (show w.heap.size + 1 ≤ w1.heap.size by have := hzAe'.out; omega)) hr2 (by omega) ((KeepB.of_below hBA).trans hkk) hR (.int .i64 a.al) (.slice A1 xs.length c1) (.slice A2 a.ac.length c2))
    clear hbl ho hr2 hk2 hkk q1 q2 q3 q4
    go_wp2
    refine bodyPost_ret (v := .agg #[.int .i64 a.al, .slice A1 xs.length c1, .slice A2 a.ac.length c2]) (by simp [results, Try.results46, go_sem, d0, d1, d2]) rfl ?_
    exact hfin.out
  · have hjb : ((j : Int) == 0) = false := by simp; omega
    replace hj := hid hj
    go_wp2_with fail
    refine (num_lit R (P + 1) [2, 3, 1, 4, 5] wp _ (by decide) (by decide) (by omega) hrp.out).mono ?_
    rintro e w1 ⟨x, hx, rfl, hr1, hk1⟩
    obtain ⟨n, rfl, hn1, hn⟩ : ∃ n : Nat, x = (n : Int) ∧ 1 ≤ n ∧ n ≤ 12 := by
      simp at hx
      exact ⟨x.toNat, by omega, by omega, by omega⟩
    replace hr1 := hid hr1
    replace hk1 := hid hk1
    clear hx
    go_wp2_with fail
    refine (l3Random_up R (P + 1 + 1) al (n : Nat) w1 (by omega) (by omega) hr1.out).mono ?_
    rintro e w2 ⟨a, v1, v2, xs, rfl, hq, ho, hr2, hk2⟩
    rw [Int.toNat_natCast] at hq
    obtain ⟨A1, c1, e1, -, -⟩ := own_slice ho.rows.own
    obtain ⟨A2, c2, e2, -, -⟩ := own_slice ho.acc
    subst e1 e2
    have hkk := (hkp.out.trans hk1.out).trans hk2
    have hbl := hres.out.keep hkk (by omega)
    have d0 := hbl.cell 0
    have d1 := hbl.cell 1
    have d2 := hbl.cell 2
    have f0 := hbl.frozen 0
    have f1 := hbl.frozen 1
    have f2 := hbl.frozen 2
    simp only [List.getElem?_toArray, List.getElem?_cons_zero, List.getElem?_cons_succ] at d0 d1 d2
    have hltb := hbl.lt
    obtain ⟨q1, q2, q3, q4⟩ := hq
    have hz1 : wA.heap.size ≤ w1.heap.size := (hkp.out.trans hk1.out).size
    have hfin := hid (AuUp.ret (w := w) (Q := OvQ al) (P' := P + 30000000) (a := a) ⟨q1, by omega, by omega, by omega, q4⟩ (ho.base (show w.heap.size + 1 ≤ w1.heap.size by have := hzAe'.out; omega)) hr2 (by omega) ((KeepB.of_below hBA).trans hkk) hR (.int .i64 a.al) (.slice A1 xs.length c1) (.slice A2 a.ac.length c2))
    clear hbl ho hr2 hk2 hkk q1 q2 q3 q4
    go_wp2
    refine bodyPost_ret (v := .agg #[.int .i64 a.al, .slice A1 xs.length c1, .slice A2 a.ac.length c2]) (by simp [results, Try.results46, go_sem, d0, d1, d2]) rfl ?_
    exact hfin.out

end Go.Proofs.Ytdkjnemakkppfaa

/- The drawing kit: l4Change. -/
namespace Go.Proofs.Ytdkjnemakkppfaa
open Go.RowKit Go.BigFrame AG

theorem AuUp2.ret {Q : Au → Prop} {w wA w1 : World} {R P P' : Nat} {a : Au} {v1 v2 : Value} {xs : List RowV} (hq : Q a) (ho : AuOwn w1 wA.heap.size v1 v2 a xs) (hz : wA.heap.size = w.heap.size + 2) (hr : RdUp w1 R P) (hP : P ≤ P') (hk : KeepB (fun b => b = R) w w1) (hR : R < w.heap.size) (u1 u2 u3 : Value) :
    AuUp Q R P' w (.returned (.agg #[.int .i64 a.al, v1, v2])) (((w1.setCell ⟨w.heap.size + 1, 0, none⟩ u1).setCell ⟨w.heap.size + 1, 1, none⟩ u2).setCell ⟨w.heap.size + 1, 2, none⟩ u3) := by
  have hk2 : KeepB (fun b => b = w.heap.size + 1) w1 (((w1.setCell ⟨w.heap.size + 1, 0, none⟩ u1).setCell ⟨w.heap.size + 1, 1, none⟩ u2).setCell ⟨w.heap.size + 1, 2, none⟩ u3) := (((KeepB.refl _ w1).setCell _ _ (by simp)).setCell _ _ (by simp)).setCell _ _ (by simp)
  exact ⟨a, v1, v2, xs, rfl, hq, (ho.keepNew hk2 (fun b e => by omega)).base (by omega), (hr.more hP).keep hk2 (by omega), ((hk.setCell _ _ (fun h => by simp at h; omega)).setCell _ _ (fun h => by simp at h; omega)).setCell _ _ (fun h => by simp at h; omega)⟩
/-- A table's row and what is left and right of it. -/
theorem row_split {xs : List RowV} {k : Nat} (h : k < xs.length) : ∃ (l1 l2 : List RowV) (r : List Int) (Ax : Option Addr) (cx : Nat), xs = l1 ++ ⟨r, Ax, cx⟩ :: l2 ∧ l1.length = k := by
  refine ⟨xs.take k, xs.drop (k + 1), xs[k].r, xs[k].A, xs[k].c, ?_, by rw [List.length_take]; omega⟩
  have : xs = xs.take k ++ xs[k] :: xs.drop (k + 1) := by rw [← List.drop_eq_getElem_cons h, List.take_append_drop]
  exact this
theorem szSame {a : Au} {N n m : Nat} (hn : Hid (n = a.nx.length)) (hm : Hid (m = a.ac.length)) (s1 : n ≤ N) (s2 : m ≤ N) (s3 : ∀ r ∈ a.nx, r.length ≤ N) : AuSz (N + 1) a :=
  ⟨by have := hn.out; omega, by have := hm.out; omega, fun r hr => by have := s3 r hr; omega⟩
theorem szSet {a : Au} {N n m k : Nat} {t : Bool} (hn : Hid (n = a.nx.length)) (hm : Hid (m = a.ac.length)) (s1 : n ≤ N) (s2 : m ≤ N) (s3 : ∀ r ∈ a.nx, r.length ≤ N) : AuSz (N + 1) ⟨a.al, a.nx, a.ac.set k t⟩ :=
  ⟨by have := hn.out; show a.nx.length ≤ _; omega, by have := hm.out; show (a.ac.set k t).length ≤ _; rw [List.length_set]; omega, fun r hr => by have := s3 r hr; omega⟩
theorem szRow {a : Au} {N M : Nat} {l1 l2 : List RowV} {x x' : RowV} (h : Hid ((l1 ++ x :: l2).map (·.r) = a.nx)) (s1 : M ≤ N) (s2 : a.ac.length ≤ N + 1 ∨ True) (s3 : ∀ r ∈ a.nx, r.length ≤ N) (h1 : a.nx.length ≤ N + 1) (h2 : a.ac.length ≤ N + 1) (hl : x'.r.length = x.r.length) : AuSz (N + 1) ⟨a.al, (l1 ++ x' :: l2).map (·.r), a.ac⟩ := by
  have e := h.out
  refine ⟨?_, h2, fun r hr => ?_⟩
  · have : a.nx.length = l1.length + (l2.length + 1) := by rw [← e]; simp
    show ((l1 ++ x' :: l2).map (·.r)).length ≤ N + 1
    simp
    omega
  · obtain ⟨y, hy, rfl⟩ := List.mem_map.1 hr
    have key : ∀ z ∈ l1 ++ x :: l2, z.r.length ≤ N := fun z hz => s3 _ (by rw [← e]; exact List.mem_map_of_mem hz)
    rcases List.mem_append.1 hy with hy | hy
    · have := key y (List.mem_append_left _ hy); omega
    · rcases List.mem_cons.1 hy with rfl | hy
      · have := key x (by simp); omega
      · have := key y (List.mem_append_right _ (List.mem_cons_of_mem _ hy)); omega
theorem row_at_ {l1 l2 : List RowV} {x : RowV} {k : Nat} (h : l1.length = k) : (rowVals (l1 ++ x :: l2))[k]? = some x.v := by
  unfold rowVals
  rw [List.map_append, List.getElem?_append_right (by rw [List.length_map, h]; exact Nat.le_refl _), List.length_map, h, Nat.sub_self]
  rfl

set_option maxRecDepth 100000 in
set_option maxHeartbeats 16000000 in
theorem l4Change_up (R P N : Nat) (a : Au) (A B : Option Addr) (c d : Nat) (w : World) (hP : P + 400000000 ≤ 1125899906842624) (hN : N ≤ 100000) (hsz : AuSz N a) (hr : RdUp w R P) (ha : AuAt w A c B d a) :
    Calls Try.prog 22 #[.pointer (some ⟨R, 0, none⟩), a.val A c B d] w (AuUp (AuSz (N + 1)) R (P + 4000000) w) := by
  obtain ⟨i0, hi, hz0, hz1, hz2⟩ := info_parts infoInt
  obtain ⟨j0, hj, jz0, jz1, jz2⟩ := info_parts infoRows
  obtain ⟨b0, hb, bz0, bz1, bz2⟩ := info_parts infoBools
  have hR := hr.lt
  obtain ⟨wA, hwA, hz00, hBA, hS, -⟩ := boxed2 w #[Value.int IntKind.i64 a.al, Value.slice A a.nx.length c, Value.slice B a.ac.length d] 26 #[Value.int IntKind.i64 0, Value.slice none 0 0, Value.slice none 0 0] 26
  have hres : Hid (Blk wA (w.heap.size + 1) 26 #[Value.int IntKind.i64 0, Value.slice none 0 0, Value.slice none 0 0]) := hid (by
    rw [← hwA]
    have := Blk.new (w.alloc (.cells #[Value.int IntKind.i64 a.al, Value.slice A a.nx.length c, Value.slice B a.ac.length d] 26)) 26 #[Value.int IntKind.i64 0, Value.slice none 0 0, Value.slice none 0 0]
    simpa using this)
  have hzAe : Hid (wA.heap.size = w.heap.size + 2) := hid (by rw [← hwA]; simp)
  have hK : ∀ b, b = R → b < wA.heap.size := fun b e => by have := hzAe.out; omega
  have haA := hid (ha.later hBA)
  have hrA := hid (hr.later hBA)
  have p0 := hS 0 _ rfl _ (Below.refl _ _)
  have p1 := hS 1 _ rfl _ (Below.refl _ _)
  have p2 := hS 2 _ rfl _ (Below.refl _ _)
  replace ha := hid ha
  replace hr := hid hr
  obtain ⟨s1, s2, s3⟩ := hsz
  unfold AG.Au.val
  go_enter Try.func22, Try.ntmps22
  go_wp2_with fail
  refine (l3Copy_any a A B c d wA ⟨by omega, by omega, fun r hr => by have := s3 r hr; omega⟩ haA.out).mono ?_
  rintro e w1 ⟨v1, v2, xs, rfl, ho, hb1⟩
  have hst := AuSt.of (K := fun b => b = R) ho (KeepB.of_below hb1)
  have hr1 := (hrA.out.later hb1).later ((Below.refl _ w1).alloc (Nat.le_refl _) (.cells #[.int .i64 a.al, v1, v2] 26))
  obtain ⟨A1, c1, e1, -, -⟩ := own_slice hst.own.rows.own
  obtain ⟨A2, c2, e2, -, -⟩ := own_slice hst.own.acc
  subst e1 e2
  clear p0 p1 p2 hwA ho
  obtain ⟨n, hnx⟩ : ∃ n, Hid (n = a.nx.length) := ⟨_, hid rfl⟩
  have hxl := hst.len
  rw [hxl, ← hnx.out] at hst hr1 ⊢
  obtain ⟨m, hac⟩ : ∃ m, Hid (m = a.ac.length) := ⟨_, hid rfl⟩
  rw [← hac.out] at hst hr1 s2 ⊢
  rw [← hnx.out] at s1 hxl
  have hxl' := hid hxl
  clear hxl
  obtain ⟨gs, hgs⟩ : ∃ gs, Hid (gs = w1.heap.size) := ⟨_, hid rfl⟩
  obtain ⟨w2, hw2⟩ : ∃ w2, Hid (w1.alloc (.cells #[.int .i64 a.al, .slice A1 n c1, .slice A2 m c2] 26) = w2) := ⟨_, hid rfl⟩
  rw [hw2.out] at hst hr1
  rw [← hgs.out] at hst
  replace hst := hid hst
  replace hr1 := hid hr1
  go_upto_region 2 with fail
  rw [hw2.out, ← hgs.out]
  clear hw2 hgs
  have k1 := hst.out.blk.cell 1
  simp only [List.getElem?_toArray, List.getElem?_cons_zero, List.getElem?_cons_succ] at k1
  by_cases hn0 : n = 0
  · have hn0' := hid hn0
    subst hn0
    have hs := hst
    have hrd := hr1
    clear k1
    have k0 := hs.out.blk.cell 0
    have k1 := hs.out.blk.cell 1
    have k2 := hs.out.blk.cell 2
    have hbl := hid (hres.out.keep hs.out.keep (by have := hzAe.out; omega))
    have d0 := hbl.out.cell 0
    have d1 := hbl.out.cell 1
    have d2 := hbl.out.cell 2
    have f0 := hbl.out.frozen 0
    have f1 := hbl.out.frozen 1
    have f2 := hbl.out.frozen 2
    have hltb := hbl.out.lt
    simp only [List.getElem?_toArray, List.getElem?_cons_zero, List.getElem?_cons_succ] at d0 d1 d2 k0 k1 k2
    have hfin := hid (AuUp2.ret (w := w) (Q := AuSz (N + 1)) (P' := P + 4000000) (a := a) (szSame hnx hac s1 s2 s3) hs.out.own hzAe.out hrd.out (by omega) ((KeepB.of_below hBA).trans hs.out.keep) hR (.int .i64 (a).al) (.slice A1 0 c1) (.slice A2 m c2))
    go_wp2
    refine bodyPost_ret (v := .agg #[.int .i64 (a).al, .slice A1 0 c1, .slice A2 m c2]) (by simp [results, Try.results22, go_sem, d0, d1, d2]) rfl ?_
    exact hfin.out
  have hnb : ((n : Int) == 0) = false := by simp; omega
  go_wp2_with fail
  refine (pick_up R P (n : Nat) w2 (by omega) (by omega) hr1.out).mono ?_
  rintro e w3 ⟨k, rfl, hk0, hk1, hr3, hk3⟩
  obtain ⟨kn, rfl⟩ := Int.eq_ofNat_of_zero_le hk0
  have hkn : kn < n := by omega
  have hs3 := hid (hst.out.keepK hK hk3)
  replace hr3 := hid hr3
  clear hk0 hk1 hk3 k1
  go_wp2_with fail
  refine (pick_up R (P + 1) 4 w3 (by omega) (by omega) hr3.out).mono ?_
  rintro e w4 ⟨j, rfl, hj0, hj1, hr4, hk4⟩
  have hs := hid (hs3.out.keepK hK hk4)
  have hrd := hid hr4
  clear hr4 hk4 hs3
  have kx : (0 : Int) ≤ (kn : Int) ∧ (kn : Int) < (n : Int) := by omega
  have k1 := hs.out.blk.cell 1
  have k2 := hs.out.blk.cell 2
  simp only [List.getElem?_toArray, List.getElem?_cons_zero, List.getElem?_cons_succ] at k1 k2
  have hgsl := hs.out.blk.lt
  by_cases hj0c : j = 0
  · subst hj0c
    by_cases hmk : kn < m
    · have hmki : (kn : Int) < (m : Int) := by omega
      obtain ⟨g2, cap, hve, hg1, hg2, -, -, hcell⟩ := own_shape hs.out.own.acc (by have := hac.out; omega)
      have e2 : A2 = some ⟨g2, 0, none⟩ := by injection hve
      subst e2
      obtain ⟨t, c0⟩ : ∃ t, w4.cell? ⟨g2, kn, none⟩ = some (.bool t) := ⟨_, hcell kn _ (show (boolVals a.ac)[kn]? = some (.bool (a.ac[kn]'(by have := hac.out; omega))) from by unfold boolVals; rw [List.getElem?_map, List.getElem?_eq_getElem (by have := hac.out; omega)]; rfl)⟩
      replace hcell := hid hcell
      have q1 := GK.BI.cell k2
      have q2 := GK.BI.cell c0
      clear hve
      go_upto_region 9 with fail
      clear k1 k2
      refine GK.wp_region 10 [10] 200 (KeepB fun _ => False) (GK.BI w4) (fun _ _ _ => True) (by kernel_rfl) (by kernel_rfl) (GK.BI.way w4) (by decide) (Below.refl _ _).drew ?_
      simp only [List.take_succ_cons, List.take_zero]
      (repeat (refine GK.grow_quiet w4 (by rfl) (by rfl) ?_; intro K hK; go_big_quiet_op; go_big_quiet_on))
      refine GK.grow_nil ?_
      intro w5 hw5 hf
      simp only [List.filterMap_cons, List.filterMap_nil, List.getElem?_cons_zero, List.getElem?_cons_succ]
      clear hf q1 q2
      replace hw5 : Below w4.heap.size w4 w5 := hw5
      have c5 : w5.cell? ⟨g2, kn, none⟩ = some (.bool t) := by rw [hw5.cell (World.block_lt_of_cell? _ _ c0)]; exact c0
      have hs5 := hs.out.later hw5
      have fz : w5.frozen? ⟨g2, kn, none⟩ = false := own_frozen hs5.own.acc rfl kn
      have hset : Hid (AuSt (fun b => b = R) wA (w5.setCell ⟨g2, kn, none⟩ (.bool !t)) gs (.slice A1 n c1) (.slice (some ⟨g2, 0, none⟩) m c2) ⟨a.al, a.nx, a.ac.set kn !t⟩ xs) := hid (by
        have h1 := AuSt.setAc (g := g2) (c := c2) (i := kn) (a := a) (by rw [← hac.out]; exact hs5) (!t)
        rw [← hac.out] at h1
        exact h1)
      have hrd5 := hid ((hrd.out.later hw5).keep ((KeepB.refl (fun b => wA.heap.size ≤ b) w5).setCell ⟨g2, kn, none⟩ (.bool !t) fun _ => hg1) fun k hk => by have := hzAe.out; omega)
      obtain ⟨w6, hw6⟩ : ∃ w6, Hid (w5.setCell ⟨g2, kn, none⟩ (.bool !t) = w6) := ⟨_, hid rfl⟩
      rw [hw6.out] at hset hrd5
      replace hs5 := hid hs5
      clear c0
      go_upto_region 18 with fail
      rw [hw6.out]
      have k0 := hset.out.blk.cell 0
      have k1 := hset.out.blk.cell 1
      have k2 := hset.out.blk.cell 2
      have hbl := hid (hres.out.keep hset.out.keep (by have := hzAe.out; omega))
      have d0 := hbl.out.cell 0
      have d1 := hbl.out.cell 1
      have d2 := hbl.out.cell 2
      have f0 := hbl.out.frozen 0
      have f1 := hbl.out.frozen 1
      have f2 := hbl.out.frozen 2
      have hltb := hbl.out.lt
      simp only [List.getElem?_toArray, List.getElem?_cons_zero, List.getElem?_cons_succ] at d0 d1 d2 k0 k1 k2
      have hfin := hid (AuUp2.ret (w := w) (Q := AuSz (N + 1)) (P' := P + 4000000) (a := (⟨a.al, a.nx, a.ac.set kn !t⟩ : Au)) (szSet hnx hac s1 s2 s3) hset.out.own hzAe.out hrd5.out (by omega) ((KeepB.of_below hBA).trans hset.out.keep) hR (.int .i64 ((⟨a.al, a.nx, a.ac.set kn !t⟩ : Au)).al) (.slice A1 n c1) (.slice (some ⟨g2, 0, none⟩) m c2))
      go_wp2
      refine bodyPost_ret (v := .agg #[.int .i64 ((⟨a.al, a.nx, a.ac.set kn !t⟩ : Au)).al, .slice A1 n c1, .slice (some ⟨g2, 0, none⟩) m c2]) (by simp [results, Try.results22, go_sem, d0, d1, d2]) rfl ?_
      exact hfin.out
    · have hmki : ¬ ((kn : Int) < (m : Int)) := by omega
      go_upto_region 18 with fail
      clear k1 k2
      have k0 := hs.out.blk.cell 0
      have k1 := hs.out.blk.cell 1
      have k2 := hs.out.blk.cell 2
      have hbl := hid (hres.out.keep hs.out.keep (by have := hzAe.out; omega))
      have d0 := hbl.out.cell 0
      have d1 := hbl.out.cell 1
      have d2 := hbl.out.cell 2
      have f0 := hbl.out.frozen 0
      have f1 := hbl.out.frozen 1
      have f2 := hbl.out.frozen 2
      have hltb := hbl.out.lt
      simp only [List.getElem?_toArray, List.getElem?_cons_zero, List.getElem?_cons_succ] at d0 d1 d2 k0 k1 k2
      have hfin := hid (AuUp2.ret (w := w) (Q := AuSz (N + 1)) (P' := P + 4000000) (a := a) (szSame hnx hac s1 s2 s3) hs.out.own hzAe.out hrd.out (by omega) ((KeepB.of_below hBA).trans hs.out.keep) hR (.int .i64 (a).al) (.slice A1 n c1) (.slice A2 m c2))
      go_wp2
      refine bodyPost_ret (v := .agg #[.int .i64 (a).al, .slice A1 n c1, .slice A2 m c2]) (by simp [results, Try.results22, go_sem, d0, d1, d2]) rfl ?_
      exact hfin.out
  have hjb0 : ((j : Int) == 0) = false := by simpa using hj0c
  replace hj0c := hid hj0c
  have hnn : n = xs.length := by rw [hxl'.out]
  obtain ⟨l1, l2, r, Ax, cx, hsplit, hl1n⟩ := row_split (xs := xs) (k := kn) (by omega)
  subst hsplit
  have heq := hs.out.own.eq
  have hrN : r.length ≤ N := s3 r (by rw [← heq, List.map_append, List.map_cons]; exact List.mem_append_right _ List.mem_cons_self)
  replace heq := hid heq
  obtain ⟨gT, capT, hveT, -, -, -, -, hcellT⟩ := own_shape hs.out.own.rows.own (by omega)
  have eT : A1 = some ⟨gT, 0, none⟩ := by injection hveT
  subst eT
  have t0 : w4.cell? ⟨gT, kn, none⟩ = some (.slice Ax r.length cx) := hcellT kn _ (row_at_ hl1n)
  have hrow := hs.out.own.rows.rows ⟨r, Ax, cx⟩ (by simp)
  obtain ⟨Ax', cx', ex, hrcx, hrcx'⟩ := own_slice hrow
  have hrc : r.length ≤ cx ∧ cx ≤ 9223372036854775807 := by unfold RowV.v at ex; injection ex with e1 e2 e3; subst e3; exact ⟨hrcx, hrcx'⟩
  replace hnn := hid hnn
  replace hrow := hid hrow
  replace hl1n := hid hl1n
  replace hcellT := hid hcellT
  clear hveT ex hrcx hrcx'
  by_cases hj1c : j = 1
  · subst hj1c
    by_cases hr0 : r.length = 0
    · have hr0i : ¬ ((0 : Int) < (r.length : Int)) := by omega
      replace hr0 := hid hr0
      go_upto_region 18 with fail
      clear k1 k2
      have k0 := hs.out.blk.cell 0
      have k1 := hs.out.blk.cell 1
      have k2 := hs.out.blk.cell 2
      have hbl := hid (hres.out.keep hs.out.keep (by have := hzAe.out; omega))
      have d0 := hbl.out.cell 0
      have d1 := hbl.out.cell 1
      have d2 := hbl.out.cell 2
      have f0 := hbl.out.frozen 0
      have f1 := hbl.out.frozen 1
      have f2 := hbl.out.frozen 2
      have hltb := hbl.out.lt
      simp only [List.getElem?_toArray, List.getElem?_cons_zero, List.getElem?_cons_succ] at d0 d1 d2 k0 k1 k2
      have hfin := hid (AuUp2.ret (w := w) (Q := AuSz (N + 1)) (P' := P + 4000000) (a := a) (szSame hnx hac s1 s2 s3) hs.out.own hzAe.out hrd.out (by omega) ((KeepB.of_below hBA).trans hs.out.keep) hR (.int .i64 (a).al) (.slice (some ⟨gT, 0, none⟩) n c1) (.slice A2 m c2))
      go_wp2
      refine bodyPost_ret (v := .agg #[.int .i64 (a).al, .slice (some ⟨gT, 0, none⟩) n c1, .slice A2 m c2]) (by simp [results, Try.results22, go_sem, d0, d1, d2]) rfl ?_
      exact hfin.out
    · have hr0i : (0 : Int) < (r.length : Int) := by omega
      obtain ⟨gr, capr, hver, hgr1, hgr2, -, -, -⟩ := own_shape hrow.out (by show 0 < r.length; omega)
      have e2 : Ax = some ⟨gr, 0, none⟩ := by injection hver
      subst e2
      have hgRn : gs ≠ R := by have := hs.out.ge; have := hzAe.out; omega
      have hgTR : gT ≠ R := by have := (hs.out.own.rows.own.lt gT rfl).1; have := hzAe.out; omega
      have q1 := RI.cell hrd.out k1 hgRn
      have q2 := RI.cell hrd.out t0 hgTR
      clear hver
      go_upto_region 12 with fail
      clear k1 k2 t0
      refine GK.wp_region 16 [16, 17] 200 (KeepB fun b => b = R) (RI w4 R (P + 1 + 1)) (fun i u _ => ∃ x : Int, u = .int .i64 x ∧ (i = 12 → 0 ≤ x ∧ x < (r.length : Int))) (by kernel_rfl) (by kernel_rfl) (RI.way w4 R _) (by decide) (RI.drew hrd.out) ?_
      simp only [List.take_succ_cons, List.take_zero]
      (repeat (refine GK.grow_quiet w4 (by rfl) (by rfl) ?_; intro K hK; go_big_quiet_op; go_big_quiet_on))
      refine GK.grow_call (by rfl) (fun u w w' _ h => h) (fun m wq hm hbq hf => ?_) ?_
      · go_simp
        exact ⟨rfl, (pick_up R (P + 1 + 1 + m * 10000) (r.length : Nat) wq (by omega) (by omega) hbq.2).mono fun e w' ⟨x, h2, h5, h6, h3, h4⟩ => ⟨_, h2, RI.call hbq h4 h3 (by omega), x, rfl, h5, by omega⟩⟩
      rintro u ⟨_, _, _, x, rfl, hx⟩
      obtain ⟨hx0, hx1⟩ := hx rfl
      obtain ⟨xn, rfl⟩ := Int.eq_ofNat_of_zero_le hx0
      clear hx
      simp only [Act.put, List.setIfInBounds_toArray, List.set_cons_zero, List.set_cons_succ]
      (repeat (refine GK.grow_quiet w4 (by rfl) (by rfl) ?_; intro K hK; go_big_quiet_op; go_big_quiet_on))
      refine GK.grow_call (by rfl) (fun u w w' _ h => h) (fun m wq hm hbq hf => ?_) ?_
      · go_simp
        exact ⟨rfl, (pick_up R (P + 1 + 1 + m * 10000) (n : Nat) wq (by omega) (by omega) hbq.2).mono fun e w' ⟨x, h2, h5, h6, h3, h4⟩ => ⟨_, h2, RI.call hbq h4 h3 (by omega), x, rfl⟩⟩
      rintro u ⟨_, _, _, y, rfl, -⟩
      simp only [Act.put, List.setIfInBounds_toArray, List.set_cons_zero, List.set_cons_succ]
      (repeat (refine GK.grow_quiet w4 (by rfl) (by rfl) ?_; intro K hK; go_big_quiet_op; go_big_quiet_on))
      refine GK.grow_nil ?_
      intro w5 hw5 hf
      simp only [List.filterMap_cons, List.filterMap_nil, List.getElem?_cons_zero, List.getElem?_cons_succ]
      clear hf q1 q2
      have hs5 := hs.out.keepK hK hw5.1
      have hrow5 := hs5.own.rows.rows ⟨r, some ⟨gr, 0, none⟩, cx⟩ (by simp)
      obtain ⟨gr', capr, hver, -, -, -, -, hcellr⟩ := own_shape hrow5 (by show 0 < r.length; omega)
      have e3 : gr' = gr := by injection hver with h; injection h with h; injection h with h; exact h.symm
      subst e3
      obtain ⟨y0, c5⟩ : ∃ y0, w5.cell? ⟨gr', xn, none⟩ = some (.int .i64 y0) := ⟨_, hcellr xn _ (show (intVals r)[xn]? = some (.int .i64 (r[xn]'(by omega))) from by unfold intVals; rw [List.getElem?_map, List.getElem?_eq_getElem (by omega)]; rfl)⟩
      have fz : w5.frozen? ⟨gr', xn, none⟩ = false := own_frozen hrow5 rfl xn
      have hset := hid (hs5.setRow (j := xn) y)
      have hrd6 := hid (hw5.2.keep ((KeepB.refl (fun b => wA.heap.size ≤ b) w5).setCell ⟨gr', xn, none⟩ (.int .i64 y) fun _ => hgr1) fun k hk => by have := hzAe.out; omega)
      obtain ⟨w6, hw6⟩ : ∃ w6, Hid (w5.setCell ⟨gr', xn, none⟩ (.int .i64 y) = w6) := ⟨_, hid rfl⟩
      rw [hw6.out] at hset hrd6
      replace hs5 := hid hs5
      replace hrow5 := hid hrow5
      replace hcellr := hid hcellr
      clear hver
      go_upto_region 18 with fail
      rw [hw6.out]
      have k0 := hset.out.blk.cell 0
      have k1 := hset.out.blk.cell 1
      have k2 := hset.out.blk.cell 2
      have hbl := hid (hres.out.keep hset.out.keep (by have := hzAe.out; omega))
      have d0 := hbl.out.cell 0
      have d1 := hbl.out.cell 1
      have d2 := hbl.out.cell 2
      have f0 := hbl.out.frozen 0
      have f1 := hbl.out.frozen 1
      have f2 := hbl.out.frozen 2
      have hltb := hbl.out.lt
      simp only [List.getElem?_toArray, List.getElem?_cons_zero, List.getElem?_cons_succ] at d0 d1 d2 k0 k1 k2
      have hfin := hid (AuUp2.ret (w := w) (Q := AuSz (N + 1)) (P' := P + 4000000) (a := (⟨a.al, (l1 ++ ⟨r.set xn y, some ⟨gr', 0, none⟩, cx⟩ :: l2).map (·.r), a.ac⟩ : Au)) (szRow heq s1 (.inr trivial) s3 (by have := hnx.out; omega) (by have := hac.out; omega) (by show (r.set xn y).length = r.length; rw [List.length_set])) hset.out.own hzAe.out hrd6.out (by omega) ((KeepB.of_below hBA).trans hset.out.keep) hR (.int .i64 ((⟨a.al, (l1 ++ ⟨r.set xn y, some ⟨gr', 0, none⟩, cx⟩ :: l2).map (·.r), a.ac⟩ : Au)).al) (.slice (some ⟨gT, 0, none⟩) n c1) (.slice A2 m c2))
      go_wp2
      refine bodyPost_ret (v := .agg #[.int .i64 ((⟨a.al, (l1 ++ ⟨r.set xn y, some ⟨gr', 0, none⟩, cx⟩ :: l2).map (·.r), a.ac⟩ : Au)).al, .slice (some ⟨gT, 0, none⟩) n c1, .slice A2 m c2]) (by simp [results, Try.results22, go_sem, d0, d1, d2]) rfl ?_
      exact hfin.out
  have hjb1 : ((j : Int) == 1) = false := by simpa using hj1c
  replace hj1c := hid hj1c
  by_cases hj2c : j = 2
  · subst hj2c
    by_cases hn12 : n < 12
    case neg =>
      have hn12i : ¬ ((n : Int) < 12) := by omega
      go_upto_region 18 with fail
      clear k1 k2
      have k0 := hs.out.blk.cell 0
      have k1 := hs.out.blk.cell 1
      have k2 := hs.out.blk.cell 2
      have hbl := hid (hres.out.keep hs.out.keep (by have := hzAe.out; omega))
      have d0 := hbl.out.cell 0
      have d1 := hbl.out.cell 1
      have d2 := hbl.out.cell 2
      have f0 := hbl.out.frozen 0
      have f1 := hbl.out.frozen 1
      have f2 := hbl.out.frozen 2
      have hltb := hbl.out.lt
      simp only [List.getElem?_toArray, List.getElem?_cons_zero, List.getElem?_cons_succ] at d0 d1 d2 k0 k1 k2
      have hfin := hid (AuUp2.ret (w := w) (Q := AuSz (N + 1)) (P' := P + 4000000) (a := a) (szSame hnx hac s1 s2 s3) hs.out.own hzAe.out hrd.out (by omega) ((KeepB.of_below hBA).trans hs.out.keep) hR (.int .i64 (a).al) (.slice (some ⟨gT, 0, none⟩) n c1) (.slice A2 m c2))
      go_wp2
      refine bodyPost_ret (v := .agg #[.int .i64 (a).al, .slice (some ⟨gT, 0, none⟩) n c1, .slice A2 m c2]) (by simp [results, Try.results22, go_sem, d0, d1, d2]) rfl ?_
      exact hfin.out
    have hn12i : (n : Int) < 12 := by omega
    by_cases hmk : kn < m
    case neg =>
      have hmki : ¬ ((kn : Int) < (m : Int)) := by omega
      go_upto_region 18 with fail
      clear k1 k2
      have k0 := hs.out.blk.cell 0
      have k1 := hs.out.blk.cell 1
      have k2 := hs.out.blk.cell 2
      have hbl := hid (hres.out.keep hs.out.keep (by have := hzAe.out; omega))
      have d0 := hbl.out.cell 0
      have d1 := hbl.out.cell 1
      have d2 := hbl.out.cell 2
      have f0 := hbl.out.frozen 0
      have f1 := hbl.out.frozen 1
      have f2 := hbl.out.frozen 2
      have hltb := hbl.out.lt
      simp only [List.getElem?_toArray, List.getElem?_cons_zero, List.getElem?_cons_succ] at d0 d1 d2 k0 k1 k2
      have hfin := hid (AuUp2.ret (w := w) (Q := AuSz (N + 1)) (P' := P + 4000000) (a := a) (szSame hnx hac s1 s2 s3) hs.out.own hzAe.out hrd.out (by omega) ((KeepB.of_below hBA).trans hs.out.keep) hR (.int .i64 (a).al) (.slice (some ⟨gT, 0, none⟩) n c1) (.slice A2 m c2))
      go_wp2
      refine bodyPost_ret (v := .agg #[.int .i64 (a).al, .slice (some ⟨gT, 0, none⟩) n c1, .slice A2 m c2]) (by simp [results, Try.results22, go_sem, d0, d1, d2]) rfl ?_
      exact hfin.out
    have hmki : (kn : Int) < (m : Int) := by omega
    by_cases hr0 : r.length = 0
    case pos =>
      have hr0i : ¬ ((0 : Int) < (r.length : Int)) := by omega
      replace hr0 := hid hr0
      go_upto_region 18 with fail
      clear k1 k2
      have k0 := hs.out.blk.cell 0
      have k1 := hs.out.blk.cell 1
      have k2 := hs.out.blk.cell 2
      have hbl := hid (hres.out.keep hs.out.keep (by have := hzAe.out; omega))
      have d0 := hbl.out.cell 0
      have d1 := hbl.out.cell 1
      have d2 := hbl.out.cell 2
      have f0 := hbl.out.frozen 0
      have f1 := hbl.out.frozen 1
      have f2 := hbl.out.frozen 2
      have hltb := hbl.out.lt
      simp only [List.getElem?_toArray, List.getElem?_cons_zero, List.getElem?_cons_succ] at d0 d1 d2 k0 k1 k2
      have hfin := hid (AuUp2.ret (w := w) (Q := AuSz (N + 1)) (P' := P + 4000000) (a := a) (szSame hnx hac s1 s2 s3) hs.out.own hzAe.out hrd.out (by omega) ((KeepB.of_below hBA).trans hs.out.keep) hR (.int .i64 (a).al) (.slice (some ⟨gT, 0, none⟩) n c1) (.slice A2 m c2))
      go_wp2
      refine bodyPost_ret (v := .agg #[.int .i64 (a).al, .slice (some ⟨gT, 0, none⟩) n c1, .slice A2 m c2]) (by simp [results, Try.results22, go_sem, d0, d1, d2]) rfl ?_
      exact hfin.out
    have hr0i : (0 : Int) < (r.length : Int) := by omega
    have q0 := GK.BI.cell k1
    have q1 := GK.BI.cell t0
    have h3r := hid (own_ints_at hrow.out).2.2.2
    have hlow : Hid (∀ y ∈ l1 ++ ⟨r, Ax, cx⟩ :: l2, ∀ k, y.v.ownBlock = some k → k < w4.heap.size) := hid fun y hy k e => (hs.out.rowLt hy e).2
    have hw4z := hs.out.keep.size
    go_upto_region 15 with fail
    clear k1 k2 t0
    refine GK.wp_region 10 [10, 11, 12] 200 (KeepB fun _ => False) (GK.BI w4) (fun _ _ _ => True) (by kernel_rfl) (by kernel_rfl) (GK.BI.way w4) (by decide) (Below.refl _ _).drew ?_
    simp only [List.take_succ_cons, List.take_zero]
    (repeat (refine GK.grow_quiet w4 (by rfl) (by rfl) ?_; intro K hK; go_big_quiet_op; go_big_quiet_on))
    refine GK.grow_new (K := fun _ => False) (by rfl) _ (fun b => .slice (some ⟨b, 0, none⟩) 0 0) 3 #[] (fun _ => by go_simp) rfl (fun _ _ o h => GK.BI.alloc o h) (fun _ _ h => GK.BI.size h) (fun _ h => h.elim) (fun b hbb => ?_)
    simp only [Act.put, List.setIfInBounds_toArray, List.set_cons_zero, List.set_cons_succ]
    (repeat (refine GK.grow_quiet w4 (by rfl) (by rfl) ?_; intro K hK; go_big_quiet_op; go_big_quiet_on))
    refine GK.grow_copy (by rfl) _ _ 40 (by rfl) 3 i0 (.int .i64 0) 1 8 Try.underlying40 hi hz0 hz1 hz2 rfl b (by rfl) (fun w hf => ?_) Ax r.length cx (intVals r) (by rfl) (by rw [intVals_len, Nat.mul_one]) (fun hn => h3r.out.news hn) (intVals_one _) (by unfold maxLen; omega) (by omega) fun v hv => ?_
    · obtain ⟨b', e1, e2, e3⟩ := hf _ List.mem_cons_self (by kernel_rfl)
      cases e1
      exact ⟨e2, e3⟩
    obtain ⟨Ar, cr, hve, hcr, hcr'⟩ : ∃ Av cv, v = .slice Av r.length cv ∧ r.length ≤ cv ∧ cv ≤ 9223372036854775807 := by obtain ⟨_, _, hv⟩ := hv; exact own_slice hv
    subst hve
    clear hv
    simp only [Act.put, List.setIfInBounds_toArray, List.set_cons_zero, List.set_cons_succ]
    (repeat (refine GK.grow_quiet w4 (by rfl) (by rfl) ?_; intro K hK; go_big_quiet_op; go_big_quiet_on))
    refine GK.grow_new (K := fun _ => False) (by rfl) _ (fun b => .slice (some ⟨b, 0, none⟩) 1 1) 40 #[.slice Ar r.length cr] (fun _ => by go_simp) rfl (fun _ _ o h => GK.BI.alloc o h) (fun _ _ h => GK.BI.size h) (fun _ h => h.elim) (fun bb hbb2 => ?_)
    simp only [Act.put, List.setIfInBounds_toArray, List.set_cons_zero, List.set_cons_succ]
    refine GK.grow_nil ?_
    intro w5 hw5 hf
    simp only [List.filterMap_cons, List.filterMap_nil, List.getElem?_cons_zero, List.getElem?_cons_succ]
    obtain ⟨bb', e1, -, hblk4⟩ := hf _ List.mem_cons_self
    cases e1
    have hor : w5.ownsRow w4.heap.size 3 1 (.slice Ar r.length cr) r.length (intVals r) := hf _ (List.mem_cons_of_mem _ List.mem_cons_self)
    replace hw5 : Below w4.heap.size w4 w5 := hw5
    clear hf q0 q1
    have hs5 := hs.out.later hw5
    have hown5 := hs5.own.rows.own
    rw [← hnn.out] at hown5
    have hbl5 := hs5.blk
    have ag : (Value.slice (some ⟨gT, 0, none⟩) n c1).ownBlock ≠ some gs := fun e => own_ne hown5 hbl5 (by decide) _ e rfl
    have hbl5' := hbl5.lt
    have k1 := hbl5.cell 1
    have f1 := hbl5.frozen 1
    simp only [List.getElem?_toArray, List.getElem?_cons_zero, List.getElem?_cons_succ] at k1
    have hrd5 := hid (hrd.out.later hw5)
    replace hs5 := hid hs5
    have hz5 := hw5.size
    have hor' := hid hor
    clear hor
    refine wpList_append_own_at _ (by rfl) _ _ 23 (by rfl) wA.heap.size 40 j0 (.slice none 0 0) 1 24 Try.underlying23 hj jz0 jz1 jz2 rfl (by decide) _ n (rowVals (l1 ++ ⟨r, Ax, cx⟩ :: l2)) (by rfl) hown5 ⟨bb, 0, none⟩ 1 1 [.slice Ar r.length cr] (by rfl) (by rfl) (World.news_of_block hblk4) ?c1 ?c3 ?c4 ?c5 ?_
    case c1 => simp [Value.oneCell']
    case c3 => unfold maxLen; omega
    case c4 => omega
    case c5 => have := hs5.out.keep.size; omega
    intro v9 w6 hown9 hgrow hnil9 hat9
    obtain ⟨A8, c8, hv9, -, -⟩ := own_slice hown9
    subst hv9
    have c2'' : w6.cell? ⟨gs, 1, none⟩ = some (.slice (some ⟨gT, 0, none⟩) n c1) := by rw [hgrow.cell_far _ (by simpa using hbl5') (Ne.symm ag)]; exact k1
    have f2'' : w6.frozen? ⟨gs, 1, none⟩ = false := by rw [hgrow.frozen_far _ (by simpa using hbl5') (Ne.symm ag)]; exact f1
    have hs7 := hid (hs5.out.row (v1' := .slice A8 (n + 1) c8) (x := ⟨r, Ar, cr⟩) (own_base (show w5.ownsRow w4.heap.size 3 1 (.slice Ar r.length cr) r.length (intVals r) from hor'.out) hw4z) (fun y hy k e e2 => by have := hlow.out y hy k e; have := (hor'.out.lt k e2).1; omega) hgrow (by rw [← hnn.out]; exact hown9))
    have hk7 : Hid (KeepB (fun b => wA.heap.size ≤ b) w5 (w6.setCell ⟨gs, 1, none⟩ (.slice A8 (n + 1) c8))) := hid (((KeepB.refl _ w5).grown hgrow fun k hk _ => (hs5.out.own.rows.own.lt k hk).1).setCell _ _ fun _ => hs5.out.ge)
    have hrd7 := hid (hrd5.out.keep hk7.out fun k hk => by have := hzAe.out; omega)
    obtain ⟨w7, hw7⟩ : ∃ w7, Hid (w6.setCell ⟨gs, 1, none⟩ (.slice A8 (n + 1) c8) = w7) := ⟨_, hid rfl⟩
    rw [hw7.out] at hs7 hrd7
    clear hown5 hbl5 hown9 hgrow k1 f1
    go_upto_region 16 with fail
    rw [hw7.out]
    clear c2'' f2''
    have k2 := hs7.out.blk.cell 2
    simp only [List.getElem?_toArray, List.getElem?_cons_zero, List.getElem?_cons_succ] at k2
    obtain ⟨g2, cap, hve, hg1, hg2, -, -, hcell⟩ := own_shape hs7.out.own.acc (by have := hac.out; show 0 < a.ac.length; omega)
    have e2 : A2 = some ⟨g2, 0, none⟩ := by injection hve
    subst e2
    obtain ⟨t, c0⟩ : ∃ t, w7.cell? ⟨g2, kn, none⟩ = some (.bool t) := ⟨_, hcell kn _ (show (boolVals a.ac)[kn]? = some (.bool (a.ac[kn]'(by have := hac.out; omega))) from by unfold boolVals; rw [List.getElem?_map, List.getElem?_eq_getElem (by have := hac.out; omega)]; rfl)⟩
    have hgs7 := hs7.out.blk.lt
    replace hcell := hid hcell
    have q1 := GK.BI.cell k2
    have q2 := GK.BI.cell c0
    clear hve k2 c0
    refine GK.wp_region 8 [8, 9, 10] 200 (KeepB fun _ => False) (GK.BI w7) (fun _ _ _ => True) (by kernel_rfl) (by kernel_rfl) (GK.BI.way w7) (by decide) (Below.refl _ _).drew ?_
    simp only [List.take_succ_cons, List.take_zero]
    (repeat (refine GK.grow_quiet w7 (by rfl) (by rfl) ?_; intro K hK; go_big_quiet_op; go_big_quiet_on))
    refine GK.grow_new (K := fun _ => False) (by rfl) _ (fun b => .slice (some ⟨b, 0, none⟩) 1 1) 4 #[.bool t] (fun _ => by go_simp) rfl (fun _ _ o h => GK.BI.alloc o h) (fun _ _ h => GK.BI.size h) (fun _ h => h.elim) (fun b3 hb3 => ?_)
    simp only [Act.put, List.setIfInBounds_toArray, List.set_cons_zero, List.set_cons_succ]
    refine GK.grow_nil ?_
    intro w8 hw8 hf
    obtain ⟨b3', e1, -, hblk8⟩ := hf _ List.mem_cons_self
    cases e1
    clear hf q1 q2
    simp only [List.filterMap_cons, List.filterMap_nil, List.getElem?_cons_zero, List.getElem?_cons_succ]
    replace hw8 : Below w7.heap.size w7 w8 := hw8
    have hs8 := hs7.out.later hw8
    have hown8 : w8.ownsRow wA.heap.size 4 1 (.slice (some ⟨g2, 0, none⟩) m c2) m (boolVals a.ac) := by have h1 := hs8.own.acc; rw [show (⟨a.al, a.nx ++ [r], a.ac⟩ : Au).ac.length = m from hac.out.symm] at h1; exact h1
    have hbl8 := hs8.blk
    have ag2 : (Value.slice (some ⟨g2, 0, none⟩) m c2).ownBlock ≠ some gs := fun e => own_ne hown8 hbl8 (by decide) _ e rfl
    have hbl8' := hbl8.lt
    have k2 := hbl8.cell 2
    have f2 := hbl8.frozen 2
    simp only [List.getElem?_toArray, List.getElem?_cons_zero, List.getElem?_cons_succ] at k2
    have hrd8 := hid (hrd7.out.later hw8)
    replace hs8 := hid hs8
    refine wpList_append_own_at _ (by rfl) _ _ 24 (by rfl) wA.heap.size 4 b0 (.bool false) 1 1 Try.underlying24 hb bz0 bz1 bz2 rfl (by decide) _ m (boolVals a.ac) (by rfl) hown8 ⟨b3, 0, none⟩ 1 1 [.bool t] (by rfl) (by rfl) (World.news_of_block hblk8) ?d1 ?d3 ?d4 ?d5 ?_
    case d1 => simp [Value.oneCell']
    case d3 => unfold maxLen; omega
    case d4 => omega
    case d5 => have := hs8.out.keep.size; omega
    intro v10 w10 hown10 hgrow2 hnil10 hat10
    obtain ⟨A9, c9, hv10, -, -⟩ := own_slice hown10
    subst hv10
    have x2 : w10.cell? ⟨gs, 2, none⟩ = some (.slice (some ⟨g2, 0, none⟩) m c2) := by rw [hgrow2.cell_far _ (by simpa using hbl8') (Ne.symm ag2)]; exact k2
    have y2 : w10.frozen? ⟨gs, 2, none⟩ = false := by rw [hgrow2.frozen_far _ (by simpa using hbl8') (Ne.symm ag2)]; exact f2
    have hs11 := hid (hs8.out.put (t := t) (v2' := .slice A9 (m + 1) c9) hgrow2 (by rw [show (⟨a.al, a.nx ++ [r], a.ac⟩ : Au).ac.length = m from hac.out.symm]; exact hown10))
    have hk11 : Hid (KeepB (fun b => wA.heap.size ≤ b) w8 (w10.setCell ⟨gs, 2, none⟩ (.slice A9 (m + 1) c9))) := hid (((KeepB.refl _ w8).grown hgrow2 fun k hk _ => (hown8.lt k hk).1).setCell _ _ fun _ => hs8.out.ge)
    have hrd11 := hid (hrd8.out.keep hk11.out fun k hk => by have := hzAe.out; omega)
    obtain ⟨w11, hw11⟩ : ∃ w11, Hid (w10.setCell ⟨gs, 2, none⟩ (.slice A9 (m + 1) c9) = w11) := ⟨_, hid rfl⟩
    rw [hw11.out] at hs11 hrd11
    clear hown8 hbl8 hown10 hgrow2 k2 f2
    go_upto_region 17 with fail
    rw [hw11.out]
    clear x2 y2
    have k1 := hs11.out.blk.cell 1
    simp only [List.getElem?_toArray, List.getElem?_cons_zero, List.getElem?_cons_succ] at k1
    rw [show (l1 ++ ⟨r, Ax, cx⟩ :: l2) ++ [⟨r, Ar, cr⟩] = l1 ++ ⟨r, Ax, cx⟩ :: (l2 ++ [⟨r, Ar, cr⟩]) from by rw [List.append_assoc, List.cons_append]] at hs11
    obtain ⟨gU, capU, hveU, -, -, -, -, hcellU⟩ := own_shape hs11.out.own.rows.own (by show 0 < (l1 ++ _ :: _).length; rw [List.length_append, List.length_cons]; omega)
    have eU : A8 = some ⟨gU, 0, none⟩ := by injection hveU
    subst eU
    have t1 : w11.cell? ⟨gU, kn, none⟩ = some (.slice Ax r.length cx) := hcellU kn _ (row_at_ hl1n.out)
    have hrow11 := hs11.out.own.rows.rows ⟨r, Ax, cx⟩ (by simp)
    obtain ⟨gr, capr, hver, hgr1, -, -, -, hcellr⟩ := own_shape hrow11 (by show 0 < r.length; omega)
    have e3 : Ax = some ⟨gr, 0, none⟩ := by injection hver
    subst e3
    obtain ⟨y0, c5⟩ : ∃ y0, w11.cell? ⟨gr, 0, none⟩ = some (.int .i64 y0) := ⟨_, hcellr 0 _ (show (intVals r)[0]? = some (.int .i64 (r[0]'(by omega))) from by unfold intVals; rw [List.getElem?_map, List.getElem?_eq_getElem (by omega)]; rfl)⟩
    have fz : w11.frozen? ⟨gr, 0, none⟩ = false := own_frozen hrow11 rfl 0
    have hset := hid (hs11.out.setRow (j := 0) (n : Int))
    have hrd9 := hid (hrd11.out.keep ((KeepB.refl (fun b => wA.heap.size ≤ b) w11).setCell ⟨gr, 0, none⟩ (.int .i64 (n : Int)) fun _ => hgr1) fun k hk => by have := hzAe.out; omega)
    obtain ⟨w9, hw9⟩ : ∃ w9, Hid (w11.setCell ⟨gr, 0, none⟩ (.int .i64 (n : Int)) = w9) := ⟨_, hid rfl⟩
    rw [hw9.out] at hset hrd9
    obtain ⟨a9, ha9⟩ : ∃ a9, Hid (a9 = (⟨a.al, (l1 ++ (⟨r.set 0 (n : Int), some ⟨gr, 0, none⟩, cx⟩ : RowV) :: (l2 ++ [(⟨r, Ar, cr⟩ : RowV)]) : List RowV).map RowV.r, a.ac ++ [t]⟩ : Au)) := ⟨_, hid rfl⟩
    have hset' : Hid (AuSt (fun b => b = R) wA w9 gs (.slice (some ⟨gU, 0, none⟩) (n + 1) c8) (.slice A9 (m + 1) c9) a9 (l1 ++ ⟨r.set 0 (n : Int), some ⟨gr, 0, none⟩, cx⟩ :: (l2 ++ [⟨r, Ar, cr⟩]))) := hid (by rw [ha9.out]; exact hset.out)
    have hsz9 : AuSz (N + 1) a9 := by
      rw [ha9.out]
      have hnl := hnn.out
      have e := heq.out
      refine ⟨?_, ?_, fun y hy => ?_⟩
      · simp at hnl ⊢; omega
      · show (a.ac ++ [t]).length ≤ _; rw [List.length_append]; have := hac.out; simp; omega
      · obtain ⟨z, hz, rfl⟩ := List.mem_map.1 hy
        have key : ∀ z ∈ l1 ++ ⟨r, some ⟨gr, 0, none⟩, cx⟩ :: l2, z.r.length ≤ N := fun z hz => s3 _ (by rw [← e]; exact List.mem_map_of_mem hz)
        rcases List.mem_append.1 hz with hz | hz
        · have := key z (List.mem_append_left _ hz); omega
        · rcases List.mem_cons.1 hz with rfl | hz
          · show (r.set 0 (n : Int)).length ≤ N + 1; rw [List.length_set]; omega
          · rcases List.mem_append.1 hz with hz | hz
            · have := key z (List.mem_append_right _ (List.mem_cons_of_mem _ hz)); omega
            · rw [List.mem_singleton.1 hz]; show r.length ≤ N + 1; omega
    replace hset := hset'
    replace hs11 := hid hs11
    replace hrow11 := hid hrow11
    replace hcellr := hid hcellr
    replace hcellU := hid hcellU
    clear hset' hver hveU
    go_upto_region 18 with fail
    rw [hw9.out]
    have k0 := hset.out.blk.cell 0
    have k1 := hset.out.blk.cell 1
    have k2 := hset.out.blk.cell 2
    have hbl := hid (hres.out.keep hset.out.keep (by have := hzAe.out; omega))
    have d0 := hbl.out.cell 0
    have d1 := hbl.out.cell 1
    have d2 := hbl.out.cell 2
    have f0 := hbl.out.frozen 0
    have f1 := hbl.out.frozen 1
    have f2 := hbl.out.frozen 2
    have hltb := hbl.out.lt
    simp only [List.getElem?_toArray, List.getElem?_cons_zero, List.getElem?_cons_succ] at d0 d1 d2 k0 k1 k2
    have hfin := hid (AuUp2.ret (w := w) (Q := AuSz (N + 1)) (P' := P + 4000000) (a := a9) hsz9 hset.out.own hzAe.out hrd9.out (by omega) ((KeepB.of_below hBA).trans hset.out.keep) hR (.int .i64 (a9).al) (.slice (some ⟨gU, 0, none⟩) (n + 1) c8) (.slice A9 (m + 1) c9))
    go_wp2
    refine bodyPost_ret (v := .agg #[.int .i64 (a9).al, .slice (some ⟨gU, 0, none⟩) (n + 1) c8, .slice A9 (m + 1) c9]) (by simp [results, Try.results22, go_sem, d0, d1, d2]) rfl ?_
    exact hfin.out
  have hjb2 : ((j : Int) == 2) = false := by simpa using hj2c
  replace hj2c := hid hj2c
  go_upto_region 18 with fail
  clear k1 k2
  have k0 := hs.out.blk.cell 0
  have k1 := hs.out.blk.cell 1
  have k2 := hs.out.blk.cell 2
  have hbl := hid (hres.out.keep hs.out.keep (by have := hzAe.out; omega))
  have d0 := hbl.out.cell 0
  have d1 := hbl.out.cell 1
  have d2 := hbl.out.cell 2
  have f0 := hbl.out.frozen 0
  have f1 := hbl.out.frozen 1
  have f2 := hbl.out.frozen 2
  have hltb := hbl.out.lt
  simp only [List.getElem?_toArray, List.getElem?_cons_zero, List.getElem?_cons_succ] at d0 d1 d2 k0 k1 k2
  have hfin := hid (AuUp2.ret (w := w) (Q := AuSz (N + 1)) (P' := P + 4000000) (a := a) (szSame hnx hac s1 s2 s3) hs.out.own hzAe.out hrd.out (by omega) ((KeepB.of_below hBA).trans hs.out.keep) hR (.int .i64 (a).al) (.slice (some ⟨gT, 0, none⟩) n c1) (.slice A2 m c2))
  go_wp2
  refine bodyPost_ret (v := .agg #[.int .i64 (a).al, .slice (some ⟨gT, 0, none⟩) n c1, .slice A2 m c2]) (by simp [results, Try.results22, go_sem, d0, d1, d2]) rfl ?_
  exact hfin.out

end Go.Proofs.Ytdkjnemakkppfaa
