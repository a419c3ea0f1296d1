/- The drawing kit: l7Wrong, DrawPartsAlphabet. -/
import Derived.Test.YtbomhfbiaedbiaaD12
namespace Go.Proofs.Ytbomhfbiaedbiaa
open Go.RowKit Go.BigFrame AG

def sliceLen : Value → Nat
  | .slice _ n _ => n
  | _ => 0

theorem sysCells_set0 : ∀ (xs : List SyV) (x : SyV), 0 < xs.length → (((sysCells xs).set 0 (.int .i64 x.s.al)).set 1 (.int .i64 x.s.st)).set 2 (.slice x.A x.s.es.length x.c) = sysCells (xs.set 0 x)
  | [], _, h => by simp at h
  | y :: ys, x, _ => rfl

/-- The first system of a list is replaced. -/
theorem LstSt.put {w wr : World} {R P L g c : Nat} {xs : List SyV} {x : SyV} (h : LstSt w wr R P L (.slice (some ⟨g, 0, none⟩) xs.length c) xs) (hR : R < w.heap.size) (hn : 0 < xs.length) (hx : SyIn wr R L (.slice (some ⟨g, 0, none⟩) xs.length c) x) :
    LstSt w (((wr.setCell ⟨g, 0, none⟩ (.int .i64 x.s.al)).setCell ⟨g, 1, none⟩ (.int .i64 x.s.st)).setCell ⟨g, 2, none⟩ (.slice x.A x.s.es.length x.c)) R P L (.slice (some ⟨g, 0, none⟩) xs.length c) (xs.set 0 x) := by
  have hg := World.ownsRow.lt h.own g rfl
  have s1 := (World.ownsRow.stored h.own 0 (.int .i64 x.s.al)).1
  have s2 := (World.ownsRow.stored s1 1 (.int .i64 x.s.st)).1
  have s3 := (World.ownsRow.stored s2 2 (.slice x.A x.s.es.length x.c)).1
  rw [sysCells_set0 xs x hn] at s3
  have hk : KeepB (fun b => b = g) wr (((wr.setCell ⟨g, 0, none⟩ (.int .i64 x.s.al)).setCell ⟨g, 1, none⟩ (.int .i64 x.s.st)).setCell ⟨g, 2, none⟩ (.slice x.A x.s.es.length x.c)) := (((KeepB.refl _ wr).setCell _ _ (by simp)).setCell _ _ (by simp)).setCell _ _ (by simp)
  have hk2 : ∀ b, b = g → b = R ∨ (Value.slice (some ⟨g, 0, none⟩) xs.length c).ownBlock = some b := fun b hb => .inr (by rw [hb]; rfl)
  refine ⟨by rw [List.length_set]; exact s3, fun y hy => ?_, h.rd.keep hk (by omega), ((h.keep.setCell _ _ (by simp; omega)).setCell _ _ (by simp; omega)).setCell _ _ (by simp; omega)⟩
  rcases List.mem_or_eq_of_mem_set hy with hy | rfl
  · exact (h.each y hy).keep hk hk2
  · exact hx.keep hk hk2

set_option maxRecDepth 100000 in
set_option maxHeartbeats 8000000 in
theorem l7Wrong_up (R P : Nat) (v : Value) (xs : List SyV) (wo w : World) (hP : P + 5000000 ≤ 1125899906842624) (hR : R < wo.heap.size) (hn1 : 1 ≤ xs.length) (hn3 : xs.length ≤ 3) (hs : LstSt wo w R P 1536 v xs) :
    Calls Try.prog 13 #[.pointer (some ⟨R, 0, none⟩), v] w (LsUp wo R (P + 2000000) 2000) := by
  obtain ⟨i0, hi, hz0, hz1, hz2⟩ := info_parts infoSy
  obtain ⟨Av, cv, hve, hc1, hc2⟩ := own_slice hs.own
  subst hve
  replace hs := hid hs
  go_enter Try.func13, Try.ntmps13
  go_wp2_with fail
  refine (pick_up R P 20 w (by omega) (by omega) hs.out.rd).mono ?_
  rintro e w1 ⟨j, rfl, hj0, hj1, hr1, hk1⟩
  have h1 := hid (hs.out.call hk1 hr1 hR)
  clear hr1 hk1 hs hj0 hj1
  by_cases hj : j = 0
  · subst hj
    go_wp2_with fail
    go_ret
    have hz := h1.out.keep.size
    exact ⟨_, [], rfl, by simp, ⟨⟨rfl, .inr ⟨w1.heap.size, 0, #[], rfl, hz, heap_alloc_self _ _, Nat.le_refl _, Nat.zero_le _, rfl, rfl⟩⟩, fun x hx => (by cases hx), (h1.out.rd.later ((Below.refl _ _).alloc (Nat.le_refl _) _)).more (by omega), h1.out.keep.alloc _⟩⟩
  · have hjb : ((j : Int) == 0) = false := by simpa using hj
    replace hj := hid hj
    by_cases hj1 : j = 1
    · subst hj1
      go_wp2_with fail
      go_loopw [1] (fun v wr => ∃ (ys : List SyV) (A : Option Addr) (c : Nat), v = .slice A ys.length c ∧ 1 ≤ ys.length ∧ ys.length ≤ 4 ∧ LstSt wo wr R (P + 1 + ys.length * 5000) 1536 v ys) (fun v _ => 4 - sliceLen v)
      case atStart => exact ⟨xs, Av, cv, rfl, by omega, by omega, h1.out.more (by omega) (by omega)⟩
      case round =>
        clear h1
        obtain ⟨ys, A, c, rfl, hy1, hy4, h1⟩ := hrel
        replace h1 := hid h1
        by_cases hlt : ys.length ≤ 3
        · have hlt' : (ys.length : Int) ≤ 3 := by omega
          go_wp2_with fail
          refine (l2Small_up R (P + 1 + ys.length * 5000) wr (by omega) h1.out.rd).mono ?_
          rintro e w2 ⟨s, A2, c2, rfl, a1, a2, a3, a4, a5, a6, a7⟩
          unfold Sy.val
          have h2 := hid (h1.out.call a7 a6 hR)
          have hx2 := hid (SyIn.new h1.out a1 a2 a3 a4 a5 hR)
          clear a4 a5 a6 a7
          have hown := hid h2.out.own
          go_wp2_with (at_builtin; refine wpList_append_own_at _ (by rfl) _ _ 23 (by rfl) wo.heap.size 28 i0 (.agg #[.int .i64 0, .int .i64 0, .slice none 0 0]) 3 40 Try.underlying23 hi hz0 hz1 hz2 rfl (by decide) _ ys.length (sysCells ys) (by rfl) (hown.out.alloc _) ⟨w2.heap.size, 0, none⟩ 1 1 [.int .i64 s.al, .int .i64 s.st, .slice A2 s.es.length c2] (by rfl) (by rfl) (World.news_of_block (heap_alloc_new w2 _)) ?c1 ?c3 ?c4 ?c5 ?_)
          case c1 => simp [Value.oneCell']
          case c3 => unfold maxLen; omega
          case c4 => omega
          case c5 => have := h2.out.keep.size; simp; omega
          intro v9 w9 hown9 hgrow9 hnil9 hat9
          have hL := h2.out.later ((Below.refl _ w2).alloc (Nat.le_refl _) (.cells #[.int .i64 s.al, .int .i64 s.st, .slice A2 s.es.length c2] 28)) hR
          have hX := hx2.out.keep (KeepB.of_below (K := fun b => b = R) ((Below.refl _ w2).alloc (Nat.le_refl _) (.cells #[.int .i64 s.al, .int .i64 s.st, .slice A2 s.es.length c2] 28))) fun _ e => .inl e
          obtain ⟨A9, c9, hv9, -, -⟩ := own_slice hown9
          subst hv9
          have hfin := hid ((hL.add hR hX hown9 hgrow9 (by rw [World.size_alloc]; exact hat9)).more (P' := P + 1 + (ys.length + 1) * 5000) (L' := 1536) (by omega) (by omega))
          clear hown9 hgrow9 hnil9 hat9 hL hX
          have hyl : (ys ++ [(⟨s, A2, c2⟩ : SyV)]).length = ys.length + 1 := by simp
          replace hyl := hid hyl
          go_wp2_with fail
          go_roundw
          case rel => exact ⟨ys ++ [⟨s, A2, c2⟩], A9, c9, by rw [hyl.out], by rw [hyl.out]; omega, by rw [hyl.out]; omega, by rw [hyl.out]; exact hfin.out⟩
          case measure => simp [sliceLen]; omega
        · have hlt' : (3 : Int) < (ys.length : Int) := by omega
          go_wp2_with fail
          go_ret
          exact ⟨_, ys, rfl, by omega, h1.out.more (by omega) (by omega)⟩
    · have hjb1 : ((j : Int) == 1) = false := by simpa using hj1
      replace hj1 := hid hj1
      by_cases hj2 : j = 2
      · subst hj2
        obtain ⟨g, cap, hve, hg1, hg2, -, -, -⟩ := own_shape h1.out.own (by omega)
        cases hve
        obtain ⟨e0, e1, e2⟩ := sysCells_at xs 0 (by omega)
        have r0 := World.ownsRow.cellAt h1.out.own 0 (by omega)
        have r1 := World.ownsRow.cellAt h1.out.own 1 (by omega)
        have r2 := World.ownsRow.cellAt h1.out.own 2 (by omega)
        simp only [Nat.zero_mul, Nat.zero_add] at e0 e1 e2
        rw [e0] at r0
        rw [e1] at r1
        rw [e2] at r2
        have hx0 := h1.out.each xs[0] (List.getElem_mem _)
        obtain ⟨x, hx⟩ : ∃ x, x = xs[0] := ⟨_, rfl⟩
        rw [← hx] at r0 r1 r2 hx0
        obtain ⟨s, A, c⟩ := x
        clear e0 e1 e2 hx
        have i1 : (0 : Int) < (xs.length : Int) := by omega
        have b1 := hx0.le
        have b2 := hx0.top
        have b3 := hx0.len
        have b4 := hid hx0.at_
        simp only at r0 r1 r2 b1 b2 b3 b4
        clear hx0
        go_wp2_with fail
        clear r0 r1 r2
        refine (l2Wrong_up R (P + 1) 1536 s A c w1 (by omega) b1 b2 b3 (by omega) b4.out h1.out.rd).mono ?_
        rintro e w2 ⟨s2, A2, c2, rfl, a1, a2, a3, a4, a5, a6, a7⟩
        have h2 := hid (h1.out.call a7 a6 hR)
        replace a4 := hid a4
        replace a7 := hid a7
        clear a5 a6 b1 b2 b3 b4
        go_wp2_with fail
        refine (l2Wrong_up R (P + 1 + 400000) 1537 s2 A2 c2 w2 (by omega) a1 a2 a3 (by omega) a4.out h2.out.rd).mono ?_
        rintro e w3 ⟨s3, A3, c3, rfl, d1, d2, d3, d4, d5, d6, d7⟩
        have h3 := hid (h2.out.call d7 d6 hR)
        replace d4 := hid d4
        replace d7 := hid d7
        clear d5 d6 a1 a2 a3 a4
        go_wp2_with fail
        refine (l2Wrong_up R (P + 1 + 400000 + 400000) 1538 s3 A3 c3 w3 (by omega) d1 d2 d3 (by omega) d4.out h3.out.rd).mono ?_
        rintro e w4 ⟨s4, A4, c4, rfl, f1, f2, f3, f4, f5, f6, f7⟩
        unfold Sy.val
        have h4 := hid ((h3.out.call f7 f6 hR).more (P' := P + 2000000) (L' := 2000) (by omega) (by omega))
        have hX := hid (SyIn.new (h3.out.more (Nat.le_refl _) (by omega : 1536 ≤ 2000)) f1 f2 (by omega) f4 f5 hR)
        clear f4 f5 f6 d1 d2 d3 d4 h3 h2 h1
        have m0 := World.ownsRow.cellAt h4.out.own 0 (by omega)
        have m1 := World.ownsRow.cellAt h4.out.own 1 (by omega)
        have m2 := World.ownsRow.cellAt h4.out.own 2 (by omega)
        obtain ⟨e0, e1, e2⟩ := sysCells_at xs 0 (by omega)
        simp only [Nat.zero_mul, Nat.zero_add] at e0 e1 e2
        rw [e0] at m0
        rw [e1] at m1
        rw [e2] at m2
        have n0 := World.ownsRow.frozenAt h4.out.own 0
        have n1 := World.ownsRow.frozenAt h4.out.own 1
        have n2 := World.ownsRow.frozenAt h4.out.own 2
        have hfin := hid (h4.out.put hR (by omega) hX.out)
        simp only at hfin
        have hlt4 := (World.ownsRow.lt h4.out.own g rfl).2
        clear e0 e1 e2
        go_wp2_with fail
        go_ret
        exact ⟨_, xs.set 0 ⟨s4, A4, c4⟩, rfl, by simp; omega, hfin.out⟩
      · have hjb2 : ((j : Int) == 2) = false := by simpa using hj2
        replace hj2 := hid hj2
        go_wp2_with fail
        go_ret
        exact ⟨_, xs, rfl, by omega, h1.out.more (by omega) (by omega)⟩

def DrawSys (w : World) (e : Ending) (w' : World) : Prop := ∃ (ss : List Sy) (A : Option Addr) (c : Nat), e = .returned (.slice A ss.length c) ∧ ss.length ≤ c ∧ c ≤ 9223372036854775807 ∧ ss.length ≤ 10 ∧ SysAt w' w'.heap.size A ss ∧ Below w.heap.size w w'

set_option maxHeartbeats 2000000 in
theorem drawPartsAlphabet_any (A : Option Addr) (n c : Nat) (w : World) (hn : n ≤ c) (hc : c ≤ 9223372036854775807) (hx : CodeAt w A n) :
    Calls Try.prog 5 #[.slice A n c] w (DrawSys w) := by
  replace hx := hid hx
  go_enter Try.func5, Try.ntmps5
  go_wp2_with fail
  refine (l19Open_any A n c w hn hc hx.out).mono ?_
  rintro e w1 ⟨R, rfl, hR, hr1, hb1⟩
  replace hr1 := hid hr1
  have hR1 := hr1.out.lt
  go_wp2_with fail
  refine (l7Draw_up R 0 w1 (by omega) hr1.out).mono ?_
  rintro e w2 ⟨v, xs, rfl, h1, h3, hs⟩
  replace hs := hid hs
  go_wp2_with fail
  refine (l7Wrong_up R (0 + 30000) v xs w1 w2 (by omega) hR1 h1 h3 hs.out).mono ?_
  rintro e w3 ⟨v', ys, rfl, hl, hs'⟩
  obtain ⟨A', c', rfl, b1, b2, b3⟩ := hs'.read
  have hk := hs'.keep
  clear hs'
  replace b3 := hid b3
  go_wp2_with fail
  go_ret
  refine ⟨ys.map (·.s), A', c', by simp, by simpa using b1, b2, by simpa using hl, b3.out, ?_⟩
  exact KeepB.below hb1 hk hb1.size (fun k hk => by omega)

set_option maxHeartbeats 1000000 in
theorem drawSharedLetters_any (A : Option Addr) (n c : Nat) (w : World) (hn : n ≤ c) (hc : c ≤ 9223372036854775807) (hx : CodeAt w A n) :
    Calls Try.prog 8 #[.slice A n c] w (DrawSys w) := by
  replace hx := hid hx
  go_enter Try.func8, Try.ntmps8
  go_wp2_with fail
  refine (drawPartsAlphabet_any A n c w hn hc hx.out).mono ?_
  rintro e w1 ⟨ss, A', c', rfl, h1, h2, h3, h4, h5⟩
  replace h4 := hid h4
  go_wp2_with fail
  go_ret
  exact ⟨ss, A', c', rfl, h1, h2, h3, h4.out, h5⟩

end Go.Proofs.Ytbomhfbiaedbiaa
