/- Lemmas, part 13: several texts in one. -/
import Derived.Test.YtolnlkccbndkcaaDoorK12
import Derived.Test.YtolnlkccbndkcaaDoorK8
import Derived.Test.YtolnlkccbndkcaaDoorK6
import Derived.Test.YtolnlkccbndkcaaDoorK3
import Derived.Test.YtolnlkccbndkcaaDoorK4
import Derived.Laws.IdiomStrings
import Derived.Laws.BytesString
import Derived.Maps.AppendAt
import Derived.Test.YtolnlkccbndkcaaDoorK7
import Derived.Test.YtolnlkccbndkcaaDoorK5
import Derived.Deep.Quiet
import Derived.Test.YtolnlkccbndkcaaDoorK9
set_option linter.unusedSimpArgs false
set_option linter.unusedVariables false

/- The drawing kit: l6Pair. -/
namespace Go.Proofs.YtolnlkccbndkcaaDoor
open Go.RowKit Go.BigFrame AG

/-- A system that was drawn since w, whose edges lie in no block of K. -/
structure GotSy (w wr : World) (R L : Nat) (K : Nat → Prop) (s : Sy) (A : Option Addr) (c : Nat) : Prop where
  le : s.es.length ≤ c
  top : c ≤ 9223372036854775807
  len : s.es.length ≤ L
  at_ : EdsAt wr wr.heap.size A s.es
  fresh : FreshA w.heap.size A
  far : 0 < s.es.length → ∀ b o, A = some ⟨b, o, none⟩ → ¬ K b
theorem GotSy.keep {w wr w1 : World} {R L : Nat} {K J : Nat → Prop} {s : Sy} {A : Option Addr} {c : Nat} (h : GotSy w wr R L K s A c) (hk : KeepB J wr w1) (hJ : ∀ b, w.heap.size ≤ b → J b → K b) : GotSy w w1 R L K s A c := by
  refine ⟨h.le, h.top, h.len, fun hn => ?_, h.fresh, h.far⟩
  obtain ⟨b, o, hA, hb, hE⟩ := h.at_ hn
  have h1 := h.fresh b o hA
  have h2 := h.far hn b o hA
  have hnb : ¬ J b := fun e => h2 (hJ b h1 e)
  refine ⟨b, o, hA, Nat.lt_of_lt_of_le hb hk.size, fun i hi => ?_⟩
  rw [KeepB.cell_ hk hb hnb, KeepB.cell_ hk hb hnb, KeepB.cell_ hk hb hnb]
  exact hE i hi
theorem GotSy.call {w wr w1 : World} {R L : Nat} {K : Nat → Prop} {s : Sy} {A : Option Addr} {c : Nat} (h : GotSy w wr R L K s A c) (hk : KeepB (fun b => b = R) wr w1) (hR : R < w.heap.size) : GotSy w w1 R L K s A c := h.keep hk fun b h1 h2 => by omega
theorem GotSy.more {w wr : World} {R L L' : Nat} {K : Nat → Prop} {s : Sy} {A : Option Addr} {c : Nat} (h : GotSy w wr R L K s A c) (hL : L ≤ L') : GotSy w wr R L' K s A c := ⟨h.le, h.top, by have := h.len; omega, h.at_, h.fresh, h.far⟩
/-- What a drawing call gives is apart from all that was there. -/
theorem GotSy.new {w wr w1 : World} {R L : Nat} {K : Nat → Prop} {s : Sy} {A : Option Addr} {c : Nat} (h1 : s.es.length ≤ c) (h2 : c ≤ 9223372036854775807) (h3 : s.es.length ≤ L) (h4 : EdsAt w1 w1.heap.size A s.es) (h5 : FreshA wr.heap.size A) (hw : w.heap.size ≤ wr.heap.size) (hK : ∀ b, K b → b < wr.heap.size) : GotSy w w1 R L K s A c :=
  ⟨h1, h2, h3, h4, fun b o e => by have := h5 b o e; omega, fun _ b o e hk => by have := h5 b o e; have := hK b hk; omega⟩

/-- Two systems in two blocks. -/
structure TwoSt (w wr : World) (R P L b4 b5 : Nat) (s t : Sy) (A B : Option Addr) (c d : Nat) : Prop where
  sb : Blk wr b4 25 #[.int .i64 s.al, .int .i64 s.st, .slice A s.es.length c]
  tb : Blk wr b5 25 #[.int .i64 t.al, .int .i64 t.st, .slice B t.es.length d]
  sg : GotSy w wr R L (fun b => b = b4 ∨ b = b5) s A c
  tg : GotSy w wr R L (fun b => b = b4 ∨ b = b5) t B d
  rd : RdUp wr R P
  keep : KeepB (fun b => b = R) w wr
  l4 : w.heap.size ≤ b4
  l5 : w.heap.size ≤ b5
  ne : b4 ≠ b5
theorem TwoSt.call {w wr w1 : World} {R P P' L b4 b5 : Nat} {s t : Sy} {A B : Option Addr} {c d : Nat} (h : TwoSt w wr R P L b4 b5 s t A B c d) (hk : KeepB (fun b => b = R) wr w1) (hr : RdUp w1 R P') (hR : R < w.heap.size) : TwoSt w w1 R P' L b4 b5 s t A B c d :=
  ⟨h.sb.keep hk (by have := h.l4; omega), h.tb.keep hk (by have := h.l5; omega), h.sg.call hk hR, h.tg.call hk hR, hr, h.keep.trans hk, h.l4, h.l5, h.ne⟩
theorem TwoSt.more {w wr : World} {R P P' L L' b4 b5 : Nat} {s t : Sy} {A B : Option Addr} {c d : Nat} (h : TwoSt w wr R P L b4 b5 s t A B c d) (hP : P ≤ P') (hL : L ≤ L') : TwoSt w wr R P' L' b4 b5 s t A B c d :=
  ⟨h.sb, h.tb, h.sg.more hL, h.tg.more hL, h.rd.more hP, h.keep, h.l4, h.l5, h.ne⟩
theorem TwoSt.setS {w wr : World} {R P L b4 b5 : Nat} {s t s' : Sy} {A B A' : Option Addr} {c d c' : Nat} (h : TwoSt w wr R P L b4 b5 s t A B c d) (hs : GotSy w wr R L (fun b => b = b4 ∨ b = b5) s' A' c') (hR : R < w.heap.size) :
    TwoSt w (((wr.setCell ⟨b4, 0, none⟩ (.int .i64 s'.al)).setCell ⟨b4, 1, none⟩ (.int .i64 s'.st)).setCell ⟨b4, 2, none⟩ (.slice A' s'.es.length c')) R P L b4 b5 s' t A' B c' d := by
  have hk : KeepB (fun b => b = b4) wr (((wr.setCell ⟨b4, 0, none⟩ (.int .i64 s'.al)).setCell ⟨b4, 1, none⟩ (.int .i64 s'.st)).setCell ⟨b4, 2, none⟩ (.slice A' s'.es.length c')) := (((KeepB.refl _ wr).setCell _ _ (by simp)).setCell _ _ (by simp)).setCell _ _ (by simp)
  have h4 := h.l4
  have h5 := h.l5
  have hne := h.ne
  refine ⟨by simpa using ((h.sb.set_ 0 (.int .i64 s'.al)).set_ 1 (.int .i64 s'.st)).set_ 2 (.slice A' s'.es.length c'), h.tb.keep hk (by omega), hs.keep hk (fun b _ e => .inl e), h.tg.keep hk (fun b _ e => .inl e), h.rd.keep hk (by omega), ?_, h4, h5, hne⟩
  exact ((h.keep.setCell _ _ (by simp; omega)).setCell _ _ (by simp; omega)).setCell _ _ (by simp; omega)
theorem TwoSt.setT {w wr : World} {R P L b4 b5 : Nat} {s t t' : Sy} {A B B' : Option Addr} {c d d' : Nat} (h : TwoSt w wr R P L b4 b5 s t A B c d) (ht : GotSy w wr R L (fun b => b = b4 ∨ b = b5) t' B' d') (hR : R < w.heap.size) :
    TwoSt w (((wr.setCell ⟨b5, 0, none⟩ (.int .i64 t'.al)).setCell ⟨b5, 1, none⟩ (.int .i64 t'.st)).setCell ⟨b5, 2, none⟩ (.slice B' t'.es.length d')) R P L b4 b5 s t' A B' c d' := by
  have hk : KeepB (fun b => b = b5) wr (((wr.setCell ⟨b5, 0, none⟩ (.int .i64 t'.al)).setCell ⟨b5, 1, none⟩ (.int .i64 t'.st)).setCell ⟨b5, 2, none⟩ (.slice B' t'.es.length d')) := (((KeepB.refl _ wr).setCell _ _ (by simp)).setCell _ _ (by simp)).setCell _ _ (by simp)
  have h4 := h.l4
  have h5 := h.l5
  have hne := h.ne
  refine ⟨h.sb.keep hk (by omega), by simpa using ((h.tb.set_ 0 (.int .i64 t'.al)).set_ 1 (.int .i64 t'.st)).set_ 2 (.slice B' t'.es.length d'), h.sg.keep hk (fun b _ e => .inr e), ht.keep hk (fun b _ e => .inr e), h.rd.keep hk (by omega), ?_, h4, h5, hne⟩
  exact ((h.keep.setCell _ _ (by simp; omega)).setCell _ _ (by simp; omega)).setCell _ _ (by simp; omega)

/-- A statement at a block's end may be cut around too. -/
theorem cut_here {P : Program} {c : Code} {Q : Exit → Act → World → Prop} {a : Act} {w : World} (h : ∀ K : Act → World → Prop, (∀ a w, Q .normal a w → K a w) → c.wp P (Exit.then K Q) a w) : c.wp P Q a w := by
  refine wp_mono (h (fun a w => Q .normal a w) fun _ _ q => q) ?_
  intro e a' w' hq
  cases e <;> exact hq

theorem EdsAt.take {w : World} {B : Nat} {A : Option Addr} {es : List Ed} (h : EdsAt w B A es) (n : Nat) : EdsAt w B A (es.take n) := fun hn => by
  rw [List.length_take] at hn
  obtain ⟨b, o, h1, h2, h3⟩ := h (by omega)
  refine ⟨b, o, h1, h2, fun i hi => ?_⟩
  have := h3 i (by rw [List.length_take] at hi; omega)
  simpa [List.getElem_take] using this

def PairUp (R P L : Nat) (w : World) (e : Ending) (w' : World) : Prop :=
  ∃ (s t : Sy) (A B : Option Addr) (c d : Nat), e = .returned (.tuple #[s.val A c, t.val B d]) ∧ GotSy w w' R L (fun _ => False) s A c ∧ GotSy w w' R L (fun _ => False) t B d ∧ RdUp w' R P ∧ KeepB (fun b => b = R) w w'

theorem PairUp.drew {R P L : Nat} {w w' : World} {e : Ending} (h : PairUp R P L w e w') : PairUp R P L w e w'.drew := by
  obtain ⟨s, t, A, B, c, d, he, h1, h2, h3, h4⟩ := h
  have hb : Below w'.heap.size w' w'.drew := (Below.refl _ _).drew
  exact ⟨s, t, A, B, c, d, he, h1.keep (KeepB.of_below (K := fun _ => False) hb) (fun _ _ h => h), h2.keep (KeepB.of_below (K := fun _ => False) hb) (fun _ _ h => h), h3.later hb, h4.trans (KeepB.of_below hb)⟩
theorem TwoSt.fin {w w0 wr : World} {R P P' L L' b4 b5 : Nat} {s t : Sy} {A B : Option Addr} {c d : Nat} (h : TwoSt w0 wr R P L b4 b5 s t A B c d) (hb : Below w.heap.size w w0) (hsz : w.heap.size + 2 ≤ w0.heap.size) (hR : R < w.heap.size) (hP : P ≤ P') (hL : L ≤ L') {v1 v2 v3 v4 v5 v6 : Value} :
    PairUp R P' L' w (.returned (.tuple #[.agg #[.int .i64 s.al, .int .i64 s.st, .slice A s.es.length c], .agg #[.int .i64 t.al, .int .i64 t.st, .slice B t.es.length d]]))
      ((((((wr.setCell ⟨w.heap.size, 0, none⟩ v1).setCell ⟨w.heap.size, 1, none⟩ v2).setCell ⟨w.heap.size, 2, none⟩ v3).setCell ⟨w.heap.size + 1, 0, none⟩ v4).setCell ⟨w.heap.size + 1, 1, none⟩ v5).setCell ⟨w.heap.size + 1, 2, none⟩ v6) := by
  have hk : KeepB (fun b => b = w.heap.size ∨ b = w.heap.size + 1) wr ((((((wr.setCell ⟨w.heap.size, 0, none⟩ v1).setCell ⟨w.heap.size, 1, none⟩ v2).setCell ⟨w.heap.size, 2, none⟩ v3).setCell ⟨w.heap.size + 1, 0, none⟩ v4).setCell ⟨w.heap.size + 1, 1, none⟩ v5).setCell ⟨w.heap.size + 1, 2, none⟩ v6) :=
    ((((((KeepB.refl _ wr).setCell _ _ (by simp)).setCell _ _ (by simp)).setCell _ _ (by simp)).setCell _ _ (by simp)).setCell _ _ (by simp)).setCell _ _ (by simp)
  have hg : ∀ {s : Sy} {A : Option Addr} {c : Nat}, GotSy w0 wr R L (fun b => b = b4 ∨ b = b5) s A c → GotSy w ((((((wr.setCell ⟨w.heap.size, 0, none⟩ v1).setCell ⟨w.heap.size, 1, none⟩ v2).setCell ⟨w.heap.size, 2, none⟩ v3).setCell ⟨w.heap.size + 1, 0, none⟩ v4).setCell ⟨w.heap.size + 1, 1, none⟩ v5).setCell ⟨w.heap.size + 1, 2, none⟩ v6) R L' (fun _ => False) s A c := fun {s A c} g => by
    have g2 := g.keep hk fun b h1 h2 => by omega
    exact ⟨g2.le, g2.top, by have := g2.len; omega, g2.at_, fun b o e => by have := g2.fresh b o e; omega, fun _ _ _ _ h => h⟩
  refine ⟨s, t, A, B, c, d, rfl, hg h.sg, hg h.tg, (h.rd.more hP).keep hk (by omega), ?_⟩
  exact ((((((((KeepB.of_below hb).trans h.keep).setCell _ _ (by simp)).setCell _ _ (by simp)).setCell _ _ (by simp)).setCell _ _ (fun hh => by have : w.heap.size + 1 < w.heap.size := hh; omega)).setCell _ _ (fun hh => by have : w.heap.size + 1 < w.heap.size := hh; omega)).setCell _ _ (fun hh => by have : w.heap.size + 1 < w.heap.size := hh; omega))

set_option maxRecDepth 100000 in
set_option maxHeartbeats 16000000 in
theorem l6Pair_up (R P : Nat) (w : World) (hP : P + 50000000 ≤ 1125899906842624) (hr : RdUp w R P) :
    Calls Tryd.prog 60 #[.pointer (some ⟨R, 0, none⟩)] w (PairUp R (P + 20000000) 40000 w) := by
  have hR := hr.lt
  have hres2 := (Blk.new w 25 #[.int .i64 0, .int .i64 0, .slice none 0 0]).alloc (.cells #[.int .i64 0, .int .i64 0, .slice none 0 0] 25)
  have hres3 := Blk.new (w.alloc (.cells #[.int .i64 0, .int .i64 0, .slice none 0 0] 25)) 25 #[.int .i64 0, .int .i64 0, .slice none 0 0]
  have hb0 : Below w.heap.size w ((w.alloc (.cells #[.int .i64 0, .int .i64 0, .slice none 0 0] 25)).alloc (.cells #[.int .i64 0, .int .i64 0, .slice none 0 0] 25)) := ((Below.refl _ _).alloc (Nat.le_refl _) _).alloc (by simp) _
  have hsz0 : ((w.alloc (.cells #[.int .i64 0, .int .i64 0, .slice none 0 0] 25)).alloc (.cells #[.int .i64 0, .int .i64 0, .slice none 0 0] 25)).heap.size = w.heap.size + 2 := by simp
  simp only [World.size_alloc] at hres3
  generalize hw0 : (w.alloc (.cells #[.int .i64 0, .int .i64 0, .slice none 0 0] 25)).alloc (.cells #[.int .i64 0, .int .i64 0, .slice none 0 0] 25) = w0 at hres2 hres3 hb0 hsz0
  have hr0 := hid (hr.later hb0)
  have hR0 : R < w0.heap.size := by omega
  replace hres2 := hid hres2
  replace hres3 := hid hres3
  replace hsz0 := hid hsz0
  clear hr
  go_enter Tryd.func60, Tryd.ntmps60
  go_wp2_with fail
  refine (l2Draw_up R P w0 (by omega) hr0.out).mono ?_
  rintro e w1 ⟨s, A, c, rfl, a1, a2, a3, a4, a5, a6, a7⟩
  unfold Sy.val
  have hz1 := a7.size
  have hba : Below w1.heap.size w1 (w1.alloc (.cells #[.int .i64 s.al, .int .i64 s.st, .slice A s.es.length c] 25)) := (Below.refl _ _).alloc (Nat.le_refl _) _
  have hs1 := hid (a4.later hba)
  have hnb := Blk.new w1 25 #[.int .i64 s.al, .int .i64 s.st, .slice A s.es.length c]
  have hkr1 := hid (a7.trans (KeepB.of_below hba))
  have hrd1 := hid (a6.later hba)
  have hfa := hid a5
  have hfar : Hid (∀ b o, A = some ⟨b, o, none⟩ → 0 < s.es.length → b < w1.heap.size) := hid (fun b o e hn => by obtain ⟨b', o', e', hb', -⟩ := a4 hn; rw [e] at e'; cases e'; exact hb')
  generalize hwa : w1.alloc (.cells #[.int .i64 s.al, .int .i64 s.st, .slice A s.es.length c] 25) = wa at hs1 hnb hkr1 hrd1 hba
  have hza : w1.heap.size < wa.heap.size := hnb.lt
  clear a4 a5 a6 a7 hw0
  have c0 := hnb.cell 0
  have c1 := hnb.cell 1
  have c2 := hnb.cell 2
  simp only [List.getElem?_toArray, List.getElem?_cons_zero, List.getElem?_cons_succ] at c0 c1 c2
  go_wp2_with fail
  refine (l6Change_up R (P + 2000) 1536 s A c wa (by omega) a1 a2 a3 (by omega) hs1.out (fun b o e => by have := hfa.out b o e; omega) hrd1.out).mono ?_
  rintro e w2 ⟨t, B, d, rfl, b1, b2, b3, b4, b5, b6, b7⟩
  unfold Sy.val
  have hz2 := b7.size
  have hbb : Below w2.heap.size w2 (w2.alloc (.cells #[.int .i64 t.al, .int .i64 t.st, .slice B t.es.length d] 25)) := (Below.refl _ _).alloc (Nat.le_refl _) _
  have hT2 : TwoSt w0 (w2.alloc (.cells #[.int .i64 t.al, .int .i64 t.st, .slice B t.es.length d] 25)) R (P + 2000 + 4000000) 3073 w1.heap.size w2.heap.size s t A B c d := by
    refine ⟨(hnb.keep b7 (by omega)).alloc _, Blk.new w2 _ _, ⟨a1, a2, by omega, (EdsAt.keepR hs1.out b7 (fun b o e => by have := hfa.out b o e; omega)).later hbb, hfa.out, fun hn b o e hk => ?_⟩, ⟨b1, b2, b3, b4.later hbb, fun b o e => by have := b5 b o e; omega, fun hn b o e hk => ?_⟩, b6.later hbb, (hkr1.out.trans b7).trans (KeepB.of_below hbb), by omega, by omega, by omega⟩
    · have := hfar.out b o e hn; omega
    · obtain ⟨b', o', e', hb', -⟩ := b4 hn
      rw [e] at e'; cases e'
      have := b5 b o e
      omega
  generalize hwb : w2.alloc (.cells #[.int .i64 t.al, .int .i64 t.st, .slice B t.es.length d] 25) = wb at hT2 hbb
  replace hT2 := hid hT2
  clear b4 b5 b6 b7 hbb hs1 hnb hkr1 hrd1 hfa hfar hwa hba c0 c1 c2
  go_wp2_with fail
  refine (pick_up R (P + 2000 + 4000000) 4 wb (by omega) (by omega) hT2.out.rd).mono ?_
  rintro e w3 ⟨j, rfl, hj0, hj1, hr3, hk3⟩
  have hT3 := hid (hT2.out.call hk3 hr3 hR0)
  clear hr3 hk3 hT2 hwb
  go_upto_if 13 with fail
  refine cut_here fun KC hKC => ?_
  go_cut [] (fun wx => ∃ (t : Sy) (B : Option Addr) (d : Nat), TwoSt w0 wx R (P + 9000000) 7000 w1.heap.size w2.heap.size s t A B c d)
  case first =>
    by_cases h0 : j = 0
    · subst h0
      have c0 := hT3.out.sb.cell 0
      simp only [List.getElem?_toArray, List.getElem?_cons_zero, List.getElem?_cons_succ] at c0
      have hneR : w1.heap.size ≠ R := by omega
      have q0 := RI.cell hT3.out.rd c0 hneR
      go_wp2_with fail
      clear c0
      refine GK.wp_region 9 [9, 10] 200 (KeepB fun b => b = R) (RI w3 R (P + 2000 + 4000000 + 1)) (fun _ u _ => ∃ x : Int, u = .int .i64 x ∧ x ≤ 4) (by kernel_rfl) (by kernel_rfl) (RI.way w3 R _) (by decide) (RI.drew hT3.out.rd) ?_
      simp only [List.take_succ_cons, List.take_zero]
      (repeat (refine GK.grow_quiet w3 (by rfl) (by rfl) ?_; intro K hK; go_big_quiet_op; go_big_quiet_on))
      refine GK.grow_new (K := fun b => b = R) (by rfl) w3.heap.size (fun b => .slice (some ⟨b, 0, none⟩) 4 4) 3 #[.int .i64 2, .int .i64 3, .int .i64 1, .int .i64 4] (fun _ => by go_simp) rfl (fun _ _ o h => RI.alloc o h) (fun _ _ h => RI.size h) (fun k hk => by have := hT3.out.rd.lt; omega) (fun g hg => ?_)
      simp only [Act.put, List.setIfInBounds_toArray, List.set_cons_zero, List.set_cons_succ]
      (repeat (refine GK.grow_quiet w3 (by rfl) (by rfl) ?_; intro K hK; go_big_quiet_op; go_big_quiet_on))
      refine GK.grow_call (by rfl) (fun u w w' _ h => h) (fun m wq hm hbq hf => ?_) ?_
      · obtain ⟨b', z1, z2, z3⟩ := hf _ List.mem_cons_self (by kernel_rfl)
        cases z1
        have hlt4 := hT3.out.rd.lt
        go_simp
        exact ⟨rfl, (num_blk R (P + 2000 + 4000000 + 1 + m * 10000) g [2, 3, 1, 4] wq _ (by decide) (by decide) (by omega) z3 (by omega) hbq.2).mono fun e w' ⟨x, h1, h2, h3, h4⟩ => ⟨_, h2, RI.call hbq h4 h3 (by omega), x, rfl, by simp at h1; omega⟩⟩
      rintro u ⟨_, _, _, x1, rfl, hx1⟩
      simp only [Act.put, List.setIfInBounds_toArray, List.set_cons_zero, List.set_cons_succ]
      (repeat (refine GK.grow_quiet w3 (by rfl) (by rfl) ?_; intro K hK; go_big_quiet_op; go_big_quiet_on))
      refine GK.grow_new (K := fun b => b = R) (by rfl) w3.heap.size (fun b => .slice (some ⟨b, 0, none⟩) 2 2) 3 #[.int .i64 2, .int .i64 3] (fun _ => by go_simp) rfl (fun _ _ o h => RI.alloc o h) (fun _ _ h => RI.size h) (fun k hk => by have := hT3.out.rd.lt; omega) (fun g2 hg2 => ?_)
      simp only [Act.put, List.setIfInBounds_toArray, List.set_cons_zero, List.set_cons_succ]
      (repeat (refine GK.grow_quiet w3 (by rfl) (by rfl) ?_; intro K hK; go_big_quiet_op; go_big_quiet_on))
      refine GK.grow_call (by rfl) (fun u w w' _ h => h) (fun m wq hm hbq hf => ?_) ?_
      · obtain ⟨b', z1, z2, z3⟩ := hf _ List.mem_cons_self (by kernel_rfl)
        cases z1
        have hlt4 := hT3.out.rd.lt
        go_simp
        exact ⟨rfl, (num_blk R (P + 2000 + 4000000 + 1 + m * 10000) g2 [2, 3] wq _ (by decide) (by decide) (by omega) z3 (by omega) hbq.2).mono fun e w' ⟨x, h1, h2, h3, h4⟩ => ⟨_, h2, RI.call hbq h4 h3 (by omega), x, rfl, by simp at h1; omega⟩⟩
      rintro u ⟨_, _, _, x2, rfl, hx2⟩
      simp only [Act.put, List.setIfInBounds_toArray, List.set_cons_zero, List.set_cons_succ]
      refine GK.grow_nil ?_
      intro w4 hw4 _
      simp only [List.filterMap_cons, List.filterMap_nil, List.getElem?_cons_zero, List.getElem?_cons_succ]
      have hT4 := hid (hT3.out.call hw4.1 hw4.2 hR0)
      clear q0 hw4
      go_wp2_with fail
      refine (l2Random_up R _ s.al x1 x2 w4 (by omega) (by omega) (by omega) hT4.out.rd).mono ?_
      rintro e w5 ⟨t', B', d', rfl, a1, a2, a3, a4, a5, a6, a7⟩
      unfold Sy.val
      have hT5 := (hT4.out.call a7 a6 hR0).more (L' := 7000) (Nat.le_refl _) (by omega)
      have h4l := hT4.out.sb.lt
      have h5l := hT4.out.tb.lt
      have hG := GotSy.new (w := w0) (R := R) (L := 7000) (K := fun b => b = w1.heap.size ∨ b = w2.heap.size) a1 a2 (by omega) a4 a5 hT4.out.keep.size (by rintro b (e | e) <;> omega)
      have hT6 := hid ((hT5.setT hG hR0).more (P' := P + 9000000) (L' := 7000) (by omega) (Nat.le_refl _))
      have f0 := hT5.tb.frozen 0
      have f1 := hT5.tb.frozen 1
      have f2 := hT5.tb.frozen 2
      have d0 := hT5.tb.cell 0
      have d1 := hT5.tb.cell 1
      have d2 := hT5.tb.cell 2
      simp only [List.getElem?_toArray, List.getElem?_cons_zero, List.getElem?_cons_succ] at d0 d1 d2
      have h5l5 := hT5.tb.lt
      clear a4 a5 a6 a7 hT5 hG
      go_wp2_with fail
      go_meet
      exact ⟨t', B', d', hT6.out⟩
    · have h0b : ((j : Int) == 0) = false := by simpa using h0
      replace h0 := hid h0
      by_cases h1 : j = 1
      · subst h1
        have d0 := hT3.out.tb.cell 0
        have d1 := hT3.out.tb.cell 1
        have d2 := hT3.out.tb.cell 2
        simp only [List.getElem?_toArray, List.getElem?_cons_zero, List.getElem?_cons_succ] at d0 d1 d2
        go_wp2_with fail
        refine (l6Change_up R (P + 2000 + 4000000 + 1) 3073 t B d w3 (by omega) hT3.out.tg.le hT3.out.tg.top hT3.out.tg.len (by omega) hT3.out.tg.at_ (fun b o e => by have := hT3.out.tg.fresh b o e; omega) hT3.out.rd).mono ?_
        rintro e w5 ⟨t', B', d', rfl, a1, a2, a3, a4, a5, a6, a7⟩
        unfold Sy.val
        clear d0 d1 d2
        have hT5 := (hT3.out.call a7 a6 hR0).more (L' := 7000) (Nat.le_refl _) (by omega)
        have h4l := hT3.out.sb.lt
        have h5l := hT3.out.tb.lt
        have hG := GotSy.new (w := w0) (R := R) (L := 7000) (K := fun b => b = w1.heap.size ∨ b = w2.heap.size) a1 a2 (by omega) a4 a5 hT3.out.keep.size (by rintro b (e | e) <;> omega)
        have hT6 := hid ((hT5.setT hG hR0).more (P' := P + 9000000) (L' := 7000) (by omega) (Nat.le_refl _))
        have f0 := hT5.tb.frozen 0
        have f1 := hT5.tb.frozen 1
        have f2 := hT5.tb.frozen 2
        have d0 := hT5.tb.cell 0
        have d1 := hT5.tb.cell 1
        have d2 := hT5.tb.cell 2
        simp only [List.getElem?_toArray, List.getElem?_cons_zero, List.getElem?_cons_succ] at d0 d1 d2
        have h5l5 := hT5.tb.lt
        clear a4 a5 a6 a7 hT5 hG
        go_wp2_with fail
        go_meet
        exact ⟨t', B', d', hT6.out⟩
      · have h1b : ((j : Int) == 1) = false := by simpa using h1
        replace h1 := hid h1
        go_wp2_with fail
        go_meet
        exact ⟨t, B, d, hT3.out.more (by omega) (by omega)⟩
  case rest =>
    refine hKC _ _ ?_
    clear hT3
    obtain ⟨t, B, d, hT3⟩ := hcut
    replace hT3 := hid hT3
    go_wp2_with fail
    refine (pick_up R (P + 9000000) 24 wc (by omega) (by omega) hT3.out.rd).mono ?_
    rintro e w8 ⟨j2, rfl, hj20, hj21, hr8, hk8⟩
    have hT8 := hid (hT3.out.call hk8 hr8 hR0)
    clear hr8 hk8 hT3
    go_upto_if 32 with fail
    refine cut_here fun KD hKD => ?_
    go_cut [] (fun wx => ∃ (s t : Sy) (A B : Option Addr) (c d : Nat), TwoSt w0 wx R (P + 15000000) 8000 w1.heap.size w2.heap.size s t A B c d)
    case first =>
      by_cases h0 : j2 = 0
      · subst h0
        have d0 := hT8.out.sb.cell 0
        have d1 := hT8.out.sb.cell 1
        have d2 := hT8.out.sb.cell 2
        simp only [List.getElem?_toArray, List.getElem?_cons_zero, List.getElem?_cons_succ] at d0 d1 d2
        go_wp2_with fail
        refine (l2Wrong_up R (P + 9000001) 7000 s A c w8 (by omega) hT8.out.sg.le hT8.out.sg.top hT8.out.sg.len (by omega) hT8.out.sg.at_ hT8.out.rd).mono ?_
        rintro e w9 ⟨s1, A1, c1, rfl, a1, a2, a3, a4, a5, a6, a7⟩
        unfold Sy.val
        clear d0 d1 d2
        have hT9 := hid (hT8.out.call a7 a6 hR0)
        have hE9 := hid a4
        have hr9 := hid a6
        clear a4 a5 a6 a7
        go_wp2_with fail
        refine (l2Wrong_up R (P + 9000001 + 400000) 7001 s1 A1 c1 w9 (by omega) a1 a2 a3 (by omega) hE9.out hr9.out).mono ?_
        rintro e w10 ⟨s2, A2, c2, rfl, e1, e2, e3, e4, e5, e6, e7⟩
        unfold Sy.val
        have hT10 := hid (hT9.out.call e7 e6 hR0)
        have hE10 := hid e4
        have hr10 := hid e6
        clear a1 a2 a3 e4 e5 e6 e7
        go_wp2_with fail
        refine (l2Wrong_up R (P + 9000001 + 400000 + 400000) 7002 s2 A2 c2 w10 (by omega) e1 e2 e3 (by omega) hE10.out hr10.out).mono ?_
        rintro e w11 ⟨s3, A3, c3, rfl, a1, a2, a3, a4, a5, a6, a7⟩
        unfold Sy.val
        clear e1 e2 e3
        have h4l := hT10.out.sb.lt
        have h5l := hT10.out.tb.lt
        have hG := GotSy.new (w := w0) (R := R) (L := 8000) (K := fun b => b = w1.heap.size ∨ b = w2.heap.size) a1 a2 (by omega) a4 a5 hT10.out.keep.size (by rintro b (e | e) <;> omega)
        have hT5 := (hT10.out.call a7 a6 hR0).more (L' := 8000) (Nat.le_refl _) (by omega)
        have hT6 := hid ((hT5.setS hG hR0).more (P' := P + 15000000) (L' := 8000) (by omega) (Nat.le_refl _))
        have f0 := hT5.sb.frozen 0
        have f1 := hT5.sb.frozen 1
        have f2 := hT5.sb.frozen 2
        have d0 := hT5.sb.cell 0
        have d1 := hT5.sb.cell 1
        have d2 := hT5.sb.cell 2
        simp only [List.getElem?_toArray, List.getElem?_cons_zero, List.getElem?_cons_succ] at d0 d1 d2
        have h5l5 := hT5.sb.lt
        clear a4 a5 a6 a7 hT5 hG
        go_wp2_with fail
        go_meet
        exact ⟨_, _, _, _, _, _, hT6.out⟩
      · have h0b : ((j2 : Int) == 0) = false := by simpa using h0
        replace h0 := hid h0
        by_cases h1 : j2 = 1
        · subst h1
          have d0 := hT8.out.tb.cell 0
          have d1 := hT8.out.tb.cell 1
          have d2 := hT8.out.tb.cell 2
          simp only [List.getElem?_toArray, List.getElem?_cons_zero, List.getElem?_cons_succ] at d0 d1 d2
          go_wp2_with fail
          refine (l2Wrong_up R (P + 9000001) 7000 t B d w8 (by omega) hT8.out.tg.le hT8.out.tg.top hT8.out.tg.len (by omega) hT8.out.tg.at_ hT8.out.rd).mono ?_
          rintro e w9 ⟨s1, A1, c1, rfl, a1, a2, a3, a4, a5, a6, a7⟩
          unfold Sy.val
          clear d0 d1 d2
          have hT9 := hid (hT8.out.call a7 a6 hR0)
          have hE9 := hid a4
          have hr9 := hid a6
          clear a4 a5 a6 a7
          go_wp2_with fail
          refine (l2Wrong_up R (P + 9000001 + 400000) 7001 s1 A1 c1 w9 (by omega) a1 a2 a3 (by omega) hE9.out hr9.out).mono ?_
          rintro e w10 ⟨s2, A2, c2, rfl, e1, e2, e3, e4, e5, e6, e7⟩
          unfold Sy.val
          have hT10 := hid (hT9.out.call e7 e6 hR0)
          have hE10 := hid e4
          have hr10 := hid e6
          clear a1 a2 a3 e4 e5 e6 e7
          go_wp2_with fail
          refine (l2Wrong_up R (P + 9000001 + 400000 + 400000) 7002 s2 A2 c2 w10 (by omega) e1 e2 e3 (by omega) hE10.out hr10.out).mono ?_
          rintro e w11 ⟨s3, A3, c3, rfl, a1, a2, a3, a4, a5, a6, a7⟩
          unfold Sy.val
          clear e1 e2 e3
          have h4l := hT10.out.sb.lt
          have h5l := hT10.out.tb.lt
          have hG := GotSy.new (w := w0) (R := R) (L := 8000) (K := fun b => b = w1.heap.size ∨ b = w2.heap.size) a1 a2 (by omega) a4 a5 hT10.out.keep.size (by rintro b (e | e) <;> omega)
          have hT5 := (hT10.out.call a7 a6 hR0).more (L' := 8000) (Nat.le_refl _) (by omega)
          have hT6 := hid ((hT5.setT hG hR0).more (P' := P + 15000000) (L' := 8000) (by omega) (Nat.le_refl _))
          have f0 := hT5.tb.frozen 0
          have f1 := hT5.tb.frozen 1
          have f2 := hT5.tb.frozen 2
          have d0 := hT5.tb.cell 0
          have d1 := hT5.tb.cell 1
          have d2 := hT5.tb.cell 2
          simp only [List.getElem?_toArray, List.getElem?_cons_zero, List.getElem?_cons_succ] at d0 d1 d2
          have h5l5 := hT5.tb.lt
          clear a4 a5 a6 a7 hT5 hG
          go_wp2_with fail
          go_meet
          exact ⟨_, _, _, _, _, _, hT6.out⟩
        · have h1b : ((j2 : Int) == 1) = false := by simpa using h1
          replace h1 := hid h1
          by_cases h2 : j2 = 2
          · subst h2
            go_wp2_with fail
            refine (l2Draw_up R (P + 9000001) w8 (by omega) hT8.out.rd).mono ?_
            rintro e w9 ⟨s1, A1, c1, rfl, a1, a2, a3, a4, a5, a6, a7⟩
            unfold Sy.val
            have h4l := hT8.out.sb.lt
            have h5l := hT8.out.tb.lt
            have hG := GotSy.new (w := w0) (R := R) (L := 8000) (K := fun b => b = w1.heap.size ∨ b = w2.heap.size) a1 a2 (by omega) a4 a5 hT8.out.keep.size (by rintro b (e | e) <;> omega)
            have hT5 := (hT8.out.call a7 a6 hR0).more (L' := 8000) (Nat.le_refl _) (by omega)
            have hT6 := hid ((hT5.setT hG hR0).more (P' := P + 15000000) (L' := 8000) (by omega) (Nat.le_refl _))
            have f0 := hT5.tb.frozen 0
            have f1 := hT5.tb.frozen 1
            have f2 := hT5.tb.frozen 2
            have d0 := hT5.tb.cell 0
            have d1 := hT5.tb.cell 1
            have d2 := hT5.tb.cell 2
            simp only [List.getElem?_toArray, List.getElem?_cons_zero, List.getElem?_cons_succ] at d0 d1 d2
            have h5l5 := hT5.tb.lt
            clear a4 a5 a6 a7 hT5 hG
            go_wp2_with fail
            go_meet
            exact ⟨_, _, _, _, _, _, hT6.out⟩
          · have h2b : ((j2 : Int) == 2) = false := by simpa using h2
            replace h2 := hid h2
            by_cases h3 : j2 = 3
            · subst h3
              go_wp2_with fail
              refine (l2Big_up R (P + 9000001) w8 (by omega) hT8.out.rd).mono ?_
              rintro e w9 ⟨s1, A1, c1, rfl, a1, a2, a3, a4, a5, a6, a7, a8⟩
              unfold Sy.val
              have hn4 := hT8.out.sb.lt
              have hn5 := hT8.out.tb.lt
              have hG := GotSy.new (w := w0) (R := R) (L := 8000) (K := fun b => b = w1.heap.size ∨ b = w2.heap.size) a1 a2 (by omega) a4 a5 hT8.out.keep.size (by rintro b (e | e) <;> omega)
              have hT5 := (hT8.out.call a7 a6 hR0).more (L' := 8000) (Nat.le_refl _) (by omega)
              have hT6 := hT5.setS hG hR0
              have f0 := hT5.sb.frozen 0
              have f1 := hT5.sb.frozen 1
              have f2 := hT5.sb.frozen 2
              have d0 := hT5.sb.cell 0
              have d1 := hT5.sb.cell 1
              have d2 := hT5.sb.cell 2
              simp only [List.getElem?_toArray, List.getElem?_cons_zero, List.getElem?_cons_succ] at d0 d1 d2
              have h5l5 := hT5.sb.lt
              obtain ⟨w10, hw10⟩ : ∃ w10, ((w9.setCell ⟨w1.heap.size, 0, none⟩ (.int .i64 s1.al)).setCell ⟨w1.heap.size, 1, none⟩ (.int .i64 s1.st)).setCell ⟨w1.heap.size, 2, none⟩ (.slice A1 s1.es.length c1) = w10 := ⟨_, rfl⟩
              rw [hw10] at hT6
              replace hT6 := hid hT6
              obtain ⟨n, hn⟩ : ∃ n, Hid (s1.es.length = n + 1) := ⟨s1.es.length - 1, hid (by omega)⟩
              clear a4 a5 a6 a7 hT5 hG
              go_upto_region 17 with fail
              clear d0 d1 d2 f0 f1 f2 hw10
              have c0 := hT6.out.sb.cell 0
              have c1' := hT6.out.sb.cell 1
              have c2 := hT6.out.sb.cell 2
              simp only [List.getElem?_toArray, List.getElem?_cons_zero, List.getElem?_cons_succ] at c0 c1' c2
              have q0 := GK.BI.cell c0
              have q1 := GK.BI.cell c1'
              have q2 := GK.BI.cell c2
              have hnl := hn.out
              have k1 : IntKind.i64.wrap ((s1.es.length : Int) - 1) = (n : Int) := by rw [IntWalk.i64_in _ (by omega)]; omega
              have k2 : (0 : Int) ≤ (n : Int) := by omega
              have k3 : (n : Int) ≤ (c1 : Int) := by omega
              have hlt : (s1.es.take n).length = n := by rw [List.length_take]; omega
              have hEt := hid (EdsAt.take hT6.out.sg.at_ n)
              obtain ⟨i0, hi, hz0, hz1, hz2⟩ := info_parts infoEd
              clear c0 c1' c2
              refine GK.wp_region 13 [13, 14] 200 (KeepB fun _ => False) (GK.BI w10) (fun _ _ _ => True) (by kernel_rfl) (by kernel_rfl) (GK.BI.way w10) (by decide) (Below.refl _ _).drew ?_
              simp only [List.take_succ_cons, List.take_zero]
              (repeat (refine GK.grow_quiet w10 (by rfl) (by rfl) ?_; intro K hK; go_big_quiet_op; go_big_quiet_on))
              refine GK.grow_new (K := fun _ => False) (by rfl) _ (fun b => .slice (some ⟨b, 0, none⟩) 0 0) 81 #[] (fun _ => by go_simp) rfl (fun _ _ o h => GK.BI.alloc o h) (fun _ _ h => GK.BI.size h) (fun _ h => h.elim) (fun b hb => ?_)
              simp only [Act.put, List.setIfInBounds_toArray, List.set_cons_zero, List.set_cons_succ]
              (repeat (refine GK.grow_quiet w10 (by rfl) (by rfl) ?_; intro K hK; go_big_quiet_op; go_big_quiet_on))
              refine GK.grow_copy (by rfl) _ _ 23 (by rfl) 81 i0 (.agg #[.int .i64 0, .int .i64 0, .int .i64 0]) 3 24 Tryd.underlying23 hi hz0 hz1 hz2 rfl b (by rfl) (fun w hf => ?_) A1 n c1 (edCells (s1.es.take n)) (by rfl) (by rw [edCells_len, hlt]) (fun hn => EdsAt.news hEt.out (by rw [hlt]; exact hn)) (edCells_one _) (by unfold maxLen; omega) (by omega) fun v hv => ?_
              · obtain ⟨b', e1, e2, e3⟩ := hf _ List.mem_cons_self (by kernel_rfl)
                cases e1
                exact ⟨e2, e3⟩
              obtain ⟨Av, cv, hve, -, -⟩ : ∃ Av cv, v = .slice Av n cv ∧ n ≤ cv ∧ cv ≤ 9223372036854775807 := by obtain ⟨_, _, hv⟩ := hv; exact own_slice hv
              subst hve
              clear hv
              simp only [Act.put, List.setIfInBounds_toArray, List.set_cons_zero, List.set_cons_succ]
              refine GK.grow_nil ?_
              intro w11 hw11 hf
              simp only [List.filterMap_cons, List.filterMap_nil, List.getElem?_cons_zero, List.getElem?_cons_succ]
              have hown := hf _ List.mem_cons_self
              replace hw11 : Below w10.heap.size w10 w11 := hw11
              clear hf q0 q1 q2
              have hown' : OwnEds w11 w10.heap.size (.slice Av n cv) (s1.es.take n) := by unfold OwnEds; rw [hlt]; exact hown
              obtain ⟨A2, c2, hve, e1, e2, e3, e4⟩ := OwnEds.read hown'
              rw [hlt] at hve e1
              cases hve
              have hT7 := (hT6.out.call (KeepB.of_below hw11) (hT6.out.rd.later hw11) hR0)
              have hlw : w1.heap.size < w10.heap.size ∧ w2.heap.size < w10.heap.size := ⟨hT6.out.sb.lt, hT6.out.tb.lt⟩
              have hG := GotSy.new (w := w0) (R := R) (L := 8000) (K := fun b => b = w1.heap.size ∨ b = w2.heap.size) (s := ⟨s1.al, s1.st, s1.es.take n⟩) (by show (s1.es.take n).length ≤ cv; rw [hlt]; exact e1) e2 (by show (s1.es.take n).length ≤ 8000; omega) e3 e4 hT6.out.keep.size (by rintro b (e | e) <;> omega)
              have hT8 := ((hT7.setT hG hR0).more (P' := P + 15000000) (L' := 8000) (by omega) (Nat.le_refl _))
              simp only [hlt] at hT8
              replace hT8 := hid hT8
              have f0 := hT7.tb.frozen 0
              have f1 := hT7.tb.frozen 1
              have f2 := hT7.tb.frozen 2
              have d0 := hT7.tb.cell 0
              have d1 := hT7.tb.cell 1
              have d2 := hT7.tb.cell 2
              simp only [List.getElem?_toArray, List.getElem?_cons_zero, List.getElem?_cons_succ] at d0 d1 d2
              have h5l5 := hT7.tb.lt
              clear hT7 hG hown hown'
              go_wp2_with fail
              go_meet
              exact ⟨_, _, _, _, _, _, hT8.out⟩
            · have h3b : ((j2 : Int) == 3) = false := by simpa using h3
              replace h3 := hid h3
              go_wp2_with fail
              go_meet
              exact ⟨_, _, _, _, _, _, hT8.out.more (by omega) (by omega)⟩
    case rest =>
      refine hKD _ _ ?_
      clear hT8
      obtain ⟨s, t, A, B, c, d, hT⟩ := hcut
      have hk := hT.keep
      have hb2 := hres2.out.keep hk (by omega)
      have hb3 := hres3.out.keep hk (by omega)
      have c0 := hT.sb.cell 0
      have c1 := hT.sb.cell 1
      have c2 := hT.sb.cell 2
      have d0 := hT.tb.cell 0
      have d1 := hT.tb.cell 1
      have d2 := hT.tb.cell 2
      have r0 := hb2.cell 0
      have r1 := hb2.cell 1
      have r2 := hb2.cell 2
      have r3 := hb3.cell 0
      have r4 := hb3.cell 1
      have r5 := hb3.cell 2
      have f0 := hb2.frozen 0
      have f1 := hb2.frozen 1
      have f2 := hb2.frozen 2
      have f3 := hb3.frozen 0
      have f4 := hb3.frozen 1
      have f5 := hb3.frozen 2
      simp only [List.getElem?_toArray, List.getElem?_cons_zero, List.getElem?_cons_succ] at c0 c1 c2 d0 d1 d2 r0 r1 r2 r3 r4 r5
      have s0 := hsz0.out
      have n1 : w1.heap.size ≠ w.heap.size := by omega
      have n2 : w1.heap.size ≠ w.heap.size + 1 := by omega
      have n3 : w2.heap.size ≠ w.heap.size := by omega
      have n4 : w2.heap.size ≠ w.heap.size + 1 := by omega
      have l1 := hT.sb.lt
      have l2 := hT.tb.lt
      have l3 := hb2.lt
      have l4 := hb3.lt
      have hfin := hid (hT.fin (hb0) (by omega : w.heap.size + 2 ≤ w0.heap.size) hR (P' := P + 20000000) (L' := 40000) (by omega) (by omega) (v1 := .int .i64 s.al) (v2 := .int .i64 s.st) (v3 := .slice A s.es.length c) (v4 := .int .i64 t.al) (v5 := .int .i64 t.st) (v6 := .slice B t.es.length d))
      clear hb2 hb3 hk hT
      go_wp2_with fail
      go_region
      go_wp2
      refine bodyPost_ret (v := .tuple #[.agg #[.int .i64 s.al, .int .i64 s.st, .slice A s.es.length c], .agg #[.int .i64 t.al, .int .i64 t.st, .slice B t.es.length d]]) (by simp [results, Tryd.results60, go_sem, r0, r1, r2, r3, r4, r5]) rfl ?_
      exact hfin.out.drew

end Go.Proofs.YtolnlkccbndkcaaDoor

/- The drawing kit: the pairs of systems that are drawn for FirstTraceOutside, TracesWithin, SameTraces. -/
namespace Go.Proofs.YtolnlkccbndkcaaDoor
open Go.RowKit Go.BigFrame AG

def DrawPair (w : World) (e : Ending) (w' : World) : Prop := ∃ (s t : Sy) (A B : Option Addr) (c d : Nat), e = .returned (.tuple #[s.val A c, t.val B d]) ∧ s.es.length ≤ c ∧ c ≤ 9223372036854775807 ∧ t.es.length ≤ d ∧ d ≤ 9223372036854775807 ∧
  EdsAt w' w'.heap.size A s.es ∧ EdsAt w' w'.heap.size B t.es ∧ Below w.heap.size w w'
theorem DrawPair.of {w w1 wr : World} {R L : Nat} {K J : Nat → Prop} {s t : Sy} {A B : Option Addr} {c d : Nat} (h1 : GotSy w1 wr R L K s A c) (h2 : GotSy w1 wr R L J t B d) (hz : w.heap.size + 2 ≤ w1.heap.size) (hb : Below w.heap.size w wr) (v1 v2 v3 v4 v5 v6 : Value) :
    DrawPair w (.returned (.tuple #[.agg #[.int .i64 s.al, .int .i64 s.st, .slice A s.es.length c], .agg #[.int .i64 t.al, .int .i64 t.st, .slice B t.es.length d]]))
      ((((((wr.setCell ⟨w.heap.size, 0, none⟩ v1).setCell ⟨w.heap.size, 1, none⟩ v2).setCell ⟨w.heap.size, 2, none⟩ v3).setCell ⟨w.heap.size + 1, 0, none⟩ v4).setCell ⟨w.heap.size + 1, 1, none⟩ v5).setCell ⟨w.heap.size + 1, 2, none⟩ v6) := by
  have hk : KeepB (fun b => b = w.heap.size ∨ b = w.heap.size + 1) wr ((((((wr.setCell ⟨w.heap.size, 0, none⟩ v1).setCell ⟨w.heap.size, 1, none⟩ v2).setCell ⟨w.heap.size, 2, none⟩ v3).setCell ⟨w.heap.size + 1, 0, none⟩ v4).setCell ⟨w.heap.size + 1, 1, none⟩ v5).setCell ⟨w.heap.size + 1, 2, none⟩ v6) :=
    ((((((KeepB.refl _ wr).setCell _ _ (by simp)).setCell _ _ (by simp)).setCell _ _ (by simp)).setCell _ _ (by simp)).setCell _ _ (by simp)).setCell _ _ (by simp)
  exact ⟨s, t, A, B, c, d, rfl, h1.le, h1.top, h2.le, h2.top, (h1.keep hk fun b h1 h2 => by omega).at_, (h2.keep hk fun b h1 h2 => by omega).at_, KeepB.below hb hk hb.size (fun k hk => by omega)⟩


set_option maxRecDepth 100000 in
set_option maxHeartbeats 4000000 in
theorem drawTracesWithin_any (A : Option Addr) (n c : Nat) (w : World) (hn : n ≤ c) (hc : c ≤ 9223372036854775807) (hx : CodeAt w A n) :
    Calls Tryd.prog 14 #[.slice A n c] w (DrawPair w) := by
  have hres2 := (Blk.new w 25 #[.int .i64 0, .int .i64 0, .slice none 0 0]).alloc (.cells #[.int .i64 0, .int .i64 0, .slice none 0 0] 25)
  have hres3 := Blk.new (w.alloc (.cells #[.int .i64 0, .int .i64 0, .slice none 0 0] 25)) 25 #[.int .i64 0, .int .i64 0, .slice none 0 0]
  have hb0 : Below w.heap.size w ((w.alloc (.cells #[.int .i64 0, .int .i64 0, .slice none 0 0] 25)).alloc (.cells #[.int .i64 0, .int .i64 0, .slice none 0 0] 25)) := ((Below.refl _ _).alloc (Nat.le_refl _) _).alloc (by simp) _
  have hz0 : ((w.alloc (.cells #[.int .i64 0, .int .i64 0, .slice none 0 0] 25)).alloc (.cells #[.int .i64 0, .int .i64 0, .slice none 0 0] 25)).heap.size = w.heap.size + 2 := by simp
  simp only [World.size_alloc] at hres3
  generalize hw0 : (w.alloc (.cells #[.int .i64 0, .int .i64 0, .slice none 0 0] 25)).alloc (.cells #[.int .i64 0, .int .i64 0, .slice none 0 0] 25) = w0 at hres2 hres3 hb0 hz0
  have hx0 : CodeAt w0 A n := fun h => by
    obtain ⟨b, o, h1, h2, h3⟩ := hx h
    refine ⟨b, o, h1, by omega, fun i hi => ?_⟩
    obtain ⟨y, h4, h5⟩ := h3 i hi
    exact ⟨y, h4, by rw [hb0.cell (by simpa using h2)]; exact h5⟩
  replace hres2 := hid hres2
  replace hres3 := hid hres3
  replace hz0 := hid hz0
  replace hx := hid hx
  replace hx0 := hid hx0
  go_enter Tryd.func14, Tryd.ntmps14
  go_wp2_with fail
  refine (l19Open_any A n c w0 hn hc hx0.out).mono ?_
  rintro e w1 ⟨R, rfl, hR, hr1, hb1⟩
  replace hr1 := hid hr1
  have hz1 := hb1.size
  clear hw0
  go_wp2_with fail
  refine (l6Pair_up R 0 w1 (by omega) hr1.out).mono ?_
  rintro e w2 ⟨s, t, A', B', c', d', rfl, h1, h2, -, h4⟩
  unfold Sy.val
  have hzz := hz0.out
  have hB2 : Below w0.heap.size w0 w2 := KeepB.below hb1 h4 hb1.size (fun k hk => by omega)
  have hfin := hid (DrawPair.of h1 h2 (by omega) (hb0.trans (hB2.mono (by omega))) (.int .i64 s.al) (.int .i64 s.st) (.slice A' s.es.length c') (.int .i64 t.al) (.int .i64 t.st) (.slice B' t.es.length d'))
  have hbl2 := hres2.out.below hB2 (by omega)
  have hbl3 := hres3.out.below hB2 (by omega)
  have d0 := hbl2.cell 0
  have d1 := hbl2.cell 1
  have d2 := hbl2.cell 2
  have e0 := hbl3.cell 0
  have e1 := hbl3.cell 1
  have e2 := hbl3.cell 2
  have f0 := hbl2.frozen 0
  have f1 := hbl2.frozen 1
  have f2 := hbl2.frozen 2
  have g0 := hbl3.frozen 0
  have g1 := hbl3.frozen 1
  have g2 := hbl3.frozen 2
  simp only [List.getElem?_toArray, List.getElem?_cons_zero, List.getElem?_cons_succ] at d0 d1 d2 e0 e1 e2
  have hl2 := hbl2.lt
  have hl3 := hbl3.lt
  clear h1 h2 h4 hbl2 hbl3 hB2 hb1
  go_wp2
  refine bodyPost_ret (v := .tuple #[.agg #[.int .i64 s.al, .int .i64 s.st, .slice A' s.es.length c'], .agg #[.int .i64 t.al, .int .i64 t.st, .slice B' t.es.length d']]) (by simp [results, Tryd.results14, go_sem, d0, d1, d2, e0, e1, e2]) rfl ?_
  exact hfin.out


end Go.Proofs.YtolnlkccbndkcaaDoor

/- Both versions of TracesWithin and SameTraces. -/
namespace Go.Proofs.YtolnlkccbndkcaaDoor
open Go.RowKit Go.BigFrame AG

theorem specFTO_any (s t : Sy) (A B : Option Addr) (c d : Nat) (w : World) (hl : s.es.length ≤ c) (hc : c ≤ 9223372036854775807) (hm : t.es.length ≤ d) (hd : d ≤ 9223372036854775807) (hr : EdsAt w w.heap.size A s.es) (hs : EdsAt w w.heap.size B t.es) :
    Calls Tryd.prog 63 #[s.val A c, t.val B d] w fun e w' => ∃ o, e = .returned (pathV o) ∧ IsOut s t o ∧ Below w.heap.size w w' :=
  (specFirstTraceOutside_any s t A B c d w hl hc hm hd hr hs).mono fun e w' ⟨o, he, hf, hb⟩ => ⟨o, he, by
    unfold IsFirst at hf
    by_cases hC : cmpOk s t = true
    · rw [if_pos hC] at hf
      have hsy : sysOk s = true ∧ sysOk t = true := by
        have := hC
        unfold cmpOk at this
        simp only [Bool.and_eq_true] at this
        exact ⟨this.1, this.2.1⟩
      exact out_of_first (spec_hits (s := s) (t := t)) hC hf
    · rw [if_neg hC] at hf
      unfold IsOut
      rw [if_neg hC]
      exact hf, hb⟩

/-- Every trace of s is one of t. -/
noncomputable def withinB (s t : Sy) : Bool := open Classical in cmpOk s t && decide (∀ q, ¬ AG.Outside s t q)
theorem within_of {s t : Sy} {o : Option (List Nat)} (h : IsOut s t o) : (cmpOk s t && !o.isSome) = withinB s t := by
  unfold IsOut at h
  unfold withinB
  cases hC : cmpOk s t
  · rfl
  · rw [if_pos hC] at h
    cases o with
    | none => simpa using h
    | some r => simp; exact ⟨r, h.1⟩
noncomputable def sameB (s t : Sy) : Bool := withinB s t && withinB t s

set_option maxRecDepth 100000 in
set_option maxHeartbeats 1000000 in
theorem specTracesWithin_any (s t : Sy) (A B : Option Addr) (c d : Nat) (w : World) (hl : s.es.length ≤ c) (hc : c ≤ 9223372036854775807) (hm : t.es.length ≤ d) (hd : d ≤ 9223372036854775807) (hr : EdsAt w w.heap.size A s.es) (hs : EdsAt w w.heap.size B t.es) :
    Calls Tryd.prog 17 #[s.val A c, t.val B d] w fun e w' => e = .returned (.bool (withinB s t)) ∧ Below w.heap.size w w' := by
  unfold Sy.val
  replace hr := hid hr
  replace hs := hid hs
  go_enter Tryd.func17, Tryd.ntmps17
  go_wp2_with fail
  obtain ⟨w0, hw0, hz0, hB0, hS, hU⟩ := boxed2 w #[Value.int IntKind.i64 s.al, Value.int IntKind.i64 s.st, Value.slice A s.es.length c] 25 #[Value.int IntKind.i64 t.al, Value.int IntKind.i64 t.st, Value.slice B t.es.length d] 25
  rw [hw0]
  clear hw0
  have p0 := hS 0 _ rfl _ (Below.refl _ _)
  have p1 := hS 1 _ rfl _ (Below.refl _ _)
  have p2 := hS 2 _ rfl _ (Below.refl _ _)
  have q0 := hU 0 _ rfl _ (Below.refl _ _)
  have q1 := hU 1 _ rfl _ (Below.refl _ _)
  have q2 := hU 2 _ rfl _ (Below.refl _ _)
  have hr0 := hid (hr.out.later hB0)
  have hs0 := hid (hs.out.later hB0)
  go_wp2_with fail
  refine (specFTO_any s t A B c d w0 hl hc hm hd hr0.out hs0.out).mono ?_
  rintro e w1 ⟨o, rfl, ho, hb1⟩
  have b1 := hb1.mono hz0
  clear p0 p1 p2 q0 q1 q2
  have p0 := hS 0 _ rfl _ b1
  have p1 := hS 1 _ rfl _ b1
  have p2 := hS 2 _ rfl _ b1
  have q0 := hU 0 _ rfl _ b1
  have q1 := hU 1 _ rfl _ b1
  have q2 := hU 2 _ rfl _ b1
  have B1 : Below w.heap.size w w1 := hB0.trans (b1.mono (by omega))
  have hr1 := hid (hr.out.later B1)
  have hs1 := hid (hs.out.later B1)
  have hwi := within_of ho
  obtain ⟨Sv, Fv, hpv, hfv⟩ : ∃ Sv Fv, pathV o = .tuple #[.string Sv, .bool Fv] ∧ Fv = o.isSome := ⟨_, _, rfl, rfl⟩
  rw [hpv]
  rw [← hfv] at hwi
  replace hwi := hid hwi
  clear ho hpv hfv
  have z1 := hb1.size
  go_wp2_with fail
  refine (l6Comparable_any s t A B c d w1 hl hc hm hd hr1.out hs1.out).mono ?_
  rintro e w2 ⟨rfl, hb2⟩
  have B2 : Below w.heap.size w w2 := B1.trans (hb2.mono (by omega))
  cases hC : cmpOk s t
  · replace hC := hid hC
    go_wp2_with fail
    go_ret
    exact ⟨ret_bool (by rw [← hwi.out, hC.out]; rfl), B2⟩
  · replace hC := hid hC
    go_wp2_with fail
    go_ret
    exact ⟨ret_bool (by rw [← hwi.out, hC.out]; rfl), B2⟩

set_option maxRecDepth 100000 in
set_option maxHeartbeats 1000000 in
theorem implTracesWithin_any (s t : Sy) (A B : Option Addr) (c d : Nat) (w : World) (hl : s.es.length ≤ c) (hc : c ≤ 9223372036854775807) (hm : t.es.length ≤ d) (hd : d ≤ 9223372036854775807) (hT : Tab w) (hr : EdsAt w w.heap.size A s.es) (hs : EdsAt w w.heap.size B t.es) :
    Calls Tryd.prog 15 #[s.val A c, t.val B d] w fun e w' => e = .returned (.bool (withinB s t)) ∧ Below w.heap.size w w' := by
  unfold Sy.val
  replace hr := hid hr
  replace hs := hid hs
  replace hT := hid hT
  go_enter Tryd.func15, Tryd.ntmps15
  go_wp2_with fail
  obtain ⟨w0, hw0, hz0, hB0, hS, hU⟩ := boxed2 w #[Value.int IntKind.i64 s.al, Value.int IntKind.i64 s.st, Value.slice A s.es.length c] 25 #[Value.int IntKind.i64 t.al, Value.int IntKind.i64 t.st, Value.slice B t.es.length d] 25
  rw [hw0]
  clear hw0
  have p0 := hS 0 _ rfl _ (Below.refl _ _)
  have p1 := hS 1 _ rfl _ (Below.refl _ _)
  have p2 := hS 2 _ rfl _ (Below.refl _ _)
  have q0 := hU 0 _ rfl _ (Below.refl _ _)
  have q1 := hU 1 _ rfl _ (Below.refl _ _)
  have q2 := hU 2 _ rfl _ (Below.refl _ _)
  have hr0 := hid (hr.out.later hB0)
  have hs0 := hid (hs.out.later hB0)
  have hT0 := hid (hT.out.later hB0)
  go_wp2_with fail
  refine (implFirstTraceOutside_any s t A B c d w0 hl hc hm hd hT0.out hr0.out hs0.out).mono ?_
  rintro e w1 ⟨o, rfl, ho, hb1⟩
  have b1 := hb1.mono hz0
  clear p0 p1 p2 q0 q1 q2
  have p0 := hS 0 _ rfl _ b1
  have p1 := hS 1 _ rfl _ b1
  have p2 := hS 2 _ rfl _ b1
  have q0 := hU 0 _ rfl _ b1
  have q1 := hU 1 _ rfl _ b1
  have q2 := hU 2 _ rfl _ b1
  have B1 : Below w.heap.size w w1 := hB0.trans (b1.mono (by omega))
  have hr1 := hid (hr.out.later B1)
  have hs1 := hid (hs.out.later B1)
  have hwi := within_of ho
  obtain ⟨Sv, Fv, hpv, hfv⟩ : ∃ Sv Fv, pathV o = .tuple #[.string Sv, .bool Fv] ∧ Fv = o.isSome := ⟨_, _, rfl, rfl⟩
  rw [hpv]
  rw [← hfv] at hwi
  replace hwi := hid hwi
  clear ho hpv hfv
  have z1 := hb1.size
  go_wp2_with fail
  refine (sameAlphabets_any s t A B c d w1 hl hc hm hd hr1.out hs1.out).mono ?_
  rintro e w2 ⟨rfl, hb2⟩
  have B2 : Below w.heap.size w w2 := B1.trans (hb2.mono (by omega))
  cases hC : cmpOk s t
  · replace hC := hid hC
    go_wp2_with fail
    go_ret
    exact ⟨ret_bool (by rw [← hwi.out, hC.out]; rfl), B2⟩
  · replace hC := hid hC
    go_wp2_with fail
    go_ret
    exact ⟨ret_bool (by rw [← hwi.out, hC.out]; rfl), B2⟩

end Go.Proofs.YtolnlkccbndkcaaDoor

/- Restricted words: the reference's RestrictWord, the program's restrict. -/
namespace Go.Proofs.YtolnlkccbndkcaaDoor
open Go.RowKit Go.BigFrame AG

theorem infoByte8 : (Tryd.prog.info? 5).map (fun i => (i.zero, i.size, i.bytes)) = some (some (.int .u8 0), 1, 1) := by kernel_rfl

def byteVals (l : List UInt8) : List Value := l.map fun b => Value.int .u8 (b.toNat : Int)

/-- string(b) of owned bytes. -/
theorem conv_own {w : World} {B : Nat} {v : Value} {l : List UInt8} (h : w.ownsRow B 5 1 v l.length (byteVals l)) : (convert 22 9 v).run Tryd.prog w = .ok (.string ⟨l.toArray⟩) w := by
  by_cases h0 : 0 < l.length
  · obtain ⟨g, cap, rfl, h1, h2, h3, h4, h5⟩ := own_shape h h0
    refine run_convert_bytes_back (P := Tryd.prog) w 22 9 5 ⟨g, 0, none⟩ cap l Tryd.underlying22 Tryd.underlying5 Tryd.underlying9 (fun j hj => ?_)
    have := h5 j (.int .u8 (l[j].toNat : Int)) (by unfold byteVals; simp [List.getElem?_eq_getElem hj])
    rw [show ((⟨g, 0, none⟩ : Addr).add j) = ⟨g, j, none⟩ from by unfold Addr.add; split <;> simp_all]
    exact this
  · obtain ⟨A, c, rfl, -, -⟩ := own_slice h
    obtain rfl : l = [] := List.length_eq_zero_iff.1 (by omega)
    rw [show ([] : List UInt8).length = 0 from rfl, run_convert_bytes_string w 22 9 5 A 0 c Tryd.underlying22 Tryd.underlying5 Tryd.underlying9]
    cases A <;> simp [Conv.bytesToString, loadCells]
    all_goals rfl

/-- A byte is appended. -/
theorem bytes_next {w wr w1 : World} {l : List UInt8} {b : UInt8} {n : Int} {v v' : Value} {c : Array Value} {t : TypeId} (hn : n = (b.toNat : Int)) (hB : w.heap.size ≤ wr.heap.size) (hown : wr.ownsRow w.heap.size 5 1 v l.length (byteVals l)) (hb : Below w.heap.size w wr)
    (hown' : w1.ownsRow w.heap.size 5 1 v' (l.length + 1) (byteVals l ++ [.int .u8 n])) (hgrow : (wr.alloc (.cells c t)).grownBy w1 v.ownBlock) :
    w1.ownsRow w.heap.size 5 1 v' (l ++ [b]).length (byteVals (l ++ [b])) ∧ Below w.heap.size w w1 := by
  subst hn
  refine ⟨?_, Below.grown (hb.alloc hB _) hgrow (by simp; omega) (own_block hown)⟩
  unfold byteVals at hown' ⊢
  rw [List.length_append, List.map_append]
  exact hown'

theorem keptTo_hit {s : ByteArray} {al : Int} {k : Nat} (h : HasZ al (ltr s k) = true) : keptTo s al (k + 1) = keptTo s al k ++ [s.data.getD k 0] := by rw [keptTo, if_pos h]
theorem keptTo_miss {s : ByteArray} {al : Int} {k : Nat} (h : HasZ al (ltr s k) = false) : keptTo s al (k + 1) = keptTo s al k := by rw [keptTo, if_neg (by rw [h]; simp)]
theorem byte_val (s : ByteArray) (k : Nat) : lz s k + 97 = ((s.data.getD k 0).toNat : Int) := by unfold lz; omega

end Go.Proofs.YtolnlkccbndkcaaDoor

/- The states behind a word: both StatesAfter and HasTrace. -/
namespace Go.Proofs.YtolnlkccbndkcaaDoor
open Go.RowKit Go.BigFrame AG

set_option maxRecDepth 100000 in
set_option maxHeartbeats 1000000 in
theorem implStatesAfter_any (s : Sy) (A : Option Addr) (c : Nat) (x : ByteArray) (w : World) (hz : x.size ≤ 9223372036854775807) (hl : s.es.length ≤ c) (hc : c ≤ 9223372036854775807) (hT : Tab w) (hr : EdsAt w w.heap.size A s.es) :
    Calls Tryd.prog 43 #[s.val A c, .string x] w fun e w' => e = .returned (.int .i64 (aft s x : Nat)) ∧ Below w.heap.size w w' := by
  unfold Sy.val
  replace hr := hid hr
  replace hT := hid hT
  cases hok : sysOk s
  · have hfin : Hid (aft s x = 0) := hid (by unfold aft; rw [hok]; rfl)
    replace hok := hid hok
    go_enter Tryd.func43, Tryd.ntmps43
    go_wp2_with fail
    obtain ⟨w0, hw0, hz0, hB0, hS0, hS1, hS2⟩ := boxed3 w (Value.int IntKind.i64 s.al) (Value.int IntKind.i64 s.st) (Value.slice A s.es.length c) 25
    rw [hw0]
    clear hw0
    have hr0 := hid ((hr.out.keep hB0).more (show w.heap.size ≤ w0.heap.size by omega))
    refine (implSystemValid_any s A c w0 hl hc hr0.out).mono ?_
    rintro e w1 ⟨rfl, hb1⟩
    rw [hok.out]
    have hB1 : Below w.heap.size w w1 := hB0.trans (hb1.mono (by omega))
    have hb1' := hb1.mono hz0
    go_wp2
    go_ret
    exact ⟨ret_int (by rw [hfin.out]; rfl), hB1⟩
  · cases hwi : within x s.al
    all_goals
      have hok2 := hid hok
      have hwi2 := hid hwi
      replace hok := hid hok
      replace hwi := hid hwi
      go_enter Tryd.func43, Tryd.ntmps43
      go_wp2_with fail
      obtain ⟨w0, hw0, hz0, hB0, hS0, hS1, hS2⟩ := boxed3 w (Value.int IntKind.i64 s.al) (Value.int IntKind.i64 s.st) (Value.slice A s.es.length c) 25
      rw [hw0]
      clear hw0
      have hr0 := hid ((hr.out.keep hB0).more (show w.heap.size ≤ w0.heap.size by omega))
      refine (implSystemValid_any s A c w0 hl hc hr0.out).mono ?_
      rintro e w1 ⟨rfl, hb1⟩
      rw [hok.out]
      have hB1 : Below w.heap.size w w1 := hB0.trans (hb1.mono (by omega))
      have hb1' := hb1.mono hz0
      have hr1 := hid (hr0.out.later hb1)
      have q0 := hS0 _ hb1'
      have q1 := hS1 _ hb1'
      have q2 := hS2 _ hb1'
    · have hfin : Hid (aft s x = 0) := hid (by unfold aft; rw [hok2.out, hwi2.out]; rfl)
      go_wp2_with (go_at_call 109; refine (implWordWithin_any x s.al _ hz).mono ?_; rintro e w' ⟨rfl, rfl⟩; rw [hwi.out])
      go_ret
      exact ⟨ret_int (by rw [hfin.out]; rfl), hB1⟩
    · have hfin : Hid (aft s x = runTo s x x.size) := hid (by unfold aft; rw [hok2.out, hwi2.out]; rfl)
      have h5 := within_size hwi2.out
      go_wp2_with (first
        | (go_at_call 109; refine (implWordWithin_any x s.al _ hz).mono ?_; rintro e w' ⟨rfl, rfl⟩; rw [hwi.out])
        | (go_at_call 68; refine (movesOf_any s A c _ (sysOk_in hok2.out) hl hc hr1.out).mono ?_; rintro e w2 ⟨g, rfl, hg, hb2⟩))
      have hB2 : Below w.heap.size w w2 := hB1.trans (hb2.mono hB1.size)
      have hT2 := hid (hT.out.later hB2)
      replace hg := hid hg
      go_loopw [6, 7] (fun st i wr => ∃ (T k : Nat), st = .int .i64 T ∧ i = .int .i64 k ∧ k ≤ x.size ∧ T = runTo s x k ∧ Below w2.heap.size w2 wr) (fun _ i _ => x.size - (intOf i).toNat)
      case atStart => exact ⟨1, 0, rfl, rfl, by omega, rfl, Below.refl _ _⟩
      case round =>
        obtain ⟨T, k, rfl, rfl, hk, hT', hb⟩ := hrel
        have hTl : T < 65536 := by rw [hT']; exact runTo_lt s x k
        replace hT' := hid hT'
        have hB3 : Below w.heap.size w wr := hB2.trans (hb.mono hB2.size)
        by_cases hlt : k < x.size
        · by_cases hT0 : T = 0
          · have hd : ((T : Int) != 0) = false := by subst hT0; rfl
            have hfin2 := hid (runTo_done (s := s) (w := x) (k := k) (by rw [← hT'.out]; exact hT0) hk)
            replace hT0 := hid hT0
            go_wp2
            go_ret
            exact ⟨ret_int (by rw [hfin.out, hfin2.out, hT0.out]), hB3⟩
          · have hd : ((T : Int) != 0) = true := by simpa using hT0
            replace hT0 := hid hT0
            have hlr := wordOk_at (within_word hwi2.out) hlt
            have hle := ltr_ok hlr
            obtain ⟨l, hll⟩ := Int.eq_ofNat_of_zero_le hlr.1
            have hl6 : l < 6 := by omega
            have hnx : Hid (unionOf (mv s) T l = runTo s x (k + 1)) := hid (by rw [runTo, unionOf_mv s (sysOk_in hok2.out), ← hll, hT'.out])
            have hle2 : Hid (ltr x k = (l : Int)) := hid (by rw [hle, hll])
            have hgr := hid (hg.out.later hb)
            have hTr := hid (hT2.out.later hb)
            have hzr := hb.size
            replace hll := hid hll
            replace hle := hid hle
            go_wp2_with (first
              | (go_at_call 110; refine (letterAt_any x k _ hlt).mono ?_; rintro e w' ⟨rfl, rfl⟩; rw [hle2.out])
              | (go_at_call 70; refine (step_any (mv s) g T l _ hl6 (fun q => mv_lt s q l) hTl hTr.out hgr.out).mono ?_; rintro e w3 ⟨rfl, hb3⟩))
            have hb4 := hb.trans (hb3.mono hzr)
            go_roundw
            case rel => exact ⟨_, k + 1, rfl, by go_num, by omega, hnx.out, hb4⟩
            case measure => simp [intOf]; omega
        · obtain rfl : k = x.size := by omega
          go_wp2
          go_ret
          exact ⟨ret_int (by rw [hfin.out, hT'.out]), hB3⟩

set_option maxRecDepth 100000 in
set_option maxHeartbeats 1000000 in
theorem implHasTrace_any (s : Sy) (A : Option Addr) (c : Nat) (x : ByteArray) (w : World) (hz : x.size ≤ 9223372036854775807) (hl : s.es.length ≤ c) (hc : c ≤ 9223372036854775807) (hT : Tab w) (hr : EdsAt w w.heap.size A s.es) :
    Calls Tryd.prog 36 #[s.val A c, .string x] w fun e w' => e = .returned (.bool (hasTr s x)) ∧ Below w.heap.size w w' := by
  unfold Sy.val
  replace hr := hid hr
  replace hT := hid hT
  have hfin : Hid (hasTr s x = ((aft s x : Int) != 0)) := hid (by unfold hasTr; rw [Bool.eq_iff_iff]; simp)
  go_enter Tryd.func36, Tryd.ntmps36
  go_wp2_with fail
  obtain ⟨w0, hw0, hz0, hB0, hS0, hS1, hS2⟩ := boxed3 w (Value.int IntKind.i64 s.al) (Value.int IntKind.i64 s.st) (Value.slice A s.es.length c) 25
  rw [hw0]
  clear hw0
  have hr0 := hid ((hr.out.keep hB0).more (show w.heap.size ≤ w0.heap.size by omega))
  have hT0 := hid (hT.out.later hB0)
  refine (implStatesAfter_any s A c x w0 hz hl hc hT0.out hr0.out).mono ?_
  rintro e w1 ⟨rfl, hb1⟩
  have hB1 : Below w.heap.size w w1 := hB0.trans (hb1.mono (by omega))
  go_wp2
  go_ret
  exact ⟨ret_bool (by rw [hfin.out]), hB1⟩

end Go.Proofs.YtolnlkccbndkcaaDoor

/- The program's WordAt. -/
namespace Go.Proofs.YtolnlkccbndkcaaDoor
open Go.RowKit Go.BigFrame AG

set_option maxRecDepth 100000 in
set_option maxHeartbeats 1000000 in
theorem reverseNone_any (w : World) :
    Calls Tryd.prog 96 #[.slice none 0 0] w fun e w' => e = .returned (.tuple #[]) ∧ Below w.heap.size w w' := by
  go_enter Tryd.func96, Tryd.ntmps96
  go_wp2_with fail
  go_loopw [2, 3] (fun iv jv wr => iv = .int .i64 0 ∧ jv = .int .i64 (-1) ∧ Below w.heap.size w wr) (fun _ _ _ => 0)
  case atStart => exact ⟨rfl, rfl, Below.refl _ _⟩
  case round =>
    obtain ⟨rfl, rfl, hb⟩ := hrel
    go_wp2
    go_end0
    exact ⟨rfl, hb⟩

/-- WordAt: the word at a place, or no answer. -/
def WordAtPost (n : Nat) (L : List Nat) (w : World) (e : Ending) (w' : World) : Prop :=
  (e = .returned (.tuple #[.string (wordS (wAt L n)), .bool true]) ∧ (0 < L.length ∨ n = 0) ∧ (wAt L n).length ≤ 7 ∨ e = .returned (.tuple #[.string ⟨#[]⟩, .bool false])) ∧ Below w.heap.size w w'

set_option maxRecDepth 100000 in
set_option maxHeartbeats 4000000 in
theorem implWordAt_any (n : Nat) (al : Int) (w : World) (hal : alphaOk al = true) (hn : n ≤ 100000) :
    Calls Tryd.prog 35 #[.int .i64 n, .int .i64 al] w (WordAtPost n (letters al) w) := by
  obtain ⟨i0, hi, hz0, hz1, hz2⟩ := info_parts infoByte
  replace hal := hid hal
  go_enter Tryd.func35, Tryd.ntmps35
  go_wp2_with (go_at_call 94; refine (isAlphabet_any al _).mono ?_; rintro e w' ⟨rfl, rfl⟩; rw [hal.out])
  refine (lettersOf_any al w).mono ?_
  rintro e w1 ⟨lv, rfl, hown, hb1⟩
  obtain ⟨ls, hls⟩ : ∃ ls, Hid (ls = letters al) := ⟨_, hid rfl⟩
  rw [← hls.out] at hown
  have hl6 : ls.length ≤ 6 := by rw [hls.out]; exact lettersTo_len al 6
  obtain ⟨Al, cl, hvl, hcl, hcl'⟩ := own_slice hown
  subst hvl
  replace hown := hid hown
  have hz1' := hb1.size
  go_wp2_with fail
  go_loopw [0, 7] (fun nv v wr => ∃ (k : Nat) (o : List Nat), nv = .int .i64 k ∧ k ≤ n ∧ o.length ≤ 7 ∧ o ++ wAt ls k = wAt ls n ∧ (∀ l ∈ o, l < 6) ∧ (0 < ls.length ∨ k = n) ∧ (o = [] → v = .slice none 0 0) ∧ wr.ownsRow w1.heap.size 5 1 v o.length (bytesOf o) ∧ Below w1.heap.size w1 wr) (fun nv _ _ => (intOf nv).toNat)
  case atStart => exact ⟨n, [], rfl, Nat.le_refl _, by simp, rfl, (fun l hl => by cases hl), .inr rfl, fun _ => rfl, World.ownsRow_nil _ _ _ _, Below.refl _ _⟩
  case round =>
    obtain ⟨k, o, rfl, hkn, ho7, hoo, ho6, hL, hnil, hob, hb⟩ := hrel
    have hbb := hid (hb1.trans (hb.mono hz1'))
    have hown2 := hid (own_later hown.out hb)
    have hzr := hb.size
    replace ho6 := hid ho6
    replace hL := hid hL
    by_cases hk : 0 < k
    · obtain ⟨p, rfl⟩ : ∃ p, k = p + 1 := ⟨k - 1, by omega⟩
      have hk' : (0 : Int) < ((p + 1 : Nat) : Int) := by omega
      obtain ⟨Ao, co, hvo, hco, hco'⟩ := own_slice hob
      subst hvo
      by_cases hl0 : ls.length = 0
      · have hl0' : ((ls.length : Int) == 0) = true := by simpa using hl0
        replace hob := hid hob
        replace hoo := hid hoo
        replace hnil := hid hnil
        replace hl0 := hid hl0
        go_wp2_with fail
        go_ret2
        exact ⟨.inr rfl, hbb.out⟩
      · have hl0' : ((ls.length : Int) == 0) = false := by rw [beq_eq_false_iff_ne]; omega
        by_cases ho : o.length = 7
        · have ho' : ((o.length : Int) == 7) = true := by rw [beq_iff_eq]; omega
          replace hob := hid hob
          replace hoo := hid hoo
          replace hnil := hid hnil
          replace ho := hid ho
          go_wp2_with fail
          go_ret2
          exact ⟨.inr rfl, hbb.out⟩
        · have ho' : ((o.length : Int) == 7) = false := by rw [beq_eq_false_iff_ne]; omega
          have hlp : 0 < ls.length := by omega
          obtain ⟨d, hd⟩ : ∃ d, d = p % ls.length := ⟨_, rfl⟩
          obtain ⟨q, hq⟩ : ∃ q, q = p / ls.length := ⟨_, rfl⟩
          have hdl : d < ls.length := by rw [hd]; exact Nat.mod_lt _ hlp
          have hqp : q ≤ p := by rw [hq]; exact Nat.div_le_self _ _
          have e1 : (((p + 1 : Nat) : Int) - 1) = (p : Int) := by omega
          have e2 : Int.tmod (p : Int) (ls.length : Int) = (d : Int) := by rw [hd]; exact tmod_nat p ls.length
          have e3 : Int.tdiv (p : Int) (ls.length : Int) = (q : Int) := by rw [hq]; exact tdiv_nat p ls.length
          obtain ⟨g, cap, hve, hg1, hg2, -, -, hLs⟩ := own_nats hown2.out (by omega)
          cases hve
          have l0 := hLs d hdl
          obtain ⟨l, hl⟩ : ∃ l : Nat, l = ls[d] := ⟨_, rfl⟩
          have hlt6 : l < 6 := by
            have := letters_lt (A := al) (l := l) (by rw [← hls.out, hl]; exact List.getElem_mem _)
            exact this.1
          rw [← hl] at l0
          have i1 : (0 : Int) ≤ (d : Int) ∧ (d : Int) < (ls.length : Int) := by omega
          have hoo2 : Hid ((o ++ [l]) ++ wAt ls q = wAt ls n) := hid (by
            rw [← hoo, wAt_succ, ← hd, ← hq, List.getD_eq_getElem?_getD, List.getElem?_eq_getElem hdl, hl]
            simp)
          have hlen : o.length < 7 := by omega
          replace hl := hid hl
          replace hLs := hid hLs
          replace hd := hid hd
          replace hq := hid hq
          replace hoo := hid hoo
          replace hnil := hid hnil
          replace ho := hid ho
          replace hl0 := hid hl0
          go_wp2_with (first
            | (go_at_call 95; refine (letterByte_any l hlt6 _).mono ?_; rintro e w' ⟨rfl, rfl⟩)
            | (at_builtin; refine wpList_append_own _ rfl _ _ 22 rfl w1.heap.size 5 i0 (.int .u8 0) 1 1 Tryd.underlying22 hi hz0 hz1 hz2 rfl (by decide) _ _ _ rfl (hob.alloc _) ⟨wr.heap.size, 0, none⟩ 1 1 [.int .u8 (97 + l : Nat)] rfl rfl (cell_one_new _ _ _) (by intro u hu; simp at hu; subst hu; rfl) (by unfold maxLen; omega) (by omega) (by simp; omega) ?_; intro v' w9 hown' hgrow hnil'; have hB9 := hid (Below.grown (hb.alloc hzr _) hgrow (by simp; omega) (own_block hob))))
          have hO9 : Hid (w9.ownsRow w1.heap.size 5 1 v' (o ++ [l]).length (bytesOf (o ++ [l]))) := hid (by
            unfold bytesOf at hown' ⊢
            rw [List.length_append, List.map_append]
            exact hown')
          clear hown' hgrow hob hb hnil'
          go_roundw
          case rel => exact ⟨q, o ++ [l], rfl, by omega, by rw [List.length_append]; simp; omega, hoo2.out, (fun x hx => by rcases List.mem_append.1 hx with h | h; exact ho6.out x h; rw [List.mem_singleton.1 h]; exact hlt6), .inl hlp, (fun e => by simp at e), hO9.out, hB9.out⟩
          case measure => simp [intOf]; omega
    · obtain rfl : k = 0 := by omega
      rw [wAt_zero, List.append_nil] at hoo
      have hLL : 0 < (letters al).length ∨ n = 0 := by
        rw [← hls.out]
        rcases hL.out with h | h
        · exact .inl h
        · exact .inr h.symm
      have hfin : Hid ((wAt (letters al) n).length ≤ 7) := hid (by rw [← hls.out, ← hoo]; exact ho7)
      have hww : Hid (wordS (wAt (letters al) n) = wordS o) := hid (by rw [← hls.out, ← hoo])
      replace hLL := hid hLL
      replace hk := hid hk
      replace hoo := hid hoo
      by_cases hoe : o = []
      · have hv := hnil hoe
        subst hv
        subst hoe
        replace hob := hid hob
        replace hnil := hid hnil
        go_wp2_with fail
        refine (reverseNone_any wr).mono ?_
        rintro e w2 ⟨rfl, hb2⟩
        have hB2 := hid (hbb.out.trans (hb2.mono hbb.out.size))
        have kc : (convert 22 9 (.slice none 0 0)).run Tryd.prog w2 = .ok (.string ⟨#[]⟩) w2 := conv_own (l := []) (World.ownsRow_nil w2 0 _ _)
        go_wp2
        go_ret2
        exact ⟨.inl ⟨by rw [hww.out]; rfl, hLL.out, hfin.out⟩, hB2.out⟩
      · have hpos : 0 < o.length := List.length_pos_iff.2 hoe
        obtain ⟨gb, cap, cur, rfl, hgb, hcap, hcap', hblk, hsz, hcur⟩ := own_blk hob hpos
        have hblk' := hid hblk
        have hcs : Hid (∀ i (h : i < (o.map (97 + ·)).length), cur[i]? = some (.int .u8 ((o.map (97 + ·))[i] : Nat))) := hid fun i h => by
          have hi : i < o.length := by simpa using h
          rw [hcur i (by unfold bytesOf; simpa using hi)]
          unfold bytesOf
          simp
        replace hcur := hid hcur
        replace hblk := hid hblk
        replace hob := hid hob
        replace hnil := hid hnil
        replace hoe := hid hoe
        go_wp2_with fail
        refine (reverseBytes_any gb o.length cap (o.map (97 + ·)) cur wr (by simp) hcap hcap' hblk'.out hsz hcs.out).mono ?_
        rintro e w2 ⟨rfl, hg2, cs2, hblk2, hsz2, hcs2⟩
        have hBr : Below w1.heap.size w1 w2 := hb.grown hg2 hb.size (fun k hk => by cases hk; exact hgb)
        have hB2 := hid (hb1.trans (hBr.mono hz1'))
        have kc : (convert 22 9 (.slice (some ⟨gb, 0, none⟩) o.length cap)).run Tryd.prog w2 = .ok (.string (wordS o)) w2 := by
          have := run_convert_bytes_back (P := Tryd.prog) w2 22 9 5 ⟨gb, 0, none⟩ cap (o.reverse.map letB) Tryd.underlying22 Tryd.underlying5 Tryd.underlying9 (fun j hj => by
            have hj' : j < o.length := by simpa using hj
            have e1 := hcs2 j (by simpa using hj')
            have hadd : (⟨gb, 0, none⟩ : Addr).add j = ⟨gb, j, none⟩ := by unfold Addr.add; split <;> simp_all
            rw [hadd, hblk2.cell, e1]
            have h6' : o.reverse[j]'(by simpa using hj') < 6 := ho6.out _ (List.mem_reverse.1 (List.getElem_mem _))
            simp only [List.getElem_map, List.map_reverse, List.getElem_reverse] at h6' ⊢
            unfold letB
            rw [UInt8.toNat_ofNat']
            have := h6'
            simp only [List.length_map] at *
            rw [Nat.mod_eq_of_lt (by omega)])
          simpa [wordS] using this
        replace hcs2 := hid hcs2
        replace hblk2 := hid hblk2
        replace hg2 := hid hg2
        clear hb hBr
        go_wp2
        go_ret2
        exact ⟨.inl ⟨by rw [hww.out]; rfl, hLL.out, hfin.out⟩, hB2.out⟩

end Go.Proofs.YtolnlkccbndkcaaDoor

/- The law FnTraceLeast. -/
namespace Go.Proofs.YtolnlkccbndkcaaDoor
open Go.RowKit Go.BigFrame AG

set_option maxHeartbeats 1000000 in
theorem agComparable_any (s t : Sy) (A B : Option Addr) (c d : Nat) (w : World) (hl : s.es.length ≤ c) (hc : c ≤ 9223372036854775807) (hm : t.es.length ≤ d) (hd : d ≤ 9223372036854775807) (hr : EdsAt w w.heap.size A s.es) (hs : EdsAt w w.heap.size B t.es) :
    Calls Tryd.prog 18 #[s.val A c, t.val B d] w fun e w' => e = .returned (.bool (cmpOk s t)) ∧ Below w.heap.size w w' := by
  unfold Sy.val
  replace hr := hid hr
  replace hs := hid hs
  have hval : Hid (cmpOk s t = (sysOk s && (sysOk t && decide (s.al = t.al)))) := hid rfl
  go_enter Tryd.func18, Tryd.ntmps18
  go_wp2_with fail
  obtain ⟨w0, hw0, hz0, hB0, hS, hT⟩ := boxed2 w #[Value.int IntKind.i64 s.al, Value.int IntKind.i64 s.st, Value.slice A s.es.length c] 25 #[Value.int IntKind.i64 t.al, Value.int IntKind.i64 t.st, Value.slice B t.es.length d] 25
  rw [hw0]
  clear hw0
  have p0 := hS 0 _ rfl _ (Below.refl _ _)
  have p1 := hS 1 _ rfl _ (Below.refl _ _)
  have p2 := hS 2 _ rfl _ (Below.refl _ _)
  have hr0 := hid (hr.out.later hB0)
  go_wp2_with fail
  refine (implSystemValid_any s A c w0 hl hc hr0.out).mono ?_
  rintro e w1 ⟨rfl, hb1⟩
  have b1 := hb1.mono hz0
  clear p0 p1 p2
  have p0 := hS 0 _ rfl _ b1
  have q0 := hT 0 _ rfl _ b1
  have q1 := hT 1 _ rfl _ b1
  have q2 := hT 2 _ rfl _ b1
  have B1 : Below w.heap.size w w1 := hB0.trans (b1.mono (by omega))
  cases hA : sysOk s
  · replace hA := hid hA
    go_wp2_with fail
    go_ret
    exact ⟨ret_bool (by rw [hval.out, hA.out]; rfl), B1⟩
  · replace hA := hid hA
    have hs1 := hid (hs.out.later B1)
    go_wp2_with fail
    refine (implSystemValid_any t B d w1 hm hd hs1.out).mono ?_
    rintro e w2 ⟨rfl, hb2⟩
    have b2 := b1.trans (hb2.mono (Nat.le_trans hz0 hb1.size))
    clear p0 q0 q1 q2
    have p0 := hS 0 _ rfl _ b2
    have q0 := hT 0 _ rfl _ b2
    have B2 : Below w.heap.size w w2 := hB0.trans (b2.mono (by omega))
    cases hB : sysOk t
    · replace hB := hid hB
      go_wp2_with fail
      go_ret
      exact ⟨ret_bool (by rw [hval.out, hA.out, hB.out]; rfl), B2⟩
    · replace hB := hid hB
      go_wp2_with fail
      go_ret
      exact ⟨ret_bool (by rw [hval.out, hA.out, hB.out, Bool.eq_iff_iff]; simp), B2⟩


theorem pathV_two (o : Option (List Nat)) : ∃ (S : ByteArray) (F : Bool), pathV o = .tuple #[.string S, .bool F] := ⟨_, _, rfl⟩
theorem IsOut.off {s t : Sy} {o : Option (List Nat)} (h : IsOut s t o) (hc : cmpOk s t = false) : o = none := by
  unfold IsOut at h
  rw [hc] at h
  exact h

end Go.Proofs.YtolnlkccbndkcaaDoor

/- The law FnTracesWithin. -/
namespace Go.Proofs.YtolnlkccbndkcaaDoor
open Go.RowKit Go.BigFrame Go.Maps AG

theorem found_out {s t : Sy} (hs : prK s s.al = true) (ht : prK t t.al = true) (hc : cmpOk s t = true) (hal : s.al = t.al) {o : Option (List Nat)} (h : FoundP (prA s s.al) (prA t t.al) (fun x y => x && !y) o) : IsOut s t o ∧ cmpAu (prA s s.al) (prA t t.al) = true := by
  have hca : cmpAu (prA s s.al) (prA t t.al) = true := by
    unfold cmpAu
    rw [auOk_prA hs, auOk_prA ht, prA_al hs, prA_al ht, hal]
    simp
  refine ⟨isOut_auto hs ht hc hal ?_, hca⟩
  have := h.1 hca
  unfold DoubP at this
  rw [prA_al hs] at this
  exact this

set_option maxRecDepth 100000 in
set_option maxHeartbeats 16000000 in
theorem FnTracesWithin_any (A : Option Addr) (n c : Nat) (w : World) (hn : n ≤ c) (hc : c ≤ 9223372036854775807) (hT : Tab w) (hx : CodeAt w A n) :
    Calls Tryd.prog 3 #[.slice A n c] w fun e w' => e = .returned (.bool true) ∧ Below w.heap.size w w' := by
  replace hT := hid hT
  replace hx := hid hx
  by_cases hlen : 1048576 < n
  · have hgt : (1048576 : Int) < (n : Int) := by omega
    go_enter Tryd.func3, Tryd.ntmps3
    go_wp2
    go_ret
    exact ⟨rfl, Below.refl _ _⟩
  have hgt : ¬ ((1048576 : Int) < (n : Int)) := by omega
  go_enter Tryd.func3, Tryd.ntmps3
  go_wp2_with fail
  have BW_w : Below w.heap.size w w := Below.refl _ _
  refine (drawTracesWithin_any A n c w hn hc hx.out).mono ?_
  rintro e w1 ⟨s, t, As, At, cs, ct, rfl, a1, a2, b1, b2, ea, eb, hb_w1⟩
  unfold Sy.val
  have BW_w1 := BW_w.trans (hb_w1.mono BW_w.size)
  have es := hid ea
  have BEs_w1 : Below w1.heap.size w1 w1 := Below.refl _ _
  have et := hid eb
  have BEt_w1 : Below w1.heap.size w1 w1 := Below.refl _ _
  clear ea eb
  obtain ⟨a, ha⟩ : ∃ a, Hid (a = prA s s.al) := ⟨_, hid rfl⟩
  obtain ⟨ok, hok⟩ : ∃ ok, Hid (ok = prK s s.al) := ⟨_, hid rfl⟩
  obtain ⟨b, hb⟩ : ∃ b, Hid (b = prA t t.al) := ⟨_, hid rfl⟩
  obtain ⟨fine, hfine⟩ : ∃ ok, Hid (ok = prK t t.al) := ⟨_, hid rfl⟩
  obtain ⟨W, hW⟩ : ∃ W, Hid (W = withinB s t) := ⟨_, hid rfl⟩
  have hWW : (W != W) = false := by simp
  have hWE : (W == W) = true := by simp
  go_upto_region 4 with fail
  obtain ⟨w2, hw_w2, hz_w2, hb_w2, hS_w2, hU_w2⟩ := boxed2 w1 #[.int .i64 s.al, .int .i64 s.st, .slice As s.es.length cs] 25 #[.int .i64 t.al, .int .i64 t.st, .slice At t.es.length ct] 25
  rw [hw_w2]
  clear hw_w2
  have hs0 := fun w' (hb : Below w2.heap.size w2 w') => hS_w2 0 _ rfl w' (hb.mono hz_w2)
  have hs1 := fun w' (hb : Below w2.heap.size w2 w') => hS_w2 1 _ rfl w' (hb.mono hz_w2)
  have hs2 := fun w' (hb : Below w2.heap.size w2 w') => hS_w2 2 _ rfl w' (hb.mono hz_w2)
  replace hs0 := hid hs0
  replace hs1 := hid hs1
  replace hs2 := hid hs2
  have ht0 := fun w' (hb : Below w2.heap.size w2 w') => hU_w2 0 _ rfl w' (hb.mono hz_w2)
  have ht1 := fun w' (hb : Below w2.heap.size w2 w') => hU_w2 1 _ rfl w' (hb.mono hz_w2)
  have ht2 := fun w' (hb : Below w2.heap.size w2 w') => hU_w2 2 _ rfl w' (hb.mono hz_w2)
  replace ht0 := hid ht0
  replace ht1 := hid ht1
  replace ht2 := hid ht2
  clear hS_w2 hU_w2
  have BW_w2 := BW_w1.trans (hb_w2.mono BW_w1.size)
  have BEs_w2 := BEs_w1.trans (hb_w2.mono BEs_w1.size)
  have BEt_w2 := BEt_w1.trans (hb_w2.mono BEt_w1.size)
  have Bs_w2 : Below w2.heap.size w2 w2 := Below.refl _ _
  have Bt_w2 : Below w2.heap.size w2 w2 := Below.refl _ _
  have ps0 := hs0.out _ Bs_w2
  have ps1 := hs1.out _ Bs_w2
  have ps2 := hs2.out _ Bs_w2
  have pt0 := ht0.out _ Bt_w2
  have pt1 := ht1.out _ Bt_w2
  have pt2 := ht2.out _ Bt_w2
  go_wp2_with fail
  refine (implTracesWithin_any s t As At cs ct w2 a1 a2 b1 b2 (hT.out.later BW_w2) (es.out.later BEs_w2) (et.out.later BEt_w2)).mono ?_
  clear ps0 ps1 ps2 pt0 pt1 pt2
  rintro e w3 ⟨rfl, hb_w3⟩
  have BW_w3 := BW_w2.trans (hb_w3.mono BW_w2.size)
  have BEs_w3 := BEs_w2.trans (hb_w3.mono BEs_w2.size)
  have BEt_w3 := BEt_w2.trans (hb_w3.mono BEt_w2.size)
  have Bs_w3 := Bs_w2.trans (hb_w3.mono Bs_w2.size)
  have Bt_w3 := Bt_w2.trans (hb_w3.mono Bt_w2.size)
  rw [← hW.out]
  have ps0 := hs0.out _ Bs_w3
  have ps1 := hs1.out _ Bs_w3
  have ps2 := hs2.out _ Bs_w3
  go_wp2_with fail
  have hc_a := hid (implDeterminize_any s As cs w3 a1 a2 (hT.out.later BW_w3) (es.out.later BEs_w3))
  rw [← ha.out, ← hok.out] at hc_a
  refine hc_a.out.mono ?_
  clear hc_a
  clear ps0 ps1 ps2
  rintro e w4 ⟨hb_w4, v1, v2, xs, rfl, hau⟩
  obtain ⟨Aa, ca, Ba, da, rfl, rfl, ta⟩ := hau.at_
  replace ta := hid ta
  clear hau
  have BW_w4 := BW_w3.trans (hb_w4.mono BW_w3.size)
  have BEs_w4 := BEs_w3.trans (hb_w4.mono BEs_w3.size)
  have BEt_w4 := BEt_w3.trans (hb_w4.mono BEt_w3.size)
  have Bs_w4 := Bs_w3.trans (hb_w4.mono Bs_w3.size)
  have Bt_w4 := Bt_w3.trans (hb_w4.mono Bt_w3.size)
  have BTa_w4 : Below w4.heap.size w4 w4 := Below.refl _ _
  go_upto_region 6 with fail
  obtain ⟨w5, hw_w5, hz_w5, hb_w5, hS_w5⟩ := boxed w4 #[.int .i64 a.al, .slice Aa a.nx.length ca, .slice Ba a.ac.length da] 32
  rw [hw_w5]
  clear hw_w5
  have ha0 := fun w' (hb : Below w5.heap.size w5 w') => hS_w5 0 _ rfl w' (hb.mono hz_w5)
  have ha1 := fun w' (hb : Below w5.heap.size w5 w') => hS_w5 1 _ rfl w' (hb.mono hz_w5)
  have ha2 := fun w' (hb : Below w5.heap.size w5 w') => hS_w5 2 _ rfl w' (hb.mono hz_w5)
  replace ha0 := hid ha0
  replace ha1 := hid ha1
  replace ha2 := hid ha2
  clear hS_w5
  have BW_w5 := BW_w4.trans (hb_w5.mono BW_w4.size)
  have BEs_w5 := BEs_w4.trans (hb_w5.mono BEs_w4.size)
  have BEt_w5 := BEt_w4.trans (hb_w5.mono BEt_w4.size)
  have Bs_w5 := Bs_w4.trans (hb_w5.mono Bs_w4.size)
  have Bt_w5 := Bt_w4.trans (hb_w5.mono Bt_w4.size)
  have BTa_w5 := BTa_w4.trans (hb_w5.mono BTa_w4.size)
  have Ba_w5 : Below w5.heap.size w5 w5 := Below.refl _ _
  have pt0 := ht0.out _ Bt_w5
  have pt1 := ht1.out _ Bt_w5
  have pt2 := ht2.out _ Bt_w5
  go_wp2_with fail
  have hc_b := hid (implDeterminize_any t At ct w5 b1 b2 (hT.out.later BW_w5) (et.out.later BEt_w5))
  rw [← hb.out, ← hfine.out] at hc_b
  refine hc_b.out.mono ?_
  clear hc_b
  clear pt0 pt1 pt2
  rintro e w6 ⟨hb_w6, v1, v2, xs, rfl, hau⟩
  obtain ⟨Ab, cb, Bb, db, rfl, rfl, tb⟩ := hau.at_
  replace tb := hid tb
  clear hau
  have BW_w6 := BW_w5.trans (hb_w6.mono BW_w5.size)
  have BEs_w6 := BEs_w5.trans (hb_w6.mono BEs_w5.size)
  have BEt_w6 := BEt_w5.trans (hb_w6.mono BEt_w5.size)
  have Bs_w6 := Bs_w5.trans (hb_w6.mono Bs_w5.size)
  have Bt_w6 := Bt_w5.trans (hb_w6.mono Bt_w5.size)
  have BTa_w6 := BTa_w5.trans (hb_w6.mono BTa_w5.size)
  have Ba_w6 := Ba_w5.trans (hb_w6.mono Ba_w5.size)
  have BTb_w6 : Below w6.heap.size w6 w6 := Below.refl _ _
  go_upto_region 7 with fail
  obtain ⟨w7, hw_w7, hz_w7, hb_w7, hS_w7⟩ := boxed w6 #[.int .i64 b.al, .slice Ab b.nx.length cb, .slice Bb b.ac.length db] 32
  rw [hw_w7]
  clear hw_w7
  have hb0 := fun w' (hb : Below w7.heap.size w7 w') => hS_w7 0 _ rfl w' (hb.mono hz_w7)
  have hb1 := fun w' (hb : Below w7.heap.size w7 w') => hS_w7 1 _ rfl w' (hb.mono hz_w7)
  have hb2 := fun w' (hb : Below w7.heap.size w7 w') => hS_w7 2 _ rfl w' (hb.mono hz_w7)
  replace hb0 := hid hb0
  replace hb1 := hid hb1
  replace hb2 := hid hb2
  clear hS_w7
  have BW_w7 := BW_w6.trans (hb_w7.mono BW_w6.size)
  have BEs_w7 := BEs_w6.trans (hb_w7.mono BEs_w6.size)
  have BEt_w7 := BEt_w6.trans (hb_w7.mono BEt_w6.size)
  have Bs_w7 := Bs_w6.trans (hb_w7.mono Bs_w6.size)
  have Bt_w7 := Bt_w6.trans (hb_w7.mono Bt_w6.size)
  have BTa_w7 := BTa_w6.trans (hb_w7.mono BTa_w6.size)
  have Ba_w7 := Ba_w6.trans (hb_w7.mono Ba_w6.size)
  have BTb_w7 := BTb_w6.trans (hb_w7.mono BTb_w6.size)
  have Bb_w7 : Below w7.heap.size w7 w7 := Below.refl _ _
  have ps0 := hs0.out _ Bs_w7
  have ps1 := hs1.out _ Bs_w7
  have ps2 := hs2.out _ Bs_w7
  have pt0 := ht0.out _ Bt_w7
  have pt1 := ht1.out _ Bt_w7
  have pt2 := ht2.out _ Bt_w7
  go_wp2_with fail
  refine (specTracesWithin_any s t As At cs ct w7 a1 a2 b1 b2 (es.out.later BEs_w7) (et.out.later BEt_w7)).mono ?_
  clear ps0 ps1 ps2 pt0 pt1 pt2
  rintro e w8 ⟨rfl, hb_w8⟩
  have BW_w8 := BW_w7.trans (hb_w8.mono BW_w7.size)
  have BEs_w8 := BEs_w7.trans (hb_w8.mono BEs_w7.size)
  have BEt_w8 := BEt_w7.trans (hb_w8.mono BEt_w7.size)
  have Bs_w8 := Bs_w7.trans (hb_w8.mono Bs_w7.size)
  have Bt_w8 := Bt_w7.trans (hb_w8.mono Bt_w7.size)
  have BTa_w8 := BTa_w7.trans (hb_w8.mono BTa_w7.size)
  have Ba_w8 := Ba_w7.trans (hb_w8.mono Ba_w7.size)
  have BTb_w8 := BTb_w7.trans (hb_w8.mono BTb_w7.size)
  have Bb_w8 := Bb_w7.trans (hb_w8.mono Bb_w7.size)
  rw [← hW.out]
  cases hokc : ok
  case false =>
    have ps0 := hs0.out _ Bs_w8
    have ps1 := hs1.out _ Bs_w8
    have ps2 := hs2.out _ Bs_w8
    have pt0 := ht0.out _ Bt_w8
    have pt1 := ht1.out _ Bt_w8
    have pt2 := ht2.out _ Bt_w8
    go_wp2_with fail
    refine (specTracesWithin_any s t As At cs ct w8 a1 a2 b1 b2 (es.out.later BEs_w8) (et.out.later BEt_w8)).mono ?_
    clear ps0 ps1 ps2 pt0 pt1 pt2
    rintro e w9 ⟨rfl, hb_w9⟩
    have BW_w9 := BW_w8.trans (hb_w9.mono BW_w8.size)
    have BEs_w9 := BEs_w8.trans (hb_w9.mono BEs_w8.size)
    have BEt_w9 := BEt_w8.trans (hb_w9.mono BEt_w8.size)
    have Bs_w9 := Bs_w8.trans (hb_w9.mono Bs_w8.size)
    have Bt_w9 := Bt_w8.trans (hb_w9.mono Bt_w8.size)
    have BTa_w9 := BTa_w8.trans (hb_w9.mono BTa_w8.size)
    have Ba_w9 := Ba_w8.trans (hb_w9.mono Ba_w8.size)
    have BTb_w9 := BTb_w8.trans (hb_w9.mono BTb_w8.size)
    have Bb_w9 := Bb_w8.trans (hb_w9.mono Bb_w8.size)
    rw [← hW.out]
    go_wp2_with fail
    go_ret
    exact ⟨rfl, BW_w9⟩
  case true =>
    cases hfic : fine
    case false =>
      have ps0 := hs0.out _ Bs_w8
      have ps1 := hs1.out _ Bs_w8
      have ps2 := hs2.out _ Bs_w8
      have pt0 := ht0.out _ Bt_w8
      have pt1 := ht1.out _ Bt_w8
      have pt2 := ht2.out _ Bt_w8
      go_wp2_with fail
      refine (specTracesWithin_any s t As At cs ct w8 a1 a2 b1 b2 (es.out.later BEs_w8) (et.out.later BEt_w8)).mono ?_
      clear ps0 ps1 ps2 pt0 pt1 pt2
      rintro e w10 ⟨rfl, hb_w10⟩
      have BW_w10 := BW_w8.trans (hb_w10.mono BW_w8.size)
      have BEs_w10 := BEs_w8.trans (hb_w10.mono BEs_w8.size)
      have BEt_w10 := BEt_w8.trans (hb_w10.mono BEt_w8.size)
      have Bs_w10 := Bs_w8.trans (hb_w10.mono Bs_w8.size)
      have Bt_w10 := Bt_w8.trans (hb_w10.mono Bt_w8.size)
      have BTa_w10 := BTa_w8.trans (hb_w10.mono BTa_w8.size)
      have Ba_w10 := Ba_w8.trans (hb_w10.mono Ba_w8.size)
      have BTb_w10 := BTb_w8.trans (hb_w10.mono BTb_w8.size)
      have Bb_w10 := Bb_w8.trans (hb_w10.mono Bb_w8.size)
      rw [← hW.out]
      go_wp2_with fail
      go_ret
      exact ⟨rfl, BW_w10⟩
    case true =>
      have ps0 := hs0.out _ Bs_w8
      have ps1 := hs1.out _ Bs_w8
      have ps2 := hs2.out _ Bs_w8
      have pt0 := ht0.out _ Bt_w8
      have pt1 := ht1.out _ Bt_w8
      have pt2 := ht2.out _ Bt_w8
      go_wp2_with fail
      refine (agComparable_any s t As At cs ct w8 a1 a2 b1 b2 (es.out.later BEs_w8) (et.out.later BEt_w8)).mono ?_
      clear ps0 ps1 ps2 pt0 pt1 pt2
      rintro e w11 ⟨rfl, hb_w11⟩
      have BW_w11 := BW_w8.trans (hb_w11.mono BW_w8.size)
      have BEs_w11 := BEs_w8.trans (hb_w11.mono BEs_w8.size)
      have BEt_w11 := BEt_w8.trans (hb_w11.mono BEt_w8.size)
      have Bs_w11 := Bs_w8.trans (hb_w11.mono Bs_w8.size)
      have Bt_w11 := Bt_w8.trans (hb_w11.mono Bt_w8.size)
      have BTa_w11 := BTa_w8.trans (hb_w11.mono BTa_w8.size)
      have Ba_w11 := Ba_w8.trans (hb_w11.mono Ba_w8.size)
      have BTb_w11 := BTb_w8.trans (hb_w11.mono BTb_w8.size)
      have Bb_w11 := Bb_w8.trans (hb_w11.mono Bb_w8.size)
      obtain ⟨cm, hcm⟩ : ∃ cm, Hid (cm = cmpOk s t) := ⟨_, hid rfl⟩
      rw [← hcm.out]
      cases hcmc : cm
      case false =>
        have ps0 := hs0.out _ Bs_w11
        have ps1 := hs1.out _ Bs_w11
        have ps2 := hs2.out _ Bs_w11
        have pt0 := ht0.out _ Bt_w11
        have pt1 := ht1.out _ Bt_w11
        have pt2 := ht2.out _ Bt_w11
        go_wp2_with fail
        refine (specTracesWithin_any s t As At cs ct w11 a1 a2 b1 b2 (es.out.later BEs_w11) (et.out.later BEt_w11)).mono ?_
        clear ps0 ps1 ps2 pt0 pt1 pt2
        rintro e w12 ⟨rfl, hb_w12⟩
        have BW_w12 := BW_w11.trans (hb_w12.mono BW_w11.size)
        have BEs_w12 := BEs_w11.trans (hb_w12.mono BEs_w11.size)
        have BEt_w12 := BEt_w11.trans (hb_w12.mono BEt_w11.size)
        have Bs_w12 := Bs_w11.trans (hb_w12.mono Bs_w11.size)
        have Bt_w12 := Bt_w11.trans (hb_w12.mono Bt_w11.size)
        have BTa_w12 := BTa_w11.trans (hb_w12.mono BTa_w11.size)
        have Ba_w12 := Ba_w11.trans (hb_w12.mono Ba_w11.size)
        have BTb_w12 := BTb_w11.trans (hb_w12.mono BTb_w11.size)
        have Bb_w12 := Bb_w11.trans (hb_w12.mono Bb_w11.size)
        rw [← hW.out]
        go_wp2_with fail
        go_ret
        exact ⟨rfl, BW_w12⟩
      case true =>
        have hpk : Hid (prK s s.al = true) := hid (by rw [← hok.out, hokc])
        have hpt : Hid (prK t t.al = true) := hid (by rw [← hfine.out, hfic])
        have hcT : Hid (cmpOk s t = true) := hid (by rw [← hcm.out, hcmc])
        have hal : Hid (s.al = t.al) := hid (by have := hcT.out; unfold cmpOk at this; simp only [Bool.and_eq_true, decide_eq_true_eq] at this; exact this.2.2)
        subst hokc hfic hcmc
        have pa0 := ha0.out _ Ba_w11
        have pa1 := ha1.out _ Ba_w11
        have pa2 := ha2.out _ Ba_w11
        have pb0 := hb0.out _ Bb_w11
        have pb1 := hb1.out _ Bb_w11
        have pb2 := hb2.out _ Bb_w11
        go_wp2_with fail
        refine (implFirstOutside_any a b Aa Ba Ab Bb ca da cb db w11 (ta.out.later BTa_w11) (tb.out.later BTb_w11)).mono ?_
        clear pa0 pa1 pa2 pb0 pb1 pb2
        rintro e w13 ⟨o, rfl, hfo, hb_w13⟩
        have BW_w13 := BW_w11.trans (hb_w13.mono BW_w11.size)
        have BEs_w13 := BEs_w11.trans (hb_w13.mono BEs_w11.size)
        have BEt_w13 := BEt_w11.trans (hb_w13.mono BEt_w11.size)
        have Bs_w13 := Bs_w11.trans (hb_w13.mono Bs_w11.size)
        have Bt_w13 := Bt_w11.trans (hb_w13.mono Bt_w11.size)
        have BTa_w13 := BTa_w11.trans (hb_w13.mono BTa_w11.size)
        have Ba_w13 := Ba_w11.trans (hb_w13.mono Ba_w11.size)
        have BTb_w13 := BTb_w11.trans (hb_w13.mono BTb_w11.size)
        have Bb_w13 := Bb_w11.trans (hb_w13.mono Bb_w11.size)
        rw [ha.out, hb.out] at hfo
        have hio := hid (found_out hpk.out hpt.out hcT.out hal.out hfo)
        clear hfo
        obtain ⟨Sv, Fv, hpv, hFv⟩ : ∃ Sv Fv, pathV o = .tuple #[.string Sv, .bool Fv] ∧ Fv = o.isSome := ⟨_, _, rfl, rfl⟩
        rw [hpv]
        replace hpv := hid hpv
        replace hFv := hid hFv
        have ps0 := hs0.out _ Bs_w13
        have ps1 := hs1.out _ Bs_w13
        have ps2 := hs2.out _ Bs_w13
        have pt0 := ht0.out _ Bt_w13
        have pt1 := ht1.out _ Bt_w13
        have pt2 := ht2.out _ Bt_w13
        go_wp2_with fail
        refine (implFirstTraceOutside_any s t As At cs ct w13 a1 a2 b1 b2 (hT.out.later BW_w13) (es.out.later BEs_w13) (et.out.later BEt_w13)).mono ?_
        clear ps0 ps1 ps2 pt0 pt1 pt2
        rintro e w14 ⟨o2, rfl, ho2, hb_w14⟩
        have BW_w14 := BW_w13.trans (hb_w14.mono BW_w13.size)
        have BEs_w14 := BEs_w13.trans (hb_w14.mono BEs_w13.size)
        have BEt_w14 := BEt_w13.trans (hb_w14.mono BEt_w13.size)
        have Bs_w14 := Bs_w13.trans (hb_w14.mono Bs_w13.size)
        have Bt_w14 := Bt_w13.trans (hb_w14.mono Bt_w13.size)
        have BTa_w14 := BTa_w13.trans (hb_w14.mono BTa_w13.size)
        have Ba_w14 := Ba_w13.trans (hb_w14.mono Ba_w13.size)
        have BTb_w14 := BTb_w13.trans (hb_w14.mono BTb_w13.size)
        have Bb_w14 := Bb_w13.trans (hb_w14.mono Bb_w13.size)
        obtain rfl := IsOut.unique hio.out.1 ho2
        clear ho2
        rw [hpv.out]
        have pa0 := ha0.out _ Ba_w14
        have pa1 := ha1.out _ Ba_w14
        have pa2 := ha2.out _ Ba_w14
        have pb0 := hb0.out _ Bb_w14
        have pb1 := hb1.out _ Bb_w14
        have pb2 := hb2.out _ Bb_w14
        go_wp2_with fail
        refine (implLanguageWithin_any a b Aa Ba Ab Bb ca da cb db w14 (ta.out.later BTa_w14) (tb.out.later BTb_w14)).mono ?_
        clear pa0 pa1 pa2 pb0 pb1 pb2
        rintro e w15 ⟨o3, rfl, hf3, hb_w15⟩
        have BW_w15 := BW_w14.trans (hb_w15.mono BW_w14.size)
        have BEs_w15 := BEs_w14.trans (hb_w15.mono BEs_w14.size)
        have BEt_w15 := BEt_w14.trans (hb_w15.mono BEt_w14.size)
        have Bs_w15 := Bs_w14.trans (hb_w15.mono Bs_w14.size)
        have Bt_w15 := Bt_w14.trans (hb_w15.mono Bt_w14.size)
        have BTa_w15 := BTa_w14.trans (hb_w15.mono BTa_w14.size)
        have Ba_w15 := Ba_w14.trans (hb_w15.mono Ba_w14.size)
        have BTb_w15 := BTb_w14.trans (hb_w15.mono BTb_w14.size)
        have Bb_w15 := Bb_w14.trans (hb_w15.mono Bb_w14.size)
        rw [ha.out, hb.out] at hf3
        have hi3 := found_out hpk.out hpt.out hcT.out hal.out hf3
        obtain rfl := IsOut.unique hio.out.1 hi3.1
        have hval : Hid ((cmpAu a b && !o.isSome) = W) := hid (by rw [ha.out, hb.out, hi3.2, hW.out, ← within_of hi3.1, hcT.out])
        rw [hval.out]
        clear hf3 hi3
        have hss : (Sv.toList == Sv.toList) = true := by simp
        have hFF : (Fv == Fv) = true := by simp
        go_wp2_with fail
        go_ret
        exact ⟨rfl, BW_w15⟩

end Go.Proofs.YtolnlkccbndkcaaDoor
