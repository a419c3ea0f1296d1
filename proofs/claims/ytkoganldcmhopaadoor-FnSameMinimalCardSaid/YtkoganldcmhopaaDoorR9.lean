/- Lemmas, part 9: several texts in one. -/
import Derived.Test.YtkoganldcmhopaaDoorR8
import Derived.Test.YtkoganldcmhopaaDoorR7
import Derived.Test.YtkoganldcmhopaaDoorR3
import Derived.Test.YtkoganldcmhopaaDoorR4
import Derived.Test.YtkoganldcmhopaaDoorR5
import Derived.Test.YtkoganldcmhopaaDoorR2
import Derived.Test.YtkoganldcmhopaaDoorR6
set_option linter.unusedSimpArgs false
set_option linter.unusedVariables false

/- The drawing kit: l6Pair. -/
namespace Go.Proofs.YtkoganldcmhopaaDoor
open Go.RowKit Go.BigFrame AG

/-- A system that was drawn since w, whose edges lie in no block of K. -/
structure GotSy (w wr : World) (R L : Nat) (K : Nat → Prop) (s : Sy) (A : Option Addr) (c : Nat) : Prop where
  le : s.es.length ≤ c
  top : c ≤ 9223372036854775807
  len : s.es.length ≤ L
  at_ : EdsAt wr wr.heap.size A s.es
  fresh : FreshA w.heap.size A
  far : 0 < s.es.length → ∀ b o, A = some ⟨b, o, none⟩ → ¬ K b
theorem GotSy.keep {w wr w1 : World} {R L : Nat} {K J : Nat → Prop} {s : Sy} {A : Option Addr} {c : Nat} (h : GotSy w wr R L K s A c) (hk : KeepB J wr w1) (hJ : ∀ b, w.heap.size ≤ b → J b → K b) : GotSy w w1 R L K s A c := by
  refine ⟨h.le, h.top, h.len, fun hn => ?_, h.fresh, h.far⟩
  obtain ⟨b, o, hA, hb, hE⟩ := h.at_ hn
  have h1 := h.fresh b o hA
  have h2 := h.far hn b o hA
  have hnb : ¬ J b := fun e => h2 (hJ b h1 e)
  refine ⟨b, o, hA, Nat.lt_of_lt_of_le hb hk.size, fun i hi => ?_⟩
  rw [KeepB.cell_ hk hb hnb, KeepB.cell_ hk hb hnb, KeepB.cell_ hk hb hnb]
  exact hE i hi
theorem GotSy.call {w wr w1 : World} {R L : Nat} {K : Nat → Prop} {s : Sy} {A : Option Addr} {c : Nat} (h : GotSy w wr R L K s A c) (hk : KeepB (fun b => b = R) wr w1) (hR : R < w.heap.size) : GotSy w w1 R L K s A c := h.keep hk fun b h1 h2 => by omega
theorem GotSy.more {w wr : World} {R L L' : Nat} {K : Nat → Prop} {s : Sy} {A : Option Addr} {c : Nat} (h : GotSy w wr R L K s A c) (hL : L ≤ L') : GotSy w wr R L' K s A c := ⟨h.le, h.top, by have := h.len; omega, h.at_, h.fresh, h.far⟩
/-- What a drawing call gives is apart from all that was there. -/
theorem GotSy.new {w wr w1 : World} {R L : Nat} {K : Nat → Prop} {s : Sy} {A : Option Addr} {c : Nat} (h1 : s.es.length ≤ c) (h2 : c ≤ 9223372036854775807) (h3 : s.es.length ≤ L) (h4 : EdsAt w1 w1.heap.size A s.es) (h5 : FreshA wr.heap.size A) (hw : w.heap.size ≤ wr.heap.size) (hK : ∀ b, K b → b < wr.heap.size) : GotSy w w1 R L K s A c :=
  ⟨h1, h2, h3, h4, fun b o e => by have := h5 b o e; omega, fun _ b o e hk => by have := h5 b o e; have := hK b hk; omega⟩

/-- Two systems in two blocks. -/
structure TwoSt (w wr : World) (R P L b4 b5 : Nat) (s t : Sy) (A B : Option Addr) (c d : Nat) : Prop where
  sb : Blk wr b4 30 #[.int .i64 s.al, .int .i64 s.st, .slice A s.es.length c]
  tb : Blk wr b5 30 #[.int .i64 t.al, .int .i64 t.st, .slice B t.es.length d]
  sg : GotSy w wr R L (fun b => b = b4 ∨ b = b5) s A c
  tg : GotSy w wr R L (fun b => b = b4 ∨ b = b5) t B d
  rd : RdUp wr R P
  keep : KeepB (fun b => b = R) w wr
  l4 : w.heap.size ≤ b4
  l5 : w.heap.size ≤ b5
  ne : b4 ≠ b5
theorem TwoSt.call {w wr w1 : World} {R P P' L b4 b5 : Nat} {s t : Sy} {A B : Option Addr} {c d : Nat} (h : TwoSt w wr R P L b4 b5 s t A B c d) (hk : KeepB (fun b => b = R) wr w1) (hr : RdUp w1 R P') (hR : R < w.heap.size) : TwoSt w w1 R P' L b4 b5 s t A B c d :=
  ⟨h.sb.keep hk (by have := h.l4; omega), h.tb.keep hk (by have := h.l5; omega), h.sg.call hk hR, h.tg.call hk hR, hr, h.keep.trans hk, h.l4, h.l5, h.ne⟩
theorem TwoSt.more {w wr : World} {R P P' L L' b4 b5 : Nat} {s t : Sy} {A B : Option Addr} {c d : Nat} (h : TwoSt w wr R P L b4 b5 s t A B c d) (hP : P ≤ P') (hL : L ≤ L') : TwoSt w wr R P' L' b4 b5 s t A B c d :=
  ⟨h.sb, h.tb, h.sg.more hL, h.tg.more hL, h.rd.more hP, h.keep, h.l4, h.l5, h.ne⟩
theorem TwoSt.setS {w wr : World} {R P L b4 b5 : Nat} {s t s' : Sy} {A B A' : Option Addr} {c d c' : Nat} (h : TwoSt w wr R P L b4 b5 s t A B c d) (hs : GotSy w wr R L (fun b => b = b4 ∨ b = b5) s' A' c') (hR : R < w.heap.size) :
    TwoSt w (((wr.setCell ⟨b4, 0, none⟩ (.int .i64 s'.al)).setCell ⟨b4, 1, none⟩ (.int .i64 s'.st)).setCell ⟨b4, 2, none⟩ (.slice A' s'.es.length c')) R P L b4 b5 s' t A' B c' d := by
  have hk : KeepB (fun b => b = b4) wr (((wr.setCell ⟨b4, 0, none⟩ (.int .i64 s'.al)).setCell ⟨b4, 1, none⟩ (.int .i64 s'.st)).setCell ⟨b4, 2, none⟩ (.slice A' s'.es.length c')) := (((KeepB.refl _ wr).setCell _ _ (by simp)).setCell _ _ (by simp)).setCell _ _ (by simp)
  have h4 := h.l4
  have h5 := h.l5
  have hne := h.ne
  refine ⟨by simpa using ((h.sb.set_ 0 (.int .i64 s'.al)).set_ 1 (.int .i64 s'.st)).set_ 2 (.slice A' s'.es.length c'), h.tb.keep hk (by omega), hs.keep hk (fun b _ e => .inl e), h.tg.keep hk (fun b _ e => .inl e), h.rd.keep hk (by omega), ?_, h4, h5, hne⟩
  exact ((h.keep.setCell _ _ (by simp; omega)).setCell _ _ (by simp; omega)).setCell _ _ (by simp; omega)
theorem TwoSt.setT {w wr : World} {R P L b4 b5 : Nat} {s t t' : Sy} {A B B' : Option Addr} {c d d' : Nat} (h : TwoSt w wr R P L b4 b5 s t A B c d) (ht : GotSy w wr R L (fun b => b = b4 ∨ b = b5) t' B' d') (hR : R < w.heap.size) :
    TwoSt w (((wr.setCell ⟨b5, 0, none⟩ (.int .i64 t'.al)).setCell ⟨b5, 1, none⟩ (.int .i64 t'.st)).setCell ⟨b5, 2, none⟩ (.slice B' t'.es.length d')) R P L b4 b5 s t' A B' c d' := by
  have hk : KeepB (fun b => b = b5) wr (((wr.setCell ⟨b5, 0, none⟩ (.int .i64 t'.al)).setCell ⟨b5, 1, none⟩ (.int .i64 t'.st)).setCell ⟨b5, 2, none⟩ (.slice B' t'.es.length d')) := (((KeepB.refl _ wr).setCell _ _ (by simp)).setCell _ _ (by simp)).setCell _ _ (by simp)
  have h4 := h.l4
  have h5 := h.l5
  have hne := h.ne
  refine ⟨h.sb.keep hk (by omega), by simpa using ((h.tb.set_ 0 (.int .i64 t'.al)).set_ 1 (.int .i64 t'.st)).set_ 2 (.slice B' t'.es.length d'), h.sg.keep hk (fun b _ e => .inr e), ht.keep hk (fun b _ e => .inr e), h.rd.keep hk (by omega), ?_, h4, h5, hne⟩
  exact ((h.keep.setCell _ _ (by simp; omega)).setCell _ _ (by simp; omega)).setCell _ _ (by simp; omega)

/-- A statement at a block's end may be cut around too. -/
theorem cut_here {P : Program} {c : Code} {Q : Exit → Act → World → Prop} {a : Act} {w : World} (h : ∀ K : Act → World → Prop, (∀ a w, Q .normal a w → K a w) → c.wp P (Exit.then K Q) a w) : c.wp P Q a w := by
  refine wp_mono (h (fun a w => Q .normal a w) fun _ _ q => q) ?_
  intro e a' w' hq
  cases e <;> exact hq

theorem EdsAt.take {w : World} {B : Nat} {A : Option Addr} {es : List Ed} (h : EdsAt w B A es) (n : Nat) : EdsAt w B A (es.take n) := fun hn => by
  rw [List.length_take] at hn
  obtain ⟨b, o, h1, h2, h3⟩ := h (by omega)
  refine ⟨b, o, h1, h2, fun i hi => ?_⟩
  have := h3 i (by rw [List.length_take] at hi; omega)
  simpa [List.getElem_take] using this

def PairUp (R P L : Nat) (w : World) (e : Ending) (w' : World) : Prop :=
  ∃ (s t : Sy) (A B : Option Addr) (c d : Nat), e = .returned (.tuple #[s.val A c, t.val B d]) ∧ GotSy w w' R L (fun _ => False) s A c ∧ GotSy w w' R L (fun _ => False) t B d ∧ RdUp w' R P ∧ KeepB (fun b => b = R) w w'

theorem PairUp.drew {R P L : Nat} {w w' : World} {e : Ending} (h : PairUp R P L w e w') : PairUp R P L w e w'.drew := by
  obtain ⟨s, t, A, B, c, d, he, h1, h2, h3, h4⟩ := h
  have hb : Below w'.heap.size w' w'.drew := (Below.refl _ _).drew
  exact ⟨s, t, A, B, c, d, he, h1.keep (KeepB.of_below (K := fun _ => False) hb) (fun _ _ h => h), h2.keep (KeepB.of_below (K := fun _ => False) hb) (fun _ _ h => h), h3.later hb, h4.trans (KeepB.of_below hb)⟩
theorem TwoSt.fin {w w0 wr : World} {R P P' L L' b4 b5 : Nat} {s t : Sy} {A B : Option Addr} {c d : Nat} (h : TwoSt w0 wr R P L b4 b5 s t A B c d) (hb : Below w.heap.size w w0) (hsz : w.heap.size + 2 ≤ w0.heap.size) (hR : R < w.heap.size) (hP : P ≤ P') (hL : L ≤ L') {v1 v2 v3 v4 v5 v6 : Value} :
    PairUp R P' L' w (.returned (.tuple #[.agg #[.int .i64 s.al, .int .i64 s.st, .slice A s.es.length c], .agg #[.int .i64 t.al, .int .i64 t.st, .slice B t.es.length d]]))
      ((((((wr.setCell ⟨w.heap.size, 0, none⟩ v1).setCell ⟨w.heap.size, 1, none⟩ v2).setCell ⟨w.heap.size, 2, none⟩ v3).setCell ⟨w.heap.size + 1, 0, none⟩ v4).setCell ⟨w.heap.size + 1, 1, none⟩ v5).setCell ⟨w.heap.size + 1, 2, none⟩ v6) := by
  have hk : KeepB (fun b => b = w.heap.size ∨ b = w.heap.size + 1) wr ((((((wr.setCell ⟨w.heap.size, 0, none⟩ v1).setCell ⟨w.heap.size, 1, none⟩ v2).setCell ⟨w.heap.size, 2, none⟩ v3).setCell ⟨w.heap.size + 1, 0, none⟩ v4).setCell ⟨w.heap.size + 1, 1, none⟩ v5).setCell ⟨w.heap.size + 1, 2, none⟩ v6) :=
    ((((((KeepB.refl _ wr).setCell _ _ (by simp)).setCell _ _ (by simp)).setCell _ _ (by simp)).setCell _ _ (by simp)).setCell _ _ (by simp)).setCell _ _ (by simp)
  have hg : ∀ {s : Sy} {A : Option Addr} {c : Nat}, GotSy w0 wr R L (fun b => b = b4 ∨ b = b5) s A c → GotSy w ((((((wr.setCell ⟨w.heap.size, 0, none⟩ v1).setCell ⟨w.heap.size, 1, none⟩ v2).setCell ⟨w.heap.size, 2, none⟩ v3).setCell ⟨w.heap.size + 1, 0, none⟩ v4).setCell ⟨w.heap.size + 1, 1, none⟩ v5).setCell ⟨w.heap.size + 1, 2, none⟩ v6) R L' (fun _ => False) s A c := fun {s A c} g => by
    have g2 := g.keep hk fun b h1 h2 => by omega
    exact ⟨g2.le, g2.top, by have := g2.len; omega, g2.at_, fun b o e => by have := g2.fresh b o e; omega, fun _ _ _ _ h => h⟩
  refine ⟨s, t, A, B, c, d, rfl, hg h.sg, hg h.tg, (h.rd.more hP).keep hk (by omega), ?_⟩
  exact ((((((((KeepB.of_below hb).trans h.keep).setCell _ _ (by simp)).setCell _ _ (by simp)).setCell _ _ (by simp)).setCell _ _ (fun hh => by have : w.heap.size + 1 < w.heap.size := hh; omega)).setCell _ _ (fun hh => by have : w.heap.size + 1 < w.heap.size := hh; omega)).setCell _ _ (fun hh => by have : w.heap.size + 1 < w.heap.size := hh; omega))

set_option maxRecDepth 100000 in
set_option maxHeartbeats 16000000 in
theorem l6Pair_up (R P : Nat) (w : World) (hP : P + 50000000 ≤ 1125899906842624) (hr : RdUp w R P) :
    Calls Tryd.prog 104 #[.pointer (some ⟨R, 0, none⟩)] w (PairUp R (P + 20000000) 40000 w) := by
  have hR := hr.lt
  have hres2 := (Blk.new w 30 #[.int .i64 0, .int .i64 0, .slice none 0 0]).alloc (.cells #[.int .i64 0, .int .i64 0, .slice none 0 0] 30)
  have hres3 := Blk.new (w.alloc (.cells #[.int .i64 0, .int .i64 0, .slice none 0 0] 30)) 30 #[.int .i64 0, .int .i64 0, .slice none 0 0]
  have hb0 : Below w.heap.size w ((w.alloc (.cells #[.int .i64 0, .int .i64 0, .slice none 0 0] 30)).alloc (.cells #[.int .i64 0, .int .i64 0, .slice none 0 0] 30)) := ((Below.refl _ _).alloc (Nat.le_refl _) _).alloc (by simp) _
  have hsz0 : ((w.alloc (.cells #[.int .i64 0, .int .i64 0, .slice none 0 0] 30)).alloc (.cells #[.int .i64 0, .int .i64 0, .slice none 0 0] 30)).heap.size = w.heap.size + 2 := by simp
  simp only [World.size_alloc] at hres3
  generalize hw0 : (w.alloc (.cells #[.int .i64 0, .int .i64 0, .slice none 0 0] 30)).alloc (.cells #[.int .i64 0, .int .i64 0, .slice none 0 0] 30) = w0 at hres2 hres3 hb0 hsz0
  have hr0 := hid (hr.later hb0)
  have hR0 : R < w0.heap.size := by omega
  replace hres2 := hid hres2
  replace hres3 := hid hres3
  replace hsz0 := hid hsz0
  clear hr
  go_enter Tryd.func104, Tryd.ntmps104
  go_wp2_with fail
  refine (l2Draw_up R P w0 (by omega) hr0.out).mono ?_
  rintro e w1 ⟨s, A, c, rfl, a1, a2, a3, a4, a5, a6, a7⟩
  unfold Sy.val
  have hz1 := a7.size
  have hba : Below w1.heap.size w1 (w1.alloc (.cells #[.int .i64 s.al, .int .i64 s.st, .slice A s.es.length c] 30)) := (Below.refl _ _).alloc (Nat.le_refl _) _
  have hs1 := hid (a4.later hba)
  have hnb := Blk.new w1 30 #[.int .i64 s.al, .int .i64 s.st, .slice A s.es.length c]
  have hkr1 := hid (a7.trans (KeepB.of_below hba))
  have hrd1 := hid (a6.later hba)
  have hfa := hid a5
  have hfar : Hid (∀ b o, A = some ⟨b, o, none⟩ → 0 < s.es.length → b < w1.heap.size) := hid (fun b o e hn => by obtain ⟨b', o', e', hb', -⟩ := a4 hn; rw [e] at e'; cases e'; exact hb')
  generalize hwa : w1.alloc (.cells #[.int .i64 s.al, .int .i64 s.st, .slice A s.es.length c] 30) = wa at hs1 hnb hkr1 hrd1 hba
  have hza : w1.heap.size < wa.heap.size := hnb.lt
  clear a4 a5 a6 a7 hw0
  have c0 := hnb.cell 0
  have c1 := hnb.cell 1
  have c2 := hnb.cell 2
  simp only [List.getElem?_toArray, List.getElem?_cons_zero, List.getElem?_cons_succ] at c0 c1 c2
  go_wp2_with fail
  refine (l6Change_up R (P + 2000) 1536 s A c wa (by omega) a1 a2 a3 (by omega) hs1.out (fun b o e => by have := hfa.out b o e; omega) hrd1.out).mono ?_
  rintro e w2 ⟨t, B, d, rfl, b1, b2, b3, b4, b5, b6, b7⟩
  unfold Sy.val
  have hz2 := b7.size
  have hbb : Below w2.heap.size w2 (w2.alloc (.cells #[.int .i64 t.al, .int .i64 t.st, .slice B t.es.length d] 30)) := (Below.refl _ _).alloc (Nat.le_refl _) _
  have hT2 : TwoSt w0 (w2.alloc (.cells #[.int .i64 t.al, .int .i64 t.st, .slice B t.es.length d] 30)) R (P + 2000 + 4000000) 3073 w1.heap.size w2.heap.size s t A B c d := by
    refine ⟨(hnb.keep b7 (by omega)).alloc _, Blk.new w2 _ _, ⟨a1, a2, by omega, (EdsAt.keepR hs1.out b7 (fun b o e => by have := hfa.out b o e; omega)).later hbb, hfa.out, fun hn b o e hk => ?_⟩, ⟨b1, b2, b3, b4.later hbb, fun b o e => by have := b5 b o e; omega, fun hn b o e hk => ?_⟩, b6.later hbb, (hkr1.out.trans b7).trans (KeepB.of_below hbb), by omega, by omega, by omega⟩
    · have := hfar.out b o e hn; omega
    · obtain ⟨b', o', e', hb', -⟩ := b4 hn
      rw [e] at e'; cases e'
      have := b5 b o e
      omega
  generalize hwb : w2.alloc (.cells #[.int .i64 t.al, .int .i64 t.st, .slice B t.es.length d] 30) = wb at hT2 hbb
  replace hT2 := hid hT2
  clear b4 b5 b6 b7 hbb hs1 hnb hkr1 hrd1 hfa hfar hwa hba c0 c1 c2
  go_wp2_with fail
  refine (pick_up R (P + 2000 + 4000000) 4 wb (by omega) (by omega) hT2.out.rd).mono ?_
  rintro e w3 ⟨j, rfl, hj0, hj1, hr3, hk3⟩
  have hT3 := hid (hT2.out.call hk3 hr3 hR0)
  clear hr3 hk3 hT2 hwb
  go_upto_if 13 with fail
  refine cut_here fun KC hKC => ?_
  go_cut [] (fun wx => ∃ (t : Sy) (B : Option Addr) (d : Nat), TwoSt w0 wx R (P + 9000000) 7000 w1.heap.size w2.heap.size s t A B c d)
  case first =>
    by_cases h0 : j = 0
    · subst h0
      have c0 := hT3.out.sb.cell 0
      simp only [List.getElem?_toArray, List.getElem?_cons_zero, List.getElem?_cons_succ] at c0
      have hneR : w1.heap.size ≠ R := by omega
      have q0 := RI.cell hT3.out.rd c0 hneR
      go_wp2_with fail
      clear c0
      refine GK.wp_region 9 [9, 10] 200 (KeepB fun b => b = R) (RI w3 R (P + 2000 + 4000000 + 1)) (fun _ u _ => ∃ x : Int, u = .int .i64 x ∧ x ≤ 4) (by kernel_rfl) (by kernel_rfl) (RI.way w3 R _) (by decide) (RI.drew hT3.out.rd) ?_
      simp only [List.take_succ_cons, List.take_zero]
      (repeat (refine GK.grow_quiet w3 (by rfl) (by rfl) ?_; intro K hK; go_big_quiet_op; go_big_quiet_on))
      refine GK.grow_new (K := fun b => b = R) (by rfl) w3.heap.size (fun b => .slice (some ⟨b, 0, none⟩) 4 4) 3 #[.int .i64 2, .int .i64 3, .int .i64 1, .int .i64 4] (fun _ => by go_simp) rfl (fun _ _ o h => RI.alloc o h) (fun _ _ h => RI.size h) (fun k hk => by have := hT3.out.rd.lt; omega) (fun g hg => ?_)
      simp only [Act.put, List.setIfInBounds_toArray, List.set_cons_zero, List.set_cons_succ]
      (repeat (refine GK.grow_quiet w3 (by rfl) (by rfl) ?_; intro K hK; go_big_quiet_op; go_big_quiet_on))
      refine GK.grow_call (by rfl) (fun u w w' _ h => h) (fun m wq hm hbq hf => ?_) ?_
      · obtain ⟨b', z1, z2, z3⟩ := hf _ List.mem_cons_self (by kernel_rfl)
        cases z1
        have hlt4 := hT3.out.rd.lt
        go_simp
        exact ⟨rfl, (num_blk R (P + 2000 + 4000000 + 1 + m * 10000) g [2, 3, 1, 4] wq _ (by decide) (by decide) (by omega) z3 (by omega) hbq.2).mono fun e w' ⟨x, h1, h2, h3, h4⟩ => ⟨_, h2, RI.call hbq h4 h3 (by omega), x, rfl, by simp at h1; omega⟩⟩
      rintro u ⟨_, _, _, x1, rfl, hx1⟩
      simp only [Act.put, List.setIfInBounds_toArray, List.set_cons_zero, List.set_cons_succ]
      (repeat (refine GK.grow_quiet w3 (by rfl) (by rfl) ?_; intro K hK; go_big_quiet_op; go_big_quiet_on))
      refine GK.grow_new (K := fun b => b = R) (by rfl) w3.heap.size (fun b => .slice (some ⟨b, 0, none⟩) 2 2) 3 #[.int .i64 2, .int .i64 3] (fun _ => by go_simp) rfl (fun _ _ o h => RI.alloc o h) (fun _ _ h => RI.size h) (fun k hk => by have := hT3.out.rd.lt; omega) (fun g2 hg2 => ?_)
      simp only [Act.put, List.setIfInBounds_toArray, List.set_cons_zero, List.set_cons_succ]
      (repeat (refine GK.grow_quiet w3 (by rfl) (by rfl) ?_; intro K hK; go_big_quiet_op; go_big_quiet_on))
      refine GK.grow_call (by rfl) (fun u w w' _ h => h) (fun m wq hm hbq hf => ?_) ?_
      · obtain ⟨b', z1, z2, z3⟩ := hf _ List.mem_cons_self (by kernel_rfl)
        cases z1
        have hlt4 := hT3.out.rd.lt
        go_simp
        exact ⟨rfl, (num_blk R (P + 2000 + 4000000 + 1 + m * 10000) g2 [2, 3] wq _ (by decide) (by decide) (by omega) z3 (by omega) hbq.2).mono fun e w' ⟨x, h1, h2, h3, h4⟩ => ⟨_, h2, RI.call hbq h4 h3 (by omega), x, rfl, by simp at h1; omega⟩⟩
      rintro u ⟨_, _, _, x2, rfl, hx2⟩
      simp only [Act.put, List.setIfInBounds_toArray, List.set_cons_zero, List.set_cons_succ]
      refine GK.grow_nil ?_
      intro w4 hw4 _
      simp only [List.filterMap_cons, List.filterMap_nil, List.getElem?_cons_zero, List.getElem?_cons_succ]
      have hT4 := hid (hT3.out.call hw4.1 hw4.2 hR0)
      clear q0 hw4
      go_wp2_with fail
      refine (l2Random_up R _ s.al x1 x2 w4 (by omega) (by omega) (by omega) hT4.out.rd).mono ?_
      rintro e w5 ⟨t', B', d', rfl, a1, a2, a3, a4, a5, a6, a7⟩
      unfold Sy.val
      have hT5 := (hT4.out.call a7 a6 hR0).more (L' := 7000) (Nat.le_refl _) (by omega)
      have h4l := hT4.out.sb.lt
      have h5l := hT4.out.tb.lt
      have hG := GotSy.new (w := w0) (R := R) (L := 7000) (K := fun b => b = w1.heap.size ∨ b = w2.heap.size) a1 a2 (by omega) a4 a5 hT4.out.keep.size (by rintro b (e | e) <;> omega)
      have hT6 := hid ((hT5.setT hG hR0).more (P' := P + 9000000) (L' := 7000) (by omega) (Nat.le_refl _))
      have f0 := hT5.tb.frozen 0
      have f1 := hT5.tb.frozen 1
      have f2 := hT5.tb.frozen 2
      have d0 := hT5.tb.cell 0
      have d1 := hT5.tb.cell 1
      have d2 := hT5.tb.cell 2
      simp only [List.getElem?_toArray, List.getElem?_cons_zero, List.getElem?_cons_succ] at d0 d1 d2
      have h5l5 := hT5.tb.lt
      clear a4 a5 a6 a7 hT5 hG
      go_wp2_with fail
      go_meet
      exact ⟨t', B', d', hT6.out⟩
    · have h0b : ((j : Int) == 0) = false := by simpa using h0
      replace h0 := hid h0
      by_cases h1 : j = 1
      · subst h1
        have d0 := hT3.out.tb.cell 0
        have d1 := hT3.out.tb.cell 1
        have d2 := hT3.out.tb.cell 2
        simp only [List.getElem?_toArray, List.getElem?_cons_zero, List.getElem?_cons_succ] at d0 d1 d2
        go_wp2_with fail
        refine (l6Change_up R (P + 2000 + 4000000 + 1) 3073 t B d w3 (by omega) hT3.out.tg.le hT3.out.tg.top hT3.out.tg.len (by omega) hT3.out.tg.at_ (fun b o e => by have := hT3.out.tg.fresh b o e; omega) hT3.out.rd).mono ?_
        rintro e w5 ⟨t', B', d', rfl, a1, a2, a3, a4, a5, a6, a7⟩
        unfold Sy.val
        clear d0 d1 d2
        have hT5 := (hT3.out.call a7 a6 hR0).more (L' := 7000) (Nat.le_refl _) (by omega)
        have h4l := hT3.out.sb.lt
        have h5l := hT3.out.tb.lt
        have hG := GotSy.new (w := w0) (R := R) (L := 7000) (K := fun b => b = w1.heap.size ∨ b = w2.heap.size) a1 a2 (by omega) a4 a5 hT3.out.keep.size (by rintro b (e | e) <;> omega)
        have hT6 := hid ((hT5.setT hG hR0).more (P' := P + 9000000) (L' := 7000) (by omega) (Nat.le_refl _))
        have f0 := hT5.tb.frozen 0
        have f1 := hT5.tb.frozen 1
        have f2 := hT5.tb.frozen 2
        have d0 := hT5.tb.cell 0
        have d1 := hT5.tb.cell 1
        have d2 := hT5.tb.cell 2
        simp only [List.getElem?_toArray, List.getElem?_cons_zero, List.getElem?_cons_succ] at d0 d1 d2
        have h5l5 := hT5.tb.lt
        clear a4 a5 a6 a7 hT5 hG
        go_wp2_with fail
        go_meet
        exact ⟨t', B', d', hT6.out⟩
      · have h1b : ((j : Int) == 1) = false := by simpa using h1
        replace h1 := hid h1
        go_wp2_with fail
        go_meet
        exact ⟨t, B, d, hT3.out.more (by omega) (by omega)⟩
  case rest =>
    refine hKC _ _ ?_
    clear hT3
    obtain ⟨t, B, d, hT3⟩ := hcut
    replace hT3 := hid hT3
    go_wp2_with fail
    refine (pick_up R (P + 9000000) 24 wc (by omega) (by omega) hT3.out.rd).mono ?_
    rintro e w8 ⟨j2, rfl, hj20, hj21, hr8, hk8⟩
    have hT8 := hid (hT3.out.call hk8 hr8 hR0)
    clear hr8 hk8 hT3
    go_upto_if 32 with fail
    refine cut_here fun KD hKD => ?_
    go_cut [] (fun wx => ∃ (s t : Sy) (A B : Option Addr) (c d : Nat), TwoSt w0 wx R (P + 15000000) 8000 w1.heap.size w2.heap.size s t A B c d)
    case first =>
      by_cases h0 : j2 = 0
      · subst h0
        have d0 := hT8.out.sb.cell 0
        have d1 := hT8.out.sb.cell 1
        have d2 := hT8.out.sb.cell 2
        simp only [List.getElem?_toArray, List.getElem?_cons_zero, List.getElem?_cons_succ] at d0 d1 d2
        go_wp2_with fail
        refine (l2Wrong_up R (P + 9000001) 7000 s A c w8 (by omega) hT8.out.sg.le hT8.out.sg.top hT8.out.sg.len (by omega) hT8.out.sg.at_ hT8.out.rd).mono ?_
        rintro e w9 ⟨s1, A1, c1, rfl, a1, a2, a3, a4, a5, a6, a7⟩
        unfold Sy.val
        clear d0 d1 d2
        have hT9 := hid (hT8.out.call a7 a6 hR0)
        have hE9 := hid a4
        have hr9 := hid a6
        clear a4 a5 a6 a7
        go_wp2_with fail
        refine (l2Wrong_up R (P + 9000001 + 400000) 7001 s1 A1 c1 w9 (by omega) a1 a2 a3 (by omega) hE9.out hr9.out).mono ?_
        rintro e w10 ⟨s2, A2, c2, rfl, e1, e2, e3, e4, e5, e6, e7⟩
        unfold Sy.val
        have hT10 := hid (hT9.out.call e7 e6 hR0)
        have hE10 := hid e4
        have hr10 := hid e6
        clear a1 a2 a3 e4 e5 e6 e7
        go_wp2_with fail
        refine (l2Wrong_up R (P + 9000001 + 400000 + 400000) 7002 s2 A2 c2 w10 (by omega) e1 e2 e3 (by omega) hE10.out hr10.out).mono ?_
        rintro e w11 ⟨s3, A3, c3, rfl, a1, a2, a3, a4, a5, a6, a7⟩
        unfold Sy.val
        clear e1 e2 e3
        have h4l := hT10.out.sb.lt
        have h5l := hT10.out.tb.lt
        have hG := GotSy.new (w := w0) (R := R) (L := 8000) (K := fun b => b = w1.heap.size ∨ b = w2.heap.size) a1 a2 (by omega) a4 a5 hT10.out.keep.size (by rintro b (e | e) <;> omega)
        have hT5 := (hT10.out.call a7 a6 hR0).more (L' := 8000) (Nat.le_refl _) (by omega)
        have hT6 := hid ((hT5.setS hG hR0).more (P' := P + 15000000) (L' := 8000) (by omega) (Nat.le_refl _))
        have f0 := hT5.sb.frozen 0
        have f1 := hT5.sb.frozen 1
        have f2 := hT5.sb.frozen 2
        have d0 := hT5.sb.cell 0
        have d1 := hT5.sb.cell 1
        have d2 := hT5.sb.cell 2
        simp only [List.getElem?_toArray, List.getElem?_cons_zero, List.getElem?_cons_succ] at d0 d1 d2
        have h5l5 := hT5.sb.lt
        clear a4 a5 a6 a7 hT5 hG
        go_wp2_with fail
        go_meet
        exact ⟨_, _, _, _, _, _, hT6.out⟩
      · have h0b : ((j2 : Int) == 0) = false := by simpa using h0
        replace h0 := hid h0
        by_cases h1 : j2 = 1
        · subst h1
          have d0 := hT8.out.tb.cell 0
          have d1 := hT8.out.tb.cell 1
          have d2 := hT8.out.tb.cell 2
          simp only [List.getElem?_toArray, List.getElem?_cons_zero, List.getElem?_cons_succ] at d0 d1 d2
          go_wp2_with fail
          refine (l2Wrong_up R (P + 9000001) 7000 t B d w8 (by omega) hT8.out.tg.le hT8.out.tg.top hT8.out.tg.len (by omega) hT8.out.tg.at_ hT8.out.rd).mono ?_
          rintro e w9 ⟨s1, A1, c1, rfl, a1, a2, a3, a4, a5, a6, a7⟩
          unfold Sy.val
          clear d0 d1 d2
          have hT9 := hid (hT8.out.call a7 a6 hR0)
          have hE9 := hid a4
          have hr9 := hid a6
          clear a4 a5 a6 a7
          go_wp2_with fail
          refine (l2Wrong_up R (P + 9000001 + 400000) 7001 s1 A1 c1 w9 (by omega) a1 a2 a3 (by omega) hE9.out hr9.out).mono ?_
          rintro e w10 ⟨s2, A2, c2, rfl, e1, e2, e3, e4, e5, e6, e7⟩
          unfold Sy.val
          have hT10 := hid (hT9.out.call e7 e6 hR0)
          have hE10 := hid e4
          have hr10 := hid e6
          clear a1 a2 a3 e4 e5 e6 e7
          go_wp2_with fail
          refine (l2Wrong_up R (P + 9000001 + 400000 + 400000) 7002 s2 A2 c2 w10 (by omega) e1 e2 e3 (by omega) hE10.out hr10.out).mono ?_
          rintro e w11 ⟨s3, A3, c3, rfl, a1, a2, a3, a4, a5, a6, a7⟩
          unfold Sy.val
          clear e1 e2 e3
          have h4l := hT10.out.sb.lt
          have h5l := hT10.out.tb.lt
          have hG := GotSy.new (w := w0) (R := R) (L := 8000) (K := fun b => b = w1.heap.size ∨ b = w2.heap.size) a1 a2 (by omega) a4 a5 hT10.out.keep.size (by rintro b (e | e) <;> omega)
          have hT5 := (hT10.out.call a7 a6 hR0).more (L' := 8000) (Nat.le_refl _) (by omega)
          have hT6 := hid ((hT5.setT hG hR0).more (P' := P + 15000000) (L' := 8000) (by omega) (Nat.le_refl _))
          have f0 := hT5.tb.frozen 0
          have f1 := hT5.tb.frozen 1
          have f2 := hT5.tb.frozen 2
          have d0 := hT5.tb.cell 0
          have d1 := hT5.tb.cell 1
          have d2 := hT5.tb.cell 2
          simp only [List.getElem?_toArray, List.getElem?_cons_zero, List.getElem?_cons_succ] at d0 d1 d2
          have h5l5 := hT5.tb.lt
          clear a4 a5 a6 a7 hT5 hG
          go_wp2_with fail
          go_meet
          exact ⟨_, _, _, _, _, _, hT6.out⟩
        · have h1b : ((j2 : Int) == 1) = false := by simpa using h1
          replace h1 := hid h1
          by_cases h2 : j2 = 2
          · subst h2
            go_wp2_with fail
            refine (l2Draw_up R (P + 9000001) w8 (by omega) hT8.out.rd).mono ?_
            rintro e w9 ⟨s1, A1, c1, rfl, a1, a2, a3, a4, a5, a6, a7⟩
            unfold Sy.val
            have h4l := hT8.out.sb.lt
            have h5l := hT8.out.tb.lt
            have hG := GotSy.new (w := w0) (R := R) (L := 8000) (K := fun b => b = w1.heap.size ∨ b = w2.heap.size) a1 a2 (by omega) a4 a5 hT8.out.keep.size (by rintro b (e | e) <;> omega)
            have hT5 := (hT8.out.call a7 a6 hR0).more (L' := 8000) (Nat.le_refl _) (by omega)
            have hT6 := hid ((hT5.setT hG hR0).more (P' := P + 15000000) (L' := 8000) (by omega) (Nat.le_refl _))
            have f0 := hT5.tb.frozen 0
            have f1 := hT5.tb.frozen 1
            have f2 := hT5.tb.frozen 2
            have d0 := hT5.tb.cell 0
            have d1 := hT5.tb.cell 1
            have d2 := hT5.tb.cell 2
            simp only [List.getElem?_toArray, List.getElem?_cons_zero, List.getElem?_cons_succ] at d0 d1 d2
            have h5l5 := hT5.tb.lt
            clear a4 a5 a6 a7 hT5 hG
            go_wp2_with fail
            go_meet
            exact ⟨_, _, _, _, _, _, hT6.out⟩
          · have h2b : ((j2 : Int) == 2) = false := by simpa using h2
            replace h2 := hid h2
            by_cases h3 : j2 = 3
            · subst h3
              go_wp2_with fail
              refine (l2Big_up R (P + 9000001) w8 (by omega) hT8.out.rd).mono ?_
              rintro e w9 ⟨s1, A1, c1, rfl, a1, a2, a3, a4, a5, a6, a7, a8⟩
              unfold Sy.val
              have hn4 := hT8.out.sb.lt
              have hn5 := hT8.out.tb.lt
              have hG := GotSy.new (w := w0) (R := R) (L := 8000) (K := fun b => b = w1.heap.size ∨ b = w2.heap.size) a1 a2 (by omega) a4 a5 hT8.out.keep.size (by rintro b (e | e) <;> omega)
              have hT5 := (hT8.out.call a7 a6 hR0).more (L' := 8000) (Nat.le_refl _) (by omega)
              have hT6 := hT5.setS hG hR0
              have f0 := hT5.sb.frozen 0
              have f1 := hT5.sb.frozen 1
              have f2 := hT5.sb.frozen 2
              have d0 := hT5.sb.cell 0
              have d1 := hT5.sb.cell 1
              have d2 := hT5.sb.cell 2
              simp only [List.getElem?_toArray, List.getElem?_cons_zero, List.getElem?_cons_succ] at d0 d1 d2
              have h5l5 := hT5.sb.lt
              obtain ⟨w10, hw10⟩ : ∃ w10, ((w9.setCell ⟨w1.heap.size, 0, none⟩ (.int .i64 s1.al)).setCell ⟨w1.heap.size, 1, none⟩ (.int .i64 s1.st)).setCell ⟨w1.heap.size, 2, none⟩ (.slice A1 s1.es.length c1) = w10 := ⟨_, rfl⟩
              rw [hw10] at hT6
              replace hT6 := hid hT6
              obtain ⟨n, hn⟩ : ∃ n, Hid (s1.es.length = n + 1) := ⟨s1.es.length - 1, hid (by omega)⟩
              clear a4 a5 a6 a7 hT5 hG
              go_upto_region 17 with fail
              clear d0 d1 d2 f0 f1 f2 hw10
              have c0 := hT6.out.sb.cell 0
              have c1' := hT6.out.sb.cell 1
              have c2 := hT6.out.sb.cell 2
              simp only [List.getElem?_toArray, List.getElem?_cons_zero, List.getElem?_cons_succ] at c0 c1' c2
              have q0 := GK.BI.cell c0
              have q1 := GK.BI.cell c1'
              have q2 := GK.BI.cell c2
              have hnl := hn.out
              have k1 : IntKind.i64.wrap ((s1.es.length : Int) - 1) = (n : Int) := by rw [IntWalk.i64_in _ (by omega)]; omega
              have k2 : (0 : Int) ≤ (n : Int) := by omega
              have k3 : (n : Int) ≤ (c1 : Int) := by omega
              have hlt : (s1.es.take n).length = n := by rw [List.length_take]; omega
              have hEt := hid (EdsAt.take hT6.out.sg.at_ n)
              obtain ⟨i0, hi, hz0, hz1, hz2⟩ := info_parts infoEd
              clear c0 c1' c2
              refine GK.wp_region 13 [13, 14] 200 (KeepB fun _ => False) (GK.BI w10) (fun _ _ _ => True) (by kernel_rfl) (by kernel_rfl) (GK.BI.way w10) (by decide) (Below.refl _ _).drew ?_
              simp only [List.take_succ_cons, List.take_zero]
              (repeat (refine GK.grow_quiet w10 (by rfl) (by rfl) ?_; intro K hK; go_big_quiet_op; go_big_quiet_on))
              refine GK.grow_new (K := fun _ => False) (by rfl) _ (fun b => .slice (some ⟨b, 0, none⟩) 0 0) 66 #[] (fun _ => by go_simp) rfl (fun _ _ o h => GK.BI.alloc o h) (fun _ _ h => GK.BI.size h) (fun _ h => h.elim) (fun b hb => ?_)
              simp only [Act.put, List.setIfInBounds_toArray, List.set_cons_zero, List.set_cons_succ]
              (repeat (refine GK.grow_quiet w10 (by rfl) (by rfl) ?_; intro K hK; go_big_quiet_op; go_big_quiet_on))
              refine GK.grow_copy (by rfl) _ _ 28 (by rfl) 66 i0 (.agg #[.int .i64 0, .int .i64 0, .int .i64 0]) 3 24 Tryd.underlying28 hi hz0 hz1 hz2 rfl b (by rfl) (fun w hf => ?_) A1 n c1 (edCells (s1.es.take n)) (by rfl) (by rw [edCells_len, hlt]) (fun hn => EdsAt.news hEt.out (by rw [hlt]; exact hn)) (edCells_one _) (by unfold maxLen; omega) (by omega) fun v hv => ?_
              · obtain ⟨b', e1, e2, e3⟩ := hf _ List.mem_cons_self (by kernel_rfl)
                cases e1
                exact ⟨e2, e3⟩
              obtain ⟨Av, cv, hve, -, -⟩ : ∃ Av cv, v = .slice Av n cv ∧ n ≤ cv ∧ cv ≤ 9223372036854775807 := by obtain ⟨_, _, hv⟩ := hv; exact own_slice hv
              subst hve
              clear hv
              simp only [Act.put, List.setIfInBounds_toArray, List.set_cons_zero, List.set_cons_succ]
              refine GK.grow_nil ?_
              intro w11 hw11 hf
              simp only [List.filterMap_cons, List.filterMap_nil, List.getElem?_cons_zero, List.getElem?_cons_succ]
              have hown := hf _ List.mem_cons_self
              replace hw11 : Below w10.heap.size w10 w11 := hw11
              clear hf q0 q1 q2
              have hown' : OwnEds w11 w10.heap.size (.slice Av n cv) (s1.es.take n) := by unfold OwnEds; rw [hlt]; exact hown
              obtain ⟨A2, c2, hve, e1, e2, e3, e4⟩ := OwnEds.read hown'
              rw [hlt] at hve e1
              cases hve
              have hT7 := (hT6.out.call (KeepB.of_below hw11) (hT6.out.rd.later hw11) hR0)
              have hlw : w1.heap.size < w10.heap.size ∧ w2.heap.size < w10.heap.size := ⟨hT6.out.sb.lt, hT6.out.tb.lt⟩
              have hG := GotSy.new (w := w0) (R := R) (L := 8000) (K := fun b => b = w1.heap.size ∨ b = w2.heap.size) (s := ⟨s1.al, s1.st, s1.es.take n⟩) (by show (s1.es.take n).length ≤ cv; rw [hlt]; exact e1) e2 (by show (s1.es.take n).length ≤ 8000; omega) e3 e4 hT6.out.keep.size (by rintro b (e | e) <;> omega)
              have hT8 := ((hT7.setT hG hR0).more (P' := P + 15000000) (L' := 8000) (by omega) (Nat.le_refl _))
              simp only [hlt] at hT8
              replace hT8 := hid hT8
              have f0 := hT7.tb.frozen 0
              have f1 := hT7.tb.frozen 1
              have f2 := hT7.tb.frozen 2
              have d0 := hT7.tb.cell 0
              have d1 := hT7.tb.cell 1
              have d2 := hT7.tb.cell 2
              simp only [List.getElem?_toArray, List.getElem?_cons_zero, List.getElem?_cons_succ] at d0 d1 d2
              have h5l5 := hT7.tb.lt
              clear hT7 hG hown hown'
              go_wp2_with fail
              go_meet
              exact ⟨_, _, _, _, _, _, hT8.out⟩
            · have h3b : ((j2 : Int) == 3) = false := by simpa using h3
              replace h3 := hid h3
              go_wp2_with fail
              go_meet
              exact ⟨_, _, _, _, _, _, hT8.out.more (by omega) (by omega)⟩
    case rest =>
      refine hKD _ _ ?_
      clear hT8
      obtain ⟨s, t, A, B, c, d, hT⟩ := hcut
      have hk := hT.keep
      have hb2 := hres2.out.keep hk (by omega)
      have hb3 := hres3.out.keep hk (by omega)
      have c0 := hT.sb.cell 0
      have c1 := hT.sb.cell 1
      have c2 := hT.sb.cell 2
      have d0 := hT.tb.cell 0
      have d1 := hT.tb.cell 1
      have d2 := hT.tb.cell 2
      have r0 := hb2.cell 0
      have r1 := hb2.cell 1
      have r2 := hb2.cell 2
      have r3 := hb3.cell 0
      have r4 := hb3.cell 1
      have r5 := hb3.cell 2
      have f0 := hb2.frozen 0
      have f1 := hb2.frozen 1
      have f2 := hb2.frozen 2
      have f3 := hb3.frozen 0
      have f4 := hb3.frozen 1
      have f5 := hb3.frozen 2
      simp only [List.getElem?_toArray, List.getElem?_cons_zero, List.getElem?_cons_succ] at c0 c1 c2 d0 d1 d2 r0 r1 r2 r3 r4 r5
      have s0 := hsz0.out
      have n1 : w1.heap.size ≠ w.heap.size := by omega
      have n2 : w1.heap.size ≠ w.heap.size + 1 := by omega
      have n3 : w2.heap.size ≠ w.heap.size := by omega
      have n4 : w2.heap.size ≠ w.heap.size + 1 := by omega
      have l1 := hT.sb.lt
      have l2 := hT.tb.lt
      have l3 := hb2.lt
      have l4 := hb3.lt
      have hfin := hid (hT.fin (hb0) (by omega : w.heap.size + 2 ≤ w0.heap.size) hR (P' := P + 20000000) (L' := 40000) (by omega) (by omega) (v1 := .int .i64 s.al) (v2 := .int .i64 s.st) (v3 := .slice A s.es.length c) (v4 := .int .i64 t.al) (v5 := .int .i64 t.st) (v6 := .slice B t.es.length d))
      clear hb2 hb3 hk hT
      go_wp2_with fail
      go_region
      go_wp2
      refine bodyPost_ret (v := .tuple #[.agg #[.int .i64 s.al, .int .i64 s.st, .slice A s.es.length c], .agg #[.int .i64 t.al, .int .i64 t.st, .slice B t.es.length d]]) (by simp [results, Tryd.results104, go_sem, r0, r1, r2, r3, r4, r5]) rfl ?_
      exact hfin.out.drew

end Go.Proofs.YtkoganldcmhopaaDoor

/- The drawing kit: the pairs of systems that are drawn for FirstTraceOutside, TracesWithin, SameTraces. -/
namespace Go.Proofs.YtkoganldcmhopaaDoor
open Go.RowKit Go.BigFrame AG

def DrawPair (w : World) (e : Ending) (w' : World) : Prop := ∃ (s t : Sy) (A B : Option Addr) (c d : Nat), e = .returned (.tuple #[s.val A c, t.val B d]) ∧ s.es.length ≤ c ∧ c ≤ 9223372036854775807 ∧ t.es.length ≤ d ∧ d ≤ 9223372036854775807 ∧
  EdsAt w' w'.heap.size A s.es ∧ EdsAt w' w'.heap.size B t.es ∧ Below w.heap.size w w'
theorem DrawPair.of {w w1 wr : World} {R L : Nat} {K J : Nat → Prop} {s t : Sy} {A B : Option Addr} {c d : Nat} (h1 : GotSy w1 wr R L K s A c) (h2 : GotSy w1 wr R L J t B d) (hz : w.heap.size + 2 ≤ w1.heap.size) (hb : Below w.heap.size w wr) (v1 v2 v3 v4 v5 v6 : Value) :
    DrawPair w (.returned (.tuple #[.agg #[.int .i64 s.al, .int .i64 s.st, .slice A s.es.length c], .agg #[.int .i64 t.al, .int .i64 t.st, .slice B t.es.length d]]))
      ((((((wr.setCell ⟨w.heap.size, 0, none⟩ v1).setCell ⟨w.heap.size, 1, none⟩ v2).setCell ⟨w.heap.size, 2, none⟩ v3).setCell ⟨w.heap.size + 1, 0, none⟩ v4).setCell ⟨w.heap.size + 1, 1, none⟩ v5).setCell ⟨w.heap.size + 1, 2, none⟩ v6) := by
  have hk : KeepB (fun b => b = w.heap.size ∨ b = w.heap.size + 1) wr ((((((wr.setCell ⟨w.heap.size, 0, none⟩ v1).setCell ⟨w.heap.size, 1, none⟩ v2).setCell ⟨w.heap.size, 2, none⟩ v3).setCell ⟨w.heap.size + 1, 0, none⟩ v4).setCell ⟨w.heap.size + 1, 1, none⟩ v5).setCell ⟨w.heap.size + 1, 2, none⟩ v6) :=
    ((((((KeepB.refl _ wr).setCell _ _ (by simp)).setCell _ _ (by simp)).setCell _ _ (by simp)).setCell _ _ (by simp)).setCell _ _ (by simp)).setCell _ _ (by simp)
  exact ⟨s, t, A, B, c, d, rfl, h1.le, h1.top, h2.le, h2.top, (h1.keep hk fun b h1 h2 => by omega).at_, (h2.keep hk fun b h1 h2 => by omega).at_, KeepB.below hb hk hb.size (fun k hk => by omega)⟩

set_option maxRecDepth 100000 in
set_option maxHeartbeats 4000000 in
theorem drawSameTraces_any (A : Option Addr) (n c : Nat) (w : World) (hn : n ≤ c) (hc : c ≤ 9223372036854775807) (hx : CodeAt w A n) :
    Calls Tryd.prog 50 #[.slice A n c] w (DrawPair w) := by
  have hres2 := (Blk.new w 30 #[.int .i64 0, .int .i64 0, .slice none 0 0]).alloc (.cells #[.int .i64 0, .int .i64 0, .slice none 0 0] 30)
  have hres3 := Blk.new (w.alloc (.cells #[.int .i64 0, .int .i64 0, .slice none 0 0] 30)) 30 #[.int .i64 0, .int .i64 0, .slice none 0 0]
  have hb0 : Below w.heap.size w ((w.alloc (.cells #[.int .i64 0, .int .i64 0, .slice none 0 0] 30)).alloc (.cells #[.int .i64 0, .int .i64 0, .slice none 0 0] 30)) := ((Below.refl _ _).alloc (Nat.le_refl _) _).alloc (by simp) _
  have hz0 : ((w.alloc (.cells #[.int .i64 0, .int .i64 0, .slice none 0 0] 30)).alloc (.cells #[.int .i64 0, .int .i64 0, .slice none 0 0] 30)).heap.size = w.heap.size + 2 := by simp
  simp only [World.size_alloc] at hres3
  generalize hw0 : (w.alloc (.cells #[.int .i64 0, .int .i64 0, .slice none 0 0] 30)).alloc (.cells #[.int .i64 0, .int .i64 0, .slice none 0 0] 30) = w0 at hres2 hres3 hb0 hz0
  have hx0 : CodeAt w0 A n := fun h => by
    obtain ⟨b, o, h1, h2, h3⟩ := hx h
    refine ⟨b, o, h1, by omega, fun i hi => ?_⟩
    obtain ⟨y, h4, h5⟩ := h3 i hi
    exact ⟨y, h4, by rw [hb0.cell (by simpa using h2)]; exact h5⟩
  replace hres2 := hid hres2
  replace hres3 := hid hres3
  replace hz0 := hid hz0
  replace hx := hid hx
  replace hx0 := hid hx0
  go_enter Tryd.func50, Tryd.ntmps50
  go_wp2_with fail
  refine (l19Open_any A n c w0 hn hc hx0.out).mono ?_
  rintro e w1 ⟨R, rfl, hR, hr1, hb1⟩
  replace hr1 := hid hr1
  have hz1 := hb1.size
  clear hw0
  go_wp2_with fail
  refine (l6Pair_up R 0 w1 (by omega) hr1.out).mono ?_
  rintro e w2 ⟨s, t, A', B', c', d', rfl, h1, h2, -, h4⟩
  unfold Sy.val
  have hzz := hz0.out
  have hB2 : Below w0.heap.size w0 w2 := KeepB.below hb1 h4 hb1.size (fun k hk => by omega)
  have hfin := hid (DrawPair.of h1 h2 (by omega) (hb0.trans (hB2.mono (by omega))) (.int .i64 s.al) (.int .i64 s.st) (.slice A' s.es.length c') (.int .i64 t.al) (.int .i64 t.st) (.slice B' t.es.length d'))
  have hbl2 := hres2.out.below hB2 (by omega)
  have hbl3 := hres3.out.below hB2 (by omega)
  have d0 := hbl2.cell 0
  have d1 := hbl2.cell 1
  have d2 := hbl2.cell 2
  have e0 := hbl3.cell 0
  have e1 := hbl3.cell 1
  have e2 := hbl3.cell 2
  have f0 := hbl2.frozen 0
  have f1 := hbl2.frozen 1
  have f2 := hbl2.frozen 2
  have g0 := hbl3.frozen 0
  have g1 := hbl3.frozen 1
  have g2 := hbl3.frozen 2
  simp only [List.getElem?_toArray, List.getElem?_cons_zero, List.getElem?_cons_succ] at d0 d1 d2 e0 e1 e2
  have hl2 := hbl2.lt
  have hl3 := hbl3.lt
  clear h1 h2 h4 hbl2 hbl3 hB2 hb1
  go_wp2
  refine bodyPost_ret (v := .tuple #[.agg #[.int .i64 s.al, .int .i64 s.st, .slice A' s.es.length c'], .agg #[.int .i64 t.al, .int .i64 t.st, .slice B' t.es.length d']]) (by simp [results, Tryd.results50, go_sem, d0, d1, d2, e0, e1, e2]) rfl ?_
  exact hfin.out



end Go.Proofs.YtkoganldcmhopaaDoor

/- The drawing kit: l1Wrong, DrawDeterminize, DrawProjectSystem. -/
namespace Go.Proofs.YtkoganldcmhopaaDoor
open Go.RowKit Go.BigFrame AG


def DrawSy (w : World) (e : Ending) (w' : World) : Prop := ∃ (s : Sy) (A : Option Addr) (c : Nat), e = .returned (s.val A c) ∧ s.es.length ≤ c ∧ c ≤ 9223372036854775807 ∧ s.es.length ≤ 1000000 ∧ EdsAt w' w'.heap.size A s.es ∧ FreshA w.heap.size A ∧ Below w.heap.size w w'
theorem DrawSy.ret {w w1 : World} {s : Sy} {A : Option Addr} {c : Nat} (h1 : s.es.length ≤ c) (h2 : c ≤ 9223372036854775807) (h3 : s.es.length ≤ 1000000) (h4 : EdsAt w1 w1.heap.size A s.es) (h5 : FreshA (w.heap.size + 1) A) (h7 : Below w.heap.size w w1) (v1 v2 v3 : Value) :
    DrawSy w (.returned (.agg #[.int .i64 s.al, .int .i64 s.st, .slice A s.es.length c])) (((w1.setCell ⟨w.heap.size, 0, none⟩ v1).setCell ⟨w.heap.size, 1, none⟩ v2).setCell ⟨w.heap.size, 2, none⟩ v3) := by
  have hne : ∀ b o, A = some ⟨b, o, none⟩ → 0 < s.es.length → b ≠ w.heap.size := fun b o hA _ => by have := h5 b o hA; omega
  refine ⟨s, A, c, rfl, h1, h2, h3, ?_, fun b o hA => by have := h5 b o hA; omega, ?_⟩
  · simpa [World.setCell] using ((h4.stored v1 hne).stored v2 hne).stored v3 hne
  · exact ((h7.setCell (by simp) _).setCell (by simp) _).setCell (by simp) _
def DrawSI (w : World) (e : Ending) (w' : World) : Prop := ∃ (s : Sy) (A : Option Addr) (c : Nat) (al : Int), e = .returned (.tuple #[s.val A c, .int .i64 al]) ∧ s.es.length ≤ c ∧ c ≤ 9223372036854775807 ∧ s.es.length ≤ 1000000 ∧ EdsAt w' w'.heap.size A s.es ∧ FreshA w.heap.size A ∧ Below w.heap.size w w'
theorem DrawSI.ret {w w1 : World} {s : Sy} {A : Option Addr} {c : Nat} {al : Int} (h1 : s.es.length ≤ c) (h2 : c ≤ 9223372036854775807) (h3 : s.es.length ≤ 1000000) (h4 : EdsAt w1 w1.heap.size A s.es) (h5 : FreshA (w.heap.size + 1) A) (h7 : Below w.heap.size w w1) (v1 v2 v3 : Value) :
    DrawSI w (.returned (.tuple #[.agg #[.int .i64 s.al, .int .i64 s.st, .slice A s.es.length c], .int .i64 al])) (((w1.setCell ⟨w.heap.size, 0, none⟩ v1).setCell ⟨w.heap.size, 1, none⟩ v2).setCell ⟨w.heap.size, 2, none⟩ v3) := by
  obtain ⟨s', A', c', he, x1, x2, x3, x4, x5, x6⟩ := DrawSy.ret h1 h2 h3 h4 h5 h7 v1 v2 v3
  exact ⟨s, A, c, al, rfl, h1, h2, h3, by
    have hne : ∀ b o, A = some ⟨b, o, none⟩ → 0 < s.es.length → b ≠ w.heap.size := fun b o hA _ => by have := h5 b o hA; omega
    simpa [World.setCell] using ((h4.stored v1 hne).stored v2 hne).stored v3 hne, fun b o hA => by have := h5 b o hA; omega, x6⟩
set_option maxRecDepth 100000 in
set_option maxHeartbeats 4000000 in
theorem drawDeterminize_any (A : Option Addr) (n c : Nat) (w : World) (hn : n ≤ c) (hc : c ≤ 9223372036854775807) (hx : CodeAt w A n) :
    Calls Tryd.prog 34 #[.slice A n c] w (DrawSy w) := by
  have hres := Blk.new w 30 #[.int .i64 0, .int .i64 0, .slice none 0 0]
  have hb0 : Below w.heap.size w (w.alloc (.cells #[.int .i64 0, .int .i64 0, .slice none 0 0] 30)) := (Below.refl _ _).alloc (Nat.le_refl _) _
  generalize hw0 : w.alloc (.cells #[.int .i64 0, .int .i64 0, .slice none 0 0] 30) = w0 at hres hb0
  have hz0 : w0.heap.size = w.heap.size + 1 := by rw [← hw0]; simp
  have hx0 : CodeAt w0 A n := fun h => by
    obtain ⟨b, o, h1, h2, h3⟩ := hx h
    refine ⟨b, o, h1, by omega, fun i hi => ?_⟩
    obtain ⟨y, h4, h5⟩ := h3 i hi
    exact ⟨y, h4, by rw [hb0.cell (by simpa using h2)]; exact h5⟩
  replace hres := hid hres
  replace hz0 := hid hz0
  replace hx := hid hx
  replace hx0 := hid hx0
  go_enter Tryd.func34, Tryd.ntmps34
  go_wp2_with fail
  refine (l19Open_any A n c w0 hn hc hx0.out).mono ?_
  rintro e w1 ⟨R, rfl, hR, hr1, hb1⟩
  replace hr1 := hid hr1
  have hz1 := hb1.size
  clear hw0
  go_wp2_with fail
  refine (pick_up R 0 8 w1 (by omega) (by omega) hr1.out).mono ?_
  rintro e w2 ⟨j, rfl, hj0, hj1, hr2, hk2⟩
  have hB2 : Below w0.heap.size w0 w2 := KeepB.below hb1 hk2 hb1.size (fun k hk => by omega)
  replace hr2 := hid hr2
  clear hj1 hk2
  by_cases hj : j = 0
  · subst hj
    go_wp2_with fail
    refine (parseSystem_any _ w2 (by decide)).mono ?_
    rintro e w3 ⟨s, A', c', ok, rfl, a1, a2, a3, a4, a5, a6⟩
    unfold Sy.val
    have hB3 := hB2.trans (a6.mono hB2.size)
    have hr3 := hid (hr2.out.later a6)
    have hnb := Blk.new w3 30 #[.int .i64 s.al, .int .i64 s.st, .slice A' s.es.length c']
    have hba : Below w3.heap.size w3 (w3.alloc (.cells #[.int .i64 s.al, .int .i64 s.st, .slice A' s.es.length c'] 30)) := (Below.refl _ _).alloc (Nat.le_refl _) _
    generalize hwa : w3.alloc (.cells #[.int .i64 s.al, .int .i64 s.st, .slice A' s.es.length c'] 30) = w4 at hnb hba
    have hB4 := hB3.trans (hba.mono hB3.size)
    have hr4 := hid (hr3.out.later hba)
    have a4' := hid (a4.later hba)
    have a5' : Hid (FreshA (w.heap.size + 1) A') := hid fun b o hA => by have := a5 b o hA; have := hz0.out; have := hB2.size; omega
    have c0 := hnb.cell 0
    have c1 := hnb.cell 1
    have c2 := hnb.cell 2
    simp only [List.getElem?_toArray, List.getElem?_cons_zero, List.getElem?_cons_succ] at c0 c1 c2
    replace hnb := hid hnb
    clear a4 a5 a6
    cases ok
    · clear c0 c1 c2
      go_wp2_with fail
      clear hwa
      refine (l2Any_up R (0 + 1) w4 (by omega) hr4.out).mono ?_
      rintro e w9 ⟨s, A', c', rfl, a1, a2, a3, a4, a5, a6, a7⟩
      unfold Sy.val
      have hB9 : Below w0.heap.size w0 w9 := KeepB.below hB4 a7 hB4.size (fun k hk => by omega)
      replace a4 := hid a4
      replace a6 := hid a6
      have a5' : Hid (FreshA (w.heap.size + 1) A') := hid fun b o hA => by have := a5 b o hA; have := hz0.out; have := hB4.size; omega
      clear a5 a7
      have hfin := hid (DrawSy.ret (w := w) a1 a2 (by omega) a4.out a5'.out (hb0.trans (hB9.mono (by have := hz0.out; omega))) (.int .i64 s.al) (.int .i64 s.st) (.slice A' s.es.length c'))
      have hbl := hres.out.below hB9 hres.out.lt
      have d0 := hbl.cell 0
      have d1 := hbl.cell 1
      have d2 := hbl.cell 2
      have f0 := hbl.frozen 0
      have f1 := hbl.frozen 1
      have f2 := hbl.frozen 2
      simp only [List.getElem?_toArray, List.getElem?_cons_zero, List.getElem?_cons_succ] at d0 d1 d2
      have hlt := hbl.lt
      clear hbl
      go_wp2
      refine bodyPost_ret (v := .agg #[.int .i64 s.al, .int .i64 s.st, .slice A' s.es.length c']) (by simp [results, Tryd.results34, go_sem, d0, d1, d2]) rfl ?_
      exact hfin.out
    · have hfin := hid (DrawSy.ret (w := w) a1 a2 (by omega) a4'.out a5'.out (hb0.trans (hB4.mono (by have := hz0.out; omega))) (.int .i64 s.al) (.int .i64 s.st) (.slice A' s.es.length c'))
      have hbl := hres.out.below hB4 hres.out.lt
      have d0 := hbl.cell 0
      have d1 := hbl.cell 1
      have d2 := hbl.cell 2
      have f0 := hbl.frozen 0
      have f1 := hbl.frozen 1
      have f2 := hbl.frozen 2
      simp only [List.getElem?_toArray, List.getElem?_cons_zero, List.getElem?_cons_succ] at d0 d1 d2
      have hlt := hbl.lt
      clear hbl
      go_wp2
      refine bodyPost_ret (v := .agg #[.int .i64 s.al, .int .i64 s.st, .slice A' s.es.length c']) (by simp [results, Tryd.results34, go_sem, d0, d1, d2]) rfl ?_
      exact hfin.out
  · have hjb : ((j : Int) == 0) = false := by simpa using hj
    replace hj := hid hj
    go_wp2_with fail
    refine (l2Any_up R (0 + 1) w2 (by omega) hr2.out).mono ?_
    rintro e w9 ⟨s, A', c', rfl, a1, a2, a3, a4, a5, a6, a7⟩
    unfold Sy.val
    have hB9 : Below w0.heap.size w0 w9 := KeepB.below hB2 a7 hB2.size (fun k hk => by omega)
    replace a4 := hid a4
    replace a6 := hid a6
    have a5' : Hid (FreshA (w.heap.size + 1) A') := hid fun b o hA => by have := a5 b o hA; have := hz0.out; have := hB2.size; omega
    clear a5 a7
    have hfin := hid (DrawSy.ret (w := w) a1 a2 (by omega) a4.out a5'.out (hb0.trans (hB9.mono (by have := hz0.out; omega))) (.int .i64 s.al) (.int .i64 s.st) (.slice A' s.es.length c'))
    have hbl := hres.out.below hB9 hres.out.lt
    have d0 := hbl.cell 0
    have d1 := hbl.cell 1
    have d2 := hbl.cell 2
    have f0 := hbl.frozen 0
    have f1 := hbl.frozen 1
    have f2 := hbl.frozen 2
    simp only [List.getElem?_toArray, List.getElem?_cons_zero, List.getElem?_cons_succ] at d0 d1 d2
    have hlt := hbl.lt
    clear hbl
    go_wp2
    refine bodyPost_ret (v := .agg #[.int .i64 s.al, .int .i64 s.st, .slice A' s.es.length c']) (by simp [results, Tryd.results34, go_sem, d0, d1, d2]) rfl ?_
    exact hfin.out

end Go.Proofs.YtkoganldcmhopaaDoor

/- Automata under way in memory: rows and marks that are owned; what the drawing functions hand back. -/
namespace Go.Proofs.YtkoganldcmhopaaDoor
open Go.RowKit Go.BigFrame AG

/-- An automaton under way in the block gs: all old blocks but those of K are as they were. -/
structure AuSt (K : Nat → Prop) (w0 wr : World) (gs : Nat) (v1 v2 : Value) (a : Au) (xs : List RowV) : Prop where
  keep : KeepB K w0 wr
  ge : w0.heap.size ≤ gs
  own : AuOwn wr w0.heap.size v1 v2 a xs
  blk : Blk wr gs 26 #[.int .i64 a.al, v1, v2]
section
variable {K : Nat → Prop} {w0 wr w1 : World} {gs : Nat} {v1 v2 v1' v2' : Value} {a : Au} {xs : List RowV}
theorem AuSt.rowLt (h : AuSt K w0 wr gs v1 v2 a xs) {x : RowV} (hx : x ∈ xs) {k : Nat} (e : x.v.ownBlock = some k) : w0.heap.size ≤ k ∧ k < wr.heap.size := (h.own.rows.rows x hx).lt k e
theorem AuSt.later (h : AuSt K w0 wr gs v1 v2 a xs) (hb : Below wr.heap.size wr w1) : AuSt K w0 w1 gs v1 v2 a xs :=
  ⟨h.keep.trans (.of_below hb), h.ge, h.own.later hb, h.blk.below hb h.blk.lt⟩
/-- Blocks made since a world are written. -/
theorem AuSt.far {wo : World} (h0 : AuSt K w0 wo gs v1 v2 a xs) (h : AuSt K w0 wr gs v1 v2 a xs) (hk : KeepB (fun b => wo.heap.size ≤ b) wr w1) : AuSt K w0 w1 gs v1 v2 a xs := by
  have hz := h0.keep.size
  have hb := h0.blk.lt
  refine ⟨⟨hk.os.trans h.keep.os, hk.tape.trans h.keep.tape, hk.output.trans h.keep.output, Nat.le_trans h.keep.size hk.size, fun i hi hne => ?_⟩, h.ge, ⟨h.own.rows.keep hk (fun g hg hb => by have := (h0.own.rows.own.lt g hg).2; omega) (fun x hx g hg hb => by have := (h0.rowLt hx hg).2; omega), h.own.eq, own_keep h.own.acc hk fun g hg hb => by have := (h0.own.acc.lt g hg).2; omega⟩, h.blk.keep hk (by omega)⟩
  rw [hk.block i (by have := h.keep.size; omega) (by omega)]
  exact h.keep.block i hi hne
theorem AuSt.len (h : AuSt K w0 wr gs v1 v2 a xs) : xs.length = a.nx.length := by rw [← h.own.eq, List.length_map]
/-- A row is appended to the table. -/
theorem AuSt.row {x : RowV} (h : AuSt K w0 wr gs v1 v2 a xs) (hx : wr.ownsRow w0.heap.size 3 1 x.v x.r.length (intVals x.r)) (hap : ∀ y ∈ xs, ∀ k, y.v.ownBlock = some k → x.v.ownBlock ≠ some k) (hg : wr.grownBy w1 v1.ownBlock)
    (ho : w1.ownsRow w0.heap.size 52 1 v1' (xs.length + 1) (rowVals xs ++ [x.v])) : AuSt K w0 (w1.setCell ⟨gs, 1, none⟩ v1') gs v1' v2 ⟨a.al, a.nx ++ [x.r], a.ac⟩ (xs ++ [x]) := by
  have hkA : KeepB (fun b => v1.ownBlock = some b) wr w1 := (KeepB.refl _ wr).grown hg fun k hk _ => hk
  have hblk1 : Blk w1 gs 26 #[.int .i64 a.al, v1, v2] := h.blk.keep hkA fun e => own_ne h.own.rows.own h.blk (by decide) _ e rfl
  have hkB : KeepB (fun b => b = gs) w1 (w1.setCell ⟨gs, 1, none⟩ v1') := (KeepB.refl _ w1).setCell _ _ fun _ => rfl
  have hrow : ∀ y, y ∈ xs ++ [x] → wr.ownsRow w0.heap.size 3 1 y.v y.r.length (intVals y.r) := fun y hy => by
    rcases List.mem_append.1 hy with hy | hy
    · exact h.own.rows.rows y hy
    · rw [List.mem_singleton.1 hy]; exact hx
  refine ⟨?_, h.ge, ⟨⟨?_, fun y hy => ?_, ?_⟩, by rw [List.map_append, h.own.eq]; rfl, ?_⟩, by simpa using hblk1.set_ 1 v1'⟩
  · exact (h.keep.grown hg fun k hk hlt => by have := (h.own.rows.own.lt k hk).1; omega).setCell _ _ fun hlt => by have := h.ge; simp at hlt; omega
  · have h2 : w1.ownsRow w0.heap.size 52 1 v1' (xs ++ [x]).length (rowVals (xs ++ [x])) := by
      unfold rowVals at ho ⊢
      rw [List.length_append, List.map_append]
      exact ho
    exact own_keep h2 hkB (own_ne h2 hblk1 (by decide))
  · have h1 := own_keep (hrow y hy) hkA fun g hg e => own_ne_own h.own.rows.own (hrow y hy) (by decide) g g e hg rfl
    exact own_keep h1 hkB (own_ne h1 hblk1 (by decide))
  · rw [List.pairwise_append]
    exact ⟨h.own.rows.apart, List.pairwise_singleton _ _, fun y hy z hz k e => by rw [List.mem_singleton.1 hz]; exact hap y hy k e⟩
  · have h3 := own_keep h.own.acc hkA fun g hg e => own_ne_own h.own.acc h.own.rows.own (by decide) g g hg e rfl
    exact own_keep h3 hkB (own_ne h3 hblk1 (by decide))
/-- A truth value is appended. -/
theorem AuSt.put {t : Bool} (h : AuSt K w0 wr gs v1 v2 a xs) (hg : wr.grownBy w1 v2.ownBlock)
    (ho : w1.ownsRow w0.heap.size 4 1 v2' (a.ac.length + 1) (boolVals a.ac ++ [.bool t])) : AuSt K w0 (w1.setCell ⟨gs, 2, none⟩ v2') gs v1 v2' ⟨a.al, a.nx, a.ac ++ [t]⟩ xs := by
  have hkA : KeepB (fun b => v2.ownBlock = some b) wr w1 := (KeepB.refl _ wr).grown hg fun k hk _ => hk
  have hblk1 : Blk w1 gs 26 #[.int .i64 a.al, v1, v2] := h.blk.keep hkA fun e => own_ne h.own.acc h.blk (by decide) _ e rfl
  have hkB : KeepB (fun b => b = gs) w1 (w1.setCell ⟨gs, 2, none⟩ v2') := (KeepB.refl _ w1).setCell _ _ fun _ => rfl
  refine ⟨?_, h.ge, ⟨⟨?_, fun y hy => ?_, h.own.rows.apart⟩, h.own.eq, ?_⟩, by simpa using hblk1.set_ 2 v2'⟩
  · exact (h.keep.grown hg fun k hk hlt => by have := (h.own.acc.lt k hk).1; omega).setCell _ _ fun hlt => by have := h.ge; simp at hlt; omega
  · have h3 := own_keep h.own.rows.own hkA fun g hg e => own_ne_own h.own.rows.own h.own.acc (by decide) g g hg e rfl
    exact own_keep h3 hkB (own_ne h3 hblk1 (by decide))
  · have h1 := own_keep (h.own.rows.rows y hy) hkA fun g hg e => own_ne_own h.own.acc (h.own.rows.rows y hy) (by decide) g g e hg rfl
    exact own_keep h1 hkB (own_ne h1 hblk1 (by decide))
  · have h2 : w1.ownsRow w0.heap.size 4 1 v2' (a.ac ++ [t]).length (boolVals (a.ac ++ [t])) := by
      unfold boolVals at ho ⊢
      rw [List.length_append, List.map_append]
      exact ho
    exact own_keep h2 hkB (own_ne h2 hblk1 (by decide))
end

theorem AuSt.begin {K : Nat → Prop} {w0 : World} (al : Int) {wr : World} (hk : KeepB K w0 wr) (hz : w0.heap.size ≤ wr.heap.size) : AuSt K w0 (wr.alloc (.cells #[.int .i64 al, .slice none 0 0, .slice none 0 0] 26)) wr.heap.size (.slice none 0 0) (.slice none 0 0) ⟨al, [], []⟩ [] :=
  ⟨hk.alloc _, hz, ⟨⟨World.ownsRow_nil _ _ _ _, fun x hx => (by cases hx), List.Pairwise.nil⟩, rfl, World.ownsRow_nil _ _ _ _⟩, Blk.new _ _ _⟩

/-- The rows have at most N entries; there are at most N of them. -/
def AuSz (N : Nat) (a : Au) : Prop := a.nx.length ≤ N ∧ a.ac.length ≤ N ∧ ∀ r ∈ a.nx, r.length ≤ N
/-- Some automaton comes back; the reader has moved on to P at most. -/
def AuUp (Q : Au → Prop) (R P : Nat) (w : World) (e : Ending) (w' : World) : Prop :=
  ∃ (a : Au) (v1 v2 : Value) (xs : List RowV), e = .returned (.agg #[.int .i64 a.al, v1, v2]) ∧ Q a ∧ AuOwn w' w.heap.size v1 v2 a xs ∧ RdUp w' R P ∧ KeepB (fun b => b = R) w w'
theorem AuOwn.keepNew {K : Nat → Prop} {w w' : World} {B : Nat} {v1 v2 : Value} {a : Au} {xs : List RowV} (h : AuOwn w B v1 v2 a xs) (hk : KeepB K w w') (hK : ∀ b, K b → b < B) : AuOwn w' B v1 v2 a xs :=
  ⟨h.rows.keep hk (fun g hg hb => by have := (h.rows.own.lt g hg).1; have := hK g hb; omega) (fun x hx g hg hb => by have := ((h.rows.rows x hx).lt g hg).1; have := hK g hb; omega), h.eq, own_keep h.acc hk fun g hg hb => by have := (h.acc.lt g hg).1; have := hK g hb; omega⟩
/-- The result variable (its block is that of the world before) is stored into. -/
theorem AuUp.ret {Q : Au → Prop} {w w1 : World} {R P P' : Nat} {a : Au} {v1 v2 : Value} {xs : List RowV} (hq : Q a) (ho : AuOwn w1 (w.heap.size + 1) v1 v2 a xs) (hr : RdUp w1 R P) (hP : P ≤ P') (hk : KeepB (fun b => b = R) w w1) (hR : R < w.heap.size) (u1 u2 u3 : Value) :
    AuUp Q R P' w (.returned (.agg #[.int .i64 a.al, v1, v2])) (((w1.setCell ⟨w.heap.size, 0, none⟩ u1).setCell ⟨w.heap.size, 1, none⟩ u2).setCell ⟨w.heap.size, 2, none⟩ u3) := by
  have hk2 : KeepB (fun b => b = w.heap.size) w1 (((w1.setCell ⟨w.heap.size, 0, none⟩ u1).setCell ⟨w.heap.size, 1, none⟩ u2).setCell ⟨w.heap.size, 2, none⟩ u3) := (((KeepB.refl _ w1).setCell _ _ (by simp)).setCell _ _ (by simp)).setCell _ _ (by simp)
  exact ⟨a, v1, v2, xs, rfl, hq, (ho.keepNew hk2 (fun b e => by omega)).base (by omega), (hr.more hP).keep hk2 (by omega), ((hk.setCell _ _ (by simp)).setCell _ _ (by simp)).setCell _ _ (by simp)⟩

end Go.Proofs.YtkoganldcmhopaaDoor

/- The drawing kit: l3Copy. -/
namespace Go.Proofs.YtkoganldcmhopaaDoor
open Go.RowKit Go.BigFrame AG

theorem add_none (b o j : Nat) : (⟨b, o, none⟩ : Addr).add j = ⟨b, o + j, none⟩ := by unfold Addr.add; split <;> simp_all
theorem BoolsAt.news {w : World} {B : Nat} {A : Option Addr} {xs : List Bool} (h : BoolsAt w B A xs) (hn : 0 < xs.length) : ∃ a, A = some a ∧ ∀ (j : Nat) u, (boolVals xs)[j]? = some u → w.cell? (a.add j) = some u := by
  obtain ⟨b, o, hA, -, hE⟩ := h hn
  refine ⟨_, hA, fun j u hj => ?_⟩
  unfold boolVals at hj
  rw [List.getElem?_map] at hj
  cases hx : xs[j]? with
  | none => rw [hx] at hj; cases hj
  | some t =>
    rw [hx] at hj
    obtain ⟨hj2, e⟩ := List.getElem?_eq_some_iff.1 hx
    have := hE j hj2
    rw [e] at this
    have e2 : Value.bool t = u := by simpa using hj
    rw [← e2, add_none]
    exact this
theorem IntsAt.news {w : World} {B : Nat} {A : Option Addr} {xs : List Int} (h : IntsAt w B A xs) (hn : 0 < xs.length) : ∃ a, A = some a ∧ ∀ (j : Nat) u, (intVals xs)[j]? = some u → w.cell? (a.add j) = some u := by
  obtain ⟨b, o, hA, -, hE⟩ := h hn
  refine ⟨_, hA, fun j u hj => ?_⟩
  unfold intVals at hj
  rw [List.getElem?_map] at hj
  cases hx : xs[j]? with
  | none => rw [hx] at hj; cases hj
  | some t =>
    rw [hx] at hj
    obtain ⟨hj2, e⟩ := List.getElem?_eq_some_iff.1 hx
    have := hE j hj2
    rw [e] at this
    have e2 : Value.int .i64 t = u := by simpa using hj
    rw [← e2, add_none]
    exact this
end Go.Proofs.YtkoganldcmhopaaDoor

/- The drawing kit: l3Safe, l3Over. -/
namespace Go.Proofs.YtkoganldcmhopaaDoor
open Go.RowKit Go.BigFrame AG

theorem AuSt.of {K : Nat → Prop} {w0 w1 : World} {v1 v2 : Value} {a : Au} {xs : List RowV} (ho : AuOwn w1 w0.heap.size v1 v2 a xs) (hk : KeepB K w0 w1) :
    AuSt K w0 (w1.alloc (.cells #[.int .i64 a.al, v1, v2] 26)) w1.heap.size v1 v2 a xs :=
  ⟨hk.alloc _, hk.size, ho.later ((Below.refl _ _).alloc (Nat.le_refl _) _), Blk.new _ _ _⟩
theorem AuUp.imp {Q Q' : Au → Prop} {R P P' : Nat} {w : World} {e : Ending} {w' : World} (h : AuUp Q R P w e w') (hq : ∀ a, Q a → Q' a) (hP : P ≤ P') : AuUp Q' R P' w e w' := by
  obtain ⟨a, v1, v2, xs, h1, h2, h3, h4, h5⟩ := h
  exact ⟨a, v1, v2, xs, h1, hq a h2, h3, h4.more hP, h5⟩

end Go.Proofs.YtkoganldcmhopaaDoor

/- The drawing kit: l4Change. -/
namespace Go.Proofs.YtkoganldcmhopaaDoor
open Go.RowKit Go.BigFrame AG

theorem AuUp2.ret {Q : Au → Prop} {w wA w1 : World} {R P P' : Nat} {a : Au} {v1 v2 : Value} {xs : List RowV} (hq : Q a) (ho : AuOwn w1 wA.heap.size v1 v2 a xs) (hz : wA.heap.size = w.heap.size + 2) (hr : RdUp w1 R P) (hP : P ≤ P') (hk : KeepB (fun b => b = R) w w1) (hR : R < w.heap.size) (u1 u2 u3 : Value) :
    AuUp Q R P' w (.returned (.agg #[.int .i64 a.al, v1, v2])) (((w1.setCell ⟨w.heap.size + 1, 0, none⟩ u1).setCell ⟨w.heap.size + 1, 1, none⟩ u2).setCell ⟨w.heap.size + 1, 2, none⟩ u3) := by
  have hk2 : KeepB (fun b => b = w.heap.size + 1) w1 (((w1.setCell ⟨w.heap.size + 1, 0, none⟩ u1).setCell ⟨w.heap.size + 1, 1, none⟩ u2).setCell ⟨w.heap.size + 1, 2, none⟩ u3) := (((KeepB.refl _ w1).setCell _ _ (by simp)).setCell _ _ (by simp)).setCell _ _ (by simp)
  exact ⟨a, v1, v2, xs, rfl, hq, (ho.keepNew hk2 (fun b e => by omega)).base (by omega), (hr.more hP).keep hk2 (by omega), ((hk.setCell _ _ (fun h => by simp at h; omega)).setCell _ _ (fun h => by simp at h; omega)).setCell _ _ (fun h => by simp at h; omega)⟩
end Go.Proofs.YtkoganldcmhopaaDoor

/- An append to an owned row inside a statement that draws its order. -/
namespace AG
open Go Go.RowKit

/-- What an append hands back. -/
def Done (base : Nat) (e : TypeId) (size n : Nat) (ys : List Value) (row : Option Nat) (Bd : Nat) (u : Value) (w : World) : Prop :=
  w.ownsRow base e size u n ys ∧ (u.ownBlock = row ∨ ∀ k, u.ownBlock = some k → Bd ≤ k)
theorem Done.below {base : Nat} {e : TypeId} {size n : Nat} {ys : List Value} {row : Option Nat} {Bd : Nat} {u : Value} {w w' : World} (h : Done base e size n ys row Bd u w) (hb : Below w.heap.size w w') : Done base e size n ys row Bd u w' :=
  ⟨own_keep h.1 (.of_below (K := fun _ => False) hb) fun _ _ h => h, h.2⟩

namespace GK
def AS (D : Value → World → Prop) (K : Nat → Prop) (w w' : World) : Prop := KeepB K w w' ∧ ∀ u, D u w → D u w'
def AI (w1 : World) (base : Nat) (e : TypeId) (size : Nat) (v : Value) (n : Nat) (xs : List Value) : Nat → World → Prop := fun _ w => KeepB (fun b => v.ownBlock = some b) w1 w ∧ w.ownsRow base e size v n xs
section
variable {P : Program} {ops : Array Oper} {M : Nat} {sp : Nat → Value → World → Prop} {w0 w1 : World} {D : Value → World → Prop} {K : Nat → Prop} {base : Nat} {e : TypeId} {size : Nat} {v : Value} {n : Nat} {xs : List Value}
variable {Q : List (Nat × (World → Prop)) → Act → Prop} {o : Oper} {rest : List Oper} {i : Nat} {Γ : List (Nat × (World → Prop))} {a : Act}
theorem AI.way : Way (AS D K) (AI w1 base e size v n xs) := ⟨fun w => ⟨KeepB.refl _ _, fun _ h => h⟩, fun _ _ _ h k => ⟨h.1.trans k.1, fun u hu => k.2 u (h.2 u hu)⟩, fun _ _ h => h⟩
theorem AI.begin (h : w1.ownsRow base e size v n xs) : AI w1 base e size v n xs 0 w1.drew :=
  ⟨.of_below (Below.refl _ _).drew, own_keep h (.of_below (K := fun _ => False) (Below.refl _ _).drew) fun _ _ h => h⟩
theorem AI.cell {b o : Nat} {y : Value} (hown : w1.ownsRow base e size v n xs) (h : w1.cell? ⟨b, o, none⟩ = some y) (hb : v.ownBlock ≠ some b) (x : World) : (FamI (Upto (AI w1 base e size v n xs) 200) w1 x).cell? ⟨b, o, none⟩ = some y := by
  obtain ⟨_, _, h2, _⟩ := FamI.is (J := Upto (AI w1 base e size v n xs) 200) (w1 := w1) ⟨0, by omega, KeepB.refl _ _, hown⟩ x
  rw [World.cell?_of_block (h2.block b (World.block_lt_of_cell? _ _ h) hb)]
  exact h
end
end GK
end AG

/- The drawing kit: l3Wrong. -/
namespace Go.Proofs.YtkoganldcmhopaaDoor
open Go.RowKit Go.BigFrame AG

section
variable {K : Nat → Prop} {w0 wr w1 : World} {gs : Nat} {v1 v2 : Value} {a : Au} {xs : List RowV}
/-- The table is laid anew, empty. -/
theorem AuSt.clear {b : Nat} (h : AuSt K w0 wr gs v1 v2 a xs) (hb : w0.heap.size ≤ b) (hB : wr.heap[b]? = some (.cells #[] 52 (0, 0))) :
    AuSt K w0 (wr.setCell ⟨gs, 1, none⟩ (.slice (some ⟨b, 0, none⟩) 0 0)) gs (.slice (some ⟨b, 0, none⟩) 0 0) v2 ⟨a.al, [], a.ac⟩ [] := by
  have hkB : KeepB (fun b => b = gs) wr (wr.setCell ⟨gs, 1, none⟩ (.slice (some ⟨b, 0, none⟩) 0 0)) := (KeepB.refl _ wr).setCell _ _ fun _ => rfl
  have ho : wr.ownsRow w0.heap.size 52 1 (.slice (some ⟨b, 0, none⟩) 0 0) 0 [] := ⟨rfl, .inr ⟨b, 0, #[], rfl, hb, hB, Nat.le_refl _, Nat.zero_le _, by simp, by simp⟩⟩
  exact ⟨h.keep.setCell _ _ fun hlt => by have := h.ge; simp at hlt; omega, h.ge, ⟨⟨own_keep ho hkB (own_ne ho h.blk (by decide)), fun x hx => (by cases hx), List.Pairwise.nil⟩, rfl, own_keep h.own.acc hkB (own_ne h.own.acc h.blk (by decide))⟩, by simpa using h.blk.set_ 1 (.slice (some ⟨b, 0, none⟩) 0 0)⟩
end

theorem AuSz.up {a : Au} {N M : Nat} (h : AuSz N a) (hN : N ≤ M) : AuSz M a := ⟨by have := h.1; omega, by have := h.2.1; omega, fun r hr => by have := h.2.2 r hr; omega⟩
end Go.Proofs.YtkoganldcmhopaaDoor

/- The drawing kit: ParseAutomaton. -/
namespace Go.Proofs.YtkoganldcmhopaaDoor
open Go.RowKit Go.BigFrame AG

def PauPost (w : World) (e : Ending) (w' : World) : Prop := ∃ (a : Au) (v1 v2 : Value) (xs : List RowV) (ok : Bool), e = .returned (.tuple #[.agg #[.int .i64 a.al, v1, v2], .bool ok]) ∧ AuSz 2000 a ∧ AuOwn w' w.heap.size v1 v2 a xs ∧ Below w.heap.size w w'
theorem PauPost.ret {w w1 : World} {a : Au} {v1 v2 : Value} {xs : List RowV} (ok : Bool) (hq : AuSz 2000 a) (ho : AuOwn w1 (w.heap.size + 1) v1 v2 a xs) (hb : Below w.heap.size w w1) (u1 u2 u3 : Value) :
    PauPost w (.returned (.tuple #[.agg #[.int .i64 a.al, v1, v2], .bool ok])) (((w1.setCell ⟨w.heap.size, 0, none⟩ u1).setCell ⟨w.heap.size, 1, none⟩ u2).setCell ⟨w.heap.size, 2, none⟩ u3) := by
  have hk2 : KeepB (fun b => b = w.heap.size) w1 (((w1.setCell ⟨w.heap.size, 0, none⟩ u1).setCell ⟨w.heap.size, 1, none⟩ u2).setCell ⟨w.heap.size, 2, none⟩ u3) := (((KeepB.refl _ w1).setCell _ _ (by simp)).setCell _ _ (by simp)).setCell _ _ (by simp)
  refine ⟨a, v1, v2, xs, ok, rfl, hq, (ho.keepNew hk2 (fun b e => by omega)).base (by omega), ?_⟩
  (repeat (first | exact Below.refl _ _ | assumption | refine Below.drew ?_ | refine Below.alloc ?_ (by first | omega | (simp; done) | (simp; omega)) _ | refine Below.setCell ?_ (by first | omega | (simp; done) | (simp; omega)) _))

end Go.Proofs.YtkoganldcmhopaaDoor

/- The drawing kit: l5Any. -/
namespace Go.Proofs.YtkoganldcmhopaaDoor
open Go.RowKit Go.BigFrame AG

/-- The automaton is replaced by one that has just been made. -/
theorem AuSt.assign {K : Nat → Prop} {w0 wr w1 : World} {gs : Nat} {v1 v2 v1' v2' : Value} {a a' : Au} {xs xs' : List RowV} (h : AuSt K w0 wr gs v1 v2 a xs) (hK : ∀ b, K b → b < w0.heap.size) (hk : KeepB K wr w1) (ho : AuOwn w1 wr.heap.size v1' v2' a' xs') :
    AuSt K w0 (((w1.setCell ⟨gs, 0, none⟩ (.int .i64 a'.al)).setCell ⟨gs, 1, none⟩ v1').setCell ⟨gs, 2, none⟩ v2') gs v1' v2' a' xs' := by
  have hge := h.ge
  have hlt := h.blk.lt
  have hz := h.keep.size
  have hb := h.blk.keep hk fun e => by have := hK _ e; omega
  have hk2 : KeepB (fun b => b = gs) w1 (((w1.setCell ⟨gs, 0, none⟩ (.int .i64 a'.al)).setCell ⟨gs, 1, none⟩ v1').setCell ⟨gs, 2, none⟩ v2') := (((KeepB.refl _ w1).setCell _ _ (by simp)).setCell _ _ (by simp)).setCell _ _ (by simp)
  exact ⟨(((h.keep.trans hk).setCell _ _ (fun e => by simp at e; omega)).setCell _ _ (fun e => by simp at e; omega)).setCell _ _ (fun e => by simp at e; omega), h.ge, (ho.keepNew hk2 (fun b e => by omega)).base (by omega), by simpa using ((hb.set_ 0 (.int .i64 a'.al)).set_ 1 v1').set_ 2 v2'⟩

end Go.Proofs.YtkoganldcmhopaaDoor

/- The drawing kit: DrawSystemOf, DrawMinimizeAutomaton. -/
namespace Go.Proofs.YtkoganldcmhopaaDoor
open Go.RowKit Go.BigFrame AG

/-- Some automaton comes back, made since. -/
def DrawAu (w : World) (e : Ending) (w' : World) : Prop := ∃ (a : Au) (A B : Option Addr) (c d : Nat) (xs : List RowV), e = .returned (a.val A c B d) ∧ AuSz 3000 a ∧ AuOwn w' w.heap.size (.slice A a.nx.length c) (.slice B a.ac.length d) a xs ∧ Below w.heap.size w w'
theorem DrawAu.ret {w w1 : World} {a : Au} {A B : Option Addr} {c d : Nat} {xs : List RowV} (h1 : AuSz 3000 a) (ho : AuOwn w1 (w.heap.size + 1) (.slice A a.nx.length c) (.slice B a.ac.length d) a xs) (hb : Below w.heap.size w w1) (u1 u2 u3 : Value) :
    DrawAu w (.returned (.agg #[.int .i64 a.al, .slice A a.nx.length c, .slice B a.ac.length d])) (((w1.setCell ⟨w.heap.size, 0, none⟩ u1).setCell ⟨w.heap.size, 1, none⟩ u2).setCell ⟨w.heap.size, 2, none⟩ u3) := by
  have hk2 : KeepB (fun b => b = w.heap.size) w1 (((w1.setCell ⟨w.heap.size, 0, none⟩ u1).setCell ⟨w.heap.size, 1, none⟩ u2).setCell ⟨w.heap.size, 2, none⟩ u3) := (((KeepB.refl _ w1).setCell _ _ (by simp)).setCell _ _ (by simp)).setCell _ _ (by simp)
  exact ⟨a, A, B, c, d, xs, rfl, h1, (ho.keepNew hk2 (fun b e => by omega)).base (by omega), ((hb.setCell (by simp) _).setCell (by simp) _).setCell (by simp) _⟩

end Go.Proofs.YtkoganldcmhopaaDoor

/- math/bits.OnesCount on small numbers; the program's rank. -/
namespace Go.Proofs.YtkoganldcmhopaaDoor
open Go.RowKit Go.BigFrame AG

theorem and_u64 (a b : Nat) (ha : a < 18446744073709551616) (hb : b < 18446744073709551616) : bits .and .u64 (a : Int) (b : Int) = ((a &&& b : Nat) : Int) := by
  have hx : a &&& b < 2 ^ 64 := Nat.and_lt_two_pow _ (by omega)
  show IntKind.u64.wrap ((BitVec.ofInt 64 (a : Int) &&& BitVec.ofInt 64 (b : Int)).toNat : Int) = _
  rw [BitVec.toNat_and, BitVec.ofInt_natCast, BitVec.ofInt_natCast, BitVec.toNat_ofNat, BitVec.toNat_ofNat, Nat.mod_eq_of_lt (by omega), Nat.mod_eq_of_lt (by omega), IntKind.wrap_u64]
  omega
theorem wrap_u64n (a b : Nat) (h : a + b < 18446744073709551616) : IntKind.u64.wrap ((a : Int) + (b : Int)) = ((a + b : Nat) : Int) := by
  rw [IntKind.wrap_u64]
  omega

set_option maxHeartbeats 4000000 in
theorem onesCount64_any (x : Nat) (hx : x < 65536) (w : World) :
    Calls Tryd.prog 174 #[.int .u64 x] w fun e w' => e = .returned (.int .i64 (popE x : Nat)) ∧ w = w' := by
  have hp := hid (pop_steps x hx)
  obtain ⟨a1, ha1⟩ : ∃ a, a = x / 2 &&& 6148914691236517205 := ⟨_, rfl⟩
  obtain ⟨a2, ha2⟩ : ∃ a, a = x &&& 6148914691236517205 := ⟨_, rfl⟩
  have l1 : a1 ≤ x / 2 := by rw [ha1]; exact Nat.and_le_left
  have l2 : a2 ≤ x := by rw [ha2]; exact Nat.and_le_left
  have f1 : bits .and .u64 ((x : Int) / 2) 6148914691236517205 = (a1 : Nat) := by
    have := and_u64 (x / 2) 6148914691236517205 (by omega) (by omega)
    rw [← ha1] at this
    exact this
  have f2 : bits .and .u64 (x : Int) 6148914691236517205 = (a2 : Nat) := by
    have := and_u64 x 6148914691236517205 (by omega) (by omega)
    rw [← ha2] at this
    exact this
  obtain ⟨x1, hx1⟩ : ∃ a, a = a1 + a2 := ⟨_, rfl⟩
  have f3 : IntKind.u64.wrap ((a1 : Int) + (a2 : Int)) = (x1 : Nat) := by rw [wrap_u64n a1 a2 (by omega), hx1]
  obtain ⟨b1, hb1⟩ : ∃ a, a = x1 / 4 &&& 3689348814741910323 := ⟨_, rfl⟩
  obtain ⟨b2, hb2⟩ : ∃ a, a = x1 &&& 3689348814741910323 := ⟨_, rfl⟩
  have m1 : b1 ≤ x1 / 4 := by rw [hb1]; exact Nat.and_le_left
  have m2 : b2 ≤ x1 := by rw [hb2]; exact Nat.and_le_left
  have f4 : bits .and .u64 ((x1 : Int) / 4) 3689348814741910323 = (b1 : Nat) := by
    have := and_u64 (x1 / 4) 3689348814741910323 (by omega) (by omega)
    rw [← hb1] at this
    exact this
  have f5 : bits .and .u64 (x1 : Int) 3689348814741910323 = (b2 : Nat) := by
    have := and_u64 x1 3689348814741910323 (by omega) (by omega)
    rw [← hb2] at this
    exact this
  obtain ⟨x2, hx2⟩ : ∃ a, a = b1 + b2 := ⟨_, rfl⟩
  have f6 : IntKind.u64.wrap ((b1 : Int) + (b2 : Int)) = (x2 : Nat) := by rw [wrap_u64n b1 b2 (by omega), hx2]
  obtain ⟨y, hy⟩ : ∃ a, a = x2 / 16 + x2 := ⟨_, rfl⟩
  have f7 : IntKind.u64.wrap ((x2 : Int) / 16 + (x2 : Int)) = (y : Nat) := by
    have := wrap_u64n (x2 / 16) x2 (by omega)
    rw [← hy] at this
    exact this
  obtain ⟨x3, hx3⟩ : ∃ a, a = y &&& 1085102592571150095 := ⟨_, rfl⟩
  have m3 : x3 ≤ y := by rw [hx3]; exact Nat.and_le_left
  have f8 : bits .and .u64 (y : Int) 1085102592571150095 = (x3 : Nat) := by
    have := and_u64 y 1085102592571150095 (by omega) (by omega)
    rw [← hx3] at this
    exact this
  obtain ⟨x4, hx4⟩ : ∃ a, a = x3 + x3 / 256 := ⟨_, rfl⟩
  have f9 : IntKind.u64.wrap ((x3 : Int) + (x3 : Int) / 256) = (x4 : Nat) := by
    have := wrap_u64n x3 (x3 / 256) (by omega)
    rw [← hx4] at this
    exact this
  obtain ⟨x5, hx5⟩ : ∃ a, a = x4 + x4 / 65536 := ⟨_, rfl⟩
  have f10 : IntKind.u64.wrap ((x4 : Int) + (x4 : Int) / 65536) = (x5 : Nat) := by
    have := wrap_u64n x4 (x4 / 65536) (by omega)
    rw [← hx5] at this
    exact this
  obtain ⟨x6, hx6⟩ : ∃ a, a = x5 + x5 / 4294967296 := ⟨_, rfl⟩
  have f11 : IntKind.u64.wrap ((x5 : Int) + (x5 : Int) / 4294967296) = (x6 : Nat) := by
    have := wrap_u64n x5 (x5 / 4294967296) (by omega)
    rw [← hx6] at this
    exact this
  have f12 : IntKind.i64.wrap (x6 : Int) = (x6 : Int) := IntWalk.i64_in _ (by omega)
  have hfin : popE x = x6 &&& 127 := by rw [hp.out, hx6, hx5, hx4, hx3, hy, hx2, hb1, hb2, hx1, ha1, ha2]; rfl
  have f13 : bits .and .i64 (x6 : Int) 127 = ((popE x : Nat) : Int) := by
    have hx : x6 &&& 127 < 2 ^ 7 := Nat.and_lt_two_pow _ (by omega)
    rw [hfin]
    show IntKind.i64.wrap ((BitVec.ofInt 64 (x6 : Int) &&& BitVec.ofInt 64 ((127 : Nat) : Int)).toNat : Int) = _
    rw [BitVec.toNat_and, BitVec.ofInt_natCast, BitVec.ofInt_natCast, BitVec.toNat_ofNat, BitVec.toNat_ofNat, Nat.mod_eq_of_lt (by omega), Nat.mod_eq_of_lt (by omega), IntKind.wrap_i64]
    omega
  clear hp ha1 ha2 hx1 hb1 hb2 hx2 hy hx3 hx4 hx5 hx6 hfin l1 l2 m1 m2 m3
  go_enter Tryd.func174, Tryd.ntmps174
  go_wp2
  go_ret
  exact ⟨rfl, rfl⟩

set_option maxHeartbeats 1000000 in
theorem onesCount_any (x : Nat) (hx : x < 65536) (w : World) :
    Calls Tryd.prog 113 #[.int .u64 x] w fun e w' => e = .returned (.int .i64 (popE x : Nat)) ∧ w = w' := by
  go_enter Tryd.func113, Tryd.ntmps113
  go_wp2_with (go_at_call 174; refine (onesCount64_any x hx _).mono ?_; rintro e w' ⟨rfl, rfl⟩)
  go_ret
  exact ⟨rfl, rfl⟩

end Go.Proofs.YtkoganldcmhopaaDoor

/- Ranks: the program's rank, the reference's l2Rank. -/
namespace Go.Proofs.YtkoganldcmhopaaDoor
open Go.RowKit Go.BigFrame AG

set_option maxHeartbeats 1000000 in
theorem implRank_any (S n : Nat) (w : World) (hS : S < 65536) (hn : n ≤ 16) :
    Calls Tryd.prog 57 #[.int .i64 (S : Nat), .int .i64 (n : Nat)] w fun e w' => e = .returned (.int .i64 (rankN S n : Nat)) ∧ w = w' := by
  have h2 : 2 ^ n ≤ 2 ^ 16 := Nat.pow_le_pow_right (by omega) hn
  have h3 : 0 < 2 ^ n := Nat.two_pow_pos n
  have f1 := wrap_pow (n := n) (by omega)
  obtain ⟨M, hM⟩ : ∃ M, M = 2 ^ n - 1 := ⟨_, rfl⟩
  have f2 : (((2 ^ n : Nat) : Int) - 1) = (M : Int) := by omega
  have f3 := bits_andN S M hS (by omega)
  obtain ⟨X, hX⟩ : ∃ X, X = S &&& M := ⟨_, rfl⟩
  rw [← hX] at f3
  have hXl : X < 65536 := by
    have : X ≤ S := by rw [hX]; exact Nat.and_le_left
    omega
  have hfin : Hid (popE X = rankN S n) := hid (by rw [popE_rank, hX, hM, rank_mask S n 16 hn])
  generalize hP : 2 ^ n = P at *
  clear hM hX
  go_enter Tryd.func57, Tryd.ntmps57
  go_wp2_with (go_at_call 113; refine (onesCount_any X hXl _).mono ?_; rintro e w' ⟨rfl, rfl⟩; rw [hfin.out])
  go_ret
  exact ⟨rfl, rfl⟩

end Go.Proofs.YtkoganldcmhopaaDoor
