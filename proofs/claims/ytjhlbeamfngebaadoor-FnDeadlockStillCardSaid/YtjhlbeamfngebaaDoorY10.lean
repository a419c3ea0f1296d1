/- Lemmas, part 10: several texts in one. -/
import Derived.Test.YtjhlbeamfngebaaDoorY9
import Derived.Test.YtjhlbeamfngebaaDoorY8
import Derived.Laws.OwnMore
import Derived.Test.YtjhlbeamfngebaaDoorY6
import Derived.Test.YtjhlbeamfngebaaDoorY4
import Derived.Test.YtjhlbeamfngebaaDoorY3
import Derived.Test.YtjhlbeamfngebaaDoorY1
import Derived.Test.YtjhlbeamfngebaaDoorY2
import Derived.BigRegion
import Derived.Laws.IdiomStrings
import Derived.Laws.BytesString
import Derived.Maps.AppendAt
import Derived.Deep.Quiet
set_option linter.unusedSimpArgs false
set_option linter.unusedVariables false

/- The drawing kit: l2Wrong. -/
namespace Go.Proofs.YtjhlbeamfngebaaDoor
open Go.RowKit Go.BigFrame AG

/-- Worlds behind m operations of a statement that draws. -/
def RI (w0 : World) (R P : Nat) : Nat → World → Prop := fun m w => KeepB (fun b => b = R) w0 w ∧ RdUp w R (P + m * 10000)
theorem RI.way (w0 : World) (R P : Nat) : AG.Way (KeepB fun b => b = R) (RI w0 R P) := ⟨fun w => KeepB.refl _ w, fun _ _ _ h k => h.trans k, fun m _ h => ⟨h.1, h.2.more (by omega)⟩⟩
theorem RI.begin {w0 : World} {R P : Nat} (h : RdUp w0 R P) : RI w0 R P 0 w0 := ⟨KeepB.refl _ _, h.more (by omega)⟩
theorem RI.drew {w0 : World} {R P : Nat} (h : RdUp w0 R P) : RI w0 R P 0 w0.drew := ⟨⟨rfl, rfl, rfl, Nat.le_refl _, fun _ _ _ => rfl⟩, (h.later ((Below.refl _ _).drew)).more (by omega)⟩
theorem RI.fam {w0 : World} {R P : Nat} (h : RdUp w0 R P) (x : World) : KeepB (fun b => b = R) w0 (GK.FamI (GK.Upto (RI w0 R P) 200) w0 x) := by
  obtain ⟨_, _, h⟩ := GK.FamI.is (J := GK.Upto (RI w0 R P) 200) (w1 := w0) ⟨0, by omega, RI.begin h⟩ x
  exact h.1
theorem RI.cell {w0 : World} {R P b o : Nat} {v : Value} (hr : RdUp w0 R P) (h : w0.cell? ⟨b, o, none⟩ = some v) (hb : b ≠ R) (x : World) : (GK.FamI (GK.Upto (RI w0 R P) 200) w0 x).cell? ⟨b, o, none⟩ = some v := by
  rw [KeepB.cell_ (RI.fam hr x) (World.block_lt_of_cell? _ _ h) hb]
  exact h
theorem RI.alloc {w0 w : World} {R P m : Nat} (o : Obj) (h : RI w0 R P m w) : RI w0 R P (m + 1) (w.alloc o) := ⟨h.1.alloc o, (h.2.later ((Below.refl _ _).alloc (Nat.le_refl _) o)).more (by omega)⟩
theorem RI.call {w0 w w' : World} {R P P' m : Nat} (h : RI w0 R P m w) (hk : KeepB (fun b => b = R) w w') (hr : RdUp w' R P') (hP : P' ≤ P + m * 10000 + 10000) : KeepB (fun b => b = R) w w' ∧ RI w0 R P (m + 1) w' := ⟨hk, h.1.trans hk, hr.more (by omega)⟩
theorem RI.size {w0 w : World} {R P m : Nat} (h : RI w0 R P m w) : w0.heap.size ≤ w.heap.size := h.1.size

theorem num_blk (R P g : Nat) (xs : List Int) (w : World) (T : TypeId) (hk : 0 < xs.length) (hk2 : xs.length ≤ 1000) (hP : P < 1125899906842624) (hg : w.heap[g]? = some (.cells (xs.map (Value.int .i64)).toArray T (0, 0))) (hgR : g ≠ R) (hr : RdUp w R P) :
    Calls Tryd.prog 154 #[.pointer (some ⟨R, 0, none⟩), .slice (some ⟨g, 0, none⟩) xs.length xs.length] w (NumUp R P xs w) := by
  have hb : Blk w g T (xs.map (Value.int .i64)).toArray := hg
  refine (num_up R P g 0 xs.length xs.length xs _ rfl hk (by omega) hP hgR hb.lt (fun i h => ?_) hr).mono fun e w' ⟨x, h1, h2, h3, h4⟩ => ⟨x, h1, h2, h3, h4⟩
  rw [Nat.zero_add, hb.cell]
  simp [h]

theorem edCells_set : ∀ (es : List Ed) (k : Nat) (x : Ed), edCells (es.set k x) = (((edCells es).set (k * 3) (.int .i64 x.f)).set (k * 3 + 1) (.int .i64 x.l)).set (k * 3 + 2) (.int .i64 x.t)
  | [], k, x => rfl
  | e :: es, 0, x => rfl
  | e :: es, k + 1, x => by
    have := edCells_set es k x
    rw [show (k + 1) * 3 = k * 3 + 1 + 1 + 1 from by omega]
    simp only [List.set_cons_succ, edCells]
    rw [this]
theorem set_same {α : Type} {l : List α} {i : Nat} {x : α} (h : l[i]? = some x) : l.set i x = l := by
  apply List.ext_getElem?
  intro j
  rw [List.getElem?_set]
  split
  · rename_i e
    subst e
    split
    · exact h.symm
    · rename_i h'
      rw [List.getElem?_eq_none (by omega)] at h
      cases h
  · rfl

theorem edCells_set0 {es : List Ed} {k : Nat} (hk : k < es.length) (x : Int) : (edCells es).set (k * 3) (.int .i64 x) = edCells (es.set k ⟨x, (es[k]'hk).l, (es[k]'hk).t⟩) := by
  obtain ⟨h0, h1, h2⟩ := edCells_at es k hk
  rw [edCells_set]
  have g1 : ((edCells es).set (k * 3) (.int .i64 x))[k * 3 + 1]? = some (.int .i64 (es[k]'hk).l) := by rw [List.getElem?_set_ne (by omega)]; exact h1
  have g2 : ((edCells es).set (k * 3) (.int .i64 x))[k * 3 + 2]? = some (.int .i64 (es[k]'hk).t) := by rw [List.getElem?_set_ne (by omega)]; exact h2
  rw [set_same g1, set_same g2]
theorem edCells_set1 {es : List Ed} {k : Nat} (hk : k < es.length) (x : Int) : (edCells es).set (k * 3 + 1) (.int .i64 x) = edCells (es.set k ⟨(es[k]'hk).f, x, (es[k]'hk).t⟩) := by
  obtain ⟨h0, h1, h2⟩ := edCells_at es k hk
  rw [edCells_set]
  have g2 : ((edCells es).set (k * 3 + 1) (.int .i64 x))[k * 3 + 2]? = some (.int .i64 (es[k]'hk).t) := by rw [List.getElem?_set_ne (by omega)]; exact h2
  rw [set_same h0, set_same g2]
theorem edCells_set2 {es : List Ed} {k : Nat} (hk : k < es.length) (x : Int) : (edCells es).set (k * 3 + 2) (.int .i64 x) = edCells (es.set k ⟨(es[k]'hk).f, (es[k]'hk).l, x⟩) := by
  obtain ⟨h0, h1, h2⟩ := edCells_at es k hk
  rw [edCells_set]
  rw [set_same h0, set_same h1]

/-- A copy of a system that the call may write. -/
structure OutSt (w wr : World) (R P B gs : Nat) (al st : Int) (v : Value) (es : List Ed) (L : Nat) : Prop where
  blk : Blk wr gs 37 #[.int .i64 al, .int .i64 st, v]
  own : OwnEds wr B v es
  len : es.length ≤ L
  rd : RdUp wr R P
  keep : KeepB (fun b => b = R) w wr
  hB : w.heap.size ≤ B
  hgs : B ≤ gs
theorem OutSt.ne {w wr : World} {R P B gs : Nat} {al st : Int} {v : Value} {es : List Ed} {L : Nat} (h : OutSt w wr R P B gs al st v es L) : v.ownBlock ≠ some gs := fun e => own_ne h.own h.blk (by decide) gs e rfl
theorem OutSt.call {w wr w1 : World} {R P P' B gs : Nat} {al st : Int} {v : Value} {es : List Ed} {L : Nat} (h : OutSt w wr R P B gs al st v es L) (hk : KeepB (fun b => b = R) wr w1) (hr : RdUp w1 R P') (hR : R < w.heap.size) : OutSt w w1 R P' B gs al st v es L :=
  ⟨h.blk.keep hk (by have := h.hB; have := h.hgs; omega), own_keep h.own hk (fun g hg => by have := (h.own.lt g hg).1; have := h.hB; omega), h.len, hr, h.keep.trans hk, h.hB, h.hgs⟩
theorem OutSt.later {w wr w1 : World} {R P B gs : Nat} {al st : Int} {v : Value} {es : List Ed} {L : Nat} (h : OutSt w wr R P B gs al st v es L) (hb : Below wr.heap.size wr w1) (hR : R < w.heap.size) : OutSt w w1 R P B gs al st v es L := h.call (KeepB.of_below hb) (h.rd.later hb) hR
theorem OutSt.set0 {w wr : World} {R P B gs : Nat} {al st : Int} {v : Value} {es : List Ed} {L : Nat} (h : OutSt w wr R P B gs al st v es L) (hR : R < w.heap.size) (x : Int) : OutSt w (wr.setCell ⟨gs, 0, none⟩ (.int .i64 x)) R P B gs x st v es L := by
  have hk : KeepB (fun b => b = gs) wr (wr.setCell ⟨gs, 0, none⟩ (.int .i64 x)) := (KeepB.refl _ wr).setCell _ _ (by simp)
  have h1 := h.hB
  have h2 := h.hgs
  exact ⟨by simpa using h.blk.set_ 0 (.int .i64 x), ownsRow_setCell_other h.own h.ne _, h.len, h.rd.keep hk (by omega), h.keep.setCell _ _ (fun hlt => by simp at hlt; omega), h1, h2⟩
theorem OutSt.set1 {w wr : World} {R P B gs : Nat} {al st : Int} {v : Value} {es : List Ed} {L : Nat} (h : OutSt w wr R P B gs al st v es L) (hR : R < w.heap.size) (x : Int) : OutSt w (wr.setCell ⟨gs, 1, none⟩ (.int .i64 x)) R P B gs al x v es L := by
  have hk : KeepB (fun b => b = gs) wr (wr.setCell ⟨gs, 1, none⟩ (.int .i64 x)) := (KeepB.refl _ wr).setCell _ _ (by simp)
  have h1 := h.hB
  have h2 := h.hgs
  exact ⟨by simpa using h.blk.set_ 1 (.int .i64 x), ownsRow_setCell_other h.own h.ne _, h.len, h.rd.keep hk (by omega), h.keep.setCell _ _ (fun hlt => by simp at hlt; omega), h1, h2⟩
theorem OutSt.edit {w wr : World} {R P B gs g c : Nat} {al st : Int} {es : List Ed} {L : Nat} (h : OutSt w wr R P B gs al st (.slice (some ⟨g, 0, none⟩) es.length c) es L) (hR : R < w.heap.size) (k j : Nat) (y : Ed) (x : Int) (hk : k < es.length)
    (hj : (edCells es).set j (.int .i64 x) = edCells (es.set k y)) : OutSt w (wr.setCell ⟨g, j, none⟩ (.int .i64 x)) R P B gs al st (.slice (some ⟨g, 0, none⟩) es.length c) (es.set k y) L := by
  have hs := World.ownsRow.stored h.own j (.int .i64 x)
  have h1 := h.hB
  have h2 := h.hgs
  have hg := h.own.lt g rfl
  have hne : gs ≠ g := fun e => h.ne (by rw [e]; rfl)
  have hkk : KeepB (fun b => b = g) wr (wr.setCell ⟨g, j, none⟩ (.int .i64 x)) := (KeepB.refl _ wr).setCell _ _ (by simp)
  refine ⟨h.blk.keep hkk (by omega), ?_, by simpa using h.len, h.rd.keep hkk (by omega), h.keep.setCell _ _ (fun hlt => by simp at hlt; omega), h1, h2⟩
  unfold OwnEds
  rw [List.length_set, ← hj]
  exact hs.1
theorem OutSt.add {w wr w1 : World} {R P B gs : Nat} {al st : Int} {v v' : Value} {es : List Ed} {L : Nat} {x : Ed} (h : OutSt w wr R P B gs al st v es L) (hR : R < w.heap.size)
    (hown : w1.ownsRow B 77 3 v' (es.length + 1) (edCells es ++ [.int .i64 x.f, .int .i64 x.l, .int .i64 x.t])) (hg : wr.grownBy w1 v.ownBlock) (hat : v'.ownBlock = v.ownBlock ∨ v'.ownBlock = some wr.heap.size) :
    OutSt w (w1.setCell ⟨gs, 2, none⟩ v') R P B gs al st v' (es ++ [x]) (L + 1) := by
  have h1 := h.hB
  have h2 := h.hgs
  have hv : ∀ k, v.ownBlock = some k → B ≤ k ∧ k ≠ gs := fun k hk => ⟨(h.own.lt k hk).1, fun e => h.ne (by rw [hk, e])⟩
  have k1 : KeepB (fun b => v.ownBlock = some b) wr w1 := (KeepB.refl _ wr).grown hg (fun k hk _ => hk)
  have hb := h.blk.lt
  have hne' : v'.ownBlock ≠ some gs := fun e => by
    rcases hat with h3 | h3
    · exact h.ne (by rw [← h3, e])
    · rw [h3] at e; injection e with e; omega
  have k2 : KeepB (fun b => v.ownBlock = some b ∨ b = gs) wr (w1.setCell ⟨gs, 2, none⟩ v') := (k1.mono fun _ h => .inl h).setCell _ _ fun _ => .inr rfl
  refine ⟨?_, ?_, by have := h.len; simp; omega, h.rd.keep k2 ?_, (h.keep.grown hg (fun k hk hlt => by have := (hv k hk).1; omega)).setCell _ _ (fun hlt => by simp at hlt; omega), h1, h2⟩
  · have := (h.blk.keep k1 (fun hk => (hv _ hk).2 rfl)).set_ 2 v'
    simpa using this
  · have e : (es ++ [x]).length = es.length + 1 := by simp
    unfold OwnEds
    rw [e, edCells_append]
    exact ownsRow_setCell_other hown hne' _
  · rintro k (hk | rfl)
    · have := (hv k hk).1; omega
    · omega
theorem OutSt.fin {w wr : World} {R P B gs ρ L : Nat} {al st : Int} {A : Option Addr} {c : Nat} {es : List Ed} (h : OutSt w wr R P B gs al st (.slice A es.length c) es L) (hR : R < w.heap.size) (hρ : w.heap.size ≤ ρ) (hρB : ρ < B) (v1 v2 v3 : Value) :
    SyUp R P L w (.returned (.agg #[.int .i64 al, .int .i64 st, .slice A es.length c])) (((wr.setCell ⟨ρ, 0, none⟩ v1).setCell ⟨ρ, 1, none⟩ v2).setCell ⟨ρ, 2, none⟩ v3) := by
  obtain ⟨A', c', hv, h1, h2, h3, h4⟩ := h.own.read
  cases hv
  have hk : KeepB (fun b => b = ρ) wr (((wr.setCell ⟨ρ, 0, none⟩ v1).setCell ⟨ρ, 1, none⟩ v2).setCell ⟨ρ, 2, none⟩ v3) := (((KeepB.refl _ wr).setCell _ _ (by simp)).setCell _ _ (by simp)).setCell _ _ (by simp)
  have hne : ∀ b o, A = some ⟨b, o, none⟩ → 0 < es.length → b ≠ ρ := fun b o hA _ => by have := h4 b o hA; omega
  refine ⟨⟨al, st, es⟩, A, c, rfl, h1, h2, h.len, ?_, fun b o hA => by have := h4 b o hA; omega, h.rd.keep hk (by omega), ?_⟩
  · simpa [World.setCell] using ((h3.stored v1 hne).stored v2 hne).stored v3 hne
  · exact ((h.keep.setCell _ _ (by simp; omega)).setCell _ _ (by simp; omega)).setCell _ _ (by simp; omega)

theorem OutSt.fin' {w wr : World} {R P B gs ρ L n : Nat} {al st : Int} {A : Option Addr} {c : Nat} {es : List Ed} (hn : es.length = n) (h : OutSt w wr R P B gs al st (.slice A n c) es L) (hR : R < w.heap.size) (hρ : w.heap.size ≤ ρ) (hρB : ρ < B) (v1 v2 v3 : Value) :
    SyUp R P L w (.returned (.agg #[.int .i64 al, .int .i64 st, .slice A n c])) (((wr.setCell ⟨ρ, 0, none⟩ v1).setCell ⟨ρ, 1, none⟩ v2).setCell ⟨ρ, 2, none⟩ v3) := by
  subst hn
  exact h.fin hR hρ hρB v1 v2 v3
theorem OutSt.up {w w0 wr : World} {R P P' B gs : Nat} {al st : Int} {v : Value} {es : List Ed} {L L' : Nat} (h : OutSt w0 wr R P B gs al st v es L) (hb : Below w.heap.size w w0) (hP : P ≤ P') (hL : L ≤ L') : OutSt w wr R P' B gs al st v es L' :=
  ⟨h.blk, h.own, by have := h.len; omega, h.rd.more hP, (KeepB.of_below hb).trans h.keep, Nat.le_trans hb.size h.hB, h.hgs⟩
theorem EdsAt.news {w : World} {B : Nat} {A : Option Addr} {es : List Ed} (h : EdsAt w B A es) (hn : 0 < es.length) : ∃ a, A = some a ∧ ∀ (j : Nat) u, (edCells es)[j]? = some u → w.cell? (a.add j) = some u := by
  obtain ⟨b, o, hA, -, hE⟩ := h hn
  refine ⟨_, hA, fun j u hj => ?_⟩
  have hjl : j < es.length * 3 := by
    rw [← edCells_len]
    rcases Nat.lt_or_ge j (edCells es).length with h | h
    · exact h
    · rw [List.getElem?_eq_none h] at hj; cases hj
  have hadd : (⟨b, o, none⟩ : Addr).add j = ⟨b, o + j, none⟩ := by unfold Addr.add; split <;> simp_all
  rw [hadd]
  have hi : j / 3 < es.length := by omega
  obtain ⟨c0, c1, c2⟩ := hE (j / 3) hi
  obtain ⟨d0, d1, d2⟩ := edCells_at es (j / 3) hi
  rcases (by omega : j = j / 3 * 3 ∨ j = j / 3 * 3 + 1 ∨ j = j / 3 * 3 + 2) with e | e | e
  · rw [← e] at d0; rw [hj] at d0; rw [← c0] at d0; rw [show o + j = o + j / 3 * 3 from by omega]; exact d0.symm
  · rw [← e] at d1; rw [hj] at d1; rw [← c1] at d1; rw [show o + j = o + j / 3 * 3 + 1 from by omega]; exact d1.symm
  · rw [← e] at d2; rw [hj] at d2; rw [← c2] at d2; rw [show o + j = o + j / 3 * 3 + 2 from by omega]; exact d2.symm
theorem edCells_one : ∀ (es : List Ed) (u : Value), u ∈ edCells es → u.oneCell' = true
  | [], u, h => by cases h
  | e :: es, u, h => by
    simp only [edCells, List.mem_cons] at h
    rcases h with rfl | rfl | rfl | h
    · rfl
    · rfl
    · rfl
    · exact edCells_one es u h

set_option maxRecDepth 100000 in
set_option maxHeartbeats 8000000 in
theorem l2Wrong_up (R P L : Nat) (s : Sy) (A : Option Addr) (c : Nat) (w : World) (hP : P + 3000000 ≤ 1125899906842624) (hl : s.es.length ≤ c) (hc : c ≤ 9223372036854775807) (hL : s.es.length ≤ L) (hL2 : L ≤ 100000)
    (hs : EdsAt w w.heap.size A s.es) (hr : RdUp w R P) :
    Calls Tryd.prog 155 #[.pointer (some ⟨R, 0, none⟩), s.val A c] w (SyUp R (P + 400000) (L + 1) w) := by
  obtain ⟨i0, hi, hz0, hz1, hz2⟩ := info_parts infoEd
  have hR := hr.lt
  unfold Sy.val
  have hres := (Blk.new (w.alloc (.cells #[.int .i64 s.al, .int .i64 s.st, .slice A s.es.length c] 37)) 37 #[.int .i64 0, .int .i64 0, .slice none 0 0])
  have hpar := (Blk.new w 37 #[.int .i64 s.al, .int .i64 s.st, .slice A s.es.length c]).alloc (.cells #[.int .i64 0, .int .i64 0, .slice none 0 0] 37)
  have hb0 : Below w.heap.size w ((w.alloc (.cells #[.int .i64 s.al, .int .i64 s.st, .slice A s.es.length c] 37)).alloc (.cells #[.int .i64 0, .int .i64 0, .slice none 0 0] 37)) := ((Below.refl _ _).alloc (Nat.le_refl _) _).alloc (by simp) _
  have hsz0 : ((w.alloc (.cells #[.int .i64 s.al, .int .i64 s.st, .slice A s.es.length c] 37)).alloc (.cells #[.int .i64 0, .int .i64 0, .slice none 0 0] 37)).heap.size = w.heap.size + 2 := by simp
  simp only [World.size_alloc] at hres
  generalize hw0 : (w.alloc (.cells #[.int .i64 s.al, .int .i64 s.st, .slice A s.es.length c] 37)).alloc (.cells #[.int .i64 0, .int .i64 0, .slice none 0 0] 37) = w0 at hres hb0 hsz0 hpar
  have p0 := hpar.cell 0
  have p1 := hpar.cell 1
  have p2 := hpar.cell 2
  simp only [List.getElem?_toArray, List.getElem?_cons_zero, List.getElem?_cons_succ] at p0 p1 p2
  have q0 := GK.BI.cell p0
  have q1 := GK.BI.cell p1
  have q2 := GK.BI.cell p2
  have hr0 := hid (hr.later hb0)
  have hs0 := hid (hs.later hb0)
  replace hr := hid hr
  replace hs := hid hs
  replace hres := hid hres
  replace hsz0 := hid hsz0
  clear p0 p1 p2 hpar
  go_enter Tryd.func155, Tryd.ntmps155
  go_wp2_with fail
  refine GK.wp_region 10 [10] 200 (KeepB fun _ => False) (GK.BI w0) (fun _ _ _ => True) (by kernel_rfl) (by kernel_rfl) (GK.BI.way w0) (by decide) (Below.refl _ _).drew ?_
  simp only [List.take_succ_cons, List.take_zero]
  (repeat (refine GK.grow_quiet w0 (by rfl) (by rfl) ?_; intro K hK; go_big_quiet_op; go_big_quiet_on))
  refine GK.grow_new (K := fun _ => False) (by rfl) _ (fun b => .slice (some ⟨b, 0, none⟩) 0 0) 77 #[] (fun _ => by go_simp) rfl (fun _ _ o h => GK.BI.alloc o h) (fun _ _ h => GK.BI.size h) (fun _ h => h.elim) (fun b hb => ?_)
  simp only [Act.put, List.setIfInBounds_toArray, List.set_cons_zero, List.set_cons_succ]
  (repeat (refine GK.grow_quiet w0 (by rfl) (by rfl) ?_; intro K hK; go_big_quiet_op; go_big_quiet_on))
  refine GK.grow_copy (by rfl) _ _ 35 (by rfl) 77 i0 (.agg #[.int .i64 0, .int .i64 0, .int .i64 0]) 3 24 Tryd.underlying35 hi hz0 hz1 hz2 rfl b (by rfl) (fun w hf => ?_) A s.es.length c (edCells s.es) (by rfl) (edCells_len _) (fun hn => EdsAt.news hs0.out hn) (edCells_one _) (by unfold maxLen; omega) (by omega) fun v hv => ?_
  · obtain ⟨b', e1, e2, e3⟩ := hf _ List.mem_cons_self (by kernel_rfl)
    cases e1
    exact ⟨e2, e3⟩
  obtain ⟨Av, cv, hve, -, -⟩ : ∃ Av cv, v = .slice Av s.es.length cv ∧ s.es.length ≤ cv ∧ cv ≤ 9223372036854775807 := by obtain ⟨_, _, hv⟩ := hv; exact own_slice hv
  subst hve
  clear hv
  simp only [Act.put, List.setIfInBounds_toArray, List.set_cons_zero, List.set_cons_succ]
  (repeat (refine GK.grow_quiet w0 (by rfl) (by rfl) ?_; intro K hK; go_big_quiet_op; go_big_quiet_on))
  refine GK.grow_new (K := fun _ => False) (by rfl) _ (fun b => .pointer (some ⟨b, 0, none⟩)) 37 #[.int .i64 0, .int .i64 0, .slice none 0 0] (fun _ => by go_simp) rfl (fun _ _ o h => GK.BI.alloc o h) (fun _ _ h => GK.BI.size h) (fun _ h => h.elim) (fun gs hgs => ?_)
  simp only [Act.put, List.setIfInBounds_toArray, List.set_cons_zero, List.set_cons_succ]
  refine GK.grow_nil ?_
  intro w1 hw1 hf
  simp only [List.filterMap_cons, List.filterMap_nil, List.getElem?_cons_zero, List.getElem?_cons_succ]
  obtain ⟨gs', e1, -, hblk⟩ := hf _ List.mem_cons_self
  cases e1
  have hown := hf _ (List.mem_cons_of_mem _ List.mem_cons_self)
  replace hw1 : Below w0.heap.size w0 w1 := hw1
  clear hf q0 q1 q2 hw0
  have hblk' : Blk w1 gs 37 #[.int .i64 0, .int .i64 0, .slice none 0 0] := hblk
  have hgl := hblk'.lt
  have c0 := hblk'.cell 0
  have c1 := hblk'.cell 1
  have c2 := hblk'.cell 2
  have f0 := hblk'.frozen 0
  have f1 := hblk'.frozen 1
  have f2 := hblk'.frozen 2
  simp only [List.getElem?_toArray, List.getElem?_cons_zero, List.getElem?_cons_succ] at c0 c1 c2
  have hneO : (Value.slice Av s.es.length cv).ownBlock ≠ some gs := fun e => own_ne hown hblk' (by decide) gs e rfl
  have hO : OutSt w0 (((w1.setCell ⟨gs, 0, none⟩ (.int .i64 s.al)).setCell ⟨gs, 1, none⟩ (.int .i64 s.st)).setCell ⟨gs, 2, none⟩ (.slice Av s.es.length cv)) R P w0.heap.size gs s.al s.st (.slice Av s.es.length cv) s.es L := by
    have hsz := hsz0.out
    have hkk : KeepB (fun b => b = gs) w1 (((w1.setCell ⟨gs, 0, none⟩ (.int .i64 s.al)).setCell ⟨gs, 1, none⟩ (.int .i64 s.st)).setCell ⟨gs, 2, none⟩ (.slice Av s.es.length cv)) := (((KeepB.refl _ w1).setCell _ _ (by simp)).setCell _ _ (by simp)).setCell _ _ (by simp)
    refine ⟨by simpa using ((hblk'.set_ 0 (.int .i64 s.al)).set_ 1 (.int .i64 s.st)).set_ 2 (.slice Av s.es.length cv), ownsRow_setCell_other (ownsRow_setCell_other (ownsRow_setCell_other hown hneO _) hneO _) hneO _, hL, (hr0.out.later hw1).keep hkk (by omega), ?_, Nat.le_refl _, hgs⟩
    exact (((KeepB.of_below hw1).setCell _ _ (by simp; omega)).setCell _ _ (by simp; omega)).setCell _ _ (by simp; omega)
  have hO' : ∃ w2, ((w1.setCell ⟨gs, 0, none⟩ (.int .i64 s.al)).setCell ⟨gs, 1, none⟩ (.int .i64 s.st)).setCell ⟨gs, 2, none⟩ (.slice Av s.es.length cv) = w2 := ⟨_, rfl⟩
  obtain ⟨w2, hw2⟩ := hO'
  rw [hw2] at hO
  replace hO := hid hO
  have hcopy := hid hblk'
  clear hblk hblk' hown hneO c0 c1 c2 f0 f1 f2
  have c0 := hO.out.blk.cell 0
  have c1 := hO.out.blk.cell 1
  have c2 := hO.out.blk.cell 2
  simp only [List.getElem?_toArray, List.getElem?_cons_zero, List.getElem?_cons_succ] at c0 c1 c2
  have hf0 := hcopy.out.frozen 0
  have hf1 := hcopy.out.frozen 1
  have hf2 := hcopy.out.frozen 2
  have hm0 := hcopy.out.cell 0
  have hm1 := hcopy.out.cell 1
  have hm2 := hcopy.out.cell 2
  simp only [List.getElem?_toArray, List.getElem?_cons_zero, List.getElem?_cons_succ] at hm0 hm1 hm2
  go_wp2_with fail
  refine (pick_up R P s.es.length w2 (by omega) (by omega) hO.out.rd).mono ?_
  rintro e w3 ⟨k, rfl, hk0, hk1, hr3, hk3⟩
  have hR0 : Hid (R < w0.heap.size) := hid (by have := hsz0.out; omega)
  have hO3 := hid (hO.out.call hk3 hr3 hR0.out)
  clear hr3 hk3 hw2 hO c0 c1 c2 hf0 hf1 hf2 hm0 hm1 hm2 hcopy
  go_wp2_with fail
  refine (pick_up R (P + 1) 30 w3 (by omega) (by omega) hO3.out.rd).mono ?_
  rintro e w4 ⟨j, rfl, hj0, hj1, hr4, hk4⟩
  have hO4 := hid (hO3.out.call hk4 hr4 hR0.out)
  clear hr4 hk4 hO3 hj0 hj1
  obtain ⟨kn, rfl⟩ := Int.eq_ofNat_of_zero_le hk0
  have hkn : 0 < s.es.length → kn < s.es.length := fun h => by omega
  replace hkn := hid hkn
  clear hk0 hk1
  have c0 := hO4.out.blk.cell 0
  have c1 := hO4.out.blk.cell 1
  have c2 := hO4.out.blk.cell 2
  have g0 := hO4.out.blk.frozen 0
  have g1 := hO4.out.blk.frozen 1
  have g2 := hO4.out.blk.frozen 2
  have hgl4 := hO4.out.blk.lt
  simp only [List.getElem?_toArray, List.getElem?_cons_zero, List.getElem?_cons_succ] at c0 c1 c2
  by_cases hj0 : j = 0
  · subst hj0
    go_wp2_with fail
    refine (num_lit R (P + 2) [64, (-1), 1, 63] w4 _ (by decide) (by decide) (by omega) hO4.out.rd).mono ?_
    rintro e w5 ⟨x, hx, rfl, hr5, hk5⟩
    clear hx
    have hO5 := hid (hO4.out.call hk5 hr5 hR0.out)
    clear hr5 hk5 c0 c1 c2 g0 g1 g2
    have c0 := hO5.out.blk.cell 0
    have g0 := hO5.out.blk.frozen 0
    simp only [List.getElem?_toArray, List.getElem?_cons_zero, List.getElem?_cons_succ] at c0
    obtain ⟨w6, hw6⟩ : ∃ w6, w5.setCell ⟨gs, 0, none⟩ (.int .i64 x) = w6 := ⟨_, rfl⟩
    have hX := hid (hO5.out.set0 hR0.out x)
    rw [hw6] at hX
    have hgl5 := hO5.out.blk.lt
    have k0 := hX.out.blk.cell 0
    have k1 := hX.out.blk.cell 1
    have k2 := hX.out.blk.cell 2
    have hbl := hid (hres.out.keep hX.out.keep (by have := hsz0.out; omega))
    have d0 := hbl.out.cell 0
    have d1 := hbl.out.cell 1
    have d2 := hbl.out.cell 2
    have y0 := hbl.out.frozen 0
    have y1 := hbl.out.frozen 1
    have y2 := hbl.out.frozen 2
    have hlt := hbl.out.lt
    simp only [List.getElem?_toArray, List.getElem?_cons_zero, List.getElem?_cons_succ] at d0 d1 d2 k0 k1 k2
    have hfin := hid ((hX.out.up hb0 (P' := P + 400000) (L' := L + 1) (by omega) (by omega)).fin hR (ρ := w.heap.size + 1) (by omega) (by have := hsz0.out; omega) (.int .i64 x) (.int .i64 s.st) (.slice Av s.es.length cv))
    go_wp2
    refine bodyPost_ret (v := .agg #[.int .i64 x, .int .i64 s.st, .slice Av s.es.length cv]) (by simp [results, Tryd.results155, go_sem, d0, d1, d2]) rfl ?_
    exact hfin.out
  · have hjb0 : ((j : Int) == 0) = false := by simpa using hj0
    replace hj0 := hid hj0
    by_cases hj1 : j = 1
    · subst hj1
      go_wp2_with fail
      refine (num_lit R (P + 2) [0, 17, (-1), 16, 1] w4 _ (by decide) (by decide) (by omega) hO4.out.rd).mono ?_
      rintro e w5 ⟨x, hx, rfl, hr5, hk5⟩
      clear hx
      have hO5 := hid (hO4.out.call hk5 hr5 hR0.out)
      clear hr5 hk5 c0 c1 c2 g0 g1 g2
      have c0 := hO5.out.blk.cell 1
      have g0 := hO5.out.blk.frozen 1
      simp only [List.getElem?_toArray, List.getElem?_cons_zero, List.getElem?_cons_succ] at c0
      obtain ⟨w6, hw6⟩ : ∃ w6, w5.setCell ⟨gs, 1, none⟩ (.int .i64 x) = w6 := ⟨_, rfl⟩
      have hX := hid (hO5.out.set1 hR0.out x)
      rw [hw6] at hX
      have hgl5 := hO5.out.blk.lt
      have k0 := hX.out.blk.cell 0
      have k1 := hX.out.blk.cell 1
      have k2 := hX.out.blk.cell 2
      have hbl := hid (hres.out.keep hX.out.keep (by have := hsz0.out; omega))
      have d0 := hbl.out.cell 0
      have d1 := hbl.out.cell 1
      have d2 := hbl.out.cell 2
      have y0 := hbl.out.frozen 0
      have y1 := hbl.out.frozen 1
      have y2 := hbl.out.frozen 2
      have hlt := hbl.out.lt
      simp only [List.getElem?_toArray, List.getElem?_cons_zero, List.getElem?_cons_succ] at d0 d1 d2 k0 k1 k2
      have hfin := hid ((hX.out.up hb0 (P' := P + 400000) (L' := L + 1) (by omega) (by omega)).fin hR (ρ := w.heap.size + 1) (by omega) (by have := hsz0.out; omega) (.int .i64 s.al) (.int .i64 x) (.slice Av s.es.length cv))
      go_wp2
      refine bodyPost_ret (v := .agg #[.int .i64 s.al, .int .i64 x, .slice Av s.es.length cv]) (by simp [results, Tryd.results155, go_sem, d0, d1, d2]) rfl ?_
      exact hfin.out
    · have hjb1 : ((j : Int) == 1) = false := by simpa using hj1
      replace hj1 := hid hj1
      by_cases hj2 : j = 2
      · subst hj2
        by_cases hn : s.es.length = 0
        · have hn2 : decide (0 < s.es.length) = false := decide_eq_false (by omega)
          have hX := hO4
          replace hn := hid hn
          have k0 := hX.out.blk.cell 0
          have k1 := hX.out.blk.cell 1
          have k2 := hX.out.blk.cell 2
          have hbl := hid (hres.out.keep hX.out.keep (by have := hsz0.out; omega))
          have d0 := hbl.out.cell 0
          have d1 := hbl.out.cell 1
          have d2 := hbl.out.cell 2
          have y0 := hbl.out.frozen 0
          have y1 := hbl.out.frozen 1
          have y2 := hbl.out.frozen 2
          have hlt := hbl.out.lt
          simp only [List.getElem?_toArray, List.getElem?_cons_zero, List.getElem?_cons_succ] at d0 d1 d2 k0 k1 k2
          have hfin := hid ((hX.out.up hb0 (P' := P + 400000) (L' := L + 1) (by omega) (by omega)).fin hR (ρ := w.heap.size + 1) (by omega) (by have := hsz0.out; omega) (.int .i64 s.al) (.int .i64 s.st) (.slice Av s.es.length cv))
          go_wp2
          refine bodyPost_ret (v := .agg #[.int .i64 s.al, .int .i64 s.st, .slice Av s.es.length cv]) (by simp [results, Tryd.results155, go_sem, d0, d1, d2]) rfl ?_
          exact hfin.out
        · have hkl := hkn.out (by omega)
          obtain ⟨g, cap, hve, hg1, hg2, -, -, -⟩ := own_shape hO4.out.own (by omega)
          cases hve
          have hn2 : (0 : Int) < (s.es.length : Int) := by omega
          have i1 : (0 : Int) ≤ (kn : Int) ∧ (kn : Int) < (s.es.length : Int) := by omega
          have hgsR : gs ≠ R := by have := hO4.out.hgs; have := hR0.out; omega
          have q2 := RI.cell hO4.out.rd c2 hgsR
          replace hn := hid hn
          clear c0 c1 g0 g1 g2
          go_wp2_with fail
          clear c2
          refine GK.wp_region 8 [8] 200 (KeepB fun b => b = R) (RI w4 R (P + 2)) (fun _ u _ => ∃ x : Int, u = .int .i64 x) (by kernel_rfl) (by kernel_rfl) (RI.way w4 R (P + 2)) (by decide) (RI.drew hO4.out.rd) ?_
          simp only [List.take_succ_cons, List.take_zero]
          (repeat (refine GK.grow_quiet w4 (by rfl) (by rfl) ?_; intro K hK; go_big_quiet_op; go_big_quiet_on))
          refine GK.grow_new (K := fun b => b = R) (by rfl) w4.heap.size (fun b => .slice (some ⟨b, 0, none⟩) 4 4) 3 #[.int .i64 (-1), .int .i64 16, .int .i64 0, .int .i64 2] (fun _ => by go_simp) rfl (fun _ _ o h => RI.alloc o h) (fun _ _ h => RI.size h) (fun k hk => by have := hO4.out.rd.lt; omega) (fun b hb => ?_)
          simp only [Act.put, List.setIfInBounds_toArray, List.set_cons_zero, List.set_cons_succ]
          (repeat (refine GK.grow_quiet w4 (by rfl) (by rfl) ?_; intro K hK; go_big_quiet_op; go_big_quiet_on))
          refine GK.grow_call (by rfl) (fun u w w' _ h => h) (fun m wq hm hbq hf => ?_) ?_
          · obtain ⟨b', z1, z2, z3⟩ := hf _ List.mem_cons_self (by kernel_rfl)
            cases z1
            have hlt4 := hO4.out.rd.lt
            go_simp
            exact ⟨rfl, (num_blk R (P + 2 + m * 10000) b [(-1), 16, 0, 2] wq _ (by decide) (by decide) (by omega) z3 (by omega) hbq.2).mono fun e w' ⟨x, _, h2, h3, h4⟩ => ⟨_, h2, RI.call hbq h4 h3 (by omega), x, rfl⟩⟩
          rintro u ⟨_, _, _, x, rfl⟩
          simp only [Act.put, List.setIfInBounds_toArray, List.set_cons_zero, List.set_cons_succ]
          (repeat (refine GK.grow_quiet w4 (by rfl) (by rfl) ?_; intro K hK; go_big_quiet_op; go_big_quiet_on))
          refine GK.grow_nil ?_
          intro w5 hw5 _
          simp only [List.filterMap_cons, List.filterMap_nil, List.getElem?_cons_zero, List.getElem?_cons_succ]
          have hO5 := hid (hO4.out.call hw5.1 hw5.2 hR0.out)
          clear q2
          have hcg := World.ownsRow.cellAt hO5.out.own (kn * 3) (by omega)
          rw [(edCells_at s.es kn hkl).1] at hcg
          have hfg := World.ownsRow.frozenAt hO5.out.own (kn * 3)
          obtain ⟨w6, hw6⟩ : ∃ w6, w5.setCell ⟨g, kn * 3, none⟩ (.int .i64 x) = w6 := ⟨_, rfl⟩
          have hX := hid (hO5.out.edit hR0.out kn (kn * 3) ⟨x, (s.es[kn]'hkl).l, (s.es[kn]'hkl).t⟩ x hkl (edCells_set0 hkl x))
          rw [hw6] at hX
          have hgl5 := hO5.out.blk.lt
          have hsl : (s.es.set kn ⟨x, (s.es[kn]'hkl).l, (s.es[kn]'hkl).t⟩).length = s.es.length := List.length_set
          have k0 := hX.out.blk.cell 0
          have k1 := hX.out.blk.cell 1
          have k2 := hX.out.blk.cell 2
          have hbl := hid (hres.out.keep hX.out.keep (by have := hsz0.out; omega))
          have d0 := hbl.out.cell 0
          have d1 := hbl.out.cell 1
          have d2 := hbl.out.cell 2
          have y0 := hbl.out.frozen 0
          have y1 := hbl.out.frozen 1
          have y2 := hbl.out.frozen 2
          have hlt := hbl.out.lt
          simp only [List.getElem?_toArray, List.getElem?_cons_zero, List.getElem?_cons_succ] at d0 d1 d2 k0 k1 k2
          have hfin := hid (OutSt.fin' hsl (hX.out.up hb0 (P' := P + 400000) (L' := L + 1) (by omega) (by omega)) hR (ρ := w.heap.size + 1) (by omega) (by have := hsz0.out; omega) (.int .i64 s.al) (.int .i64 s.st) (.slice (some ⟨g, 0, none⟩) s.es.length cv))
          go_wp2
          refine bodyPost_ret (v := .agg #[.int .i64 s.al, .int .i64 s.st, .slice (some ⟨g, 0, none⟩) s.es.length cv]) (by simp [results, Tryd.results155, go_sem, d0, d1, d2]) rfl ?_
          exact hfin.out
      · have hjb2 : ((j : Int) == 2) = false := by simpa using hj2
        replace hj2 := hid hj2
        by_cases hj3 : j = 3
        · subst hj3
          by_cases hn : s.es.length = 0
          · have hn2 : decide (0 < s.es.length) = false := decide_eq_false (by omega)
            have hX := hO4
            replace hn := hid hn
            have k0 := hX.out.blk.cell 0
            have k1 := hX.out.blk.cell 1
            have k2 := hX.out.blk.cell 2
            have hbl := hid (hres.out.keep hX.out.keep (by have := hsz0.out; omega))
            have d0 := hbl.out.cell 0
            have d1 := hbl.out.cell 1
            have d2 := hbl.out.cell 2
            have y0 := hbl.out.frozen 0
            have y1 := hbl.out.frozen 1
            have y2 := hbl.out.frozen 2
            have hlt := hbl.out.lt
            simp only [List.getElem?_toArray, List.getElem?_cons_zero, List.getElem?_cons_succ] at d0 d1 d2 k0 k1 k2
            have hfin := hid ((hX.out.up hb0 (P' := P + 400000) (L' := L + 1) (by omega) (by omega)).fin hR (ρ := w.heap.size + 1) (by omega) (by have := hsz0.out; omega) (.int .i64 s.al) (.int .i64 s.st) (.slice Av s.es.length cv))
            go_wp2
            refine bodyPost_ret (v := .agg #[.int .i64 s.al, .int .i64 s.st, .slice Av s.es.length cv]) (by simp [results, Tryd.results155, go_sem, d0, d1, d2]) rfl ?_
            exact hfin.out
          · have hkl := hkn.out (by omega)
            obtain ⟨g, cap, hve, hg1, hg2, -, -, -⟩ := own_shape hO4.out.own (by omega)
            cases hve
            have hn2 : (0 : Int) < (s.es.length : Int) := by omega
            have i1 : (0 : Int) ≤ (kn : Int) ∧ (kn : Int) < (s.es.length : Int) := by omega
            have hgsR : gs ≠ R := by have := hO4.out.hgs; have := hR0.out; omega
            have q2 := RI.cell hO4.out.rd c2 hgsR
            replace hn := hid hn
            clear c0 c1 g0 g1 g2
            go_wp2_with fail
            clear c2
            refine GK.wp_region 8 [8] 200 (KeepB fun b => b = R) (RI w4 R (P + 2)) (fun _ u _ => ∃ x : Int, u = .int .i64 x) (by kernel_rfl) (by kernel_rfl) (RI.way w4 R (P + 2)) (by decide) (RI.drew hO4.out.rd) ?_
            simp only [List.take_succ_cons, List.take_zero]
            (repeat (refine GK.grow_quiet w4 (by rfl) (by rfl) ?_; intro K hK; go_big_quiet_op; go_big_quiet_on))
            refine GK.grow_new (K := fun b => b = R) (by rfl) w4.heap.size (fun b => .slice (some ⟨b, 0, none⟩) 4 4) 3 #[.int .i64 (-1), .int .i64 16, .int .i64 0, .int .i64 3] (fun _ => by go_simp) rfl (fun _ _ o h => RI.alloc o h) (fun _ _ h => RI.size h) (fun k hk => by have := hO4.out.rd.lt; omega) (fun b hb => ?_)
            simp only [Act.put, List.setIfInBounds_toArray, List.set_cons_zero, List.set_cons_succ]
            (repeat (refine GK.grow_quiet w4 (by rfl) (by rfl) ?_; intro K hK; go_big_quiet_op; go_big_quiet_on))
            refine GK.grow_call (by rfl) (fun u w w' _ h => h) (fun m wq hm hbq hf => ?_) ?_
            · obtain ⟨b', z1, z2, z3⟩ := hf _ List.mem_cons_self (by kernel_rfl)
              cases z1
              have hlt4 := hO4.out.rd.lt
              go_simp
              exact ⟨rfl, (num_blk R (P + 2 + m * 10000) b [(-1), 16, 0, 3] wq _ (by decide) (by decide) (by omega) z3 (by omega) hbq.2).mono fun e w' ⟨x, _, h2, h3, h4⟩ => ⟨_, h2, RI.call hbq h4 h3 (by omega), x, rfl⟩⟩
            rintro u ⟨_, _, _, x, rfl⟩
            simp only [Act.put, List.setIfInBounds_toArray, List.set_cons_zero, List.set_cons_succ]
            (repeat (refine GK.grow_quiet w4 (by rfl) (by rfl) ?_; intro K hK; go_big_quiet_op; go_big_quiet_on))
            refine GK.grow_nil ?_
            intro w5 hw5 _
            simp only [List.filterMap_cons, List.filterMap_nil, List.getElem?_cons_zero, List.getElem?_cons_succ]
            have hO5 := hid (hO4.out.call hw5.1 hw5.2 hR0.out)
            clear q2
            have hcg := World.ownsRow.cellAt hO5.out.own (kn * 3 + 2) (by omega)
            rw [(edCells_at s.es kn hkl).2.2] at hcg
            have hfg := World.ownsRow.frozenAt hO5.out.own (kn * 3 + 2)
            obtain ⟨w6, hw6⟩ : ∃ w6, w5.setCell ⟨g, kn * 3 + 2, none⟩ (.int .i64 x) = w6 := ⟨_, rfl⟩
            have hX := hid (hO5.out.edit hR0.out kn (kn * 3 + 2) ⟨(s.es[kn]'hkl).f, (s.es[kn]'hkl).l, x⟩ x hkl (edCells_set2 hkl x))
            rw [hw6] at hX
            have hgl5 := hO5.out.blk.lt
            have hsl : (s.es.set kn ⟨(s.es[kn]'hkl).f, (s.es[kn]'hkl).l, x⟩).length = s.es.length := List.length_set
            have k0 := hX.out.blk.cell 0
            have k1 := hX.out.blk.cell 1
            have k2 := hX.out.blk.cell 2
            have hbl := hid (hres.out.keep hX.out.keep (by have := hsz0.out; omega))
            have d0 := hbl.out.cell 0
            have d1 := hbl.out.cell 1
            have d2 := hbl.out.cell 2
            have y0 := hbl.out.frozen 0
            have y1 := hbl.out.frozen 1
            have y2 := hbl.out.frozen 2
            have hlt := hbl.out.lt
            simp only [List.getElem?_toArray, List.getElem?_cons_zero, List.getElem?_cons_succ] at d0 d1 d2 k0 k1 k2
            have hfin := hid (OutSt.fin' hsl (hX.out.up hb0 (P' := P + 400000) (L' := L + 1) (by omega) (by omega)) hR (ρ := w.heap.size + 1) (by omega) (by have := hsz0.out; omega) (.int .i64 s.al) (.int .i64 s.st) (.slice (some ⟨g, 0, none⟩) s.es.length cv))
            go_wp2
            refine bodyPost_ret (v := .agg #[.int .i64 s.al, .int .i64 s.st, .slice (some ⟨g, 0, none⟩) s.es.length cv]) (by simp [results, Tryd.results155, go_sem, d0, d1, d2]) rfl ?_
            exact hfin.out
        · have hjb3 : ((j : Int) == 3) = false := by simpa using hj3
          replace hj3 := hid hj3
          by_cases hj4 : j = 4
          · subst hj4
            by_cases hn : s.es.length = 0
            · have hn2 : decide (0 < s.es.length) = false := decide_eq_false (by omega)
              have hX := hO4
              replace hn := hid hn
              have k0 := hX.out.blk.cell 0
              have k1 := hX.out.blk.cell 1
              have k2 := hX.out.blk.cell 2
              have hbl := hid (hres.out.keep hX.out.keep (by have := hsz0.out; omega))
              have d0 := hbl.out.cell 0
              have d1 := hbl.out.cell 1
              have d2 := hbl.out.cell 2
              have y0 := hbl.out.frozen 0
              have y1 := hbl.out.frozen 1
              have y2 := hbl.out.frozen 2
              have hlt := hbl.out.lt
              simp only [List.getElem?_toArray, List.getElem?_cons_zero, List.getElem?_cons_succ] at d0 d1 d2 k0 k1 k2
              have hfin := hid ((hX.out.up hb0 (P' := P + 400000) (L' := L + 1) (by omega) (by omega)).fin hR (ρ := w.heap.size + 1) (by omega) (by have := hsz0.out; omega) (.int .i64 s.al) (.int .i64 s.st) (.slice Av s.es.length cv))
              go_wp2
              refine bodyPost_ret (v := .agg #[.int .i64 s.al, .int .i64 s.st, .slice Av s.es.length cv]) (by simp [results, Tryd.results155, go_sem, d0, d1, d2]) rfl ?_
              exact hfin.out
            · have hkl := hkn.out (by omega)
              obtain ⟨g, cap, hve, hg1, hg2, -, -, -⟩ := own_shape hO4.out.own (by omega)
              cases hve
              have hn2 : (0 : Int) < (s.es.length : Int) := by omega
              have i1 : (0 : Int) ≤ (kn : Int) ∧ (kn : Int) < (s.es.length : Int) := by omega
              have hgsR : gs ≠ R := by have := hO4.out.hgs; have := hR0.out; omega
              have q2 := RI.cell hO4.out.rd c2 hgsR
              replace hn := hid hn
              clear c0 c1 g0 g1 g2
              go_wp2_with fail
              clear c2
              refine GK.wp_region 8 [8] 200 (KeepB fun b => b = R) (RI w4 R (P + 2)) (fun _ u _ => ∃ x : Int, u = .int .i64 x) (by kernel_rfl) (by kernel_rfl) (RI.way w4 R (P + 2)) (by decide) (RI.drew hO4.out.rd) ?_
              simp only [List.take_succ_cons, List.take_zero]
              (repeat (refine GK.grow_quiet w4 (by rfl) (by rfl) ?_; intro K hK; go_big_quiet_op; go_big_quiet_on))
              refine GK.grow_new (K := fun b => b = R) (by rfl) w4.heap.size (fun b => .slice (some ⟨b, 0, none⟩) 5 5) 3 #[.int .i64 (-1), .int .i64 6, .int .i64 70, .int .i64 5, .int .i64 0] (fun _ => by go_simp) rfl (fun _ _ o h => RI.alloc o h) (fun _ _ h => RI.size h) (fun k hk => by have := hO4.out.rd.lt; omega) (fun b hb => ?_)
              simp only [Act.put, List.setIfInBounds_toArray, List.set_cons_zero, List.set_cons_succ]
              (repeat (refine GK.grow_quiet w4 (by rfl) (by rfl) ?_; intro K hK; go_big_quiet_op; go_big_quiet_on))
              refine GK.grow_call (by rfl) (fun u w w' _ h => h) (fun m wq hm hbq hf => ?_) ?_
              · obtain ⟨b', z1, z2, z3⟩ := hf _ List.mem_cons_self (by kernel_rfl)
                cases z1
                have hlt4 := hO4.out.rd.lt
                go_simp
                exact ⟨rfl, (num_blk R (P + 2 + m * 10000) b [(-1), 6, 70, 5, 0] wq _ (by decide) (by decide) (by omega) z3 (by omega) hbq.2).mono fun e w' ⟨x, _, h2, h3, h4⟩ => ⟨_, h2, RI.call hbq h4 h3 (by omega), x, rfl⟩⟩
              rintro u ⟨_, _, _, x, rfl⟩
              simp only [Act.put, List.setIfInBounds_toArray, List.set_cons_zero, List.set_cons_succ]
              (repeat (refine GK.grow_quiet w4 (by rfl) (by rfl) ?_; intro K hK; go_big_quiet_op; go_big_quiet_on))
              refine GK.grow_nil ?_
              intro w5 hw5 _
              simp only [List.filterMap_cons, List.filterMap_nil, List.getElem?_cons_zero, List.getElem?_cons_succ]
              have hO5 := hid (hO4.out.call hw5.1 hw5.2 hR0.out)
              clear q2
              have hcg := World.ownsRow.cellAt hO5.out.own (kn * 3 + 1) (by omega)
              rw [(edCells_at s.es kn hkl).2.1] at hcg
              have hfg := World.ownsRow.frozenAt hO5.out.own (kn * 3 + 1)
              obtain ⟨w6, hw6⟩ : ∃ w6, w5.setCell ⟨g, kn * 3 + 1, none⟩ (.int .i64 x) = w6 := ⟨_, rfl⟩
              have hX := hid (hO5.out.edit hR0.out kn (kn * 3 + 1) ⟨(s.es[kn]'hkl).f, x, (s.es[kn]'hkl).t⟩ x hkl (edCells_set1 hkl x))
              rw [hw6] at hX
              have hgl5 := hO5.out.blk.lt
              have hsl : (s.es.set kn ⟨(s.es[kn]'hkl).f, x, (s.es[kn]'hkl).t⟩).length = s.es.length := List.length_set
              have k0 := hX.out.blk.cell 0
              have k1 := hX.out.blk.cell 1
              have k2 := hX.out.blk.cell 2
              have hbl := hid (hres.out.keep hX.out.keep (by have := hsz0.out; omega))
              have d0 := hbl.out.cell 0
              have d1 := hbl.out.cell 1
              have d2 := hbl.out.cell 2
              have y0 := hbl.out.frozen 0
              have y1 := hbl.out.frozen 1
              have y2 := hbl.out.frozen 2
              have hlt := hbl.out.lt
              simp only [List.getElem?_toArray, List.getElem?_cons_zero, List.getElem?_cons_succ] at d0 d1 d2 k0 k1 k2
              have hfin := hid (OutSt.fin' hsl (hX.out.up hb0 (P' := P + 400000) (L' := L + 1) (by omega) (by omega)) hR (ρ := w.heap.size + 1) (by omega) (by have := hsz0.out; omega) (.int .i64 s.al) (.int .i64 s.st) (.slice (some ⟨g, 0, none⟩) s.es.length cv))
              go_wp2
              refine bodyPost_ret (v := .agg #[.int .i64 s.al, .int .i64 s.st, .slice (some ⟨g, 0, none⟩) s.es.length cv]) (by simp [results, Tryd.results155, go_sem, d0, d1, d2]) rfl ?_
              exact hfin.out
          · have hjb4 : ((j : Int) == 4) = false := by simpa using hj4
            replace hj4 := hid hj4
            by_cases hj5 : j = 5
            · subst hj5
              by_cases hn : s.es.length = 0
              · have hn2 : decide (0 < s.es.length) = false := decide_eq_false (by omega)
                have hX := hO4
                replace hn := hid hn
                have k0 := hX.out.blk.cell 0
                have k1 := hX.out.blk.cell 1
                have k2 := hX.out.blk.cell 2
                have hbl := hid (hres.out.keep hX.out.keep (by have := hsz0.out; omega))
                have d0 := hbl.out.cell 0
                have d1 := hbl.out.cell 1
                have d2 := hbl.out.cell 2
                have y0 := hbl.out.frozen 0
                have y1 := hbl.out.frozen 1
                have y2 := hbl.out.frozen 2
                have hlt := hbl.out.lt
                simp only [List.getElem?_toArray, List.getElem?_cons_zero, List.getElem?_cons_succ] at d0 d1 d2 k0 k1 k2
                have hfin := hid ((hX.out.up hb0 (P' := P + 400000) (L' := L + 1) (by omega) (by omega)).fin hR (ρ := w.heap.size + 1) (by omega) (by have := hsz0.out; omega) (.int .i64 s.al) (.int .i64 s.st) (.slice Av s.es.length cv))
                go_wp2
                refine bodyPost_ret (v := .agg #[.int .i64 s.al, .int .i64 s.st, .slice Av s.es.length cv]) (by simp [results, Tryd.results155, go_sem, d0, d1, d2]) rfl ?_
                exact hfin.out
              · have hkl := hkn.out (by omega)
                obtain ⟨g, cap, hve, hg1, hg2, -, -, -⟩ := own_shape hO4.out.own (by omega)
                cases hve
                have hn2 : (0 : Int) < (s.es.length : Int) := by omega
                have i1 : (0 : Int) ≤ (kn : Int) ∧ (kn : Int) < (s.es.length : Int) := by omega
                obtain ⟨e0, e1, e2⟩ := edCells_at s.es kn hkl
                have r0 := World.ownsRow.cellAt hO4.out.own (kn * 3) (by omega)
                have r1 := World.ownsRow.cellAt hO4.out.own (kn * 3 + 1) (by omega)
                have r2 := World.ownsRow.cellAt hO4.out.own (kn * 3 + 2) (by omega)
                rw [e0] at r0
                rw [e1] at r1
                rw [e2] at r2
                obtain ⟨x, hx⟩ : ∃ x, x = s.es[kn] := ⟨_, rfl⟩
                rw [← hx] at r0 r1 r2
                replace hx := hid hx
                have q2 := GK.BI.cell c2
                have q3 := GK.BI.cell r0
                have q4 := GK.BI.cell r1
                have q5 := GK.BI.cell r2
                replace hn := hid hn
                clear c0 c1 c2 g0 g1 g2 r0 r1 r2 e0 e1 e2
                go_wp2_with fail
                refine GK.wp_region 8 [8, 9, 10] 200 (KeepB fun _ => False) (GK.BI w4) (fun _ _ _ => True) (by kernel_rfl) (by kernel_rfl) (GK.BI.way w4) (by decide) (Below.refl _ _).drew ?_
                simp only [List.take_succ_cons, List.take_zero]
                (repeat (refine GK.grow_quiet w4 (by rfl) (by rfl) ?_; intro K hK; go_big_quiet_op; go_big_quiet_on))
                refine GK.grow_new (K := fun _ => False) (by rfl) _ (fun b => .slice (some ⟨b, 0, none⟩) 1 1) 77 #[.int .i64 x.f, .int .i64 x.l, .int .i64 x.t] (fun _ => by go_simp) rfl (fun _ _ o h => GK.BI.alloc o h) (fun _ _ h => GK.BI.size h) (fun _ h => h.elim) (fun b hb => ?_)
                simp only [Act.put, List.setIfInBounds_toArray, List.set_cons_zero, List.set_cons_succ]
                refine GK.grow_nil ?_
                intro w5 hw5 hf
                obtain ⟨b', z1, z2, hblk5⟩ := hf _ List.mem_cons_self
                cases z1
                clear hf q2 q3 q4 q5
                simp only [List.filterMap_cons, List.filterMap_nil, List.getElem?_cons_zero, List.getElem?_cons_succ]
                replace hw5 : Below w4.heap.size w4 w5 := hw5
                have hO5 := hid (hO4.out.later hw5 hR0.out)
                refine wpList_append_own_at _ (by rfl) _ _ 35 (by rfl) w0.heap.size 77 i0 (.agg #[.int .i64 0, .int .i64 0, .int .i64 0]) 3 24 Tryd.underlying35 hi hz0 hz1 hz2 rfl (by decide) _ s.es.length (edCells s.es) (by rfl) hO5.out.own ⟨b, 0, none⟩ 1 1 [.int .i64 x.f, .int .i64 x.l, .int .i64 x.t] (by rfl) (by rfl) (World.news_of_block hblk5) ?c1 ?c3 ?c4 ?c5 ?_
                case c1 => simp [Value.oneCell']
                case c3 => unfold maxLen; omega
                case c4 => omega
                case c5 => have := hO5.out.keep.size; omega
                intro v6 w6 hown6 hgrow6 hnil6 hat6
                obtain ⟨A6, c6, rfl, -, -⟩ := own_slice hown6
                have ag := hO5.out.ne
                have hgl5 := hO5.out.blk.lt
                have c2' : w6.cell? ⟨gs, 2, none⟩ = some (.slice (some ⟨g, 0, none⟩) s.es.length cv) := by rw [hgrow6.cell_far _ (by simpa using hgl5) (Ne.symm ag)]; exact hO5.out.blk.cell 2
                have f2' : w6.frozen? ⟨gs, 2, none⟩ = false := by rw [hgrow6.frozen_far _ (by simpa using hgl5) (Ne.symm ag)]; exact hO5.out.blk.frozen 2
                obtain ⟨w7, hw7⟩ : ∃ w7, w6.setCell ⟨gs, 2, none⟩ (.slice A6 (s.es.length + 1) c6) = w7 := ⟨_, rfl⟩
                have hX := hid (hO5.out.add (x := x) hR0.out hown6 hgrow6 hat6)
                rw [hw7] at hX
                have hsl : (s.es ++ [(x : Ed)]).length = s.es.length + 1 := by simp
                have hgl6 := hgrow6.size
                clear hown6 hgrow6 hnil6 hat6 ag
                have k0 := hX.out.blk.cell 0
                have k1 := hX.out.blk.cell 1
                have k2 := hX.out.blk.cell 2
                have hbl := hid (hres.out.keep hX.out.keep (by have := hsz0.out; omega))
                have d0 := hbl.out.cell 0
                have d1 := hbl.out.cell 1
                have d2 := hbl.out.cell 2
                have y0 := hbl.out.frozen 0
                have y1 := hbl.out.frozen 1
                have y2 := hbl.out.frozen 2
                have hlt := hbl.out.lt
                simp only [List.getElem?_toArray, List.getElem?_cons_zero, List.getElem?_cons_succ] at d0 d1 d2 k0 k1 k2
                have hfin := hid (OutSt.fin' hsl (hX.out.up hb0 (P' := P + 400000) (L' := L + 1) (by omega) (by omega)) hR (ρ := w.heap.size + 1) (by omega) (by have := hsz0.out; omega) (.int .i64 s.al) (.int .i64 s.st) (.slice A6 (s.es.length + 1) c6))
                go_wp2
                refine bodyPost_ret (v := .agg #[.int .i64 s.al, .int .i64 s.st, .slice A6 (s.es.length + 1) c6]) (by simp [results, Tryd.results155, go_sem, d0, d1, d2]) rfl ?_
                exact hfin.out
            · have hjb5 : ((j : Int) == 5) = false := by simpa using hj5
              replace hj5 := hid hj5
              by_cases hj6 : j = 6
              · subst hj6
                have hgsR : gs ≠ R := by have := hO4.out.hgs; have := hR0.out; omega
                have q2 := RI.cell hO4.out.rd c2 hgsR
                clear c0 c1 g0 g1 g2
                go_wp2_with fail
                clear c2
                refine GK.wp_region 10 [10, 11, 12] 200 (KeepB fun b => b = R) (RI w4 R (P + 2)) (fun _ u _ => ∃ x : Int, u = .int .i64 x) (by kernel_rfl) (by kernel_rfl) (RI.way w4 R (P + 2)) (by decide) (RI.drew hO4.out.rd) ?_
                simp only [List.take_succ_cons, List.take_zero]
                (repeat (refine GK.grow_quiet w4 (by rfl) (by rfl) ?_; intro K hK; go_big_quiet_op; go_big_quiet_on))
                refine GK.grow_call (by rfl) (fun u w w' _ h => h) (fun m wq hm hbq hf => ?_) ?_
                · go_simp
                  exact ⟨rfl, (pick_up R (P + 2 + m * 10000) 4 wq (by omega) (by omega) hbq.2).mono fun e w' ⟨x, h2, _, _, h3, h4⟩ => ⟨_, h2, RI.call hbq h4 h3 (by omega), x, rfl⟩⟩
                rintro u ⟨_, _, _, x1, rfl⟩
                simp only [Act.put, List.setIfInBounds_toArray, List.set_cons_zero, List.set_cons_succ]
                (repeat (refine GK.grow_quiet w4 (by rfl) (by rfl) ?_; intro K hK; go_big_quiet_op; go_big_quiet_on))
                refine GK.grow_call (by rfl) (fun u w w' _ h => h) (fun m wq hm hbq hf => ?_) ?_
                · go_simp
                  exact ⟨rfl, (pick_up R (P + 2 + m * 10000) 3 wq (by omega) (by omega) hbq.2).mono fun e w' ⟨x, h2, _, _, h3, h4⟩ => ⟨_, h2, RI.call hbq h4 h3 (by omega), x, rfl⟩⟩
                rintro u ⟨_, _, _, x2, rfl⟩
                simp only [Act.put, List.setIfInBounds_toArray, List.set_cons_zero, List.set_cons_succ]
                (repeat (refine GK.grow_quiet w4 (by rfl) (by rfl) ?_; intro K hK; go_big_quiet_op; go_big_quiet_on))
                refine GK.grow_call (by rfl) (fun u w w' _ h => h) (fun m wq hm hbq hf => ?_) ?_
                · go_simp
                  exact ⟨rfl, (pick_up R (P + 2 + m * 10000) 4 wq (by omega) (by omega) hbq.2).mono fun e w' ⟨x, h2, _, _, h3, h4⟩ => ⟨_, h2, RI.call hbq h4 h3 (by omega), x, rfl⟩⟩
                rintro u ⟨_, _, _, x3, rfl⟩
                simp only [Act.put, List.setIfInBounds_toArray, List.set_cons_zero, List.set_cons_succ]
                (repeat (refine GK.grow_quiet w4 (by rfl) (by rfl) ?_; intro K hK; go_big_quiet_op; go_big_quiet_on))
                refine GK.grow_new (K := fun b => b = R) (by rfl) w4.heap.size (fun b => .slice (some ⟨b, 0, none⟩) 1 1) 77 #[.int .i64 x1, .int .i64 x2, .int .i64 x3] (fun _ => by go_simp) rfl (fun _ _ o h => RI.alloc o h) (fun _ _ h => RI.size h) (fun k hk => by have := hO4.out.rd.lt; omega) (fun b hb => ?_)
                simp only [Act.put, List.setIfInBounds_toArray, List.set_cons_zero, List.set_cons_succ]
                refine GK.grow_nil ?_
                intro w5 hw5 hf
                obtain ⟨b', z1, z2, hblk5⟩ := hf _ List.mem_cons_self
                cases z1
                clear hf q2
                simp only [List.filterMap_cons, List.filterMap_nil, List.getElem?_cons_zero, List.getElem?_cons_succ]
                have hO5 := hid (hO4.out.call hw5.1 hw5.2 hR0.out)
                refine wpList_append_own_at _ (by rfl) _ _ 35 (by rfl) w0.heap.size 77 i0 (.agg #[.int .i64 0, .int .i64 0, .int .i64 0]) 3 24 Tryd.underlying35 hi hz0 hz1 hz2 rfl (by decide) _ s.es.length (edCells s.es) (by rfl) hO5.out.own ⟨b, 0, none⟩ 1 1 [.int .i64 x1, .int .i64 x2, .int .i64 x3] (by rfl) (by rfl) (World.news_of_block hblk5) ?c1 ?c3 ?c4 ?c5 ?_
                case c1 => simp [Value.oneCell']
                case c3 => unfold maxLen; omega
                case c4 => omega
                case c5 => have := hO5.out.keep.size; omega
                intro v6 w6 hown6 hgrow6 hnil6 hat6
                obtain ⟨A6, c6, rfl, -, -⟩ := own_slice hown6
                have ag := hO5.out.ne
                have hgl5 := hO5.out.blk.lt
                have c2' : w6.cell? ⟨gs, 2, none⟩ = some (.slice Av s.es.length cv) := by rw [hgrow6.cell_far _ (by simpa using hgl5) (Ne.symm ag)]; exact hO5.out.blk.cell 2
                have f2' : w6.frozen? ⟨gs, 2, none⟩ = false := by rw [hgrow6.frozen_far _ (by simpa using hgl5) (Ne.symm ag)]; exact hO5.out.blk.frozen 2
                obtain ⟨w7, hw7⟩ : ∃ w7, w6.setCell ⟨gs, 2, none⟩ (.slice A6 (s.es.length + 1) c6) = w7 := ⟨_, rfl⟩
                have hX := hid (hO5.out.add (x := (⟨x1, x2, x3⟩ : Ed)) hR0.out hown6 hgrow6 hat6)
                rw [hw7] at hX
                have hsl : (s.es ++ [(⟨x1, x2, x3⟩ : Ed)]).length = s.es.length + 1 := by simp
                have hgl6 := hgrow6.size
                clear hown6 hgrow6 hnil6 hat6 ag
                have k0 := hX.out.blk.cell 0
                have k1 := hX.out.blk.cell 1
                have k2 := hX.out.blk.cell 2
                have hbl := hid (hres.out.keep hX.out.keep (by have := hsz0.out; omega))
                have d0 := hbl.out.cell 0
                have d1 := hbl.out.cell 1
                have d2 := hbl.out.cell 2
                have y0 := hbl.out.frozen 0
                have y1 := hbl.out.frozen 1
                have y2 := hbl.out.frozen 2
                have hlt := hbl.out.lt
                simp only [List.getElem?_toArray, List.getElem?_cons_zero, List.getElem?_cons_succ] at d0 d1 d2 k0 k1 k2
                have hfin := hid (OutSt.fin' hsl (hX.out.up hb0 (P' := P + 400000) (L' := L + 1) (by omega) (by omega)) hR (ρ := w.heap.size + 1) (by omega) (by have := hsz0.out; omega) (.int .i64 s.al) (.int .i64 s.st) (.slice A6 (s.es.length + 1) c6))
                go_wp2
                refine bodyPost_ret (v := .agg #[.int .i64 s.al, .int .i64 s.st, .slice A6 (s.es.length + 1) c6]) (by simp [results, Tryd.results155, go_sem, d0, d1, d2]) rfl ?_
                exact hfin.out
              · have hjb6 : ((j : Int) == 6) = false := by simpa using hj6
                replace hj6 := hid hj6
                have hX := hO4
                have k0 := hX.out.blk.cell 0
                have k1 := hX.out.blk.cell 1
                have k2 := hX.out.blk.cell 2
                have hbl := hid (hres.out.keep hX.out.keep (by have := hsz0.out; omega))
                have d0 := hbl.out.cell 0
                have d1 := hbl.out.cell 1
                have d2 := hbl.out.cell 2
                have y0 := hbl.out.frozen 0
                have y1 := hbl.out.frozen 1
                have y2 := hbl.out.frozen 2
                have hlt := hbl.out.lt
                simp only [List.getElem?_toArray, List.getElem?_cons_zero, List.getElem?_cons_succ] at d0 d1 d2 k0 k1 k2
                have hfin := hid ((hX.out.up hb0 (P' := P + 400000) (L' := L + 1) (by omega) (by omega)).fin hR (ρ := w.heap.size + 1) (by omega) (by have := hsz0.out; omega) (.int .i64 s.al) (.int .i64 s.st) (.slice Av s.es.length cv))
                go_wp2
                refine bodyPost_ret (v := .agg #[.int .i64 s.al, .int .i64 s.st, .slice Av s.es.length cv]) (by simp [results, Tryd.results155, go_sem, d0, d1, d2]) rfl ?_
                exact hfin.out

end Go.Proofs.YtjhlbeamfngebaaDoor

/- The drawing kit: l7Draw, l7Wrong. -/
namespace Go.Proofs.YtjhlbeamfngebaaDoor
open Go.RowKit Go.BigFrame AG

theorem infoSy : (Tryd.prog.info? 37).map (fun i => (i.zero, i.size, i.bytes)) = some (some (.agg #[.int .i64 0, .int .i64 0, .slice none 0 0]), 3, 40) := by kernel_rfl

/-- A system and where its edges lie. -/
structure SyV where
  s : Sy
  A : Option Addr
  c : Nat
def sysCells : List SyV → List Value
  | [] => []
  | x :: xs => .int .i64 x.s.al :: .int .i64 x.s.st :: .slice x.A x.s.es.length x.c :: sysCells xs
theorem sysCells_append : ∀ ps qs : List SyV, sysCells (ps ++ qs) = sysCells ps ++ sysCells qs
  | [], _ => rfl
  | p :: ps, qs => by rw [List.cons_append, sysCells, sysCells_append ps qs]; rfl
theorem sysCells_at : ∀ (ps : List SyV) (i : Nat) (h : i < ps.length), (sysCells ps)[i * 3]? = some (.int .i64 ps[i].s.al) ∧ (sysCells ps)[i * 3 + 1]? = some (.int .i64 ps[i].s.st) ∧ (sysCells ps)[i * 3 + 2]? = some (.slice ps[i].A ps[i].s.es.length ps[i].c)
  | p :: ps, 0, _ => ⟨rfl, rfl, rfl⟩
  | p :: ps, i + 1, h => by
    have := sysCells_at ps i (by simpa using h)
    rw [show (i + 1) * 3 = i * 3 + 1 + 1 + 1 from by omega]
    exact this

/-- One system of a list that the call owns: its edges lie apart. -/
structure SyIn (w : World) (R L : Nat) (v : Value) (x : SyV) : Prop where
  le : x.s.es.length ≤ x.c
  top : x.c ≤ 9223372036854775807
  len : x.s.es.length ≤ L
  at_ : EdsAt w w.heap.size x.A x.s.es
  far : 0 < x.s.es.length → ∃ b o, x.A = some ⟨b, o, none⟩ ∧ b < w.heap.size ∧ v.ownBlock ≠ some b ∧ R < b
/-- A list of systems that the call owns. -/
structure LstSt (w wr : World) (R P L : Nat) (v : Value) (xs : List SyV) : Prop where
  own : wr.ownsRow w.heap.size 37 3 v xs.length (sysCells xs)
  each : ∀ x ∈ xs, SyIn wr R L v x
  rd : RdUp wr R P
  keep : KeepB (fun b => b = R) w wr

theorem SyIn.keep {w w' : World} {R L : Nat} {v : Value} {x : SyV} {K : Nat → Prop} (h : SyIn w R L v x) (hk : KeepB K w w') (hK : ∀ b, K b → b = R ∨ v.ownBlock = some b) : SyIn w' R L v x := by
  refine ⟨h.le, h.top, h.len, fun hn => ?_, fun hn => ?_⟩
  · obtain ⟨b, o, hA, hlt, hne, hR⟩ := h.far hn
    obtain ⟨b', o', hA', -, hE⟩ := h.at_ hn
    rw [hA] at hA'
    cases hA'
    have hnb : ¬ K b := fun hk => by rcases hK b hk with e | e; omega; exact hne e
    refine ⟨b, o, hA, Nat.lt_of_lt_of_le hlt hk.size, fun i hi => ?_⟩
    rw [KeepB.cell_ hk hlt hnb, KeepB.cell_ hk hlt hnb, KeepB.cell_ hk hlt hnb]
    exact hE i hi
  · obtain ⟨b, o, hA, hlt, hne, hR⟩ := h.far hn
    exact ⟨b, o, hA, Nat.lt_of_lt_of_le hlt hk.size, hne, hR⟩
theorem LstSt.call {w wr w1 : World} {R P P' L : Nat} {v : Value} {xs : List SyV} (h : LstSt w wr R P L v xs) (hk : KeepB (fun b => b = R) wr w1) (hr : RdUp w1 R P') (hR : R < w.heap.size) : LstSt w w1 R P' L v xs :=
  ⟨own_keep h.own hk (fun g hg => by have := (World.ownsRow.lt h.own g hg).1; omega), fun x hx => (h.each x hx).keep hk fun _ e => .inl e, hr, h.keep.trans hk⟩
theorem LstSt.later {w wr w1 : World} {R P L : Nat} {v : Value} {xs : List SyV} (h : LstSt w wr R P L v xs) (hb : Below wr.heap.size wr w1) (hR : R < w.heap.size) : LstSt w w1 R P L v xs := h.call (KeepB.of_below hb) (h.rd.later hb) hR
theorem LstSt.more {w wr : World} {R P P' L L' : Nat} {v : Value} {xs : List SyV} (h : LstSt w wr R P L v xs) (hP : P ≤ P') (hL : L ≤ L') : LstSt w wr R P' L' v xs :=
  ⟨h.own, fun x hx => ⟨(h.each x hx).le, (h.each x hx).top, by have := (h.each x hx).len; omega, (h.each x hx).at_, (h.each x hx).far⟩, h.rd.more hP, h.keep⟩
theorem LstSt.add {w wr w1 : World} {R P L : Nat} {v v' : Value} {xs : List SyV} {x : SyV} (h : LstSt w wr R P L v xs) (hR : R < w.heap.size) (hx : SyIn wr R L v x)
    (hown : w1.ownsRow w.heap.size 37 3 v' (xs.length + 1) (sysCells xs ++ [.int .i64 x.s.al, .int .i64 x.s.st, .slice x.A x.s.es.length x.c])) (hg : wr.grownBy w1 v.ownBlock) (hat : v'.ownBlock = v.ownBlock ∨ v'.ownBlock = some wr.heap.size) :
    LstSt w w1 R P L v' (xs ++ [x]) := by
  have hv : ∀ k, v.ownBlock = some k → w.heap.size ≤ k := fun k hk => (World.ownsRow.lt h.own k hk).1
  have k1 : KeepB (fun b => v.ownBlock = some b) wr w1 := (KeepB.refl _ wr).grown hg (fun k hk _ => hk)
  have key : ∀ y, SyIn wr R L v y → SyIn w1 R L v' y := fun y hy => by
    have h1 := hy.keep k1 fun b hb => .inr hb
    refine ⟨h1.le, h1.top, h1.len, h1.at_, fun hn => ?_⟩
    obtain ⟨b, o, hA, hlt, hne, hRb⟩ := hy.far hn
    refine ⟨b, o, hA, Nat.lt_of_lt_of_le hlt k1.size, ?_, hRb⟩
    rcases hat with e | e
    · rw [e]; exact hne
    · rw [e]; intro e'; injection e' with e'; omega
  refine ⟨?_, fun y hy => ?_, h.rd.keep k1 (fun k hk => by have := hv k hk; omega), h.keep.grown hg (fun k hk hlt => by have := hv k hk; omega)⟩
  · have e : (xs ++ [x]).length = xs.length + 1 := by simp
    rw [e, sysCells_append]
    exact hown
  · rcases List.mem_append.1 hy with hy | hy
    · exact key y (h.each y hy)
    · rw [List.mem_singleton.1 hy]; exact key x hx
/-- A system that has just been drawn. -/
theorem SyIn.new {w wr w1 : World} {R P L : Nat} {v : Value} {xs : List SyV} {s : Sy} {A : Option Addr} {c : Nat} (h : LstSt w wr R P L v xs) (h1 : s.es.length ≤ c) (h2 : c ≤ 9223372036854775807) (h3 : s.es.length ≤ L) (h4 : EdsAt w1 w1.heap.size A s.es) (h5 : FreshA wr.heap.size A) (hR : R < w.heap.size) : SyIn w1 R L v ⟨s, A, c⟩ :=
  ⟨h1, h2, h3, h4, fun hn => by
    obtain ⟨b, o, hA, hlt, -⟩ := h4 hn
    have h6 := h5 b o hA
    have h7 := h.keep.size
    exact ⟨b, o, hA, hlt, fun e => by have := (World.ownsRow.lt h.own b e).2; omega, by omega⟩⟩
theorem LstSt.read {w wr : World} {R P L : Nat} {v : Value} {xs : List SyV} (h : LstSt w wr R P L v xs) : ∃ A c, v = .slice A xs.length c ∧ xs.length ≤ c ∧ c ≤ 9223372036854775807 ∧ SysAt wr wr.heap.size A (xs.map (·.s)) := by
  by_cases hn : xs.length = 0
  · obtain ⟨A, c, hv, h1, h2⟩ := own_slice h.own
    exact ⟨A, c, hv, h1, h2, fun hl => by simp at hl; omega⟩
  · obtain ⟨g, cap, hv, h1, h2, h3, h4, h5⟩ := own_shape h.own (by omega)
    refine ⟨_, cap, hv, h3, h4, fun _ => ⟨g, 0, rfl, h2, fun i hi => ?_⟩⟩
    have hi' : i < xs.length := by simpa using hi
    obtain ⟨a0, a1, a2⟩ := sysCells_at xs i hi'
    have hx := h.each xs[i] (List.getElem_mem _)
    simp only [List.getElem_map, Nat.zero_add]
    exact ⟨h5 _ _ a0, h5 _ _ a1, xs[i].A, xs[i].c, h5 _ _ a2, hx.le, hx.top, hx.at_⟩

def LsUp (w0 : World) (R P L : Nat) (e : Ending) (w' : World) : Prop := ∃ v xs, e = .returned v ∧ xs.length ≤ 10 ∧ LstSt w0 w' R P L v xs

set_option maxRecDepth 100000 in
set_option maxHeartbeats 8000000 in
theorem l7Draw_up (R P : Nat) (w : World) (hP : P + 3000000 ≤ 1125899906842624) (hr : RdUp w R P) :
    Calls Tryd.prog 144 #[.pointer (some ⟨R, 0, none⟩)] w fun e w' => ∃ v xs, e = .returned v ∧ 1 ≤ xs.length ∧ xs.length ≤ 3 ∧ LstSt w w' R (P + 30000) 1536 v xs := by
  obtain ⟨i0, hi, hz0, hz1, hz2⟩ := info_parts infoSy
  have hR := hr.lt
  have h0 : LstSt w (w.alloc (.cells #[] 37)) R P 1536 (.slice (some ⟨w.heap.size, 0, none⟩) 0 0) [] :=
    ⟨⟨rfl, .inr ⟨w.heap.size, 0, #[], rfl, Nat.le_refl _, heap_alloc_self _ _, Nat.le_refl _, Nat.zero_le _, rfl, rfl⟩⟩, fun x hx => (by cases hx), hr.later ((Below.refl _ _).alloc (Nat.le_refl _) _), (KeepB.refl _ _).alloc _⟩
  generalize hw0 : w.alloc (.cells #[] 37) = w0 at h0
  replace hr := hid hr
  replace h0 := hid h0
  go_enter Tryd.func144, Tryd.ntmps144
  go_wp2_with fail
  refine (num_lit R P [2, 2, 3, 1] w0 _ (by decide) (by decide) (by omega) h0.out.rd).mono ?_
  rintro e w1 ⟨n, hn, rfl, hr1, hk1⟩
  have hn1 : 1 ≤ n ∧ n ≤ 3 := by simp at hn; omega
  obtain ⟨m, rfl⟩ := Int.eq_ofNat_of_zero_le (show 0 ≤ n by omega)
  have h1 := hid (h0.out.call hk1 hr1 hR)
  clear hn hr1 hk1 h0 hw0
  have hm1 : 1 ≤ m ∧ m ≤ 3 := by omega
  go_wp2_with fail
  go_loopw [3, 4] (fun v i wr => ∃ (k : Nat) (xs : List SyV), i = .int .i64 k ∧ k + xs.length = m ∧ LstSt w wr R (P + 1 + xs.length * 5000) 1536 v xs) (fun _ i _ => (intOf i).toNat)
  case atStart => exact ⟨m, [], rfl, by simp, h1.out⟩
  case round =>
    obtain ⟨k, xs, rfl, hk, hs⟩ := hrel
    by_cases hk0 : 0 < k
    · have hs' := hid hs
      clear hs
      have hk0' : (0 : Int) < (k : Int) := by omega
      go_wp2_with fail
      refine (l2Small_up R (P + 1 + xs.length * 5000) wr (by omega) hs'.out.rd).mono ?_
      rintro e w2 ⟨s, A, c, rfl, a1, a2, a3, a4, a5, a6, a7⟩
      unfold Sy.val
      have h2 := hid (hs'.out.call a7 a6 hR)
      have hx2 := hid (SyIn.new hs'.out a1 a2 a3 a4 a5 hR)
      have hkr2 := hid a7
      have hz7 := a7.size
      clear a4 a5 a6 a7
      have hnb := Blk.new w2 37 #[.int .i64 s.al, .int .i64 s.st, .slice A s.es.length c]
      have hba : Below w2.heap.size w2 (w2.alloc (.cells #[.int .i64 s.al, .int .i64 s.st, .slice A s.es.length c] 37)) := (Below.refl _ _).alloc (Nat.le_refl _) _
      have hbs : w2.heap.size < (w2.alloc (.cells #[.int .i64 s.al, .int .i64 s.st, .slice A s.es.length c] 37)).heap.size := by simp
      generalize hwa : w2.alloc (.cells #[.int .i64 s.al, .int .i64 s.st, .slice A s.es.length c] 37) = wa at hnb hba hbs
      have h3 := hid (h2.out.later hba hR)
      have hx3 := hid (hx2.out.keep (KeepB.of_below (K := fun b => b = R) hba) fun _ e => .inl e)
      have hbg : w.heap.size ≤ w2.heap.size := h2.out.keep.size
      clear h2 hx2
      go_wp2_with fail
      refine (pick_up R (P + 1 + xs.length * 5000 + 2000) 3 wa (by omega) (by omega) h3.out.rd).mono ?_
      rintro e w3 ⟨j, rfl, hj0, hj1, hr4, hk4⟩
      have h4 := hid (h3.out.call hk4 hr4 hR)
      have hx4 := hid (hx3.out.keep hk4 fun _ e => .inl e)
      have hnb4 := hid (hnb.keep hk4 (by omega))
      have hk4s := hk4.size
      have hkr4 : KeepB (fun b => b = R) wr w3 := ((hkr2.out.trans (KeepB.of_below hba)).trans hk4)
      clear hr4 hk4 h3 hx3 hj1 hwa hba hnb
      by_cases hj : j = 0
      · subst hj
        go_wp2_with fail
        refine (l2Draw_up R (P + 1 + xs.length * 5000 + 2001) w3 (by omega) h4.out.rd).mono ?_
        rintro e w5 ⟨s', A', c', rfl, a1, a2, a3, a4, a5, a6, a7⟩
        unfold Sy.val
        have h5 := hid (h4.out.call a7 a6 hR)
        have hx5 := SyIn.new h4.out a1 a2 a3 a4 a5 hR
        have hnb5 := hnb4.out.keep a7 (by omega)
        have hlt5 := hnb5.lt
        have d0 := hnb5.cell 0
        have d1 := hnb5.cell 1
        have d2 := hnb5.cell 2
        have f0 := hnb5.frozen 0
        have f1 := hnb5.frozen 1
        have f2 := hnb5.frozen 2
        simp only [List.getElem?_toArray, List.getElem?_cons_zero, List.getElem?_cons_succ] at d0 d1 d2
        have hsz5 := a7.size
        have hkr5 : KeepB (fun b => b = R) wr w5 := (hkr4.trans a7)
        have hE5 := hid a4
        have hF5 := hid a5
        clear a4 a5 a6 a7 h4 hx4 hnb4
        obtain ⟨w6, hw6⟩ : ∃ w6, ((w5.setCell ⟨w2.heap.size, 0, none⟩ (.int .i64 s'.al)).setCell ⟨w2.heap.size, 1, none⟩ (.int .i64 s'.st)).setCell ⟨w2.heap.size, 2, none⟩ (.slice A' s'.es.length c') = w6 := ⟨_, rfl⟩
        have hb6 : Blk w6 w2.heap.size 37 #[.int .i64 s'.al, .int .i64 s'.st, .slice A' s'.es.length c'] := by
          rw [← hw6]
          simpa using ((hnb5.set_ 0 (.int .i64 s'.al)).set_ 1 (.int .i64 s'.st)).set_ 2 (.slice A' s'.es.length c')
        have hkw : KeepB (fun b => b = R) wr w6 := by
          rw [← hw6]
          exact (((hkr5.setCell _ _ (by simp; omega)).setCell _ _ (by simp; omega)).setCell _ _ (by simp; omega))
        have hkk : KeepB (fun b => b = w2.heap.size) w5 w6 := by
          rw [← hw6]
          exact (((KeepB.refl _ w5).setCell _ _ (by simp)).setCell _ _ (by simp)).setCell _ _ (by simp)
        have hE6 : EdsAt w6 w6.heap.size A' s'.es := by
          rw [← hw6]
          have hne : ∀ b o, A' = some ⟨b, o, none⟩ → 0 < s'.es.length → b ≠ w2.heap.size := fun b o hA _ => by have := hF5.out b o hA; omega
          simpa [World.setCell] using ((hE5.out.stored _ hne).stored _ hne).stored _ hne
        have hs6 := hid (hs'.out.call hkw (h5.out.rd.keep hkk (by omega)) hR)
        have hx6 := hid (SyIn.new (w1 := w6) hs'.out a1 a2 a3 hE6 (fun b o hA => by have := hF5.out b o hA; omega) hR)
        replace hb6 := hid hb6
        clear hkw hkk hE6 hnb5 h5 hx5
        have c0 := hb6.out.cell 0
        have c1 := hb6.out.cell 1
        have c2 := hb6.out.cell 2
        simp only [List.getElem?_toArray, List.getElem?_cons_zero, List.getElem?_cons_succ] at c0 c1 c2
        have hgl := hb6.out.lt
        have hown := hid hs6.out.own
        go_wp2_with (at_builtin; refine wpList_append_own_at _ (by rfl) _ _ 49 (by rfl) w.heap.size 37 i0 (.agg #[.int .i64 0, .int .i64 0, .slice none 0 0]) 3 40 Tryd.underlying49 hi hz0 hz1 hz2 rfl (by decide) _ xs.length (sysCells xs) (by rfl) (hown.out.alloc _) ⟨w6.heap.size, 0, none⟩ 1 1 [.int .i64 s'.al, .int .i64 s'.st, .slice A' s'.es.length c'] (by rfl) (by rfl) (World.news_of_block (heap_alloc_new w6 _)) ?c1 ?c3 ?c4 ?c5 ?_)
        case c1 => simp [Value.oneCell']
        case c3 => unfold maxLen; omega
        case c4 => omega
        case c5 => have := hs6.out.keep.size; simp; omega
        intro v9 w9 hown9 hgrow9 hnil9 hat9
        have hL := hs6.out.later ((Below.refl _ w6).alloc (Nat.le_refl _) (.cells #[.int .i64 s'.al, .int .i64 s'.st, .slice A' s'.es.length c'] 37)) hR
        have hX := hx6.out.keep (KeepB.of_below (K := fun b => b = R) ((Below.refl _ w6).alloc (Nat.le_refl _) (.cells #[.int .i64 s'.al, .int .i64 s'.st, .slice A' s'.es.length c'] 37))) fun _ e => .inl e
        have hfin := hid ((hL.add hR hX hown9 hgrow9 (by rw [World.size_alloc]; exact hat9)).more (P' := P + 1 + (xs.length + 1) * 5000) (L' := 1536) (by omega) (by omega))
        clear hown9 hgrow9 hnil9 hat9 hL hX c0 c1 c2
        go_wp2_with fail
        go_roundw
        case rel => exact ⟨k - 1, xs ++ [⟨s', A', c'⟩], by go_num, by simp; omega, by rw [show (xs ++ [(⟨s', A', c'⟩ : SyV)]).length = xs.length + 1 from by simp]; exact hfin.out⟩
        case measure => simp [intOf]; omega
      · have hjb : ((j : Int) == 0) = false := by simpa using hj
        replace hj := hid hj
        have c0 := hnb4.out.cell 0
        have c1 := hnb4.out.cell 1
        have c2 := hnb4.out.cell 2
        simp only [List.getElem?_toArray, List.getElem?_cons_zero, List.getElem?_cons_succ] at c0 c1 c2
        have hgl := hnb4.out.lt
        have hown := hid h4.out.own
        go_wp2_with (at_builtin; refine wpList_append_own_at _ (by rfl) _ _ 49 (by rfl) w.heap.size 37 i0 (.agg #[.int .i64 0, .int .i64 0, .slice none 0 0]) 3 40 Tryd.underlying49 hi hz0 hz1 hz2 rfl (by decide) _ xs.length (sysCells xs) (by rfl) (hown.out.alloc _) ⟨w3.heap.size, 0, none⟩ 1 1 [.int .i64 s.al, .int .i64 s.st, .slice A s.es.length c] (by rfl) (by rfl) (World.news_of_block (heap_alloc_new w3 _)) ?c1 ?c3 ?c4 ?c5 ?_)
        case c1 => simp [Value.oneCell']
        case c3 => unfold maxLen; omega
        case c4 => omega
        case c5 => have := h4.out.keep.size; simp; omega
        intro v9 w9 hown9 hgrow9 hnil9 hat9
        have hL := h4.out.later ((Below.refl _ w3).alloc (Nat.le_refl _) (.cells #[.int .i64 s.al, .int .i64 s.st, .slice A s.es.length c] 37)) hR
        have hX := hx4.out.keep (KeepB.of_below (K := fun b => b = R) ((Below.refl _ w3).alloc (Nat.le_refl _) (.cells #[.int .i64 s.al, .int .i64 s.st, .slice A s.es.length c] 37))) fun _ e => .inl e
        have hfin := hid ((hL.add hR hX hown9 hgrow9 (by rw [World.size_alloc]; exact hat9)).more (P' := P + 1 + (xs.length + 1) * 5000) (L' := 1536) (by omega) (by omega))
        clear hown9 hgrow9 hnil9 hat9 hL hX c0 c1 c2
        go_wp2_with fail
        go_roundw
        case rel => exact ⟨k - 1, xs ++ [⟨s, A, c⟩], by go_num, by simp; omega, by rw [show (xs ++ [(⟨s, A, c⟩ : SyV)]).length = xs.length + 1 from by simp]; exact hfin.out⟩
        case measure => simp [intOf]; omega
    · obtain rfl : k = 0 := by omega
      go_wp2_with fail
      go_ret
      exact ⟨_, xs, rfl, by omega, by omega, hs.more (by omega) (by omega)⟩

end Go.Proofs.YtjhlbeamfngebaaDoor

/- The drawing kit: l7Wrong, DrawPartsAlphabet. -/
namespace Go.Proofs.YtjhlbeamfngebaaDoor
open Go.RowKit Go.BigFrame AG

def sliceLen : Value → Nat
  | .slice _ n _ => n
  | _ => 0

theorem sysCells_set0 : ∀ (xs : List SyV) (x : SyV), 0 < xs.length → (((sysCells xs).set 0 (.int .i64 x.s.al)).set 1 (.int .i64 x.s.st)).set 2 (.slice x.A x.s.es.length x.c) = sysCells (xs.set 0 x)
  | [], _, h => by simp at h
  | y :: ys, x, _ => rfl

/-- The first system of a list is replaced. -/
theorem LstSt.put {w wr : World} {R P L g c : Nat} {xs : List SyV} {x : SyV} (h : LstSt w wr R P L (.slice (some ⟨g, 0, none⟩) xs.length c) xs) (hR : R < w.heap.size) (hn : 0 < xs.length) (hx : SyIn wr R L (.slice (some ⟨g, 0, none⟩) xs.length c) x) :
    LstSt w (((wr.setCell ⟨g, 0, none⟩ (.int .i64 x.s.al)).setCell ⟨g, 1, none⟩ (.int .i64 x.s.st)).setCell ⟨g, 2, none⟩ (.slice x.A x.s.es.length x.c)) R P L (.slice (some ⟨g, 0, none⟩) xs.length c) (xs.set 0 x) := by
  have hg := World.ownsRow.lt h.own g rfl
  have s1 := (World.ownsRow.stored h.own 0 (.int .i64 x.s.al)).1
  have s2 := (World.ownsRow.stored s1 1 (.int .i64 x.s.st)).1
  have s3 := (World.ownsRow.stored s2 2 (.slice x.A x.s.es.length x.c)).1
  rw [sysCells_set0 xs x hn] at s3
  have hk : KeepB (fun b => b = g) wr (((wr.setCell ⟨g, 0, none⟩ (.int .i64 x.s.al)).setCell ⟨g, 1, none⟩ (.int .i64 x.s.st)).setCell ⟨g, 2, none⟩ (.slice x.A x.s.es.length x.c)) := (((KeepB.refl _ wr).setCell _ _ (by simp)).setCell _ _ (by simp)).setCell _ _ (by simp)
  have hk2 : ∀ b, b = g → b = R ∨ (Value.slice (some ⟨g, 0, none⟩) xs.length c).ownBlock = some b := fun b hb => .inr (by rw [hb]; rfl)
  refine ⟨by rw [List.length_set]; exact s3, fun y hy => ?_, h.rd.keep hk (by omega), ((h.keep.setCell _ _ (by simp; omega)).setCell _ _ (by simp; omega)).setCell _ _ (by simp; omega)⟩
  rcases List.mem_or_eq_of_mem_set hy with hy | rfl
  · exact (h.each y hy).keep hk hk2
  · exact hx.keep hk hk2

set_option maxRecDepth 100000 in
set_option maxHeartbeats 8000000 in
theorem l7Wrong_up (R P : Nat) (v : Value) (xs : List SyV) (wo w : World) (hP : P + 5000000 ≤ 1125899906842624) (hR : R < wo.heap.size) (hn1 : 1 ≤ xs.length) (hn3 : xs.length ≤ 3) (hs : LstSt wo w R P 1536 v xs) :
    Calls Tryd.prog 143 #[.pointer (some ⟨R, 0, none⟩), v] w (LsUp wo R (P + 2000000) 2000) := by
  obtain ⟨i0, hi, hz0, hz1, hz2⟩ := info_parts infoSy
  obtain ⟨Av, cv, hve, hc1, hc2⟩ := own_slice hs.own
  subst hve
  replace hs := hid hs
  go_enter Tryd.func143, Tryd.ntmps143
  go_wp2_with fail
  refine (pick_up R P 20 w (by omega) (by omega) hs.out.rd).mono ?_
  rintro e w1 ⟨j, rfl, hj0, hj1, hr1, hk1⟩
  have h1 := hid (hs.out.call hk1 hr1 hR)
  clear hr1 hk1 hs hj0 hj1
  by_cases hj : j = 0
  · subst hj
    go_wp2_with fail
    go_ret
    have hz := h1.out.keep.size
    exact ⟨_, [], rfl, by simp, ⟨⟨rfl, .inr ⟨w1.heap.size, 0, #[], rfl, hz, heap_alloc_self _ _, Nat.le_refl _, Nat.zero_le _, rfl, rfl⟩⟩, fun x hx => (by cases hx), (h1.out.rd.later ((Below.refl _ _).alloc (Nat.le_refl _) _)).more (by omega), h1.out.keep.alloc _⟩⟩
  · have hjb : ((j : Int) == 0) = false := by simpa using hj
    replace hj := hid hj
    by_cases hj1 : j = 1
    · subst hj1
      go_wp2_with fail
      go_loopw [1] (fun v wr => ∃ (ys : List SyV) (A : Option Addr) (c : Nat), v = .slice A ys.length c ∧ 1 ≤ ys.length ∧ ys.length ≤ 4 ∧ LstSt wo wr R (P + 1 + ys.length * 5000) 1536 v ys) (fun v _ => 4 - sliceLen v)
      case atStart => exact ⟨xs, Av, cv, rfl, by omega, by omega, h1.out.more (by omega) (by omega)⟩
      case round =>
        clear h1
        obtain ⟨ys, A, c, rfl, hy1, hy4, h1⟩ := hrel
        replace h1 := hid h1
        by_cases hlt : ys.length ≤ 3
        · have hlt' : (ys.length : Int) ≤ 3 := by omega
          go_wp2_with fail
          refine (l2Small_up R (P + 1 + ys.length * 5000) wr (by omega) h1.out.rd).mono ?_
          rintro e w2 ⟨s, A2, c2, rfl, a1, a2, a3, a4, a5, a6, a7⟩
          unfold Sy.val
          have h2 := hid (h1.out.call a7 a6 hR)
          have hx2 := hid (SyIn.new h1.out a1 a2 a3 a4 a5 hR)
          clear a4 a5 a6 a7
          have hown := hid h2.out.own
          go_wp2_with (at_builtin; refine wpList_append_own_at _ (by rfl) _ _ 49 (by rfl) wo.heap.size 37 i0 (.agg #[.int .i64 0, .int .i64 0, .slice none 0 0]) 3 40 Tryd.underlying49 hi hz0 hz1 hz2 rfl (by decide) _ ys.length (sysCells ys) (by rfl) (hown.out.alloc _) ⟨w2.heap.size, 0, none⟩ 1 1 [.int .i64 s.al, .int .i64 s.st, .slice A2 s.es.length c2] (by rfl) (by rfl) (World.news_of_block (heap_alloc_new w2 _)) ?c1 ?c3 ?c4 ?c5 ?_)
          case c1 => simp [Value.oneCell']
          case c3 => unfold maxLen; omega
          case c4 => omega
          case c5 => have := h2.out.keep.size; simp; omega
          intro v9 w9 hown9 hgrow9 hnil9 hat9
          have hL := h2.out.later ((Below.refl _ w2).alloc (Nat.le_refl _) (.cells #[.int .i64 s.al, .int .i64 s.st, .slice A2 s.es.length c2] 37)) hR
          have hX := hx2.out.keep (KeepB.of_below (K := fun b => b = R) ((Below.refl _ w2).alloc (Nat.le_refl _) (.cells #[.int .i64 s.al, .int .i64 s.st, .slice A2 s.es.length c2] 37))) fun _ e => .inl e
          obtain ⟨A9, c9, hv9, -, -⟩ := own_slice hown9
          subst hv9
          have hfin := hid ((hL.add hR hX hown9 hgrow9 (by rw [World.size_alloc]; exact hat9)).more (P' := P + 1 + (ys.length + 1) * 5000) (L' := 1536) (by omega) (by omega))
          clear hown9 hgrow9 hnil9 hat9 hL hX
          have hyl : (ys ++ [(⟨s, A2, c2⟩ : SyV)]).length = ys.length + 1 := by simp
          replace hyl := hid hyl
          go_wp2_with fail
          go_roundw
          case rel => exact ⟨ys ++ [⟨s, A2, c2⟩], A9, c9, by rw [hyl.out], by rw [hyl.out]; omega, by rw [hyl.out]; omega, by rw [hyl.out]; exact hfin.out⟩
          case measure => simp [sliceLen]; omega
        · have hlt' : (3 : Int) < (ys.length : Int) := by omega
          go_wp2_with fail
          go_ret
          exact ⟨_, ys, rfl, by omega, h1.out.more (by omega) (by omega)⟩
    · have hjb1 : ((j : Int) == 1) = false := by simpa using hj1
      replace hj1 := hid hj1
      by_cases hj2 : j = 2
      · subst hj2
        obtain ⟨g, cap, hve, hg1, hg2, -, -, -⟩ := own_shape h1.out.own (by omega)
        cases hve
        obtain ⟨e0, e1, e2⟩ := sysCells_at xs 0 (by omega)
        have r0 := World.ownsRow.cellAt h1.out.own 0 (by omega)
        have r1 := World.ownsRow.cellAt h1.out.own 1 (by omega)
        have r2 := World.ownsRow.cellAt h1.out.own 2 (by omega)
        simp only [Nat.zero_mul, Nat.zero_add] at e0 e1 e2
        rw [e0] at r0
        rw [e1] at r1
        rw [e2] at r2
        have hx0 := h1.out.each xs[0] (List.getElem_mem _)
        obtain ⟨x, hx⟩ : ∃ x, x = xs[0] := ⟨_, rfl⟩
        rw [← hx] at r0 r1 r2 hx0
        obtain ⟨s, A, c⟩ := x
        clear e0 e1 e2 hx
        have i1 : (0 : Int) < (xs.length : Int) := by omega
        have b1 := hx0.le
        have b2 := hx0.top
        have b3 := hx0.len
        have b4 := hid hx0.at_
        simp only at r0 r1 r2 b1 b2 b3 b4
        clear hx0
        go_wp2_with fail
        clear r0 r1 r2
        refine (l2Wrong_up R (P + 1) 1536 s A c w1 (by omega) b1 b2 b3 (by omega) b4.out h1.out.rd).mono ?_
        rintro e w2 ⟨s2, A2, c2, rfl, a1, a2, a3, a4, a5, a6, a7⟩
        have h2 := hid (h1.out.call a7 a6 hR)
        replace a4 := hid a4
        replace a7 := hid a7
        clear a5 a6 b1 b2 b3 b4
        go_wp2_with fail
        refine (l2Wrong_up R (P + 1 + 400000) 1537 s2 A2 c2 w2 (by omega) a1 a2 a3 (by omega) a4.out h2.out.rd).mono ?_
        rintro e w3 ⟨s3, A3, c3, rfl, d1, d2, d3, d4, d5, d6, d7⟩
        have h3 := hid (h2.out.call d7 d6 hR)
        replace d4 := hid d4
        replace d7 := hid d7
        clear d5 d6 a1 a2 a3 a4
        go_wp2_with fail
        refine (l2Wrong_up R (P + 1 + 400000 + 400000) 1538 s3 A3 c3 w3 (by omega) d1 d2 d3 (by omega) d4.out h3.out.rd).mono ?_
        rintro e w4 ⟨s4, A4, c4, rfl, f1, f2, f3, f4, f5, f6, f7⟩
        unfold Sy.val
        have h4 := hid ((h3.out.call f7 f6 hR).more (P' := P + 2000000) (L' := 2000) (by omega) (by omega))
        have hX := hid (SyIn.new (h3.out.more (Nat.le_refl _) (by omega : 1536 ≤ 2000)) f1 f2 (by omega) f4 f5 hR)
        clear f4 f5 f6 d1 d2 d3 d4 h3 h2 h1
        have m0 := World.ownsRow.cellAt h4.out.own 0 (by omega)
        have m1 := World.ownsRow.cellAt h4.out.own 1 (by omega)
        have m2 := World.ownsRow.cellAt h4.out.own 2 (by omega)
        obtain ⟨e0, e1, e2⟩ := sysCells_at xs 0 (by omega)
        simp only [Nat.zero_mul, Nat.zero_add] at e0 e1 e2
        rw [e0] at m0
        rw [e1] at m1
        rw [e2] at m2
        have n0 := World.ownsRow.frozenAt h4.out.own 0
        have n1 := World.ownsRow.frozenAt h4.out.own 1
        have n2 := World.ownsRow.frozenAt h4.out.own 2
        have hfin := hid (h4.out.put hR (by omega) hX.out)
        simp only at hfin
        have hlt4 := (World.ownsRow.lt h4.out.own g rfl).2
        clear e0 e1 e2
        go_wp2_with fail
        go_ret
        exact ⟨_, xs.set 0 ⟨s4, A4, c4⟩, rfl, by simp; omega, hfin.out⟩
      · have hjb2 : ((j : Int) == 2) = false := by simpa using hj2
        replace hj2 := hid hj2
        go_wp2_with fail
        go_ret
        exact ⟨_, xs, rfl, by omega, h1.out.more (by omega) (by omega)⟩

def DrawSys (w : World) (e : Ending) (w' : World) : Prop := ∃ (ss : List Sy) (A : Option Addr) (c : Nat), e = .returned (.slice A ss.length c) ∧ ss.length ≤ c ∧ c ≤ 9223372036854775807 ∧ ss.length ≤ 10 ∧ SysAt w' w'.heap.size A ss ∧ Below w.heap.size w w'

set_option maxHeartbeats 2000000 in
theorem drawPartsAlphabet_any (A : Option Addr) (n c : Nat) (w : World) (hn : n ≤ c) (hc : c ≤ 9223372036854775807) (hx : CodeAt w A n) :
    Calls Tryd.prog 84 #[.slice A n c] w (DrawSys w) := by
  replace hx := hid hx
  go_enter Tryd.func84, Tryd.ntmps84
  go_wp2_with fail
  refine (l19Open_any A n c w hn hc hx.out).mono ?_
  rintro e w1 ⟨R, rfl, hR, hr1, hb1⟩
  replace hr1 := hid hr1
  have hR1 := hr1.out.lt
  go_wp2_with fail
  refine (l7Draw_up R 0 w1 (by omega) hr1.out).mono ?_
  rintro e w2 ⟨v, xs, rfl, h1, h3, hs⟩
  replace hs := hid hs
  go_wp2_with fail
  refine (l7Wrong_up R (0 + 30000) v xs w1 w2 (by omega) hR1 h1 h3 hs.out).mono ?_
  rintro e w3 ⟨v', ys, rfl, hl, hs'⟩
  obtain ⟨A', c', rfl, b1, b2, b3⟩ := hs'.read
  have hk := hs'.keep
  clear hs'
  replace b3 := hid b3
  go_wp2_with fail
  go_ret
  refine ⟨ys.map (·.s), A', c', by simp, by simpa using b1, b2, by simpa using hl, b3.out, ?_⟩
  exact KeepB.below hb1 hk hb1.size (fun k hk => by omega)


end Go.Proofs.YtjhlbeamfngebaaDoor

/- Plain: the traces of systems that run together, and where they are stuck. -/
namespace Go.Proofs.YtjhlbeamfngebaaDoor
open AG

def flt (s : Sy) (r : List Nat) : List Nat := r.filter fun l => decide (l ∈ letters s.al)
theorem flt_cons (s : Sy) (l : Nat) (r : List Nat) : flt s (l :: r) = if l ∈ letters s.al then l :: flt s r else flt s r := by
  unfold flt
  rw [List.filter_cons]
  by_cases h : l ∈ letters s.al <;> simp [h]
theorem flt_mem {s : Sy} {r : List Nat} : ∀ l ∈ flt s r, l ∈ letters s.al := fun l hl => by
  unfold flt at hl
  simpa using (List.mem_filter.1 hl).2
theorem allAl_ok {ss : List Sy} (hall : ss.all sysOk = true) : alphaOk (allAl ss) = true := alphaOk_range.2 (allAl_range ss hall)

/-- Words of parts, seen by each part. -/
theorem trParts_wordS {ss : List Sy} {r : List Nat} (hp : partsOk ss = true) (hr : ∀ l ∈ r, l ∈ letters (allAl ss)) (hl : r.length ≤ 50000) : trParts ss (wordS r) = true ↔ ∀ s ∈ ss, setW s (flt s r) ≠ 0 := by
  have hall := partsOk_all hp
  have h6 : ∀ l ∈ r, l < 6 := fun l h => (letters_lt (hr l h)).1
  have hs : ∀ s ∈ ss, hasTr s (restr (wordS r) s.al) = decide (setW s (flt s r) ≠ 0) := fun s hs => by
    rw [restr_wordS h6]
    exact hasTr_wordS (List.all_eq_true.1 hall s hs) flt_mem (Nat.le_trans (List.length_filter_le _ _) hl)
  rw [trParts_list]
  constructor
  · rintro ⟨_, _, h⟩ s hm
    have := h s hm
    rw [hs s hm] at this
    exact of_decide_eq_true this
  · intro h
    refine ⟨hp, wordS_within (allAl_ok hall) hr hl, fun s hm => ?_⟩
    rw [hs s hm]
    exact decide_eq_true (h s hm)

/-- A node to which a word leads parts. -/
def PR : List Sy → List Nat → Nat → Prop
  | [], _, n => n = 0
  | s :: ss, r, n => ∃ q m, (setW s (flt s r)).testBit q = true ∧ PR ss r m ∧ n = q * prodL (szP ss) + m
theorem setW_bit {s : Sy} (hs : sysOk s = true) {r : List Nat} {q : Nat} (h : (setW s r).testBit q = true) : q < s.st.toNat :=
  testBit_lt (setW_small (sysOk_in hs) (sysOk_st hs).1 r) h
theorem PR_lt : ∀ {ss : List Sy}, ss.all sysOk = true → ∀ {r n}, PR ss r n → n < prodL (szP ss)
  | [], _, _, _, h => by rw [show _ = 0 from h]; exact Nat.one_pos
  | s :: ss, hall, r, n, ⟨q, m, hq, hm, e⟩ => by
    rw [List.all_cons, Bool.and_eq_true] at hall
    have h1 := PR_lt hall.2 hm
    have h2 := setW_bit hall.1 hq
    show n < s.st.toNat * prodL (szP ss)
    have h3 : (q + 1) * prodL (szP ss) ≤ s.st.toNat * prodL (szP ss) := Nat.mul_le_mul_right _ h2
    rw [Nat.add_mul] at h3
    omega
theorem nxParts_shift : ∀ (ss : List Sy) (q m l x : Nat), x ∈ nxParts ss (q * prodL (szP ss) + m) l ↔ x ∈ nxParts ss m l
  | [], q, m, l, x => Iff.rfl
  | s :: ss, q, m, l, x => by
    rw [nxParts_cons, nxParts_cons]
    by_cases h0 : prodL (szP ss) = 0
    · have e : q * prodL (szP (s :: ss)) + m = m := by
        show q * (s.st.toNat * prodL (szP ss)) + m = m
        rw [h0]; simp
      rw [e]
    · have e1 : (q * prodL (szP (s :: ss)) + m) / prodL (szP ss) = q * s.st.toNat + m / prodL (szP ss) := by
        show (q * (s.st.toNat * prodL (szP ss)) + m) / prodL (szP ss) = _
        rw [← Nat.mul_assoc, Nat.mul_comm _ (prodL (szP ss)), Nat.mul_add_div (by omega)]
      have e2 : ∀ y, y ∈ nxParts ss (q * prodL (szP (s :: ss)) + m) l ↔ y ∈ nxParts ss m l := fun y => by
        show y ∈ nxParts ss (q * (s.st.toNat * prodL (szP ss)) + m) l ↔ _
        rw [← Nat.mul_assoc]
        exact nxParts_shift ss _ m l y
      have e3 : stepQ s (q * s.st.toNat + m / prodL (szP ss)) l = stepQ s (m / prodL (szP ss)) l := by
        unfold stepQ
        rw [Nat.add_comm, Nat.mul_comm, Nat.add_mul_mod_self_left]
      rw [e1, e3]
      constructor
      · rintro ⟨a, ha, b, hb, e⟩; exact ⟨a, ha, b, (e2 b).1 hb, e⟩
      · rintro ⟨a, ha, b, hb, e⟩; exact ⟨a, ha, b, (e2 b).2 hb, e⟩
/-- One letter more, seen by one part. -/
theorem step_one {s : Sy} (hs : sysOk s = true) {l : Nat} (hl : l < 6) (r : List Nat) (t : Nat) : (setW s (flt s (l :: r))).testBit t = true ↔ ∃ q, (setW s (flt s r)).testBit q = true ∧ t ∈ stepQ s q l := by
  have hz : HasZ s.al (l : Int) = true ↔ l ∈ letters s.al := by
    rw [letters_ok]
    unfold HasZ
    simp [hl]
  rw [flt_cons]
  by_cases h : l ∈ letters s.al
  · rw [if_pos h]
    show (stepSet s (setW s (flt s r)) (l : Int)).testBit t = true ↔ _
    rw [← unionOf_mv s (sysOk_in hs), unionOf_testBit]
    constructor
    · rintro ⟨h1, q, h2, h3⟩
      refine ⟨q, h2, ?_⟩
      unfold stepQ
      rw [if_pos (hz.2 h), Nat.mod_eq_of_lt (setW_bit hs h2), memL_mem]
      exact ⟨h1, h3⟩
    · rintro ⟨q, h2, h3⟩
      unfold stepQ at h3
      rw [if_pos (hz.2 h), Nat.mod_eq_of_lt (setW_bit hs h2), memL_mem] at h3
      exact ⟨h3.1, q, h2, h3.2⟩
  · rw [if_neg h]
    constructor
    · intro h1
      refine ⟨t, h1, ?_⟩
      unfold stepQ
      rw [if_neg (fun k => h (hz.1 k)), Nat.mod_eq_of_lt (setW_bit hs h1), List.mem_singleton]
    · rintro ⟨q, h2, h3⟩
      unfold stepQ at h3
      rw [if_neg (fun k => h (hz.1 k)), Nat.mod_eq_of_lt (setW_bit hs h2), List.mem_singleton] at h3
      rw [h3]
      exact h2
theorem PR_nil : ∀ {ss : List Sy}, ss.all sysOk = true → ∀ n, PR ss [] n ↔ n = 0
  | [], _, n => Iff.rfl
  | s :: ss, hall, n => by
    rw [List.all_cons, Bool.and_eq_true] at hall
    show (∃ q m, (1 : Nat).testBit q = true ∧ PR ss [] m ∧ n = q * prodL (szP ss) + m) ↔ n = 0
    have hb : ∀ q, (1 : Nat).testBit q = true ↔ q = 0 := fun q => by
      have := Nat.testBit_two_pow (n := 0) (m := q)
      rw [show (1 : Nat) = 2 ^ 0 from rfl, this, decide_eq_true_iff]
      omega
    constructor
    · rintro ⟨q, m, h1, h2, e⟩
      rw [(hb q).1 h1, (PR_nil hall.2 m).1 h2] at e
      simpa using e
    · rintro rfl
      exact ⟨0, 0, (hb 0).2 rfl, (PR_nil hall.2 0).2 rfl, by simp⟩
theorem PR_cons : ∀ {ss : List Sy}, ss.all sysOk = true → ∀ {l : Nat}, l < 6 → ∀ (r : List Nat) (n : Nat), PR ss (l :: r) n ↔ ∃ m, PR ss r m ∧ n ∈ nxParts ss m l
  | [], _, l, _, r, n => by
    show n = 0 ↔ ∃ m, m = 0 ∧ n ∈ [0]
    simp
  | s :: ss, hall, l, hl, r, n => by
    rw [List.all_cons, Bool.and_eq_true] at hall
    have hp : 0 < prodL (szP ss) := prodL_pos fun a ha => (szP_ok hall.2 a ha).1
    have hdiv : ∀ q m, m < prodL (szP ss) → (q * prodL (szP ss) + m) / prodL (szP ss) = q := fun q m hm => by
      rw [Nat.mul_comm, Nat.mul_add_div hp, Nat.div_eq_of_lt hm, Nat.add_zero]
    constructor
    · rintro ⟨t, n', h1, h2, rfl⟩
      obtain ⟨q, h3, h4⟩ := (step_one hall.1 hl r t).1 h1
      obtain ⟨m, h5, h6⟩ := (PR_cons hall.2 hl r n').1 h2
      refine ⟨q * prodL (szP ss) + m, ⟨q, m, h3, h5, rfl⟩, ?_⟩
      rw [nxParts_cons, hdiv q m (PR_lt hall.2 h5)]
      exact ⟨t, h4, n', (nxParts_shift ss q m l n').2 h6, rfl⟩
    · rintro ⟨_, ⟨q, m, h3, h5, rfl⟩, hn⟩
      rw [nxParts_cons, hdiv q m (PR_lt hall.2 h5)] at hn
      obtain ⟨t, h4, n', h6, rfl⟩ := hn
      exact ⟨t, n', (step_one hall.1 hl r t).2 ⟨q, h3, h4⟩, (PR_cons hall.2 hl r n').2 ⟨m, h5, (nxParts_shift ss q m l n').1 h6⟩, rfl⟩
theorem RW_PR {ss : List Sy} (hall : ss.all sysOk = true) : ∀ (r : List Nat) (n : Nat), RW (fun m => m ∈ [0]) (letters (allAl ss)) (nxParts ss) r n ↔ (∀ l ∈ r, l ∈ letters (allAl ss)) ∧ PR ss r n
  | [], n => by
    show n ∈ [0] ↔ _
    rw [PR_nil hall, List.mem_singleton]
    exact ⟨fun h => ⟨fun l hl => (by cases hl), h⟩, fun h => h.2⟩
  | l :: r, n => by
    show (l ∈ letters (allAl ss) ∧ ∃ m, RW _ _ _ r m ∧ n ∈ nxParts ss m l) ↔ _
    constructor
    · rintro ⟨h1, m, h2, h3⟩
      obtain ⟨h4, h5⟩ := (RW_PR hall r m).1 h2
      refine ⟨fun x hx => ?_, (PR_cons hall (letters_lt h1).1 r n).2 ⟨m, h5, h3⟩⟩
      rcases List.mem_cons.1 hx with rfl | hx
      · exact h1
      · exact h4 x hx
    · rintro ⟨h1, h2⟩
      have hl := h1 l List.mem_cons_self
      obtain ⟨m, h3, h4⟩ := (PR_cons hall (letters_lt hl).1 r n).1 h2
      exact ⟨hl, m, (RW_PR hall r m).2 ⟨fun x hx => h1 x (List.mem_cons_of_mem _ hx), h3⟩, h4⟩
theorem PR_some : ∀ (ss : List Sy) (r : List Nat), (∃ n, PR ss r n) ↔ ∀ s ∈ ss, setW s (flt s r) ≠ 0
  | [], r => ⟨fun _ s hs => (by cases hs), fun _ => ⟨0, rfl⟩⟩
  | s :: ss, r => by
    constructor
    · rintro ⟨n, q, m, h1, h2, -⟩ x hx
      rcases List.mem_cons.1 hx with rfl | hx
      · intro h
        rw [h] at h1
        simp at h1
      · exact (PR_some ss r).1 ⟨m, h2⟩ x hx
    · intro h
      obtain ⟨m, hm⟩ := (PR_some ss r).2 fun x hx => h x (List.mem_cons_of_mem _ hx)
      obtain ⟨q, hq⟩ := Nat.exists_testBit_of_ne_zero (h s List.mem_cons_self)
      exact ⟨_, q, m, hq, hm, rfl⟩
theorem PR_det : ∀ {ss : List Sy}, (∀ s ∈ ss, detB s = true) → ∀ {r : List Nat} {n m : Nat}, PR ss r n → PR ss r m → n = m
  | [], _, r, n, m, h, k => by rw [show n = 0 from h, show m = 0 from k]
  | s :: ss, hd, r, n, m, ⟨q, n', h1, h2, e⟩, ⟨q', m', k1, k2, e'⟩ => by
    have e1 := PR_det (fun x hx => hd x (List.mem_cons_of_mem _ hx)) h2 k2
    have e2 : q = q' := by
      rcases det_one (hd s List.mem_cons_self) (flt s r) with h0 | ⟨p, _, hp, _⟩
      · rw [h0] at h1
        simp at h1
      · rw [hp, Nat.testBit_two_pow, decide_eq_true_iff] at h1 k1
        omega
    rw [e, e', e1, e2]

/-- A word of parts leads to a node. -/
theorem tr_node {ss : List Sy} (hp : partsOk ss = true) {r : List Nat} (hr : ∀ l ∈ r, l ∈ letters (allAl ss)) (hl : r.length ≤ 50000) : trParts ss (wordS r) = true ↔ ∃ n, RW (fun m => m ∈ [0]) (letters (allAl ss)) (nxParts ss) r n := by
  rw [trParts_wordS hp hr hl, ← PR_some]
  constructor
  · rintro ⟨n, h⟩; exact ⟨n, (RW_PR (partsOk_all hp) r n).2 ⟨hr, h⟩⟩
  · rintro ⟨n, h⟩; exact ⟨n, ((RW_PR (partsOk_all hp) r n).1 h).2⟩
theorem tr_within {ss : List Sy} {x : ByteArray} (h : trParts ss x = true) : partsOk ss = true ∧ within x (allAl ss) = true := by
  obtain ⟨h1, h2, -⟩ := (trParts_list ss x).1 h
  exact ⟨h1, h2⟩
/-- A found word is a trace. -/
theorem dead_trace {ss : List Sy} (hp : partsOk ss = true) {r : List Nat} (h : DeadP ss (some r)) : trParts ss (wordS r) = true ∧ r.length < 4096 ∧ ∀ l ∈ r, l ∈ letters (allAl ss) := by
  have hall := partsOk_all hp
  have h3 : ss.length ≤ 3 := by
    unfold partsOk at hp
    rw [Bool.and_eq_true, decide_eq_true_iff] at hp
    exact hp.1.2
  have hl := first_short h (N := prodL (szP ss)) fun q n hq => PR_lt hall ((RW_PR hall q n).1 hq).2
  have h4 := (prodP_4096 hall h3).2
  obtain ⟨⟨n, hn, -⟩, -⟩ := h
  have hm := ((RW_PR hall r n).1 hn).1
  exact ⟨(tr_node hp hm (by omega)).2 ⟨n, hn⟩, by omega, hm⟩
theorem not_stuck {ss : List Sy} {L : List Nat} {n : Nat} (h : stuckP ss L n ≠ true) : ∃ l ∈ L, ∃ m, m ∈ nxParts ss n l := by
  unfold stuckP at h
  rw [ne_eq, Bool.not_eq_true, List.all_eq_false] at h
  obtain ⟨l, hl, h⟩ := h
  refine ⟨l, hl, ?_⟩
  cases e : nxParts ss n l with
  | nil => rw [e] at h; simp at h
  | cons m _ => exact ⟨m, List.mem_cons_self⟩
/-- A trace goes on where its node is not stuck. -/
theorem goes_on {ss : List Sy} (hp : partsOk ss = true) {r : List Nat} (hl : r.length < 50000) {n : Nat} (hn : RW (fun m => m ∈ [0]) (letters (allAl ss)) (nxParts ss) r n) (h : stuckP ss (letters (allAl ss)) n ≠ true) : ∃ c, c < 6 ∧ trParts ss (wordS r ++ ⟨#[letB c]⟩) = true := by
  obtain ⟨l, hl', m, hm⟩ := not_stuck h
  refine ⟨l, (letters_lt hl').1, ?_⟩
  rw [wordS_cons]
  have hr := ((RW_PR (partsOk_all hp) r n).1 hn).1
  refine (tr_node hp (fun x hx => ?_) (by simp; omega)).2 ⟨m, hl', n, hn, hm⟩
  rcases List.mem_cons.1 hx with rfl | hx
  · exact hl'
  · exact hr x hx
/-- Parts without a deadlock can always go on. -/
theorem none_goes_on {ss : List Sy} (h : DeadP ss none) {v : ByteArray} (hv : trParts ss v = true) (hs : v.size < 50000) : ∃ c, c < 6 ∧ trParts ss (v ++ ⟨#[letB c]⟩) = true := by
  obtain ⟨hp, hw⟩ := tr_within hv
  obtain ⟨r, rfl, hr, hl⟩ := word_ex hw
  obtain ⟨n, hn⟩ := (tr_node hp hr hl).1 hv
  exact goes_on hp (by rw [wordS_size] at hs; exact hs) hn (h r n hn)
theorem wordS_within_mem {A : Int} {r : List Nat} (h6 : ∀ l ∈ r, l < 6) (h : within (wordS r) A = true) : ∀ l ∈ r, l ∈ letters A := fun l hl => by
  obtain ⟨-, -, h⟩ := (within_list _ _).1 h
  have := h (letB l) (by rw [wordS_list]; exact List.mem_map_of_mem (List.mem_reverse.2 hl))
  unfold pk HasZ at this
  rw [bl_letB (h6 l hl)] at this
  simp only [Bool.and_eq_true, Int.toNat_natCast] at this
  exact letters_ok.2 ⟨h6 l hl, this.2⟩
/-- After the first deadlock deterministic parts cannot go on. -/
theorem dead_still {ss : List Sy} (hp : partsOk ss = true) {r : List Nat} (h : DeadP ss (some r)) (hd : ∀ s ∈ ss, detB s = true) {c : Nat} (hc : c < 6) : trParts ss (wordS r ++ ⟨#[letB c]⟩) = false := by
  rw [← Bool.not_eq_true]
  intro hv
  obtain ⟨-, hlen, hr⟩ := dead_trace hp h
  rw [wordS_cons] at hv
  obtain ⟨-, hw⟩ := tr_within hv
  have hall := partsOk_all hp
  have hm : ∀ l ∈ c :: r, l ∈ letters (allAl ss) := wordS_within_mem (fun l hl => by
    rcases List.mem_cons.1 hl with rfl | hl
    · exact hc
    · exact (letters_lt (hr l hl)).1) hw
  obtain ⟨m, hcL, n, hn, hx⟩ := (tr_node hp hm (by simp; omega)).1 hv
  obtain ⟨⟨n', hn', hg⟩, -⟩ := h
  obtain rfl : n = n' := PR_det hd ((RW_PR hall r n).1 hn).2 ((RW_PR hall r n').1 hn').2
  unfold stuckP at hg
  have := List.all_eq_true.1 hg c hcL
  rw [List.isEmpty_iff] at this
  rw [this] at hx
  cases hx

end Go.Proofs.YtjhlbeamfngebaaDoor

/- Both IsDeterministic return detB. -/
namespace Go.Proofs.YtjhlbeamfngebaaDoor
open Go.RowKit Go.BigFrame AG

theorem detB_false {s : Sy} {k : Nat} (h : ¬ detAt s (reachAll s) (k + 1)) : detB s = false := by
  unfold detB
  have : ¬ detAt s (reachAll s) s.es.length := fun h' => h fun i hi _ => h' i hi (by omega)
  simp [this]

theorem detAt.next {s : Sy} {S k : Nat} (h : detAt s S k) (hlt : k + 1 < s.es.length) (hn : ¬ (Has (S : Int) s.es[k].f.toNat = true ∧ s.es[k].f = s.es[k + 1].f ∧ s.es[k].l = s.es[k + 1].l)) : detAt s S (k + 1) := fun i hi hik => by
  by_cases e : i = k
  · subst e
    exact hn
  · exact h i hi (by omega)

set_option maxHeartbeats 1000000 in
theorem implIsDeterministic_any (s : Sy) (A : Option Addr) (c : Nat) (w : World) (hl : s.es.length ≤ c) (hc : c ≤ 9223372036854775807) (hT : Tab w) (hr : EdsAt w w.heap.size A s.es) :
    Calls Tryd.prog 37 #[s.val A c] w fun e w' => e = .returned (.bool (detB s)) ∧ Below w.heap.size w w' := by
  unfold Sy.val
  replace hr := hid hr
  replace hT := hid hT
  cases hok : sysOk s
  all_goals
    replace hok := hid hok
    go_enter Tryd.func37, Tryd.ntmps37
    go_wp2_with fail
    obtain ⟨w0, hw0, hz0, hB0, hS0, hS1, hS2⟩ := boxed3 w (Value.int IntKind.i64 s.al) (Value.int IntKind.i64 s.st) (Value.slice A s.es.length c) 37
    rw [hw0]
    clear hw0
    have hr0 := hid (hr.out.later hB0)
    refine (implSystemValid_any s A c w0 hl hc hr0.out).mono ?_
    rintro e w1 ⟨rfl, hb1⟩
    rw [hok.out]
    have hB1 : Below w.heap.size w w1 := hB0.trans (hb1.mono (by omega))
    have hb1' := hb1.mono hz0
  · go_wp2
    go_ret
    exact ⟨ret_bool (by unfold detB; rw [hok.out]; rfl), hB1⟩
  · have hr1 := hid (hr0.out.later hb1)
    have hT1 := hid (hT.out.later hB1)
    go_wp2_with fail
    refine (implReachableStates_any s A c w1 hl hc hT1.out hr1.out).mono ?_
    rintro e w2 ⟨rfl, hb2⟩
    rw [hok.out, if_pos rfl]
    have hb2' : Below (w.heap.size + 1) w0 w2 := hb1'.trans (hb2.mono (Nat.le_trans hz0 hb1.size))
    have hin := hid (sysOk_in hok.out)
    go_wp2_with fail
    go_loopw [4] (fun i wr => ∃ k : Nat, i = .int .i64 (k + 1 : Nat) ∧ (k = 0 ∨ k + 1 ≤ s.es.length) ∧ detAt s (reachAll s) k ∧ Below (w.heap.size + 1) w0 wr) (fun i _ => s.es.length + 1 - (intOf i).toNat)
    case atStart => exact ⟨0, rfl, .inl rfl, fun i _ h => by omega, hb2'⟩
    case round =>
      obtain ⟨k, rfl, hk, hdet, hb⟩ := hrel
      replace hdet := hid hdet
      by_cases hlt : k + 1 < s.es.length
      · obtain ⟨b, o, rfl, hB, hE⟩ := hr.out.get hB0 (Nat.le_succ w.heap.size) hlt
        obtain ⟨e0, e1, e2⟩ := hE k (by omega)
        obtain ⟨f0, f1, f2⟩ := hE (k + 1) hlt
        replace hE := hid hE
        replace e0 := e0 _ hb
        replace e1 := e1 _ hb
        replace e2 := e2 _ hb
        replace f0 := f0 _ hb
        replace f1 := f1 _ hb
        replace f2 := f2 _ hb
        have q0 := hS0 _ hb
        have q1 := hS1 _ hb
        have q2 := hS2 _ hb
        have hzr := hb.size
        have up : ∀ (B' O' : Nat) (v : Value), B' < wr.heap.size → wr.cell? ⟨B', O', none⟩ = some v → ∀ X Y : Array Value, ((wr.alloc (Obj.cells X 77)).alloc (Obj.cells Y 77)).cell? ⟨B', O', none⟩ = some v := fun B' O' v hB' h X Y => by
          rw [World.cell?_alloc_lt (h := by simp; omega), World.cell?_alloc_lt (h := by simpa using hB')]
          exact h
        have u2 := up _ _ _ (by omega) q2
        have v0 := up _ _ _ (by omega) e0
        have v1 := up _ _ _ (by omega) e1
        have v2 := up _ _ _ (by omega) e2
        have w0' := up _ _ _ (by omega) f0
        have w1' := up _ _ _ (by omega) f1
        have w2' := up _ _ _ (by omega) f2
        have up1 : ∀ (B' O' : Nat) (v : Value), B' < wr.heap.size → wr.cell? ⟨B', O', none⟩ = some v → ∀ X : Array Value, (wr.alloc (Obj.cells X 77)).cell? ⟨B', O', none⟩ = some v := fun B' O' v hB' h X => by
          rw [World.cell?_alloc_lt (h := by simpa using hB')]
          exact h
        have x2 := up1 _ _ _ (by omega) q2
        have y0 := up1 _ _ _ (by omega) e0
        have y1 := up1 _ _ _ (by omega) e1
        have y2 := up1 _ _ _ (by omega) e2
        have z0 := up1 _ _ _ (by omega) f0
        have z1 := up1 _ _ _ (by omega) f1
        have z2 := up1 _ _ _ (by omega) f2
        replace up := hid up
        replace up1 := hid up1
        obtain ⟨fa, fb, _⟩ := hin.out s.es[k] (List.getElem_mem _)
        have hasZ : Hid (HasZ (reachAll s : Nat) s.es[k].f = Has (reachAll s : Nat) s.es[k].f.toNat) := hid (by unfold HasZ; rw [decide_eq_true fa]; rfl)
        have hbx := hb.mono (Nat.le_succ w.heap.size)
        go_wp2_with fail
        go_region
        all_goals
          go_wp2_with (go_at_call 94; refine (has_any _ _ _ (by omega)).mono ?_; rintro e w' ⟨rfl, rfl⟩)
        all_goals
          first
          | (refine ⟨⟨k + 1, by go_num, .inr (by omega), detAt.next hdet.out hlt ?_, ?_⟩, by simp [intOf]; omega⟩
             · rintro ⟨h1, h2, h3⟩
               rw [← hasZ.out] at h1
               first
               | contradiction
               | exact absurd (beq_iff_eq.mpr h3) (ne_true_of_eq_false ‹_›)
             · (repeat (first | exact Below.refl _ _ | assumption | refine Below.drew ?_ | refine Below.alloc ?_ (by first | omega | (simp; done) | (simp; omega)) _ | refine Below.setCell ?_ (by first | omega | (simp; done) | (simp; omega)) _)))
          | (go_ret
             refine ⟨ret_bool (detB_false (k := k) fun h => h k hlt (by omega) ⟨?_, ?_, ?_⟩).symm, hB0.trans (by (repeat (first | exact Below.refl _ _ | assumption | refine Below.drew ?_ | refine Below.alloc ?_ (by first | omega | (simp; done) | (simp; omega)) _ | refine Below.setCell ?_ (by first | omega | (simp; done) | (simp; omega)) _)))⟩
             · rw [← hasZ.out]; assumption
             · assumption
             · exact beq_iff_eq.mp (by assumption))
      · have hall : Hid (detB s = true) := hid (by
          unfold detB
          rw [hok.out]
          simp only [Bool.true_and, decide_eq_true_eq]
          exact fun i hi _ => hdet.out i hi (by omega))
        go_wp2
        go_ret
        exact ⟨ret_bool hall.out.symm, hB0.trans (hb.mono (by omega))⟩

end Go.Proofs.YtjhlbeamfngebaaDoor

/- Restricted words: the reference's RestrictWord, the program's restrict. -/
namespace Go.Proofs.YtjhlbeamfngebaaDoor
open Go.RowKit Go.BigFrame AG

theorem infoByte8 : (Tryd.prog.info? 5).map (fun i => (i.zero, i.size, i.bytes)) = some (some (.int .u8 0), 1, 1) := by kernel_rfl

def byteVals (l : List UInt8) : List Value := l.map fun b => Value.int .u8 (b.toNat : Int)

/-- string(b) of owned bytes. -/
theorem conv_own {w : World} {B : Nat} {v : Value} {l : List UInt8} (h : w.ownsRow B 5 1 v l.length (byteVals l)) : (convert 22 9 v).run Tryd.prog w = .ok (.string ⟨l.toArray⟩) w := by
  by_cases h0 : 0 < l.length
  · obtain ⟨g, cap, rfl, h1, h2, h3, h4, h5⟩ := own_shape h h0
    refine run_convert_bytes_back (P := Tryd.prog) w 22 9 5 ⟨g, 0, none⟩ cap l Tryd.underlying22 Tryd.underlying5 Tryd.underlying9 (fun j hj => ?_)
    have := h5 j (.int .u8 (l[j].toNat : Int)) (by unfold byteVals; simp [List.getElem?_eq_getElem hj])
    rw [show ((⟨g, 0, none⟩ : Addr).add j) = ⟨g, j, none⟩ from by unfold Addr.add; split <;> simp_all]
    exact this
  · obtain ⟨A, c, rfl, -, -⟩ := own_slice h
    obtain rfl : l = [] := List.length_eq_zero_iff.1 (by omega)
    rw [show ([] : List UInt8).length = 0 from rfl, run_convert_bytes_string w 22 9 5 A 0 c Tryd.underlying22 Tryd.underlying5 Tryd.underlying9]
    cases A <;> simp [Conv.bytesToString, loadCells]
    all_goals rfl

/-- A byte is appended. -/
theorem bytes_next {w wr w1 : World} {l : List UInt8} {b : UInt8} {n : Int} {v v' : Value} {c : Array Value} {t : TypeId} (hn : n = (b.toNat : Int)) (hB : w.heap.size ≤ wr.heap.size) (hown : wr.ownsRow w.heap.size 5 1 v l.length (byteVals l)) (hb : Below w.heap.size w wr)
    (hown' : w1.ownsRow w.heap.size 5 1 v' (l.length + 1) (byteVals l ++ [.int .u8 n])) (hgrow : (wr.alloc (.cells c t)).grownBy w1 v.ownBlock) :
    w1.ownsRow w.heap.size 5 1 v' (l ++ [b]).length (byteVals (l ++ [b])) ∧ Below w.heap.size w w1 := by
  subst hn
  refine ⟨?_, Below.grown (hb.alloc hB _) hgrow (by simp; omega) (own_block hown)⟩
  unfold byteVals at hown' ⊢
  rw [List.length_append, List.map_append]
  exact hown'

theorem keptTo_hit {s : ByteArray} {al : Int} {k : Nat} (h : HasZ al (ltr s k) = true) : keptTo s al (k + 1) = keptTo s al k ++ [s.data.getD k 0] := by rw [keptTo, if_pos h]
theorem keptTo_miss {s : ByteArray} {al : Int} {k : Nat} (h : HasZ al (ltr s k) = false) : keptTo s al (k + 1) = keptTo s al k := by rw [keptTo, if_neg (by rw [h]; simp)]
theorem byte_val (s : ByteArray) (k : Nat) : lz s k + 97 = ((s.data.getD k 0).toNat : Int) := by unfold lz; omega

set_option maxRecDepth 100000 in
set_option maxHeartbeats 2000000 in
theorem restrict_any (s : ByteArray) (al : Int) (w : World) (hz : s.size ≤ 50000) :
    Calls Tryd.prog 86 #[.string s, .int .i64 al] w fun e w' => e = .returned (.string (restr s al)) ∧ Below w.heap.size w w' := by
  obtain ⟨i0, hi, hz0, hz1, hz2⟩ := info_parts infoByte8
  go_enter Tryd.func86, Tryd.ntmps86
  go_wp2_with fail
  go_loopw [5, 9] (fun v i wr => ∃ k : Nat, i = .int .i64 k ∧ k ≤ s.size ∧ wr.ownsRow w.heap.size 5 1 v (keptTo s al k).length (byteVals (keptTo s al k)) ∧ Below w.heap.size w wr) (fun _ i _ => s.size - (intOf i).toNat)
  case atStart => exact ⟨0, rfl, by omega, World.ownsRow_nil _ _ _ _, Below.refl _ _⟩
  case round =>
    obtain ⟨k, rfl, hk, hown, hb⟩ := hrel
    have hzr := hb.size
    have hlen := keptTo_len s al k
    by_cases hlt : k < s.size
    · have h63 : ltr s k ≤ 63 := by unfold ltr lOk; split; rename_i h; have := of_decide_eq_true h; omega; omega
      cases hh : HasZ al (ltr s k)
      · have hnx := hid (keptTo_miss hh)
        replace hh := hid hh
        replace hown := hid hown
        go_wp2_with (first
          | (go_at_call 145; refine (letterAt_any s k _ hlt).mono ?_; rintro e w' ⟨rfl, rfl⟩)
          | (go_at_call 94; refine (has_any al _ _ h63).mono ?_; rintro e w' ⟨rfl, rfl⟩; rw [hh.out]))
        go_roundw
        case rel => exact ⟨k + 1, by go_num, by omega, by rw [hnx.out]; exact hown.out, hb⟩
        case measure => simp [intOf]; omega
      · have hnx := hid (keptTo_hit hh)
        have hbv := byte_at s k hlt
        have h0 : (0 : Int) ≤ (k : Int) ∧ (k : Int) < (s.size : Int) := by omega
        replace hh := hid hh
        go_wp2_with (first
          | (go_at_call 145; refine (letterAt_any s k _ hlt).mono ?_; rintro e w' ⟨rfl, rfl⟩)
          | (go_at_call 94; refine (has_any al _ _ h63).mono ?_; rintro e w' ⟨rfl, rfl⟩; rw [hh.out])
          | (at_builtin; refine wpList_append_own _ rfl _ _ 22 rfl w.heap.size 5 i0 (.int .u8 0) 1 1 Tryd.underlying22 hi hz0 hz1 hz2 rfl (by decide) _ _ _ rfl (hown.alloc _) ⟨wr.heap.size, 0, none⟩ 1 1 [.int .u8 (lz s k + 97)] rfl rfl (cell_one_new _ _ _) (by intro u hu; simp at hu; subst hu; rfl) (by unfold maxLen; omega) (by omega) (by simp; omega) ?_; intro v' w1 hown' hgrow _))
        have R := bytes_next (byte_val s k) hzr hown hb hown' hgrow
        clear hown' hgrow hown hb
        go_roundw
        case rel => exact ⟨k + 1, by go_num, by omega, by rw [hnx.out]; exact R.1, R.2⟩
        case measure => simp [intOf]; omega
    · obtain rfl : k = s.size := by omega
      have kc := conv_own hown
      replace hown := hid hown
      go_wp2
      go_ret
      exact ⟨rfl, hb⟩

end Go.Proofs.YtjhlbeamfngebaaDoor

/- The states behind a word: both StatesAfter and HasTrace. -/
namespace Go.Proofs.YtjhlbeamfngebaaDoor
open Go.RowKit Go.BigFrame AG

set_option maxRecDepth 100000 in
set_option maxHeartbeats 1000000 in
theorem implStatesAfter_any (s : Sy) (A : Option Addr) (c : Nat) (x : ByteArray) (w : World) (hz : x.size ≤ 9223372036854775807) (hl : s.es.length ≤ c) (hc : c ≤ 9223372036854775807) (hT : Tab w) (hr : EdsAt w w.heap.size A s.es) :
    Calls Tryd.prog 105 #[s.val A c, .string x] w fun e w' => e = .returned (.int .i64 (aft s x : Nat)) ∧ Below w.heap.size w w' := by
  unfold Sy.val
  replace hr := hid hr
  replace hT := hid hT
  cases hok : sysOk s
  · have hfin : Hid (aft s x = 0) := hid (by unfold aft; rw [hok]; rfl)
    replace hok := hid hok
    go_enter Tryd.func105, Tryd.ntmps105
    go_wp2_with fail
    obtain ⟨w0, hw0, hz0, hB0, hS0, hS1, hS2⟩ := boxed3 w (Value.int IntKind.i64 s.al) (Value.int IntKind.i64 s.st) (Value.slice A s.es.length c) 37
    rw [hw0]
    clear hw0
    have hr0 := hid ((hr.out.keep hB0).more (show w.heap.size ≤ w0.heap.size by omega))
    refine (implSystemValid_any s A c w0 hl hc hr0.out).mono ?_
    rintro e w1 ⟨rfl, hb1⟩
    rw [hok.out]
    have hB1 : Below w.heap.size w w1 := hB0.trans (hb1.mono (by omega))
    have hb1' := hb1.mono hz0
    go_wp2
    go_ret
    exact ⟨ret_int (by rw [hfin.out]; rfl), hB1⟩
  · cases hwi : within x s.al
    all_goals
      have hok2 := hid hok
      have hwi2 := hid hwi
      replace hok := hid hok
      replace hwi := hid hwi
      go_enter Tryd.func105, Tryd.ntmps105
      go_wp2_with fail
      obtain ⟨w0, hw0, hz0, hB0, hS0, hS1, hS2⟩ := boxed3 w (Value.int IntKind.i64 s.al) (Value.int IntKind.i64 s.st) (Value.slice A s.es.length c) 37
      rw [hw0]
      clear hw0
      have hr0 := hid ((hr.out.keep hB0).more (show w.heap.size ≤ w0.heap.size by omega))
      refine (implSystemValid_any s A c w0 hl hc hr0.out).mono ?_
      rintro e w1 ⟨rfl, hb1⟩
      rw [hok.out]
      have hB1 : Below w.heap.size w w1 := hB0.trans (hb1.mono (by omega))
      have hb1' := hb1.mono hz0
      have hr1 := hid (hr0.out.later hb1)
      have q0 := hS0 _ hb1'
      have q1 := hS1 _ hb1'
      have q2 := hS2 _ hb1'
    · have hfin : Hid (aft s x = 0) := hid (by unfold aft; rw [hok2.out, hwi2.out]; rfl)
      go_wp2_with (go_at_call 85; refine (implWordWithin_any x s.al _ hz).mono ?_; rintro e w' ⟨rfl, rfl⟩; rw [hwi.out])
      go_ret
      exact ⟨ret_int (by rw [hfin.out]; rfl), hB1⟩
    · have hfin : Hid (aft s x = runTo s x x.size) := hid (by unfold aft; rw [hok2.out, hwi2.out]; rfl)
      have h5 := within_size hwi2.out
      go_wp2_with (first
        | (go_at_call 85; refine (implWordWithin_any x s.al _ hz).mono ?_; rintro e w' ⟨rfl, rfl⟩; rw [hwi.out])
        | (go_at_call 97; refine (movesOf_any s A c _ (sysOk_in hok2.out) hl hc hr1.out).mono ?_; rintro e w2 ⟨g, rfl, hg, hb2⟩))
      have hB2 : Below w.heap.size w w2 := hB1.trans (hb2.mono hB1.size)
      have hT2 := hid (hT.out.later hB2)
      replace hg := hid hg
      go_loopw [6, 7] (fun st i wr => ∃ (T k : Nat), st = .int .i64 T ∧ i = .int .i64 k ∧ k ≤ x.size ∧ T = runTo s x k ∧ Below w2.heap.size w2 wr) (fun _ i _ => x.size - (intOf i).toNat)
      case atStart => exact ⟨1, 0, rfl, rfl, by omega, rfl, Below.refl _ _⟩
      case round =>
        obtain ⟨T, k, rfl, rfl, hk, hT', hb⟩ := hrel
        have hTl : T < 65536 := by rw [hT']; exact runTo_lt s x k
        replace hT' := hid hT'
        have hB3 : Below w.heap.size w wr := hB2.trans (hb.mono hB2.size)
        by_cases hlt : k < x.size
        · by_cases hT0 : T = 0
          · have hd : ((T : Int) != 0) = false := by subst hT0; rfl
            have hfin2 := hid (runTo_done (s := s) (w := x) (k := k) (by rw [← hT'.out]; exact hT0) hk)
            replace hT0 := hid hT0
            go_wp2
            go_ret
            exact ⟨ret_int (by rw [hfin.out, hfin2.out, hT0.out]), hB3⟩
          · have hd : ((T : Int) != 0) = true := by simpa using hT0
            replace hT0 := hid hT0
            have hlr := wordOk_at (within_word hwi2.out) hlt
            have hle := ltr_ok hlr
            obtain ⟨l, hll⟩ := Int.eq_ofNat_of_zero_le hlr.1
            have hl6 : l < 6 := by omega
            have hnx : Hid (unionOf (mv s) T l = runTo s x (k + 1)) := hid (by rw [runTo, unionOf_mv s (sysOk_in hok2.out), ← hll, hT'.out])
            have hle2 : Hid (ltr x k = (l : Int)) := hid (by rw [hle, hll])
            have hgr := hid (hg.out.later hb)
            have hTr := hid (hT2.out.later hb)
            have hzr := hb.size
            replace hll := hid hll
            replace hle := hid hle
            go_wp2_with (first
              | (go_at_call 145; refine (letterAt_any x k _ hlt).mono ?_; rintro e w' ⟨rfl, rfl⟩; rw [hle2.out])
              | (go_at_call 99; refine (step_any (mv s) g T l _ hl6 (fun q => mv_lt s q l) hTl hTr.out hgr.out).mono ?_; rintro e w3 ⟨rfl, hb3⟩))
            have hb4 := hb.trans (hb3.mono hzr)
            go_roundw
            case rel => exact ⟨_, k + 1, rfl, by go_num, by omega, hnx.out, hb4⟩
            case measure => simp [intOf]; omega
        · obtain rfl : k = x.size := by omega
          go_wp2
          go_ret
          exact ⟨ret_int (by rw [hfin.out, hT'.out]), hB3⟩

set_option maxRecDepth 100000 in
set_option maxHeartbeats 1000000 in
theorem implHasTrace_any (s : Sy) (A : Option Addr) (c : Nat) (x : ByteArray) (w : World) (hz : x.size ≤ 9223372036854775807) (hl : s.es.length ≤ c) (hc : c ≤ 9223372036854775807) (hT : Tab w) (hr : EdsAt w w.heap.size A s.es) :
    Calls Tryd.prog 43 #[s.val A c, .string x] w fun e w' => e = .returned (.bool (hasTr s x)) ∧ Below w.heap.size w w' := by
  unfold Sy.val
  replace hr := hid hr
  replace hT := hid hT
  have hfin : Hid (hasTr s x = ((aft s x : Int) != 0)) := hid (by unfold hasTr; rw [Bool.eq_iff_iff]; simp)
  go_enter Tryd.func43, Tryd.ntmps43
  go_wp2_with fail
  obtain ⟨w0, hw0, hz0, hB0, hS0, hS1, hS2⟩ := boxed3 w (Value.int IntKind.i64 s.al) (Value.int IntKind.i64 s.st) (Value.slice A s.es.length c) 37
  rw [hw0]
  clear hw0
  have hr0 := hid ((hr.out.keep hB0).more (show w.heap.size ≤ w0.heap.size by omega))
  have hT0 := hid (hT.out.later hB0)
  refine (implStatesAfter_any s A c x w0 hz hl hc hT0.out hr0.out).mono ?_
  rintro e w1 ⟨rfl, hb1⟩
  have hB1 : Below w.heap.size w w1 := hB0.trans (hb1.mono (by omega))
  go_wp2
  go_ret
  exact ⟨ret_bool (by rw [hfin.out]), hB1⟩

end Go.Proofs.YtjhlbeamfngebaaDoor
