/- Lemmas, part 8: several texts in one. -/
import Derived.Test.YtdkjnemakkppfaaGreatDoorU7
import Derived.Laws.OwnMore
import Derived.Deep.DeepCutAuto
set_option linter.unusedSimpArgs false
set_option linter.unusedVariables false

/- The drawing kit: l2Wrong. -/
namespace Go.Proofs.YtdkjnemakkppfaaGreatDoor
open Go.RowKit Go.BigFrame AG

/-- Worlds behind m operations of a statement that draws. -/
def RI (w0 : World) (R P : Nat) : Nat → World → Prop := fun m w => KeepB (fun b => b = R) w0 w ∧ RdUp w R (P + m * 10000)
theorem RI.way (w0 : World) (R P : Nat) : AG.Way (KeepB fun b => b = R) (RI w0 R P) := ⟨fun w => KeepB.refl _ w, fun _ _ _ h k => h.trans k, fun m _ h => ⟨h.1, h.2.more (by omega)⟩⟩
theorem RI.begin {w0 : World} {R P : Nat} (h : RdUp w0 R P) : RI w0 R P 0 w0 := ⟨KeepB.refl _ _, h.more (by omega)⟩
theorem RI.drew {w0 : World} {R P : Nat} (h : RdUp w0 R P) : RI w0 R P 0 w0.drew := ⟨⟨rfl, rfl, rfl, Nat.le_refl _, fun _ _ _ => rfl⟩, (h.later ((Below.refl _ _).drew)).more (by omega)⟩
theorem RI.fam {w0 : World} {R P : Nat} (h : RdUp w0 R P) (x : World) : KeepB (fun b => b = R) w0 (GK.FamI (GK.Upto (RI w0 R P) 200) w0 x) := by
  obtain ⟨_, _, h⟩ := GK.FamI.is (J := GK.Upto (RI w0 R P) 200) (w1 := w0) ⟨0, by omega, RI.begin h⟩ x
  exact h.1
theorem RI.cell {w0 : World} {R P b o : Nat} {v : Value} (hr : RdUp w0 R P) (h : w0.cell? ⟨b, o, none⟩ = some v) (hb : b ≠ R) (x : World) : (GK.FamI (GK.Upto (RI w0 R P) 200) w0 x).cell? ⟨b, o, none⟩ = some v := by
  rw [KeepB.cell_ (RI.fam hr x) (World.block_lt_of_cell? _ _ h) hb]
  exact h
theorem RI.alloc {w0 w : World} {R P m : Nat} (o : Obj) (h : RI w0 R P m w) : RI w0 R P (m + 1) (w.alloc o) := ⟨h.1.alloc o, (h.2.later ((Below.refl _ _).alloc (Nat.le_refl _) o)).more (by omega)⟩
theorem RI.call {w0 w w' : World} {R P P' m : Nat} (h : RI w0 R P m w) (hk : KeepB (fun b => b = R) w w') (hr : RdUp w' R P') (hP : P' ≤ P + m * 10000 + 10000) : KeepB (fun b => b = R) w w' ∧ RI w0 R P (m + 1) w' := ⟨hk, h.1.trans hk, hr.more (by omega)⟩
theorem RI.size {w0 w : World} {R P m : Nat} (h : RI w0 R P m w) : w0.heap.size ≤ w.heap.size := h.1.size

theorem num_blk (R P g : Nat) (xs : List Int) (w : World) (T : TypeId) (hk : 0 < xs.length) (hk2 : xs.length ≤ 1000) (hP : P < 1125899906842624) (hg : w.heap[g]? = some (.cells (xs.map (Value.int .i64)).toArray T (0, 0))) (hgR : g ≠ R) (hr : RdUp w R P) :
    Calls Tryz.prog 85 #[.pointer (some ⟨R, 0, none⟩), .slice (some ⟨g, 0, none⟩) xs.length xs.length] w (NumUp R P xs w) := by
  have hb : Blk w g T (xs.map (Value.int .i64)).toArray := hg
  refine (num_up R P g 0 xs.length xs.length xs _ rfl hk (by omega) hP hgR hb.lt (fun i h => ?_) hr).mono fun e w' ⟨x, h1, h2, h3, h4⟩ => ⟨x, h1, h2, h3, h4⟩
  rw [Nat.zero_add, hb.cell]
  simp [h]

theorem edCells_set : ∀ (es : List Ed) (k : Nat) (x : Ed), edCells (es.set k x) = (((edCells es).set (k * 3) (.int .i64 x.f)).set (k * 3 + 1) (.int .i64 x.l)).set (k * 3 + 2) (.int .i64 x.t)
  | [], k, x => rfl
  | e :: es, 0, x => rfl
  | e :: es, k + 1, x => by
    have := edCells_set es k x
    rw [show (k + 1) * 3 = k * 3 + 1 + 1 + 1 from by omega]
    simp only [List.set_cons_succ, edCells]
    rw [this]
theorem set_same {α : Type} {l : List α} {i : Nat} {x : α} (h : l[i]? = some x) : l.set i x = l := by
  apply List.ext_getElem?
  intro j
  rw [List.getElem?_set]
  split
  · rename_i e
    subst e
    split
    · exact h.symm
    · rename_i h'
      rw [List.getElem?_eq_none (by omega)] at h
      cases h
  · rfl

theorem edCells_set0 {es : List Ed} {k : Nat} (hk : k < es.length) (x : Int) : (edCells es).set (k * 3) (.int .i64 x) = edCells (es.set k ⟨x, (es[k]'hk).l, (es[k]'hk).t⟩) := by
  obtain ⟨h0, h1, h2⟩ := edCells_at es k hk
  rw [edCells_set]
  have g1 : ((edCells es).set (k * 3) (.int .i64 x))[k * 3 + 1]? = some (.int .i64 (es[k]'hk).l) := by rw [List.getElem?_set_ne (by omega)]; exact h1
  have g2 : ((edCells es).set (k * 3) (.int .i64 x))[k * 3 + 2]? = some (.int .i64 (es[k]'hk).t) := by rw [List.getElem?_set_ne (by omega)]; exact h2
  rw [set_same g1, set_same g2]
theorem edCells_set1 {es : List Ed} {k : Nat} (hk : k < es.length) (x : Int) : (edCells es).set (k * 3 + 1) (.int .i64 x) = edCells (es.set k ⟨(es[k]'hk).f, x, (es[k]'hk).t⟩) := by
  obtain ⟨h0, h1, h2⟩ := edCells_at es k hk
  rw [edCells_set]
  have g2 : ((edCells es).set (k * 3 + 1) (.int .i64 x))[k * 3 + 2]? = some (.int .i64 (es[k]'hk).t) := by rw [List.getElem?_set_ne (by omega)]; exact h2
  rw [set_same h0, set_same g2]
theorem edCells_set2 {es : List Ed} {k : Nat} (hk : k < es.length) (x : Int) : (edCells es).set (k * 3 + 2) (.int .i64 x) = edCells (es.set k ⟨(es[k]'hk).f, (es[k]'hk).l, x⟩) := by
  obtain ⟨h0, h1, h2⟩ := edCells_at es k hk
  rw [edCells_set]
  rw [set_same h0, set_same h1]

/-- A copy of a system that the call may write. -/
structure OutSt (w wr : World) (R P B gs : Nat) (al st : Int) (v : Value) (es : List Ed) (L : Nat) : Prop where
  blk : Blk wr gs 25 #[.int .i64 al, .int .i64 st, v]
  own : OwnEds wr B v es
  len : es.length ≤ L
  rd : RdUp wr R P
  keep : KeepB (fun b => b = R) w wr
  hB : w.heap.size ≤ B
  hgs : B ≤ gs
theorem OutSt.ne {w wr : World} {R P B gs : Nat} {al st : Int} {v : Value} {es : List Ed} {L : Nat} (h : OutSt w wr R P B gs al st v es L) : v.ownBlock ≠ some gs := fun e => own_ne h.own h.blk (by decide) gs e rfl
theorem OutSt.call {w wr w1 : World} {R P P' B gs : Nat} {al st : Int} {v : Value} {es : List Ed} {L : Nat} (h : OutSt w wr R P B gs al st v es L) (hk : KeepB (fun b => b = R) wr w1) (hr : RdUp w1 R P') (hR : R < w.heap.size) : OutSt w w1 R P' B gs al st v es L :=
  ⟨h.blk.keep hk (by have := h.hB; have := h.hgs; omega), own_keep h.own hk (fun g hg => by have := (h.own.lt g hg).1; have := h.hB; omega), h.len, hr, h.keep.trans hk, h.hB, h.hgs⟩
theorem OutSt.later {w wr w1 : World} {R P B gs : Nat} {al st : Int} {v : Value} {es : List Ed} {L : Nat} (h : OutSt w wr R P B gs al st v es L) (hb : Below wr.heap.size wr w1) (hR : R < w.heap.size) : OutSt w w1 R P B gs al st v es L := h.call (KeepB.of_below hb) (h.rd.later hb) hR
theorem OutSt.set0 {w wr : World} {R P B gs : Nat} {al st : Int} {v : Value} {es : List Ed} {L : Nat} (h : OutSt w wr R P B gs al st v es L) (hR : R < w.heap.size) (x : Int) : OutSt w (wr.setCell ⟨gs, 0, none⟩ (.int .i64 x)) R P B gs x st v es L := by
  have hk : KeepB (fun b => b = gs) wr (wr.setCell ⟨gs, 0, none⟩ (.int .i64 x)) := (KeepB.refl _ wr).setCell _ _ (by simp)
  have h1 := h.hB
  have h2 := h.hgs
  exact ⟨by simpa using h.blk.set_ 0 (.int .i64 x), ownsRow_setCell_other h.own h.ne _, h.len, h.rd.keep hk (by omega), h.keep.setCell _ _ (fun hlt => by simp at hlt; omega), h1, h2⟩
theorem OutSt.set1 {w wr : World} {R P B gs : Nat} {al st : Int} {v : Value} {es : List Ed} {L : Nat} (h : OutSt w wr R P B gs al st v es L) (hR : R < w.heap.size) (x : Int) : OutSt w (wr.setCell ⟨gs, 1, none⟩ (.int .i64 x)) R P B gs al x v es L := by
  have hk : KeepB (fun b => b = gs) wr (wr.setCell ⟨gs, 1, none⟩ (.int .i64 x)) := (KeepB.refl _ wr).setCell _ _ (by simp)
  have h1 := h.hB
  have h2 := h.hgs
  exact ⟨by simpa using h.blk.set_ 1 (.int .i64 x), ownsRow_setCell_other h.own h.ne _, h.len, h.rd.keep hk (by omega), h.keep.setCell _ _ (fun hlt => by simp at hlt; omega), h1, h2⟩
theorem OutSt.edit {w wr : World} {R P B gs g c : Nat} {al st : Int} {es : List Ed} {L : Nat} (h : OutSt w wr R P B gs al st (.slice (some ⟨g, 0, none⟩) es.length c) es L) (hR : R < w.heap.size) (k j : Nat) (y : Ed) (x : Int) (hk : k < es.length)
    (hj : (edCells es).set j (.int .i64 x) = edCells (es.set k y)) : OutSt w (wr.setCell ⟨g, j, none⟩ (.int .i64 x)) R P B gs al st (.slice (some ⟨g, 0, none⟩) es.length c) (es.set k y) L := by
  have hs := World.ownsRow.stored h.own j (.int .i64 x)
  have h1 := h.hB
  have h2 := h.hgs
  have hg := h.own.lt g rfl
  have hne : gs ≠ g := fun e => h.ne (by rw [e]; rfl)
  have hkk : KeepB (fun b => b = g) wr (wr.setCell ⟨g, j, none⟩ (.int .i64 x)) := (KeepB.refl _ wr).setCell _ _ (by simp)
  refine ⟨h.blk.keep hkk (by omega), ?_, by simpa using h.len, h.rd.keep hkk (by omega), h.keep.setCell _ _ (fun hlt => by simp at hlt; omega), h1, h2⟩
  unfold OwnEds
  rw [List.length_set, ← hj]
  exact hs.1
theorem OutSt.add {w wr w1 : World} {R P B gs : Nat} {al st : Int} {v v' : Value} {es : List Ed} {L : Nat} {x : Ed} (h : OutSt w wr R P B gs al st v es L) (hR : R < w.heap.size)
    (hown : w1.ownsRow B 50 3 v' (es.length + 1) (edCells es ++ [.int .i64 x.f, .int .i64 x.l, .int .i64 x.t])) (hg : wr.grownBy w1 v.ownBlock) (hat : v'.ownBlock = v.ownBlock ∨ v'.ownBlock = some wr.heap.size) :
    OutSt w (w1.setCell ⟨gs, 2, none⟩ v') R P B gs al st v' (es ++ [x]) (L + 1) := by
  have h1 := h.hB
  have h2 := h.hgs
  have hv : ∀ k, v.ownBlock = some k → B ≤ k ∧ k ≠ gs := fun k hk => ⟨(h.own.lt k hk).1, fun e => h.ne (by rw [hk, e])⟩
  have k1 : KeepB (fun b => v.ownBlock = some b) wr w1 := (KeepB.refl _ wr).grown hg (fun k hk _ => hk)
  have hb := h.blk.lt
  have hne' : v'.ownBlock ≠ some gs := fun e => by
    rcases hat with h3 | h3
    · exact h.ne (by rw [← h3, e])
    · rw [h3] at e; injection e with e; omega
  have k2 : KeepB (fun b => v.ownBlock = some b ∨ b = gs) wr (w1.setCell ⟨gs, 2, none⟩ v') := (k1.mono fun _ h => .inl h).setCell _ _ fun _ => .inr rfl
  refine ⟨?_, ?_, by have := h.len; simp; omega, h.rd.keep k2 ?_, (h.keep.grown hg (fun k hk hlt => by have := (hv k hk).1; omega)).setCell _ _ (fun hlt => by simp at hlt; omega), h1, h2⟩
  · have := (h.blk.keep k1 (fun hk => (hv _ hk).2 rfl)).set_ 2 v'
    simpa using this
  · have e : (es ++ [x]).length = es.length + 1 := by simp
    unfold OwnEds
    rw [e, edCells_append]
    exact ownsRow_setCell_other hown hne' _
  · rintro k (hk | rfl)
    · have := (hv k hk).1; omega
    · omega
theorem OutSt.fin {w wr : World} {R P B gs ρ L : Nat} {al st : Int} {A : Option Addr} {c : Nat} {es : List Ed} (h : OutSt w wr R P B gs al st (.slice A es.length c) es L) (hR : R < w.heap.size) (hρ : w.heap.size ≤ ρ) (hρB : ρ < B) (v1 v2 v3 : Value) :
    SyUp R P L w (.returned (.agg #[.int .i64 al, .int .i64 st, .slice A es.length c])) (((wr.setCell ⟨ρ, 0, none⟩ v1).setCell ⟨ρ, 1, none⟩ v2).setCell ⟨ρ, 2, none⟩ v3) := by
  obtain ⟨A', c', hv, h1, h2, h3, h4⟩ := h.own.read
  cases hv
  have hk : KeepB (fun b => b = ρ) wr (((wr.setCell ⟨ρ, 0, none⟩ v1).setCell ⟨ρ, 1, none⟩ v2).setCell ⟨ρ, 2, none⟩ v3) := (((KeepB.refl _ wr).setCell _ _ (by simp)).setCell _ _ (by simp)).setCell _ _ (by simp)
  have hne : ∀ b o, A = some ⟨b, o, none⟩ → 0 < es.length → b ≠ ρ := fun b o hA _ => by have := h4 b o hA; omega
  refine ⟨⟨al, st, es⟩, A, c, rfl, h1, h2, h.len, ?_, fun b o hA => by have := h4 b o hA; omega, h.rd.keep hk (by omega), ?_⟩
  · simpa [World.setCell] using ((h3.stored v1 hne).stored v2 hne).stored v3 hne
  · exact ((h.keep.setCell _ _ (by simp; omega)).setCell _ _ (by simp; omega)).setCell _ _ (by simp; omega)

theorem OutSt.fin' {w wr : World} {R P B gs ρ L n : Nat} {al st : Int} {A : Option Addr} {c : Nat} {es : List Ed} (hn : es.length = n) (h : OutSt w wr R P B gs al st (.slice A n c) es L) (hR : R < w.heap.size) (hρ : w.heap.size ≤ ρ) (hρB : ρ < B) (v1 v2 v3 : Value) :
    SyUp R P L w (.returned (.agg #[.int .i64 al, .int .i64 st, .slice A n c])) (((wr.setCell ⟨ρ, 0, none⟩ v1).setCell ⟨ρ, 1, none⟩ v2).setCell ⟨ρ, 2, none⟩ v3) := by
  subst hn
  exact h.fin hR hρ hρB v1 v2 v3
theorem OutSt.up {w w0 wr : World} {R P P' B gs : Nat} {al st : Int} {v : Value} {es : List Ed} {L L' : Nat} (h : OutSt w0 wr R P B gs al st v es L) (hb : Below w.heap.size w w0) (hP : P ≤ P') (hL : L ≤ L') : OutSt w wr R P' B gs al st v es L' :=
  ⟨h.blk, h.own, by have := h.len; omega, h.rd.more hP, (KeepB.of_below hb).trans h.keep, Nat.le_trans hb.size h.hB, h.hgs⟩
theorem EdsAt.news {w : World} {B : Nat} {A : Option Addr} {es : List Ed} (h : EdsAt w B A es) (hn : 0 < es.length) : ∃ a, A = some a ∧ ∀ (j : Nat) u, (edCells es)[j]? = some u → w.cell? (a.add j) = some u := by
  obtain ⟨b, o, hA, -, hE⟩ := h hn
  refine ⟨_, hA, fun j u hj => ?_⟩
  have hjl : j < es.length * 3 := by
    rw [← edCells_len]
    rcases Nat.lt_or_ge j (edCells es).length with h | h
    · exact h
    · rw [List.getElem?_eq_none h] at hj; cases hj
  have hadd : (⟨b, o, none⟩ : Addr).add j = ⟨b, o + j, none⟩ := by unfold Addr.add; split <;> simp_all
  rw [hadd]
  have hi : j / 3 < es.length := by omega
  obtain ⟨c0, c1, c2⟩ := hE (j / 3) hi
  obtain ⟨d0, d1, d2⟩ := edCells_at es (j / 3) hi
  rcases (by omega : j = j / 3 * 3 ∨ j = j / 3 * 3 + 1 ∨ j = j / 3 * 3 + 2) with e | e | e
  · rw [← e] at d0; rw [hj] at d0; rw [← c0] at d0; rw [show o + j = o + j / 3 * 3 from by omega]; exact d0.symm
  · rw [← e] at d1; rw [hj] at d1; rw [← c1] at d1; rw [show o + j = o + j / 3 * 3 + 1 from by omega]; exact d1.symm
  · rw [← e] at d2; rw [hj] at d2; rw [← c2] at d2; rw [show o + j = o + j / 3 * 3 + 2 from by omega]; exact d2.symm
theorem edCells_one : ∀ (es : List Ed) (u : Value), u ∈ edCells es → u.oneCell' = true
  | [], u, h => by cases h
  | e :: es, u, h => by
    simp only [edCells, List.mem_cons] at h
    rcases h with rfl | rfl | rfl | h
    · rfl
    · rfl
    · rfl
    · exact edCells_one es u h

set_option maxRecDepth 100000 in
set_option maxHeartbeats 8000000 in
theorem l2Wrong_up (R P L : Nat) (s : Sy) (A : Option Addr) (c : Nat) (w : World) (hP : P + 3000000 ≤ 1125899906842624) (hl : s.es.length ≤ c) (hc : c ≤ 9223372036854775807) (hL : s.es.length ≤ L) (hL2 : L ≤ 100000)
    (hs : EdsAt w w.heap.size A s.es) (hr : RdUp w R P) :
    Calls Tryz.prog 38 #[.pointer (some ⟨R, 0, none⟩), s.val A c] w (SyUp R (P + 400000) (L + 1) w) := by
  obtain ⟨i0, hi, hz0, hz1, hz2⟩ := info_parts infoEd
  have hR := hr.lt
  unfold Sy.val
  have hres := (Blk.new (w.alloc (.cells #[.int .i64 s.al, .int .i64 s.st, .slice A s.es.length c] 25)) 25 #[.int .i64 0, .int .i64 0, .slice none 0 0])
  have hpar := (Blk.new w 25 #[.int .i64 s.al, .int .i64 s.st, .slice A s.es.length c]).alloc (.cells #[.int .i64 0, .int .i64 0, .slice none 0 0] 25)
  have hb0 : Below w.heap.size w ((w.alloc (.cells #[.int .i64 s.al, .int .i64 s.st, .slice A s.es.length c] 25)).alloc (.cells #[.int .i64 0, .int .i64 0, .slice none 0 0] 25)) := ((Below.refl _ _).alloc (Nat.le_refl _) _).alloc (by simp) _
  have hsz0 : ((w.alloc (.cells #[.int .i64 s.al, .int .i64 s.st, .slice A s.es.length c] 25)).alloc (.cells #[.int .i64 0, .int .i64 0, .slice none 0 0] 25)).heap.size = w.heap.size + 2 := by simp
  simp only [World.size_alloc] at hres
  generalize hw0 : (w.alloc (.cells #[.int .i64 s.al, .int .i64 s.st, .slice A s.es.length c] 25)).alloc (.cells #[.int .i64 0, .int .i64 0, .slice none 0 0] 25) = w0 at hres hb0 hsz0 hpar
  have p0 := hpar.cell 0
  have p1 := hpar.cell 1
  have p2 := hpar.cell 2
  simp only [List.getElem?_toArray, List.getElem?_cons_zero, List.getElem?_cons_succ] at p0 p1 p2
  have q0 := GK.BI.cell p0
  have q1 := GK.BI.cell p1
  have q2 := GK.BI.cell p2
  have hr0 := hid (hr.later hb0)
  have hs0 := hid (hs.later hb0)
  replace hr := hid hr
  replace hs := hid hs
  replace hres := hid hres
  replace hsz0 := hid hsz0
  clear p0 p1 p2 hpar
  go_enter Tryz.func38, Tryz.ntmps38
  go_wp2_with fail
  refine GK.wp_region 10 [10] 200 (KeepB fun _ => False) (GK.BI w0) (fun _ _ _ => True) (by kernel_rfl) (by kernel_rfl) (GK.BI.way w0) (by decide) (Below.refl _ _).drew ?_
  simp only [List.take_succ_cons, List.take_zero]
  (repeat (refine GK.grow_quiet w0 (by rfl) (by rfl) ?_; intro K hK; go_big_quiet_op; go_big_quiet_on))
  refine GK.grow_new (K := fun _ => False) (by rfl) _ (fun b => .slice (some ⟨b, 0, none⟩) 0 0) 50 #[] (fun _ => by go_simp) rfl (fun _ _ o h => GK.BI.alloc o h) (fun _ _ h => GK.BI.size h) (fun _ h => h.elim) (fun b hb => ?_)
  simp only [Act.put, List.setIfInBounds_toArray, List.set_cons_zero, List.set_cons_succ]
  (repeat (refine GK.grow_quiet w0 (by rfl) (by rfl) ?_; intro K hK; go_big_quiet_op; go_big_quiet_on))
  refine GK.grow_copy (by rfl) _ _ 23 (by rfl) 50 i0 (.agg #[.int .i64 0, .int .i64 0, .int .i64 0]) 3 24 Tryz.underlying23 hi hz0 hz1 hz2 rfl b (by rfl) (fun w hf => ?_) A s.es.length c (edCells s.es) (by rfl) (edCells_len _) (fun hn => EdsAt.news hs0.out hn) (edCells_one _) (by unfold maxLen; omega) (by omega) fun v hv => ?_
  · obtain ⟨b', e1, e2, e3⟩ := hf _ List.mem_cons_self (by kernel_rfl)
    cases e1
    exact ⟨e2, e3⟩
  obtain ⟨Av, cv, hve, -, -⟩ : ∃ Av cv, v = .slice Av s.es.length cv ∧ s.es.length ≤ cv ∧ cv ≤ 9223372036854775807 := by obtain ⟨_, _, hv⟩ := hv; exact own_slice hv
  subst hve
  clear hv
  simp only [Act.put, List.setIfInBounds_toArray, List.set_cons_zero, List.set_cons_succ]
  (repeat (refine GK.grow_quiet w0 (by rfl) (by rfl) ?_; intro K hK; go_big_quiet_op; go_big_quiet_on))
  refine GK.grow_new (K := fun _ => False) (by rfl) _ (fun b => .pointer (some ⟨b, 0, none⟩)) 25 #[.int .i64 0, .int .i64 0, .slice none 0 0] (fun _ => by go_simp) rfl (fun _ _ o h => GK.BI.alloc o h) (fun _ _ h => GK.BI.size h) (fun _ h => h.elim) (fun gs hgs => ?_)
  simp only [Act.put, List.setIfInBounds_toArray, List.set_cons_zero, List.set_cons_succ]
  refine GK.grow_nil ?_
  intro w1 hw1 hf
  simp only [List.filterMap_cons, List.filterMap_nil, List.getElem?_cons_zero, List.getElem?_cons_succ]
  obtain ⟨gs', e1, -, hblk⟩ := hf _ List.mem_cons_self
  cases e1
  have hown := hf _ (List.mem_cons_of_mem _ List.mem_cons_self)
  replace hw1 : Below w0.heap.size w0 w1 := hw1
  clear hf q0 q1 q2 hw0
  have hblk' : Blk w1 gs 25 #[.int .i64 0, .int .i64 0, .slice none 0 0] := hblk
  have hgl := hblk'.lt
  have c0 := hblk'.cell 0
  have c1 := hblk'.cell 1
  have c2 := hblk'.cell 2
  have f0 := hblk'.frozen 0
  have f1 := hblk'.frozen 1
  have f2 := hblk'.frozen 2
  simp only [List.getElem?_toArray, List.getElem?_cons_zero, List.getElem?_cons_succ] at c0 c1 c2
  have hneO : (Value.slice Av s.es.length cv).ownBlock ≠ some gs := fun e => own_ne hown hblk' (by decide) gs e rfl
  have hO : OutSt w0 (((w1.setCell ⟨gs, 0, none⟩ (.int .i64 s.al)).setCell ⟨gs, 1, none⟩ (.int .i64 s.st)).setCell ⟨gs, 2, none⟩ (.slice Av s.es.length cv)) R P w0.heap.size gs s.al s.st (.slice Av s.es.length cv) s.es L := by
    have hsz := hsz0.out
    have hkk : KeepB (fun b => b = gs) w1 (((w1.setCell ⟨gs, 0, none⟩ (.int .i64 s.al)).setCell ⟨gs, 1, none⟩ (.int .i64 s.st)).setCell ⟨gs, 2, none⟩ (.slice Av s.es.length cv)) := (((KeepB.refl _ w1).setCell _ _ (by simp)).setCell _ _ (by simp)).setCell _ _ (by simp)
    refine ⟨by simpa using ((hblk'.set_ 0 (.int .i64 s.al)).set_ 1 (.int .i64 s.st)).set_ 2 (.slice Av s.es.length cv), ownsRow_setCell_other (ownsRow_setCell_other (ownsRow_setCell_other hown hneO _) hneO _) hneO _, hL, (hr0.out.later hw1).keep hkk (by omega), ?_, Nat.le_refl _, hgs⟩
    exact (((KeepB.of_below hw1).setCell _ _ (by simp; omega)).setCell _ _ (by simp; omega)).setCell _ _ (by simp; omega)
  have hO' : ∃ w2, ((w1.setCell ⟨gs, 0, none⟩ (.int .i64 s.al)).setCell ⟨gs, 1, none⟩ (.int .i64 s.st)).setCell ⟨gs, 2, none⟩ (.slice Av s.es.length cv) = w2 := ⟨_, rfl⟩
  obtain ⟨w2, hw2⟩ := hO'
  rw [hw2] at hO
  replace hO := hid hO
  have hcopy := hid hblk'
  clear hblk hblk' hown hneO c0 c1 c2 f0 f1 f2
  have c0 := hO.out.blk.cell 0
  have c1 := hO.out.blk.cell 1
  have c2 := hO.out.blk.cell 2
  simp only [List.getElem?_toArray, List.getElem?_cons_zero, List.getElem?_cons_succ] at c0 c1 c2
  have hf0 := hcopy.out.frozen 0
  have hf1 := hcopy.out.frozen 1
  have hf2 := hcopy.out.frozen 2
  have hm0 := hcopy.out.cell 0
  have hm1 := hcopy.out.cell 1
  have hm2 := hcopy.out.cell 2
  simp only [List.getElem?_toArray, List.getElem?_cons_zero, List.getElem?_cons_succ] at hm0 hm1 hm2
  go_wp2_with fail
  refine (pick_up R P s.es.length w2 (by omega) (by omega) hO.out.rd).mono ?_
  rintro e w3 ⟨k, rfl, hk0, hk1, hr3, hk3⟩
  have hR0 : Hid (R < w0.heap.size) := hid (by have := hsz0.out; omega)
  have hO3 := hid (hO.out.call hk3 hr3 hR0.out)
  clear hr3 hk3 hw2 hO c0 c1 c2 hf0 hf1 hf2 hm0 hm1 hm2 hcopy
  go_wp2_with fail
  refine (pick_up R (P + 1) 30 w3 (by omega) (by omega) hO3.out.rd).mono ?_
  rintro e w4 ⟨j, rfl, hj0, hj1, hr4, hk4⟩
  have hO4 := hid (hO3.out.call hk4 hr4 hR0.out)
  clear hr4 hk4 hO3 hj0 hj1
  obtain ⟨kn, rfl⟩ := Int.eq_ofNat_of_zero_le hk0
  have hkn : 0 < s.es.length → kn < s.es.length := fun h => by omega
  replace hkn := hid hkn
  clear hk0 hk1
  have c0 := hO4.out.blk.cell 0
  have c1 := hO4.out.blk.cell 1
  have c2 := hO4.out.blk.cell 2
  have g0 := hO4.out.blk.frozen 0
  have g1 := hO4.out.blk.frozen 1
  have g2 := hO4.out.blk.frozen 2
  have hgl4 := hO4.out.blk.lt
  simp only [List.getElem?_toArray, List.getElem?_cons_zero, List.getElem?_cons_succ] at c0 c1 c2
  by_cases hj0 : j = 0
  · subst hj0
    go_wp2_with fail
    refine (num_lit R (P + 2) [64, (-1), 1, 63] w4 _ (by decide) (by decide) (by omega) hO4.out.rd).mono ?_
    rintro e w5 ⟨x, hx, rfl, hr5, hk5⟩
    clear hx
    have hO5 := hid (hO4.out.call hk5 hr5 hR0.out)
    clear hr5 hk5 c0 c1 c2 g0 g1 g2
    have c0 := hO5.out.blk.cell 0
    have g0 := hO5.out.blk.frozen 0
    simp only [List.getElem?_toArray, List.getElem?_cons_zero, List.getElem?_cons_succ] at c0
    obtain ⟨w6, hw6⟩ : ∃ w6, w5.setCell ⟨gs, 0, none⟩ (.int .i64 x) = w6 := ⟨_, rfl⟩
    have hX := hid (hO5.out.set0 hR0.out x)
    rw [hw6] at hX
    have hgl5 := hO5.out.blk.lt
    have k0 := hX.out.blk.cell 0
    have k1 := hX.out.blk.cell 1
    have k2 := hX.out.blk.cell 2
    have hbl := hid (hres.out.keep hX.out.keep (by have := hsz0.out; omega))
    have d0 := hbl.out.cell 0
    have d1 := hbl.out.cell 1
    have d2 := hbl.out.cell 2
    have y0 := hbl.out.frozen 0
    have y1 := hbl.out.frozen 1
    have y2 := hbl.out.frozen 2
    have hlt := hbl.out.lt
    simp only [List.getElem?_toArray, List.getElem?_cons_zero, List.getElem?_cons_succ] at d0 d1 d2 k0 k1 k2
    have hfin := hid ((hX.out.up hb0 (P' := P + 400000) (L' := L + 1) (by omega) (by omega)).fin hR (ρ := w.heap.size + 1) (by omega) (by have := hsz0.out; omega) (.int .i64 x) (.int .i64 s.st) (.slice Av s.es.length cv))
    go_wp2
    refine bodyPost_ret (v := .agg #[.int .i64 x, .int .i64 s.st, .slice Av s.es.length cv]) (by simp [results, Tryz.results38, go_sem, d0, d1, d2]) rfl ?_
    exact hfin.out
  · have hjb0 : ((j : Int) == 0) = false := by simpa using hj0
    replace hj0 := hid hj0
    by_cases hj1 : j = 1
    · subst hj1
      go_wp2_with fail
      refine (num_lit R (P + 2) [0, 17, (-1), 16, 1] w4 _ (by decide) (by decide) (by omega) hO4.out.rd).mono ?_
      rintro e w5 ⟨x, hx, rfl, hr5, hk5⟩
      clear hx
      have hO5 := hid (hO4.out.call hk5 hr5 hR0.out)
      clear hr5 hk5 c0 c1 c2 g0 g1 g2
      have c0 := hO5.out.blk.cell 1
      have g0 := hO5.out.blk.frozen 1
      simp only [List.getElem?_toArray, List.getElem?_cons_zero, List.getElem?_cons_succ] at c0
      obtain ⟨w6, hw6⟩ : ∃ w6, w5.setCell ⟨gs, 1, none⟩ (.int .i64 x) = w6 := ⟨_, rfl⟩
      have hX := hid (hO5.out.set1 hR0.out x)
      rw [hw6] at hX
      have hgl5 := hO5.out.blk.lt
      have k0 := hX.out.blk.cell 0
      have k1 := hX.out.blk.cell 1
      have k2 := hX.out.blk.cell 2
      have hbl := hid (hres.out.keep hX.out.keep (by have := hsz0.out; omega))
      have d0 := hbl.out.cell 0
      have d1 := hbl.out.cell 1
      have d2 := hbl.out.cell 2
      have y0 := hbl.out.frozen 0
      have y1 := hbl.out.frozen 1
      have y2 := hbl.out.frozen 2
      have hlt := hbl.out.lt
      simp only [List.getElem?_toArray, List.getElem?_cons_zero, List.getElem?_cons_succ] at d0 d1 d2 k0 k1 k2
      have hfin := hid ((hX.out.up hb0 (P' := P + 400000) (L' := L + 1) (by omega) (by omega)).fin hR (ρ := w.heap.size + 1) (by omega) (by have := hsz0.out; omega) (.int .i64 s.al) (.int .i64 x) (.slice Av s.es.length cv))
      go_wp2
      refine bodyPost_ret (v := .agg #[.int .i64 s.al, .int .i64 x, .slice Av s.es.length cv]) (by simp [results, Tryz.results38, go_sem, d0, d1, d2]) rfl ?_
      exact hfin.out
    · have hjb1 : ((j : Int) == 1) = false := by simpa using hj1
      replace hj1 := hid hj1
      by_cases hj2 : j = 2
      · subst hj2
        by_cases hn : s.es.length = 0
        · have hn2 : decide (0 < s.es.length) = false := decide_eq_false (by omega)
          have hX := hO4
          replace hn := hid hn
          have k0 := hX.out.blk.cell 0
          have k1 := hX.out.blk.cell 1
          have k2 := hX.out.blk.cell 2
          have hbl := hid (hres.out.keep hX.out.keep (by have := hsz0.out; omega))
          have d0 := hbl.out.cell 0
          have d1 := hbl.out.cell 1
          have d2 := hbl.out.cell 2
          have y0 := hbl.out.frozen 0
          have y1 := hbl.out.frozen 1
          have y2 := hbl.out.frozen 2
          have hlt := hbl.out.lt
          simp only [List.getElem?_toArray, List.getElem?_cons_zero, List.getElem?_cons_succ] at d0 d1 d2 k0 k1 k2
          have hfin := hid ((hX.out.up hb0 (P' := P + 400000) (L' := L + 1) (by omega) (by omega)).fin hR (ρ := w.heap.size + 1) (by omega) (by have := hsz0.out; omega) (.int .i64 s.al) (.int .i64 s.st) (.slice Av s.es.length cv))
          go_wp2
          refine bodyPost_ret (v := .agg #[.int .i64 s.al, .int .i64 s.st, .slice Av s.es.length cv]) (by simp [results, Tryz.results38, go_sem, d0, d1, d2]) rfl ?_
          exact hfin.out
        · have hkl := hkn.out (by omega)
          obtain ⟨g, cap, hve, hg1, hg2, -, -, -⟩ := own_shape hO4.out.own (by omega)
          cases hve
          have hn2 : (0 : Int) < (s.es.length : Int) := by omega
          have i1 : (0 : Int) ≤ (kn : Int) ∧ (kn : Int) < (s.es.length : Int) := by omega
          have hgsR : gs ≠ R := by have := hO4.out.hgs; have := hR0.out; omega
          have q2 := RI.cell hO4.out.rd c2 hgsR
          replace hn := hid hn
          clear c0 c1 g0 g1 g2
          go_wp2_with fail
          clear c2
          refine GK.wp_region 8 [8] 200 (KeepB fun b => b = R) (RI w4 R (P + 2)) (fun _ u _ => ∃ x : Int, u = .int .i64 x) (by kernel_rfl) (by kernel_rfl) (RI.way w4 R (P + 2)) (by decide) (RI.drew hO4.out.rd) ?_
          simp only [List.take_succ_cons, List.take_zero]
          (repeat (refine GK.grow_quiet w4 (by rfl) (by rfl) ?_; intro K hK; go_big_quiet_op; go_big_quiet_on))
          refine GK.grow_new (K := fun b => b = R) (by rfl) w4.heap.size (fun b => .slice (some ⟨b, 0, none⟩) 4 4) 3 #[.int .i64 (-1), .int .i64 16, .int .i64 0, .int .i64 2] (fun _ => by go_simp) rfl (fun _ _ o h => RI.alloc o h) (fun _ _ h => RI.size h) (fun k hk => by have := hO4.out.rd.lt; omega) (fun b hb => ?_)
          simp only [Act.put, List.setIfInBounds_toArray, List.set_cons_zero, List.set_cons_succ]
          (repeat (refine GK.grow_quiet w4 (by rfl) (by rfl) ?_; intro K hK; go_big_quiet_op; go_big_quiet_on))
          refine GK.grow_call (by rfl) (fun u w w' _ h => h) (fun m wq hm hbq hf => ?_) ?_
          · obtain ⟨b', z1, z2, z3⟩ := hf _ List.mem_cons_self (by kernel_rfl)
            cases z1
            have hlt4 := hO4.out.rd.lt
            go_simp
            exact ⟨rfl, (num_blk R (P + 2 + m * 10000) b [(-1), 16, 0, 2] wq _ (by decide) (by decide) (by omega) z3 (by omega) hbq.2).mono fun e w' ⟨x, _, h2, h3, h4⟩ => ⟨_, h2, RI.call hbq h4 h3 (by omega), x, rfl⟩⟩
          rintro u ⟨_, _, _, x, rfl⟩
          simp only [Act.put, List.setIfInBounds_toArray, List.set_cons_zero, List.set_cons_succ]
          (repeat (refine GK.grow_quiet w4 (by rfl) (by rfl) ?_; intro K hK; go_big_quiet_op; go_big_quiet_on))
          refine GK.grow_nil ?_
          intro w5 hw5 _
          simp only [List.filterMap_cons, List.filterMap_nil, List.getElem?_cons_zero, List.getElem?_cons_succ]
          have hO5 := hid (hO4.out.call hw5.1 hw5.2 hR0.out)
          clear q2
          have hcg := World.ownsRow.cellAt hO5.out.own (kn * 3) (by omega)
          rw [(edCells_at s.es kn hkl).1] at hcg
          have hfg := World.ownsRow.frozenAt hO5.out.own (kn * 3)
          obtain ⟨w6, hw6⟩ : ∃ w6, w5.setCell ⟨g, kn * 3, none⟩ (.int .i64 x) = w6 := ⟨_, rfl⟩
          have hX := hid (hO5.out.edit hR0.out kn (kn * 3) ⟨x, (s.es[kn]'hkl).l, (s.es[kn]'hkl).t⟩ x hkl (edCells_set0 hkl x))
          rw [hw6] at hX
          have hgl5 := hO5.out.blk.lt
          have hsl : (s.es.set kn ⟨x, (s.es[kn]'hkl).l, (s.es[kn]'hkl).t⟩).length = s.es.length := List.length_set
          have k0 := hX.out.blk.cell 0
          have k1 := hX.out.blk.cell 1
          have k2 := hX.out.blk.cell 2
          have hbl := hid (hres.out.keep hX.out.keep (by have := hsz0.out; omega))
          have d0 := hbl.out.cell 0
          have d1 := hbl.out.cell 1
          have d2 := hbl.out.cell 2
          have y0 := hbl.out.frozen 0
          have y1 := hbl.out.frozen 1
          have y2 := hbl.out.frozen 2
          have hlt := hbl.out.lt
          simp only [List.getElem?_toArray, List.getElem?_cons_zero, List.getElem?_cons_succ] at d0 d1 d2 k0 k1 k2
          have hfin := hid (OutSt.fin' hsl (hX.out.up hb0 (P' := P + 400000) (L' := L + 1) (by omega) (by omega)) hR (ρ := w.heap.size + 1) (by omega) (by have := hsz0.out; omega) (.int .i64 s.al) (.int .i64 s.st) (.slice (some ⟨g, 0, none⟩) s.es.length cv))
          go_wp2
          refine bodyPost_ret (v := .agg #[.int .i64 s.al, .int .i64 s.st, .slice (some ⟨g, 0, none⟩) s.es.length cv]) (by simp [results, Tryz.results38, go_sem, d0, d1, d2]) rfl ?_
          exact hfin.out
      · have hjb2 : ((j : Int) == 2) = false := by simpa using hj2
        replace hj2 := hid hj2
        by_cases hj3 : j = 3
        · subst hj3
          by_cases hn : s.es.length = 0
          · have hn2 : decide (0 < s.es.length) = false := decide_eq_false (by omega)
            have hX := hO4
            replace hn := hid hn
            have k0 := hX.out.blk.cell 0
            have k1 := hX.out.blk.cell 1
            have k2 := hX.out.blk.cell 2
            have hbl := hid (hres.out.keep hX.out.keep (by have := hsz0.out; omega))
            have d0 := hbl.out.cell 0
            have d1 := hbl.out.cell 1
            have d2 := hbl.out.cell 2
            have y0 := hbl.out.frozen 0
            have y1 := hbl.out.frozen 1
            have y2 := hbl.out.frozen 2
            have hlt := hbl.out.lt
            simp only [List.getElem?_toArray, List.getElem?_cons_zero, List.getElem?_cons_succ] at d0 d1 d2 k0 k1 k2
            have hfin := hid ((hX.out.up hb0 (P' := P + 400000) (L' := L + 1) (by omega) (by omega)).fin hR (ρ := w.heap.size + 1) (by omega) (by have := hsz0.out; omega) (.int .i64 s.al) (.int .i64 s.st) (.slice Av s.es.length cv))
            go_wp2
            refine bodyPost_ret (v := .agg #[.int .i64 s.al, .int .i64 s.st, .slice Av s.es.length cv]) (by simp [results, Tryz.results38, go_sem, d0, d1, d2]) rfl ?_
            exact hfin.out
          · have hkl := hkn.out (by omega)
            obtain ⟨g, cap, hve, hg1, hg2, -, -, -⟩ := own_shape hO4.out.own (by omega)
            cases hve
            have hn2 : (0 : Int) < (s.es.length : Int) := by omega
            have i1 : (0 : Int) ≤ (kn : Int) ∧ (kn : Int) < (s.es.length : Int) := by omega
            have hgsR : gs ≠ R := by have := hO4.out.hgs; have := hR0.out; omega
            have q2 := RI.cell hO4.out.rd c2 hgsR
            replace hn := hid hn
            clear c0 c1 g0 g1 g2
            go_wp2_with fail
            clear c2
            refine GK.wp_region 8 [8] 200 (KeepB fun b => b = R) (RI w4 R (P + 2)) (fun _ u _ => ∃ x : Int, u = .int .i64 x) (by kernel_rfl) (by kernel_rfl) (RI.way w4 R (P + 2)) (by decide) (RI.drew hO4.out.rd) ?_
            simp only [List.take_succ_cons, List.take_zero]
            (repeat (refine GK.grow_quiet w4 (by rfl) (by rfl) ?_; intro K hK; go_big_quiet_op; go_big_quiet_on))
            refine GK.grow_new (K := fun b => b = R) (by rfl) w4.heap.size (fun b => .slice (some ⟨b, 0, none⟩) 4 4) 3 #[.int .i64 (-1), .int .i64 16, .int .i64 0, .int .i64 3] (fun _ => by go_simp) rfl (fun _ _ o h => RI.alloc o h) (fun _ _ h => RI.size h) (fun k hk => by have := hO4.out.rd.lt; omega) (fun b hb => ?_)
            simp only [Act.put, List.setIfInBounds_toArray, List.set_cons_zero, List.set_cons_succ]
            (repeat (refine GK.grow_quiet w4 (by rfl) (by rfl) ?_; intro K hK; go_big_quiet_op; go_big_quiet_on))
            refine GK.grow_call (by rfl) (fun u w w' _ h => h) (fun m wq hm hbq hf => ?_) ?_
            · obtain ⟨b', z1, z2, z3⟩ := hf _ List.mem_cons_self (by kernel_rfl)
              cases z1
              have hlt4 := hO4.out.rd.lt
              go_simp
              exact ⟨rfl, (num_blk R (P + 2 + m * 10000) b [(-1), 16, 0, 3] wq _ (by decide) (by decide) (by omega) z3 (by omega) hbq.2).mono fun e w' ⟨x, _, h2, h3, h4⟩ => ⟨_, h2, RI.call hbq h4 h3 (by omega), x, rfl⟩⟩
            rintro u ⟨_, _, _, x, rfl⟩
            simp only [Act.put, List.setIfInBounds_toArray, List.set_cons_zero, List.set_cons_succ]
            (repeat (refine GK.grow_quiet w4 (by rfl) (by rfl) ?_; intro K hK; go_big_quiet_op; go_big_quiet_on))
            refine GK.grow_nil ?_
            intro w5 hw5 _
            simp only [List.filterMap_cons, List.filterMap_nil, List.getElem?_cons_zero, List.getElem?_cons_succ]
            have hO5 := hid (hO4.out.call hw5.1 hw5.2 hR0.out)
            clear q2
            have hcg := World.ownsRow.cellAt hO5.out.own (kn * 3 + 2) (by omega)
            rw [(edCells_at s.es kn hkl).2.2] at hcg
            have hfg := World.ownsRow.frozenAt hO5.out.own (kn * 3 + 2)
            obtain ⟨w6, hw6⟩ : ∃ w6, w5.setCell ⟨g, kn * 3 + 2, none⟩ (.int .i64 x) = w6 := ⟨_, rfl⟩
            have hX := hid (hO5.out.edit hR0.out kn (kn * 3 + 2) ⟨(s.es[kn]'hkl).f, (s.es[kn]'hkl).l, x⟩ x hkl (edCells_set2 hkl x))
            rw [hw6] at hX
            have hgl5 := hO5.out.blk.lt
            have hsl : (s.es.set kn ⟨(s.es[kn]'hkl).f, (s.es[kn]'hkl).l, x⟩).length = s.es.length := List.length_set
            have k0 := hX.out.blk.cell 0
            have k1 := hX.out.blk.cell 1
            have k2 := hX.out.blk.cell 2
            have hbl := hid (hres.out.keep hX.out.keep (by have := hsz0.out; omega))
            have d0 := hbl.out.cell 0
            have d1 := hbl.out.cell 1
            have d2 := hbl.out.cell 2
            have y0 := hbl.out.frozen 0
            have y1 := hbl.out.frozen 1
            have y2 := hbl.out.frozen 2
            have hlt := hbl.out.lt
            simp only [List.getElem?_toArray, List.getElem?_cons_zero, List.getElem?_cons_succ] at d0 d1 d2 k0 k1 k2
            have hfin := hid (OutSt.fin' hsl (hX.out.up hb0 (P' := P + 400000) (L' := L + 1) (by omega) (by omega)) hR (ρ := w.heap.size + 1) (by omega) (by have := hsz0.out; omega) (.int .i64 s.al) (.int .i64 s.st) (.slice (some ⟨g, 0, none⟩) s.es.length cv))
            go_wp2
            refine bodyPost_ret (v := .agg #[.int .i64 s.al, .int .i64 s.st, .slice (some ⟨g, 0, none⟩) s.es.length cv]) (by simp [results, Tryz.results38, go_sem, d0, d1, d2]) rfl ?_
            exact hfin.out
        · have hjb3 : ((j : Int) == 3) = false := by simpa using hj3
          replace hj3 := hid hj3
          by_cases hj4 : j = 4
          · subst hj4
            by_cases hn : s.es.length = 0
            · have hn2 : decide (0 < s.es.length) = false := decide_eq_false (by omega)
              have hX := hO4
              replace hn := hid hn
              have k0 := hX.out.blk.cell 0
              have k1 := hX.out.blk.cell 1
              have k2 := hX.out.blk.cell 2
              have hbl := hid (hres.out.keep hX.out.keep (by have := hsz0.out; omega))
              have d0 := hbl.out.cell 0
              have d1 := hbl.out.cell 1
              have d2 := hbl.out.cell 2
              have y0 := hbl.out.frozen 0
              have y1 := hbl.out.frozen 1
              have y2 := hbl.out.frozen 2
              have hlt := hbl.out.lt
              simp only [List.getElem?_toArray, List.getElem?_cons_zero, List.getElem?_cons_succ] at d0 d1 d2 k0 k1 k2
              have hfin := hid ((hX.out.up hb0 (P' := P + 400000) (L' := L + 1) (by omega) (by omega)).fin hR (ρ := w.heap.size + 1) (by omega) (by have := hsz0.out; omega) (.int .i64 s.al) (.int .i64 s.st) (.slice Av s.es.length cv))
              go_wp2
              refine bodyPost_ret (v := .agg #[.int .i64 s.al, .int .i64 s.st, .slice Av s.es.length cv]) (by simp [results, Tryz.results38, go_sem, d0, d1, d2]) rfl ?_
              exact hfin.out
            · have hkl := hkn.out (by omega)
              obtain ⟨g, cap, hve, hg1, hg2, -, -, -⟩ := own_shape hO4.out.own (by omega)
              cases hve
              have hn2 : (0 : Int) < (s.es.length : Int) := by omega
              have i1 : (0 : Int) ≤ (kn : Int) ∧ (kn : Int) < (s.es.length : Int) := by omega
              have hgsR : gs ≠ R := by have := hO4.out.hgs; have := hR0.out; omega
              have q2 := RI.cell hO4.out.rd c2 hgsR
              replace hn := hid hn
              clear c0 c1 g0 g1 g2
              go_wp2_with fail
              clear c2
              refine GK.wp_region 8 [8] 200 (KeepB fun b => b = R) (RI w4 R (P + 2)) (fun _ u _ => ∃ x : Int, u = .int .i64 x) (by kernel_rfl) (by kernel_rfl) (RI.way w4 R (P + 2)) (by decide) (RI.drew hO4.out.rd) ?_
              simp only [List.take_succ_cons, List.take_zero]
              (repeat (refine GK.grow_quiet w4 (by rfl) (by rfl) ?_; intro K hK; go_big_quiet_op; go_big_quiet_on))
              refine GK.grow_new (K := fun b => b = R) (by rfl) w4.heap.size (fun b => .slice (some ⟨b, 0, none⟩) 5 5) 3 #[.int .i64 (-1), .int .i64 6, .int .i64 70, .int .i64 5, .int .i64 0] (fun _ => by go_simp) rfl (fun _ _ o h => RI.alloc o h) (fun _ _ h => RI.size h) (fun k hk => by have := hO4.out.rd.lt; omega) (fun b hb => ?_)
              simp only [Act.put, List.setIfInBounds_toArray, List.set_cons_zero, List.set_cons_succ]
              (repeat (refine GK.grow_quiet w4 (by rfl) (by rfl) ?_; intro K hK; go_big_quiet_op; go_big_quiet_on))
              refine GK.grow_call (by rfl) (fun u w w' _ h => h) (fun m wq hm hbq hf => ?_) ?_
              · obtain ⟨b', z1, z2, z3⟩ := hf _ List.mem_cons_self (by kernel_rfl)
                cases z1
                have hlt4 := hO4.out.rd.lt
                go_simp
                exact ⟨rfl, (num_blk R (P + 2 + m * 10000) b [(-1), 6, 70, 5, 0] wq _ (by decide) (by decide) (by omega) z3 (by omega) hbq.2).mono fun e w' ⟨x, _, h2, h3, h4⟩ => ⟨_, h2, RI.call hbq h4 h3 (by omega), x, rfl⟩⟩
              rintro u ⟨_, _, _, x, rfl⟩
              simp only [Act.put, List.setIfInBounds_toArray, List.set_cons_zero, List.set_cons_succ]
              (repeat (refine GK.grow_quiet w4 (by rfl) (by rfl) ?_; intro K hK; go_big_quiet_op; go_big_quiet_on))
              refine GK.grow_nil ?_
              intro w5 hw5 _
              simp only [List.filterMap_cons, List.filterMap_nil, List.getElem?_cons_zero, List.getElem?_cons_succ]
              have hO5 := hid (hO4.out.call hw5.1 hw5.2 hR0.out)
              clear q2
              have hcg := World.ownsRow.cellAt hO5.out.own (kn * 3 + 1) (by omega)
              rw [(edCells_at s.es kn hkl).2.1] at hcg
              have hfg := World.ownsRow.frozenAt hO5.out.own (kn * 3 + 1)
              obtain ⟨w6, hw6⟩ : ∃ w6, w5.setCell ⟨g, kn * 3 + 1, none⟩ (.int .i64 x) = w6 := ⟨_, rfl⟩
              have hX := hid (hO5.out.edit hR0.out kn (kn * 3 + 1) ⟨(s.es[kn]'hkl).f, x, (s.es[kn]'hkl).t⟩ x hkl (edCells_set1 hkl x))
              rw [hw6] at hX
              have hgl5 := hO5.out.blk.lt
              have hsl : (s.es.set kn ⟨(s.es[kn]'hkl).f, x, (s.es[kn]'hkl).t⟩).length = s.es.length := List.length_set
              have k0 := hX.out.blk.cell 0
              have k1 := hX.out.blk.cell 1
              have k2 := hX.out.blk.cell 2
              have hbl := hid (hres.out.keep hX.out.keep (by have := hsz0.out; omega))
              have d0 := hbl.out.cell 0
              have d1 := hbl.out.cell 1
              have d2 := hbl.out.cell 2
              have y0 := hbl.out.frozen 0
              have y1 := hbl.out.frozen 1
              have y2 := hbl.out.frozen 2
              have hlt := hbl.out.lt
              simp only [List.getElem?_toArray, List.getElem?_cons_zero, List.getElem?_cons_succ] at d0 d1 d2 k0 k1 k2
              have hfin := hid (OutSt.fin' hsl (hX.out.up hb0 (P' := P + 400000) (L' := L + 1) (by omega) (by omega)) hR (ρ := w.heap.size + 1) (by omega) (by have := hsz0.out; omega) (.int .i64 s.al) (.int .i64 s.st) (.slice (some ⟨g, 0, none⟩) s.es.length cv))
              go_wp2
              refine bodyPost_ret (v := .agg #[.int .i64 s.al, .int .i64 s.st, .slice (some ⟨g, 0, none⟩) s.es.length cv]) (by simp [results, Tryz.results38, go_sem, d0, d1, d2]) rfl ?_
              exact hfin.out
          · have hjb4 : ((j : Int) == 4) = false := by simpa using hj4
            replace hj4 := hid hj4
            by_cases hj5 : j = 5
            · subst hj5
              by_cases hn : s.es.length = 0
              · have hn2 : decide (0 < s.es.length) = false := decide_eq_false (by omega)
                have hX := hO4
                replace hn := hid hn
                have k0 := hX.out.blk.cell 0
                have k1 := hX.out.blk.cell 1
                have k2 := hX.out.blk.cell 2
                have hbl := hid (hres.out.keep hX.out.keep (by have := hsz0.out; omega))
                have d0 := hbl.out.cell 0
                have d1 := hbl.out.cell 1
                have d2 := hbl.out.cell 2
                have y0 := hbl.out.frozen 0
                have y1 := hbl.out.frozen 1
                have y2 := hbl.out.frozen 2
                have hlt := hbl.out.lt
                simp only [List.getElem?_toArray, List.getElem?_cons_zero, List.getElem?_cons_succ] at d0 d1 d2 k0 k1 k2
                have hfin := hid ((hX.out.up hb0 (P' := P + 400000) (L' := L + 1) (by omega) (by omega)).fin hR (ρ := w.heap.size + 1) (by omega) (by have := hsz0.out; omega) (.int .i64 s.al) (.int .i64 s.st) (.slice Av s.es.length cv))
                go_wp2
                refine bodyPost_ret (v := .agg #[.int .i64 s.al, .int .i64 s.st, .slice Av s.es.length cv]) (by simp [results, Tryz.results38, go_sem, d0, d1, d2]) rfl ?_
                exact hfin.out
              · have hkl := hkn.out (by omega)
                obtain ⟨g, cap, hve, hg1, hg2, -, -, -⟩ := own_shape hO4.out.own (by omega)
                cases hve
                have hn2 : (0 : Int) < (s.es.length : Int) := by omega
                have i1 : (0 : Int) ≤ (kn : Int) ∧ (kn : Int) < (s.es.length : Int) := by omega
                obtain ⟨e0, e1, e2⟩ := edCells_at s.es kn hkl
                have r0 := World.ownsRow.cellAt hO4.out.own (kn * 3) (by omega)
                have r1 := World.ownsRow.cellAt hO4.out.own (kn * 3 + 1) (by omega)
                have r2 := World.ownsRow.cellAt hO4.out.own (kn * 3 + 2) (by omega)
                rw [e0] at r0
                rw [e1] at r1
                rw [e2] at r2
                obtain ⟨x, hx⟩ : ∃ x, x = s.es[kn] := ⟨_, rfl⟩
                rw [← hx] at r0 r1 r2
                replace hx := hid hx
                have q2 := GK.BI.cell c2
                have q3 := GK.BI.cell r0
                have q4 := GK.BI.cell r1
                have q5 := GK.BI.cell r2
                replace hn := hid hn
                clear c0 c1 c2 g0 g1 g2 r0 r1 r2 e0 e1 e2
                go_wp2_with fail
                refine GK.wp_region 8 [8, 9, 10] 200 (KeepB fun _ => False) (GK.BI w4) (fun _ _ _ => True) (by kernel_rfl) (by kernel_rfl) (GK.BI.way w4) (by decide) (Below.refl _ _).drew ?_
                simp only [List.take_succ_cons, List.take_zero]
                (repeat (refine GK.grow_quiet w4 (by rfl) (by rfl) ?_; intro K hK; go_big_quiet_op; go_big_quiet_on))
                refine GK.grow_new (K := fun _ => False) (by rfl) _ (fun b => .slice (some ⟨b, 0, none⟩) 1 1) 50 #[.int .i64 x.f, .int .i64 x.l, .int .i64 x.t] (fun _ => by go_simp) rfl (fun _ _ o h => GK.BI.alloc o h) (fun _ _ h => GK.BI.size h) (fun _ h => h.elim) (fun b hb => ?_)
                simp only [Act.put, List.setIfInBounds_toArray, List.set_cons_zero, List.set_cons_succ]
                refine GK.grow_nil ?_
                intro w5 hw5 hf
                obtain ⟨b', z1, z2, hblk5⟩ := hf _ List.mem_cons_self
                cases z1
                clear hf q2 q3 q4 q5
                simp only [List.filterMap_cons, List.filterMap_nil, List.getElem?_cons_zero, List.getElem?_cons_succ]
                replace hw5 : Below w4.heap.size w4 w5 := hw5
                have hO5 := hid (hO4.out.later hw5 hR0.out)
                refine wpList_append_own_at _ (by rfl) _ _ 23 (by rfl) w0.heap.size 50 i0 (.agg #[.int .i64 0, .int .i64 0, .int .i64 0]) 3 24 Tryz.underlying23 hi hz0 hz1 hz2 rfl (by decide) _ s.es.length (edCells s.es) (by rfl) hO5.out.own ⟨b, 0, none⟩ 1 1 [.int .i64 x.f, .int .i64 x.l, .int .i64 x.t] (by rfl) (by rfl) (World.news_of_block hblk5) ?c1 ?c3 ?c4 ?c5 ?_
                case c1 => simp [Value.oneCell']
                case c3 => unfold maxLen; omega
                case c4 => omega
                case c5 => have := hO5.out.keep.size; omega
                intro v6 w6 hown6 hgrow6 hnil6 hat6
                obtain ⟨A6, c6, rfl, -, -⟩ := own_slice hown6
                have ag := hO5.out.ne
                have hgl5 := hO5.out.blk.lt
                have c2' : w6.cell? ⟨gs, 2, none⟩ = some (.slice (some ⟨g, 0, none⟩) s.es.length cv) := by rw [hgrow6.cell_far _ (by simpa using hgl5) (Ne.symm ag)]; exact hO5.out.blk.cell 2
                have f2' : w6.frozen? ⟨gs, 2, none⟩ = false := by rw [hgrow6.frozen_far _ (by simpa using hgl5) (Ne.symm ag)]; exact hO5.out.blk.frozen 2
                obtain ⟨w7, hw7⟩ : ∃ w7, w6.setCell ⟨gs, 2, none⟩ (.slice A6 (s.es.length + 1) c6) = w7 := ⟨_, rfl⟩
                have hX := hid (hO5.out.add (x := x) hR0.out hown6 hgrow6 hat6)
                rw [hw7] at hX
                have hsl : (s.es ++ [(x : Ed)]).length = s.es.length + 1 := by simp
                have hgl6 := hgrow6.size
                clear hown6 hgrow6 hnil6 hat6 ag
                have k0 := hX.out.blk.cell 0
                have k1 := hX.out.blk.cell 1
                have k2 := hX.out.blk.cell 2
                have hbl := hid (hres.out.keep hX.out.keep (by have := hsz0.out; omega))
                have d0 := hbl.out.cell 0
                have d1 := hbl.out.cell 1
                have d2 := hbl.out.cell 2
                have y0 := hbl.out.frozen 0
                have y1 := hbl.out.frozen 1
                have y2 := hbl.out.frozen 2
                have hlt := hbl.out.lt
                simp only [List.getElem?_toArray, List.getElem?_cons_zero, List.getElem?_cons_succ] at d0 d1 d2 k0 k1 k2
                have hfin := hid (OutSt.fin' hsl (hX.out.up hb0 (P' := P + 400000) (L' := L + 1) (by omega) (by omega)) hR (ρ := w.heap.size + 1) (by omega) (by have := hsz0.out; omega) (.int .i64 s.al) (.int .i64 s.st) (.slice A6 (s.es.length + 1) c6))
                go_wp2
                refine bodyPost_ret (v := .agg #[.int .i64 s.al, .int .i64 s.st, .slice A6 (s.es.length + 1) c6]) (by simp [results, Tryz.results38, go_sem, d0, d1, d2]) rfl ?_
                exact hfin.out
            · have hjb5 : ((j : Int) == 5) = false := by simpa using hj5
              replace hj5 := hid hj5
              by_cases hj6 : j = 6
              · subst hj6
                have hgsR : gs ≠ R := by have := hO4.out.hgs; have := hR0.out; omega
                have q2 := RI.cell hO4.out.rd c2 hgsR
                clear c0 c1 g0 g1 g2
                go_wp2_with fail
                clear c2
                refine GK.wp_region 10 [10, 11, 12] 200 (KeepB fun b => b = R) (RI w4 R (P + 2)) (fun _ u _ => ∃ x : Int, u = .int .i64 x) (by kernel_rfl) (by kernel_rfl) (RI.way w4 R (P + 2)) (by decide) (RI.drew hO4.out.rd) ?_
                simp only [List.take_succ_cons, List.take_zero]
                (repeat (refine GK.grow_quiet w4 (by rfl) (by rfl) ?_; intro K hK; go_big_quiet_op; go_big_quiet_on))
                refine GK.grow_call (by rfl) (fun u w w' _ h => h) (fun m wq hm hbq hf => ?_) ?_
                · go_simp
                  exact ⟨rfl, (pick_up R (P + 2 + m * 10000) 4 wq (by omega) (by omega) hbq.2).mono fun e w' ⟨x, h2, _, _, h3, h4⟩ => ⟨_, h2, RI.call hbq h4 h3 (by omega), x, rfl⟩⟩
                rintro u ⟨_, _, _, x1, rfl⟩
                simp only [Act.put, List.setIfInBounds_toArray, List.set_cons_zero, List.set_cons_succ]
                (repeat (refine GK.grow_quiet w4 (by rfl) (by rfl) ?_; intro K hK; go_big_quiet_op; go_big_quiet_on))
                refine GK.grow_call (by rfl) (fun u w w' _ h => h) (fun m wq hm hbq hf => ?_) ?_
                · go_simp
                  exact ⟨rfl, (pick_up R (P + 2 + m * 10000) 3 wq (by omega) (by omega) hbq.2).mono fun e w' ⟨x, h2, _, _, h3, h4⟩ => ⟨_, h2, RI.call hbq h4 h3 (by omega), x, rfl⟩⟩
                rintro u ⟨_, _, _, x2, rfl⟩
                simp only [Act.put, List.setIfInBounds_toArray, List.set_cons_zero, List.set_cons_succ]
                (repeat (refine GK.grow_quiet w4 (by rfl) (by rfl) ?_; intro K hK; go_big_quiet_op; go_big_quiet_on))
                refine GK.grow_call (by rfl) (fun u w w' _ h => h) (fun m wq hm hbq hf => ?_) ?_
                · go_simp
                  exact ⟨rfl, (pick_up R (P + 2 + m * 10000) 4 wq (by omega) (by omega) hbq.2).mono fun e w' ⟨x, h2, _, _, h3, h4⟩ => ⟨_, h2, RI.call hbq h4 h3 (by omega), x, rfl⟩⟩
                rintro u ⟨_, _, _, x3, rfl⟩
                simp only [Act.put, List.setIfInBounds_toArray, List.set_cons_zero, List.set_cons_succ]
                (repeat (refine GK.grow_quiet w4 (by rfl) (by rfl) ?_; intro K hK; go_big_quiet_op; go_big_quiet_on))
                refine GK.grow_new (K := fun b => b = R) (by rfl) w4.heap.size (fun b => .slice (some ⟨b, 0, none⟩) 1 1) 50 #[.int .i64 x1, .int .i64 x2, .int .i64 x3] (fun _ => by go_simp) rfl (fun _ _ o h => RI.alloc o h) (fun _ _ h => RI.size h) (fun k hk => by have := hO4.out.rd.lt; omega) (fun b hb => ?_)
                simp only [Act.put, List.setIfInBounds_toArray, List.set_cons_zero, List.set_cons_succ]
                refine GK.grow_nil ?_
                intro w5 hw5 hf
                obtain ⟨b', z1, z2, hblk5⟩ := hf _ List.mem_cons_self
                cases z1
                clear hf q2
                simp only [List.filterMap_cons, List.filterMap_nil, List.getElem?_cons_zero, List.getElem?_cons_succ]
                have hO5 := hid (hO4.out.call hw5.1 hw5.2 hR0.out)
                refine wpList_append_own_at _ (by rfl) _ _ 23 (by rfl) w0.heap.size 50 i0 (.agg #[.int .i64 0, .int .i64 0, .int .i64 0]) 3 24 Tryz.underlying23 hi hz0 hz1 hz2 rfl (by decide) _ s.es.length (edCells s.es) (by rfl) hO5.out.own ⟨b, 0, none⟩ 1 1 [.int .i64 x1, .int .i64 x2, .int .i64 x3] (by rfl) (by rfl) (World.news_of_block hblk5) ?c1 ?c3 ?c4 ?c5 ?_
                case c1 => simp [Value.oneCell']
                case c3 => unfold maxLen; omega
                case c4 => omega
                case c5 => have := hO5.out.keep.size; omega
                intro v6 w6 hown6 hgrow6 hnil6 hat6
                obtain ⟨A6, c6, rfl, -, -⟩ := own_slice hown6
                have ag := hO5.out.ne
                have hgl5 := hO5.out.blk.lt
                have c2' : w6.cell? ⟨gs, 2, none⟩ = some (.slice Av s.es.length cv) := by rw [hgrow6.cell_far _ (by simpa using hgl5) (Ne.symm ag)]; exact hO5.out.blk.cell 2
                have f2' : w6.frozen? ⟨gs, 2, none⟩ = false := by rw [hgrow6.frozen_far _ (by simpa using hgl5) (Ne.symm ag)]; exact hO5.out.blk.frozen 2
                obtain ⟨w7, hw7⟩ : ∃ w7, w6.setCell ⟨gs, 2, none⟩ (.slice A6 (s.es.length + 1) c6) = w7 := ⟨_, rfl⟩
                have hX := hid (hO5.out.add (x := (⟨x1, x2, x3⟩ : Ed)) hR0.out hown6 hgrow6 hat6)
                rw [hw7] at hX
                have hsl : (s.es ++ [(⟨x1, x2, x3⟩ : Ed)]).length = s.es.length + 1 := by simp
                have hgl6 := hgrow6.size
                clear hown6 hgrow6 hnil6 hat6 ag
                have k0 := hX.out.blk.cell 0
                have k1 := hX.out.blk.cell 1
                have k2 := hX.out.blk.cell 2
                have hbl := hid (hres.out.keep hX.out.keep (by have := hsz0.out; omega))
                have d0 := hbl.out.cell 0
                have d1 := hbl.out.cell 1
                have d2 := hbl.out.cell 2
                have y0 := hbl.out.frozen 0
                have y1 := hbl.out.frozen 1
                have y2 := hbl.out.frozen 2
                have hlt := hbl.out.lt
                simp only [List.getElem?_toArray, List.getElem?_cons_zero, List.getElem?_cons_succ] at d0 d1 d2 k0 k1 k2
                have hfin := hid (OutSt.fin' hsl (hX.out.up hb0 (P' := P + 400000) (L' := L + 1) (by omega) (by omega)) hR (ρ := w.heap.size + 1) (by omega) (by have := hsz0.out; omega) (.int .i64 s.al) (.int .i64 s.st) (.slice A6 (s.es.length + 1) c6))
                go_wp2
                refine bodyPost_ret (v := .agg #[.int .i64 s.al, .int .i64 s.st, .slice A6 (s.es.length + 1) c6]) (by simp [results, Tryz.results38, go_sem, d0, d1, d2]) rfl ?_
                exact hfin.out
              · have hjb6 : ((j : Int) == 6) = false := by simpa using hj6
                replace hj6 := hid hj6
                have hX := hO4
                have k0 := hX.out.blk.cell 0
                have k1 := hX.out.blk.cell 1
                have k2 := hX.out.blk.cell 2
                have hbl := hid (hres.out.keep hX.out.keep (by have := hsz0.out; omega))
                have d0 := hbl.out.cell 0
                have d1 := hbl.out.cell 1
                have d2 := hbl.out.cell 2
                have y0 := hbl.out.frozen 0
                have y1 := hbl.out.frozen 1
                have y2 := hbl.out.frozen 2
                have hlt := hbl.out.lt
                simp only [List.getElem?_toArray, List.getElem?_cons_zero, List.getElem?_cons_succ] at d0 d1 d2 k0 k1 k2
                have hfin := hid ((hX.out.up hb0 (P' := P + 400000) (L' := L + 1) (by omega) (by omega)).fin hR (ρ := w.heap.size + 1) (by omega) (by have := hsz0.out; omega) (.int .i64 s.al) (.int .i64 s.st) (.slice Av s.es.length cv))
                go_wp2
                refine bodyPost_ret (v := .agg #[.int .i64 s.al, .int .i64 s.st, .slice Av s.es.length cv]) (by simp [results, Tryz.results38, go_sem, d0, d1, d2]) rfl ?_
                exact hfin.out

end Go.Proofs.YtdkjnemakkppfaaGreatDoor

/- The drawing kit: l2Big, l2Any. -/
namespace Go.Proofs.YtdkjnemakkppfaaGreatDoor
open Go.RowKit Go.BigFrame AG

theorem EdsAt.keepR {w w' : World} {R : Nat} {A : Option Addr} {es : List Ed} (h : EdsAt w w.heap.size A es) (hk : KeepB (fun b => b = R) w w') (hf : FreshA (R + 1) A) : EdsAt w' w'.heap.size A es := fun hl => by
  obtain ⟨b, o, hA, hb, hE⟩ := h hl
  have h1 := hf b o hA
  refine ⟨b, o, hA, Nat.lt_of_lt_of_le hb hk.size, fun i hi => ?_⟩
  rw [KeepB.cell_ hk hb (by show ¬ b = R; omega), KeepB.cell_ hk hb (by show ¬ b = R; omega), KeepB.cell_ hk hb (by show ¬ b = R; omega)]
  exact hE i hi

theorem RndSt.call {w wr w1 : World} {R P gs : Nat} {al st : Int} {lv : Value} {ls : List Nat} {N N' : Nat} {v : Value} {es : List Ed} (h : RndSt w wr R P gs al st lv ls N v es) (hR : R < w.heap.size) (hgs : w.heap.size < gs) (hN : N ≤ N') (hr : RdUp w1 R (P + N')) (hk : KeepB (fun b => b = R) wr w1) :
    RndSt w w1 R P gs al st lv ls N' v es :=
  ⟨by have := h.len; omega, h.blk.keep hk (by omega), own_keep h.own hk (fun g hg => by have := (h.own.lt g hg).1; omega), own_keep h.list hk (fun g hg => by have := (World.ownsRow.lt h.list g hg).1; omega), hr, h.keep.trans hk, h.res.keep hk (by omega)⟩
theorem RndSt.more {w wr : World} {R P gs : Nat} {al st : Int} {lv : Value} {ls : List Nat} {N N' : Nat} {v : Value} {es : List Ed} (h : RndSt w wr R P gs al st lv ls N v es) (hN : N ≤ N') : RndSt w wr R P gs al st lv ls N' v es :=
  ⟨by have := h.len; omega, h.blk, h.own, h.list, h.rd.more (by omega), h.keep, h.res⟩
theorem RndSt.post2 {w wr : World} {R P P' L : Nat} {al st : Int} {lv : Value} {ls : List Nat} {N : Nat} {A : Option Addr} {c : Nat} {es : List Ed} (h : RndSt w wr R P (w.heap.size + 1) al st lv ls N (.slice A es.length c) es) (hL : es.length ≤ L) (hP : P + N ≤ P') (hR : R < w.heap.size) (v1 v2 v3 : Value) :
    SyUp R P' L w (.returned (.agg #[.int .i64 al, .int .i64 st, .slice A es.length c])) (((wr.setCell ⟨w.heap.size, 0, none⟩ v1).setCell ⟨w.heap.size, 1, none⟩ v2).setCell ⟨w.heap.size, 2, none⟩ v3) := by
  obtain ⟨A', c', hv, h1, h2, h3, h4⟩ := h.own.read
  cases hv
  exact SyUp.ret (w := w) (s := ⟨al, st, es⟩) h1 h2 hL h3 (fun b o hA => by have := h4 b o hA; omega) (h.rd.more hP) h.keep hR v1 v2 v3

/-- As SyUp, with an edge at least. -/
def SyUp1 (R P L : Nat) (w : World) (e : Ending) (w' : World) : Prop :=
  ∃ (s : Sy) (A : Option Addr) (c : Nat), e = .returned (s.val A c) ∧ s.es.length ≤ c ∧ c ≤ 9223372036854775807 ∧ s.es.length ≤ L ∧ EdsAt w' w'.heap.size A s.es ∧ FreshA w.heap.size A ∧ RdUp w' R P ∧ KeepB (fun b => b = R) w w' ∧ 1 ≤ s.es.length
theorem SyUp1.of {R P L : Nat} {w w' : World} {s : Sy} {A : Option Addr} {c : Nat} (h : SyUp R P L w (.returned (s.val A c)) w') (hn : 1 ≤ s.es.length) : SyUp1 R P L w (.returned (s.val A c)) w' := by
  obtain ⟨s', A', c', e, a1, a2, a3, a4, a5, a6, a7⟩ := h
  have hl : s'.es.length = s.es.length := by
    unfold Sy.val at e
    injection e with e
    injection e with e
    simp at e
    exact e.2.2.2.1.symm
  exact ⟨s', A', c', e, a1, a2, a3, a4, a5, a6, a7, by omega⟩

set_option maxRecDepth 100000 in
set_option maxHeartbeats 8000000 in
theorem l2Big_up (R P : Nat) (w : World) (hP : P + 5000000 ≤ 1125899906842624) (hr : RdUp w R P) :
    Calls Tryz.prog 37 #[.pointer (some ⟨R, 0, none⟩)] w (SyUp1 R (P + 2000000) 32 w) := by
  obtain ⟨i0, hi, hz0, hz1, hz2⟩ := info_parts infoEd
  have hR := hr.lt
  have H0 : RndSt w ((w.alloc (.cells #[.int .i64 0, .int .i64 0, .slice none 0 0] 25)).alloc (.cells #[.int .i64 3, .int .i64 16, .slice none 0 0] 25)) R P (w.heap.size + 1) 3 16 (.slice none 0 0) [] 0 (.slice none 0 0) [] :=
    RndSt.begin hr (World.ownsRow_nil _ _ _ _) (Below.refl _ _)
  replace hr := hid hr
  replace H0 := hid H0
  go_enter Tryz.func37, Tryz.ntmps37
  go_wp2_with fail
  go_loopw [4] (fun i wr => ∃ (k : Nat) (v : Value) (es : List Ed), i = .int .i64 k ∧ k ≤ 16 ∧ k ≤ es.length ∧ es.length ≤ k * 2 ∧ RndSt w wr R P (w.heap.size + 1) 3 16 (.slice none 0 0) [] (k * 110000) v es) (fun i _ => 16 - (intOf i).toNat)
  case atStart => exact ⟨0, _, [], rfl, by omega, by simp, by simp, H0.out⟩
  case round =>
    obtain ⟨k, v, es, rfl, hk, hk1, hk2, hs⟩ := hrel
    obtain ⟨Av, cv, hve, -, -⟩ := own_slice hs.own
    subst hve
    have c0 := hs.blk.cell 0
    have c1 := hs.blk.cell 1
    have c2 := hs.blk.cell 2
    simp only [List.getElem?_toArray, List.getElem?_cons_zero, List.getElem?_cons_succ] at c0 c1 c2
    have hbl := hs.blk.lt
    by_cases hlt : k < 16
    · obtain ⟨d, hd⟩ : ∃ d : Nat, d = (k + 1) % 16 := ⟨_, rfl⟩
      have e1 : Int.tmod ((k : Int) + 1) 16 = (d : Int) := by rw [Int.tmod_eq_emod_of_nonneg (by omega)]; omega
      have e2 : IntKind.i64.wrap ((k : Int) + 1) = (k : Int) + 1 := IntWalk.i64_in _ (by omega)
      have q1 := GK.BI.cell c1
      have q2 := GK.BI.cell c2
      have ag : (Value.slice Av es.length cv).ownBlock ≠ some (w.heap.size + 1) := fun e => by have := (hs.own.lt _ e).1; omega
      replace hs := hid hs
      replace hd := hid hd
      go_wp2_with fail
      clear c0 c1 c2
      refine GK.wp_region 10 [10, 11, 12] 200 (KeepB fun _ => False) (GK.BI wr) (fun _ _ _ => True) (by kernel_rfl) (by kernel_rfl) (GK.BI.way wr) (by decide) (Below.refl _ _).drew ?_
      simp only [List.take_succ_cons, List.take_zero]
      (repeat (refine GK.grow_quiet wr (by rfl) (by rfl) ?_; intro K hK; go_big_quiet_op; go_big_quiet_on))
      refine GK.grow_new (K := fun _ => False) (by rfl) _ (fun b => .slice (some ⟨b, 0, none⟩) 1 1) 50 #[.int .i64 (k : Nat), .int .i64 0, .int .i64 (d : Nat)] (fun _ => by go_simp) rfl (fun _ _ o h => GK.BI.alloc o h) (fun _ _ h => GK.BI.size h) (fun _ h => h.elim) (fun b hb => ?_)
      simp only [Act.put, List.setIfInBounds_toArray, List.set_cons_zero, List.set_cons_succ]
      refine GK.grow_nil ?_
      intro w4 hw4 hf
      obtain ⟨g', hge, hge2, hblk⟩ := hf _ List.mem_cons_self
      cases hge
      clear hf q1 q2 e1 e2
      replace hw4 : Below wr.heap.size wr w4 := hw4
      simp only [List.filterMap_cons, List.filterMap_nil, List.getElem?_cons_zero, List.getElem?_cons_succ]
      have hS4 := hid (hs.out.later hw4)
      have z4 := hw4.size
      refine wpList_append_own_at _ (by rfl) _ _ 23 (by rfl) (w.heap.size + 1 + 1) 50 i0 (.agg #[.int .i64 0, .int .i64 0, .int .i64 0]) 3 24 Tryz.underlying23 hi hz0 hz1 hz2 rfl (by decide) _ es.length (edCells es) (by rfl) hS4.out.own ⟨b, 0, none⟩ 1 1 [.int .i64 (k : Nat), .int .i64 0, .int .i64 (d : Nat)] (by rfl) (by rfl) (World.news_of_block hblk) ?c1 ?c3 ?c4 ?c5 ?_
      case c1 => simp [Value.oneCell']
      case c3 => unfold maxLen; omega
      case c4 => omega
      case c5 => omega
      intro v5 w5 hown5 hgrow hnil5 hat5
      obtain ⟨A5, c5, hv5, -, -⟩ := own_slice hown5
      subst hv5
      have c2' : w5.cell? ⟨w.heap.size + 1, 2, none⟩ = some (.slice Av es.length cv) := by rw [hgrow.cell_far _ (by simp; omega) (Ne.symm ag)]; exact hS4.out.blk.cell 2
      have f2' : w5.frozen? ⟨w.heap.size + 1, 2, none⟩ = false := by rw [hgrow.frozen_far _ (by simp; omega) (Ne.symm ag)]; exact hS4.out.blk.frozen 2
      have hl5 : (es ++ [(⟨k, 0, d⟩ : Ed)]).length = es.length + 1 := by simp
      have h6 := (hS4.out.more (by omega : k * 110000 ≤ k * 110000 + 1000)).add' (x := ⟨k, 0, d⟩) (by have := hS4.out.len; omega) hR (by omega) hown5 hgrow
      obtain ⟨w6, hw6⟩ : ∃ w6, w5.setCell ⟨w.heap.size + 1, 2, none⟩ (.slice A5 (es.length + 1) c5) = w6 := ⟨_, rfl⟩
      rw [hw6] at h6
      rw [← hl5] at h6
      replace h6 := hid h6
      clear hown5 hgrow hnil5 hat5
      have ag6 : (Value.slice A5 (es.length + 1) c5).ownBlock ≠ some (w.heap.size + 1) := fun e => by have h61 := h6.out.own; unfold OwnEds at h61; rw [hl5] at h61; have := (World.ownsRow.lt h61 _ e).1; omega
      go_wp2_with fail
      refine (pick_up R (P + (k * 110000 + 1000)) 3 w6 (by omega) (by omega) h6.out.rd).mono ?_
      rintro e w7 ⟨j, rfl, hj0, hj1, hr7, hk7⟩
      have h7 := hid (h6.out.call (N' := k * 110000 + 2000) hR (by omega) (by omega) (hr7.more (by omega)) hk7)
      have hbl7 := h7.out.blk.lt
      clear hr7 hk7 hj1 hw6 c2' f2'
      by_cases hj : j = 0
      · subst hj
        have c1 := h7.out.blk.cell 1
        have c2 := h7.out.blk.cell 2
        simp only [List.getElem?_toArray, List.getElem?_cons_zero, List.getElem?_cons_succ] at c1 c2
        rw [hl5] at c2
        have q1 := RI.cell h7.out.rd c1 (by omega)
        have q2 := RI.cell h7.out.rd c2 (by omega)
        go_wp2_with fail
        clear c1 c2
        refine GK.wp_region 9 [9, 10, 11] 200 (KeepB fun b => b = R) (RI w7 R (P + (k * 110000 + 2000))) (fun _ u _ => ∃ x : Int, u = .int .i64 x) (by kernel_rfl) (by kernel_rfl) (RI.way w7 R _) (by decide) (RI.drew h7.out.rd) ?_
        simp only [List.take_succ_cons, List.take_zero]
        (repeat (refine GK.grow_quiet w7 (by rfl) (by rfl) ?_; intro K hK; go_big_quiet_op; go_big_quiet_on))
        refine GK.grow_call (by rfl) (fun u w w' _ h => h) (fun m wq hm hbq hf => ?_) ?_
        · go_simp
          exact ⟨rfl, (pick_up R (P + (k * 110000 + 2000) + m * 10000) 16 wq (by omega) (by omega) hbq.2).mono fun e w' ⟨x, h2, _, _, h3, h4⟩ => ⟨_, h2, RI.call hbq h4 h3 (by omega), x, rfl⟩⟩
        rintro u ⟨_, _, _, x, rfl⟩
        simp only [Act.put, List.setIfInBounds_toArray, List.set_cons_zero, List.set_cons_succ]
        (repeat (refine GK.grow_quiet w7 (by rfl) (by rfl) ?_; intro K hK; go_big_quiet_op; go_big_quiet_on))
        refine GK.grow_new (K := fun b => b = R) (by rfl) w7.heap.size (fun b => .slice (some ⟨b, 0, none⟩) 1 1) 50 #[.int .i64 (k : Nat), .int .i64 1, .int .i64 x] (fun _ => by go_simp) rfl (fun _ _ o h => RI.alloc o h) (fun _ _ h => RI.size h) (fun k hk => by omega) (fun b hb => ?_)
        simp only [Act.put, List.setIfInBounds_toArray, List.set_cons_zero, List.set_cons_succ]
        refine GK.grow_nil ?_
        intro w8 hw8 hf
        obtain ⟨g', hge, hge2, hblk8⟩ := hf _ List.mem_cons_self
        cases hge
        clear hf q1 q2
        simp only [List.filterMap_cons, List.filterMap_nil, List.getElem?_cons_zero, List.getElem?_cons_succ]
        have h8 := h7.out.call (N' := k * 110000 + 92000) hR (by omega) (by omega) (hw8.2.more (by omega)) hw8.1
        have hbl8 := h8.blk.lt
        have hown8 := h8.own
        unfold OwnEds at hown8
        rw [hl5] at hown8
        replace h8 := hid h8
        refine wpList_append_own_at _ (by rfl) _ _ 23 (by rfl) (w.heap.size + 1 + 1) 50 i0 (.agg #[.int .i64 0, .int .i64 0, .int .i64 0]) 3 24 Tryz.underlying23 hi hz0 hz1 hz2 rfl (by decide) _ (es.length + 1) (edCells (es ++ [⟨k, 0, d⟩])) (by rfl) hown8 ⟨b, 0, none⟩ 1 1 [.int .i64 (k : Nat), .int .i64 1, .int .i64 x] (by rfl) (by rfl) (World.news_of_block hblk8) ?c1 ?c3 ?c4 ?c5 ?_
        case c1 => simp [Value.oneCell']
        case c3 => unfold maxLen; omega
        case c4 => omega
        case c5 => omega
        intro v9 w9 hown9 hgrow hnil9 hat9
        obtain ⟨A9, c9, hv9, -, -⟩ := own_slice hown9
        subst hv9
        have c2' : w9.cell? ⟨w.heap.size + 1, 2, none⟩ = some (.slice A5 (es.length + 1) c5) := by rw [hgrow.cell_far _ (by simp; omega) (Ne.symm ag6), ← hl5]; exact h8.out.blk.cell 2
        have f2' : w9.frozen? ⟨w.heap.size + 1, 2, none⟩ = false := by rw [hgrow.frozen_far _ (by simp; omega) (Ne.symm ag6)]; exact h8.out.blk.frozen 2
        have hown9' := hown9
        rw [show es.length + 1 + 1 = (es ++ [(⟨k, 0, d⟩ : Ed)]).length + 1 from by rw [hl5]] at hown9'
        have hfin := (h8.out.more (by omega : k * 110000 + 92000 ≤ (k + 1) * 110000)).add' (x := ⟨k, 1, x⟩) (by have := h8.out.len; omega) hR (by omega) hown9' (by rw [hl5]; exact hgrow)
        rw [hl5] at hfin
        replace hfin := hid hfin
        clear hown9 hown9' hown8 hgrow hnil9 hat9
        go_wp2_with fail
        go_roundw
        case rel => exact ⟨k + 1, _, _, by go_num, by omega, by simp; omega, by simp; omega, hfin.out⟩
        case measure => simp [intOf]; omega
      · have hjb : ((j : Int) == 0) = false := by simpa using hj
        replace hj := hid hj
        have hfin := hid (h7.out.more (by omega : k * 110000 + 2000 ≤ (k + 1) * 110000))
        rw [hl5] at hfin
        go_wp2_with fail
        go_roundw
        case rel => exact ⟨k + 1, _, _, by go_num, by omega, by simp; omega, by simp; omega, hfin.out⟩
        case measure => simp [intOf]; omega
    · obtain rfl : k = 16 := by omega
      have d0 := hs.res.cell 0
      have d1 := hs.res.cell 1
      have d2 := hs.res.cell 2
      have f0 := hs.res.frozen 0
      have f1 := hs.res.frozen 1
      have f2 := hs.res.frozen 2
      simp only [List.getElem?_toArray, List.getElem?_cons_zero, List.getElem?_cons_succ] at d0 d1 d2
      have hfin := hid (SyUp1.of (s := ⟨3, 16, es⟩) (A := Av) (c := cv) (hs.post2 (P' := P + 2000000) (L := 32) (by omega) (by omega) hR (.int .i64 3) (.int .i64 16) (.slice Av es.length cv)) (by show 1 ≤ es.length; omega))
      have hvl := hs.res.lt
      replace hs := hid hs
      go_wp2
      refine bodyPost_ret (v := .agg #[.int .i64 3, .int .i64 16, .slice Av es.length cv]) (by simp [results, Tryz.results37, go_sem, d0, d1, d2]) rfl ?_
      exact hfin.out

end Go.Proofs.YtdkjnemakkppfaaGreatDoor

/- The drawing kit's pick, whatever number is asked for. -/
namespace Go.Proofs.YtdkjnemakkppfaaGreatDoor
open Go.RowKit Go.BigFrame AG

set_option maxRecDepth 100000 in
set_option maxHeartbeats 2000000 in
theorem pick_anyF (R : Nat) (A : Option Addr) (n c p : Nat) (m : Int) (w : World) (hp : p < 1125899906842624) (hr : RdAt w R A n c p) :
    Calls Tryz.prog 34 #[.pointer (some ⟨R, 0, none⟩), .int .i64 m] w fun e w' => ∃ k : Int, e = .returned (.int .i64 k) ∧ 0 ≤ k ∧ (k < m ∨ k = 0) ∧ RdAt w' R A n c (p + 1) ∧ KeepB (fun b => b = R) w w' := by
  have hblk := hr.blk
  have hR := hblk.lt
  have e0 : w.cell? ⟨R, 0, none⟩ = some (.slice A n c) := by rw [hblk.cell]; rfl
  have e1 : w.cell? ⟨R, 1, none⟩ = some (.int .i64 (p : Int)) := by rw [hblk.cell]; rfl
  have hfr : w.frozen? ⟨R, 1, none⟩ = false := hblk.frozen 1
  have hlen := hr.len
  have hcap := hr.cap
  have htop := hr.top
  replace hr := hid hr
  replace hblk := hid hblk
  have hst := hid (hr.out.step (v := .int .i64 ((p : Int) + 1)) hp rfl)
  by_cases hm1 : m < 1
  · go_enter Tryz.func34, Tryz.ntmps34
    go_wp2
    go_ret
    exact ⟨0, rfl, by omega, .inr rfl, hst.out.1, hst.out.2⟩
  · have hm0 : (m == 0) = false := by simp; omega
    by_cases hn : n = 0
    · subst hn
      go_enter Tryz.func34, Tryz.ntmps34
      go_wp2
      go_ret
      exact ⟨0, rfl, by omega, .inr rfl, hst.out.1, hst.out.2⟩
    · obtain ⟨b, o, rfl, hltR, hx⟩ := hr.out.bytes (by omega)
      have hne : b ≠ R := by omega
      have hlt : b < w.heap.size := by omega
      have hn0 : ((n : Int) == 0) = false := by simp; omega
      by_cases hpn : p < n
      · obtain ⟨x, hx1, hx2⟩ := hx p hpn
        have hmod : 0 ≤ (x : Int) % m ∧ (x : Int) % m < m := ⟨Int.emod_nonneg _ (by omega), Int.emod_lt_of_pos _ (by omega)⟩
        replace hx := hid hx
        replace hmod := hid hmod
        have hneA : (⟨R, 1, none⟩ : Addr) ≠ ⟨b, o + p, none⟩ := addr_ne hne
        go_enter Tryz.func34, Tryz.ntmps34
        go_wp2
        go_ret
        exact ⟨_, rfl, hmod.out.1, .inl hmod.out.2, hst.out.1, hst.out.2⟩
      · have hw1 := hst.out.1
        obtain ⟨i1, hi1⟩ : ∃ i1, i1 = p % n := ⟨_, rfl⟩
        obtain ⟨i2, hi2⟩ : ∃ i2, i2 = (p * 7 + 3) % n := ⟨_, rfl⟩
        obtain ⟨q, hq⟩ : ∃ q, q = p / n := ⟨_, rfl⟩
        have hi1n : i1 < n := by rw [hi1]; exact Nat.mod_lt _ (by omega)
        have hi2n : i2 < n := by rw [hi2]; exact Nat.mod_lt _ (by omega)
        have hqp : q ≤ p := by rw [hq]; exact Nat.div_le_self _ _
        have k1 : (p : Int) % (n : Int) = (i1 : Int) := by rw [hi1]; omega
        have k2 : ((p : Int) * 7 + 3) % (n : Int) = (i2 : Int) := by rw [hi2]; simp
        have k3 : (p : Int) / (n : Int) = (q : Int) := by rw [hq]; omega
        obtain ⟨b', o', hA', -, hx'⟩ := hw1.bytes (by omega)
        injection hA' with hA'
        injection hA' with hA1 hA2
        subst hA1 hA2
        obtain ⟨x1, hx1, hy1⟩ := hx' i1 hi1n
        obtain ⟨x2, hx2, hy2⟩ := hx' i2 hi2n
        have hblk1 := hw1.blk
        replace hx := hid hx
        replace hx' := hid hx'
        replace hi1 := hid hi1
        replace hi2 := hid hi2
        replace hq := hid hq
        obtain ⟨w1, hw1e⟩ : ∃ w1, w1 = w.setCell ⟨R, 1, none⟩ (.int .i64 ((p : Int) + 1)) := ⟨_, rfl⟩
        rw [← hw1e] at hy1 hy2 hblk1
        have g0 : ∀ y, (Fam w1.heap.size w1 y).cell? ⟨R, 0, none⟩ = some (.slice (some ⟨b, o, none⟩) n c) := fun y => by rw [(Fam.below _ _ y).cell (by simpa using hblk1.lt), hblk1.cell]; rfl
        have hb1 : b < w1.heap.size := by rw [hw1e]; simpa using hlt
        have g1 : ∀ y, (Fam w1.heap.size w1 y).cell? ⟨b, o + i1, none⟩ = some (.int .u8 (x1 : Int)) := fun y => by rw [(Fam.below _ _ y).cell (by simpa using hb1)]; exact hy1
        have g2 : ∀ y, (Fam w1.heap.size w1 y).cell? ⟨b, o + i2, none⟩ = some (.int .u8 (x2 : Int)) := fun y => by rw [(Fam.below _ _ y).cell (by simpa using hb1)]; exact hy2
        replace hw1e := hid hw1e
        replace hw1 := hid hw1
        replace hblk1 := hid hblk1
        clear hy1 hy2
        have hxor := hid (xor_nonneg (a := (x1 : Int) * 131 + x2 * 1117 + p * 29 + q * 53) (b := ((x1 : Int) * 131 + x2 * 1117 + p * 29 + q * 53) / 64) (by omega) (by omega))
        go_enter Tryz.func34, Tryz.ntmps34
        go_wp2_with fail
        rw [← hw1e.out]
        refine wp_region_fam w1.heap.size w1 (by kernel_rfl) (by kernel_rfl) (Below.refl _ _) ?_
        (repeat (go_big_quiet_step (fail)))
        refine wpQuiet_nil ?_
        intro w2 hw2
        replace hw2 := Fam.out hw2
        go_wp2
        go_ret
        have hw1' : RdAt w1 R (some ⟨b, o, none⟩) n c (p + 1) := by rw [hw1e.out]; exact hw1.out
        have hk1 : KeepB (fun b => b = R) w w1 := by rw [hw1e.out]; exact hst.out.2
        exact ⟨_, rfl, Int.tmod_nonneg _ hxor.out.1, .inl (Int.tmod_lt_of_pos _ (by omega)), hw1'.later hw2, hk1.trans (KeepB.of_below hw2)⟩

theorem pick_upF (R P : Nat) (m : Int) (w : World) (hP : P < 1125899906842624) (h : RdUp w R P) :
    Calls Tryz.prog 34 #[.pointer (some ⟨R, 0, none⟩), .int .i64 m] w (PickPost R P m w) := by
  obtain ⟨A, n, c, p, h1, h2⟩ := h
  exact (pick_anyF R A n c p m w (by omega) h2).mono fun e w' ⟨k, a1, a2, a3, a4, a5⟩ => ⟨k, a1, a2, a3, ⟨A, n, c, p + 1, by omega, a4⟩, a5⟩

end Go.Proofs.YtdkjnemakkppfaaGreatDoor

/- The drawing kit: l6Change. -/
namespace Go.Proofs.YtdkjnemakkppfaaGreatDoor
open Go.RowKit Go.BigFrame AG

/-- What l6Change holds: the copy as far as it is made, and the edge x. -/
structure ChSt (w0 wr : World) (R P gs ge : Nat) (al st : Int) (v : Value) (es : List Ed) (L : Nat) (x : Ed) : Prop where
  out : OutSt w0 wr R P w0.heap.size gs al st v es L
  ed : Blk wr ge 50 #[.int .i64 x.f, .int .i64 x.l, .int .i64 x.t]
  far : ∀ k, v.ownBlock = some k → ge < k
  lt : gs < ge
theorem ChSt.call {w0 wr w1 : World} {R P P' gs ge : Nat} {al st : Int} {v : Value} {es : List Ed} {L : Nat} {x : Ed} (h : ChSt w0 wr R P gs ge al st v es L x) (hk : KeepB (fun b => b = R) wr w1) (hr : RdUp w1 R P') (hR : R < w0.heap.size) : ChSt w0 w1 R P' gs ge al st v es L x :=
  ⟨h.out.call hk hr hR, h.ed.keep hk (by have := h.lt; have := h.out.hgs; omega), h.far, h.lt⟩
theorem ChSt.later {w0 wr w1 : World} {R P gs ge : Nat} {al st : Int} {v : Value} {es : List Ed} {L : Nat} {x : Ed} (h : ChSt w0 wr R P gs ge al st v es L x) (hb : Below wr.heap.size wr w1) (hR : R < w0.heap.size) : ChSt w0 w1 R P gs ge al st v es L x := h.call (KeepB.of_below hb) (h.out.rd.later hb) hR
theorem ChSt.more {w0 wr : World} {R P P' gs ge : Nat} {al st : Int} {v : Value} {es : List Ed} {L L' : Nat} {x : Ed} (h : ChSt w0 wr R P gs ge al st v es L x) (hP : P ≤ P') (hL : L ≤ L') : ChSt w0 wr R P' gs ge al st v es L' x :=
  ⟨⟨h.out.blk, h.out.own, by have := h.out.len; omega, h.out.rd.more hP, h.out.keep, h.out.hB, h.out.hgs⟩, h.ed, h.far, h.lt⟩
theorem ChSt.add {w0 wr w1 : World} {R P gs ge : Nat} {al st : Int} {v v' : Value} {es : List Ed} {L : Nat} {x y : Ed} (h : ChSt w0 wr R P gs ge al st v es L x) (hR : R < w0.heap.size)
    (hown : w1.ownsRow w0.heap.size 50 3 v' (es.length + 1) (edCells es ++ [.int .i64 y.f, .int .i64 y.l, .int .i64 y.t])) (hg : wr.grownBy w1 v.ownBlock) (hat : v'.ownBlock = v.ownBlock ∨ v'.ownBlock = some wr.heap.size) :
    ChSt w0 (w1.setCell ⟨gs, 2, none⟩ v') R P gs ge al st v' (es ++ [y]) (L + 1) x := by
  have h1 := h.lt
  have hge := h.ed.lt
  have k1 : KeepB (fun b => v.ownBlock = some b) wr w1 := (KeepB.refl _ wr).grown hg (fun k hk _ => hk)
  have k2 : KeepB (fun b => v.ownBlock = some b ∨ b = gs) wr (w1.setCell ⟨gs, 2, none⟩ v') := (k1.mono fun _ h => .inl h).setCell _ _ fun _ => .inr rfl
  refine ⟨h.out.add hR hown hg hat, h.ed.keep k2 (by rintro (hk | hk); (have := h.far _ hk; omega); omega), fun k hk => ?_, h1⟩
  rcases hat with e | e
  · rw [e] at hk; exact h.far k hk
  · rw [e] at hk; injection hk with hk; omega

set_option maxRecDepth 100000 in
set_option maxHeartbeats 16000000 in
theorem l6Change_up (R P L : Nat) (s : Sy) (A : Option Addr) (c : Nat) (w : World) (hP : P + 9000000 ≤ 1125899906842624) (hl : s.es.length ≤ c) (hc : c ≤ 9223372036854775807) (hL : s.es.length ≤ L) (hL2 : L ≤ 40000)
    (hs : EdsAt w w.heap.size A s.es) (hf : FreshA (R + 1) A) (hr : RdUp w R P) :
    Calls Tryz.prog 36 #[.pointer (some ⟨R, 0, none⟩), s.val A c] w (SyUp R (P + 4000000) (2 * L + 1) w) := by
  obtain ⟨i0, hi, hz0, hz1, hz2⟩ := info_parts infoEd
  have hR := hr.lt
  unfold Sy.val
  have hres := (Blk.new (w.alloc (.cells #[.int .i64 s.al, .int .i64 s.st, .slice A s.es.length c] 25)) 25 #[.int .i64 0, .int .i64 0, .slice none 0 0])
  have hpar := (Blk.new w 25 #[.int .i64 s.al, .int .i64 s.st, .slice A s.es.length c]).alloc (.cells #[.int .i64 0, .int .i64 0, .slice none 0 0] 25)
  have hb0 : Below w.heap.size w ((w.alloc (.cells #[.int .i64 s.al, .int .i64 s.st, .slice A s.es.length c] 25)).alloc (.cells #[.int .i64 0, .int .i64 0, .slice none 0 0] 25)) := ((Below.refl _ _).alloc (Nat.le_refl _) _).alloc (by simp) _
  have hsz0 : ((w.alloc (.cells #[.int .i64 s.al, .int .i64 s.st, .slice A s.es.length c] 25)).alloc (.cells #[.int .i64 0, .int .i64 0, .slice none 0 0] 25)).heap.size = w.heap.size + 2 := by simp
  simp only [World.size_alloc] at hres
  generalize hw0 : (w.alloc (.cells #[.int .i64 s.al, .int .i64 s.st, .slice A s.es.length c] 25)).alloc (.cells #[.int .i64 0, .int .i64 0, .slice none 0 0] 25) = w0 at hres hb0 hsz0 hpar
  have p0 := hpar.cell 0
  have p1 := hpar.cell 1
  have p2 := hpar.cell 2
  simp only [List.getElem?_toArray, List.getElem?_cons_zero, List.getElem?_cons_succ] at p0 p1 p2
  have hR0 : R < w0.heap.size := by omega
  have hr0 := hr.later hb0
  have hs0 := hid (hs.later hb0)
  have hpp := hid (show _ ∧ _ ∧ _ from ⟨p0, p1, p2⟩)
  have hO1 : OutSt w0 (w0.alloc (.cells #[.int .i64 s.al, .int .i64 s.st, .slice none 0 0] 25)) R P w0.heap.size w0.heap.size s.al s.st (.slice none 0 0) [] 0 :=
    ⟨Blk.new _ _ _, World.ownsRow_nil _ _ _ _, Nat.le_refl _, hr0.later ((Below.refl _ _).alloc (Nat.le_refl _) _), (KeepB.refl _ _).alloc _, Nat.le_refl _, Nat.le_refl _⟩
  have hgs : w0.heap.size < (w0.alloc (.cells #[.int .i64 s.al, .int .i64 s.st, .slice none 0 0] 25)).heap.size := by simp
  have hO1' := hid hO1
  have hpk : ∀ wx, KeepB (fun b => b = R) w0 wx → Hid (wx.cell? ⟨w.heap.size, 0, none⟩ = some (.int .i64 s.al) ∧ wx.cell? ⟨w.heap.size, 1, none⟩ = some (.int .i64 s.st) ∧ wx.cell? ⟨w.heap.size, 2, none⟩ = some (.slice A s.es.length c)) := fun wx hk =>
    hid ⟨by rw [KeepB.cell_ hk (p := ⟨w.heap.size, 0, none⟩) (by show w.heap.size < _; omega) (by show ¬ w.heap.size = R; omega)]; exact hpp.out.1, by rw [KeepB.cell_ hk (p := ⟨w.heap.size, 1, none⟩) (by show w.heap.size < _; omega) (by show ¬ w.heap.size = R; omega)]; exact hpp.out.2.1, by rw [KeepB.cell_ hk (p := ⟨w.heap.size, 2, none⟩) (by show w.heap.size < _; omega) (by show ¬ w.heap.size = R; omega)]; exact hpp.out.2.2⟩
  replace hres := hid hres
  replace hsz0 := hid hsz0
  replace hf := hid hf
  have hp1 := hpk _ hO1'.out.keep
  have a0 := hp1.out.1
  have a1 := hp1.out.2.1
  have a2 := hp1.out.2.2
  clear hs hr hr0 hO1 hpar hgs
  go_enter Tryz.func36, Tryz.ntmps36
  go_wp2_with fail
  refine (pick_up R P ((s.es.length : Int) + 2) _ (by omega) (by omega) hO1'.out.rd).mono ?_
  rintro e w2 ⟨q, rfl, hq0, hq1, hr2, hk2⟩
  have hO2 := hid (hO1'.out.call hk2 hr2 hR0)
  clear hr2 hk2 hO1' hw0 p0 p1 p2 hq0 hq1 a0 a1 a2 hp1
  have hneR : w.heap.size ≠ R := by omega
  have hp2 := hpk w2 hO2.out.keep
  have c1 := hp2.out.2.1
  have q1 := RI.cell hO2.out.rd c1 hneR
  go_wp2_with fail
  clear c1
  refine GK.wp_region 10 [10] 200 (KeepB fun b => b = R) (RI w2 R (P + 1)) (fun _ u _ => ∃ x : Int, u = .int .i64 x) (by kernel_rfl) (by kernel_rfl) (RI.way w2 R _) (by decide) (RI.drew hO2.out.rd) ?_
  simp only [List.take_succ_cons, List.take_zero]
  (repeat (refine GK.grow_quiet w2 (by rfl) (by rfl) ?_; intro K hK; go_big_quiet_op; go_big_quiet_on))
  refine GK.grow_call (by rfl) (fun u w w' _ h => h) (fun m wq hm hbq hf => ?_) ?_
  · go_simp
    exact ⟨rfl, (pick_upF R (P + 1 + m * 10000) s.st wq (by omega) hbq.2).mono fun e w' ⟨x, h2, _, _, h3, h4⟩ => ⟨_, h2, RI.call hbq h4 h3 (by omega), x, rfl⟩⟩
  rintro u ⟨_, _, _, x1, rfl⟩
  simp only [Act.put, List.setIfInBounds_toArray, List.set_cons_zero, List.set_cons_succ]
  (repeat (refine GK.grow_quiet w2 (by rfl) (by rfl) ?_; intro K hK; go_big_quiet_op; go_big_quiet_on))
  refine GK.grow_call (by rfl) (fun u w w' _ h => h) (fun m wq hm hbq hf => ?_) ?_
  · go_simp
    exact ⟨rfl, (pick_upF R (P + 1 + m * 10000) s.st wq (by omega) hbq.2).mono fun e w' ⟨x, h2, _, _, h3, h4⟩ => ⟨_, h2, RI.call hbq h4 h3 (by omega), x, rfl⟩⟩
  rintro u ⟨_, _, _, x2, rfl⟩
  simp only [Act.put, List.setIfInBounds_toArray, List.set_cons_zero, List.set_cons_succ]
  (repeat (refine GK.grow_quiet w2 (by rfl) (by rfl) ?_; intro K hK; go_big_quiet_op; go_big_quiet_on))
  have hO2h := hO2.out.keep.size
  have hO2b := hO2.out.blk.lt
  refine GK.grow_new (K := fun b => b = R) (by rfl) w2.heap.size (fun b => .pointer (some ⟨b, 0, none⟩)) 50 #[.int .i64 0, .int .i64 0, .int .i64 0] (fun _ => by go_simp) rfl (fun _ _ o h => RI.alloc o h) (fun _ _ h => RI.size h) (fun k hk => by omega) (fun ge hge => ?_)
  simp only [Act.put, List.setIfInBounds_toArray, List.set_cons_zero, List.set_cons_succ]
  refine GK.grow_nil ?_
  intro w3 hw3 hfx
  obtain ⟨g', z1, z2, hblk⟩ := hfx _ List.mem_cons_self
  cases z1
  clear hfx q1
  simp only [List.filterMap_cons, List.filterMap_nil, List.getElem?_cons_zero, List.getElem?_cons_succ]
  have hblk3 : Blk w3 ge 50 #[.int .i64 0, .int .i64 0, .int .i64 0] := hblk
  have hO3 := hO2.out.call hw3.1 hw3.2 hR0
  have hE4 : ChSt w0 (((w3.setCell ⟨ge, 0, none⟩ (.int .i64 x1)).setCell ⟨ge, 1, none⟩ (.int .i64 0)).setCell ⟨ge, 2, none⟩ (.int .i64 x2)) R (P + 1 + 10 * 10000) w0.heap.size ge s.al s.st (.slice none 0 0) [] 0 ⟨x1, 0, x2⟩ := by
    have hk : KeepB (fun b => b = ge) w3 (((w3.setCell ⟨ge, 0, none⟩ (.int .i64 x1)).setCell ⟨ge, 1, none⟩ (.int .i64 0)).setCell ⟨ge, 2, none⟩ (.int .i64 x2)) := (((KeepB.refl _ w3).setCell _ _ (by simp)).setCell _ _ (by simp)).setCell _ _ (by simp)
    refine ⟨⟨hO3.blk.keep hk (by omega), World.ownsRow_nil _ _ _ _, Nat.le_refl _, hO3.rd.keep hk (by omega), ((hO3.keep.setCell _ _ (by simp; omega)).setCell _ _ (by simp; omega)).setCell _ _ (by simp; omega), Nat.le_refl _, Nat.le_refl _⟩, ?_, (fun k hk => by cases hk), by omega⟩
    simpa using ((hblk3.set_ 0 (.int .i64 x1)).set_ 1 (.int .i64 0)).set_ 2 (.int .i64 x2)
  have d0 := hblk3.cell 0
  have d1 := hblk3.cell 1
  have d2 := hblk3.cell 2
  have f0 := hblk3.frozen 0
  have f1 := hblk3.frozen 1
  have f2 := hblk3.frozen 2
  simp only [List.getElem?_toArray, List.getElem?_cons_zero, List.getElem?_cons_succ] at d0 d1 d2
  have hgl3 := hblk3.lt
  obtain ⟨w4, hw4⟩ : ∃ w4, ((w3.setCell ⟨ge, 0, none⟩ (.int .i64 x1)).setCell ⟨ge, 1, none⟩ (.int .i64 0)).setCell ⟨ge, 2, none⟩ (.int .i64 x2) = w4 := ⟨_, rfl⟩
  rw [hw4] at hE4
  replace hE4 := hid hE4
  have hp4 := hpk w4 hE4.out.out.keep
  have c0 := hp4.out.1
  clear hO3 hblk hblk3 hw3
  go_wp2_with fail
  refine (l1Letters_any s.al w4).mono ?_
  rintro e w5 ⟨lv, rfl, hown, hb5⟩
  clear hw4 d0 d1 d2 f0 f1 f2 c0
  have hE5 := hid ((hE4.out.later hb5 hR0).more (P' := P + 200000) (L' := 0) (by omega) (by omega))
  obtain ⟨ls, hls⟩ : ∃ ls, Hid (ls = letters s.al) := ⟨_, hid rfl⟩
  rw [← hls.out] at hown
  have hl6 : ls.length ≤ 6 := by rw [hls.out]; exact lettersTo_len s.al 6
  obtain ⟨Al, cl, hvl, hcl, hcl'⟩ := own_slice hown
  subst hvl
  have hRl : R < w4.heap.size := by have := hE4.out.out.keep.size; omega
  replace hown := hid hown
  go_upto_region 5 with fail
  go_cut [9] (fun sm wx => ∃ b : Bool, sm = .bool b ∧ (b = true → 0 < ls.length) ∧ ChSt w0 wx R (P + 200001) w0.heap.size ge s.al s.st (.slice none 0 0) [] 0 ⟨x1, 0, x2⟩ ∧ OwnNats wx w4.heap.size (.slice Al ls.length cl) ls)
  case first =>
    by_cases hl0 : ls.length = 0
    · go_wp2_with fail
      go_meet
      exact ⟨false, rfl, by simp, hE5.out.more (by omega) (by omega), hown.out⟩
    · have e0 : (0 : Int) < (ls.length : Int) := by omega
      replace hl0 := hid hl0
      go_wp2_with fail
      refine (pick_up R (P + 200000) 2 w5 (by omega) (by omega) hE5.out.out.rd).mono ?_
      rintro e w6 ⟨j, rfl, hj0, hj1, hr6, hk6⟩
      have hE6 := hid (hE5.out.call hk6 hr6 hR0)
      have hown6 := hid (own_keep hown.out hk6 (fun g hg => by have := (World.ownsRow.lt hown.out g hg).1; omega))
      clear hr6 hk6 hj1
      by_cases hj : j = 0
      · subst hj
        go_wp2_with fail
        go_meet
        exact ⟨true, rfl, fun _ => by omega, hE6.out, hown6.out⟩
      · have hjb : ((j : Int) == 0) = false := by simpa using hj
        replace hj := hid hj
        go_wp2_with fail
        go_meet
        exact ⟨false, rfl, by simp, hE6.out, hown6.out⟩
  case rest =>
    clear hE5 hown
    obtain ⟨b, rfl, hbl, hE, hown⟩ := hcut
    replace hE := hid hE
    replace hown := hid hown
    go_upto_if 42 with fail
    go_cut [] (fun wx => ∃ y : Ed, ChSt w0 wx R (P + 200002) w0.heap.size ge s.al s.st (.slice none 0 0) [] 0 y)
    case first =>
      cases b
      · go_wp2_with fail
        go_meet
        exact ⟨_, hE.out.more (by omega) (by omega)⟩
      · have hl0 := hbl rfl
        clear hbl
        have hE6 := hE
        go_wp2_with fail
        refine (pick_up R (P + 200001) ls.length _ (by omega) (by omega) hE.out.out.rd).mono ?_
        rintro e w7 ⟨j, rfl, hj0, hj1, hr7, hk7⟩
        obtain ⟨q2, rfl⟩ := Int.eq_ofNat_of_zero_le hj0
        have hql : q2 < ls.length := by omega
        have hE7 := hid (hE.out.call hk7 hr7 hR0)
        have hown7 := hid (own_keep hown.out hk7 (fun g hg => by have := (World.ownsRow.lt hown.out g hg).1; omega))
        clear hr7 hk7 hj0 hj1
        obtain ⟨g, cap, hve, hg1, hg2, -, -, hLL⟩ := own_nats hown7.out (by omega)
        cases hve
        have l0 := hLL q2 hql
        obtain ⟨l, hl'⟩ : ∃ l : Nat, l = ls[q2] := ⟨_, rfl⟩
        rw [← hl'] at l0
        replace hl' := hid hl'
        replace hLL := hid hLL
        have i1 : (0 : Int) ≤ (q2 : Int) ∧ (q2 : Int) < (ls.length : Int) := by omega
        have d1 := hE7.out.ed.cell 1
        have f1 := hE7.out.ed.frozen 1
        simp only [List.getElem?_toArray, List.getElem?_cons_zero, List.getElem?_cons_succ] at d1
        have hgl7 := hE7.out.ed.lt
        go_wp2_with fail
        go_meet
        have hk : KeepB (fun b => b = ge) w7 (w7.setCell ⟨ge, 1, none⟩ (.int .i64 (l : Nat))) := (KeepB.refl _ w7).setCell _ _ (by simp)
        have h7 := hE7.out
        have hgl := h7.lt
        exact ⟨⟨x1, l, x2⟩, ⟨h7.out.blk.keep hk (by omega), World.ownsRow_nil _ _ _ _, Nat.le_refl _, h7.out.rd.keep hk (by omega), h7.out.keep.setCell _ _ (by simp; omega), Nat.le_refl _, Nat.le_refl _⟩, by simpa using h7.ed.set_ 1 (.int .i64 (l : Nat)), (fun k hk => by cases hk), hgl⟩
    case rest =>
      clear hE hown hbl
      obtain ⟨y, hE⟩ := hcut
      replace hE := hid hE
      go_wp2_with fail
      go_loopw [9, 10] (fun mv iv wr => ∃ (m : Bool) (k : Nat) (v : Value) (es : List Ed), mv = .bool m ∧ iv = .int .i64 k ∧ k ≤ s.es.length ∧ ChSt w0 wr R (P + 200002) w0.heap.size ge s.al s.st v es (2 * k) y) (fun _ iv _ => s.es.length - (intOf iv).toNat)
      case atStart => exact ⟨b, 0, _, [], rfl, rfl, by omega, hE.out⟩
      case round =>
        obtain ⟨m, k, v, es, rfl, rfl, hk, hs⟩ := hrel
        clear hE
        replace hs := hid hs
        have hpw := hpk wr hs.out.out.keep
        have p2 := hpw.out.2.2
        by_cases hlt : k < s.es.length
        · have hlt' : (k : Int) < (s.es.length : Int) := by omega
          obtain ⟨sb, so, hA, hsb, hEs⟩ := hs0.out (by omega)
          have hsR : sb ≠ R := by have := hf.out sb so hA; omega
          obtain ⟨z, hz⟩ : ∃ z, Hid (z = s.es[k]) := ⟨_, hid rfl⟩
          have hzc : ∀ wx, KeepB (fun b => b = R) w0 wx → Hid (wx.cell? ⟨sb, so + k * 3, none⟩ = some (.int .i64 z.f) ∧ wx.cell? ⟨sb, so + k * 3 + 1, none⟩ = some (.int .i64 z.l) ∧ wx.cell? ⟨sb, so + k * 3 + 2, none⟩ = some (.int .i64 z.t)) := fun wx hkx => by
            have e := hEs k hlt
            rw [hz.out]
            exact hid ⟨by rw [KeepB.cell_ hkx hsb hsR]; exact e.1, by rw [KeepB.cell_ hkx hsb hsR]; exact e.2.1, by rw [KeepB.cell_ hkx hsb hsR]; exact e.2.2⟩
          have i1 : (0 : Int) ≤ (k : Int) ∧ (k : Int) < (s.es.length : Int) := by omega
          subst hA
          replace hEs := hid hEs
          replace hf := hid hf
          go_upto_region 11 with fail
          clear p2 hpw
          go_cut [67] (fun tv wx => ∃ tb : Bool, tv = .bool tb ∧ ChSt w0 wx R (P + 200002) w0.heap.size ge s.al s.st v es (2 * k) y)
          case first =>
            cases m
            · refine GK.wp_region 10 [] 200 (KeepB fun _ => False) (GK.BI wr) (fun _ u _ => u = .bool (edgeLt y z)) (by kernel_rfl) (by kernel_rfl) (GK.BI.way wr) (by decide) (Below.refl _ _).drew ?_
              simp only [List.take_succ_cons, List.take_zero]
              (repeat (refine GK.grow_quiet wr (by rfl) (by rfl) ?_; intro K hK; go_big_quiet_op; go_big_quiet_on))
              (repeat (refine GK.grow_skip (by rfl) ?_; simp only [Act.put, List.setIfInBounds_toArray, List.set_cons_zero, List.set_cons_succ]))
              (repeat (refine GK.grow_quiet wr (by rfl) (by rfl) ?_; intro K hK; go_big_quiet_op; go_big_quiet_on))
              refine GK.grow_nil ?_
              intro w4 hw4 _
              replace hw4 : Below wr.heap.size wr w4 := hw4
              simp only [List.filterMap_cons, List.filterMap_nil, List.getElem?_cons_zero, List.getElem?_cons_succ]
              have hS4 := hid (hs.out.later hw4 hR0)
              go_wp2_with fail
              go_meet
              exact ⟨_, rfl, hS4.out⟩
            · have hzw := hzc wr hs.out.out.keep
              have hpw := hpk wr hs.out.out.keep
              have q0 := GK.BI.cell hzw.out.1
              have q1 := GK.BI.cell hzw.out.2.1
              have q2 := GK.BI.cell hzw.out.2.2
              have q3 := GK.BI.cell hpw.out.2.2
              have y0 := hs.out.ed.cell 0
              have y1 := hs.out.ed.cell 1
              have y2 := hs.out.ed.cell 2
              simp only [List.getElem?_toArray, List.getElem?_cons_zero, List.getElem?_cons_succ] at y0 y1 y2
              replace y0 := GK.BI.cell y0
              replace y1 := GK.BI.cell y1
              replace y2 := GK.BI.cell y2
              refine GK.wp_region 10 [] 200 (KeepB fun _ => False) (GK.BI wr) (fun _ u _ => u = .bool (edgeLt y z)) (by kernel_rfl) (by kernel_rfl) (GK.BI.way wr) (by decide) (Below.refl _ _).drew ?_
              simp only [List.take_succ_cons, List.take_zero]
              (repeat (refine GK.grow_quiet wr (by rfl) (by rfl) ?_; intro K hK; go_big_quiet_op; go_big_quiet_on))
              refine GK.grow_call (by rfl) (fun u w w' _ h => h) (fun mm wq hm hbq hf => ?_) ?_
              · go_simp
                exact ⟨rfl, (l2Before_any y z wq).mono fun e w' ⟨h2, h3⟩ => ⟨h2, GK.BI.after hbq h3⟩⟩
              rintro u ⟨_, _, _, rfl⟩
              simp only [Act.put, List.setIfInBounds_toArray, List.set_cons_zero, List.set_cons_succ]
              (repeat (refine GK.grow_quiet wr (by rfl) (by rfl) ?_; intro K hK; go_big_quiet_op; go_big_quiet_on))
              refine GK.grow_nil ?_
              intro w4 hw4 _
              replace hw4 : Below wr.heap.size wr w4 := hw4
              simp only [List.filterMap_cons, List.filterMap_nil, List.getElem?_cons_zero, List.getElem?_cons_succ]
              have hS4 := hid (hs.out.later hw4 hR0)
              clear q0 q1 q2 q3 y0 y1 y2
              go_wp2_with fail
              go_meet
              exact ⟨_, rfl, hS4.out⟩
          case rest =>
            clear hs
            obtain ⟨tb, rfl, hs⟩ := hcut
            replace hs := hid hs
            go_upto_if 67 with fail
            go_cut [9] (fun mv wx => ∃ (m : Bool) (v : Value) (es : List Ed), mv = .bool m ∧ ChSt w0 wx R (P + 200002) w0.heap.size ge s.al s.st v es (2 * k + 1) y)
            case first =>
              cases tb
              · go_wp2_with fail
                go_meet
                exact ⟨_, _, _, rfl, hs.out.more (Nat.le_refl _) (by omega)⟩
              · obtain ⟨Av, cv, hve, hcv, hcv'⟩ := own_slice hs.out.out.own
                subst hve
                have g2 := hs.out.out.blk.cell 2
                have y0 := hs.out.ed.cell 0
                have y1 := hs.out.ed.cell 1
                have y2 := hs.out.ed.cell 2
                simp only [List.getElem?_toArray, List.getElem?_cons_zero, List.getElem?_cons_succ] at g2 y0 y1 y2
                have gl := hs.out.out.blk.lt
                have el := hs.out.ed.lt
                have hown := hid hs.out.out.own
                have hlen := hs.out.out.len
                go_wp2_with (at_builtin; refine wpList_append_own_at _ (by rfl) _ _ 23 (by rfl) w0.heap.size 50 i0 (.agg #[.int .i64 0, .int .i64 0, .int .i64 0]) 3 24 Tryz.underlying23 hi hz0 hz1 hz2 rfl (by decide) _ es.length (edCells es) (by rfl) (hown.out.alloc _) ⟨wc.heap.size, 0, none⟩ 1 1 [.int .i64 y.f, .int .i64 y.l, .int .i64 y.t] (by rfl) (by rfl) (World.news_of_block (heap_alloc_new wc _)) ?c1 ?c3 ?c4 ?c5 ?_)
                case c1 => simp [Value.oneCell']
                case c3 => unfold maxLen; omega
                case c4 => omega
                case c5 => have := hs.out.out.keep.size; simp; omega
                intro v9 w9 hown9 hgrow9 hnil9 hat9
                obtain ⟨A9, c9, hv9, -, -⟩ := own_slice hown9
                subst hv9
                have hL := hs.out.later ((Below.refl _ wc).alloc (Nat.le_refl _) (.cells #[.int .i64 y.f, .int .i64 y.l, .int .i64 y.t] 50)) hR0
                have ag := hL.out.ne
                have gll := hL.out.blk.lt
                have g2' : w9.cell? ⟨w0.heap.size, 2, none⟩ = some (.slice Av es.length cv) := by rw [hgrow9.cell_far _ gll (Ne.symm ag)]; exact hL.out.blk.cell 2
                have f2' : w9.frozen? ⟨w0.heap.size, 2, none⟩ = false := by rw [hgrow9.frozen_far _ gll (Ne.symm ag)]; exact hL.out.blk.frozen 2
                have h9 := hid (hL.add hR0 hown9 hgrow9 (by rw [World.size_alloc]; exact hat9))
                clear hown9 hgrow9 hnil9 hat9 hL g2 y0 y1 y2 ag
                go_wp2_with fail
                go_meet
                exact ⟨false, _, _, rfl, h9.out⟩
            case rest =>
              clear hs
              obtain ⟨m, v, es, rfl, hs⟩ := hcut
              replace hs := hid hs
              go_upto_region 14 with fail
              go_cut [83] (fun tv wx => ∃ tb : Bool, tv = .bool tb ∧ ChSt w0 wx R (P + 200002) w0.heap.size ge s.al s.st v es (2 * k + 1) y)
              case first =>
                cases m
                · refine GK.wp_region 10 [] 200 (KeepB fun _ => False) (GK.BI wc) (fun _ _ _ => True) (by kernel_rfl) (by kernel_rfl) (GK.BI.way wc) (by decide) (Below.refl _ _).drew ?_
                  simp only [List.take_succ_cons, List.take_zero]
                  (repeat (refine GK.grow_quiet wc (by rfl) (by rfl) ?_; intro K hK; go_big_quiet_op; go_big_quiet_on))
                  (repeat (refine GK.grow_skip (by rfl) ?_; simp only [Act.put, List.setIfInBounds_toArray, List.set_cons_zero, List.set_cons_succ]))
                  (repeat (refine GK.grow_quiet wc (by rfl) (by rfl) ?_; intro K hK; go_big_quiet_op; go_big_quiet_on))
                  refine GK.grow_nil ?_
                  intro w4 hw4 _
                  replace hw4 : Below wc.heap.size wc w4 := hw4
                  simp only [List.filterMap_cons, List.filterMap_nil, List.getElem?_cons_zero, List.getElem?_cons_succ]
                  have hS4 := hid (hs.out.later hw4 hR0)
                  go_wp2_with fail
                  go_meet
                  exact ⟨_, rfl, hS4.out⟩
                · have hzw := hzc wc hs.out.out.keep
                  have hpw := hpk wc hs.out.out.keep
                  have q0 := GK.BI.cell hzw.out.1
                  have q1 := GK.BI.cell hzw.out.2.1
                  have q2 := GK.BI.cell hzw.out.2.2
                  have q3 := GK.BI.cell hpw.out.2.2
                  have y0 := hs.out.ed.cell 0
                  have y1 := hs.out.ed.cell 1
                  have y2 := hs.out.ed.cell 2
                  simp only [List.getElem?_toArray, List.getElem?_cons_zero, List.getElem?_cons_succ] at y0 y1 y2
                  replace y0 := GK.BI.cell y0
                  replace y1 := GK.BI.cell y1
                  replace y2 := GK.BI.cell y2
                  refine GK.wp_region 10 [] 200 (KeepB fun _ => False) (GK.BI wc) (fun _ _ _ => True) (by kernel_rfl) (by kernel_rfl) (GK.BI.way wc) (by decide) (Below.refl _ _).drew ?_
                  simp only [List.take_succ_cons, List.take_zero]
                  (repeat (refine GK.grow_quiet wc (by rfl) (by rfl) ?_; intro K hK; go_big_quiet_op; go_big_quiet_on))
                  by_cases a1 : y.f = z.f <;> by_cases a2 : y.l = z.l <;> by_cases a3 : y.t = z.t
                  all_goals
                    (repeat (refine GK.grow_quiet wc (by rfl) (by rfl) ?_; intro K hK; go_big_quiet_op; go_big_quiet_on))
                    refine GK.grow_nil ?_
                    intro w4 hw4 _
                    replace hw4 : Below wc.heap.size wc w4 := hw4
                    simp only [List.filterMap_cons, List.filterMap_nil, List.getElem?_cons_zero, List.getElem?_cons_succ]
                    have hS4 := hid (hs.out.later hw4 hR0)
                    clear q0 q1 q2 q3 y0 y1 y2
                    go_wp2_with fail
                    go_meet
                    exact ⟨_, rfl, hS4.out⟩
              case rest =>
                clear hs
                obtain ⟨tb, rfl, hs⟩ := hcut
                replace hs := hid hs
                go_upto_if 83 with fail
                go_cut [9] (fun mv wx => ∃ (m : Bool), mv = .bool m ∧ ChSt w0 wx R (P + 200002) w0.heap.size ge s.al s.st v es (2 * k + 1) y)
                case first =>
                  cases tb
                  · go_wp2_with fail
                    go_meet
                    exact ⟨_, rfl, hs.out⟩
                  · go_wp2_with fail
                    go_meet
                    exact ⟨_, rfl, hs.out⟩
                case rest =>
                  clear hs
                  obtain ⟨m, rfl, hs⟩ := hcut
                  replace hs := hid hs
                  by_cases hg : (k : Int) = q
                  · have hgb : ((k : Int) != q) = false := by simp [hg]
                    replace hg := hid hg
                    go_wp2_with fail
                    go_roundw
                    case rel => exact ⟨m, k + 1, _, _, rfl, by go_num, by omega, hs.out.more (Nat.le_refl _) (by omega)⟩
                    case measure => simp [intOf]; omega
                  · have hgb : ((k : Int) != q) = true := by simp [hg]
                    replace hg := hid hg
                    obtain ⟨Av, cv, hve, hcv, hcv'⟩ := own_slice hs.out.out.own
                    subst hve
                    have hzw := hzc wc hs.out.out.keep
                    have hpw := hpk wc hs.out.out.keep
                    have q0 := GK.BI.cell hzw.out.1
                    have q1 := GK.BI.cell hzw.out.2.1
                    have q2 := GK.BI.cell hzw.out.2.2
                    have q3 := GK.BI.cell hpw.out.2.2
                    have g2 := hs.out.out.blk.cell 2
                    simp only [List.getElem?_toArray, List.getElem?_cons_zero, List.getElem?_cons_succ] at g2
                    replace g2 := GK.BI.cell g2
                    have ag := hid hs.out.out.ne
                    have hlen := hs.out.out.len
                    go_wp2_with fail
                    refine GK.wp_region 8 [8, 9, 10] 200 (KeepB fun _ => False) (GK.BI wc) (fun _ _ _ => True) (by kernel_rfl) (by kernel_rfl) (GK.BI.way wc) (by decide) (Below.refl _ _).drew ?_
                    simp only [List.take_succ_cons, List.take_zero]
                    (repeat (refine GK.grow_quiet wc (by rfl) (by rfl) ?_; intro K hK; go_big_quiet_op; go_big_quiet_on))
                    refine GK.grow_new (K := fun _ => False) (by rfl) _ (fun b => .slice (some ⟨b, 0, none⟩) 1 1) 50 #[.int .i64 z.f, .int .i64 z.l, .int .i64 z.t] (fun _ => by go_simp) rfl (fun _ _ o h => GK.BI.alloc o h) (fun _ _ h => GK.BI.size h) (fun _ h => h.elim) (fun nb hnb => ?_)
                    simp only [Act.put, List.setIfInBounds_toArray, List.set_cons_zero, List.set_cons_succ]
                    refine GK.grow_nil ?_
                    intro w4 hw4 hfx
                    obtain ⟨g', hge', hge2', hblk⟩ := hfx _ List.mem_cons_self
                    cases hge'
                    clear hfx q0 q1 q2 q3 g2
                    replace hw4 : Below wc.heap.size wc w4 := hw4
                    simp only [List.filterMap_cons, List.filterMap_nil, List.getElem?_cons_zero, List.getElem?_cons_succ]
                    have hS4 := hid (hs.out.later hw4 hR0)
                    have hb0s := hS4.out.out.keep.size
                    refine wpList_append_own_at _ (by rfl) _ _ 23 (by rfl) w0.heap.size 50 i0 (.agg #[.int .i64 0, .int .i64 0, .int .i64 0]) 3 24 Tryz.underlying23 hi hz0 hz1 hz2 rfl (by decide) _ es.length (edCells es) (by rfl) hS4.out.out.own ⟨nb, 0, none⟩ 1 1 [.int .i64 z.f, .int .i64 z.l, .int .i64 z.t] (by rfl) (by rfl) (World.news_of_block hblk) ?c1 ?c3 ?c4 ?c5 ?_
                    case c1 => simp [Value.oneCell']
                    case c3 => unfold maxLen; omega
                    case c4 => omega
                    case c5 => omega
                    intro v9 w9 hown9 hgrow9 hnil9 hat9
                    obtain ⟨A9, c9, hv9, -, -⟩ := own_slice hown9
                    subst hv9
                    have gll := hS4.out.out.blk.lt
                    have g2' : w9.cell? ⟨w0.heap.size, 2, none⟩ = some (.slice Av es.length cv) := by rw [hgrow9.cell_far _ gll (Ne.symm ag.out)]; exact hS4.out.out.blk.cell 2
                    have f2' : w9.frozen? ⟨w0.heap.size, 2, none⟩ = false := by rw [hgrow9.frozen_far _ gll (Ne.symm ag.out)]; exact hS4.out.out.blk.frozen 2
                    have h9 := hid ((hS4.out.add (y := z) hR0 hown9 hgrow9 hat9).more (P' := P + 200002) (L' := 2 * (k + 1)) (Nat.le_refl _) (by omega))
                    clear hown9 hgrow9 hnil9 hat9
                    go_wp2_with fail
                    go_roundw
                    case rel => exact ⟨m, k + 1, _, _, rfl, by go_num, by omega, h9.out⟩
                    case measure => simp [intOf]; omega
        · have hlt' : ¬ (k : Int) < (s.es.length : Int) := by omega
          cases m
          · obtain ⟨Av, cv, hve, hcv, hcv'⟩ := own_slice hs.out.out.own
            subst hve
            have hbl := hres.out.keep hs.out.out.keep (by omega)
            have d0 := hbl.cell 0
            have d1 := hbl.cell 1
            have d2 := hbl.cell 2
            have f0 := hbl.frozen 0
            have f1 := hbl.frozen 1
            have f2 := hbl.frozen 2
            have r0 := hs.out.out.blk.cell 0
            have r1 := hs.out.out.blk.cell 1
            have r2 := hs.out.out.blk.cell 2
            simp only [List.getElem?_toArray, List.getElem?_cons_zero, List.getElem?_cons_succ] at d0 d1 d2 r0 r1 r2
            have hlt9 := hbl.lt
            have hlt8 := hs.out.out.blk.lt
            have hfin := hid ((hs.out.out.up hb0 (P' := P + 4000000) (L' := 2 * L + 1) (by omega) (by omega)).fin (ρ := w.heap.size + 1) hR (by omega) (by have := hsz0.out; omega) (.int .i64 s.al) (.int .i64 s.st) (.slice Av es.length cv))
            clear hbl
            go_wp2
            refine bodyPost_ret (v := .agg #[.int .i64 s.al, .int .i64 s.st, .slice Av es.length cv]) (by simp [results, Tryz.results36, go_sem, d0, d1, d2]) rfl ?_
            exact hfin.out
          · obtain ⟨Av, cv, hve, hcv, hcv'⟩ := own_slice hs.out.out.own
            subst hve
            have g2 := hs.out.out.blk.cell 2
            have y0 := hs.out.ed.cell 0
            have y1 := hs.out.ed.cell 1
            have y2 := hs.out.ed.cell 2
            simp only [List.getElem?_toArray, List.getElem?_cons_zero, List.getElem?_cons_succ] at g2 y0 y1 y2
            have gl := hs.out.out.blk.lt
            have el := hs.out.ed.lt
            have hown := hid hs.out.out.own
            have hlen := hs.out.out.len
            go_wp2_with (at_builtin; refine wpList_append_own_at _ (by rfl) _ _ 23 (by rfl) w0.heap.size 50 i0 (.agg #[.int .i64 0, .int .i64 0, .int .i64 0]) 3 24 Tryz.underlying23 hi hz0 hz1 hz2 rfl (by decide) _ es.length (edCells es) (by rfl) (hown.out.alloc _) ⟨wr.heap.size, 0, none⟩ 1 1 [.int .i64 y.f, .int .i64 y.l, .int .i64 y.t] (by rfl) (by rfl) (World.news_of_block (heap_alloc_new wr _)) ?c1 ?c3 ?c4 ?c5 ?_)
            case c1 => simp [Value.oneCell']
            case c3 => unfold maxLen; omega
            case c4 => omega
            case c5 => have := hs.out.out.keep.size; simp; omega
            intro v9 w9 hown9 hgrow9 hnil9 hat9
            obtain ⟨A9, c9, hv9, -, -⟩ := own_slice hown9
            subst hv9
            have hL := hs.out.later ((Below.refl _ wr).alloc (Nat.le_refl _) (.cells #[.int .i64 y.f, .int .i64 y.l, .int .i64 y.t] 50)) hR0
            have ag := hL.out.ne
            have gll := hL.out.blk.lt
            have g2' : w9.cell? ⟨w0.heap.size, 2, none⟩ = some (.slice Av es.length cv) := by rw [hgrow9.cell_far _ gll (Ne.symm ag)]; exact hL.out.blk.cell 2
            have f2' : w9.frozen? ⟨w0.heap.size, 2, none⟩ = false := by rw [hgrow9.frozen_far _ gll (Ne.symm ag)]; exact hL.out.blk.frozen 2
            have h9 := hid (hL.add hR0 hown9 hgrow9 (by rw [World.size_alloc]; exact hat9))
            clear hown9 hgrow9 hnil9 hat9 hL g2 y0 y1 y2 ag
            have hbl := hres.out.keep h9.out.out.keep (by omega)
            have d0 := hbl.cell 0
            have d1 := hbl.cell 1
            have d2 := hbl.cell 2
            have f0 := hbl.frozen 0
            have f1 := hbl.frozen 1
            have f2 := hbl.frozen 2
            have r0 := h9.out.out.blk.cell 0
            have r1 := h9.out.out.blk.cell 1
            have r2 := h9.out.out.blk.cell 2
            simp only [List.getElem?_toArray, List.getElem?_cons_zero, List.getElem?_cons_succ] at d0 d1 d2 r0 r1 r2
            have hlt9 := hbl.lt
            have hlt8 := h9.out.out.blk.lt
            have hfin := hid ((h9.out.out.up hb0 (P' := P + 4000000) (L' := 2 * L + 1) (by omega) (by omega)).fin' (ρ := w.heap.size + 1) (n := es.length + 1) (by simp) hR (by omega) (by have := hsz0.out; omega) (.int .i64 s.al) (.int .i64 s.st) (.slice A9 (es.length + 1) c9))
            obtain ⟨w10, hw10⟩ : ∃ w10, w9.setCell ⟨w0.heap.size, 2, none⟩ (.slice A9 (es.length + 1) c9) = w10 := ⟨_, rfl⟩
            rw [hw10] at hfin d0 d1 d2 f0 f1 f2 r0 r1 r2 hlt9 hlt8
            clear hbl
            go_wp2
            refine bodyPost_ret (v := .agg #[.int .i64 s.al, .int .i64 s.st, .slice A9 (es.length + 1) c9]) (by simp [results, Tryz.results36, go_sem, d0, d1, d2]) rfl ?_
            exact hfin.out

end Go.Proofs.YtdkjnemakkppfaaGreatDoor

/- The drawing kit: l6Pair. -/
namespace Go.Proofs.YtdkjnemakkppfaaGreatDoor
open Go.RowKit Go.BigFrame AG

/-- A system that was drawn since w, whose edges lie in no block of K. -/
structure GotSy (w wr : World) (R L : Nat) (K : Nat → Prop) (s : Sy) (A : Option Addr) (c : Nat) : Prop where
  le : s.es.length ≤ c
  top : c ≤ 9223372036854775807
  len : s.es.length ≤ L
  at_ : EdsAt wr wr.heap.size A s.es
  fresh : FreshA w.heap.size A
  far : 0 < s.es.length → ∀ b o, A = some ⟨b, o, none⟩ → ¬ K b
theorem GotSy.keep {w wr w1 : World} {R L : Nat} {K J : Nat → Prop} {s : Sy} {A : Option Addr} {c : Nat} (h : GotSy w wr R L K s A c) (hk : KeepB J wr w1) (hJ : ∀ b, w.heap.size ≤ b → J b → K b) : GotSy w w1 R L K s A c := by
  refine ⟨h.le, h.top, h.len, fun hn => ?_, h.fresh, h.far⟩
  obtain ⟨b, o, hA, hb, hE⟩ := h.at_ hn
  have h1 := h.fresh b o hA
  have h2 := h.far hn b o hA
  have hnb : ¬ J b := fun e => h2 (hJ b h1 e)
  refine ⟨b, o, hA, Nat.lt_of_lt_of_le hb hk.size, fun i hi => ?_⟩
  rw [KeepB.cell_ hk hb hnb, KeepB.cell_ hk hb hnb, KeepB.cell_ hk hb hnb]
  exact hE i hi
theorem GotSy.call {w wr w1 : World} {R L : Nat} {K : Nat → Prop} {s : Sy} {A : Option Addr} {c : Nat} (h : GotSy w wr R L K s A c) (hk : KeepB (fun b => b = R) wr w1) (hR : R < w.heap.size) : GotSy w w1 R L K s A c := h.keep hk fun b h1 h2 => by omega
theorem GotSy.more {w wr : World} {R L L' : Nat} {K : Nat → Prop} {s : Sy} {A : Option Addr} {c : Nat} (h : GotSy w wr R L K s A c) (hL : L ≤ L') : GotSy w wr R L' K s A c := ⟨h.le, h.top, by have := h.len; omega, h.at_, h.fresh, h.far⟩
/-- What a drawing call gives is apart from all that was there. -/
theorem GotSy.new {w wr w1 : World} {R L : Nat} {K : Nat → Prop} {s : Sy} {A : Option Addr} {c : Nat} (h1 : s.es.length ≤ c) (h2 : c ≤ 9223372036854775807) (h3 : s.es.length ≤ L) (h4 : EdsAt w1 w1.heap.size A s.es) (h5 : FreshA wr.heap.size A) (hw : w.heap.size ≤ wr.heap.size) (hK : ∀ b, K b → b < wr.heap.size) : GotSy w w1 R L K s A c :=
  ⟨h1, h2, h3, h4, fun b o e => by have := h5 b o e; omega, fun _ b o e hk => by have := h5 b o e; have := hK b hk; omega⟩

/-- Two systems in two blocks. -/
structure TwoSt (w wr : World) (R P L b4 b5 : Nat) (s t : Sy) (A B : Option Addr) (c d : Nat) : Prop where
  sb : Blk wr b4 25 #[.int .i64 s.al, .int .i64 s.st, .slice A s.es.length c]
  tb : Blk wr b5 25 #[.int .i64 t.al, .int .i64 t.st, .slice B t.es.length d]
  sg : GotSy w wr R L (fun b => b = b4 ∨ b = b5) s A c
  tg : GotSy w wr R L (fun b => b = b4 ∨ b = b5) t B d
  rd : RdUp wr R P
  keep : KeepB (fun b => b = R) w wr
  l4 : w.heap.size ≤ b4
  l5 : w.heap.size ≤ b5
  ne : b4 ≠ b5
theorem TwoSt.call {w wr w1 : World} {R P P' L b4 b5 : Nat} {s t : Sy} {A B : Option Addr} {c d : Nat} (h : TwoSt w wr R P L b4 b5 s t A B c d) (hk : KeepB (fun b => b = R) wr w1) (hr : RdUp w1 R P') (hR : R < w.heap.size) : TwoSt w w1 R P' L b4 b5 s t A B c d :=
  ⟨h.sb.keep hk (by have := h.l4; omega), h.tb.keep hk (by have := h.l5; omega), h.sg.call hk hR, h.tg.call hk hR, hr, h.keep.trans hk, h.l4, h.l5, h.ne⟩
theorem TwoSt.more {w wr : World} {R P P' L L' b4 b5 : Nat} {s t : Sy} {A B : Option Addr} {c d : Nat} (h : TwoSt w wr R P L b4 b5 s t A B c d) (hP : P ≤ P') (hL : L ≤ L') : TwoSt w wr R P' L' b4 b5 s t A B c d :=
  ⟨h.sb, h.tb, h.sg.more hL, h.tg.more hL, h.rd.more hP, h.keep, h.l4, h.l5, h.ne⟩
theorem TwoSt.setS {w wr : World} {R P L b4 b5 : Nat} {s t s' : Sy} {A B A' : Option Addr} {c d c' : Nat} (h : TwoSt w wr R P L b4 b5 s t A B c d) (hs : GotSy w wr R L (fun b => b = b4 ∨ b = b5) s' A' c') (hR : R < w.heap.size) :
    TwoSt w (((wr.setCell ⟨b4, 0, none⟩ (.int .i64 s'.al)).setCell ⟨b4, 1, none⟩ (.int .i64 s'.st)).setCell ⟨b4, 2, none⟩ (.slice A' s'.es.length c')) R P L b4 b5 s' t A' B c' d := by
  have hk : KeepB (fun b => b = b4) wr (((wr.setCell ⟨b4, 0, none⟩ (.int .i64 s'.al)).setCell ⟨b4, 1, none⟩ (.int .i64 s'.st)).setCell ⟨b4, 2, none⟩ (.slice A' s'.es.length c')) := (((KeepB.refl _ wr).setCell _ _ (by simp)).setCell _ _ (by simp)).setCell _ _ (by simp)
  have h4 := h.l4
  have h5 := h.l5
  have hne := h.ne
  refine ⟨by simpa using ((h.sb.set_ 0 (.int .i64 s'.al)).set_ 1 (.int .i64 s'.st)).set_ 2 (.slice A' s'.es.length c'), h.tb.keep hk (by omega), hs.keep hk (fun b _ e => .inl e), h.tg.keep hk (fun b _ e => .inl e), h.rd.keep hk (by omega), ?_, h4, h5, hne⟩
  exact ((h.keep.setCell _ _ (by simp; omega)).setCell _ _ (by simp; omega)).setCell _ _ (by simp; omega)
theorem TwoSt.setT {w wr : World} {R P L b4 b5 : Nat} {s t t' : Sy} {A B B' : Option Addr} {c d d' : Nat} (h : TwoSt w wr R P L b4 b5 s t A B c d) (ht : GotSy w wr R L (fun b => b = b4 ∨ b = b5) t' B' d') (hR : R < w.heap.size) :
    TwoSt w (((wr.setCell ⟨b5, 0, none⟩ (.int .i64 t'.al)).setCell ⟨b5, 1, none⟩ (.int .i64 t'.st)).setCell ⟨b5, 2, none⟩ (.slice B' t'.es.length d')) R P L b4 b5 s t' A B' c d' := by
  have hk : KeepB (fun b => b = b5) wr (((wr.setCell ⟨b5, 0, none⟩ (.int .i64 t'.al)).setCell ⟨b5, 1, none⟩ (.int .i64 t'.st)).setCell ⟨b5, 2, none⟩ (.slice B' t'.es.length d')) := (((KeepB.refl _ wr).setCell _ _ (by simp)).setCell _ _ (by simp)).setCell _ _ (by simp)
  have h4 := h.l4
  have h5 := h.l5
  have hne := h.ne
  refine ⟨h.sb.keep hk (by omega), by simpa using ((h.tb.set_ 0 (.int .i64 t'.al)).set_ 1 (.int .i64 t'.st)).set_ 2 (.slice B' t'.es.length d'), h.sg.keep hk (fun b _ e => .inr e), ht.keep hk (fun b _ e => .inr e), h.rd.keep hk (by omega), ?_, h4, h5, hne⟩
  exact ((h.keep.setCell _ _ (by simp; omega)).setCell _ _ (by simp; omega)).setCell _ _ (by simp; omega)

/-- A statement at a block's end may be cut around too. -/
theorem cut_here {P : Program} {c : Code} {Q : Exit → Act → World → Prop} {a : Act} {w : World} (h : ∀ K : Act → World → Prop, (∀ a w, Q .normal a w → K a w) → c.wp P (Exit.then K Q) a w) : c.wp P Q a w := by
  refine wp_mono (h (fun a w => Q .normal a w) fun _ _ q => q) ?_
  intro e a' w' hq
  cases e <;> exact hq

theorem EdsAt.take {w : World} {B : Nat} {A : Option Addr} {es : List Ed} (h : EdsAt w B A es) (n : Nat) : EdsAt w B A (es.take n) := fun hn => by
  rw [List.length_take] at hn
  obtain ⟨b, o, h1, h2, h3⟩ := h (by omega)
  refine ⟨b, o, h1, h2, fun i hi => ?_⟩
  have := h3 i (by rw [List.length_take] at hi; omega)
  simpa [List.getElem_take] using this

def PairUp (R P L : Nat) (w : World) (e : Ending) (w' : World) : Prop :=
  ∃ (s t : Sy) (A B : Option Addr) (c d : Nat), e = .returned (.tuple #[s.val A c, t.val B d]) ∧ GotSy w w' R L (fun _ => False) s A c ∧ GotSy w w' R L (fun _ => False) t B d ∧ RdUp w' R P ∧ KeepB (fun b => b = R) w w'

theorem PairUp.drew {R P L : Nat} {w w' : World} {e : Ending} (h : PairUp R P L w e w') : PairUp R P L w e w'.drew := by
  obtain ⟨s, t, A, B, c, d, he, h1, h2, h3, h4⟩ := h
  have hb : Below w'.heap.size w' w'.drew := (Below.refl _ _).drew
  exact ⟨s, t, A, B, c, d, he, h1.keep (KeepB.of_below (K := fun _ => False) hb) (fun _ _ h => h), h2.keep (KeepB.of_below (K := fun _ => False) hb) (fun _ _ h => h), h3.later hb, h4.trans (KeepB.of_below hb)⟩
theorem TwoSt.fin {w w0 wr : World} {R P P' L L' b4 b5 : Nat} {s t : Sy} {A B : Option Addr} {c d : Nat} (h : TwoSt w0 wr R P L b4 b5 s t A B c d) (hb : Below w.heap.size w w0) (hsz : w.heap.size + 2 ≤ w0.heap.size) (hR : R < w.heap.size) (hP : P ≤ P') (hL : L ≤ L') {v1 v2 v3 v4 v5 v6 : Value} :
    PairUp R P' L' w (.returned (.tuple #[.agg #[.int .i64 s.al, .int .i64 s.st, .slice A s.es.length c], .agg #[.int .i64 t.al, .int .i64 t.st, .slice B t.es.length d]]))
      ((((((wr.setCell ⟨w.heap.size, 0, none⟩ v1).setCell ⟨w.heap.size, 1, none⟩ v2).setCell ⟨w.heap.size, 2, none⟩ v3).setCell ⟨w.heap.size + 1, 0, none⟩ v4).setCell ⟨w.heap.size + 1, 1, none⟩ v5).setCell ⟨w.heap.size + 1, 2, none⟩ v6) := by
  have hk : KeepB (fun b => b = w.heap.size ∨ b = w.heap.size + 1) wr ((((((wr.setCell ⟨w.heap.size, 0, none⟩ v1).setCell ⟨w.heap.size, 1, none⟩ v2).setCell ⟨w.heap.size, 2, none⟩ v3).setCell ⟨w.heap.size + 1, 0, none⟩ v4).setCell ⟨w.heap.size + 1, 1, none⟩ v5).setCell ⟨w.heap.size + 1, 2, none⟩ v6) :=
    ((((((KeepB.refl _ wr).setCell _ _ (by simp)).setCell _ _ (by simp)).setCell _ _ (by simp)).setCell _ _ (by simp)).setCell _ _ (by simp)).setCell _ _ (by simp)
  have hg : ∀ {s : Sy} {A : Option Addr} {c : Nat}, GotSy w0 wr R L (fun b => b = b4 ∨ b = b5) s A c → GotSy w ((((((wr.setCell ⟨w.heap.size, 0, none⟩ v1).setCell ⟨w.heap.size, 1, none⟩ v2).setCell ⟨w.heap.size, 2, none⟩ v3).setCell ⟨w.heap.size + 1, 0, none⟩ v4).setCell ⟨w.heap.size + 1, 1, none⟩ v5).setCell ⟨w.heap.size + 1, 2, none⟩ v6) R L' (fun _ => False) s A c := fun {s A c} g => by
    have g2 := g.keep hk fun b h1 h2 => by omega
    exact ⟨g2.le, g2.top, by have := g2.len; omega, g2.at_, fun b o e => by have := g2.fresh b o e; omega, fun _ _ _ _ h => h⟩
  refine ⟨s, t, A, B, c, d, rfl, hg h.sg, hg h.tg, (h.rd.more hP).keep hk (by omega), ?_⟩
  exact ((((((((KeepB.of_below hb).trans h.keep).setCell _ _ (by simp)).setCell _ _ (by simp)).setCell _ _ (by simp)).setCell _ _ (fun hh => by have : w.heap.size + 1 < w.heap.size := hh; omega)).setCell _ _ (fun hh => by have : w.heap.size + 1 < w.heap.size := hh; omega)).setCell _ _ (fun hh => by have : w.heap.size + 1 < w.heap.size := hh; omega))

end Go.Proofs.YtdkjnemakkppfaaGreatDoor

/- The drawing kit: the pairs of systems that are drawn for FirstTraceOutside, TracesWithin, SameTraces. -/
namespace Go.Proofs.YtdkjnemakkppfaaGreatDoor
open Go.RowKit Go.BigFrame AG

def DrawPair (w : World) (e : Ending) (w' : World) : Prop := ∃ (s t : Sy) (A B : Option Addr) (c d : Nat), e = .returned (.tuple #[s.val A c, t.val B d]) ∧ s.es.length ≤ c ∧ c ≤ 9223372036854775807 ∧ t.es.length ≤ d ∧ d ≤ 9223372036854775807 ∧
  EdsAt w' w'.heap.size A s.es ∧ EdsAt w' w'.heap.size B t.es ∧ Below w.heap.size w w'
theorem DrawPair.of {w w1 wr : World} {R L : Nat} {K J : Nat → Prop} {s t : Sy} {A B : Option Addr} {c d : Nat} (h1 : GotSy w1 wr R L K s A c) (h2 : GotSy w1 wr R L J t B d) (hz : w.heap.size + 2 ≤ w1.heap.size) (hb : Below w.heap.size w wr) (v1 v2 v3 v4 v5 v6 : Value) :
    DrawPair w (.returned (.tuple #[.agg #[.int .i64 s.al, .int .i64 s.st, .slice A s.es.length c], .agg #[.int .i64 t.al, .int .i64 t.st, .slice B t.es.length d]]))
      ((((((wr.setCell ⟨w.heap.size, 0, none⟩ v1).setCell ⟨w.heap.size, 1, none⟩ v2).setCell ⟨w.heap.size, 2, none⟩ v3).setCell ⟨w.heap.size + 1, 0, none⟩ v4).setCell ⟨w.heap.size + 1, 1, none⟩ v5).setCell ⟨w.heap.size + 1, 2, none⟩ v6) := by
  have hk : KeepB (fun b => b = w.heap.size ∨ b = w.heap.size + 1) wr ((((((wr.setCell ⟨w.heap.size, 0, none⟩ v1).setCell ⟨w.heap.size, 1, none⟩ v2).setCell ⟨w.heap.size, 2, none⟩ v3).setCell ⟨w.heap.size + 1, 0, none⟩ v4).setCell ⟨w.heap.size + 1, 1, none⟩ v5).setCell ⟨w.heap.size + 1, 2, none⟩ v6) :=
    ((((((KeepB.refl _ wr).setCell _ _ (by simp)).setCell _ _ (by simp)).setCell _ _ (by simp)).setCell _ _ (by simp)).setCell _ _ (by simp)).setCell _ _ (by simp)
  exact ⟨s, t, A, B, c, d, rfl, h1.le, h1.top, h2.le, h2.top, (h1.keep hk fun b h1 h2 => by omega).at_, (h2.keep hk fun b h1 h2 => by omega).at_, KeepB.below hb hk hb.size (fun k hk => by omega)⟩


end Go.Proofs.YtdkjnemakkppfaaGreatDoor
