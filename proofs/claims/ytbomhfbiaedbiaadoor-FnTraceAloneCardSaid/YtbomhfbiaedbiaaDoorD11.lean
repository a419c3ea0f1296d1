/- The drawing kit: l2Wrong. -/
import Derived.Test.YtbomhfbiaedbiaaDoorD10
import Derived.Test.YtbomhfbiaedbiaaDoorCopy
import Derived.Laws.OwnMore
namespace Go.Proofs.YtbomhfbiaedbiaaDoor
open Go.RowKit Go.BigFrame AG

/-- Worlds behind m operations of a statement that draws. -/
def RI (w0 : World) (R P : Nat) : Nat → World → Prop := fun m w => KeepB (fun b => b = R) w0 w ∧ RdUp w R (P + m * 10000)
theorem RI.way (w0 : World) (R P : Nat) : AG.Way (KeepB fun b => b = R) (RI w0 R P) := ⟨fun w => KeepB.refl _ w, fun _ _ _ h k => h.trans k, fun m _ h => ⟨h.1, h.2.more (by omega)⟩⟩
theorem RI.begin {w0 : World} {R P : Nat} (h : RdUp w0 R P) : RI w0 R P 0 w0 := ⟨KeepB.refl _ _, h.more (by omega)⟩
theorem RI.drew {w0 : World} {R P : Nat} (h : RdUp w0 R P) : RI w0 R P 0 w0.drew := ⟨⟨rfl, rfl, rfl, Nat.le_refl _, fun _ _ _ => rfl⟩, (h.later ((Below.refl _ _).drew)).more (by omega)⟩
theorem RI.fam {w0 : World} {R P : Nat} (h : RdUp w0 R P) (x : World) : KeepB (fun b => b = R) w0 (GK.FamI (GK.Upto (RI w0 R P) 200) w0 x) := by
  obtain ⟨_, _, h⟩ := GK.FamI.is (J := GK.Upto (RI w0 R P) 200) (w1 := w0) ⟨0, by omega, RI.begin h⟩ x
  exact h.1
theorem RI.cell {w0 : World} {R P b o : Nat} {v : Value} (hr : RdUp w0 R P) (h : w0.cell? ⟨b, o, none⟩ = some v) (hb : b ≠ R) (x : World) : (GK.FamI (GK.Upto (RI w0 R P) 200) w0 x).cell? ⟨b, o, none⟩ = some v := by
  rw [KeepB.cell_ (RI.fam hr x) (World.block_lt_of_cell? _ _ h) hb]
  exact h
theorem RI.alloc {w0 w : World} {R P m : Nat} (o : Obj) (h : RI w0 R P m w) : RI w0 R P (m + 1) (w.alloc o) := ⟨h.1.alloc o, (h.2.later ((Below.refl _ _).alloc (Nat.le_refl _) o)).more (by omega)⟩
theorem RI.call {w0 w w' : World} {R P P' m : Nat} (h : RI w0 R P m w) (hk : KeepB (fun b => b = R) w w') (hr : RdUp w' R P') (hP : P' ≤ P + m * 10000 + 10000) : KeepB (fun b => b = R) w w' ∧ RI w0 R P (m + 1) w' := ⟨hk, h.1.trans hk, hr.more (by omega)⟩
theorem RI.size {w0 w : World} {R P m : Nat} (h : RI w0 R P m w) : w0.heap.size ≤ w.heap.size := h.1.size

theorem num_blk (R P g : Nat) (xs : List Int) (w : World) (T : TypeId) (hk : 0 < xs.length) (hk2 : xs.length ≤ 1000) (hP : P < 1125899906842624) (hg : w.heap[g]? = some (.cells (xs.map (Value.int .i64)).toArray T (0, 0))) (hgR : g ≠ R) (hr : RdUp w R P) :
    Calls Tryd.prog 83 #[.pointer (some ⟨R, 0, none⟩), .slice (some ⟨g, 0, none⟩) xs.length xs.length] w (NumUp R P xs w) := by
  have hb : Blk w g T (xs.map (Value.int .i64)).toArray := hg
  refine (num_up R P g 0 xs.length xs.length xs _ rfl hk (by omega) hP hgR hb.lt (fun i h => ?_) hr).mono fun e w' ⟨x, h1, h2, h3, h4⟩ => ⟨x, h1, h2, h3, h4⟩
  rw [Nat.zero_add, hb.cell]
  simp [h]

theorem edCells_set : ∀ (es : List Ed) (k : Nat) (x : Ed), edCells (es.set k x) = (((edCells es).set (k * 3) (.int .i64 x.f)).set (k * 3 + 1) (.int .i64 x.l)).set (k * 3 + 2) (.int .i64 x.t)
  | [], k, x => rfl
  | e :: es, 0, x => rfl
  | e :: es, k + 1, x => by
    have := edCells_set es k x
    rw [show (k + 1) * 3 = k * 3 + 1 + 1 + 1 from by omega]
    simp only [List.set_cons_succ, edCells]
    rw [this]
theorem set_same {α : Type} {l : List α} {i : Nat} {x : α} (h : l[i]? = some x) : l.set i x = l := by
  apply List.ext_getElem?
  intro j
  rw [List.getElem?_set]
  split
  · rename_i e
    subst e
    split
    · exact h.symm
    · rename_i h'
      rw [List.getElem?_eq_none (by omega)] at h
      cases h
  · rfl

theorem edCells_set0 {es : List Ed} {k : Nat} (hk : k < es.length) (x : Int) : (edCells es).set (k * 3) (.int .i64 x) = edCells (es.set k ⟨x, (es[k]'hk).l, (es[k]'hk).t⟩) := by
  obtain ⟨h0, h1, h2⟩ := edCells_at es k hk
  rw [edCells_set]
  have g1 : ((edCells es).set (k * 3) (.int .i64 x))[k * 3 + 1]? = some (.int .i64 (es[k]'hk).l) := by rw [List.getElem?_set_ne (by omega)]; exact h1
  have g2 : ((edCells es).set (k * 3) (.int .i64 x))[k * 3 + 2]? = some (.int .i64 (es[k]'hk).t) := by rw [List.getElem?_set_ne (by omega)]; exact h2
  rw [set_same g1, set_same g2]
theorem edCells_set1 {es : List Ed} {k : Nat} (hk : k < es.length) (x : Int) : (edCells es).set (k * 3 + 1) (.int .i64 x) = edCells (es.set k ⟨(es[k]'hk).f, x, (es[k]'hk).t⟩) := by
  obtain ⟨h0, h1, h2⟩ := edCells_at es k hk
  rw [edCells_set]
  have g2 : ((edCells es).set (k * 3 + 1) (.int .i64 x))[k * 3 + 2]? = some (.int .i64 (es[k]'hk).t) := by rw [List.getElem?_set_ne (by omega)]; exact h2
  rw [set_same h0, set_same g2]
theorem edCells_set2 {es : List Ed} {k : Nat} (hk : k < es.length) (x : Int) : (edCells es).set (k * 3 + 2) (.int .i64 x) = edCells (es.set k ⟨(es[k]'hk).f, (es[k]'hk).l, x⟩) := by
  obtain ⟨h0, h1, h2⟩ := edCells_at es k hk
  rw [edCells_set]
  rw [set_same h0, set_same h1]

/-- A copy of a system that the call may write. -/
structure OutSt (w wr : World) (R P B gs : Nat) (al st : Int) (v : Value) (es : List Ed) (L : Nat) : Prop where
  blk : Blk wr gs 36 #[.int .i64 al, .int .i64 st, v]
  own : OwnEds wr B v es
  len : es.length ≤ L
  rd : RdUp wr R P
  keep : KeepB (fun b => b = R) w wr
  hB : w.heap.size ≤ B
  hgs : B ≤ gs
theorem OutSt.ne {w wr : World} {R P B gs : Nat} {al st : Int} {v : Value} {es : List Ed} {L : Nat} (h : OutSt w wr R P B gs al st v es L) : v.ownBlock ≠ some gs := fun e => own_ne h.own h.blk (by decide) gs e rfl
theorem OutSt.call {w wr w1 : World} {R P P' B gs : Nat} {al st : Int} {v : Value} {es : List Ed} {L : Nat} (h : OutSt w wr R P B gs al st v es L) (hk : KeepB (fun b => b = R) wr w1) (hr : RdUp w1 R P') (hR : R < w.heap.size) : OutSt w w1 R P' B gs al st v es L :=
  ⟨h.blk.keep hk (by have := h.hB; have := h.hgs; omega), own_keep h.own hk (fun g hg => by have := (h.own.lt g hg).1; have := h.hB; omega), h.len, hr, h.keep.trans hk, h.hB, h.hgs⟩
theorem OutSt.later {w wr w1 : World} {R P B gs : Nat} {al st : Int} {v : Value} {es : List Ed} {L : Nat} (h : OutSt w wr R P B gs al st v es L) (hb : Below wr.heap.size wr w1) (hR : R < w.heap.size) : OutSt w w1 R P B gs al st v es L := h.call (KeepB.of_below hb) (h.rd.later hb) hR
theorem OutSt.set0 {w wr : World} {R P B gs : Nat} {al st : Int} {v : Value} {es : List Ed} {L : Nat} (h : OutSt w wr R P B gs al st v es L) (hR : R < w.heap.size) (x : Int) : OutSt w (wr.setCell ⟨gs, 0, none⟩ (.int .i64 x)) R P B gs x st v es L := by
  have hk : KeepB (fun b => b = gs) wr (wr.setCell ⟨gs, 0, none⟩ (.int .i64 x)) := (KeepB.refl _ wr).setCell _ _ (by simp)
  have h1 := h.hB
  have h2 := h.hgs
  exact ⟨by simpa using h.blk.set_ 0 (.int .i64 x), ownsRow_setCell_other h.own h.ne _, h.len, h.rd.keep hk (by omega), h.keep.setCell _ _ (fun hlt => by simp at hlt; omega), h1, h2⟩
theorem OutSt.set1 {w wr : World} {R P B gs : Nat} {al st : Int} {v : Value} {es : List Ed} {L : Nat} (h : OutSt w wr R P B gs al st v es L) (hR : R < w.heap.size) (x : Int) : OutSt w (wr.setCell ⟨gs, 1, none⟩ (.int .i64 x)) R P B gs al x v es L := by
  have hk : KeepB (fun b => b = gs) wr (wr.setCell ⟨gs, 1, none⟩ (.int .i64 x)) := (KeepB.refl _ wr).setCell _ _ (by simp)
  have h1 := h.hB
  have h2 := h.hgs
  exact ⟨by simpa using h.blk.set_ 1 (.int .i64 x), ownsRow_setCell_other h.own h.ne _, h.len, h.rd.keep hk (by omega), h.keep.setCell _ _ (fun hlt => by simp at hlt; omega), h1, h2⟩
theorem OutSt.edit {w wr : World} {R P B gs g c : Nat} {al st : Int} {es : List Ed} {L : Nat} (h : OutSt w wr R P B gs al st (.slice (some ⟨g, 0, none⟩) es.length c) es L) (hR : R < w.heap.size) (k j : Nat) (y : Ed) (x : Int) (hk : k < es.length)
    (hj : (edCells es).set j (.int .i64 x) = edCells (es.set k y)) : OutSt w (wr.setCell ⟨g, j, none⟩ (.int .i64 x)) R P B gs al st (.slice (some ⟨g, 0, none⟩) es.length c) (es.set k y) L := by
  have hs := World.ownsRow.stored h.own j (.int .i64 x)
  have h1 := h.hB
  have h2 := h.hgs
  have hg := h.own.lt g rfl
  have hne : gs ≠ g := fun e => h.ne (by rw [e]; rfl)
  have hkk : KeepB (fun b => b = g) wr (wr.setCell ⟨g, j, none⟩ (.int .i64 x)) := (KeepB.refl _ wr).setCell _ _ (by simp)
  refine ⟨h.blk.keep hkk (by omega), ?_, by simpa using h.len, h.rd.keep hkk (by omega), h.keep.setCell _ _ (fun hlt => by simp at hlt; omega), h1, h2⟩
  unfold OwnEds
  rw [List.length_set, ← hj]
  exact hs.1
theorem OutSt.add {w wr w1 : World} {R P B gs : Nat} {al st : Int} {v v' : Value} {es : List Ed} {L : Nat} {x : Ed} (h : OutSt w wr R P B gs al st v es L) (hR : R < w.heap.size)
    (hown : w1.ownsRow B 76 3 v' (es.length + 1) (edCells es ++ [.int .i64 x.f, .int .i64 x.l, .int .i64 x.t])) (hg : wr.grownBy w1 v.ownBlock) (hat : v'.ownBlock = v.ownBlock ∨ v'.ownBlock = some wr.heap.size) :
    OutSt w (w1.setCell ⟨gs, 2, none⟩ v') R P B gs al st v' (es ++ [x]) (L + 1) := by
  have h1 := h.hB
  have h2 := h.hgs
  have hv : ∀ k, v.ownBlock = some k → B ≤ k ∧ k ≠ gs := fun k hk => ⟨(h.own.lt k hk).1, fun e => h.ne (by rw [hk, e])⟩
  have k1 : KeepB (fun b => v.ownBlock = some b) wr w1 := (KeepB.refl _ wr).grown hg (fun k hk _ => hk)
  have hb := h.blk.lt
  have hne' : v'.ownBlock ≠ some gs := fun e => by
    rcases hat with h3 | h3
    · exact h.ne (by rw [← h3, e])
    · rw [h3] at e; injection e with e; omega
  have k2 : KeepB (fun b => v.ownBlock = some b ∨ b = gs) wr (w1.setCell ⟨gs, 2, none⟩ v') := (k1.mono fun _ h => .inl h).setCell _ _ fun _ => .inr rfl
  refine ⟨?_, ?_, by have := h.len; simp; omega, h.rd.keep k2 ?_, (h.keep.grown hg (fun k hk hlt => by have := (hv k hk).1; omega)).setCell _ _ (fun hlt => by simp at hlt; omega), h1, h2⟩
  · have := (h.blk.keep k1 (fun hk => (hv _ hk).2 rfl)).set_ 2 v'
    simpa using this
  · have e : (es ++ [x]).length = es.length + 1 := by simp
    unfold OwnEds
    rw [e, edCells_append]
    exact ownsRow_setCell_other hown hne' _
  · rintro k (hk | rfl)
    · have := (hv k hk).1; omega
    · omega
theorem OutSt.fin {w wr : World} {R P B gs ρ L : Nat} {al st : Int} {A : Option Addr} {c : Nat} {es : List Ed} (h : OutSt w wr R P B gs al st (.slice A es.length c) es L) (hR : R < w.heap.size) (hρ : w.heap.size ≤ ρ) (hρB : ρ < B) (v1 v2 v3 : Value) :
    SyUp R P L w (.returned (.agg #[.int .i64 al, .int .i64 st, .slice A es.length c])) (((wr.setCell ⟨ρ, 0, none⟩ v1).setCell ⟨ρ, 1, none⟩ v2).setCell ⟨ρ, 2, none⟩ v3) := by
  obtain ⟨A', c', hv, h1, h2, h3, h4⟩ := h.own.read
  cases hv
  have hk : KeepB (fun b => b = ρ) wr (((wr.setCell ⟨ρ, 0, none⟩ v1).setCell ⟨ρ, 1, none⟩ v2).setCell ⟨ρ, 2, none⟩ v3) := (((KeepB.refl _ wr).setCell _ _ (by simp)).setCell _ _ (by simp)).setCell _ _ (by simp)
  have hne : ∀ b o, A = some ⟨b, o, none⟩ → 0 < es.length → b ≠ ρ := fun b o hA _ => by have := h4 b o hA; omega
  refine ⟨⟨al, st, es⟩, A, c, rfl, h1, h2, h.len, ?_, fun b o hA => by have := h4 b o hA; omega, h.rd.keep hk (by omega), ?_⟩
  · simpa [World.setCell] using ((h3.stored v1 hne).stored v2 hne).stored v3 hne
  · exact ((h.keep.setCell _ _ (by simp; omega)).setCell _ _ (by simp; omega)).setCell _ _ (by simp; omega)

theorem OutSt.fin' {w wr : World} {R P B gs ρ L n : Nat} {al st : Int} {A : Option Addr} {c : Nat} {es : List Ed} (hn : es.length = n) (h : OutSt w wr R P B gs al st (.slice A n c) es L) (hR : R < w.heap.size) (hρ : w.heap.size ≤ ρ) (hρB : ρ < B) (v1 v2 v3 : Value) :
    SyUp R P L w (.returned (.agg #[.int .i64 al, .int .i64 st, .slice A n c])) (((wr.setCell ⟨ρ, 0, none⟩ v1).setCell ⟨ρ, 1, none⟩ v2).setCell ⟨ρ, 2, none⟩ v3) := by
  subst hn
  exact h.fin hR hρ hρB v1 v2 v3
theorem OutSt.up {w w0 wr : World} {R P P' B gs : Nat} {al st : Int} {v : Value} {es : List Ed} {L L' : Nat} (h : OutSt w0 wr R P B gs al st v es L) (hb : Below w.heap.size w w0) (hP : P ≤ P') (hL : L ≤ L') : OutSt w wr R P' B gs al st v es L' :=
  ⟨h.blk, h.own, by have := h.len; omega, h.rd.more hP, (KeepB.of_below hb).trans h.keep, Nat.le_trans hb.size h.hB, h.hgs⟩
theorem EdsAt.news {w : World} {B : Nat} {A : Option Addr} {es : List Ed} (h : EdsAt w B A es) (hn : 0 < es.length) : ∃ a, A = some a ∧ ∀ (j : Nat) u, (edCells es)[j]? = some u → w.cell? (a.add j) = some u := by
  obtain ⟨b, o, hA, -, hE⟩ := h hn
  refine ⟨_, hA, fun j u hj => ?_⟩
  have hjl : j < es.length * 3 := by
    rw [← edCells_len]
    rcases Nat.lt_or_ge j (edCells es).length with h | h
    · exact h
    · rw [List.getElem?_eq_none h] at hj; cases hj
  have hadd : (⟨b, o, none⟩ : Addr).add j = ⟨b, o + j, none⟩ := by unfold Addr.add; split <;> simp_all
  rw [hadd]
  have hi : j / 3 < es.length := by omega
  obtain ⟨c0, c1, c2⟩ := hE (j / 3) hi
  obtain ⟨d0, d1, d2⟩ := edCells_at es (j / 3) hi
  rcases (by omega : j = j / 3 * 3 ∨ j = j / 3 * 3 + 1 ∨ j = j / 3 * 3 + 2) with e | e | e
  · rw [← e] at d0; rw [hj] at d0; rw [← c0] at d0; rw [show o + j = o + j / 3 * 3 from by omega]; exact d0.symm
  · rw [← e] at d1; rw [hj] at d1; rw [← c1] at d1; rw [show o + j = o + j / 3 * 3 + 1 from by omega]; exact d1.symm
  · rw [← e] at d2; rw [hj] at d2; rw [← c2] at d2; rw [show o + j = o + j / 3 * 3 + 2 from by omega]; exact d2.symm
theorem edCells_one : ∀ (es : List Ed) (u : Value), u ∈ edCells es → u.oneCell' = true
  | [], u, h => by cases h
  | e :: es, u, h => by
    simp only [edCells, List.mem_cons] at h
    rcases h with rfl | rfl | rfl | h
    · rfl
    · rfl
    · rfl
    · exact edCells_one es u h

set_option maxRecDepth 100000 in
set_option maxHeartbeats 8000000 in
theorem l2Wrong_up (R P L : Nat) (s : Sy) (A : Option Addr) (c : Nat) (w : World) (hP : P + 3000000 ≤ 1125899906842624) (hl : s.es.length ≤ c) (hc : c ≤ 9223372036854775807) (hL : s.es.length ≤ L) (hL2 : L ≤ 100000)
    (hs : EdsAt w w.heap.size A s.es) (hr : RdUp w R P) :
    Calls Tryd.prog 125 #[.pointer (some ⟨R, 0, none⟩), s.val A c] w (SyUp R (P + 400000) (L + 1) w) := by
  obtain ⟨i0, hi, hz0, hz1, hz2⟩ := info_parts infoEd
  have hR := hr.lt
  unfold Sy.val
  have hres := (Blk.new (w.alloc (.cells #[.int .i64 s.al, .int .i64 s.st, .slice A s.es.length c] 36)) 36 #[.int .i64 0, .int .i64 0, .slice none 0 0])
  have hpar := (Blk.new w 36 #[.int .i64 s.al, .int .i64 s.st, .slice A s.es.length c]).alloc (.cells #[.int .i64 0, .int .i64 0, .slice none 0 0] 36)
  have hb0 : Below w.heap.size w ((w.alloc (.cells #[.int .i64 s.al, .int .i64 s.st, .slice A s.es.length c] 36)).alloc (.cells #[.int .i64 0, .int .i64 0, .slice none 0 0] 36)) := ((Below.refl _ _).alloc (Nat.le_refl _) _).alloc (by simp) _
  have hsz0 : ((w.alloc (.cells #[.int .i64 s.al, .int .i64 s.st, .slice A s.es.length c] 36)).alloc (.cells #[.int .i64 0, .int .i64 0, .slice none 0 0] 36)).heap.size = w.heap.size + 2 := by simp
  simp only [World.size_alloc] at hres
  generalize hw0 : (w.alloc (.cells #[.int .i64 s.al, .int .i64 s.st, .slice A s.es.length c] 36)).alloc (.cells #[.int .i64 0, .int .i64 0, .slice none 0 0] 36) = w0 at hres hb0 hsz0 hpar
  have p0 := hpar.cell 0
  have p1 := hpar.cell 1
  have p2 := hpar.cell 2
  simp only [List.getElem?_toArray, List.getElem?_cons_zero, List.getElem?_cons_succ] at p0 p1 p2
  have q0 := GK.BI.cell p0
  have q1 := GK.BI.cell p1
  have q2 := GK.BI.cell p2
  have hr0 := hid (hr.later hb0)
  have hs0 := hid (hs.later hb0)
  replace hr := hid hr
  replace hs := hid hs
  replace hres := hid hres
  replace hsz0 := hid hsz0
  clear p0 p1 p2 hpar
  go_enter Tryd.func125, Tryd.ntmps125
  go_wp2_with fail
  refine GK.wp_region 10 [10] 200 (KeepB fun _ => False) (GK.BI w0) (fun _ _ _ => True) (by kernel_rfl) (by kernel_rfl) (GK.BI.way w0) (by decide) (Below.refl _ _).drew ?_
  simp only [List.take_succ_cons, List.take_zero]
  (repeat (refine GK.grow_quiet w0 (by rfl) (by rfl) ?_; intro K hK; go_big_quiet_op; go_big_quiet_on))
  refine GK.grow_new (K := fun _ => False) (by rfl) _ (fun b => .slice (some ⟨b, 0, none⟩) 0 0) 76 #[] (fun _ => by go_simp) rfl (fun _ _ o h => GK.BI.alloc o h) (fun _ _ h => GK.BI.size h) (fun _ h => h.elim) (fun b hb => ?_)
  simp only [Act.put, List.setIfInBounds_toArray, List.set_cons_zero, List.set_cons_succ]
  (repeat (refine GK.grow_quiet w0 (by rfl) (by rfl) ?_; intro K hK; go_big_quiet_op; go_big_quiet_on))
  refine GK.grow_copy (by rfl) _ _ 34 (by rfl) 76 i0 (.agg #[.int .i64 0, .int .i64 0, .int .i64 0]) 3 24 Tryd.underlying34 hi hz0 hz1 hz2 rfl b (by rfl) (fun w hf => ?_) A s.es.length c (edCells s.es) (by rfl) (edCells_len _) (fun hn => EdsAt.news hs0.out hn) (edCells_one _) (by unfold maxLen; omega) (by omega) fun v hv => ?_
  · obtain ⟨b', e1, e2, e3⟩ := hf _ List.mem_cons_self (by kernel_rfl)
    cases e1
    exact ⟨e2, e3⟩
  obtain ⟨Av, cv, hve, -, -⟩ : ∃ Av cv, v = .slice Av s.es.length cv ∧ s.es.length ≤ cv ∧ cv ≤ 9223372036854775807 := by obtain ⟨_, _, hv⟩ := hv; exact own_slice hv
  subst hve
  clear hv
  simp only [Act.put, List.setIfInBounds_toArray, List.set_cons_zero, List.set_cons_succ]
  (repeat (refine GK.grow_quiet w0 (by rfl) (by rfl) ?_; intro K hK; go_big_quiet_op; go_big_quiet_on))
  refine GK.grow_new (K := fun _ => False) (by rfl) _ (fun b => .pointer (some ⟨b, 0, none⟩)) 36 #[.int .i64 0, .int .i64 0, .slice none 0 0] (fun _ => by go_simp) rfl (fun _ _ o h => GK.BI.alloc o h) (fun _ _ h => GK.BI.size h) (fun _ h => h.elim) (fun gs hgs => ?_)
  simp only [Act.put, List.setIfInBounds_toArray, List.set_cons_zero, List.set_cons_succ]
  refine GK.grow_nil ?_
  intro w1 hw1 hf
  simp only [List.filterMap_cons, List.filterMap_nil, List.getElem?_cons_zero, List.getElem?_cons_succ]
  obtain ⟨gs', e1, -, hblk⟩ := hf _ List.mem_cons_self
  cases e1
  have hown := hf _ (List.mem_cons_of_mem _ List.mem_cons_self)
  replace hw1 : Below w0.heap.size w0 w1 := hw1
  clear hf q0 q1 q2 hw0
  have hblk' : Blk w1 gs 36 #[.int .i64 0, .int .i64 0, .slice none 0 0] := hblk
  have hgl := hblk'.lt
  have c0 := hblk'.cell 0
  have c1 := hblk'.cell 1
  have c2 := hblk'.cell 2
  have f0 := hblk'.frozen 0
  have f1 := hblk'.frozen 1
  have f2 := hblk'.frozen 2
  simp only [List.getElem?_toArray, List.getElem?_cons_zero, List.getElem?_cons_succ] at c0 c1 c2
  have hneO : (Value.slice Av s.es.length cv).ownBlock ≠ some gs := fun e => own_ne hown hblk' (by decide) gs e rfl
  have hO : OutSt w0 (((w1.setCell ⟨gs, 0, none⟩ (.int .i64 s.al)).setCell ⟨gs, 1, none⟩ (.int .i64 s.st)).setCell ⟨gs, 2, none⟩ (.slice Av s.es.length cv)) R P w0.heap.size gs s.al s.st (.slice Av s.es.length cv) s.es L := by
    have hsz := hsz0.out
    have hkk : KeepB (fun b => b = gs) w1 (((w1.setCell ⟨gs, 0, none⟩ (.int .i64 s.al)).setCell ⟨gs, 1, none⟩ (.int .i64 s.st)).setCell ⟨gs, 2, none⟩ (.slice Av s.es.length cv)) := (((KeepB.refl _ w1).setCell _ _ (by simp)).setCell _ _ (by simp)).setCell _ _ (by simp)
    refine ⟨by simpa using ((hblk'.set_ 0 (.int .i64 s.al)).set_ 1 (.int .i64 s.st)).set_ 2 (.slice Av s.es.length cv), ownsRow_setCell_other (ownsRow_setCell_other (ownsRow_setCell_other hown hneO _) hneO _) hneO _, hL, (hr0.out.later hw1).keep hkk (by omega), ?_, Nat.le_refl _, hgs⟩
    exact (((KeepB.of_below hw1).setCell _ _ (by simp; omega)).setCell _ _ (by simp; omega)).setCell _ _ (by simp; omega)
  have hO' : ∃ w2, ((w1.setCell ⟨gs, 0, none⟩ (.int .i64 s.al)).setCell ⟨gs, 1, none⟩ (.int .i64 s.st)).setCell ⟨gs, 2, none⟩ (.slice Av s.es.length cv) = w2 := ⟨_, rfl⟩
  obtain ⟨w2, hw2⟩ := hO'
  rw [hw2] at hO
  replace hO := hid hO
  have hcopy := hid hblk'
  clear hblk hblk' hown hneO c0 c1 c2 f0 f1 f2
  have c0 := hO.out.blk.cell 0
  have c1 := hO.out.blk.cell 1
  have c2 := hO.out.blk.cell 2
  simp only [List.getElem?_toArray, List.getElem?_cons_zero, List.getElem?_cons_succ] at c0 c1 c2
  have hf0 := hcopy.out.frozen 0
  have hf1 := hcopy.out.frozen 1
  have hf2 := hcopy.out.frozen 2
  have hm0 := hcopy.out.cell 0
  have hm1 := hcopy.out.cell 1
  have hm2 := hcopy.out.cell 2
  simp only [List.getElem?_toArray, List.getElem?_cons_zero, List.getElem?_cons_succ] at hm0 hm1 hm2
  go_wp2_with fail
  refine (pick_up R P s.es.length w2 (by omega) (by omega) hO.out.rd).mono ?_
  rintro e w3 ⟨k, rfl, hk0, hk1, hr3, hk3⟩
  have hR0 : Hid (R < w0.heap.size) := hid (by have := hsz0.out; omega)
  have hO3 := hid (hO.out.call hk3 hr3 hR0.out)
  clear hr3 hk3 hw2 hO c0 c1 c2 hf0 hf1 hf2 hm0 hm1 hm2 hcopy
  go_wp2_with fail
  refine (pick_up R (P + 1) 30 w3 (by omega) (by omega) hO3.out.rd).mono ?_
  rintro e w4 ⟨j, rfl, hj0, hj1, hr4, hk4⟩
  have hO4 := hid (hO3.out.call hk4 hr4 hR0.out)
  clear hr4 hk4 hO3 hj0 hj1
  obtain ⟨kn, rfl⟩ := Int.eq_ofNat_of_zero_le hk0
  have hkn : 0 < s.es.length → kn < s.es.length := fun h => by omega
  replace hkn := hid hkn
  clear hk0 hk1
  have c0 := hO4.out.blk.cell 0
  have c1 := hO4.out.blk.cell 1
  have c2 := hO4.out.blk.cell 2
  have g0 := hO4.out.blk.frozen 0
  have g1 := hO4.out.blk.frozen 1
  have g2 := hO4.out.blk.frozen 2
  have hgl4 := hO4.out.blk.lt
  simp only [List.getElem?_toArray, List.getElem?_cons_zero, List.getElem?_cons_succ] at c0 c1 c2
  by_cases hj0 : j = 0
  · subst hj0
    go_wp2_with fail
    refine (num_lit R (P + 2) [64, (-1), 1, 63] w4 _ (by decide) (by decide) (by omega) hO4.out.rd).mono ?_
    rintro e w5 ⟨x, hx, rfl, hr5, hk5⟩
    clear hx
    have hO5 := hid (hO4.out.call hk5 hr5 hR0.out)
    clear hr5 hk5 c0 c1 c2 g0 g1 g2
    have c0 := hO5.out.blk.cell 0
    have g0 := hO5.out.blk.frozen 0
    simp only [List.getElem?_toArray, List.getElem?_cons_zero, List.getElem?_cons_succ] at c0
    obtain ⟨w6, hw6⟩ : ∃ w6, w5.setCell ⟨gs, 0, none⟩ (.int .i64 x) = w6 := ⟨_, rfl⟩
    have hX := hid (hO5.out.set0 hR0.out x)
    rw [hw6] at hX
    have hgl5 := hO5.out.blk.lt
    have k0 := hX.out.blk.cell 0
    have k1 := hX.out.blk.cell 1
    have k2 := hX.out.blk.cell 2
    have hbl := hid (hres.out.keep hX.out.keep (by have := hsz0.out; omega))
    have d0 := hbl.out.cell 0
    have d1 := hbl.out.cell 1
    have d2 := hbl.out.cell 2
    have y0 := hbl.out.frozen 0
    have y1 := hbl.out.frozen 1
    have y2 := hbl.out.frozen 2
    have hlt := hbl.out.lt
    simp only [List.getElem?_toArray, List.getElem?_cons_zero, List.getElem?_cons_succ] at d0 d1 d2 k0 k1 k2
    have hfin := hid ((hX.out.up hb0 (P' := P + 400000) (L' := L + 1) (by omega) (by omega)).fin hR (ρ := w.heap.size + 1) (by omega) (by have := hsz0.out; omega) (.int .i64 x) (.int .i64 s.st) (.slice Av s.es.length cv))
    go_wp2
    refine bodyPost_ret (v := .agg #[.int .i64 x, .int .i64 s.st, .slice Av s.es.length cv]) (by simp [results, Tryd.results125, go_sem, d0, d1, d2]) rfl ?_
    exact hfin.out
  · have hjb0 : ((j : Int) == 0) = false := by simpa using hj0
    replace hj0 := hid hj0
    by_cases hj1 : j = 1
    · subst hj1
      go_wp2_with fail
      refine (num_lit R (P + 2) [0, 17, (-1), 16, 1] w4 _ (by decide) (by decide) (by omega) hO4.out.rd).mono ?_
      rintro e w5 ⟨x, hx, rfl, hr5, hk5⟩
      clear hx
      have hO5 := hid (hO4.out.call hk5 hr5 hR0.out)
      clear hr5 hk5 c0 c1 c2 g0 g1 g2
      have c0 := hO5.out.blk.cell 1
      have g0 := hO5.out.blk.frozen 1
      simp only [List.getElem?_toArray, List.getElem?_cons_zero, List.getElem?_cons_succ] at c0
      obtain ⟨w6, hw6⟩ : ∃ w6, w5.setCell ⟨gs, 1, none⟩ (.int .i64 x) = w6 := ⟨_, rfl⟩
      have hX := hid (hO5.out.set1 hR0.out x)
      rw [hw6] at hX
      have hgl5 := hO5.out.blk.lt
      have k0 := hX.out.blk.cell 0
      have k1 := hX.out.blk.cell 1
      have k2 := hX.out.blk.cell 2
      have hbl := hid (hres.out.keep hX.out.keep (by have := hsz0.out; omega))
      have d0 := hbl.out.cell 0
      have d1 := hbl.out.cell 1
      have d2 := hbl.out.cell 2
      have y0 := hbl.out.frozen 0
      have y1 := hbl.out.frozen 1
      have y2 := hbl.out.frozen 2
      have hlt := hbl.out.lt
      simp only [List.getElem?_toArray, List.getElem?_cons_zero, List.getElem?_cons_succ] at d0 d1 d2 k0 k1 k2
      have hfin := hid ((hX.out.up hb0 (P' := P + 400000) (L' := L + 1) (by omega) (by omega)).fin hR (ρ := w.heap.size + 1) (by omega) (by have := hsz0.out; omega) (.int .i64 s.al) (.int .i64 x) (.slice Av s.es.length cv))
      go_wp2
      refine bodyPost_ret (v := .agg #[.int .i64 s.al, .int .i64 x, .slice Av s.es.length cv]) (by simp [results, Tryd.results125, go_sem, d0, d1, d2]) rfl ?_
      exact hfin.out
    · have hjb1 : ((j : Int) == 1) = false := by simpa using hj1
      replace hj1 := hid hj1
      by_cases hj2 : j = 2
      · subst hj2
        by_cases hn : s.es.length = 0
        · have hn2 : decide (0 < s.es.length) = false := decide_eq_false (by omega)
          have hX := hO4
          replace hn := hid hn
          have k0 := hX.out.blk.cell 0
          have k1 := hX.out.blk.cell 1
          have k2 := hX.out.blk.cell 2
          have hbl := hid (hres.out.keep hX.out.keep (by have := hsz0.out; omega))
          have d0 := hbl.out.cell 0
          have d1 := hbl.out.cell 1
          have d2 := hbl.out.cell 2
          have y0 := hbl.out.frozen 0
          have y1 := hbl.out.frozen 1
          have y2 := hbl.out.frozen 2
          have hlt := hbl.out.lt
          simp only [List.getElem?_toArray, List.getElem?_cons_zero, List.getElem?_cons_succ] at d0 d1 d2 k0 k1 k2
          have hfin := hid ((hX.out.up hb0 (P' := P + 400000) (L' := L + 1) (by omega) (by omega)).fin hR (ρ := w.heap.size + 1) (by omega) (by have := hsz0.out; omega) (.int .i64 s.al) (.int .i64 s.st) (.slice Av s.es.length cv))
          go_wp2
          refine bodyPost_ret (v := .agg #[.int .i64 s.al, .int .i64 s.st, .slice Av s.es.length cv]) (by simp [results, Tryd.results125, go_sem, d0, d1, d2]) rfl ?_
          exact hfin.out
        · have hkl := hkn.out (by omega)
          obtain ⟨g, cap, hve, hg1, hg2, -, -, -⟩ := own_shape hO4.out.own (by omega)
          cases hve
          have hn2 : (0 : Int) < (s.es.length : Int) := by omega
          have i1 : (0 : Int) ≤ (kn : Int) ∧ (kn : Int) < (s.es.length : Int) := by omega
          have hgsR : gs ≠ R := by have := hO4.out.hgs; have := hR0.out; omega
          have q2 := RI.cell hO4.out.rd c2 hgsR
          replace hn := hid hn
          clear c0 c1 g0 g1 g2
          go_wp2_with fail
          clear c2
          refine GK.wp_region 8 [8] 200 (KeepB fun b => b = R) (RI w4 R (P + 2)) (fun _ u _ => ∃ x : Int, u = .int .i64 x) (by kernel_rfl) (by kernel_rfl) (RI.way w4 R (P + 2)) (by decide) (RI.drew hO4.out.rd) ?_
          simp only [List.take_succ_cons, List.take_zero]
          (repeat (refine GK.grow_quiet w4 (by rfl) (by rfl) ?_; intro K hK; go_big_quiet_op; go_big_quiet_on))
          refine GK.grow_new (K := fun b => b = R) (by rfl) w4.heap.size (fun b => .slice (some ⟨b, 0, none⟩) 4 4) 3 #[.int .i64 (-1), .int .i64 16, .int .i64 0, .int .i64 2] (fun _ => by go_simp) rfl (fun _ _ o h => RI.alloc o h) (fun _ _ h => RI.size h) (fun k hk => by have := hO4.out.rd.lt; omega) (fun b hb => ?_)
          simp only [Act.put, List.setIfInBounds_toArray, List.set_cons_zero, List.set_cons_succ]
          (repeat (refine GK.grow_quiet w4 (by rfl) (by rfl) ?_; intro K hK; go_big_quiet_op; go_big_quiet_on))
          refine GK.grow_call (by rfl) (fun u w w' _ h => h) (fun m wq hm hbq hf => ?_) ?_
          · obtain ⟨b', z1, z2, z3⟩ := hf _ List.mem_cons_self (by kernel_rfl)
            cases z1
            have hlt4 := hO4.out.rd.lt
            go_simp
            exact ⟨rfl, (num_blk R (P + 2 + m * 10000) b [(-1), 16, 0, 2] wq _ (by decide) (by decide) (by omega) z3 (by omega) hbq.2).mono fun e w' ⟨x, _, h2, h3, h4⟩ => ⟨_, h2, RI.call hbq h4 h3 (by omega), x, rfl⟩⟩
          rintro u ⟨_, _, _, x, rfl⟩
          simp only [Act.put, List.setIfInBounds_toArray, List.set_cons_zero, List.set_cons_succ]
          (repeat (refine GK.grow_quiet w4 (by rfl) (by rfl) ?_; intro K hK; go_big_quiet_op; go_big_quiet_on))
          refine GK.grow_nil ?_
          intro w5 hw5 _
          simp only [List.filterMap_cons, List.filterMap_nil, List.getElem?_cons_zero, List.getElem?_cons_succ]
          have hO5 := hid (hO4.out.call hw5.1 hw5.2 hR0.out)
          clear q2
          have hcg := World.ownsRow.cellAt hO5.out.own (kn * 3) (by omega)
          rw [(edCells_at s.es kn hkl).1] at hcg
          have hfg := World.ownsRow.frozenAt hO5.out.own (kn * 3)
          obtain ⟨w6, hw6⟩ : ∃ w6, w5.setCell ⟨g, kn * 3, none⟩ (.int .i64 x) = w6 := ⟨_, rfl⟩
          have hX := hid (hO5.out.edit hR0.out kn (kn * 3) ⟨x, (s.es[kn]'hkl).l, (s.es[kn]'hkl).t⟩ x hkl (edCells_set0 hkl x))
          rw [hw6] at hX
          have hgl5 := hO5.out.blk.lt
          have hsl : (s.es.set kn ⟨x, (s.es[kn]'hkl).l, (s.es[kn]'hkl).t⟩).length = s.es.length := List.length_set
          have k0 := hX.out.blk.cell 0
          have k1 := hX.out.blk.cell 1
          have k2 := hX.out.blk.cell 2
          have hbl := hid (hres.out.keep hX.out.keep (by have := hsz0.out; omega))
          have d0 := hbl.out.cell 0
          have d1 := hbl.out.cell 1
          have d2 := hbl.out.cell 2
          have y0 := hbl.out.frozen 0
          have y1 := hbl.out.frozen 1
          have y2 := hbl.out.frozen 2
          have hlt := hbl.out.lt
          simp only [List.getElem?_toArray, List.getElem?_cons_zero, List.getElem?_cons_succ] at d0 d1 d2 k0 k1 k2
          have hfin := hid (OutSt.fin' hsl (hX.out.up hb0 (P' := P + 400000) (L' := L + 1) (by omega) (by omega)) hR (ρ := w.heap.size + 1) (by omega) (by have := hsz0.out; omega) (.int .i64 s.al) (.int .i64 s.st) (.slice (some ⟨g, 0, none⟩) s.es.length cv))
          go_wp2
          refine bodyPost_ret (v := .agg #[.int .i64 s.al, .int .i64 s.st, .slice (some ⟨g, 0, none⟩) s.es.length cv]) (by simp [results, Tryd.results125, go_sem, d0, d1, d2]) rfl ?_
          exact hfin.out
      · have hjb2 : ((j : Int) == 2) = false := by simpa using hj2
        replace hj2 := hid hj2
        by_cases hj3 : j = 3
        · subst hj3
          by_cases hn : s.es.length = 0
          · have hn2 : decide (0 < s.es.length) = false := decide_eq_false (by omega)
            have hX := hO4
            replace hn := hid hn
            have k0 := hX.out.blk.cell 0
            have k1 := hX.out.blk.cell 1
            have k2 := hX.out.blk.cell 2
            have hbl := hid (hres.out.keep hX.out.keep (by have := hsz0.out; omega))
            have d0 := hbl.out.cell 0
            have d1 := hbl.out.cell 1
            have d2 := hbl.out.cell 2
            have y0 := hbl.out.frozen 0
            have y1 := hbl.out.frozen 1
            have y2 := hbl.out.frozen 2
            have hlt := hbl.out.lt
            simp only [List.getElem?_toArray, List.getElem?_cons_zero, List.getElem?_cons_succ] at d0 d1 d2 k0 k1 k2
            have hfin := hid ((hX.out.up hb0 (P' := P + 400000) (L' := L + 1) (by omega) (by omega)).fin hR (ρ := w.heap.size + 1) (by omega) (by have := hsz0.out; omega) (.int .i64 s.al) (.int .i64 s.st) (.slice Av s.es.length cv))
            go_wp2
            refine bodyPost_ret (v := .agg #[.int .i64 s.al, .int .i64 s.st, .slice Av s.es.length cv]) (by simp [results, Tryd.results125, go_sem, d0, d1, d2]) rfl ?_
            exact hfin.out
          · have hkl := hkn.out (by omega)
            obtain ⟨g, cap, hve, hg1, hg2, -, -, -⟩ := own_shape hO4.out.own (by omega)
            cases hve
            have hn2 : (0 : Int) < (s.es.length : Int) := by omega
            have i1 : (0 : Int) ≤ (kn : Int) ∧ (kn : Int) < (s.es.length : Int) := by omega
            have hgsR : gs ≠ R := by have := hO4.out.hgs; have := hR0.out; omega
            have q2 := RI.cell hO4.out.rd c2 hgsR
            replace hn := hid hn
            clear c0 c1 g0 g1 g2
            go_wp2_with fail
            clear c2
            refine GK.wp_region 8 [8] 200 (KeepB fun b => b = R) (RI w4 R (P + 2)) (fun _ u _ => ∃ x : Int, u = .int .i64 x) (by kernel_rfl) (by kernel_rfl) (RI.way w4 R (P + 2)) (by decide) (RI.drew hO4.out.rd) ?_
            simp only [List.take_succ_cons, List.take_zero]
            (repeat (refine GK.grow_quiet w4 (by rfl) (by rfl) ?_; intro K hK; go_big_quiet_op; go_big_quiet_on))
            refine GK.grow_new (K := fun b => b = R) (by rfl) w4.heap.size (fun b => .slice (some ⟨b, 0, none⟩) 4 4) 3 #[.int .i64 (-1), .int .i64 16, .int .i64 0, .int .i64 3] (fun _ => by go_simp) rfl (fun _ _ o h => RI.alloc o h) (fun _ _ h => RI.size h) (fun k hk => by have := hO4.out.rd.lt; omega) (fun b hb => ?_)
            simp only [Act.put, List.setIfInBounds_toArray, List.set_cons_zero, List.set_cons_succ]
            (repeat (refine GK.grow_quiet w4 (by rfl) (by rfl) ?_; intro K hK; go_big_quiet_op; go_big_quiet_on))
            refine GK.grow_call (by rfl) (fun u w w' _ h => h) (fun m wq hm hbq hf => ?_) ?_
            · obtain ⟨b', z1, z2, z3⟩ := hf _ List.mem_cons_self (by kernel_rfl)
              cases z1
              have hlt4 := hO4.out.rd.lt
              go_simp
              exact ⟨rfl, (num_blk R (P + 2 + m * 10000) b [(-1), 16, 0, 3] wq _ (by decide) (by decide) (by omega) z3 (by omega) hbq.2).mono fun e w' ⟨x, _, h2, h3, h4⟩ => ⟨_, h2, RI.call hbq h4 h3 (by omega), x, rfl⟩⟩
            rintro u ⟨_, _, _, x, rfl⟩
            simp only [Act.put, List.setIfInBounds_toArray, List.set_cons_zero, List.set_cons_succ]
            (repeat (refine GK.grow_quiet w4 (by rfl) (by rfl) ?_; intro K hK; go_big_quiet_op; go_big_quiet_on))
            refine GK.grow_nil ?_
            intro w5 hw5 _
            simp only [List.filterMap_cons, List.filterMap_nil, List.getElem?_cons_zero, List.getElem?_cons_succ]
            have hO5 := hid (hO4.out.call hw5.1 hw5.2 hR0.out)
            clear q2
            have hcg := World.ownsRow.cellAt hO5.out.own (kn * 3 + 2) (by omega)
            rw [(edCells_at s.es kn hkl).2.2] at hcg
            have hfg := World.ownsRow.frozenAt hO5.out.own (kn * 3 + 2)
            obtain ⟨w6, hw6⟩ : ∃ w6, w5.setCell ⟨g, kn * 3 + 2, none⟩ (.int .i64 x) = w6 := ⟨_, rfl⟩
            have hX := hid (hO5.out.edit hR0.out kn (kn * 3 + 2) ⟨(s.es[kn]'hkl).f, (s.es[kn]'hkl).l, x⟩ x hkl (edCells_set2 hkl x))
            rw [hw6] at hX
            have hgl5 := hO5.out.blk.lt
            have hsl : (s.es.set kn ⟨(s.es[kn]'hkl).f, (s.es[kn]'hkl).l, x⟩).length = s.es.length := List.length_set
            have k0 := hX.out.blk.cell 0
            have k1 := hX.out.blk.cell 1
            have k2 := hX.out.blk.cell 2
            have hbl := hid (hres.out.keep hX.out.keep (by have := hsz0.out; omega))
            have d0 := hbl.out.cell 0
            have d1 := hbl.out.cell 1
            have d2 := hbl.out.cell 2
            have y0 := hbl.out.frozen 0
            have y1 := hbl.out.frozen 1
            have y2 := hbl.out.frozen 2
            have hlt := hbl.out.lt
            simp only [List.getElem?_toArray, List.getElem?_cons_zero, List.getElem?_cons_succ] at d0 d1 d2 k0 k1 k2
            have hfin := hid (OutSt.fin' hsl (hX.out.up hb0 (P' := P + 400000) (L' := L + 1) (by omega) (by omega)) hR (ρ := w.heap.size + 1) (by omega) (by have := hsz0.out; omega) (.int .i64 s.al) (.int .i64 s.st) (.slice (some ⟨g, 0, none⟩) s.es.length cv))
            go_wp2
            refine bodyPost_ret (v := .agg #[.int .i64 s.al, .int .i64 s.st, .slice (some ⟨g, 0, none⟩) s.es.length cv]) (by simp [results, Tryd.results125, go_sem, d0, d1, d2]) rfl ?_
            exact hfin.out
        · have hjb3 : ((j : Int) == 3) = false := by simpa using hj3
          replace hj3 := hid hj3
          by_cases hj4 : j = 4
          · subst hj4
            by_cases hn : s.es.length = 0
            · have hn2 : decide (0 < s.es.length) = false := decide_eq_false (by omega)
              have hX := hO4
              replace hn := hid hn
              have k0 := hX.out.blk.cell 0
              have k1 := hX.out.blk.cell 1
              have k2 := hX.out.blk.cell 2
              have hbl := hid (hres.out.keep hX.out.keep (by have := hsz0.out; omega))
              have d0 := hbl.out.cell 0
              have d1 := hbl.out.cell 1
              have d2 := hbl.out.cell 2
              have y0 := hbl.out.frozen 0
              have y1 := hbl.out.frozen 1
              have y2 := hbl.out.frozen 2
              have hlt := hbl.out.lt
              simp only [List.getElem?_toArray, List.getElem?_cons_zero, List.getElem?_cons_succ] at d0 d1 d2 k0 k1 k2
              have hfin := hid ((hX.out.up hb0 (P' := P + 400000) (L' := L + 1) (by omega) (by omega)).fin hR (ρ := w.heap.size + 1) (by omega) (by have := hsz0.out; omega) (.int .i64 s.al) (.int .i64 s.st) (.slice Av s.es.length cv))
              go_wp2
              refine bodyPost_ret (v := .agg #[.int .i64 s.al, .int .i64 s.st, .slice Av s.es.length cv]) (by simp [results, Tryd.results125, go_sem, d0, d1, d2]) rfl ?_
              exact hfin.out
            · have hkl := hkn.out (by omega)
              obtain ⟨g, cap, hve, hg1, hg2, -, -, -⟩ := own_shape hO4.out.own (by omega)
              cases hve
              have hn2 : (0 : Int) < (s.es.length : Int) := by omega
              have i1 : (0 : Int) ≤ (kn : Int) ∧ (kn : Int) < (s.es.length : Int) := by omega
              have hgsR : gs ≠ R := by have := hO4.out.hgs; have := hR0.out; omega
              have q2 := RI.cell hO4.out.rd c2 hgsR
              replace hn := hid hn
              clear c0 c1 g0 g1 g2
              go_wp2_with fail
              clear c2
              refine GK.wp_region 8 [8] 200 (KeepB fun b => b = R) (RI w4 R (P + 2)) (fun _ u _ => ∃ x : Int, u = .int .i64 x) (by kernel_rfl) (by kernel_rfl) (RI.way w4 R (P + 2)) (by decide) (RI.drew hO4.out.rd) ?_
              simp only [List.take_succ_cons, List.take_zero]
              (repeat (refine GK.grow_quiet w4 (by rfl) (by rfl) ?_; intro K hK; go_big_quiet_op; go_big_quiet_on))
              refine GK.grow_new (K := fun b => b = R) (by rfl) w4.heap.size (fun b => .slice (some ⟨b, 0, none⟩) 5 5) 3 #[.int .i64 (-1), .int .i64 6, .int .i64 70, .int .i64 5, .int .i64 0] (fun _ => by go_simp) rfl (fun _ _ o h => RI.alloc o h) (fun _ _ h => RI.size h) (fun k hk => by have := hO4.out.rd.lt; omega) (fun b hb => ?_)
              simp only [Act.put, List.setIfInBounds_toArray, List.set_cons_zero, List.set_cons_succ]
              (repeat (refine GK.grow_quiet w4 (by rfl) (by rfl) ?_; intro K hK; go_big_quiet_op; go_big_quiet_on))
              refine GK.grow_call (by rfl) (fun u w w' _ h => h) (fun m wq hm hbq hf => ?_) ?_
              · obtain ⟨b', z1, z2, z3⟩ := hf _ List.mem_cons_self (by kernel_rfl)
                cases z1
                have hlt4 := hO4.out.rd.lt
                go_simp
                exact ⟨rfl, (num_blk R (P + 2 + m * 10000) b [(-1), 6, 70, 5, 0] wq _ (by decide) (by decide) (by omega) z3 (by omega) hbq.2).mono fun e w' ⟨x, _, h2, h3, h4⟩ => ⟨_, h2, RI.call hbq h4 h3 (by omega), x, rfl⟩⟩
              rintro u ⟨_, _, _, x, rfl⟩
              simp only [Act.put, List.setIfInBounds_toArray, List.set_cons_zero, List.set_cons_succ]
              (repeat (refine GK.grow_quiet w4 (by rfl) (by rfl) ?_; intro K hK; go_big_quiet_op; go_big_quiet_on))
              refine GK.grow_nil ?_
              intro w5 hw5 _
              simp only [List.filterMap_cons, List.filterMap_nil, List.getElem?_cons_zero, List.getElem?_cons_succ]
              have hO5 := hid (hO4.out.call hw5.1 hw5.2 hR0.out)
              clear q2
              have hcg := World.ownsRow.cellAt hO5.out.own (kn * 3 + 1) (by omega)
              rw [(edCells_at s.es kn hkl).2.1] at hcg
              have hfg := World.ownsRow.frozenAt hO5.out.own (kn * 3 + 1)
              obtain ⟨w6, hw6⟩ : ∃ w6, w5.setCell ⟨g, kn * 3 + 1, none⟩ (.int .i64 x) = w6 := ⟨_, rfl⟩
              have hX := hid (hO5.out.edit hR0.out kn (kn * 3 + 1) ⟨(s.es[kn]'hkl).f, x, (s.es[kn]'hkl).t⟩ x hkl (edCells_set1 hkl x))
              rw [hw6] at hX
              have hgl5 := hO5.out.blk.lt
              have hsl : (s.es.set kn ⟨(s.es[kn]'hkl).f, x, (s.es[kn]'hkl).t⟩).length = s.es.length := List.length_set
              have k0 := hX.out.blk.cell 0
              have k1 := hX.out.blk.cell 1
              have k2 := hX.out.blk.cell 2
              have hbl := hid (hres.out.keep hX.out.keep (by have := hsz0.out; omega))
              have d0 := hbl.out.cell 0
              have d1 := hbl.out.cell 1
              have d2 := hbl.out.cell 2
              have y0 := hbl.out.frozen 0
              have y1 := hbl.out.frozen 1
              have y2 := hbl.out.frozen 2
              have hlt := hbl.out.lt
              simp only [List.getElem?_toArray, List.getElem?_cons_zero, List.getElem?_cons_succ] at d0 d1 d2 k0 k1 k2
              have hfin := hid (OutSt.fin' hsl (hX.out.up hb0 (P' := P + 400000) (L' := L + 1) (by omega) (by omega)) hR (ρ := w.heap.size + 1) (by omega) (by have := hsz0.out; omega) (.int .i64 s.al) (.int .i64 s.st) (.slice (some ⟨g, 0, none⟩) s.es.length cv))
              go_wp2
              refine bodyPost_ret (v := .agg #[.int .i64 s.al, .int .i64 s.st, .slice (some ⟨g, 0, none⟩) s.es.length cv]) (by simp [results, Tryd.results125, go_sem, d0, d1, d2]) rfl ?_
              exact hfin.out
          · have hjb4 : ((j : Int) == 4) = false := by simpa using hj4
            replace hj4 := hid hj4
            by_cases hj5 : j = 5
            · subst hj5
              by_cases hn : s.es.length = 0
              · have hn2 : decide (0 < s.es.length) = false := decide_eq_false (by omega)
                have hX := hO4
                replace hn := hid hn
                have k0 := hX.out.blk.cell 0
                have k1 := hX.out.blk.cell 1
                have k2 := hX.out.blk.cell 2
                have hbl := hid (hres.out.keep hX.out.keep (by have := hsz0.out; omega))
                have d0 := hbl.out.cell 0
                have d1 := hbl.out.cell 1
                have d2 := hbl.out.cell 2
                have y0 := hbl.out.frozen 0
                have y1 := hbl.out.frozen 1
                have y2 := hbl.out.frozen 2
                have hlt := hbl.out.lt
                simp only [List.getElem?_toArray, List.getElem?_cons_zero, List.getElem?_cons_succ] at d0 d1 d2 k0 k1 k2
                have hfin := hid ((hX.out.up hb0 (P' := P + 400000) (L' := L + 1) (by omega) (by omega)).fin hR (ρ := w.heap.size + 1) (by omega) (by have := hsz0.out; omega) (.int .i64 s.al) (.int .i64 s.st) (.slice Av s.es.length cv))
                go_wp2
                refine bodyPost_ret (v := .agg #[.int .i64 s.al, .int .i64 s.st, .slice Av s.es.length cv]) (by simp [results, Tryd.results125, go_sem, d0, d1, d2]) rfl ?_
                exact hfin.out
              · have hkl := hkn.out (by omega)
                obtain ⟨g, cap, hve, hg1, hg2, -, -, -⟩ := own_shape hO4.out.own (by omega)
                cases hve
                have hn2 : (0 : Int) < (s.es.length : Int) := by omega
                have i1 : (0 : Int) ≤ (kn : Int) ∧ (kn : Int) < (s.es.length : Int) := by omega
                obtain ⟨e0, e1, e2⟩ := edCells_at s.es kn hkl
                have r0 := World.ownsRow.cellAt hO4.out.own (kn * 3) (by omega)
                have r1 := World.ownsRow.cellAt hO4.out.own (kn * 3 + 1) (by omega)
                have r2 := World.ownsRow.cellAt hO4.out.own (kn * 3 + 2) (by omega)
                rw [e0] at r0
                rw [e1] at r1
                rw [e2] at r2
                obtain ⟨x, hx⟩ : ∃ x, x = s.es[kn] := ⟨_, rfl⟩
                rw [← hx] at r0 r1 r2
                replace hx := hid hx
                have q2 := GK.BI.cell c2
                have q3 := GK.BI.cell r0
                have q4 := GK.BI.cell r1
                have q5 := GK.BI.cell r2
                replace hn := hid hn
                clear c0 c1 c2 g0 g1 g2 r0 r1 r2 e0 e1 e2
                go_wp2_with fail
                refine GK.wp_region 8 [8, 9, 10] 200 (KeepB fun _ => False) (GK.BI w4) (fun _ _ _ => True) (by kernel_rfl) (by kernel_rfl) (GK.BI.way w4) (by decide) (Below.refl _ _).drew ?_
                simp only [List.take_succ_cons, List.take_zero]
                (repeat (refine GK.grow_quiet w4 (by rfl) (by rfl) ?_; intro K hK; go_big_quiet_op; go_big_quiet_on))
                refine GK.grow_new (K := fun _ => False) (by rfl) _ (fun b => .slice (some ⟨b, 0, none⟩) 1 1) 76 #[.int .i64 x.f, .int .i64 x.l, .int .i64 x.t] (fun _ => by go_simp) rfl (fun _ _ o h => GK.BI.alloc o h) (fun _ _ h => GK.BI.size h) (fun _ h => h.elim) (fun b hb => ?_)
                simp only [Act.put, List.setIfInBounds_toArray, List.set_cons_zero, List.set_cons_succ]
                refine GK.grow_nil ?_
                intro w5 hw5 hf
                obtain ⟨b', z1, z2, hblk5⟩ := hf _ List.mem_cons_self
                cases z1
                clear hf q2 q3 q4 q5
                simp only [List.filterMap_cons, List.filterMap_nil, List.getElem?_cons_zero, List.getElem?_cons_succ]
                replace hw5 : Below w4.heap.size w4 w5 := hw5
                have hO5 := hid (hO4.out.later hw5 hR0.out)
                refine wpList_append_own_at _ (by rfl) _ _ 34 (by rfl) w0.heap.size 76 i0 (.agg #[.int .i64 0, .int .i64 0, .int .i64 0]) 3 24 Tryd.underlying34 hi hz0 hz1 hz2 rfl (by decide) _ s.es.length (edCells s.es) (by rfl) hO5.out.own ⟨b, 0, none⟩ 1 1 [.int .i64 x.f, .int .i64 x.l, .int .i64 x.t] (by rfl) (by rfl) (World.news_of_block hblk5) ?c1 ?c3 ?c4 ?c5 ?_
                case c1 => simp [Value.oneCell']
                case c3 => unfold maxLen; omega
                case c4 => omega
                case c5 => have := hO5.out.keep.size; omega
                intro v6 w6 hown6 hgrow6 hnil6 hat6
                obtain ⟨A6, c6, rfl, -, -⟩ := own_slice hown6
                have ag := hO5.out.ne
                have hgl5 := hO5.out.blk.lt
                have c2' : w6.cell? ⟨gs, 2, none⟩ = some (.slice (some ⟨g, 0, none⟩) s.es.length cv) := by rw [hgrow6.cell_far _ (by simpa using hgl5) (Ne.symm ag)]; exact hO5.out.blk.cell 2
                have f2' : w6.frozen? ⟨gs, 2, none⟩ = false := by rw [hgrow6.frozen_far _ (by simpa using hgl5) (Ne.symm ag)]; exact hO5.out.blk.frozen 2
                obtain ⟨w7, hw7⟩ : ∃ w7, w6.setCell ⟨gs, 2, none⟩ (.slice A6 (s.es.length + 1) c6) = w7 := ⟨_, rfl⟩
                have hX := hid (hO5.out.add (x := x) hR0.out hown6 hgrow6 hat6)
                rw [hw7] at hX
                have hsl : (s.es ++ [(x : Ed)]).length = s.es.length + 1 := by simp
                have hgl6 := hgrow6.size
                clear hown6 hgrow6 hnil6 hat6 ag
                have k0 := hX.out.blk.cell 0
                have k1 := hX.out.blk.cell 1
                have k2 := hX.out.blk.cell 2
                have hbl := hid (hres.out.keep hX.out.keep (by have := hsz0.out; omega))
                have d0 := hbl.out.cell 0
                have d1 := hbl.out.cell 1
                have d2 := hbl.out.cell 2
                have y0 := hbl.out.frozen 0
                have y1 := hbl.out.frozen 1
                have y2 := hbl.out.frozen 2
                have hlt := hbl.out.lt
                simp only [List.getElem?_toArray, List.getElem?_cons_zero, List.getElem?_cons_succ] at d0 d1 d2 k0 k1 k2
                have hfin := hid (OutSt.fin' hsl (hX.out.up hb0 (P' := P + 400000) (L' := L + 1) (by omega) (by omega)) hR (ρ := w.heap.size + 1) (by omega) (by have := hsz0.out; omega) (.int .i64 s.al) (.int .i64 s.st) (.slice A6 (s.es.length + 1) c6))
                go_wp2
                refine bodyPost_ret (v := .agg #[.int .i64 s.al, .int .i64 s.st, .slice A6 (s.es.length + 1) c6]) (by simp [results, Tryd.results125, go_sem, d0, d1, d2]) rfl ?_
                exact hfin.out
            · have hjb5 : ((j : Int) == 5) = false := by simpa using hj5
              replace hj5 := hid hj5
              by_cases hj6 : j = 6
              · subst hj6
                have hgsR : gs ≠ R := by have := hO4.out.hgs; have := hR0.out; omega
                have q2 := RI.cell hO4.out.rd c2 hgsR
                clear c0 c1 g0 g1 g2
                go_wp2_with fail
                clear c2
                refine GK.wp_region 10 [10, 11, 12] 200 (KeepB fun b => b = R) (RI w4 R (P + 2)) (fun _ u _ => ∃ x : Int, u = .int .i64 x) (by kernel_rfl) (by kernel_rfl) (RI.way w4 R (P + 2)) (by decide) (RI.drew hO4.out.rd) ?_
                simp only [List.take_succ_cons, List.take_zero]
                (repeat (refine GK.grow_quiet w4 (by rfl) (by rfl) ?_; intro K hK; go_big_quiet_op; go_big_quiet_on))
                refine GK.grow_call (by rfl) (fun u w w' _ h => h) (fun m wq hm hbq hf => ?_) ?_
                · go_simp
                  exact ⟨rfl, (pick_up R (P + 2 + m * 10000) 4 wq (by omega) (by omega) hbq.2).mono fun e w' ⟨x, h2, _, _, h3, h4⟩ => ⟨_, h2, RI.call hbq h4 h3 (by omega), x, rfl⟩⟩
                rintro u ⟨_, _, _, x1, rfl⟩
                simp only [Act.put, List.setIfInBounds_toArray, List.set_cons_zero, List.set_cons_succ]
                (repeat (refine GK.grow_quiet w4 (by rfl) (by rfl) ?_; intro K hK; go_big_quiet_op; go_big_quiet_on))
                refine GK.grow_call (by rfl) (fun u w w' _ h => h) (fun m wq hm hbq hf => ?_) ?_
                · go_simp
                  exact ⟨rfl, (pick_up R (P + 2 + m * 10000) 3 wq (by omega) (by omega) hbq.2).mono fun e w' ⟨x, h2, _, _, h3, h4⟩ => ⟨_, h2, RI.call hbq h4 h3 (by omega), x, rfl⟩⟩
                rintro u ⟨_, _, _, x2, rfl⟩
                simp only [Act.put, List.setIfInBounds_toArray, List.set_cons_zero, List.set_cons_succ]
                (repeat (refine GK.grow_quiet w4 (by rfl) (by rfl) ?_; intro K hK; go_big_quiet_op; go_big_quiet_on))
                refine GK.grow_call (by rfl) (fun u w w' _ h => h) (fun m wq hm hbq hf => ?_) ?_
                · go_simp
                  exact ⟨rfl, (pick_up R (P + 2 + m * 10000) 4 wq (by omega) (by omega) hbq.2).mono fun e w' ⟨x, h2, _, _, h3, h4⟩ => ⟨_, h2, RI.call hbq h4 h3 (by omega), x, rfl⟩⟩
                rintro u ⟨_, _, _, x3, rfl⟩
                simp only [Act.put, List.setIfInBounds_toArray, List.set_cons_zero, List.set_cons_succ]
                (repeat (refine GK.grow_quiet w4 (by rfl) (by rfl) ?_; intro K hK; go_big_quiet_op; go_big_quiet_on))
                refine GK.grow_new (K := fun b => b = R) (by rfl) w4.heap.size (fun b => .slice (some ⟨b, 0, none⟩) 1 1) 76 #[.int .i64 x1, .int .i64 x2, .int .i64 x3] (fun _ => by go_simp) rfl (fun _ _ o h => RI.alloc o h) (fun _ _ h => RI.size h) (fun k hk => by have := hO4.out.rd.lt; omega) (fun b hb => ?_)
                simp only [Act.put, List.setIfInBounds_toArray, List.set_cons_zero, List.set_cons_succ]
                refine GK.grow_nil ?_
                intro w5 hw5 hf
                obtain ⟨b', z1, z2, hblk5⟩ := hf _ List.mem_cons_self
                cases z1
                clear hf q2
                simp only [List.filterMap_cons, List.filterMap_nil, List.getElem?_cons_zero, List.getElem?_cons_succ]
                have hO5 := hid (hO4.out.call hw5.1 hw5.2 hR0.out)
                refine wpList_append_own_at _ (by rfl) _ _ 34 (by rfl) w0.heap.size 76 i0 (.agg #[.int .i64 0, .int .i64 0, .int .i64 0]) 3 24 Tryd.underlying34 hi hz0 hz1 hz2 rfl (by decide) _ s.es.length (edCells s.es) (by rfl) hO5.out.own ⟨b, 0, none⟩ 1 1 [.int .i64 x1, .int .i64 x2, .int .i64 x3] (by rfl) (by rfl) (World.news_of_block hblk5) ?c1 ?c3 ?c4 ?c5 ?_
                case c1 => simp [Value.oneCell']
                case c3 => unfold maxLen; omega
                case c4 => omega
                case c5 => have := hO5.out.keep.size; omega
                intro v6 w6 hown6 hgrow6 hnil6 hat6
                obtain ⟨A6, c6, rfl, -, -⟩ := own_slice hown6
                have ag := hO5.out.ne
                have hgl5 := hO5.out.blk.lt
                have c2' : w6.cell? ⟨gs, 2, none⟩ = some (.slice Av s.es.length cv) := by rw [hgrow6.cell_far _ (by simpa using hgl5) (Ne.symm ag)]; exact hO5.out.blk.cell 2
                have f2' : w6.frozen? ⟨gs, 2, none⟩ = false := by rw [hgrow6.frozen_far _ (by simpa using hgl5) (Ne.symm ag)]; exact hO5.out.blk.frozen 2
                obtain ⟨w7, hw7⟩ : ∃ w7, w6.setCell ⟨gs, 2, none⟩ (.slice A6 (s.es.length + 1) c6) = w7 := ⟨_, rfl⟩
                have hX := hid (hO5.out.add (x := (⟨x1, x2, x3⟩ : Ed)) hR0.out hown6 hgrow6 hat6)
                rw [hw7] at hX
                have hsl : (s.es ++ [(⟨x1, x2, x3⟩ : Ed)]).length = s.es.length + 1 := by simp
                have hgl6 := hgrow6.size
                clear hown6 hgrow6 hnil6 hat6 ag
                have k0 := hX.out.blk.cell 0
                have k1 := hX.out.blk.cell 1
                have k2 := hX.out.blk.cell 2
                have hbl := hid (hres.out.keep hX.out.keep (by have := hsz0.out; omega))
                have d0 := hbl.out.cell 0
                have d1 := hbl.out.cell 1
                have d2 := hbl.out.cell 2
                have y0 := hbl.out.frozen 0
                have y1 := hbl.out.frozen 1
                have y2 := hbl.out.frozen 2
                have hlt := hbl.out.lt
                simp only [List.getElem?_toArray, List.getElem?_cons_zero, List.getElem?_cons_succ] at d0 d1 d2 k0 k1 k2
                have hfin := hid (OutSt.fin' hsl (hX.out.up hb0 (P' := P + 400000) (L' := L + 1) (by omega) (by omega)) hR (ρ := w.heap.size + 1) (by omega) (by have := hsz0.out; omega) (.int .i64 s.al) (.int .i64 s.st) (.slice A6 (s.es.length + 1) c6))
                go_wp2
                refine bodyPost_ret (v := .agg #[.int .i64 s.al, .int .i64 s.st, .slice A6 (s.es.length + 1) c6]) (by simp [results, Tryd.results125, go_sem, d0, d1, d2]) rfl ?_
                exact hfin.out
              · have hjb6 : ((j : Int) == 6) = false := by simpa using hj6
                replace hj6 := hid hj6
                have hX := hO4
                have k0 := hX.out.blk.cell 0
                have k1 := hX.out.blk.cell 1
                have k2 := hX.out.blk.cell 2
                have hbl := hid (hres.out.keep hX.out.keep (by have := hsz0.out; omega))
                have d0 := hbl.out.cell 0
                have d1 := hbl.out.cell 1
                have d2 := hbl.out.cell 2
                have y0 := hbl.out.frozen 0
                have y1 := hbl.out.frozen 1
                have y2 := hbl.out.frozen 2
                have hlt := hbl.out.lt
                simp only [List.getElem?_toArray, List.getElem?_cons_zero, List.getElem?_cons_succ] at d0 d1 d2 k0 k1 k2
                have hfin := hid ((hX.out.up hb0 (P' := P + 400000) (L' := L + 1) (by omega) (by omega)).fin hR (ρ := w.heap.size + 1) (by omega) (by have := hsz0.out; omega) (.int .i64 s.al) (.int .i64 s.st) (.slice Av s.es.length cv))
                go_wp2
                refine bodyPost_ret (v := .agg #[.int .i64 s.al, .int .i64 s.st, .slice Av s.es.length cv]) (by simp [results, Tryd.results125, go_sem, d0, d1, d2]) rfl ?_
                exact hfin.out

end Go.Proofs.YtbomhfbiaedbiaaDoor
