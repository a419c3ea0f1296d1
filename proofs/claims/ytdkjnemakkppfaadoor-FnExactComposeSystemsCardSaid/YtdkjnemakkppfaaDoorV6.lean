/- Lemmas, part 6: several texts in one. -/
import Derived.Test.YtdkjnemakkppfaaDoorV5
import Derived.Test.YtdkjnemakkppfaaDoorV1
import Derived.Test.YtdkjnemakkppfaaDoorV3
import Derived.Test.YtdkjnemakkppfaaDoorV4
import Derived.WalkKit
import Derived.Test.YtdkjnemakkppfaaDoorV2
import Derived.Deep.Upon
import Derived.Deep.AppendSrc
import Derived.Deep.Quiet
import Derived.Deep.AppendLies
import Derived.Laws.OwnMore
set_option linter.unusedSimpArgs false
set_option linter.unusedVariables false

/- Plain: compositions as the laws ask for them. -/
namespace Go.Proofs.YtdkjnemakkppfaaDoor
open AG

theorem cmOk_parts {s t : Sy} (h : cmOk s t = true) : sysOk s = true ∧ sysOk t = true ∧ (rnL [s, t]).length ≤ 16 := by
  unfold cmOk at h
  simp only [Bool.and_eq_true, decide_eq_true_eq] at h
  exact h
theorem cmOk_of {s t : Sy} (hs : sysOk s = true) (ht : sysOk t = true) (h : (rnL [s, t]).length ≤ 16) : cmOk s t = true := by
  unfold cmOk
  rw [hs, ht, decide_eq_true h]
  rfl
theorem cmX_ok {s t : Sy} (h : cmOk s t = true) : cmX s t = cmSy [s, t] := by unfold cmX; rw [if_pos h]
theorem cmX_bad {s t : Sy} (h : cmOk s t = false) : cmX s t = ⟨0, 0, []⟩ := by unfold cmX; rw [h]; rfl
/- How many edges a composition has. -/
end Go.Proofs.YtdkjnemakkppfaaDoor

/- A slice is copied: append(empty, s...). -/
namespace AG
open Go Go.RowKit

namespace GK
section
variable {P : Program} {ops : Array Oper} {M : Nat} {S : World → World → Prop} {I : Nat → World → Prop} {sp : Nat → Value → World → Prop} {w0 w1 : World}
variable {Q : List (Nat × (World → Prop)) → Act → Prop} {o : Oper} {rest : List Oper} {i : Nat} {Γ : List (Nat × (World → Prop))} {a : Act}
theorem grow_fact (Z : Value → World → Prop) (hw : Region.wanted o (yielded ops a.tmps) = true) (hs : ∀ u, Steady S (Z u))
    (hc : ∀ m w, m < M → I m w → FactsAt .any ops i Γ w → fnUpon (fun u w' => (S w w' ∧ I (m + 1) w') ∧ Z u w') ((execOp a.eval o).run P w))
    (h : ∀ u, (∃ m w', I m w' ∧ Z u w') → wpGrow P ops S I M w0 sp Q rest (i + 1) ((i, Z u) :: Γ) (a.put o.dst u)) : wpGrow P ops S I M w0 sp Q (o :: rest) i Γ a := by
  unfold wpGrow Res
  rw [if_pos hw]
  exact .inr (.inl ⟨Z, hs, hc, (fun h => by cases h), fun u _ hu => h u (hu rfl)⟩)

end
end GK
end AG

/- The drawing kit's reader: what it is in memory; pick. -/
namespace Go.Proofs.YtdkjnemakkppfaaDoor
open Go.RowKit Go.BigFrame AG

/-- The reader at block R: its bytes are the slice '.slice A n c', its position p. -/
structure RdAt (w : World) (R : Nat) (A : Option Addr) (n c p : Nat) : Prop where
  blk : Blk w R 111 #[.slice A n c, .int .i64 (p : Int)]
  len : n ≤ 2000
  cap : n ≤ c
  top : c ≤ 9223372036854775807
  pos : p ≤ 1125899906842624
  bytes : 0 < n → ∃ b o, A = some ⟨b, o, none⟩ ∧ b < R ∧ ∀ i, i < n → ∃ x : Nat, x < 256 ∧ w.cell? ⟨b, o + i, none⟩ = some (.int .u8 (x : Int))

theorem RdAt.later {w w' : World} {R : Nat} {A : Option Addr} {n c p : Nat} (h : RdAt w R A n c p) (hb : Below w.heap.size w w') : RdAt w' R A n c p :=
  ⟨h.blk.below hb h.blk.lt, h.len, h.cap, h.top, h.pos, fun hn => by
    obtain ⟨b, o, hA, hlt, hx⟩ := h.bytes hn
    have hR := h.blk.lt
    refine ⟨b, o, hA, hlt, fun i hi => ?_⟩
    obtain ⟨x, h1, h2⟩ := hx i hi
    exact ⟨x, h1, by rw [hb.cell (by simp; omega)]; exact h2⟩⟩

theorem RdAt.step {w : World} {R : Nat} {A : Option Addr} {n c p : Nat} {v : Value} (h : RdAt w R A n c p) (hp : p < 1125899906842624) (hv : v = .int .i64 ((p : Int) + 1)) :
    RdAt (w.setCell ⟨R, 1, none⟩ v) R A n c (p + 1) ∧ KeepB (fun b => b = R) w (w.setCell ⟨R, 1, none⟩ v) := by
  subst hv
  refine ⟨⟨?_, h.len, h.cap, h.top, by omega, fun hn => ?_⟩, (KeepB.refl _ w).setCell _ _ (fun _ => rfl)⟩
  · have := h.blk.set_ 1 (.int .i64 ((p : Int) + 1))
    simpa using this
  · obtain ⟨b, o, hA, hlt, hx⟩ := h.bytes hn
    refine ⟨b, o, hA, hlt, fun i hi => ?_⟩
    obtain ⟨x, h1, h2⟩ := hx i hi
    refine ⟨x, h1, ?_⟩
    rw [World.cell?_setCell_other (h := addr_ne (by omega))]
    exact h2

/-- The reader at block R, its position at most P. -/
def RdUp (w : World) (R P : Nat) : Prop := ∃ A n c p, p ≤ P ∧ RdAt w R A n c p
theorem RdUp.more {w : World} {R P P' : Nat} (h : RdUp w R P) (hP : P ≤ P') : RdUp w R P' := by
  obtain ⟨A, n, c, p, h1, h2⟩ := h
  exact ⟨A, n, c, p, by omega, h2⟩
theorem RdUp.later {w w' : World} {R P : Nat} (h : RdUp w R P) (hb : Below w.heap.size w w') : RdUp w' R P := by
  obtain ⟨A, n, c, p, h1, h2⟩ := h
  exact ⟨A, n, c, p, h1, h2.later hb⟩
theorem RdUp.lt {w : World} {R P : Nat} (h : RdUp w R P) : R < w.heap.size := by
  obtain ⟨A, n, c, p, h1, h2⟩ := h
  exact h2.blk.lt
/-- Later blocks may be written. -/
theorem RdUp.keep {K : Nat → Prop} {w w' : World} {R P : Nat} (h : RdUp w R P) (hb : KeepB K w w') (hK : ∀ k, K k → R < k) : RdUp w' R P := by
  obtain ⟨A, n, c, p, h1, h2⟩ := h
  have hR := h2.blk.lt
  refine ⟨A, n, c, p, h1, h2.blk.keep hb (fun hk => by have := hK _ hk; omega), h2.len, h2.cap, h2.top, h2.pos, fun hn => ?_⟩
  obtain ⟨b, o, hA, hlt, hx⟩ := h2.bytes hn
  refine ⟨b, o, hA, hlt, fun i hi => ?_⟩
  obtain ⟨x, g1, g2⟩ := hx i hi
  refine ⟨x, g1, ?_⟩
  have : w'.cell? ⟨b, o + i, none⟩ = w.cell? ⟨b, o + i, none⟩ := by
    unfold World.cell?
    rw [hb.block b (by omega) (fun hk => by have := hK _ hk; omega)]
  rw [this]
  exact g2

end Go.Proofs.YtdkjnemakkppfaaDoor

/- The drawing kit: l19Open, num, of. -/
namespace Go.Proofs.YtdkjnemakkppfaaDoor
open Go.RowKit Go.BigFrame AG

theorem KeepB.cell_ {K : Nat → Prop} {w w' : World} (h : KeepB K w w') {p : Addr} (hb : p.block < w.heap.size) (hK : ¬ K p.block) : w'.cell? p = w.cell? p := by
  unfold World.cell?
  rw [h.block _ hb hK]

end Go.Proofs.YtdkjnemakkppfaaDoor

/- The drawing kit: l19Cut, l2Parse. -/
namespace Go.Proofs.YtdkjnemakkppfaaDoor
open Go.RowKit Go.BigFrame AG

/-- Texts of at most N bytes each, as an owned slice. -/
def OwnStrs (w : World) (B : Nat) (v : Value) (ws : List ByteArray) : Prop := w.ownsRow B 9 1 v ws.length (ws.map Value.string)
structure CutSt (w wr : World) (v : Value) (ws : List ByteArray) (N k : Nat) : Prop where
  own : OwnStrs wr w.heap.size v ws
  len : ws.length ≤ k
  small : ∀ x ∈ ws, x.size ≤ N
  below : Below w.heap.size w wr

theorem CutSt.add {w wr w1 : World} {v v' : Value} {ws : List ByteArray} {N k : Nat} {x : ByteArray} {o : Obj} (h : CutSt w wr v ws N k) (hx : x.size ≤ N) (hown : w1.ownsRow w.heap.size 9 1 v' (ws.length + 1) (ws.map Value.string ++ [.string x])) (hg : (wr.alloc o).grownBy w1 v.ownBlock) :
    CutSt w w1 v' (ws ++ [x]) N (k + 1) := by
  refine ⟨?_, ?_, ?_, ?_⟩
  · have : (ws ++ [x]).length = ws.length + 1 := by simp
    unfold OwnStrs
    rw [this, List.map_append]
    exact hown
  · have := h.len
    simp
    omega
  · intro y hy
    rcases List.mem_append.1 hy with hy | hy
    · exact h.small y hy
    · rw [List.mem_singleton.1 hy]; exact hx
  · exact (h.below.alloc h.below.size o).grown hg (by have := h.below.size; simp; omega) (fun k hk => (World.ownsRow.lt h.own k hk).1)

end Go.Proofs.YtdkjnemakkppfaaDoor

/- The drawing kit: l2Random, l2Small. -/
namespace Go.Proofs.YtdkjnemakkppfaaDoor
open Go.RowKit Go.BigFrame AG

theorem infoEd : (Tryd.prog.info? 59).map (fun i => (i.zero, i.size, i.bytes)) = some (some (.agg #[.int .i64 0, .int .i64 0, .int .i64 0]), 3, 24) := by kernel_rfl

def edCells : List Ed → List Value
  | [] => []
  | e :: es => .int .i64 e.f :: .int .i64 e.l :: .int .i64 e.t :: edCells es
theorem edCells_append : ∀ ps qs : List Ed, edCells (ps ++ qs) = edCells ps ++ edCells qs
  | [], _ => rfl
  | p :: ps, qs => by rw [List.cons_append, edCells, edCells_append ps qs]; rfl
theorem edCells_at : ∀ (ps : List Ed) (i : Nat) (h : i < ps.length), (edCells ps)[i * 3]? = some (.int .i64 ps[i].f) ∧ (edCells ps)[i * 3 + 1]? = some (.int .i64 ps[i].l) ∧ (edCells ps)[i * 3 + 2]? = some (.int .i64 ps[i].t)
  | p :: ps, 0, _ => ⟨rfl, rfl, rfl⟩
  | p :: ps, i + 1, h => by
    have := edCells_at ps i (by simpa using h)
    rw [show (i + 1) * 3 = i * 3 + 1 + 1 + 1 from by omega]
    exact this
theorem edCells_len : ∀ ps : List Ed, (edCells ps).length = ps.length * 3
  | [] => rfl
  | p :: ps => by simp [edCells, edCells_len ps]; omega

/-- The edges es, as an owned slice. -/
def OwnEds (w : World) (B : Nat) (v : Value) (es : List Ed) : Prop := w.ownsRow B 59 3 v es.length (edCells es)
theorem OwnEds.read {w : World} {B : Nat} {v : Value} {es : List Ed} (h : OwnEds w B v es) : ∃ A c, v = .slice A es.length c ∧ es.length ≤ c ∧ c ≤ 9223372036854775807 ∧ EdsAt w w.heap.size A es ∧ FreshA B A := by
  have hlt := World.ownsRow.lt h
  have hcl := fun {g} hg => World.ownsRow.cells h (g := g) hg
  obtain ⟨_, ⟨rfl, h0⟩ | ⟨g, cap, cur, rfl, hg, hw, h1, h2, h3, h4⟩⟩ := h
  · exact ⟨none, 0, by rw [h0], by omega, by omega, fun hl => by omega, fun b o hA => by cases hA⟩
  · refine ⟨_, cap, rfl, h1, h2, fun _ => ⟨g, 0, rfl, (hlt g rfl).2, fun i hi => ?_⟩, fun b o hA => by injection hA with hA; injection hA with hA; omega⟩
    obtain ⟨a1, a2, a3⟩ := edCells_at es i hi
    have b1 := hcl rfl _ _ a1
    have b2 := hcl rfl _ _ a2
    have b3 := hcl rfl _ _ a3
    have hadd : ∀ j, (⟨g, 0, none⟩ : Addr).add j = ⟨g, j, none⟩ := fun j => by unfold Addr.add; split <;> simp_all
    rw [hadd] at b1 b2 b3
    simp only [Nat.zero_add]
    exact ⟨b1, b2, b3⟩

/-- Some system comes back; the reader has moved on to P at most. -/
def SyUp (R P L : Nat) (w : World) (e : Ending) (w' : World) : Prop :=
  ∃ (s : Sy) (A : Option Addr) (c : Nat), e = .returned (s.val A c) ∧ s.es.length ≤ c ∧ c ≤ 9223372036854775807 ∧ s.es.length ≤ L ∧ EdsAt w' w'.heap.size A s.es ∧ FreshA w.heap.size A ∧ RdUp w' R P ∧ KeepB (fun b => b = R) w w'

/-- What l2Random holds in its loops: N rounds at most are behind it. -/
structure RndSt (w wr : World) (R P gs : Nat) (al st : Int) (lv : Value) (ls : List Nat) (N : Nat) (v : Value) (es : List Ed) : Prop where
  len : es.length ≤ N
  blk : Blk wr gs 28 #[.int .i64 al, .int .i64 st, v]
  own : OwnEds wr (gs + 1) v es
  list : OwnNats wr (gs + 1) lv ls
  rd : RdUp wr R (P + N)
  keep : KeepB (fun b => b = R) w wr
  res : Blk wr w.heap.size 28 #[.int .i64 0, .int .i64 0, .slice none 0 0]
theorem RndSt.pick {w wr w1 : World} {R P gs : Nat} {al st : Int} {lv : Value} {ls : List Nat} {N : Nat} {v : Value} {es : List Ed} (h : RndSt w wr R P gs al st lv ls N v es) (hR : R < w.heap.size) (hgs : w.heap.size < gs) (hr : RdUp w1 R (P + N + 1)) (hk : KeepB (fun b => b = R) wr w1) :
    RndSt w w1 R P gs al st lv ls (N + 1) v es :=
  ⟨by have := h.len; omega, h.blk.keep hk (by omega), own_keep h.own hk (fun g hg => by have := (h.own.lt g hg).1; omega), own_keep h.list hk (fun g hg => by have := (World.ownsRow.lt h.list g hg).1; omega), hr, h.keep.trans hk, h.res.keep hk (by omega)⟩
theorem RndSt.later {w wr w1 : World} {R P gs : Nat} {al st : Int} {lv : Value} {ls : List Nat} {N : Nat} {v : Value} {es : List Ed} (h : RndSt w wr R P gs al st lv ls N v es) (hb : Below wr.heap.size wr w1) : RndSt w w1 R P gs al st lv ls N v es :=
  ⟨h.len, h.blk.below hb h.blk.lt, own_later h.own hb, own_later h.list hb, h.rd.later hb, h.keep.trans (KeepB.of_below hb), h.res.below hb h.res.lt⟩
theorem RndSt.begin {w w2 : World} {R P : Nat} {al st : Int} {lv : Value} {ls : List Nat}
    (hr : RdUp w R P) (hown : OwnNats w2 (w.heap.size + 2) lv ls) (hb : Below (w.heap.size + 2) ((w.alloc (.cells #[.int .i64 0, .int .i64 0, .slice none 0 0] 28)).alloc (.cells #[.int .i64 al, .int .i64 st, .slice none 0 0] 28)) w2) :
    RndSt w w2 R P (w.heap.size + 1) al st lv ls 0 (.slice none 0 0) [] := by
  have b1 : Below w.heap.size w w2 := (((Below.refl _ _).alloc (Nat.le_refl _) _).alloc (by simp) _).trans (hb.mono (by omega))
  refine ⟨Nat.le_refl _, ?_, World.ownsRow_nil _ _ _ _, own_base hown (by omega), hr.later b1, KeepB.of_below b1, ?_⟩
  · have := Blk.new (w.alloc (.cells #[.int .i64 0, .int .i64 0, .slice none 0 0] 28)) 28 #[.int .i64 al, .int .i64 st, .slice none 0 0]
    rw [World.size_alloc] at this
    exact this.below hb (by omega)
  · have := (Blk.new w 28 #[.int .i64 0, .int .i64 0, .slice none 0 0]).alloc (.cells #[.int .i64 al, .int .i64 st, .slice none 0 0] 28)
    exact this.below hb (by omega)
theorem RndSt.post {w wr : World} {R P : Nat} {al st : Int} {lv : Value} {ls : List Nat} {N : Nat} {v : Value} {es : List Ed} (h : RndSt w wr R P (w.heap.size + 1) al st lv ls N v es) (hN : N ≤ 1536) (hR : R < w.heap.size) (v1 v2 v3 : Value) :
    SyUp R (P + 1536) 1536 w (.returned (.agg #[.int .i64 al, .int .i64 st, v])) (((wr.setCell ⟨w.heap.size, 0, none⟩ v1).setCell ⟨w.heap.size, 1, none⟩ v2).setCell ⟨w.heap.size, 2, none⟩ v3) := by
  obtain ⟨A, c, hv, h1, h2, h3, h4⟩ := h.own.read
  have hl := h.len
  have hk : KeepB (fun b => b = w.heap.size) wr (((wr.setCell ⟨w.heap.size, 0, none⟩ v1).setCell ⟨w.heap.size, 1, none⟩ v2).setCell ⟨w.heap.size, 2, none⟩ v3) := (((KeepB.refl _ wr).setCell _ _ (by simp)).setCell _ _ (by simp)).setCell _ _ (by simp)
  refine ⟨⟨al, st, es⟩, A, c, by rw [hv]; rfl, h1, h2, by show es.length ≤ 1536; omega, ?_, fun b o hA => by have := h4 b o hA; omega, (h.rd.more (by omega)).keep hk (by omega), ?_⟩
  · have hne : ∀ b o, A = some ⟨b, o, none⟩ → 0 < es.length → b ≠ w.heap.size := fun b o hA _ => by have := h4 b o hA; omega
    simpa [World.setCell] using ((h3.stored v1 hne).stored v2 hne).stored v3 hne
  · exact (((h.keep).setCell _ _ (by simp)).setCell _ _ (by simp)).setCell _ _ (by simp)


end Go.Proofs.YtdkjnemakkppfaaDoor

/- The drawing kit: ParseSystem. -/
namespace Go.Proofs.YtdkjnemakkppfaaDoor
open Go.RowKit Go.BigFrame AG

structure PsSt (w2 wr : World) (al st : Int) (v : Value) (es : List Ed) (k : Nat) : Prop where
  blk : Blk wr w2.heap.size 28 #[.int .i64 al, .int .i64 st, v]
  own : OwnEds wr (w2.heap.size + 1) v es
  len : es.length ≤ k
  below : Below w2.heap.size w2 wr
theorem PsSt.later {w2 wr w1 : World} {al st : Int} {v : Value} {es : List Ed} {k : Nat} (h : PsSt w2 wr al st v es k) (hb : Below wr.heap.size wr w1) : PsSt w2 w1 al st v es k :=
  ⟨h.blk.below hb h.blk.lt, own_later h.own hb, h.len, h.below.trans (hb.mono h.below.size)⟩
theorem PsSt.add {w2 wr w1 : World} {al st : Int} {v v' : Value} {es : List Ed} {k : Nat} {x : Ed} (h : PsSt w2 wr al st v es k)
    (hown : w1.ownsRow (w2.heap.size + 1) 59 3 v' (es.length + 1) (edCells es ++ [.int .i64 x.f, .int .i64 x.l, .int .i64 x.t])) (hg : wr.grownBy w1 v.ownBlock) :
    PsSt w2 (w1.setCell ⟨w2.heap.size, 2, none⟩ v') al st v' (es ++ [x]) (k + 1) := by
  have hv : ∀ k, v.ownBlock = some k → w2.heap.size < k := fun k hk => by have := (h.own.lt k hk).1; omega
  have hv' : ∀ k, v'.ownBlock = some k → w2.heap.size < k := fun k hk => by have := (World.ownsRow.lt hown k hk).1; omega
  have k1 : KeepB (fun b => v.ownBlock = some b) wr w1 := (KeepB.refl _ wr).grown hg (fun k hk _ => hk)
  have hb := h.blk.lt
  refine ⟨?_, ?_, by have := h.len; simp; omega, ?_⟩
  · have := (h.blk.keep k1 (fun hk => by have := hv _ hk; omega)).set_ 2 v'
    simpa using this
  · have e : (es ++ [x]).length = es.length + 1 := by simp
    unfold OwnEds
    rw [e, edCells_append]
    exact ownsRow_setCell_other hown (fun hk => by have := hv' _ hk; simp at this) _
  · exact (h.below.grown hg h.below.size (fun k hk => by have := hv k hk; omega)).setCell (by simp) _

end Go.Proofs.YtdkjnemakkppfaaDoor

/- The drawing kit: l2Wrong. -/
namespace Go.Proofs.YtdkjnemakkppfaaDoor
open Go.RowKit Go.BigFrame AG

/-- Worlds behind m operations of a statement that draws. -/
def RI (w0 : World) (R P : Nat) : Nat → World → Prop := fun m w => KeepB (fun b => b = R) w0 w ∧ RdUp w R (P + m * 10000)
theorem RI.way (w0 : World) (R P : Nat) : AG.Way (KeepB fun b => b = R) (RI w0 R P) := ⟨fun w => KeepB.refl _ w, fun _ _ _ h k => h.trans k, fun m _ h => ⟨h.1, h.2.more (by omega)⟩⟩
theorem RI.begin {w0 : World} {R P : Nat} (h : RdUp w0 R P) : RI w0 R P 0 w0 := ⟨KeepB.refl _ _, h.more (by omega)⟩
theorem RI.drew {w0 : World} {R P : Nat} (h : RdUp w0 R P) : RI w0 R P 0 w0.drew := ⟨⟨rfl, rfl, rfl, Nat.le_refl _, fun _ _ _ => rfl⟩, (h.later ((Below.refl _ _).drew)).more (by omega)⟩
theorem RI.fam {w0 : World} {R P : Nat} (h : RdUp w0 R P) (x : World) : KeepB (fun b => b = R) w0 (GK.FamI (GK.Upto (RI w0 R P) 200) w0 x) := by
  obtain ⟨_, _, h⟩ := GK.FamI.is (J := GK.Upto (RI w0 R P) 200) (w1 := w0) ⟨0, by omega, RI.begin h⟩ x
  exact h.1
theorem RI.cell {w0 : World} {R P b o : Nat} {v : Value} (hr : RdUp w0 R P) (h : w0.cell? ⟨b, o, none⟩ = some v) (hb : b ≠ R) (x : World) : (GK.FamI (GK.Upto (RI w0 R P) 200) w0 x).cell? ⟨b, o, none⟩ = some v := by
  rw [KeepB.cell_ (RI.fam hr x) (World.block_lt_of_cell? _ _ h) hb]
  exact h
theorem RI.alloc {w0 w : World} {R P m : Nat} (o : Obj) (h : RI w0 R P m w) : RI w0 R P (m + 1) (w.alloc o) := ⟨h.1.alloc o, (h.2.later ((Below.refl _ _).alloc (Nat.le_refl _) o)).more (by omega)⟩
theorem RI.call {w0 w w' : World} {R P P' m : Nat} (h : RI w0 R P m w) (hk : KeepB (fun b => b = R) w w') (hr : RdUp w' R P') (hP : P' ≤ P + m * 10000 + 10000) : KeepB (fun b => b = R) w w' ∧ RI w0 R P (m + 1) w' := ⟨hk, h.1.trans hk, hr.more (by omega)⟩
theorem RI.size {w0 w : World} {R P m : Nat} (h : RI w0 R P m w) : w0.heap.size ≤ w.heap.size := h.1.size

/-- A copy of a system that the call may write. -/
structure OutSt (w wr : World) (R P B gs : Nat) (al st : Int) (v : Value) (es : List Ed) (L : Nat) : Prop where
  blk : Blk wr gs 28 #[.int .i64 al, .int .i64 st, v]
  own : OwnEds wr B v es
  len : es.length ≤ L
  rd : RdUp wr R P
  keep : KeepB (fun b => b = R) w wr
  hB : w.heap.size ≤ B
  hgs : B ≤ gs
theorem OutSt.ne {w wr : World} {R P B gs : Nat} {al st : Int} {v : Value} {es : List Ed} {L : Nat} (h : OutSt w wr R P B gs al st v es L) : v.ownBlock ≠ some gs := fun e => own_ne h.own h.blk (by decide) gs e rfl
theorem OutSt.call {w wr w1 : World} {R P P' B gs : Nat} {al st : Int} {v : Value} {es : List Ed} {L : Nat} (h : OutSt w wr R P B gs al st v es L) (hk : KeepB (fun b => b = R) wr w1) (hr : RdUp w1 R P') (hR : R < w.heap.size) : OutSt w w1 R P' B gs al st v es L :=
  ⟨h.blk.keep hk (by have := h.hB; have := h.hgs; omega), own_keep h.own hk (fun g hg => by have := (h.own.lt g hg).1; have := h.hB; omega), h.len, hr, h.keep.trans hk, h.hB, h.hgs⟩
theorem OutSt.later {w wr w1 : World} {R P B gs : Nat} {al st : Int} {v : Value} {es : List Ed} {L : Nat} (h : OutSt w wr R P B gs al st v es L) (hb : Below wr.heap.size wr w1) (hR : R < w.heap.size) : OutSt w w1 R P B gs al st v es L := h.call (KeepB.of_below hb) (h.rd.later hb) hR
theorem OutSt.add {w wr w1 : World} {R P B gs : Nat} {al st : Int} {v v' : Value} {es : List Ed} {L : Nat} {x : Ed} (h : OutSt w wr R P B gs al st v es L) (hR : R < w.heap.size)
    (hown : w1.ownsRow B 59 3 v' (es.length + 1) (edCells es ++ [.int .i64 x.f, .int .i64 x.l, .int .i64 x.t])) (hg : wr.grownBy w1 v.ownBlock) (hat : v'.ownBlock = v.ownBlock ∨ v'.ownBlock = some wr.heap.size) :
    OutSt w (w1.setCell ⟨gs, 2, none⟩ v') R P B gs al st v' (es ++ [x]) (L + 1) := by
  have h1 := h.hB
  have h2 := h.hgs
  have hv : ∀ k, v.ownBlock = some k → B ≤ k ∧ k ≠ gs := fun k hk => ⟨(h.own.lt k hk).1, fun e => h.ne (by rw [hk, e])⟩
  have k1 : KeepB (fun b => v.ownBlock = some b) wr w1 := (KeepB.refl _ wr).grown hg (fun k hk _ => hk)
  have hb := h.blk.lt
  have hne' : v'.ownBlock ≠ some gs := fun e => by
    rcases hat with h3 | h3
    · exact h.ne (by rw [← h3, e])
    · rw [h3] at e; injection e with e; omega
  have k2 : KeepB (fun b => v.ownBlock = some b ∨ b = gs) wr (w1.setCell ⟨gs, 2, none⟩ v') := (k1.mono fun _ h => .inl h).setCell _ _ fun _ => .inr rfl
  refine ⟨?_, ?_, by have := h.len; simp; omega, h.rd.keep k2 ?_, (h.keep.grown hg (fun k hk hlt => by have := (hv k hk).1; omega)).setCell _ _ (fun hlt => by simp at hlt; omega), h1, h2⟩
  · have := (h.blk.keep k1 (fun hk => (hv _ hk).2 rfl)).set_ 2 v'
    simpa using this
  · have e : (es ++ [x]).length = es.length + 1 := by simp
    unfold OwnEds
    rw [e, edCells_append]
    exact ownsRow_setCell_other hown hne' _
  · rintro k (hk | rfl)
    · have := (hv k hk).1; omega
    · omega
theorem OutSt.fin {w wr : World} {R P B gs ρ L : Nat} {al st : Int} {A : Option Addr} {c : Nat} {es : List Ed} (h : OutSt w wr R P B gs al st (.slice A es.length c) es L) (hR : R < w.heap.size) (hρ : w.heap.size ≤ ρ) (hρB : ρ < B) (v1 v2 v3 : Value) :
    SyUp R P L w (.returned (.agg #[.int .i64 al, .int .i64 st, .slice A es.length c])) (((wr.setCell ⟨ρ, 0, none⟩ v1).setCell ⟨ρ, 1, none⟩ v2).setCell ⟨ρ, 2, none⟩ v3) := by
  obtain ⟨A', c', hv, h1, h2, h3, h4⟩ := h.own.read
  cases hv
  have hk : KeepB (fun b => b = ρ) wr (((wr.setCell ⟨ρ, 0, none⟩ v1).setCell ⟨ρ, 1, none⟩ v2).setCell ⟨ρ, 2, none⟩ v3) := (((KeepB.refl _ wr).setCell _ _ (by simp)).setCell _ _ (by simp)).setCell _ _ (by simp)
  have hne : ∀ b o, A = some ⟨b, o, none⟩ → 0 < es.length → b ≠ ρ := fun b o hA _ => by have := h4 b o hA; omega
  refine ⟨⟨al, st, es⟩, A, c, rfl, h1, h2, h.len, ?_, fun b o hA => by have := h4 b o hA; omega, h.rd.keep hk (by omega), ?_⟩
  · simpa [World.setCell] using ((h3.stored v1 hne).stored v2 hne).stored v3 hne
  · exact ((h.keep.setCell _ _ (by simp; omega)).setCell _ _ (by simp; omega)).setCell _ _ (by simp; omega)

theorem OutSt.up {w w0 wr : World} {R P P' B gs : Nat} {al st : Int} {v : Value} {es : List Ed} {L L' : Nat} (h : OutSt w0 wr R P B gs al st v es L) (hb : Below w.heap.size w w0) (hP : P ≤ P') (hL : L ≤ L') : OutSt w wr R P' B gs al st v es L' :=
  ⟨h.blk, h.own, by have := h.len; omega, h.rd.more hP, (KeepB.of_below hb).trans h.keep, Nat.le_trans hb.size h.hB, h.hgs⟩
theorem EdsAt.news {w : World} {B : Nat} {A : Option Addr} {es : List Ed} (h : EdsAt w B A es) (hn : 0 < es.length) : ∃ a, A = some a ∧ ∀ (j : Nat) u, (edCells es)[j]? = some u → w.cell? (a.add j) = some u := by
  obtain ⟨b, o, hA, -, hE⟩ := h hn
  refine ⟨_, hA, fun j u hj => ?_⟩
  have hjl : j < es.length * 3 := by
    rw [← edCells_len]
    rcases Nat.lt_or_ge j (edCells es).length with h | h
    · exact h
    · rw [List.getElem?_eq_none h] at hj; cases hj
  have hadd : (⟨b, o, none⟩ : Addr).add j = ⟨b, o + j, none⟩ := by unfold Addr.add; split <;> simp_all
  rw [hadd]
  have hi : j / 3 < es.length := by omega
  obtain ⟨c0, c1, c2⟩ := hE (j / 3) hi
  obtain ⟨d0, d1, d2⟩ := edCells_at es (j / 3) hi
  rcases (by omega : j = j / 3 * 3 ∨ j = j / 3 * 3 + 1 ∨ j = j / 3 * 3 + 2) with e | e | e
  · rw [← e] at d0; rw [hj] at d0; rw [← c0] at d0; rw [show o + j = o + j / 3 * 3 from by omega]; exact d0.symm
  · rw [← e] at d1; rw [hj] at d1; rw [← c1] at d1; rw [show o + j = o + j / 3 * 3 + 1 from by omega]; exact d1.symm
  · rw [← e] at d2; rw [hj] at d2; rw [← c2] at d2; rw [show o + j = o + j / 3 * 3 + 2 from by omega]; exact d2.symm
end Go.Proofs.YtdkjnemakkppfaaDoor

/- The reference's l5Order. -/
namespace Go.Proofs.YtdkjnemakkppfaaDoor
open Go.RowKit Go.BigFrame Go.Maps AG

/-- A list of numbers under way. -/
structure OrdSt (w0 wr : World) (v : Value) (ns : List Nat) : Prop where
  below : Below w0.heap.size w0 wr
  own : wr.ownsRow w0.heap.size 3 1 v ns.length (natVals ns)
theorem OrdSt.later {w0 wr w' : World} {v : Value} {ns : List Nat} (h : OrdSt w0 wr v ns) (hb : Below wr.heap.size wr w') : OrdSt w0 w' v ns := ⟨h.below.trans (hb.mono h.below.size), own_later_ h.own hb⟩
theorem OrdSt.app {w0 wr w1 : World} {v v' : Value} {ns : List Nat} {o : Obj} {x : Nat} (h : OrdSt w0 wr v ns) (hg : (wr.alloc o).grownBy w1 v.ownBlock)
    (ho : w1.ownsRow w0.heap.size 3 1 v' (ns.length + 1) (natVals ns ++ [.int .i64 (x : Nat)])) : OrdSt w0 w1 v' (ns ++ [x]) := by
  have hkA : KeepB (fun b => v.ownBlock = some b) wr w1 := ((KeepB.refl _ wr).alloc o).grown hg fun k hk _ => hk
  refine ⟨hkA.below h.below h.below.size fun b e => own_block h.own b e, ?_⟩
  rw [List.length_append]
  unfold natVals at ho ⊢
  simpa using ho
theorem OrdSt.new (w0 : World) (x : Nat) : OrdSt w0 (w0.alloc (.cells #[.int .i64 (x : Nat)] 3)) (.slice (some ⟨w0.heap.size, 0, none⟩) 1 1) [x] :=
  ⟨(Below.refl _ _).alloc (Nat.le_refl _) _, ⟨rfl, .inr ⟨w0.heap.size, 1, #[.int .i64 (x : Nat)], rfl, Nat.le_refl _, heap_alloc_self _ _, Nat.le_refl _, by unfold maxLen; omega, rfl, rfl⟩⟩⟩
theorem OrdSt.new0 (w0 : World) : OrdSt w0 (w0.alloc (.cells #[] 3)) (.slice (some ⟨w0.heap.size, 0, none⟩) 0 0) [] :=
  ⟨(Below.refl _ _).alloc (Nat.le_refl _) _, ⟨rfl, .inr ⟨w0.heap.size, 0, #[], rfl, Nat.le_refl _, heap_alloc_self _ _, Nat.le_refl _, Nat.zero_le _, rfl, rfl⟩⟩⟩

end Go.Proofs.YtdkjnemakkppfaaDoor

/- The reference's l4Decode, l4Encode. -/
namespace Go.Proofs.YtdkjnemakkppfaaDoor
open Go.RowKit Go.BigFrame AG

theorem getD_at1 {c : List Nat} {i d : Nat} (h : i < c.length) : c.getD i d = c[i] := by
  rw [List.getD_eq_getElem?_getD, List.getElem?_eq_getElem h]
  rfl

theorem own_of_blk {w : World} {B g n : Nat} {cs : Array Value} {ns : List Nat} (hb : Blk w g 3 cs) (hsz : cs.size = n) (hn : ns.length = n) (hmax : n ≤ 1000000) (hc : ∀ p, p < n → cs[p]? = some (.int .i64 (ns.getD p 0 : Nat))) (hB : B ≤ g) : OwnNats w B (.slice (some ⟨g, 0, none⟩) n n) ns := by
  subst hn
  refine ⟨by simp, .inr ⟨g, ns.length, cs, rfl, hB, hb, Nat.le_refl _, by unfold maxLen; omega, by omega, ?_⟩⟩
  refine List.ext_getElem? fun p => ?_
  rw [Nat.mul_one, List.getElem?_take]
  by_cases hp : p < ns.length
  · rw [if_pos hp, Array.getElem?_toList, hc p hp, List.getElem?_map, List.getElem?_eq_getElem hp, getD_at1 hp]
    rfl
  · rw [if_neg hp, List.getElem?_eq_none (by simpa using hp)]

set_option maxRecDepth 100000 in
set_option maxHeartbeats 4000000 in
theorem l4Decode_any (ss : List Nat) (A : Option Addr) (c n : Nat) (w : World) (hs : ∀ a ∈ ss, 1 ≤ a) (hl : ss.length ≤ 3) (hn : n ≤ 1000000) (hsc : ss.length ≤ c) (hc : c ≤ 9223372036854775807) (hr : NatsAt w w.heap.size A ss) :
    Calls Tryd.prog 34 #[.slice A ss.length c, .int .i64 (n : Nat)] w fun e w' => ∃ v, e = .returned v ∧ OwnNats w' w.heap.size v (decS ss n) ∧ Below w.heap.size w w' := by
  obtain ⟨i0, hi, hz0', hz1, hz2⟩ := info_parts infoInt
  have hmk := fun W => run_make_rowN (P := Tryd.prog) 48 3 i0 _ Tryd.underlying48 hi hz0' .i64 .i64 ss.length ss.length (Nat.le_refl _) (by rw [hz2]; omega) (by omega) W
  rw [hz1] at hmk
  clear hz1 hz0' hz2 hi
  have hcn : ss.length * 1 = ss.length := Nat.mul_one _
  rw [hcn] at hmk
  clear hcn
  have hs' := hid hs
  replace hr := hid hr
  clear hs
  go_enter Tryd.func34, Tryd.ntmps34
  go_upto_region 2 with fail
  obtain ⟨w2, hw2⟩ : ∃ w2, w.alloc (.cells (madeCells #[Value.int IntKind.i64 0] ss.length) 3) = w2 := ⟨_, rfl⟩
  have hblk2 : Blk w2 w.heap.size 3 (madeCells #[Value.int IntKind.i64 0] ss.length) := by rw [← hw2]; exact Blk.new _ _ _
  have hB2 : Below w.heap.size w w2 := by rw [← hw2]; exact (Below.refl _ _).alloc (Nat.le_refl _) _
  rw [hw2]
  clear hw2
  have hbl2 := hid hblk2
  have hr2 := hid (hr.out.later hB2)
  have hz2 := hblk2.lt
  clear hblk2
  have hsz0 : Hid ((madeCells #[Value.int IntKind.i64 0] ss.length).size = ss.length) := hid (by rw [size_madeCells])
  go_wp2_with fail
  go_loopw [1, 6] (fun nv kv wr => ∃ (k m : Nat) (cs : Array Value), nv = .int .i64 (m : Nat) ∧ kv = .int .i64 ((k : Int) - 1) ∧ k ≤ ss.length ∧ m = n / prodL (ss.drop k) ∧ Blk wr w.heap.size 3 cs ∧ cs.size = ss.length ∧ (∀ p, k ≤ p → p < ss.length → cs[p]? = some (.int .i64 ((decS ss n).getD p 0 : Nat))) ∧ KeepB (fun b => b = w.heap.size) w2 wr) (fun _ kv _ => (intOf kv + 1).toNat)
  case atStart => exact ⟨ss.length, n, _, rfl, rfl, Nat.le_refl _, by rw [List.drop_length]; simp [prodL], hbl2.out, hsz0.out, fun p h1 h2 => by omega, KeepB.refl _ _⟩
  case round =>
    clear hbl2
    obtain ⟨k, m, cs, rfl, rfl, hk, hm, hblk, hsz, hin, hkp⟩ := hrel
    have hBr : Below w.heap.size w wr := KeepB.below hB2 hkp hB2.size fun b e => by omega
    by_cases hk0 : 0 < k
    · obtain ⟨k', rfl⟩ : ∃ k', k = k' + 1 := ⟨k - 1, by omega⟩
      have e1 : (((k' + 1 : Nat) : Int) - 1) = (k' : Int) := by omega
      rw [e1]
      obtain ⟨b, o, hAe, hb, hE⟩ := hr.out (by omega)
      subst hAe
      have a0 := (hBr.cell (p := ⟨b, o + k', none⟩) (by simpa using hb)).trans (hE k' (by omega))
      have hne : b ≠ w.heap.size := by omega
      have hne' : w.heap.size ≠ b := by omega
      obtain ⟨a, ha⟩ : ∃ a, Hid (a = ss[k']'(by omega)) := ⟨_, hid rfl⟩
      rw [← ha.out] at a0
      have ha1 : 1 ≤ a := by rw [ha.out]; exact hs'.out _ (List.getElem_mem _)
      have hml : m ≤ 1000000 := by rw [hm]; exact Nat.le_trans (Nat.div_le_self _ _) hn
      obtain ⟨x, hx⟩ : ∃ x, Hid (x = m % a) := ⟨_, hid rfl⟩
      have hrem : Int.tmod (m : Int) (a : Int) = (x : Int) := by rw [hx.out]; exact (Int.ofNat_tmod m a).symm
      obtain ⟨y, hy⟩ : ∃ y, Hid (y = m / a) := ⟨_, hid rfl⟩
      have hquo : Int.tdiv (m : Int) (a : Int) = (y : Int) := by rw [hy.out]; exact (Int.ofNat_tdiv m a).symm
      have hxd : Hid ((decS ss n).getD k' 0 = x) := hid (by
        rw [getD_at1 (by rw [decS_len]; omega), decS_get ss n k' (by omega), hx.out, hm, ha.out])
      have hyd : Hid (y = n / prodL (ss.drop k')) := hid (by rw [hy.out, hm, ha.out, decS_step (by omega)])
      obtain ⟨v0, d0⟩ := hblk.some_ (i := k') (by omega)
      have z0 := hblk.frozen k'
      have hbk2 := hid (hblk.set_ k' (.int .i64 (x : Nat)))
      have hkp2 := hid (hkp.setCell ⟨w.heap.size, k', none⟩ (.int .i64 (x : Nat)) fun _ => rfl)
      have hin2 : Hid (∀ p, k' ≤ p → p < ss.length → (cs.setIfInBounds k' (.int .i64 (x : Nat)))[p]? = some (.int .i64 ((decS ss n).getD p 0 : Nat))) := hid (fun p h1 h2 => by
        by_cases e : p = k'
        · subst e
          rw [Array.getElem?_setIfInBounds_self_of_lt (by omega), hxd.out]
        · rw [Array.getElem?_setIfInBounds_ne (Ne.symm e)]
          exact hin p (by omega) h2)
      have hsz2 : Hid ((cs.setIfInBounds k' (.int .i64 (x : Nat))).size = ss.length) := hid (by simpa using hsz)
      have ha0 : (a : Int) ≠ 0 := by omega
      have hxl : x ≤ 1000000 := by rw [hx.out]; exact Nat.le_trans (Nat.mod_le _ _) hml
      have hyl : y ≤ 1000000 := by rw [hy.out]; exact Nat.le_trans (Nat.div_le_self _ _) hml
      have k1 : (0 : Int) ≤ (k' : Int) ∧ (k' : Int) < (ss.length : Int) := by omega
      replace hblk := hid hblk
      replace hin := hid hin
      replace hsz := hid hsz
      replace hkp := hid hkp
      replace hm := hid hm
      replace hE := hid hE
      clear e1
      go_wp2_with fail
      go_roundw
      case rel => exact ⟨k', y, _, rfl, by go_num, by omega, hyd.out, hbk2.out, hsz2.out, hin2.out, hkp2.out⟩
      case measure => simp [intOf] <;> omega
    · obtain rfl : k = 0 := by omega
      have hfin : Hid (OwnNats wr w.heap.size (.slice (some ⟨w.heap.size, 0, none⟩) ss.length ss.length) (decS ss n)) := hid (by
        exact own_of_blk hblk hsz (decS_len ss n) (by omega) (fun p hp => hin p (Nat.zero_le _) hp) (Nat.le_refl _))
      replace hblk := hid hblk
      replace hin := hid hin
      replace hkp := hid hkp
      replace hm := hid hm
      go_wp2_with fail
      go_ret
      exact ⟨_, rfl, hfin.out, hBr⟩


end Go.Proofs.YtdkjnemakkppfaaDoor

/- The reference's l4Nexts. -/
namespace Go.Proofs.YtdkjnemakkppfaaDoor
open Go.RowKit Go.BigFrame AG

theorem OrdSt.app0 {w0 wr w1 : World} {v v' : Value} {ns : List Nat} {x : Nat} (h : OrdSt w0 wr v ns) (hg : wr.grownBy w1 v.ownBlock)
    (ho : w1.ownsRow w0.heap.size 3 1 v' (ns.length + 1) (natVals ns ++ [.int .i64 (x : Nat)])) : OrdSt w0 w1 v' (ns ++ [x]) := by
  have hkA : KeepB (fun b => v.ownBlock = some b) wr w1 := (KeepB.refl _ wr).grown hg fun k hk _ => hk
  refine ⟨hkA.below h.below h.below.size fun b e => own_block h.own b e, ?_⟩
  rw [List.length_append]
  unfold natVals at ho ⊢
  simpa using ho
def netV (c0 c1 c2 : Value) (lt kd gl : Int) : Value := .agg #[c0, c1, c2, .int .i64 lt, .int .i64 kd, .int .i64 gl]
/-- What the search asks of a product: the sizes of its members, the choices that a letter leaves to each of them. -/
structure NetOk (w0 : World) (nv : Value) (ss : List Nat) (ch : Nat → Nat → Nat → List Nat) : Prop where
  len3 : ss.length ≤ 3
  size : ∀ a ∈ ss, 1 ≤ a ∧ a ≤ 16
  chlen : ∀ i q l, (ch i q l).length ≤ 16
  chlt : ∀ i, i < ss.length → ∀ q, q < ss.getD i 1 → ∀ l, ∀ x ∈ ch i q l, x < ss.getD i 1
  call : ∀ w' i q l, Below w0.heap.size w0 w' → i < ss.length → q < ss.getD i 1 → l < 6 → Calls Tryd.prog 74 #[nv, .int .i64 (i : Nat), .int .i64 (q : Nat), .int .i64 (l : Nat)] w' fun e w'' => ∃ v, e = .returned v ∧ OwnNats w'' w'.heap.size v (ch i q l) ∧ Below w'.heap.size w' w''
theorem NetOk.later {w0 w1 : World} {nv : Value} {ss : List Nat} {ch : Nat → Nat → Nat → List Nat} (h : NetOk w0 nv ss ch) (hb : Below w0.heap.size w0 w1) : NetOk w1 nv ss ch :=
  ⟨h.len3, h.size, h.chlen, h.chlt, fun w' i q l hb' => h.call w' i q l (hb.trans (hb'.mono hb.size))⟩
theorem nxK_4096 {ss : List Nat} {C : Nat → List Nat} (hC : ∀ i, (C i).length ≤ 16) {k : Nat} (hk : k ≤ 3) : (nxK ss C k).length ≤ 4096 :=
  Nat.le_trans (nxK_len hC k) (Nat.le_trans (Nat.pow_le_pow_right (by decide) hk) (by decide))

set_option maxRecDepth 100000 in
set_option maxHeartbeats 8000000 in
theorem l4Nexts_any (c0 c1 c2 : Value) (lt kd gl : Int) (ss qs : List Nat) (ch : Nat → Nat → Nat → List Nat) (A B : Option Addr) (c d l : Nat) (w : World) (hN : NetOk w (netV c0 c1 c2 lt kd gl) ss ch) (hql : qs.length = ss.length) (hq : ∀ i, i < ss.length → qs.getD i 0 < ss.getD i 1) (hl : l < 6)
    (hsc : ss.length ≤ c) (hc : c ≤ 9223372036854775807) (hqd : qs.length ≤ d) (hd : d ≤ 9223372036854775807) (hr : NatsAt w w.heap.size A ss) (hr2 : NatsAt w w.heap.size B qs) :
    Calls Tryd.prog 33 #[netV c0 c1 c2 lt kd gl, .slice A ss.length c, .slice B qs.length d, .int .i64 (l : Nat)] w fun e w' => ∃ v, e = .returned v ∧ OwnNats w' w.heap.size v (nxK ss (fun i => ch i (qs.getD i 0) l) ss.length) ∧ Below w.heap.size w w' := by
  obtain ⟨i0, hi, hz0, hz1, hz2⟩ := info_parts infoInt
  have hlen3 := hN.len3
  obtain ⟨w0, hw0, hzz0, hB0, hS⟩ := boxed w #[c0, c1, c2, .int .i64 lt, .int .i64 kd, .int .i64 gl] 50
  have hN0 := hid (hN.later hB0)
  have hr0 := hid (hr.later hB0)
  have hr20 := hid (hr2.later hB0)
  have hSp := hid (fun w' (hb : Below w0.heap.size w0 w') => And.intro (And.intro (hS 0 _ rfl w' (hb.mono hzz0)) (And.intro (hS 1 _ rfl w' (hb.mono hzz0)) (hS 2 _ rfl w' (hb.mono hzz0)))) (And.intro (hS 3 _ rfl w' (hb.mono hzz0)) (And.intro (hS 4 _ rfl w' (hb.mono hzz0)) (hS 5 _ rfl w' (hb.mono hzz0)))))
  obtain ⟨C, hC⟩ : ∃ C : Nat → List Nat, Hid (C = fun i => ch i (qs.getD i 0) l) := ⟨_, hid rfl⟩
  rw [← hC.out]
  have hC16 : Hid (∀ i, (C i).length ≤ 16) := hid fun i => by rw [hC.out]; exact hN.chlen _ _ _
  have hClt : Hid (∀ i, i < ss.length → ∀ x ∈ C i, x < 16) := hid fun i hi x hx => by
    rw [hC.out] at hx
    have h1 := hN.chlt i hi _ (hq i hi) l x hx
    rw [getD_at1 hi] at h1
    have h2 := (hN.size _ (List.getElem_mem hi)).2
    omega
  have hcall := hid (fun w' i (hb : Below w0.heap.size w0 w') (hi : i < ss.length) => by
    have h := hN0.out.call w' i (qs.getD i 0) l hb hi (hq i hi) hl
    rw [show ch i (qs.getD i 0) l = C i from by rw [hC.out]] at h
    exact h)
  have hsz16 : Hid (∀ a ∈ ss, a ≤ 16) := hid fun a ha => (hN.size a ha).2
  have hnx := hid (fun k (hk : k ≤ 3) => nxK_4096 (ss := ss) hC16.out hk)
  have hnlt : Hid (∀ k, k ≤ ss.length → ∀ m ∈ nxK ss C k, m < 4096) := hid fun k hk m hm => by
    have h1 := nxK_lt (ss := ss) (C := C) hk (fun i hi x hx => by
      rw [hC.out] at hx
      exact hN.chlt i hi _ (hq i hi) l x hx) m hm
    have h2 := prodT_le (ss := ss) (b := 16) hsz16.out (by decide) k
    have h3 : 16 ^ k ≤ 16 ^ 3 := Nat.pow_le_pow_right (by decide) (by omega)
    have h4 : (16 : Nat) ^ 3 = 4096 := by decide
    omega
  have hst0 := hid (OrdSt.new w0 0)
  replace hql := hid hql
  replace hq := hid hq
  replace hr := hid hr
  replace hr2 := hid hr2
  clear hN hS
  unfold netV
  unfold netV at hcall
  go_enter Tryd.func33, Tryd.ntmps33
  go_wp2_with fail
  go_loopw [9, 10] (fun vO iv wr => ∃ (i : Nat) (out : List Nat) (AO : Option Addr) (cO : Nat), vO = .slice AO out.length cO ∧ iv = .int .i64 (i : Nat) ∧ i ≤ ss.length ∧ nxK ss C i = out ∧ OrdSt w0 wr (.slice AO out.length cO) out) (fun _ iv _ => ss.length - (intOf iv).toNat)
  case atStart => exact ⟨0, [0], _, _, rfl, rfl, Nat.zero_le _, rfl, hst0.out⟩
  case round =>
    clear hst0 hw0
    obtain ⟨i, out, AO, cO, rfl, rfl, hiN, ho, hst⟩ := hrel
    have hBm := hst.below
    have hszm := hBm.size
    by_cases hlt : i < ss.length
    · have hiq : i < qs.length := by have := hql.out; omega
      obtain ⟨bA, oA, hAe, hbA, hEA⟩ := (hr0.out.later hBm) (by omega)
      subst hAe
      obtain ⟨bQ, oQ, hQe, hbQ, hEQ⟩ := (hr20.out.later hBm) (by omega)
      subst hQe
      have q0 := hEQ i hiq
      obtain ⟨q, hqq⟩ : ∃ q, Hid (q = qs[i]) := ⟨_, hid rfl⟩
      rw [← hqq.out] at q0
      have hcl := hid (fun w' (hb : Below wr.heap.size wr w') => by
        have h := hcall.out w' i (hBm.trans (hb.mono hszm)) hlt
        rw [show qs.getD i 0 = q from by rw [getD_at1 hiq, hqq.out]] at h
        exact h)
      obtain ⟨⟨p0, p1, p2⟩, p3, p4, p5⟩ := hSp.out wr hBm
      have hlw : w.heap.size < wr.heap.size := by omega
      have y0 : ∀ x', (Fam wr.heap.size wr x').cell? ⟨w.heap.size, 0, none⟩ = some c0 := fun x' => by rw [(Fam.below wr.heap.size wr x').cell (by simpa using hlw)]; exact p0
      have y1 : ∀ x', (Fam wr.heap.size wr x').cell? ⟨w.heap.size, 1, none⟩ = some c1 := fun x' => by rw [(Fam.below wr.heap.size wr x').cell (by simpa using hlw)]; exact p1
      have y2 : ∀ x', (Fam wr.heap.size wr x').cell? ⟨w.heap.size, 2, none⟩ = some c2 := fun x' => by rw [(Fam.below wr.heap.size wr x').cell (by simpa using hlw)]; exact p2
      have y3 : ∀ x', (Fam wr.heap.size wr x').cell? ⟨w.heap.size, 3, none⟩ = some (.int .i64 lt) := fun x' => by rw [(Fam.below wr.heap.size wr x').cell (by simpa using hlw)]; exact p3
      have y4 : ∀ x', (Fam wr.heap.size wr x').cell? ⟨w.heap.size, 4, none⟩ = some (.int .i64 kd) := fun x' => by rw [(Fam.below wr.heap.size wr x').cell (by simpa using hlw)]; exact p4
      have y5 : ∀ x', (Fam wr.heap.size wr x').cell? ⟨w.heap.size, 5, none⟩ = some (.int .i64 gl) := fun x' => by rw [(Fam.below wr.heap.size wr x').cell (by simpa using hlw)]; exact p5
      have y6 : ∀ x', (Fam wr.heap.size wr x').cell? ⟨bQ, oQ + i, none⟩ = some (.int .i64 (q : Nat)) := fun x' => by rw [(Fam.below wr.heap.size wr x').cell (by simpa using hbQ)]; exact q0
      have k1 : (0 : Int) ≤ (i : Int) ∧ (i : Int) < (ss.length : Int) ∧ (i : Int) < (qs.length : Int) := by omega
      have hst' := hid hst
      replace ho := hid ho
      replace hEA := hid hEA
      replace hEQ := hid hEQ
      clear hst p0 p1 p2 p3 p4 p5 q0
      go_upto_region 5 with fail
      refine wp_region_grow 8 wr.heap.size wr (fun _ u w' => OwnNats w' wr.heap.size u (C i)) (by kernel_rfl) (by kernel_rfl) (Nat.le_refl _) (Below.refl _ _) ?_
      simp only [List.take_succ_cons, List.take_zero, List.drop_succ_cons, List.drop_zero]
      (repeat (refine grow_quiet (by rfl) (by rfl) (by rfl) ?_; intro K hK; go_big_quiet_op; go_big_quiet_on))
      refine grow_call (by rfl) (by rfl) (fun u v v' hb h => own_keep h (.of_below (K := fun _ => False) hb) fun _ _ h => h) (fun wq hbq _ => ?_) fun u hu => ?_
      · go_simp
        refine ⟨rfl, (hcl.out wq hbq).mono ?_⟩
        rintro e w5 ⟨v, rfl, ho, hb5⟩
        exact ⟨v, rfl, hb5, own_base ho hbq.size⟩
      obtain ⟨wX, -, hoX⟩ := hu
      obtain ⟨AC, cC, rfl, -, -, -⟩ := OwnNats.read hoX
      clear hoX
      simp only [Act.put, List.setIfInBounds_toArray, List.set_cons_zero, List.set_cons_succ]
      (repeat (refine grow_quiet (by rfl) (by rfl) (by rfl) ?_; intro K hK; go_big_quiet_op; go_big_quiet_on))
      refine grow_nil ?_
      intro w5 hb5 hf
      have hoC5 : OwnNats w5 wr.heap.size (.slice AC (C i).length cC) (C i) := hf _ List.mem_cons_self
      clear hf y0 y1 y2 y3 y4 y5 y6
      have hst5 := hid (hst'.out.later hb5)
      have hB5 := hst5.out.below
      have hz5 := hB5.size
      have hzr5 := hb5.size
      obtain ⟨a, ha⟩ : ∃ a, Hid (a = ss[i]) := ⟨_, hid rfl⟩
      have ha16 : a ≤ 16 := by rw [ha.out]; exact hsz16.out _ (List.getElem_mem _)
      obtain ⟨cs, hcs⟩ : ∃ cs, Hid (cs = C i) := ⟨_, hid rfl⟩
      have hcs16 : cs.length ≤ 16 := by rw [hcs.out]; exact hC16.out i
      have hcsl : Hid (∀ x ∈ cs, x < 16) := hid (by rw [hcs.out]; exact hClt.out i hlt)
      have hol : out.length ≤ 4096 := by rw [← ho.out]; exact hnx.out i (by omega)
      have houtl : Hid (∀ m ∈ out, m < 4096) := hid (by rw [← ho.out]; exact hnlt.out i (by omega))
      have hnew : Hid (stepN a cs out = nxK ss C (i + 1)) := hid (by rw [nxK, ho.out, getD_at1 hlt, ← ha.out, ← hcs.out])
      rw [← hcs.out] at hoC5 ⊢
      obtain ⟨AC', cC', e, -, -, hNC⟩ := OwnNats.read hoC5
      cases e
      obtain ⟨AO', cO', e, hcO, hcO', hNO⟩ := OwnN.read hst5.out.own
      cases e
      have hNC' := hid hNC
      have hNO' := hid hNO
      have hn0 := hid (OrdSt.new0 w5)
      replace hoC5 := hid hoC5
      clear hNC hNO
      go_wp2_with fail
      obtain ⟨wo, rfl⟩ : ∃ wo : World, wo = wr := ⟨_, rfl⟩
      go_loopw [12, 13] (fun vN kv wr => ∃ (k : Nat) (nx : List Nat) (AN : Option Addr) (cN : Nat), vN = .slice AN nx.length cN ∧ kv = .int .i64 (k : Nat) ∧ k ≤ out.length ∧ stepN a cs (out.take k) = nx ∧ OrdSt w5 wr (.slice AN nx.length cN) nx) (fun _ kv _ => out.length - (intOf kv).toNat)
      case atStart => exact ⟨0, [], _, _, rfl, rfl, Nat.zero_le _, by simp [stepN], hn0.out⟩
      case round =>
        clear hn0
        obtain ⟨k, nx, AN, cN, rfl, rfl, hk, hnxe, hsn⟩ := hrel
        have hnxl : nx.length ≤ 65536 := by
          rw [← hnxe, stepN_len, List.length_take]
          exact Nat.le_trans (Nat.mul_le_mul (Nat.le_trans (Nat.min_le_right _ _) hol) hcs16) (by decide)
        by_cases hkl : k < out.length
        · have hsn' := hid hsn
          obtain ⟨o, hoo⟩ : ∃ o, Hid (o = out[k]) := ⟨_, hid rfl⟩
          have ho4 : o < 4096 := by rw [hoo.out]; exact houtl.out _ (List.getElem_mem _)
          have hstp := hid (stepN_take (a := a) (c := cs) hkl)
          rw [hnxe, ← hoo.out] at hstp
          replace hnxe := hid hnxe
          clear hsn
          go_wp2_with fail
          obtain ⟨wp, rfl⟩ : ∃ wp : World, wp = wr := ⟨_, rfl⟩
          go_loopw [12, 14] (fun vN jv wr => ∃ (j : Nat) (ny : List Nat) (AN : Option Addr) (cN : Nat), vN = .slice AN ny.length cN ∧ jv = .int .i64 (j : Nat) ∧ j ≤ cs.length ∧ ny = nx ++ (cs.take j).map (fun x => o * a + x) ∧ OrdSt w5 wr (.slice AN ny.length cN) ny) (fun _ jv _ => cs.length - (intOf jv).toNat)
          case atStart => exact ⟨0, nx, _, _, rfl, rfl, Nat.zero_le _, by simp, hsn'.out⟩
          case round =>
            clear hsn'
            obtain ⟨j, ny, AN, cN, rfl, rfl, hj, hny, hsy⟩ := hrel
            have hnyl : ny.length ≤ 65600 := by
              rw [hny, List.length_append, List.length_map, List.length_take]
              omega
            have hBy := hsy.below
            have hzy := hBy.size
            by_cases hjl : j < cs.length
            · obtain ⟨bO, oO, hOe, hbO, hEO⟩ := hNO'.out (by omega)
              subst hOe
              obtain ⟨bC, oC, hCe, hbC, hEC⟩ := hNC'.out (by omega)
              subst hCe
              have o0 := (hBy.cell (p := ⟨bO, oO + k, none⟩) (by simpa using hbO)).trans (hEO k hkl)
              have c0' := (hBy.cell (p := ⟨bC, oC + j, none⟩) (by simpa using hbC)).trans (hEC j hjl)
              rw [← hoo.out] at o0
              obtain ⟨x, hxx⟩ : ∃ x, Hid (x = cs[j]) := ⟨_, hid rfl⟩
              rw [← hxx.out] at c0'
              have hx16 : x < 16 := by rw [hxx.out]; exact hcsl.out _ (List.getElem_mem _)
              have hBwr := hB5.trans (hBy.mono hz5)
              obtain ⟨bA2, oA2, hAe2, hbA2, hEA2⟩ := hr0.out (by omega)
              cases hAe2
              have a0 := (hBwr.cell (p := ⟨bA, oA + i, none⟩) (by simpa using hbA2)).trans (hEA2 i hlt)
              rw [← ha.out] at a0
              have hbO' : bO < wr.heap.size := by omega
              have hbC' : bC < wr.heap.size := by omega
              have hbA' : bA < wr.heap.size := by have := hBwr.size; omega
              have y0 : ∀ x', (Fam wr.heap.size wr x').cell? ⟨bO, oO + k, none⟩ = some (.int .i64 (o : Nat)) := fun x' => by rw [(Fam.below wr.heap.size wr x').cell (by simpa using hbO')]; exact o0
              have y1 : ∀ x', (Fam wr.heap.size wr x').cell? ⟨bC, oC + j, none⟩ = some (.int .i64 (x : Nat)) := fun x' => by rw [(Fam.below wr.heap.size wr x').cell (by simpa using hbC')]; exact c0'
              have y2 : ∀ x', (Fam wr.heap.size wr x').cell? ⟨bA, oA + i, none⟩ = some (.int .i64 (a : Nat)) := fun x' => by rw [(Fam.below wr.heap.size wr x').cell (by simpa using hbA')]; exact a0
              have k2 : (0 : Int) ≤ (k : Int) ∧ (k : Int) < (out.length : Int) ∧ (0 : Int) ≤ (j : Int) ∧ (j : Int) < (cs.length : Int) ∧ (0 : Int) ≤ (i : Int) ∧ (i : Int) < (ss.length : Int) := by omega
              have hj1 : j + 1 ≤ cs.length := hjl
              obtain ⟨P, hP⟩ : ∃ P, Hid (P = o * a) := ⟨_, hid rfl⟩
              have hPl : P ≤ 65536 := by rw [hP.out]; exact Nat.le_trans (Nat.mul_le_mul (Nat.le_of_lt ho4) ha16) (by decide)
              have hsum : P + x < 9223372036854775807 := by omega
              obtain ⟨Z, hZ⟩ : ∃ Z, Hid (Z = P + x) := ⟨_, hid rfl⟩
              have hny2 : Hid (ny ++ [Z] = nx ++ (cs.take (j + 1)).map (fun x => o * a + x)) := hid (by
                rw [List.take_succ_eq_append_getElem hjl, List.map_append, List.map_singleton, ← List.append_assoc, ← hny, ← hxx.out, ← hP.out, ← hZ.out])
              have hw7 := hid hsy
              have hAN : ny.length ≤ 65600 := hnyl
              replace hny := hid hny
              replace hEO := hid hEO
              replace hEC := hid hEC
              replace hEA2 := hid hEA2
              replace hBwr := hid hBwr
              replace hBy := hid hBy
              have e5 : wrap64 ((o : Int) * (a : Int)) = (P : Int) := by rw [← Int.natCast_mul, ← hP.out]; exact IntWalk.wrap64_in _ ⟨by omega, by omega⟩
              have e6 := wrap_addN P x hsum
              rw [← hZ.out] at e6
              clear hsy o0 c0' a0 hPl hsum ho4 ha16 hx16
              go_upto_region 13 with fail
              refine wp_region_grow 16 wr.heap.size wr (fun _ _ _ => True) (by kernel_rfl) (by kernel_rfl) (Nat.le_refl _) (Below.refl _ _) ?_
              simp only [List.take_succ_cons, List.take_zero, List.drop_succ_cons, List.drop_zero]
              (repeat (refine grow_quiet (by rfl) (by rfl) (by rfl) ?_; intro K hK; go_big_quiet_op; go_big_quiet_on))
              refine grow_new (by rfl) (fun b => .slice (some ⟨b, 0, none⟩) 1 1) 3 #[.int .i64 (Z : Nat)] (fun _ => by go_simp) (fun _ => rfl) (Nat.le_refl _) fun g3 hg3 => ?_
              simp only [Act.put, List.setIfInBounds_toArray, List.set_cons_zero, List.set_cons_succ]
              refine grow_nil ?_
              intro w7 hb7 hf
              obtain ⟨g3', hge, -, hblk3⟩ := hf _ List.mem_cons_self
              cases hge
              have hnew3 := hid (Blk.news hblk3)
              clear hblk3 hf y0 y1 y2 e5 e6
              have hst7 := hid (hw7.out.later hb7)
              have hz7 := hst7.out.below.size
              go_wp2_with (at_builtin; refine wpList_append_own_at _ rfl _ _ 48 rfl w5.heap.size 3 i0 (.int .i64 0) 1 8 Tryd.underlying48 hi hz0 hz1 hz2 rfl (by decide) _ _ _ rfl hst7.out.own ⟨g3, 0, none⟩ 1 1 [.int .i64 (Z : Nat)] rfl rfl hnew3.out (by intro u hu; simp at hu; subst hu; rfl) (by unfold maxLen; omega) (by omega) (by first | omega | (simp; omega)) ?_; intro v8 w8 hO8 hg8 _ hat8; obtain ⟨Av8, cv8, ev8, -, -⟩ := own_slice hO8; subst ev8; have hst8 := hid (hst7.out.app0 (x := Z) hg8 hO8); clear hO8 hg8 hat8)
              go_roundw
              case rel => exact ⟨j + 1, ny ++ [Z], _, _, by rw [List.length_append]; rfl, by go_num, by omega, hny2.out, by have := hst8.out; rw [List.length_append]; exact this⟩
              case measure => simp [intOf]; omega
            · obtain rfl : j = cs.length := by omega
              have hny3 : Hid (stepN a cs (out.take (k + 1)) = ny) := hid (by rw [hstp.out, hny, List.take_length])
              replace hny := hid hny
              have hsy' := hid hsy
              clear hsy
              go_wp2_with fail
              go_roundw
              case rel => exact ⟨k + 1, ny, _, _, rfl, by go_num, by omega, hny3.out, hsy'.out⟩
              case measure => simp [intOf]; omega
        · obtain rfl : k = out.length := by omega
          have hfin : Hid (nxK ss C (i + 1) = nx) := hid (by rw [← hnew.out, ← hnxe, List.take_length])
          have hst9 := hid (show OrdSt w0 wr (.slice AN nx.length cN) nx from ⟨hB5.trans (hsn.below.mono hz5), own_base hsn.own hz5⟩)
          replace hnxe := hid hnxe
          replace hsn := hid hsn
          go_wp2_with fail
          go_roundw
          case rel => exact ⟨i + 1, nx, _, _, rfl, by go_num, by omega, hfin.out, hst9.out⟩
          case measure => simp [intOf]; omega
    · obtain rfl : i = ss.length := by omega
      have hfin : Hid (OwnNats wr w.heap.size (.slice AO out.length cO) (nxK ss C ss.length)) := hid (by
        rw [ho]
        exact own_base hst.own hB0.size)
      have hB := hB0.trans (hst.below.mono hB0.size)
      have hge : ¬ ((ss.length : Int) < (qs.length : Int)) := by have := hql.out; omega
      replace hst := hid hst
      replace ho := hid ho
      go_wp2_with fail
      go_ret
      exact ⟨_, rfl, hfin.out, hB⟩

end Go.Proofs.YtdkjnemakkppfaaDoor

/- The reference's l4Moves. -/
namespace Go.Proofs.YtdkjnemakkppfaaDoor
open Go.RowKit Go.BigFrame AG

/-- Rows of several types that are owned, each in a block of its own. -/
structure FamG (w : World) (base : Nat) (fs : List (TypeId × Value × List Value)) : Prop where
  rows : ∀ f ∈ fs, w.ownsRow base f.1 1 f.2.1 f.2.2.length f.2.2
  apart : fs.Pairwise fun f g => ∀ k, f.2.1.ownBlock = some k → g.2.1.ownBlock ≠ some k
section
variable {w w1 w' : World} {base : Nat} {fs gs l1 l2 : List (TypeId × Value × List Value)} {f : TypeId × Value × List Value}
theorem FamG.keep {K : Nat → Prop} (h : FamG w base fs) (hk : KeepB K w w') (h2 : ∀ f ∈ fs, ∀ g, f.2.1.ownBlock = some g → ¬ K g) : FamG w' base fs :=
  ⟨fun f hf => own_keep (h.rows f hf) hk (h2 f hf), h.apart⟩
theorem FamG.later (h : FamG w base fs) (hb : Below w.heap.size w w') : FamG w' base fs := h.keep (.of_below (K := fun _ => False) hb) fun _ _ _ _ h => h
theorem FamG.perm (h : FamG w base fs) (hp : fs.Perm gs) : FamG w base gs :=
  ⟨fun f hf => h.rows f (hp.mem_iff.2 hf), (hp.pairwise_iff (fun {a b} h k e e' => h k e' e)).1 h.apart⟩
theorem FamG.lt (h : FamG w base fs) (hf : f ∈ fs) {g : Nat} (e : f.2.1.ownBlock = some g) : base ≤ g ∧ g < w.heap.size := (h.rows f hf).lt g e
theorem FamG.app0 {v' : Value} {ys' : List Value} (h : FamG w base (l1 ++ f :: l2)) (hg : w.grownBy w1 f.2.1.ownBlock)
    (ho : w1.ownsRow base f.1 1 v' ys'.length ys') (hat : v'.ownBlock = f.2.1.ownBlock ∨ v'.ownBlock = some w.heap.size) : FamG w1 base (l1 ++ (f.1, v', ys') :: l2) := by
  have hlt : ∀ y ∈ l1 ++ f :: l2, ∀ g, y.2.1.ownBlock = some g → g < w.heap.size := fun y hy g e => (h.lt hy e).2
  obtain ⟨h2, h3⟩ := h
  rw [List.pairwise_append, List.pairwise_cons] at h3
  have hkA : KeepB (fun b => f.2.1.ownBlock = some b) w w1 := (KeepB.refl _ w).grown hg fun k hk _ => hk
  refine ⟨fun y hy => ?_, ?_⟩
  · rw [List.mem_append, List.mem_cons] at hy
    rcases hy with hy | rfl | hy
    · exact own_keep (h2 y (by simp [hy])) hkA fun g hg e => h3.2.2 y hy f List.mem_cons_self g hg e
    · exact ho
    · exact own_keep (h2 y (by simp [hy])) hkA fun g hg e => h3.2.1.1 y hy g e hg
  · rw [List.pairwise_append, List.pairwise_cons]
    refine ⟨h3.1, ⟨fun y hy k e e' => ?_, h3.2.1.2⟩, fun a ha b hb k e e' => ?_⟩
    · have := hlt y (by simp [hy]) k e'
      rcases hat with h | h
      · exact h3.2.1.1 y hy k (by rw [← h]; exact e) e'
      · change v'.ownBlock = some k at e
        rw [h] at e; injection e with e; omega
    · have := hlt a (by simp [ha]) k e
      rcases List.mem_cons.1 hb with rfl | hb
      · change v'.ownBlock = some k at e'
        rcases hat with h | h
        · exact h3.2.2 a ha f List.mem_cons_self k e (by rw [← h]; exact e')
        · rw [h] at e'; injection e' with e'; omega
      · exact h3.2.2 a ha b (List.mem_cons_of_mem _ hb) k e e'
/-- A row that has been made since. -/
theorem FamG.add {t : TypeId} {v : Value} {ys : List Value} (h : FamG w base fs) (hb : Below w.heap.size w w') (hB : base ≤ w.heap.size) (ho : w'.ownsRow w.heap.size t 1 v ys.length ys) : FamG w' base ((t, v, ys) :: fs) := by
  have hl := h.later hb
  refine ⟨fun y hy => ?_, ?_⟩
  · rcases List.mem_cons.1 hy with rfl | hy
    · exact own_base ho hB
    · exact hl.rows y hy
  · rw [List.pairwise_cons]
    refine ⟨fun y hy k e e' => ?_, h.apart⟩
    have h1 := (ho.lt k e).1
    have h2 := (h.lt hy e').2
    omega
theorem FamG.start {t : TypeId} {v : Value} {ys : List Value} (ho : w.ownsRow base t 1 v ys.length ys) : FamG w base [(t, v, ys)] :=
  ⟨fun y hy => by rw [List.mem_singleton.1 hy]; exact ho, List.pairwise_singleton _ _⟩
end
abbrev NLeaf := Value × List Nat
def leafT (x : NLeaf) : TypeId × Value × List Value := (3, x.1, natVals x.2)
/-- Lists of numbers, and lists of these, in memory. -/
def Tab2 (w : World) (B : Nat) (A : Option Addr) (rs : List (List Nat)) : Prop := 0 < rs.length → ∃ b o, A = some ⟨b, o, none⟩ ∧ b < B ∧ ∀ i (h : i < rs.length),
  ∃ Ai ci, w.cell? ⟨b, o + i, none⟩ = some (.slice Ai rs[i].length ci) ∧ rs[i].length ≤ ci ∧ ci ≤ 9223372036854775807 ∧ NatsAt w B Ai rs[i]
def Tab3 (w : World) (B : Nat) (A : Option Addr) (ts : List (List (List Nat))) : Prop := 0 < ts.length → ∃ b o, A = some ⟨b, o, none⟩ ∧ b < B ∧ ∀ i (h : i < ts.length),
  ∃ Ai ci, w.cell? ⟨b, o + i, none⟩ = some (.slice Ai ts[i].length ci) ∧ ts[i].length ≤ ci ∧ ci ≤ 9223372036854775807 ∧ Tab2 w B Ai ts[i]
theorem Tab2.later {w w' : World} {A : Option Addr} {rs : List (List Nat)} (h : Tab2 w w.heap.size A rs) (hb : Below w.heap.size w w') : Tab2 w' w'.heap.size A rs := fun hl => by
  obtain ⟨b, o, h1, h2, h3⟩ := h hl
  refine ⟨b, o, h1, Nat.lt_of_lt_of_le h2 hb.size, fun i hi => ?_⟩
  obtain ⟨Ai, ci, h4, h5, h6, h7⟩ := h3 i hi
  exact ⟨Ai, ci, by rw [hb.cell (by simpa using h2)]; exact h4, h5, h6, h7.later hb⟩
theorem Tab3.later {w w' : World} {A : Option Addr} {ts : List (List (List Nat))} (h : Tab3 w w.heap.size A ts) (hb : Below w.heap.size w w') : Tab3 w' w'.heap.size A ts := fun hl => by
  obtain ⟨b, o, h1, h2, h3⟩ := h hl
  refine ⟨b, o, h1, Nat.lt_of_lt_of_le h2 hb.size, fun i hi => ?_⟩
  obtain ⟨Ai, ci, h4, h5, h6, h7⟩ := h3 i hi
  exact ⟨Ai, ci, by rw [hb.cell (by simpa using h2)]; exact h4, h5, h6, h7.later hb⟩
end Go.Proofs.YtdkjnemakkppfaaDoor

/- The reference's l4Near, l4Dist. -/
namespace Go.Proofs.YtdkjnemakkppfaaDoor
open Go.RowKit Go.BigFrame AG

theorem Tab2.get {w : World} {B : Nat} {A : Option Addr} {rs : List (List Nat)} (h : Tab2 w B A rs) {i : Nat} (hi : i < rs.length) : ∃ (b o : Nat) (ns : List Nat) (Ai : Option Addr) (ci : Nat), A = some ⟨b, o, none⟩ ∧ b < B ∧ Hid (ns = rs[i]) ∧ w.cell? ⟨b, o + i, none⟩ = some (.slice Ai ns.length ci) ∧ ns.length ≤ ci ∧ ci ≤ 9223372036854775807 ∧ Hid (NatsAt w B Ai ns) := by
  obtain ⟨b, o, h1, h2, h3⟩ := h (by omega)
  obtain ⟨Ai, ci, h4, h5, h6, h7⟩ := h3 i hi
  exact ⟨b, o, rs[i], Ai, ci, h1, h2, hid rfl, h4, h5, h6, hid h7⟩
theorem Tab3.get {w : World} {B : Nat} {A : Option Addr} {ts : List (List (List Nat))} (h : Tab3 w B A ts) {i : Nat} (hi : i < ts.length) : ∃ (b o : Nat) (rs : List (List Nat)) (Ai : Option Addr) (ci : Nat), A = some ⟨b, o, none⟩ ∧ b < B ∧ Hid (rs = ts[i]) ∧ w.cell? ⟨b, o + i, none⟩ = some (.slice Ai rs.length ci) ∧ rs.length ≤ ci ∧ ci ≤ 9223372036854775807 ∧ Hid (Tab2 w B Ai rs) := by
  obtain ⟨b, o, h1, h2, h3⟩ := h (by omega)
  obtain ⟨Ai, ci, h4, h5, h6, h7⟩ := h3 i hi
  exact ⟨b, o, ts[i], Ai, ci, h1, h2, hid rfl, h4, h5, h6, hid h7⟩
end Go.Proofs.YtdkjnemakkppfaaDoor

/- The search over automata. -/
namespace Go.Proofs.YtdkjnemakkppfaaDoor
open Go.RowKit Go.BigFrame AG

/-- A list of automata in memory. -/
def AusAt (w : World) (g : Nat) (xs : List Au) : Prop := g < w.heap.size ∧ ∀ i (h : i < xs.length), ∃ A c B d, w.cell? ⟨g, i * 3, none⟩ = some (.int .i64 xs[i].al) ∧
  w.cell? ⟨g, i * 3 + 1, none⟩ = some (.slice A xs[i].nx.length c) ∧ w.cell? ⟨g, i * 3 + 2, none⟩ = some (.slice B xs[i].ac.length d) ∧ AuAt w A c B d xs[i]
theorem AusAt.later {w w' : World} {g : Nat} {xs : List Au} (h : AusAt w g xs) (hb : Below w.heap.size w w') : AusAt w' g xs :=
  ⟨Nat.lt_of_lt_of_le h.1 hb.size, fun i hi => by
    obtain ⟨A, c, B, d, h1, h2, h3, h4⟩ := h.2 i hi
    exact ⟨A, c, B, d, (hb.cell (by simpa using h.1)).trans h1, (hb.cell (by simpa using h.1)).trans h2, (hb.cell (by simpa using h.1)).trans h3, h4.later hb⟩⟩

end Go.Proofs.YtdkjnemakkppfaaDoor
