/- Words for memory that the walks share: a slice that reads as a list of cells, and the rule for a statement that draws its order. -/
import Derived.WalkKit
import Derived.WalkSpells
import Derived.WalkLawsBesides
import Derived.BigQuiet
import Derived.Deep.QuietTactic
import Derived.Test.YtbomhfbiaedbiaaDoorMathA
import Derived.Test.YtbomhfbiaedbiaaDoorTail
namespace AG
open Go Go.RowKit

/-- The slice '.slice A n c' holds the cells xs (size cells an element), below block B. -/
def Reads (w : World) (B size : Nat) (A : Option Addr) (n : Nat) (xs : List Value) : Prop :=
  xs.length = n * size ∧ (0 < n → ∃ b o, A = some ⟨b, o, none⟩ ∧ b < B ∧ ∀ j u, xs[j]? = some u → w.cell? ⟨b, o + j, none⟩ = some u)

/-- Every world that is as w0 below block B, written as a family (what is not so is replaced by w0). -/
noncomputable def Fam (B : Nat) (w0 x : World) : World := open Classical in if Below B w0 x then x else w0
theorem Fam.below (B : Nat) (w0 x : World) : Below B w0 (Fam B w0 x) := by
  unfold Fam
  split
  · assumption
  · exact Below.refl _ _
theorem Fam.of {B : Nat} {w0 w : World} (h : Below B w0 w) : ∃ x, w = Fam B w0 x := ⟨w, by unfold Fam; rw [if_pos h]⟩
theorem Fam.next {B : Nat} {w0 x w : World} (hB : B ≤ w0.heap.size) (h : Below (Fam B w0 x).heap.size (Fam B w0 x) w) : ∃ y, w = Fam B w0 y :=
  Fam.of ((Fam.below B w0 x).trans (h.mono (Nat.le_trans hB (Fam.below B w0 x).size)))
theorem Fam.out {B : Nat} {w0 w : World} (h : ∃ x, w = Fam B w0 x) : Below B w0 w := by
  obtain ⟨x, rfl⟩ := h
  exact Fam.below _ _ _

/-- A statement that draws its order, each of whose operations yields one value in every world that is as w0 below block B, and leaves such a world. -/
theorem wp_region_fam {P : Program} {id : Nat} {Q : Exit → Act → World → Prop} {a : Act} {w : World} {l : List Oper} (B : Nat) (w0 : World) (hm : P.follows .mixedOrders = true)
    (hB : Region.lexB .any l.toArray = true) (hC : Below B w0 w) (h : wpQuiet P l.toArray (fun w' => ∃ x, w' = Fam B w0 x) (fun a' => ∀ w', (∃ x, w' = Fam B w0 x) → Q .normal a' w') l a) : (Code.region id l.toArray true).wp P Q a w :=
  wp_region_quiet (C := fun w' => ∃ x, w' = Fam B w0 x) hm hB (Fam.of hC.drew) (by simpa using h)

/-- The same, the first n operations alone; behind them the others come one by one. -/
theorem wp_region_fam_tail {P : Program} {id : Nat} {Q : Exit → Act → World → Prop} {a : Act} {w : World} {l : List Oper} (B : Nat) (w0 : World) (n : Nat) (hm : P.follows .mixedOrders = true)
    (hB : Region.lexTailB .any l.toArray n = true) (hC : Below B w0 w) (h : wpQuiet P l.toArray (fun w' => ∃ x, w' = Fam B w0 x) (fun a' => ∀ w', (∃ x, w' = Fam B w0 x) → wpList P l.toArray Q (l.drop n) a' w') (l.take n) a) :
    (Code.region id l.toArray true).wp P Q a w :=
  wp_region_quiet_tail (C := fun w' => ∃ x, w' = Fam B w0 x) n hm hB (Fam.of hC.drew) h

def Ed.val (e : Ed) : Value := .agg #[.int .i64 e.f, .int .i64 e.l, .int .i64 e.t]
def Ed.cells (e : Ed) : List Value := [.int .i64 e.f, .int .i64 e.l, .int .i64 e.t]

/-- The slice of edges '.slice A n c' reads as es, below block B. -/
def EdsAt (w : World) (B : Nat) (A : Option Addr) (es : List Ed) : Prop :=
  0 < es.length → ∃ b o, A = some ⟨b, o, none⟩ ∧ b < B ∧ ∀ i (h : i < es.length),
    w.cell? ⟨b, o + i * 3, none⟩ = some (.int .i64 es[i].f) ∧ w.cell? ⟨b, o + i * 3 + 1, none⟩ = some (.int .i64 es[i].l) ∧ w.cell? ⟨b, o + i * 3 + 2, none⟩ = some (.int .i64 es[i].t)

theorem EdsAt.get {w w0 : World} {B B' : Nat} {A : Option Addr} {es : List Ed} (h : EdsAt w B A es) (hb : Below B w w0) (hB : B ≤ B') {k : Nat} (hk : k < es.length) :
    ∃ b o, A = some ⟨b, o, none⟩ ∧ b < B ∧ ∀ i (hi : i < es.length), (∀ w', Below B' w0 w' → w'.cell? ⟨b, o + i * 3, none⟩ = some (.int .i64 es[i].f)) ∧ (∀ w', Below B' w0 w' → w'.cell? ⟨b, o + i * 3 + 1, none⟩ = some (.int .i64 es[i].l)) ∧
      (∀ w', Below B' w0 w' → w'.cell? ⟨b, o + i * 3 + 2, none⟩ = some (.int .i64 es[i].t)) := by
  obtain ⟨b, o, hA, hb', hE⟩ := h (by omega)
  refine ⟨b, o, hA, hb', fun i hi => ⟨fun w' h' => ?_, fun w' h' => ?_, fun w' h' => ?_⟩⟩
  · rw [h'.cell (by simp; omega), hb.cell (by simpa using hb')]; exact (hE i hi).1
  · rw [h'.cell (by simp; omega), hb.cell (by simpa using hb')]; exact (hE i hi).2.1
  · rw [h'.cell (by simp; omega), hb.cell (by simpa using hb')]; exact (hE i hi).2.2

theorem EdsAt.keep {w w' : World} {B : Nat} {A : Option Addr} {es : List Ed} (h : EdsAt w B A es) (hb : Below B w w') : EdsAt w' B A es := fun hl => by
  obtain ⟨b, o, hA, hb', hE⟩ := h hl
  exact ⟨b, o, hA, hb', fun i hi => by rw [hb.cell (by simpa using hb'), hb.cell (by simpa using hb'), hb.cell (by simpa using hb')]; exact hE i hi⟩
theorem EdsAt.more {w : World} {B B' : Nat} {A : Option Addr} {es : List Ed} (h : EdsAt w B A es) (hB : B ≤ B') : EdsAt w B' A es := fun hl => by
  obtain ⟨b, o, hA, hb', hE⟩ := h hl
  exact ⟨b, o, hA, by omega, hE⟩

/-- A new block of cells, the world under a name of its own. -/
theorem boxed (w : World) (cs : Array Value) (T : TypeId) : ∃ w0, w.alloc (.cells cs T) = w0 ∧ w.heap.size + 1 ≤ w0.heap.size ∧ Below w.heap.size w w0 ∧
    ∀ (i : Nat) v, cs[i]? = some v → ∀ w', Below (w.heap.size + 1) w0 w' → w'.cell? ⟨w.heap.size, i, none⟩ = some v :=
  ⟨_, rfl, by simp, (Below.refl _ _).alloc (Nat.le_refl _) _, fun i v hv w' h => by rw [h.cell (by simp), World.cell?_alloc_at _ _ _ _ rfl]; exact hv⟩

theorem boxed3 (w : World) (v0 v1 v2 : Value) (T : TypeId) : ∃ w0, w.alloc (.cells #[v0, v1, v2] T) = w0 ∧ w.heap.size + 1 ≤ w0.heap.size ∧ Below w.heap.size w w0 ∧
    (∀ w', Below (w.heap.size + 1) w0 w' → w'.cell? ⟨w.heap.size, 0, none⟩ = some v0) ∧ (∀ w', Below (w.heap.size + 1) w0 w' → w'.cell? ⟨w.heap.size, 1, none⟩ = some v1) ∧
    (∀ w', Below (w.heap.size + 1) w0 w' → w'.cell? ⟨w.heap.size, 2, none⟩ = some v2) := by
  obtain ⟨w0, h0, h1, h2, h3⟩ := boxed w #[v0, v1, v2] T
  exact ⟨w0, h0, h1, h2, h3 0 v0 rfl, h3 1 v1 rfl, h3 2 v2 rfl⟩
/-- .. and that what was read before is read there too. -/
theorem Below.box {B : Nat} {w0 w w1 : World} (h : Below B w0 w) (hB : B ≤ w.heap.size) (h1 : Below w.heap.size w w1) : Below B w0 w1 := h.trans (h1.mono hB)

theorem boxed2 (w : World) (cs : Array Value) (T : TypeId) (cs' : Array Value) (T' : TypeId) : ∃ w1, (w.alloc (.cells cs T)).alloc (.cells cs' T') = w1 ∧ w.heap.size + 2 ≤ w1.heap.size ∧ Below w.heap.size w w1 ∧
    (∀ (i : Nat) v, cs[i]? = some v → ∀ w', Below (w.heap.size + 2) w1 w' → w'.cell? ⟨w.heap.size, i, none⟩ = some v) ∧
    (∀ (i : Nat) v, cs'[i]? = some v → ∀ w', Below (w.heap.size + 2) w1 w' → w'.cell? ⟨w.heap.size + 1, i, none⟩ = some v) :=
  ⟨_, rfl, by simp, ((Below.refl _ _).alloc (Nat.le_refl _) _).alloc (by simp) _,
    fun i v hv w' h => by rw [h.cell (by simp), World.cell?_alloc_lt (h := by simp), World.cell?_alloc_at _ _ _ _ rfl]; exact hv,
    fun i v hv w' h => by rw [h.cell (by simp), World.cell?_alloc_at _ _ _ _ (by simp)]; exact hv⟩

/-- The value of a system. -/
def Sy.val (s : Sy) (A : Option Addr) (c : Nat) : Value := .agg #[.int .i64 s.al, .int .i64 s.st, .slice A s.es.length c]

/-- The slice of systems '.slice A n c' reads as ss, below block B. -/
def SysAt (w : World) (B : Nat) (A : Option Addr) (ss : List Sy) : Prop :=
  0 < ss.length → ∃ b o, A = some ⟨b, o, none⟩ ∧ b < B ∧ ∀ i (h : i < ss.length),
    w.cell? ⟨b, o + i * 3, none⟩ = some (.int .i64 ss[i].al) ∧ w.cell? ⟨b, o + i * 3 + 1, none⟩ = some (.int .i64 ss[i].st) ∧
      ∃ Ai ci, w.cell? ⟨b, o + i * 3 + 2, none⟩ = some (.slice Ai ss[i].es.length ci) ∧ ss[i].es.length ≤ ci ∧ ci ≤ 9223372036854775807 ∧ EdsAt w B Ai ss[i].es

theorem SysAt.keep {w w' : World} {B : Nat} {A : Option Addr} {ss : List Sy} (h : SysAt w B A ss) (hb : Below B w w') : SysAt w' B A ss := fun hl => by
  obtain ⟨b, o, hA, hb', hE⟩ := h hl
  refine ⟨b, o, hA, hb', fun i hi => ?_⟩
  obtain ⟨h0, h1, Ai, ci, h2, h3, h4, h5⟩ := hE i hi
  rw [hb.cell (by simpa using hb'), hb.cell (by simpa using hb'), hb.cell (by simpa using hb')]
  exact ⟨h0, h1, Ai, ci, h2, h3, h4, h5.keep hb⟩
theorem SysAt.more {w : World} {B B' : Nat} {A : Option Addr} {ss : List Sy} (h : SysAt w B A ss) (hB : B ≤ B') : SysAt w B' A ss := fun hl => by
  obtain ⟨b, o, hA, hb', hE⟩ := h hl
  refine ⟨b, o, hA, by omega, fun i hi => ?_⟩
  obtain ⟨h0, h1, Ai, ci, h2, h3, h4, h5⟩ := hE i hi
  exact ⟨h0, h1, Ai, ci, h2, h3, h4, h5.more hB⟩
/-- The system number k: its three cells in every world that is as w below block B, and its edges. -/
theorem SysAt.get {w : World} {B : Nat} {A : Option Addr} {ss : List Sy} (h : SysAt w B A ss) {k : Nat} (hk : k < ss.length) :
    ∃ b o Ai ci, A = some ⟨b, o, none⟩ ∧ b < B ∧ (∀ w', Below B w w' → w'.cell? ⟨b, o + k * 3, none⟩ = some (.int .i64 ss[k].al)) ∧ (∀ w', Below B w w' → w'.cell? ⟨b, o + k * 3 + 1, none⟩ = some (.int .i64 ss[k].st)) ∧
      (∀ w', Below B w w' → w'.cell? ⟨b, o + k * 3 + 2, none⟩ = some (.slice Ai ss[k].es.length ci)) ∧ ss[k].es.length ≤ ci ∧ ci ≤ 9223372036854775807 ∧ EdsAt w B Ai ss[k].es := by
  obtain ⟨b, o, hA, hb', hE⟩ := h (by omega)
  obtain ⟨h0, h1, Ai, ci, h2, h3, h4, h5⟩ := hE k hk
  exact ⟨b, o, Ai, ci, hA, hb', fun w' hw => by rw [hw.cell (by simpa using hb')]; exact h0, fun w' hw => by rw [hw.cell (by simpa using hb')]; exact h1,
    fun w' hw => by rw [hw.cell (by simpa using hb')]; exact h2, h3, h4, h5⟩

theorem ofInt_i64 (a : Nat) (ha : a < 9223372036854775808) : (BitVec.ofInt 64 (a : Int)).toNat = a := by
  rw [BitVec.ofInt_natCast, BitVec.toNat_ofNat]; exact Nat.mod_eq_of_lt (by omega)
theorem bits_or {a b : Int} (ha : 0 ≤ a ∧ a < 9223372036854775808) (hb : 0 ≤ b ∧ b < 9223372036854775808) : bits .or .i64 a b = orB a b := by
  obtain ⟨a, rfl⟩ := Int.eq_ofNat_of_zero_le ha.1
  obtain ⟨b, rfl⟩ := Int.eq_ofNat_of_zero_le hb.1
  have hx : a ||| b < 2 ^ 63 := Nat.or_lt_two_pow (by omega) (by omega)
  show IntKind.i64.wrap ((BitVec.ofInt 64 (a : Int) ||| BitVec.ofInt 64 (b : Int)).toNat : Int) = _
  rw [BitVec.toNat_or, ofInt_i64 a (by omega), ofInt_i64 b (by omega), IntKind.wrap_i64]
  unfold orB
  simp only [Int.toNat_natCast]
  omega
theorem bits_and {a b : Int} (ha : 0 ≤ a ∧ a < 9223372036854775808) (hb : 0 ≤ b ∧ b < 9223372036854775808) : bits .and .i64 a b = andB a b := by
  obtain ⟨a, rfl⟩ := Int.eq_ofNat_of_zero_le ha.1
  obtain ⟨b, rfl⟩ := Int.eq_ofNat_of_zero_le hb.1
  have hx : a &&& b < 2 ^ 63 := Nat.and_lt_two_pow _ (by omega)
  show IntKind.i64.wrap ((BitVec.ofInt 64 (a : Int) &&& BitVec.ofInt 64 (b : Int)).toNat : Int) = _
  rw [BitVec.toNat_and, ofInt_i64 a (by omega), ofInt_i64 b (by omega), IntKind.wrap_i64]
  unfold andB
  simp only [Int.toNat_natCast]
  omega

/-- Block g is just the cells cs of element type t, none frozen. -/
def Blk (w : World) (g : Nat) (t : TypeId) (cs : Array Value) : Prop := w.heap[g]? = some (.cells cs t (0, 0))
section
variable {w w' : World} {g : Nat} {t : TypeId} {cs : Array Value}
theorem Blk.lt (h : Blk w g t cs) : g < w.heap.size := by
  rcases Nat.lt_or_ge g w.heap.size with hlt | hge
  · exact hlt
  · unfold Blk at h; rw [Array.getElem?_eq_none hge] at h; cases h
theorem Blk.cell (h : Blk w g t cs) (i : Nat) : w.cell? ⟨g, i, none⟩ = cs[i]? := cell_of_row w g i cs t (0, 0) h
theorem Blk.frozen (h : Blk w g t cs) (i : Nat) : w.frozen? ⟨g, i, none⟩ = false := by
  unfold Blk at h
  simp [World.frozen?, h]
theorem Blk.new (w : World) (t : TypeId) (cs : Array Value) : Blk (w.alloc (.cells cs t)) w.heap.size t cs := heap_alloc_new w _
theorem Blk.alloc (h : Blk w g t cs) (o : Obj) : Blk (w.alloc o) g t cs := (Below.heap_alloc w o g h.lt).trans h
theorem Blk.set_ (h : Blk w g t cs) (i : Nat) (u : Value) : Blk (w.setCell ⟨g, i, none⟩ u) g t (cs.setIfInBounds i u) := by
  unfold Blk at h ⊢
  simp [World.setCell, Array.getElem?_modify, h]
theorem Blk.below {B : Nat} (h : Blk w g t cs) (hb : Below B w w') (hg : g < B) : Blk w' g t cs := (hb.block g hg).trans h
end
theorem run_make_rowN {P : Program} (t e : TypeId) (i : TypeInfo) (z : Value) (ht : P.underlying t = some (.slice e)) (hi : P.info? e = some i) (hz : i.zero = some z)
    (kl kc : IntKind) (n c : Nat) (hnc : n ≤ c) (hbytes : i.bytes * c ≤ 281474976710656) (h63 : c ≤ 9223372036854775807) (w : World) :
    (Instr.makeSlice t (.int kl (n : Int)) (.int kc (c : Int))).run P w = .ok (.slice (some ⟨w.heap.size, 0, none⟩) n c) (w.alloc (.cells (madeCells z.cells (c * i.size)) e)) := by
  have hb : (i.bytes : Int) * (c : Int) ≤ 281474976710656 := by
    have h : ((i.bytes * c : Nat) : Int) ≤ 281474976710656 := by omega
    rwa [Int.natCast_mul] at h
  have hr := run_make (P := P) w t e i z ht hi hz kl kc n c (by omega) (by omega) hb (by omega)
  simp only [Int.toNat_natCast] at hr
  exact hr

/-- A slice of edges comes back; a system comes back; a slice of systems comes back. -/
def FreshA (n : Nat) (A : Option Addr) : Prop := ∀ b o, A = some ⟨b, o, none⟩ → n ≤ b
def EdsPost (es : List Ed) (w : World) (e : Ending) (w' : World) : Prop := ∃ A, e = .returned (.slice A es.length es.length) ∧ EdsAt w' w'.heap.size A es ∧ FreshA w.heap.size A ∧ Below w.heap.size w w'
def SyPost (s : Sy) (w : World) (e : Ending) (w' : World) : Prop := ∃ A, e = .returned (s.val A s.es.length) ∧ EdsAt w' w'.heap.size A s.es ∧ FreshA w.heap.size A ∧ Below w.heap.size w w'
theorem EdsAt.setFar {w : World} {n : Nat} {A : Option Addr} {es : List Ed} (h : EdsAt w w.heap.size A es) (hf : FreshA n A) {g i : Nat} (v : Value) (hg : g < n) : EdsAt (w.setCell ⟨g, i, none⟩ v) (w.setCell ⟨g, i, none⟩ v).heap.size A es := fun hl => by
  obtain ⟨b, o, hA, hb', hE⟩ := h hl
  have := hf b o hA
  refine ⟨b, o, hA, by simpa [World.setCell] using hb', fun j hj => ?_⟩
  have hne : (⟨g, i, none⟩ : Addr).block ≠ b := by simp; omega
  have hq : ∀ k, (w.setCell ⟨g, i, none⟩ v).cell? ⟨b, k, none⟩ = w.cell? ⟨b, k, none⟩ := fun k => World.cell?_of_block (Below.heap_setCell _ _ _ _ (Ne.symm hne))
  rw [hq, hq, hq]
  exact hE j hj
def SysPost (ss : List Sy) (w : World) (e : Ending) (w' : World) : Prop := ∃ A, e = .returned (.slice A ss.length ss.length) ∧ SysAt w' w'.heap.size A ss ∧ Below w.heap.size w w'

/-- The cells of the first k edges. -/
def EdsIn (cs : Array Value) (es : List Ed) (k : Nat) : Prop :=
  cs.size = es.length * 3 ∧ ∀ i (h : i < es.length), i < k → cs[i * 3]? = some (.int .i64 es[i].f) ∧ cs[i * 3 + 1]? = some (.int .i64 es[i].l) ∧ cs[i * 3 + 2]? = some (.int .i64 es[i].t)
theorem EdsIn.next {cs : Array Value} {es : List Ed} {k : Nat} (h : EdsIn cs es k) (hk : k < es.length) :
    EdsIn (((cs.setIfInBounds (k * 3) (.int .i64 es[k].f)).setIfInBounds (k * 3 + 1) (.int .i64 es[k].l)).setIfInBounds (k * 3 + 2) (.int .i64 es[k].t)) es (k + 1) := by
  obtain ⟨hs, hc⟩ := h
  refine ⟨by simpa using hs, fun i hi hik => ?_⟩
  by_cases e : i = k
  · subst e
    refine ⟨?_, ?_, ?_⟩
    · rw [Array.getElem?_setIfInBounds_ne (by omega), Array.getElem?_setIfInBounds_ne (by omega), Array.getElem?_setIfInBounds_self_of_lt (by omega)]
    · rw [Array.getElem?_setIfInBounds_ne (by omega), Array.getElem?_setIfInBounds_self_of_lt (by simp; omega)]
    · rw [Array.getElem?_setIfInBounds_self_of_lt (by simp; omega)]
  · obtain ⟨h0, h1, h2⟩ := hc i hi (by omega)
    refine ⟨?_, ?_, ?_⟩
    · rw [Array.getElem?_setIfInBounds_ne (by omega), Array.getElem?_setIfInBounds_ne (by omega), Array.getElem?_setIfInBounds_ne (by omega)]; exact h0
    · rw [Array.getElem?_setIfInBounds_ne (by omega), Array.getElem?_setIfInBounds_ne (by omega), Array.getElem?_setIfInBounds_ne (by omega)]; exact h1
    · rw [Array.getElem?_setIfInBounds_ne (by omega), Array.getElem?_setIfInBounds_ne (by omega), Array.getElem?_setIfInBounds_ne (by omega)]; exact h2
theorem EdsIn.at_ {w : World} {g : Nat} {t : TypeId} {cs : Array Value} {es : List Ed} (hb : Blk w g t cs) (h : EdsIn cs es es.length) : EdsAt w w.heap.size (some ⟨g, 0, none⟩) es := fun _ =>
  ⟨g, 0, rfl, hb.lt, fun i hi => by
    obtain ⟨h0, h1, h2⟩ := h.2 i hi hi
    simp only [Nat.zero_add]
    rw [hb.cell, hb.cell, hb.cell]
    exact ⟨h0, h1, h2⟩⟩

theorem Blk.some_ {w : World} {g : Nat} {t : TypeId} {cs : Array Value} (h : Blk w g t cs) {i : Nat} (hi : i < cs.size) : ∃ v, w.cell? ⟨g, i, none⟩ = some v := ⟨cs[i], by rw [h.cell]; exact Array.getElem?_eq_getElem hi⟩
/-- Three cells of a block of the call's own: they may be written. -/
theorem Blk.three {w w' : World} {g B : Nat} {t : TypeId} {cs : Array Value} (h : Blk w g t cs) (hb : Below B w w') (hg : g < B) {i : Nat} (hi : i + 2 < cs.size) :
    Blk w' g t cs ∧ (∃ v, w'.cell? ⟨g, i, none⟩ = some v) ∧ (∃ v, w'.cell? ⟨g, i + 1, none⟩ = some v) ∧ (∃ v, w'.cell? ⟨g, i + 2, none⟩ = some v) ∧
      w'.frozen? ⟨g, i, none⟩ = false ∧ w'.frozen? ⟨g, i + 1, none⟩ = false ∧ w'.frozen? ⟨g, i + 2, none⟩ = false := by
  have h' := h.below hb hg
  exact ⟨h', h'.some_ (by omega), h'.some_ (by omega), h'.some_ (by omega), h'.frozen _, h'.frozen _, h'.frozen _⟩

/-- The cells of the first k systems in block g; their edges lie in later blocks. -/
def SysIn (w : World) (g : Nat) (cs : Array Value) (ss : List Sy) (k : Nat) : Prop :=
  cs.size = ss.length * 3 ∧ ∀ i (h : i < ss.length), i < k → cs[i * 3]? = some (.int .i64 ss[i].al) ∧ cs[i * 3 + 1]? = some (.int .i64 ss[i].st) ∧
    ∃ Ai ci, cs[i * 3 + 2]? = some (.slice Ai ss[i].es.length ci) ∧ ss[i].es.length ≤ ci ∧ ci ≤ 9223372036854775807 ∧ EdsAt w w.heap.size Ai ss[i].es ∧ FreshA (g + 1) Ai
theorem SysIn.later {w w' : World} {g : Nat} {cs : Array Value} {ss : List Sy} {k : Nat} (h : SysIn w g cs ss k) (hb : Below w.heap.size w w') : SysIn w' g cs ss k :=
  ⟨h.1, fun i hi hik => by
    obtain ⟨h0, h1, Ai, ci, h2, h3, h4, h5, h6⟩ := h.2 i hi hik
    exact ⟨h0, h1, Ai, ci, h2, h3, h4, (h5.keep hb).more hb.size, h6⟩⟩
theorem SysIn.set_ {w : World} {g j : Nat} {cs : Array Value} {ss : List Sy} {k : Nat} (h : SysIn w g cs ss k) (v : Value) : SysIn (w.setCell ⟨g, j, none⟩ v) g cs ss k :=
  ⟨h.1, fun i hi hik => by
    obtain ⟨h0, h1, Ai, ci, h2, h3, h4, h5, h6⟩ := h.2 i hi hik
    exact ⟨h0, h1, Ai, ci, h2, h3, h4, h5.setFar h6 v (Nat.lt_succ_self g), h6⟩⟩
theorem SysIn.next {w : World} {g : Nat} {cs : Array Value} {ss : List Sy} {k : Nat} (h : SysIn w g cs ss k) (hk : k < ss.length) {A : Option Addr} {c : Nat} (hl : ss[k].es.length ≤ c) (hc : c ≤ 9223372036854775807) (hA : EdsAt w w.heap.size A ss[k].es) (hf : FreshA (g + 1) A) :
    SysIn w g (((cs.setIfInBounds (k * 3) (.int .i64 ss[k].al)).setIfInBounds (k * 3 + 1) (.int .i64 ss[k].st)).setIfInBounds (k * 3 + 2) (.slice A ss[k].es.length c)) ss (k + 1) := by
  obtain ⟨hs, hcs⟩ := h
  refine ⟨by simpa using hs, fun i hi hik => ?_⟩
  by_cases e : i = k
  · subst e
    refine ⟨?_, ?_, A, c, ?_, hl, hc, hA, hf⟩
    · rw [Array.getElem?_setIfInBounds_ne (by omega), Array.getElem?_setIfInBounds_ne (by omega), Array.getElem?_setIfInBounds_self_of_lt (by omega)]
    · rw [Array.getElem?_setIfInBounds_ne (by omega), Array.getElem?_setIfInBounds_self_of_lt (by simp; omega)]
    · rw [Array.getElem?_setIfInBounds_self_of_lt (by simp; omega)]
  · obtain ⟨h0, h1, Ai, ci, h2, h3, h4, h5, h6⟩ := hcs i hi (by omega)
    refine ⟨?_, ?_, Ai, ci, ?_, h3, h4, h5, h6⟩
    · rw [Array.getElem?_setIfInBounds_ne (by omega), Array.getElem?_setIfInBounds_ne (by omega), Array.getElem?_setIfInBounds_ne (by omega)]; exact h0
    · rw [Array.getElem?_setIfInBounds_ne (by omega), Array.getElem?_setIfInBounds_ne (by omega), Array.getElem?_setIfInBounds_ne (by omega)]; exact h1
    · rw [Array.getElem?_setIfInBounds_ne (by omega), Array.getElem?_setIfInBounds_ne (by omega), Array.getElem?_setIfInBounds_ne (by omega)]; exact h2
theorem SysIn.at_ {w : World} {g : Nat} {t : TypeId} {cs : Array Value} {ss : List Sy} (hb : Blk w g t cs) (h : SysIn w g cs ss ss.length) : SysAt w w.heap.size (some ⟨g, 0, none⟩) ss := fun _ =>
  ⟨g, 0, rfl, hb.lt, fun i hi => by
    obtain ⟨h0, h1, Ai, ci, h2, h3, h4, h5, _⟩ := h.2 i hi hi
    simp only [Nat.zero_add]
    rw [hb.cell, hb.cell, hb.cell]
    exact ⟨h0, h1, Ai, ci, h2, h3, h4, h5⟩⟩
theorem addr_ne {g b i j : Nat} (h : b ≠ g) : (⟨g, i, none⟩ : Addr) ≠ ⟨b, j, none⟩ := fun e => h (by injection e with e1; exact e1.symm)
/-- Stores into the call's own block do not turn what lies elsewhere: an edges' slice of another block. -/
theorem EdsAt.stored {w : World} {B : Nat} {A : Option Addr} {es : List Ed} (h : EdsAt w B A es) {g i : Nat} (v : Value) (hne : ∀ b o, A = some ⟨b, o, none⟩ → 0 < es.length → b ≠ g) : EdsAt (w.setCell ⟨g, i, none⟩ v) B A es := fun hl => by
  obtain ⟨b, o, hA, hb', hE⟩ := h hl
  have := hne b o hA hl
  refine ⟨b, o, hA, hb', fun j hj => ?_⟩
  rw [World.cell?_setCell_other (h := addr_ne this), World.cell?_setCell_other (h := addr_ne this), World.cell?_setCell_other (h := addr_ne this)]
  exact hE j hj

theorem EdsAt.later {w w' : World} {A : Option Addr} {es : List Ed} (h : EdsAt w w.heap.size A es) (hb : Below w.heap.size w w') : EdsAt w' w'.heap.size A es := (h.keep hb).more hb.size
theorem SysAt.later {w w' : World} {A : Option Addr} {ss : List Sy} (h : SysAt w w.heap.size A ss) (hb : Below w.heap.size w w') : SysAt w' w'.heap.size A ss := (h.keep hb).more hb.size

/-- The cells of a table of moves behind the first k edges; the table, below block B. -/
def MvIn (cs : Array Value) (m : Nat → Nat → Nat) : Prop := cs.size = 96 ∧ ∀ q l, q < 16 → l < 6 → cs[q * 6 + l]? = some (.int .i64 (m q l))
theorem MvIn.set_ {cs : Array Value} {m m' : Nat → Nat → Nat} (h : MvIn cs m) {q0 l0 : Nat} (hq : q0 < 16) (hl : l0 < 6) {v : Int} (hv : v = (m' q0 l0 : Int)) (ho : ∀ q l, ¬ (q0 = q ∧ l0 = l) → m' q l = m q l) : MvIn (cs.setIfInBounds (q0 * 6 + l0) (.int .i64 v)) m' := by
  refine ⟨by simpa using h.1, fun q l h1 h2 => ?_⟩
  by_cases e : q0 = q ∧ l0 = l
  · obtain ⟨rfl, rfl⟩ := e
    rw [Array.getElem?_setIfInBounds_self_of_lt (by rw [h.1]; omega), hv]
  · rw [Array.getElem?_setIfInBounds_ne (by omega), h.2 q l h1 h2, ho q l e]
def MvAt (w : World) (B : Nat) (g : Nat) (m : Nat → Nat → Nat) : Prop := g < B ∧ ∀ q l, q < 16 → l < 6 → w.cell? ⟨g, q * 6 + l, none⟩ = some (.int .i64 (m q l))
theorem MvAt.keep {w w' : World} {B g : Nat} {m : Nat → Nat → Nat} (h : MvAt w B g m) (hb : Below B w w') : MvAt w' B g m := ⟨h.1, fun q l h1 h2 => by rw [hb.cell (by simpa using h.1)]; exact h.2 q l h1 h2⟩
theorem MvAt.later {w w' : World} {g : Nat} {m : Nat → Nat → Nat} (h : MvAt w w.heap.size g m) (hb : Below w.heap.size w w') : MvAt w' w'.heap.size g m := ⟨Nat.lt_of_lt_of_le h.1 hb.size, (h.keep hb).2⟩
def MvPost (m : Nat → Nat → Nat) (w : World) (e : Ending) (w' : World) : Prop := ∃ g, e = .returned (.pointer (some ⟨g, 0, none⟩)) ∧ MvAt w' w'.heap.size g m ∧ Below w.heap.size w w'

/-- A search's result: not below 0 exactly where b. -/
def IdxPost (b : Bool) (w : World) (e : Ending) (w' : World) : Prop := ∃ r : Int, e = .returned (.int .i64 r) ∧ decide (0 ≤ r) = b ∧ Below w.heap.size w w'

theorem hid {p : Prop} (h : p) : Hid p := h

theorem ret_bool {a b : Bool} (h : a = b) : Ending.returned (.bool a) = .returned (.bool b) := by rw [h]
theorem ret_int {k : IntKind} {a b : Int} (h : a = b) : Ending.returned (.int k a) = .returned (.int k b) := by rw [h]

theorem ofInt_and_one (x : Int) : bits .and .i64 x 1 = x % 2 := by
  show IntKind.i64.wrap ((BitVec.ofInt 64 x &&& BitVec.ofInt 64 1).toNat : Int) = _
  have h1 : (BitVec.ofInt 64 x &&& BitVec.ofInt 64 1).toNat = (x % 2).toNat := by
    have e1 : (BitVec.ofInt 64 1).toNat = 2 ^ 1 - 1 := by decide
    rw [BitVec.toNat_and, e1, Nat.and_two_pow_sub_one_eq_mod, BitVec.toNat_ofInt]
    omega
  rw [h1, IntKind.wrap_i64]
  omega

theorem wrap_pow {n : Nat} (h : n ≤ 61) : wrap64 ((2 : Int) ^ n) = ((2 ^ n : Nat) : Int) := by
  have h1 : 2 ^ n ≤ 2 ^ 61 := Nat.pow_le_pow_right (by omega) h
  have e : ((2 : Int) ^ n) = ((2 ^ n : Nat) : Int) := by rw [Int.natCast_pow]; rfl
  rw [e]
  generalize 2 ^ n = m at *
  exact IntWalk.wrap64_in _ ⟨by omega, by omega⟩
theorem bits_orN (a b : Nat) (ha : a < 65536) (hb : b < 65536) : bits .or .i64 (a : Int) (b : Int) = ((a ||| b : Nat) : Int) := by
  have hx : a ||| b < 2 ^ 16 := Nat.or_lt_two_pow (by omega) (by omega)
  show IntKind.i64.wrap ((BitVec.ofInt 64 (a : Int) ||| BitVec.ofInt 64 (b : Int)).toNat : Int) = _
  rw [BitVec.toNat_or, BitVec.ofInt_natCast, BitVec.ofInt_natCast, BitVec.toNat_ofNat, BitVec.toNat_ofNat, Nat.mod_eq_of_lt (by omega), Nat.mod_eq_of_lt (by omega), IntKind.wrap_i64]
  omega

theorem bits_andN (a b : Nat) (ha : a < 65536) (hb : b < 65536) : bits .and .i64 (a : Int) (b : Int) = ((a &&& b : Nat) : Int) := by
  have hx : a &&& b < 2 ^ 16 := Nat.and_lt_two_pow _ (by omega)
  show IntKind.i64.wrap ((BitVec.ofInt 64 (a : Int) &&& BitVec.ofInt 64 (b : Int)).toNat : Int) = _
  rw [BitVec.toNat_and, BitVec.ofInt_natCast, BitVec.ofInt_natCast, BitVec.toNat_ofNat, BitVec.toNat_ofNat, Nat.mod_eq_of_lt (by omega), Nat.mod_eq_of_lt (by omega), IntKind.wrap_i64]
  omega

theorem and_one_has (a : Int) (n : Nat) : (bits .and .i64 (a / (2 : Int) ^ n) 1 == 1) = Has a n := by
  rw [ofInt_and_one]; unfold Has; rw [Bool.eq_iff_iff]; simp

end AG
