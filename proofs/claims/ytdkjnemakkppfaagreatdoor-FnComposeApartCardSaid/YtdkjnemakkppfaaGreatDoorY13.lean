/- Lemmas, part 13: several texts in one. -/
import Derived.Test.YtdkjnemakkppfaaGreatDoorY11
import Derived.Test.YtdkjnemakkppfaaGreatDoorY12
import Derived.Sort.OwnSortedInts
import Derived.Shelf.SlGeneric
import Derived.Shelf.Sort.Plain
import Derived.Shelf.SlSortCmp.NoneTotal
import Derived.Shelf.SlSortCmp.WholeK
import Derived.Ground.NamesProg
import Derived.Ground.SlsfProg
import Derived.Test.YtdkjnemakkppfaaGreatDoorProg
import Derived.Test.YtdkjnemakkppfaaGreatDoorY2
import Derived.Test.YtdkjnemakkppfaaGreatDoorCards
import Derived.Test.YtdkjnemakkppfaaGreatDoorTie
import Derived.WalkKit
import Derived.ProofKit
import Derived.OpenShut
import Derived.Deep.DeepHandedRow
import Derived.Lib.LaidTab
import Derived.Stop.LaidErr
import Derived.Deep.Slices
import Derived.Deep.Fields
import Derived.ChangeSame
import Derived.Test.YtdkjnemakkppfaaGreatDoorY8
import Derived.ChangeSlices
import Derived.Test.YtdkjnemakkppfaaGreatDoorY4
import Derived.BigRegion
import Derived.Test.YtdkjnemakkppfaaGreatDoorY7
import Derived.Test.YtdkjnemakkppfaaGreatDoorY9
import Derived.Lib.SmallJoins
set_option linter.unusedSimpArgs false
set_option linter.unusedVariables false

/- The program's ComposeSystems: its memory. -/
namespace Go.Proofs.YtdkjnemakkppfaaGreatDoor
open Go.RowKit Go.BigFrame Go.Maps AG

/-- A list of nodes, other lists of numbers and a map of numbers, under way. -/
structure MaF (w0 wr : World) (B : Nat) (v : Value) (ps : List Nat) (m : Nat) (D : DataW Unit) (f : Nat → Option Nat) (fs : List NLeaf) : Prop where
  below : Below w0.heap.size w0 wr
  fam : FamG wr w0.heap.size (leafT (v, ps) :: fs.map leafT)
  map_ : wr.ownsMap Tryz.prog 3 (plainElem Tryz.prog 3) B m D
  ix : MapF D f
  geB : w0.heap.size ≤ B
section
variable {w0 wr w' w1 : World} {B m T q : Nat} {v v' vM : Value} {ps M : List Nat} {x : Nat} {o : Obj} {fs : List NLeaf} {D : DataW Unit} {f : Nat → Option Nat}
theorem MaF.later (h : MaF w0 wr B v ps m D f fs) (hb : Below wr.heap.size wr w') : MaF w0 w' B v ps m D f fs :=
  ⟨h.below.trans (hb.mono h.below.size), h.fam.later hb, h.map_.kept (grown_of_below hb) (by simp), h.ix, h.geB⟩
theorem MaF.own (h : MaF w0 wr B v ps m D f fs) : OwnNats wr w0.heap.size v ps := by
  have := h.fam.rows (leafT (v, ps)) List.mem_cons_self
  unfold leafT at this
  simp only [natVals_length] at this
  exact this
theorem MaF.ne (h : MaF w0 wr B v ps m D f fs) : v.ownBlock ≠ some B := fun e => own_ne_map (show wr.ownsRow w0.heap.size 3 1 v ps.length (natVals ps) from h.own) h.map_ B e rfl
theorem MaF.get (h : MaF w0 wr B v ps m D f fs) (hm : (vM, M) ∈ fs) : OwnNats wr w0.heap.size vM M := by
  have := h.fam.rows (leafT (vM, M)) (List.mem_cons_of_mem _ (List.mem_map.2 ⟨_, hm, rfl⟩))
  unfold leafT at this
  simp only [natVals_length] at this
  exact this
theorem MaF.app (h : MaF w0 wr B v ps m D f fs) (hg : (wr.alloc o).grownBy w1 v.ownBlock) (ho : w1.ownsRow w0.heap.size 3 1 v' (ps.length + 1) (natVals ps ++ [.int .i64 (x : Nat)])) (hat : v'.ownBlock = v.ownBlock ∨ v'.ownBlock = some (wr.alloc o).heap.size) : MaF w0 w1 B v' (ps ++ [x]) m D f fs := by
  have hkA : KeepB (fun b => v.ownBlock = some b) wr w1 := ((KeepB.refl _ wr).alloc o).grown hg fun k hk _ => hk
  have hb1 : Below wr.heap.size wr (wr.alloc o) := (Below.refl _ _).alloc (Nat.le_refl _) _
  have hF := (h.fam.later hb1).app0 (l1 := []) (f := leafT (v, ps)) (l2 := fs.map leafT) (v' := v') (ys' := natVals (ps ++ [x])) hg (by
    rw [natVals_length, List.length_append]
    unfold natVals at ho ⊢
    rw [List.map_append]
    exact ho) hat
  exact ⟨hkA.below h.below h.below.size fun b e => own_block h.own b e, hF, (h.map_.alloc o).kept hg fun e => h.ne e.symm, h.ix, h.geB⟩
theorem MaF.put (h : MaF w0 wr B v ps m D f fs) (hm : w1.ownsMap Tryz.prog 3 (plainElem Tryz.prog 3) B (m + 1) (D.put (.int .i64 (T : Int)) (.lit (.int .i64 ((q : Nat) : Int))))) (hg : wr.grownBy w1 (some B)) :
    MaF w0 w1 B v ps (m + 1) (D.put (.int .i64 (T : Int)) (.lit (.int .i64 ((q : Nat) : Int)))) (fun x => if x = T then some q else f x) fs := by
  have hkA : KeepB (fun b => b = B) wr w1 := (KeepB.refl _ wr).grown hg fun k hk _ => by injection hk with hk; exact hk.symm
  exact ⟨hkA.below h.below h.below.size fun b e => by rw [e]; exact h.geB, h.fam.keep hkA fun y hy g hg e => own_ne_map (h.fam.rows y hy) h.map_ g hg e, hm, h.ix.put T q, h.geB⟩
theorem MaF.add (h : MaF w0 wr B v ps m D f fs) (hb : Below wr.heap.size wr w') (ho : OwnNats w' wr.heap.size vM M) : MaF w0 w' B v ps m D f ((vM, M) :: fs) := by
  have hl := h.later hb
  refine ⟨hl.below, ?_, hl.map_, hl.ix, hl.geB⟩
  have := h.fam.add (t := 3) (v := vM) (ys := natVals M) hb h.below.size (by rw [natVals_length]; exact ho)
  exact this.perm (List.Perm.swap _ _ _)
theorem MaF.drop (h : MaF w0 wr B v ps m D f ((vM, M) :: fs)) : MaF w0 wr B v ps m D f fs := by
  refine ⟨h.below, ⟨fun y hy => h.fam.rows y ?_, ?_⟩, h.map_, h.ix, h.geB⟩
  · rcases List.mem_cons.1 hy with rfl | hy
    · exact List.mem_cons_self
    · exact List.mem_cons_of_mem _ (List.mem_cons_of_mem _ hy)
  · exact h.fam.apart.sublist (List.Sublist.cons_cons _ (List.Sublist.cons _ (List.Sublist.refl _)))
theorem MaF.fn (h : MaF w0 wr B v ps m D f fs) {g : Nat → Option Nat} (e : ∀ x, f x = g x) : MaF w0 wr B v ps m D g fs := ⟨h.below, h.fam, h.map_, h.ix.congr e, h.geB⟩
end

/-- The nodes to which a letter leads, asked of two systems that are kept as parts. -/
theorem nextTwo_any (ss : List Sy) (A M : Option Addr) (cm node l bP : Nat) (w : World) (hP : PartsAt w bP ss A M 2 cm) (h2 : ss.length = 2) (hl6 : l < 6) (hnode : node < 4096) :
    Calls Tryz.prog 41 #[.agg #[.slice A 2 2, .slice M 2 cm], .int .i64 (node : Nat), .int .i64 (l : Nat), .slice none 0 0] w fun e w' => ∃ v', e = .returned v' ∧ OwnNats w' w.heap.size v' (nxParts ss node l) ∧ Below w.heap.size w w' := by
  have h := partsNext_any ss A M 2 cm node l w.heap.size (.slice none 0 0) [] w hP.all hP.len3 hl6 hnode hP.lc hP.hc hP.lm hP.hcm (by simp) hP.tab hP.sys hP.mvs (Nat.le_refl _) (World.ownsRow_nil _ _ _ _)
  have e : partsV A ss.length 2 M cm = .agg #[.slice A 2 2, .slice M 2 cm] := by unfold partsV; rw [h2]
  rw [e] at h
  refine h.mono ?_
  rintro e w' ⟨v', h1, h3, hk⟩
  rw [List.nil_append] at h3
  exact ⟨v', h1, h3, hk.below (Below.refl _ _) (Nat.le_refl _) fun k h => by cases h⟩

end Go.Proofs.YtdkjnemakkppfaaGreatDoor

/- What the program's ComposeSystems does behind its search: memory, and sorting. -/
namespace Go.Proofs.YtdkjnemakkppfaaGreatDoor
open Go.RowKit Go.BigFrame Go.Maps AG

theorem sort_nats {ps qs : List Nat} (hp : ps.Perm qs) (hq : qs.Pairwise (· < ·)) : ((ps.map fun n : Nat => (n : Int)).mergeSort fun x y => decide (x ≤ y)) = qs.map fun n : Nat => (n : Int) := by
  refine List.Perm.eq_of_pairwise (le := fun a b : Int => a ≤ b) (fun a b _ _ h1 h2 => Int.le_antisymm h1 h2) ?_ ?_ ((List.mergeSort_perm _ _).trans (hp.map _))
  · have h := List.pairwise_mergeSort (le := fun x y : Int => decide (x ≤ y)) (fun a b c h1 h2 => by simp only [decide_eq_true_eq] at *; omega) (fun a b => by simp; omega) (ps.map fun n : Nat => (n : Int))
    exact h.imp fun h => of_decide_eq_true h
  · rw [List.pairwise_map]
    exact hq.imp fun h => by omega
theorem natVals_ints (ps : List Nat) : natVals ps = (ps.map fun n : Nat => (n : Int)).map (Value.int .i64) := by unfold natVals; rw [List.map_map]; rfl

section
open Go.Sort
/-- Behind the sort the list is sorted. -/
theorem MaF.sorted {w0 wr : World} {B m n g cap : Nat} {ps qs : List Nat} {D : DataW Unit} {f : Nat → Option Nat} {fs : List NLeaf} {os : Array Obj} (h : MaF w0 wr B (.slice (some ⟨g, 0, none⟩) ps.length cap) ps m D f fs) (hp : ps.Perm qs) :
    MaF w0 (grow (putRow (Value.int .i64) (Sort.ahead wr n) g 0 (qs.map fun n : Nat => (n : Int)).toArray) os) B (.slice (some ⟨g, 0, none⟩) qs.length cap) qs m D f fs := by
  have hg : wr.grownBy (grow (putRow (Value.int .i64) (Sort.ahead wr n) g 0 (qs.map fun n : Nat => (n : Int)).toArray) os) (some g) := grownBy_sortedI _
  have hk : KeepB (fun b => b = g) wr (grow (putRow (Value.int .i64) (Sort.ahead wr n) g 0 (qs.map fun n : Nat => (n : Int)).toArray) os) := (KeepB.refl _ wr).grown hg fun k hk _ => by injection hk with hk; exact hk.symm
  have ho := h.own
  have hlg : w0.heap.size ≤ g := (ho.lt g rfl).1
  have hown : (grow (putRow (Value.int .i64) (Sort.ahead wr n) g 0 (qs.map fun n : Nat => (n : Int)).toArray) os).ownsRow w0.heap.size 3 1 (.slice (some ⟨g, 0, none⟩) qs.length cap) (natVals qs).length (natVals qs) := by
    rcases ho.2 with ⟨h0, _⟩ | ⟨g', cap', cur, hv, hb, hh, h1, h2, h3, h4⟩
    · cases h0
    · cases hv
      have := ownsRow_sortedI (n := n) (os := os) (ss := ps.map fun n : Nat => (n : Int)) (ts := qs.map fun n : Nat => (n : Int)) (by simp [hp.length_eq]) hb hh (by simpa using h1) h2 h3
      rw [natVals_len, natVals_ints]
      simpa [hp.length_eq] using this
  have hF := h.fam.app0 (l1 := []) (f := leafT (.slice (some ⟨g, 0, none⟩) ps.length cap, ps)) (l2 := fs.map leafT) (v' := .slice (some ⟨g, 0, none⟩) qs.length cap) (ys' := natVals qs) hg hown (.inl rfl)
  exact ⟨hk.below h.below h.below.size fun b e => by rw [e]; exact hlg, hF, h.map_.kept hg fun e => h.ne e.symm, h.ix, h.geB⟩

/-- A slice of nodes that the call owns, as the sort reads it. -/
theorem MaF.holds {w0 wr : World} {B m : Nat} {v : Value} {ps : List Nat} {D : DataW Unit} {f : Nat → Option Nat} {fs : List NLeaf} (h : MaF w0 wr B v ps m D f fs) (hne : 0 < ps.length) :
    ∃ g cap, v = .slice (some ⟨g, 0, none⟩) ps.length cap ∧ g < wr.heap.size ∧ Holds (Value.int .i64) wr g 0 (ps.map fun n : Nat => (n : Int)).toArray := by
  rcases h.own.2 with ⟨_, h0⟩ | ⟨g, cap, cur, hv, hb, hh, h1, h2, h3, h4⟩
  · omega
  · exact ⟨g, cap, hv, (Array.getElem?_eq_some_iff.1 hh).1, holds_of_blockI hh (by rw [List.length_map, ← natVals_ints]; rw [Nat.mul_one] at h4; exact h4)⟩
end

/- Worlds that have only grown. -/
def Grew (w w' : World) : Prop := ∃ q os, w' = Go.Sort.grow (w.drewN q) os
theorem Grew.refl (w : World) : Grew w w := ⟨0, #[], by rw [Go.Sort.grow_empty]; rfl⟩
theorem Grew.trans {a b c : World} (h : Grew a b) (k : Grew b c) : Grew a c := by
  obtain ⟨q, os, rfl⟩ := h
  obtain ⟨q', os', rfl⟩ := k
  refine ⟨q + q', os ++ os', ?_⟩
  unfold Go.Sort.grow World.drewN
  simp [Array.append_assoc, Nat.add_assoc]
theorem Grew.alloc {a b : World} (h : Grew a b) (o : Obj) : Grew a (b.alloc o) := h.trans ⟨0, #[o], by rw [Go.Sort.alloc_eq_grow]; rfl⟩
theorem Grew.drew {a b : World} (h : Grew a b) : Grew a b.drew := h.trans ⟨1, #[], by rw [Go.Sort.grow_empty]; rfl⟩
theorem Grew.below {a b : World} (h : Grew a b) : Below a.heap.size a b := by
  obtain ⟨q, os, rfl⟩ := h
  refine ⟨rfl, rfl, rfl, by simp [Go.Sort.grow, World.drewN], fun k hk => ?_⟩
  unfold Go.Sort.grow World.drewN
  simp [Array.getElem?_append, hk]
def GwI (w0 : World) : Nat → World → Prop := fun _ w => Grew w0 w
theorem GwI.way (w0 : World) : AG.Way (KeepB fun _ => False) (GwI w0) := ⟨fun w => KeepB.refl _ w, fun _ _ _ h k => h.trans k, fun _ _ h => h⟩

/-- A map stays if its block stays. -/
theorem map_keep {K : Nat → Prop} {w w' : World} {R : Value → Option (DataW Unit × List MemPlace)} {k : TypeId} {b n : Nat} {D : DataW Unit} (h : w.ownsMap Tryz.prog k R b n D) (hk : KeepB K w w') (hb : ¬ K b) : w'.ownsMap Tryz.prog k R b n D := by
  have hlt := h.lt
  obtain ⟨es, clock, hh, F, hs, hD⟩ := h
  exact ⟨es, clock, (hk.block b hlt hb).trans hh, F, hs, hD⟩
theorem cell_keep {K : Nat → Prop} {w w' : World} {b o : Nat} {v : Value} (hk : KeepB K w w') (hb : ¬ K b) (h : w.cell? ⟨b, o, none⟩ = some v) : w'.cell? ⟨b, o, none⟩ = some v := by
  have hlt := World.block_lt_of_cell? _ _ h
  have e := hk.block b hlt hb
  rw [← h]
  simp only [World.cell?, e]
/-- The moves lie elsewhere than the system under way. -/
theorem MovesAt.kept {w w' : World} {gs : Nat} {T : TypeId} {x y : Int} {M : Option Addr} {ss : List Sy} (h : MovesAt w w.heap.size M ss) (hk : KeepB (fun b => b = gs) w w') (hB : Blk w gs T #[.int .i64 x, .int .i64 y, .slice none 0 0]) : MovesAt w' w'.heap.size M ss := fun hl => by
  obtain ⟨b, o, h1, h2, h3⟩ := h hl
  refine ⟨b, o, h1, Nat.lt_of_lt_of_le h2 hk.size, fun i hi => ?_⟩
  obtain ⟨g, h4, h5⟩ := h3 i hi
  have hbn : b ≠ gs := by
    rintro rfl
    rw [hB.cell] at h4
    rcases (show o + i = 0 ∨ o + i = 1 ∨ o + i = 2 ∨ 3 ≤ o + i by omega) with e | e | e | e
    · rw [e] at h4; simp at h4
    · rw [e] at h4; simp at h4
    · rw [e] at h4; simp at h4
    · rw [Array.getElem?_eq_none (by simpa using e)] at h4; cases h4
  have hgn : g ≠ gs := by
    rintro rfl
    have := h5.2 1 0 (by decide) (by decide)
    rw [hB.cell] at this
    simp at this
  exact ⟨g, cell_keep hk hbn h4, Nat.lt_of_lt_of_le h5.1 hk.size, fun q l hq hl => cell_keep hk hgn (h5.2 q l hq hl)⟩

/-- The edges under way: a block gs that was there, all else of what was there stays. -/
structure KSt (wK wr : World) (gs : Nat) (al st : Int) (v : Value) (es : List Ed) : Prop where
  blk : Blk wr gs 25 #[.int .i64 al, .int .i64 st, v]
  own : wr.ownsRow wK.heap.size 50 3 v es.length (edCells es)
  keep : KeepB (fun b => b = gs) wK wr
  low : gs < wK.heap.size
theorem KSt.later {wK wr w1 : World} {gs : Nat} {al st : Int} {v : Value} {es : List Ed} (h : KSt wK wr gs al st v es) (hb : Below wr.heap.size wr w1) : KSt wK w1 gs al st v es :=
  ⟨h.blk.below hb h.blk.lt, own_later h.own hb, h.keep.trans (.of_below hb), h.low⟩
theorem KSt.add {wK wr w1 : World} {gs gg cap : Nat} {al st : Int} {v : Value} {es : List Ed} {x : Ed} (h : KSt wK wr gs al st v es)
    (hown : w1.ownsRow wK.heap.size 50 3 (.slice (some ⟨gg, 0, none⟩) (es.length + 1) cap) (es.length + 1) (edCells es ++ [.int .i64 x.f, .int .i64 x.l, .int .i64 x.t])) (hg : wr.grownBy w1 v.ownBlock) :
    KSt wK (w1.setCell ⟨gs, 2, none⟩ (.slice (some ⟨gg, 0, none⟩) (es.length + 1) cap)) gs al st (.slice (some ⟨gg, 0, none⟩) (es.length + 1) cap) (es ++ [x]) := by
  have hne : v.ownBlock ≠ some gs := fun e => own_ne h.own h.blk (by decide) gs e rfl
  have hb1 : Blk w1 gs 25 #[.int .i64 al, .int .i64 st, v] := by
    have := hg.block gs h.blk.lt (Ne.symm hne)
    exact this.trans h.blk
  have hne2 : (Value.slice (some ⟨gg, 0, none⟩) (es.length + 1) cap).ownBlock ≠ some gs := fun e => own_ne hown hb1 (by decide) gs e rfl
  refine ⟨by simpa using hb1.set_ 2 (.slice (some ⟨gg, 0, none⟩) (es.length + 1) cap), ?_, ?_, h.low⟩
  · have e : (es ++ [x]).length = es.length + 1 := by simp
    rw [e, edCells_append]
    exact ownsRow_setCell_other hown hne2 _
  · refine KeepB.setCell (h.keep.grown hg fun k hk hlt => ?_) _ _ fun _ => rfl
    have := (h.own.lt k hk).1
    omega
/-- .. and a list of nodes that is gone through. -/
structure KSt2 (wK wr : World) (gs : Nat) (al st : Int) (v : Value) (es : List Ed) (mv : Value) (M : List Nat) : Prop where
  so : KSt wK wr gs al st v es
  mem : OwnNats wr wK.heap.size mv M
theorem KSt2.later {wK wr w1 : World} {gs : Nat} {al st : Int} {v mv : Value} {es : List Ed} {M : List Nat} (h : KSt2 wK wr gs al st v es mv M) (hb : Below wr.heap.size wr w1) : KSt2 wK w1 gs al st v es mv M := ⟨h.so.later hb, own_later h.mem hb⟩
theorem KSt2.add {wK wr w1 : World} {gs gg cap : Nat} {al st : Int} {v mv : Value} {es : List Ed} {M : List Nat} {x : Ed} (h : KSt2 wK wr gs al st v es mv M)
    (hown : w1.ownsRow wK.heap.size 50 3 (.slice (some ⟨gg, 0, none⟩) (es.length + 1) cap) (es.length + 1) (edCells es ++ [.int .i64 x.f, .int .i64 x.l, .int .i64 x.t])) (hg : wr.grownBy w1 v.ownBlock) :
    KSt2 wK (w1.setCell ⟨gs, 2, none⟩ (.slice (some ⟨gg, 0, none⟩) (es.length + 1) cap)) gs al st (.slice (some ⟨gg, 0, none⟩) (es.length + 1) cap) (es ++ [x]) mv M := by
  refine ⟨h.so.add hown hg, ?_⟩
  have k2 : KeepB (fun b => v.ownBlock = some b ∨ b = gs) wr (w1.setCell ⟨gs, 2, none⟩ (.slice (some ⟨gg, 0, none⟩) (es.length + 1) cap)) := ((((KeepB.refl _ wr).grown hg (fun k hk _ => hk)).mono fun _ h => .inl h).setCell _ _ fun _ => .inr rfl)
  exact own_keep h.mem k2 fun g hg hk => by
    rcases hk with hk | hk
    · exact own_ne_own h.mem h.so.own (by decide) g g hg hk rfl
    · exact own_ne h.mem h.so.blk (by decide) g hg hk

end Go.Proofs.YtdkjnemakkppfaaGreatDoor

/-
  DERIVED: THE SHELF's CONTRACTS AT THIS DUMP, IN PLAIN WORDS (tools/lay-plain.mjs out of 'YtdkjnemakkppfaaGreatDoorShelfRaw.lean', which tools/lay-shelf.mjs wrote): THE SAME DECLARATIONS UNDER THE SAME NAMES: 'import', 'namespace', 'open', 'def', 'theorem' AND NOTHING ELSE: no command of the shelf's: FOR A HAND-IN. Each laying: the table of numbers ('.._ren') and one theorem, a field a fact of the dump's own or the kernel's comparison; each contract: ONE APPLICATION.
-/
namespace Go.Proofs
open Go.Shelf
def Tryz.laysSort_ren : Go.Shelf.Ren := ⟨fun | 189 => 42 | 125 => 92 | 257 => 91 | 128 => 131 | 129 => 132 | 294 => 122 | 295 => 123 | 296 => 124 | 297 => 125 | 298 => 126 | 299 => 127 | 216 => 128 | 300 => 129 | 301 => 130 | 328 => 154 | 329 => 155 | 330 => 156 | 331 => 157 | 332 => 158 | 215 => 141 | 343 => 163 | n => n, fun | 28 => 63 | 3 => 3 | 46 => 96 | 0 => 0 | 51 => 152 | 53 => 154 | 4 => 4 | 183 => 146 | 182 => 145 | 131 => 67 | 5 => 5 | 9 => 9 | 218 => 162 | 222 => 166 | 228 => 172 | 229 => 173 | n => n, fun | n => n⟩
theorem Tryz.laysSort : Go.Proofs.Lays.n189 Tryz.prog Tryz.laysSort_ren := {
  mixed := by kernel_rfl
  f125 := Tryz.func92.trans (congrArg some (by kernel_rfl))
  f128 := Tryz.func131.trans (congrArg some (by kernel_rfl))
  f129 := Tryz.func132.trans (congrArg some (by kernel_rfl))
  f189 := Tryz.func42.trans (congrArg some (by kernel_rfl))
  f215 := Tryz.func141.trans (congrArg some (by kernel_rfl))
  f216 := Tryz.func128.trans (congrArg some (by kernel_rfl))
  f257 := Tryz.func91.trans (congrArg some (by kernel_rfl))
  f294 := Tryz.func122.trans (congrArg some (by kernel_rfl))
  f295 := Tryz.func123.trans (congrArg some (by kernel_rfl))
  f296 := Tryz.func124.trans (congrArg some (by kernel_rfl))
  f297 := Tryz.func125.trans (congrArg some (by kernel_rfl))
  f298 := Tryz.func126.trans (congrArg some (by kernel_rfl))
  f299 := Tryz.func127.trans (congrArg some (by kernel_rfl))
  f300 := Tryz.func129.trans (congrArg some (by kernel_rfl))
  f301 := Tryz.func130.trans (congrArg some (by kernel_rfl))
  f328 := Tryz.func154.trans (congrArg some (by kernel_rfl))
  f329 := Tryz.func155.trans (congrArg some (by kernel_rfl))
  f330 := Tryz.func156.trans (congrArg some (by kernel_rfl))
  f331 := Tryz.func157.trans (congrArg some (by kernel_rfl))
  f332 := Tryz.func158.trans (congrArg some (by kernel_rfl))
  f343 := Tryz.func163.trans (congrArg some (by kernel_rfl))
  t0 := Tryz.underlying0
  a0 := Tryz.isAgg0
  z0 := Tryz.sizeOf0
  v0 := Tryz.zeroValue0
  t3 := Tryz.underlying3
  a3 := Tryz.isAgg3
  z3 := Tryz.sizeOf3
  v3 := Tryz.zeroValue3
  t4 := Tryz.underlying4
  a4 := Tryz.isAgg4
  z4 := Tryz.sizeOf4
  v4 := Tryz.zeroValue4
  t5 := Tryz.underlying5
  a5 := Tryz.isAgg5
  z5 := Tryz.sizeOf5
  v5 := Tryz.zeroValue5
  t9 := Tryz.underlying9
  a9 := Tryz.isAgg9
  z9 := Tryz.sizeOf9
  v9 := Tryz.zeroValue9
  t28 := Tryz.underlying63
  a28 := Tryz.isAgg63
  z28 := Tryz.sizeOf63
  v28 := Tryz.zeroValue63
  t46 := Tryz.underlying96
  a46 := Tryz.isAgg96
  z46 := Tryz.sizeOf96
  v46 := Tryz.zeroValue96
  t51 := Tryz.underlying152
  a51 := Tryz.isAgg152
  z51 := Tryz.sizeOf152
  v51 := Tryz.zeroValue152
  t53 := Tryz.underlying154
  a53 := Tryz.isAgg154
  z53 := Tryz.sizeOf154
  v53 := Tryz.zeroValue154
  t131 := Tryz.underlying67
  a131 := Tryz.isAgg67
  z131 := Tryz.sizeOf67
  v131 := Tryz.zeroValue67
  t182 := Tryz.underlying145
  a182 := Tryz.isAgg145
  z182 := Tryz.sizeOf145
  v182 := Tryz.zeroValue145
  t183 := Tryz.underlying146
  a183 := Tryz.isAgg146
  z183 := Tryz.sizeOf146
  v183 := Tryz.zeroValue146
  t218 := Tryz.underlying162
  a218 := Tryz.isAgg162
  z218 := Tryz.sizeOf162
  v218 := Tryz.zeroValue162
  t222 := Tryz.underlying166
  a222 := Tryz.isAgg166
  z222 := Tryz.sizeOf166
  v222 := Tryz.zeroValue166
  t228 := Tryz.underlying172
  a228 := Tryz.isAgg172
  z228 := Tryz.sizeOf172
  v228 := Tryz.zeroValue172
  t229 := Tryz.underlying173
  a229 := Tryz.isAgg173
  z229 := Tryz.sizeOf173
  v229 := Tryz.zeroValue173 }
def Tryz.laysSortF_ren : Go.Shelf.Ren := ⟨fun | 6 => 43 | 15 => 92 | 14 => 93 | 28 => 131 | 29 => 132 | 20 => 133 | 21 => 134 | 22 => 135 | 23 => 136 | 24 => 137 | 25 => 138 | 26 => 139 | 27 => 140 | 46 => 159 | 47 => 155 | 48 => 156 | 49 => 160 | 50 => 161 | 57 => 164 | n => n, fun | 22 => 23 | 24 => 50 | 25 => 70 | 3 => 3 | 39 => 96 | 0 => 0 | 53 => 152 | 55 => 154 | 4 => 4 | 46 => 146 | 45 => 145 | 50 => 67 | 5 => 5 | 9 => 9 | 66 => 162 | 70 => 166 | 76 => 172 | 77 => 173 | n => n, fun | n => n⟩
theorem Tryz.laysSortF : Go.Proofs.SlLaysF0.n6 Tryz.prog Tryz.laysSortF_ren := {
  mixed := by kernel_rfl
  f6 := ⟨Tryz.f43.name, by decide, Tryz.func43.trans (congrArg some (by kernel_rfl))⟩
  f14 := ⟨Tryz.f93.name, by decide, Tryz.func93.trans (congrArg some (by kernel_rfl))⟩
  f15 := Tryz.func92.trans (congrArg some (by kernel_rfl))
  f20 := ⟨Tryz.f133.name, by decide, Tryz.func133.trans (congrArg some (by kernel_rfl))⟩
  f21 := ⟨Tryz.f134.name, by decide, Tryz.func134.trans (congrArg some (by kernel_rfl))⟩
  f22 := ⟨Tryz.f135.name, by decide, Tryz.func135.trans (congrArg some (by kernel_rfl))⟩
  f23 := ⟨Tryz.f136.name, by decide, Tryz.func136.trans (congrArg some (by kernel_rfl))⟩
  f24 := ⟨Tryz.f137.name, by decide, Tryz.func137.trans (congrArg some (by kernel_rfl))⟩
  f25 := ⟨Tryz.f138.name, by decide, Tryz.func138.trans (congrArg some (by kernel_rfl))⟩
  f26 := ⟨Tryz.f139.name, by decide, Tryz.func139.trans (congrArg some (by kernel_rfl))⟩
  f27 := ⟨Tryz.f140.name, by decide, Tryz.func140.trans (congrArg some (by kernel_rfl))⟩
  f28 := Tryz.func131.trans (congrArg some (by kernel_rfl))
  f29 := Tryz.func132.trans (congrArg some (by kernel_rfl))
  f46 := ⟨Tryz.f159.name, by decide, Tryz.func159.trans (congrArg some (by kernel_rfl))⟩
  f47 := Tryz.func155.trans (congrArg some (by kernel_rfl))
  f48 := Tryz.func156.trans (congrArg some (by kernel_rfl))
  f49 := ⟨Tryz.f160.name, by decide, Tryz.func160.trans (congrArg some (by kernel_rfl))⟩
  f50 := ⟨Tryz.f161.name, by decide, Tryz.func161.trans (congrArg some (by kernel_rfl))⟩
  f57 := ⟨Tryz.f164.name, by decide, Tryz.func164.trans (congrArg some (by kernel_rfl))⟩
  t0 := Tryz.underlying0
  a0 := Tryz.isAgg0
  z0 := Tryz.sizeOf0
  v0 := Tryz.zeroValue0
  t3 := Tryz.underlying3
  a3 := Tryz.isAgg3
  z3 := Tryz.sizeOf3
  v3 := Tryz.zeroValue3
  t4 := Tryz.underlying4
  a4 := Tryz.isAgg4
  z4 := Tryz.sizeOf4
  v4 := Tryz.zeroValue4
  t5 := Tryz.underlying5
  a5 := Tryz.isAgg5
  z5 := Tryz.sizeOf5
  v5 := Tryz.zeroValue5
  t9 := Tryz.underlying9
  a9 := Tryz.isAgg9
  z9 := Tryz.sizeOf9
  v9 := Tryz.zeroValue9
  t22 := Tryz.underlying23
  a22 := Tryz.isAgg23
  z22 := Tryz.sizeOf23
  v22 := Tryz.zeroValue23
  t25 := Tryz.underlying70
  a25 := Tryz.isAgg70
  z25 := Tryz.sizeOf70
  v25 := Tryz.zeroValue70
  t39 := Tryz.underlying96
  a39 := Tryz.isAgg96
  z39 := Tryz.sizeOf96
  v39 := Tryz.zeroValue96
  t45 := Tryz.underlying145
  a45 := Tryz.isAgg145
  z45 := Tryz.sizeOf145
  v45 := Tryz.zeroValue145
  t46 := Tryz.underlying146
  a46 := Tryz.isAgg146
  z46 := Tryz.sizeOf146
  v46 := Tryz.zeroValue146
  t50 := Tryz.underlying67
  a50 := Tryz.isAgg67
  z50 := Tryz.sizeOf67
  v50 := Tryz.zeroValue67
  t53 := Tryz.underlying152
  a53 := Tryz.isAgg152
  z53 := Tryz.sizeOf152
  v53 := Tryz.zeroValue152
  t55 := Tryz.underlying154
  a55 := Tryz.isAgg154
  z55 := Tryz.sizeOf154
  v55 := Tryz.zeroValue154
  t66 := Tryz.underlying162
  a66 := Tryz.isAgg162
  z66 := Tryz.sizeOf162
  v66 := Tryz.zeroValue162
  t70 := Tryz.underlying166
  a70 := Tryz.isAgg166
  z70 := Tryz.sizeOf166
  v70 := Tryz.zeroValue166
  t76 := Tryz.underlying172
  a76 := Tryz.isAgg172
  z76 := Tryz.sizeOf172
  v76 := Tryz.zeroValue172
  t77 := Tryz.underlying173
  a77 := Tryz.isAgg173
  z77 := Tryz.sizeOf173
  v77 := Tryz.zeroValue173 }
end Go.Proofs

/- The comparison of edges; a list of edges that lies in order is sorted in place. -/
namespace Go.Proofs.YtdkjnemakkppfaaGreatDoor
open Go.RowKit Go.BigFrame Go.Maps AG

theorem GwI.fam (w0 x : World) : Grew w0 (GK.FamI (GK.Upto (GwI w0) 200) w0 x) := by
  obtain ⟨_, _, h⟩ := GK.FamI.is (J := GK.Upto (GwI w0) 200) (w1 := w0) ⟨0, by omega, Grew.refl _⟩ x
  exact h
theorem GwI.cell {w0 : World} {b o : Nat} {v : Value} (h : w0.cell? ⟨b, o, none⟩ = some v) (x : World) : (GK.FamI (GK.Upto (GwI w0) 200) w0 x).cell? ⟨b, o, none⟩ = some v := by
  rw [((GwI.fam w0 x).below).cell (World.block_lt_of_cell? _ _ h)]
  exact h

/-- The nodes are sorted. -/
theorem MaF.sort_any {w0 wr : World} {B m : Nat} {v : Value} {ps qs : List Nat} {D : DataW Unit} {fs : List NLeaf} (h : MaF w0 wr B v ps m D (memF ps) fs) (h0 : 0 < ps.length) (h1 : ps.length ≤ 4096) (hp : ps.Perm qs) (hq : qs.Pairwise (· < ·)) :
    Calls Tryz.prog 42 #[v] wr fun e w' => e = .returned (.tuple #[]) ∧ MaF w0 w' B v qs m D (memF qs) fs := by
  obtain ⟨g, cap, rfl, hg, hH⟩ := h.holds h0
  have hs : Calls Tryz.prog 42 #[.slice (some ⟨g, 0, none⟩) (ps.map fun n : Nat => (n : Int)).length cap] wr _ := Any.slices_Sort_int Tryz.laysSort g 0 cap (ps.map fun n : Nat => (n : Int)) wr hH hg (by simp; omega)
  rw [List.length_map, sort_nats hp hq] at hs
  refine hs.mono ?_
  rintro e w' ⟨rfl, n, os, rfl⟩
  refine ⟨rfl, ?_⟩
  have h2 := (h.sorted (n := n) (os := os) hp).fn (g := memF qs) fun x => by unfold memF; simp only [hp.mem_iff]
  rw [← hp.length_eq] at h2
  exact h2

set_option maxHeartbeats 1000000 in
theorem compareEdges_grew (a b : Ed) (w : World) :
    Calls Tryz.prog 44 #[a.val, b.val] w fun e w' => e = .returned (.int .i64 (cmpE a b)) ∧ Grew w w' := by
  unfold Ed.val
  go_enter Tryz.func44, Tryz.ntmps44
  go_wp2_with fail
  obtain ⟨w0, hw0, hz0, hB0, hx, hy⟩ := boxed2 w #[Value.int IntKind.i64 a.f, Value.int IntKind.i64 a.l, Value.int IntKind.i64 a.t] 50 #[Value.int IntKind.i64 b.f, Value.int IntKind.i64 b.l, Value.int IntKind.i64 b.t] 50
  have hG0 : Grew w w0 := by rw [← hw0]; exact ((Grew.refl w).alloc _).alloc _
  have x0 := GwI.cell (hx 0 _ rfl _ (Below.refl _ _))
  have x1 := GwI.cell (hx 1 _ rfl _ (Below.refl _ _))
  have x2 := GwI.cell (hx 2 _ rfl _ (Below.refl _ _))
  have y0 := GwI.cell (hy 0 _ rfl _ (Below.refl _ _))
  have y1 := GwI.cell (hy 1 _ rfl _ (Below.refl _ _))
  have y2 := GwI.cell (hy 2 _ rfl _ (Below.refl _ _))
  clear hx hy
  rw [hw0]
  clear hw0 hB0
  refine GK.wp_region 15 [15, 16, 17] 200 (KeepB fun _ => False) (GwI w0) (fun i u _ => if i = 4 then u = .int .i64 (cmpI a.f b.f) else if i = 9 then u = .int .i64 (cmpI a.l b.l) else u = .int .i64 (cmpI a.t b.t)) (by kernel_rfl) (by kernel_rfl) (GwI.way w0) (by decide) (Grew.refl _).drew ?_
  simp only [List.take_succ_cons, List.take_zero]
  (repeat (refine GK.grow_quiet w0 (by rfl) (by rfl) ?_; intro K hK; go_big_quiet_op; go_big_quiet_on))
  refine GK.grow_val (.int .i64 (cmpI a.f b.f)) (by rfl) rfl (fun m wq hm hbq _ => ?_) ?_
  · go_simp
    exact ⟨rfl, (compareInt_any _ _ _).mono fun e w' ⟨h1, h2⟩ => ⟨h1, by subst h2; exact ⟨KeepB.refl _ _, hbq⟩⟩⟩
  simp only [Act.put, List.setIfInBounds_toArray, List.set_cons_zero, List.set_cons_succ]
  (repeat (refine GK.grow_quiet w0 (by rfl) (by rfl) ?_; intro K hK; go_big_quiet_op; go_big_quiet_on))
  refine GK.grow_val (.int .i64 (cmpI a.l b.l)) (by rfl) rfl (fun m wq hm hbq _ => ?_) ?_
  · go_simp
    exact ⟨rfl, (compareInt_any _ _ _).mono fun e w' ⟨h1, h2⟩ => ⟨h1, by subst h2; exact ⟨KeepB.refl _ _, hbq⟩⟩⟩
  simp only [Act.put, List.setIfInBounds_toArray, List.set_cons_zero, List.set_cons_succ]
  (repeat (refine GK.grow_quiet w0 (by rfl) (by rfl) ?_; intro K hK; go_big_quiet_op; go_big_quiet_on))
  refine GK.grow_val (.int .i64 (cmpI a.t b.t)) (by rfl) rfl (fun m wq hm hbq _ => ?_) ?_
  · go_simp
    exact ⟨rfl, (compareInt_any _ _ _).mono fun e w' ⟨h1, h2⟩ => ⟨h1, by subst h2; exact ⟨KeepB.refl _ _, hbq⟩⟩⟩
  simp only [Act.put, List.setIfInBounds_toArray, List.set_cons_zero, List.set_cons_succ]
  refine GK.grow_nil ?_
  intro w2 hw2 hf
  clear hf x0 x1 x2 y0 y1 y2
  simp only [List.filterMap_cons, List.filterMap_nil, List.getElem?_cons_zero, List.getElem?_cons_succ]
  replace hw2 : Grew w0 w2 := hw2
  go_wp2_with (go_at_call 94; refine (orInt_any (cmpI a.f b.f) (cmpI a.l b.l) (cmpI a.t b.t) _ _ (by simp) (by simp) (by simp)).mono ?_; rintro e w1 ⟨rfl, rfl⟩)
  go_ret
  exact ⟨rfl, hG0.trans (hw2.alloc _)⟩

instance : Inhabited Ed := ⟨⟨0, 0, 0⟩⟩
def encE (e : Ed) : List Value := [.int .i64 e.f, .int .i64 e.l, .int .i64 e.t]
theorem ltOf_cmpE (x y : Ed) : ltOf cmpE x y = edgeLt x y := by
  unfold ltOf
  have := cmpE_ge x y
  cases h : edgeLt x y
  · rw [h] at this; simp at this; simp; omega
  · rw [h] at this; simp at this; simp; omega
theorem edgeLt_iff (a b : Ed) : edgeLt a b = true ↔ a.f < b.f ∨ a.f = b.f ∧ (a.l < b.l ∨ a.l = b.l ∧ a.t < b.t) := by
  unfold edgeLt
  split
  · rw [decide_eq_true_iff]; omega
  · split
    · rw [decide_eq_true_iff]; omega
    · rw [decide_eq_true_iff]; omega
theorem edgeLt_no (a b : Ed) : edgeLt a b = false ↔ ¬ (a.f < b.f ∨ a.f = b.f ∧ (a.l < b.l ∨ a.l = b.l ∧ a.t < b.t)) := by
  rw [← edgeLt_iff]; simp
theorem swoE : Go.Sort.SWO (ltOf cmpE) where
  irrefl x := by rw [ltOf_cmpE, edgeLt_no]; omega
  trans x y z h1 h2 := by rw [ltOf_cmpE, edgeLt_iff] at *; omega
  ntrans x y z h1 h2 := by rw [ltOf_cmpE, edgeLt_no] at *; omega
theorem totE (x y : Ed) (h1 : ltOf cmpE x y = false) (h2 : ltOf cmpE y x = false) : x = y := by
  rw [ltOf_cmpE, edgeLt_no] at h1 h2
  obtain ⟨a, b, c⟩ := x
  obtain ⟨a', b', c'⟩ := y
  simp only at h1 h2
  have e1 : a = a' := by omega
  have e2 : b = b' := by omega
  have e3 : c = c' := by omega
  rw [e1, e2, e3]

section
open Go.Sort Go.Shelf
theorem frozen_zero {w : World} {g : Nat} {cur : Array Value} {e : TypeId} (h : w.heap[g]? = some (.cells cur e (0, 0))) (i : Nat) : w.frozen? ⟨g, i, none⟩ = false := by simp [World.frozen?, h]
theorem holdsE {w : World} {B g cap : Nat} {es : List Ed} (h : OwnEds w B (.slice (some ⟨g, 0, none⟩) es.length cap) es) (h0 : 0 < es.length) : g < w.heap.size ∧ HoldsK encE 3 w g 0 es.toArray := by
  obtain ⟨A, c, e, -, -, hE, -⟩ := h.read
  cases e
  obtain ⟨b, o, e, hb, hc⟩ := hE h0
  cases e
  refine ⟨hb, fun j hj => ?_⟩
  rw [size_flatK] at hj
  have hsz : es.toArray.size = es.length := by simp
  rw [hsz] at hj
  have hq : j / 3 < es.length := by omega
  have hr : j % 3 = 0 ∨ j % 3 = 1 ∨ j % 3 = 2 := by omega
  have hje : j = 0 + j / 3 * 3 + j % 3 := by omega
  obtain ⟨h1, h2, h3⟩ := hc (j / 3) hq
  have hget : (es.toArray)[j / 3]! = es[j / 3] := by rw [getElem!_pos _ _ (by simpa using hq)]; simp
  constructor
  · rw [get_flatK _ _ _ _ (by rw [hsz]; exact hj), hget, Nat.zero_add]
    rcases hr with e | e | e
    · rw [e]
      have : w.cell? ⟨g, j, none⟩ = w.cell? ⟨g, 0 + j / 3 * 3, none⟩ := by congr 2; omega
      rw [this, h1]; rfl
    · rw [e]
      have : w.cell? ⟨g, j, none⟩ = w.cell? ⟨g, 0 + j / 3 * 3 + 1, none⟩ := by congr 2; omega
      rw [this, h2]; rfl
    · rw [e]
      have : w.cell? ⟨g, j, none⟩ = w.cell? ⟨g, 0 + j / 3 * 3 + 2, none⟩ := by congr 2; omega
      rw [this, h3]; rfl
  · rcases h.2 with ⟨h4, _⟩ | ⟨g', cap', cur, hv, _, hh, _⟩
    · cases h4
    · cases hv
      exact frozen_zero hh _
theorem cmpLaysE (blk off size : Nat) (w : World) : CmpLays Tryz.prog 44 #[] encE 3 cmpE blk off size w := fun m os dk _ x y => by
  have h := compareEdges_grew x y (sortWorldK encE 3 w blk off m dk os)
  exact h.mono fun e w' ⟨h1, q, os', h2⟩ => ⟨h1, q, os', h2⟩

set_option maxHeartbeats 1000000 in
/-- Edges that lie in order stay. -/
theorem sortEdges_any (es : List Ed) (v : Value) (B : Nat) (w : World) (h : OwnEds w B v es) (hn : es.length ≤ 1000000) (hs : es.Pairwise fun a b => edgeLt a b = true) :
    Calls Tryz.prog 43 #[v, .func (.func 44) #[] #[]] w fun e w' => e = .returned (.tuple #[]) ∧ Below w.heap.size w w' := by
  by_cases h0 : 0 < es.length
  · rcases h.2 with ⟨_, h4⟩ | ⟨g, cap, cur, rfl, hb, hh, h1, h2, h3, h4⟩
    · omega
    · obtain ⟨hg, hH⟩ := holdsE h h0
      have hsz : es.toArray.size = es.length := by simp
      have eg : ∀ args w, (callFunc 44 args).run Tryz.prog w = .ok (.enter 44 args) w := enters_of Tryz.func44 (by kernel_rfl) rfl
      have hc : Calls Tryz.prog 43 #[.slice (some ⟨g, 0, none⟩) es.toArray.size cap, .func (.func 44) #[] #[]] w _ := AnyQ.slices_SortFunc_total Tryz.laysSortF 3 Tryz.isAgg50 Tryz.sizeOf50 encE (fun _ => rfl) (fun x v hv => by simp [encE] at hv; rcases hv with rfl | rfl | rfl <;> rfl) cmpE swoE 44 #[] g 0 cap es.toArray w eg (cmpLaysE g 0 _ w) hH hg (by rw [hsz]; omega) totE
      rw [hsz] at hc
      refine hc.mono ?_
      rintro e w' ⟨rfl, n, os, rfl⟩
      refine ⟨rfl, ?_⟩
      have e1 : (es.toArray.toList.mergeSort fun x y => !(ltOf cmpE) y x) = es := by
        refine List.mergeSort_of_pairwise (hs.imp fun {a b} h => ?_)
        rw [ltOf_cmpE]
        cases hba : edgeLt b a
        · rfl
        · exact (edgeLt_asymm h hba).elim
      rw [e1]
      unfold sortWorldK
      rw [putRowK_self _ _ _ _ _ _ (holdsK_ahead encE 3 w n g 0 es.toArray hH)]
      exact Grew.below ⟨n, os, rfl⟩
  · obtain ⟨A, c, rfl, -, -⟩ := own_slice h
    have e0 : es.length = 0 := by omega
    rw [e0]
    have hc : Calls Tryz.prog 43 #[.slice A 0 c, .func (.func 44) #[] #[]] w _ := AnyF.slices_SortFunc_none Tryz.laysSortF A c _ w
    refine hc.mono ?_
    rintro e w' ⟨rfl, rfl⟩
    exact ⟨rfl, Below.refl _ _⟩
end

end Go.Proofs.YtdkjnemakkppfaaGreatDoor

/- The program's ComposeSystems. -/
namespace Go.Proofs.YtdkjnemakkppfaaGreatDoor
open Go.RowKit Go.BigFrame Go.Maps AG

set_option maxRecDepth 100000 in
set_option maxHeartbeats 16000000 in
theorem implComposeSystems_any (s t : Sy) (A B : Option Addr) (c d : Nat) (w : World) (hl : s.es.length ≤ c) (hc : c ≤ 9223372036854775807) (hm : t.es.length ≤ d) (hd : d ≤ 9223372036854775807) (hT : Tab w) (hr : EdsAt w w.heap.size A s.es) (hr2 : EdsAt w w.heap.size B t.es) :
    Calls Tryz.prog 12 #[s.val A c, t.val B d] w (SoOwn w (cmX s t) (cmOk s t)) := by
  obtain ⟨i0, hi, hz0', hz1', hz2'⟩ := info_parts infoEd
  obtain ⟨n0, hni, hn0, hn1, hn2⟩ := info_parts infoInt
  unfold Sy.val
  have hsB := ((Blk.new w 25 #[.int .i64 s.al, .int .i64 s.st, .slice A s.es.length c]).alloc (.cells #[.int .i64 t.al, .int .i64 t.st, .slice B t.es.length d] 25)).alloc (.cells #[.int .i64 0, .int .i64 0, .slice none 0 0] 25)
  have htB := (Blk.new (w.alloc (.cells #[.int .i64 s.al, .int .i64 s.st, .slice A s.es.length c] 25)) 25 #[.int .i64 t.al, .int .i64 t.st, .slice B t.es.length d]).alloc (.cells #[.int .i64 0, .int .i64 0, .slice none 0 0] 25)
  have hrB := Blk.new ((w.alloc (.cells #[.int .i64 s.al, .int .i64 s.st, .slice A s.es.length c] 25)).alloc (.cells #[.int .i64 t.al, .int .i64 t.st, .slice B t.es.length d] 25)) 25 #[.int .i64 0, .int .i64 0, .slice none 0 0]
  have hB0 : Below w.heap.size w (((w.alloc (.cells #[.int .i64 s.al, .int .i64 s.st, .slice A s.es.length c] 25)).alloc (.cells #[.int .i64 t.al, .int .i64 t.st, .slice B t.es.length d] 25)).alloc (.cells #[.int .i64 0, .int .i64 0, .slice none 0 0] 25)) := (((Below.refl _ _).alloc (Nat.le_refl _) _).alloc (by simp) _).alloc (by simp; omega) _
  simp only [World.size_alloc] at htB hrB
  generalize hw0 : ((w.alloc (.cells #[.int .i64 s.al, .int .i64 s.st, .slice A s.es.length c] 25)).alloc (.cells #[.int .i64 t.al, .int .i64 t.st, .slice B t.es.length d] 25)).alloc (.cells #[.int .i64 0, .int .i64 0, .slice none 0 0] 25) = w0 at hsB htB hrB hB0
  have hs0 := hid (hr.later hB0)
  have hT0 := hid (hT.later hB0)
  replace hT := hid hT
  have ht0 := hid (hr2.later hB0)
  have p0 := hsB.cell 0
  have p1 := hsB.cell 1
  have p2 := hsB.cell 2
  simp only [List.getElem?_toArray, List.getElem?_cons_zero, List.getElem?_cons_succ] at p0 p1 p2
  replace hsB := hid hsB
  replace htB := hid htB
  replace hrB := hid hrB
  replace hr := hid hr
  replace hr2 := hid hr2
  have hmm := @run_makeMap Tryz.prog
  go_enter Tryz.func12, Tryz.ntmps12
  go_wp2_with fail
  refine (implSystemValid_any s A c w0 hl hc hs0.out).mono ?_
  rintro e w1 ⟨rfl, hb1⟩
  have hB1 := hB0.trans (hb1.mono hB0.size)
  have hs1 := hid (hs0.out.later hb1)
  have ht1 := hid (ht0.out.later hb1)
  replace hsB := hid (hsB.out.below hb1 hsB.out.lt)
  replace htB := hid (htB.out.below hb1 htB.out.lt)
  replace hrB := hid (hrB.out.below hb1 hrB.out.lt)
  have hzero : cmOk s t = false → ∀ wx, Below w.heap.size w wx → SoOwn w (cmX s t) (cmOk s t) (.returned (.tuple #[.agg #[.int .i64 0, .int .i64 0, .slice none 0 0], .bool false])) (((wx.setCell ⟨w.heap.size + 1 + 1, 0, none⟩ (.int .i64 0)).setCell ⟨w.heap.size + 1 + 1, 1, none⟩ (.int .i64 0)).setCell ⟨w.heap.size + 1 + 1, 2, none⟩ (.slice none 0 0)) := fun h wx hb => by
    rw [cmX_bad h, h]
    exact ⟨none, 0, rfl, World.ownsRow_nil _ _ _ _, ((hb.setCell (by simp; omega) _).setCell (by simp; omega) _).setCell (by simp; omega) _⟩
  have d0 := hrB.out.cell 0
  have d1 := hrB.out.cell 1
  have d2 := hrB.out.cell 2
  have f0 := hrB.out.frozen 0
  have f1 := hrB.out.frozen 1
  have f2 := hrB.out.frozen 2
  clear p0 p1 p2 hw0
  have q0 := htB.out.cell 0
  have q1 := htB.out.cell 1
  have q2 := htB.out.cell 2
  simp only [List.getElem?_toArray, List.getElem?_cons_zero, List.getElem?_cons_succ] at d0 d1 d2 q0 q1 q2
  replace hzero := hid hzero
  cases hok : sysOk s
  · have hno := hid (hzero.out (by unfold cmOk; rw [hok]; rfl) w1 hB1)
    replace hok := hid hok
    go_wp2
    refine bodyPost_ret (v := .tuple #[.agg #[.int .i64 0, .int .i64 0, .slice none 0 0], .bool false]) (by simp [results, Tryz.results12, go_sem, d0, d1, d2]) rfl ?_
    exact hno.out
  have hok' := hid hok
  clear hok
  go_wp2_with fail
  refine (implSystemValid_any t B d w1 hm hd ht1.out).mono ?_
  rintro e w2 ⟨rfl, hb2⟩
  have hB2 := hB1.trans (hb2.mono hB1.size)
  have hs2 := hid (hs1.out.later hb2)
  have ht2 := hid (ht1.out.later hb2)
  replace hsB := hid (hsB.out.below hb2 hsB.out.lt)
  replace htB := hid (htB.out.below hb2 htB.out.lt)
  replace hrB := hid (hrB.out.below hb2 hrB.out.lt)
  clear d0 d1 d2 f0 f1 f2 q0 q1 q2
  cases hok2 : sysOk t
  · have hno := hid (hzero.out (by unfold cmOk; rw [hok2, Bool.and_eq_false_iff]; right; rfl) w2 hB2)
    have d0 := hrB.out.cell 0
    have d1 := hrB.out.cell 1
    have d2 := hrB.out.cell 2
    have f0 := hrB.out.frozen 0
    have f1 := hrB.out.frozen 1
    have f2 := hrB.out.frozen 2
    simp only [List.getElem?_toArray, List.getElem?_cons_zero, List.getElem?_cons_succ] at d0 d1 d2
    replace hok2 := hid hok2
    go_wp2
    refine bodyPost_ret (v := .tuple #[.agg #[.int .i64 0, .int .i64 0, .slice none 0 0], .bool false]) (by simp [results, Tryz.results12, go_sem, d0, d1, d2]) rfl ?_
    exact hno.out
  have hall := all_two hok'.out hok2
  have hok2' := hid hok2
  have hsa := (sysOk_alpha hok'.out)
  have hta := (sysOk_alpha hok2)
  have hal : Hid (allAl [s, t] = orB s.al t.al) := hid (allAl_two hsa.1)
  obtain ⟨al, hale⟩ : ∃ al, Hid (al = allAl [s, t]) := ⟨_, hid rfl⟩
  have eor : bits .or .i64 s.al t.al = al := by rw [bits_or (by omega) (by omega), hale.out, hal.out]
  have p0 := hsB.out.cell 0
  have q0 := htB.out.cell 0
  simp only [List.getElem?_toArray, List.getElem?_cons_zero, List.getElem?_cons_succ] at p0 q0
  replace hall := hid hall
  obtain ⟨gs, hgs⟩ : ∃ gs, w2.heap.size = gs := ⟨_, rfl⟩
  clear hok2
  go_upto_region 4 with fail
  obtain ⟨w3, hw3⟩ : ∃ w3, w2.alloc (.cells #[.int .i64 al, .int .i64 0, .slice none 0 0] 25) = w3 := ⟨_, rfl⟩
  have hb3 : Below w2.heap.size w2 w3 := by rw [← hw3]; exact (Below.refl _ _).alloc (Nat.le_refl _) _
  have hblk3 : Blk w3 gs 25 #[.int .i64 al, .int .i64 0, .slice none 0 0] := by rw [← hw3, ← hgs]; exact Blk.new _ _ _
  rw [hw3]
  have hz23 : w3.heap.size = gs + 1 := by rw [← hw3, ← hgs]; simp
  replace hsB := hid (hsB.out.below hb3 hsB.out.lt)
  replace htB := hid (htB.out.below hb3 htB.out.lt)
  have hB3 := hB2.trans (hb3.mono hB2.size)
  have hs3 := hid (hs2.out.later hb3)
  have ht3 := hid (ht2.out.later hb3)
  have hT3 := hid (hT0.out.later ((hb1.trans ((hb2.trans (hb3.mono hb2.size)).mono hb1.size))))
  clear p0 q0
  have p0 := hsB.out.cell 0
  have p1 := hsB.out.cell 1
  have p2 := hsB.out.cell 2
  have q0 := htB.out.cell 0
  have q1 := htB.out.cell 1
  have q2 := htB.out.cell 2
  simp only [List.getElem?_toArray, List.getElem?_cons_zero, List.getElem?_cons_succ] at p0 p1 p2 q0 q1 q2
  obtain ⟨w4, hw4⟩ : ∃ w4, w3.alloc (.cells #[.int .i64 s.al, .int .i64 s.st, .slice A s.es.length c, .int .i64 t.al, .int .i64 t.st, .slice B t.es.length d] 25) = w4 := ⟨_, rfl⟩
  have hb4 : Below w3.heap.size w3 w4 := by rw [← hw4]; exact (Below.refl _ _).alloc (Nat.le_refl _) _
  have hblk4 : Blk w4 w3.heap.size 25 #[.int .i64 s.al, .int .i64 s.st, .slice A s.es.length c, .int .i64 t.al, .int .i64 t.st, .slice B t.es.length d] := by rw [← hw4]; exact Blk.new _ _ _
  obtain ⟨ss, hss⟩ : ∃ ss, Hid (ss = [s, t]) := ⟨_, hid rfl⟩
  have hlen : Hid (ss.length = 2) := hid (by rw [hss.out]; rfl)
  have hSys : Hid (SysAt w4 w4.heap.size (some ⟨w3.heap.size, 0, none⟩) ss) := hid (by rw [hss.out]; exact two_at hblk4 hl hc hm hd (hs3.out.later hb4) (ht3.out.later hb4))
  rw [← hss.out] at hall hale
  have hz5 := newParts_any ss (some ⟨w3.heap.size, 0, none⟩) 2 w4 hall.out (by rw [hlen.out]; decide) (by rw [hlen.out]; exact Nat.le_refl _) (by omega) hSys.out
  unfold partsV at hz5
  rw [hlen.out] at hz5
  replace hz5 := hid hz5
  have hB4 := hB3.trans (hb4.mono hB3.size)
  have hT4 := hid (hT3.out.later hb4)
  have hblkS := hid hblk4
  clear hblk4 hw3 hb1 hb2 hB1 hB2 hs0 hs1 hs2 hs3 ht0 ht1 ht2 ht3 hT0 eor
  replace hgs := hid hgs
  replace hz23 := hid hz23
  replace hblk3 := hid hblk3
  go_wp2_with fail
  try rw [hw4]
  refine hz5.out.mono ?_
  rintro e w5 ⟨MV, cm, rfl, hcm, hcm', hMV, hb5⟩
  have hB5 := hB4.trans (hb5.mono hB4.size)
  have hMV5 := hid hMV
  have hSys5 := hid (hSys.out.later hb5)
  have hT5 := hid (hT4.out.later hb5)
  have hb35 := hb4.trans (hb5.mono hb4.size)
  obtain ⟨bS, hbS⟩ : ∃ bS, w3.heap.size = bS := ⟨_, rfl⟩
  rw [hbS] at hSys5 hblkS ⊢
  replace hblkS := hid (hblkS.out.below hb5 hblkS.out.lt)
  clear p0 p1 p2 q0 q1 q2 hw4 hz5 hMV hSys
  go_upto_region 5 with fail
  obtain ⟨bP, hbP⟩ : ∃ bP, w5.heap.size = bP := ⟨_, rfl⟩
  obtain ⟨w6, hw6⟩ : ∃ w6, w5.alloc (.cells #[.slice (some ⟨bS, 0, none⟩) 2 2, .slice MV 2 cm] 61) = w6 := ⟨_, rfl⟩
  have hb6 : Below w5.heap.size w5 w6 := by rw [← hw6]; exact (Below.refl _ _).alloc (Nat.le_refl _) _
  have hblk6 : Blk w6 bP 61 #[.slice (some ⟨bS, 0, none⟩) 2 2, .slice MV 2 cm] := by rw [← hw6, ← hbP]; exact Blk.new _ _ _
  have hPA : Hid (PartsAt w6 bP ss (some ⟨bS, 0, none⟩) MV 2 cm) := hid ⟨hT5.out.later hb6, hall.out, by rw [hlen.out]; decide, by rw [hlen.out]; exact Nat.le_refl _, by omega, by rw [hlen.out]; exact hcm, hcm', hSys5.out.later hb6, hMV5.out.later hb6, by rw [hlen.out]; exact hblk6.cell 0, by rw [hlen.out]; exact hblk6.cell 1⟩
  rw [hw6, hbP]
  have hB6 := hB5.trans (hb6.mono hB5.size)
  have hb36 := hb35.trans (hb6.mono hb35.size)
  have hgB6 := hblk3.out.below hb36 hblk3.out.lt
  have c0 := hgB6.cell 0
  simp only [List.getElem?_toArray, List.getElem?_cons_zero, List.getElem?_cons_succ] at c0
  replace hgB6 := hid hgB6
  replace hbP := hid hbP
  replace hbS := hid hbS
  clear hblk6 hw6 hSys5 hMV5 hT5 hT4
  go_wp2_with fail
  refine (lettersOf_any al w6).mono ?_
  rintro e w7 ⟨vL, rfl, hoL, hb7⟩
  obtain ⟨L, hL⟩ : ∃ L, Hid (L = letters al) := ⟨_, hid rfl⟩
  rw [← hL.out] at hoL
  obtain ⟨AL, cL, rfl, hcL, hcL', hLN⟩ := OwnNats.read hoL
  have hL6 : L.length ≤ 6 := by rw [hL.out]; exact letters_len6 al
  have hlL : Hid (∀ l ∈ L, l < 6) := hid fun l hl => by rw [hL.out] at hl; exact (letters_lt hl).1
  have hLe : Hid (L = AG.letters (allAl ss)) := hid (by rw [hL.out, hale.out])
  have hB7 := hB6.trans (hb7.mono hB6.size)
  have hPA7 := hid (hPA.out.later hb7)
  replace hblkS := hid (hblkS.out.below (hb6.trans (hb7.mono hb6.size)) hblkS.out.lt)
  have hoL7 := hid hoL
  have hb67 := hid hb7.size
  have hLN7 := hid hLN
  have hgB7 := hid (hgB6.out.below hb7 hgB6.out.lt)
  clear c0 hLN hoL
  go_upto_region 7 with fail
  have hmade := World.ownsMap_made (H := Unit) (w7.alloc (.cells #[.int .i64 0] 3)) Tryz.prog 3 (plainElem Tryz.prog 3)
  go_wp2_with (refine wpList_insert_own _ rfl _ _ _ 65 rfl 3 3 mapLaw2 Tryz.underlying65 (plainElem Tryz.prog 3) (w7.heap.size + 1) 0 _ rfl (by simpa using hmade) (by unfold maxLen; omega) _ _ (.int .i64 0) rfl rfl (keyOf_int_mk Tryz.underlying3 (wf64 (by omega) (by omega))) (.lit (.int .i64 0)) [] (plainElem_int Tryz.underlying3 (by decide)) ?_)
  intro w8 hown8 hgrow8
  obtain ⟨Bm, hBm⟩ : ∃ B, B = w7.heap.size + 1 := ⟨_, rfl⟩
  rw [← hBm] at hown8 hgrow8
  have hM8 : Hid (MaF w7 w8 Bm (.slice (some ⟨w7.heap.size, 0, none⟩) 1 1) [0] 1 ((DataW.map []).put (Lit.int .i64 0) (.lit (.int .i64 0))) (memF [0]) []) := hid (by
    have hbl : Below w7.heap.size w7 ((w7.alloc (.cells #[.int .i64 0] 3)).alloc (.map #[] 0)) := ((Below.refl _ _).alloc (Nat.le_refl _) _).alloc (by simp) _
    have hk : KeepB (fun b => b = Bm) ((w7.alloc (.cells #[.int .i64 0] 3)).alloc (.map #[] 0)) w8 := (KeepB.refl _ _).grown hgrow8 fun k hk _ => by injection hk with hk; exact hk.symm
    have ho1 : ((w7.alloc (.cells #[.int .i64 0] 3)).alloc (.map #[] 0)).ownsRow w7.heap.size 3 1 (.slice (some ⟨w7.heap.size, 0, none⟩) 1 1) 1 (natVals [0]) := by
      refine World.ownsRow.alloc ?_ _
      exact ⟨rfl, .inr ⟨w7.heap.size, 1, #[.int .i64 0], rfl, Nat.le_refl _, heap_alloc_self _ _, Nat.le_refl _, by unfold maxLen; omega, rfl, rfl⟩⟩
    have ho3 := own_keep ho1 hk fun g hg e => by injection hg with hg; simp at hg; omega
    refine ⟨hk.below hbl (by simp; omega) fun b e => by omega, FamG.start ho3, hown8, (MapF.empty.put 0 0).congr fun x => ?_, by omega⟩
    have := memF_snoc [] 0 x
    rw [List.nil_append] at this
    rw [← this]
    rfl)
  clear hown8 hgrow8 hmade
  subst hBm
  go_wp2_with fail
  have hB37 := hid hb36
  go_loopw [9, 11] (fun lv iv wr => ∃ (i : Nat) (ps : List Nat) (A9 : Option Addr) (c9 : Nat) (D : DataW Unit), lv = .slice A9 ps.length c9 ∧ iv = .int .i64 (i : Nat) ∧ i ≤ ps.length ∧ ps.length ≤ 16 ∧ RnB ss ps i ∧ MaF w7 wr (w7.heap.size + 1) (.slice A9 ps.length c9) ps ps.length D (memF ps) []) (fun _ iv _ => 16 - (intOf iv).toNat)
  case atStart => exact ⟨0, [0], _, _, _, rfl, rfl, Nat.zero_le _, by decide, RnB.start ss, hM8.out⟩
  case round =>
    clear hM8
    obtain ⟨i, ps, A9, c9, D, rfl, rfl, hi1, hp16, hB, hM⟩ := hrel
    obtain ⟨A10, c10, e7, hc9, hc9', hps⟩ := OwnNats.read hM.own
    cases e7
    by_cases hil : i < ps.length
    · obtain ⟨b6, o6, hAe, hb6', hE6⟩ := hps (by omega)
      obtain ⟨n, hn⟩ : ∃ n, Hid (n = ps[i]) := ⟨_, hid rfl⟩
      have hnR : Hid (Rn ss n) := hid (by rw [hn.out]; exact hB.sound _ (List.getElem_mem hil))
      have hn4 : n < 4096 := by
        have h1 := hnR.out.lt hall.out
        have h2 := (prodP_4096 hall.out (by rw [hlen.out]; decide)).2
        omega
      have hR0 := hid (RnR.start hB (n := n) (by rw [List.getElem?_eq_getElem hil, hn.out]))
      have hM' := hid hM
      replace hB := hid hB
      replace hps := hid hps
      replace hE6 := hid hE6
      replace hAe := hid hAe
      clear hM
      go_wp2_with fail
      obtain ⟨wo, rfl⟩ : ∃ wo : World, wo = wr := ⟨_, rfl⟩
      go_loopw [9, 59] (fun lv kv wr => ∃ (k : Nat) (ps2 : List Nat) (A9 : Option Addr) (c9 : Nat) (D : DataW Unit), lv = .slice A9 ps2.length c9 ∧ kv = .int .i64 (k : Nat) ∧ k ≤ L.length ∧ ps2.length ≤ 16 ∧ RnR ss ps2 i n k 0 ∧ MaF w7 wr (w7.heap.size + 1) (.slice A9 ps2.length c9) ps2 ps2.length D (memF ps2) []) (fun _ kv _ => L.length - (intOf kv).toNat)
      case atStart => exact ⟨0, ps, _, _, D, rfl, rfl, Nat.zero_le _, hp16, hR0.out, hM'.out⟩
      case round =>
        clear hM' hR0 hn hAe hE6 hps hi1 hil hp16
        obtain ⟨k, ps2, A9, c9, D, rfl, rfl, hk1, hp16, hR, hM⟩ := hrel
        have hb7r := hM.below
        by_cases hkl : k < L.length
        · obtain ⟨bL, oL, hLE, hbL, hEL⟩ := (hLN7.out.later hb7r) (by omega)
          subst hLE
          have l0 := hEL k hkl
          obtain ⟨l, hl⟩ : ∃ l, Hid (l = L[k]) := ⟨_, hid rfl⟩
          rw [← hl.out] at l0
          have hl6 : l < 6 := by rw [hl.out]; exact hlL.out _ (List.getElem_mem _)
          obtain ⟨A10, c10, e7, hc9, hc9', hps⟩ := OwnNats.read hM.own
          cases e7
          obtain ⟨b6, o6, hAe, hb6, hE6⟩ := hps (by have := hR.lt; omega)
          subst hAe
          have hil := hR.lt
          have n0 := hE6 i hil
          have hni' : ps2[i] = n := by
            have h9 := hR.at_
            rw [List.getElem?_eq_getElem hil] at h9
            exact Option.some.inj h9
          rw [hni'] at n0
          obtain ⟨M, hMd⟩ : ∃ M, Hid (M = nxParts ss n l) := ⟨_, hid rfl⟩
          have hkk : k < (AG.letters (allAl ss)).length := by rw [← hLe.out]; exact hkl
          have hMe : Hid (M = nxParts ss n ((AG.letters (allAl ss))[k]'hkk)) := hid (by rw [hMd.out, hl.out]; simp only [hLe.out])
          have hMlt : Hid (∀ m ∈ M, m < 4096) := hid fun m hm => by
            rw [hMd.out] at hm
            have h1 := nxParts_lt hall.out n l m hm
            have h2 := (prodP_4096 hall.out (by rw [hlen.out]; decide)).2
            omega
          have hMl : M.length ≤ 4096 := by rw [hMd.out]; exact nxParts_le hall.out (by rw [hlen.out]; decide) n l
          have hold : Hid (∀ (ps : List Nat) (j : Nat) (hj : j < M.length), RnR ss ps i n k j → M[j] ∈ ps → RnR ss ps i n k (j + 1)) := hid (by have := hMe.out; subst this; exact fun ps j hj h hm => h.old hkk hj hm)
          have hnew : Hid (∀ (ps : List Nat) (j : Nat) (hj : j < M.length), RnR ss ps i n k j → M[j] ∉ ps → RnR ss (ps ++ [M[j]]) i n k (j + 1)) := hid (by have := hMe.out; subst this; exact fun ps j hj h hm => h.new hkk hj hm)
          have hend : Hid (∀ (ps : List Nat), RnR ss ps i n k M.length → RnR ss ps i n (k + 1) 0) := hid (by have := hMe.out; subst this; exact fun ps h => h.letter hkk rfl)
          have hzr2 := hb7r.size
          have hcl : Hid (∀ wq, Below wr.heap.size wr wq → Calls Tryz.prog 41 #[.agg #[.slice (some ⟨bS, 0, none⟩) 2 2, .slice MV 2 cm], .int .i64 (n : Nat), .int .i64 (l : Nat), .slice none 0 0] wq fun e w' => ∃ v', e = .returned v' ∧ OwnNats w' wq.heap.size v' M ∧ Below wq.heap.size wq w') := hid (fun wq hb => by
            have h := nextTwo_any ss (some ⟨bS, 0, none⟩) MV cm n l bP wq (hPA7.out.later (hb7r.trans (hb.mono hzr2))) hlen.out hl6 hn4
            rw [← hMd.out] at h
            exact h)
          have hP7 := hPA7.out.later hb7r
          have c0 := hP7.c0
          have c1 := hP7.c1
          rw [hlen.out] at c0 c1
          have hbPl : bP < wr.heap.size := World.block_lt_of_cell? _ _ c0
          have y0 : ∀ x', (Fam wr.heap.size wr x').cell? ⟨bP, 0, none⟩ = some (.slice (some ⟨bS, 0, none⟩) 2 2) := fun x' => by rw [(Fam.below wr.heap.size wr x').cell (by simpa using hbPl)]; exact c0
          have y1 : ∀ x', (Fam wr.heap.size wr x').cell? ⟨bP, 1, none⟩ = some (.slice MV 2 cm) := fun x' => by rw [(Fam.below wr.heap.size wr x').cell (by simpa using hbPl)]; exact c1
          have y2 : ∀ x', (Fam wr.heap.size wr x').cell? ⟨b6, o6 + i, none⟩ = some (.int .i64 (n : Nat)) := fun x' => by rw [(Fam.below wr.heap.size wr x').cell (by simpa using hb6)]; exact n0
          have k5 : (0 : Int) ≤ (k : Int) ∧ (k : Int) < (L.length : Int) := by omega
          have k6 : (0 : Int) ≤ (i : Int) ∧ (i : Int) < (ps2.length : Int) := by omega
          have hM' := hid hM
          have hR' := hid hR
          replace hP7 := hid hP7
          replace hEL := hid hEL
          replace hE6 := hid hE6
          replace hps := hid hps
          clear hM hR c0 c1 n0 hni'
          go_upto_region 14 with fail
          refine wp_region_grow 9 wr.heap.size wr (fun _ u w' => OwnNats w' wr.heap.size u M) (by kernel_rfl) (by kernel_rfl) (Nat.le_refl _) (Below.refl _ _) ?_
          simp only [List.take_succ_cons, List.take_zero, List.drop_succ_cons, List.drop_zero]
          (repeat (refine grow_quiet (by rfl) (by rfl) (by rfl) ?_; intro K hK; go_big_quiet_op; go_big_quiet_on))
          refine grow_call (by rfl) (by rfl) (fun u v v' hb h => own_keep h (.of_below (K := fun _ => False) hb) fun _ _ h => h) (fun wq hbq _ => ?_) fun u hu => ?_
          · go_simp
            refine ⟨rfl, (hcl.out wq hbq).mono ?_⟩
            rintro e w5 ⟨v, rfl, ho, hb5⟩
            exact ⟨v, rfl, hb5, own_base ho hbq.size⟩
          obtain ⟨wX, -, hoX⟩ := hu
          obtain ⟨AM, cM, rfl, hcM, hcM', -⟩ := OwnNats.read hoX
          clear hoX
          simp only [Act.put, List.setIfInBounds_toArray, List.set_cons_zero, List.set_cons_succ]
          (repeat (refine grow_quiet (by rfl) (by rfl) (by rfl) ?_; intro K hK; go_big_quiet_op; go_big_quiet_on))
          refine grow_nil ?_
          intro w9 hb9 hf
          have hoM : OwnNats w9 wr.heap.size (.slice AM M.length cM) M := hf _ List.mem_cons_self
          have hM9 := hid (hM'.out.add hb9 hoM)
          clear hf hoM y0 y1 y2 hcl hM' k5 l0
          go_wp2_with fail
          obtain ⟨wo2, rfl⟩ : ∃ wo : World, wo = wr := ⟨_, rfl⟩
          go_loopw [9, 71] (fun lv jv wr => ∃ (j : Nat) (ps3 : List Nat) (A9 : Option Addr) (c9 : Nat) (D : DataW Unit), lv = .slice A9 ps3.length c9 ∧ jv = .int .i64 (j : Nat) ∧ j ≤ M.length ∧ ps3.length ≤ 16 ∧ RnR ss ps3 i n k j ∧ MaF w7 wr (w7.heap.size + 1) (.slice A9 ps3.length c9) ps3 ps3.length D (memF ps3) [(.slice AM M.length cM, M)]) (fun _ jv _ => M.length - (intOf jv).toNat)
          case atStart => exact ⟨0, ps2, _, _, D, rfl, rfl, Nat.zero_le _, hp16, hR'.out, hM9.out⟩
          case round =>
            clear hM9 hR' hps hE6 hil k6 hp16
            obtain ⟨j, ps3, A8, c8, D3, rfl, rfl, hj1, hq16, hR, hM⟩ := hrel
            by_cases hjl : j < M.length
            · obtain ⟨AM2, cM2, e7, -, -, hMN⟩ := OwnNats.read (hM.get List.mem_cons_self)
              cases e7
              obtain ⟨bM, oM, hME, hbM, hEM⟩ := hMN (by omega)
              subst hME
              have m0 := hEM j hjl
              obtain ⟨m, hm9⟩ : ∃ m, Hid (m = M[j]) := ⟨_, hid rfl⟩
              rw [← hm9.out] at m0
              have hm4 : m < 4096 := by rw [hm9.out]; exact hMlt.out _ (List.getElem_mem _)
              have k7 : (0 : Int) ≤ (j : Int) ∧ (j : Int) < (M.length : Int) := by omega
              have hkey : keyOf Tryz.prog 3 (.int .i64 (m : Int)) = some (.int .i64 (m : Int)) := keyOf_int_mk Tryz.underlying3 (wf64 (by omega) (by omega))
              have hmap4 := hM.map_
              replace hEM := hid hEM
              replace hMN := hid hMN
              by_cases hmp : m ∈ ps3
              · have hhas : Maps.has D3 (.int .i64 (m : Int)) = true := by rw [hM.ix.has m]; unfold memF; rw [if_pos hmp]; rfl
                have hR2 := hid (hold.out ps3 j hjl hR (by rw [← hm9.out]; exact hmp))
                have hM' := hid hM
                replace hmp := hid hmp
                clear hR hM
                go_wp2_with (at_lookup; refine wpList_lookup_own_ok_int _ rfl _ _ 65 rfl 3 3 .i64 mapLaw2 Tryz.underlying65 Tryz.underlying3 (zeroInt _) (w7.heap.size + 1) ps3.length D3 rfl hmap4 _ _ rfl hkey ?_; intro c' hat' hwc'; rw [hhas])
                go_roundw
                case rel => exact ⟨j + 1, ps3, _, _, D3, rfl, by go_num, hjl, hq16, hR2.out, hM'.out⟩
                case measure => simp [intOf]; omega
              · have hhas : Maps.has D3 (.int .i64 (m : Int)) = false := by rw [hM.ix.has m]; unfold memF; rw [if_neg hmp]; rfl
                have hRn := hnew.out ps3 j hjl hR (by rw [← hm9.out]; exact hmp)
                rw [← hm9.out] at hRn
                by_cases hfl : ps3.length = 16
                · have hbad : cmOk s t = false := many_bad hok'.out hok2'.out (by have h9 := hRn.base; rw [hss.out] at h9; exact h9) (by rw [List.length_append, hfl]; exact Nat.lt_succ_self 16)
                  have hno := hid (hzero.out hbad wr (hB7.trans (hM.below.mono hB7.size)))
                  have hw2r : Below w2.heap.size w2 wr := hb3.trans ((hB37.out.trans ((hb7.trans (hM.below.mono hb7.size)).mono hB37.out.size)).mono hb3.size)
                  have hrb := hrB.out.below hw2r hrB.out.lt
                  have d0 := hrb.cell 0
                  have d1 := hrb.cell 1
                  have d2 := hrb.cell 2
                  have f0 := hrb.frozen 0
                  have f1 := hrb.frozen 1
                  have f2 := hrb.frozen 2
                  simp only [List.getElem?_toArray, List.getElem?_cons_zero, List.getElem?_cons_succ] at d0 d1 d2
                  have h16 : ((ps3.length : Int) == 16) = true := by rw [hfl]; rfl
                  replace hfl := hid hfl
                  replace hmp := hid hmp
                  replace hRn := hid hRn
                  clear hR hM hrb
                  go_wp2_with (at_lookup; refine wpList_lookup_own_ok_int _ rfl _ _ 65 rfl 3 3 .i64 mapLaw2 Tryz.underlying65 Tryz.underlying3 (zeroInt _) (w7.heap.size + 1) ps3.length D3 rfl hmap4 _ _ rfl hkey ?_; intro c' hat' hwc'; rw [hhas])
                  refine bodyPost_ret (v := .tuple #[.agg #[.int .i64 0, .int .i64 0, .slice none 0 0], .bool false]) (by simp [results, Tryz.results12, go_sem, d0, d1, d2]) rfl ?_
                  exact hno.out
                · have h16 : ((ps3.length : Int) == 16) = false := by simp; omega
                  have hM' := hid hM
                  have hR2 := hid hRn
                  replace hmp := hid hmp
                  have hzm := hM.below.size
                  clear hR hM hRn
                  go_wp2_with (first
                    | (at_lookup; refine wpList_lookup_own_ok_int _ rfl _ _ 65 rfl 3 3 .i64 mapLaw2 Tryz.underlying65 Tryz.underlying3 (zeroInt _) (w7.heap.size + 1) ps3.length D3 rfl hmap4 _ _ rfl hkey ?_; intro c' hat' hwc'; rw [hhas])
                    | (at_mapUpdate; refine wpList_mapUpdate_own _ rfl _ _ _ 65 rfl 3 3 mapLaw2 Tryz.underlying65 _ (w7.heap.size + 1) ps3.length D3 rfl hmap4 (by unfold maxLen; omega) _ _ _ rfl rfl hkey _ [] (plainElem_int Tryz.underlying3 (by decide)) ?_; intro w10 hown10 hgrow10; have hM10 := hid ((hM'.out.put (T := m) (q := 0) hown10 hgrow10).fn (memF_snoc ps3 m)); have hz10 := hM10.out.below.size; clear hown10 hgrow10 hmap4)
                    | (at_builtin; refine wpList_append_own_at _ rfl _ _ 63 rfl w7.heap.size 3 n0 (.int .i64 0) 1 8 Tryz.underlying63 hni hn0 hn1 hn2 rfl (by decide) _ _ _ rfl (World.ownsRow.alloc hM10.out.own _) ⟨w10.heap.size, 0, none⟩ 1 1 [.int .i64 (m : Nat)] rfl rfl (cell_one_new _ _ _) (by intro u hu; simp at hu; subst hu; rfl) (by unfold maxLen; omega) (by omega) (by first | omega | (simp; omega)) ?_; intro v11 w11 hO11 hg11 _ hat11; obtain ⟨Av11, cv11, ev11, -, -⟩ := own_slice hO11; subst ev11; have hM11 := hid (hM10.out.app (x := m) hg11 hO11 hat11); clear hO11 hg11 hat11))
                  go_roundw
                  case rel => exact ⟨j + 1, ps3 ++ [m], _, _, _, by rw [List.length_append]; rfl, by go_num, hjl, by rw [List.length_append, List.length_singleton]; omega, hR2.out, by have := hM11.out; rw [List.length_append]; exact this⟩
                  case measure => simp [intOf]; omega
            · obtain rfl : j = M.length := by omega
              have hR2 := hid (hend.out ps3 hR)
              have hM' := hid hM.drop
              clear hR hM
              go_wp2_with fail
              go_roundw
              case rel => exact ⟨k + 1, ps3, _, _, D3, rfl, by go_num, hkl, hq16, hR2.out, hM'.out⟩
              case measure => simp [intOf]; omega
        · obtain rfl : k = L.length := by omega
          have hR2 := hid (show RnB ss ps2 (i + 1) from RnR.next (n := n) (j := 0) (by rw [← hLe.out]; exact hR))
          have hlt2 := hR.lt
          have hM' := hid hM
          clear hR hM
          go_wp2_with fail
          go_roundw
          case rel => exact ⟨i + 1, ps2, _, _, D, rfl, by go_num, hlt2, hp16, hR2.out, hM'.out⟩
          case measure => simp [intOf]; omega
    · obtain rfl : i = ps.length := by omega
      obtain ⟨qs, hqs⟩ : ∃ qs, Hid (qs = rnL ss) := ⟨_, hid rfl⟩
      have hperm : ps.Perm qs := by rw [hqs.out]; exact hB.perm hall.out
      have hql : Hid (qs.length = ps.length) := hid hperm.length_eq.symm
      have hqsort : Hid (qs.Pairwise (· < ·)) := hid (by rw [hqs.out]; exact rnL_sorted ss)
      have hps0 : 0 < ps.length := List.length_pos_of_mem hB.zero
      have hcall := hid (hM.sort_any hps0 (by omega) hperm hqsort.out)
      replace hps := hid hps
      replace hB := hid hB
      replace hperm := hid hperm
      have hbM := hid hM.below
      clear hM
      go_wp2_with fail
      refine hcall.out.mono ?_
      rintro e w8 ⟨rfl, hM8⟩
      clear hcall
      rw [← hql.out] at hM8 hps0 hp16 ⊢
      have hM8' : Hid (MaF w7 w8 (w7.heap.size + 1) (.slice A9 qs.length c9) qs qs.length D (numF qs 0) []) := hid (hM8.fn fun x => (numF_zero qs x).symm)
      clear hM8 hil hi1
      go_wp2_with fail
      go_loopw [99] (fun iv wr => ∃ (i m : Nat) (D : DataW Unit), iv = .int .i64 (i : Nat) ∧ i ≤ qs.length ∧ m = qs.length + i ∧ MaF w7 wr (w7.heap.size + 1) (.slice A9 qs.length c9) qs m D (numF qs i) []) (fun iv _ => qs.length - (intOf iv).toNat)
      case atStart => exact ⟨0, qs.length, D, rfl, Nat.zero_le _, rfl, hM8'.out⟩
      case round =>
        clear hM8'
        obtain ⟨i, m, D3, rfl, hi1, hmq, hM⟩ := hrel
        by_cases hil : i < qs.length
        · obtain ⟨A10, c10, e7, -, -, hqN⟩ := OwnNats.read hM.own
          cases e7
          obtain ⟨b6, o6, hAe, hb6, hE6⟩ := hqN (by omega)
          subst hAe
          have n0 := hE6 i hil
          obtain ⟨n, hn⟩ : ∃ n, Hid (n = qs[i]) := ⟨_, hid rfl⟩
          rw [← hn.out] at n0
          have hn4 : n < 4096 := by
            have hnR : Rn ss n := by
              have h9 := List.getElem_mem hil
              rw [← hn.out, hqs.out] at h9
              exact (rnL_mem hall.out).1 h9
            have h1 := hnR.lt hall.out
            have h2 := (prodP_4096 hall.out (by rw [hlen.out]; decide)).2
            omega
          have hkey : keyOf Tryz.prog 3 (.int .i64 (n : Int)) = some (.int .i64 (n : Int)) := keyOf_int_mk Tryz.underlying3 (wf64 (by omega) (by omega))
          have hmap4 := hM.map_
          have hnx : Hid (∀ x, (if x = n then some i else numF qs i x) = numF qs (i + 1) x) := hid fun x => by rw [hn.out]; exact numF_next (hqsort.out.imp fun h => Nat.ne_of_lt h) hil x
          have hM' := hid hM
          replace hE6 := hid hE6
          replace hqN := hid hqN
          clear hM
          go_wp2_with (at_mapUpdate; refine wpList_mapUpdate_own _ rfl _ _ _ 65 rfl 3 3 mapLaw2 Tryz.underlying65 _ (w7.heap.size + 1) m D3 rfl hmap4 (by unfold maxLen; omega) _ _ _ rfl rfl hkey _ [] (plainElem_int Tryz.underlying3 (wf64 (by omega) (by omega))) ?_; intro w10 hown10 hgrow10; have hM10 := hid ((hM'.out.put (T := n) (q := i) hown10 hgrow10).fn hnx.out); clear hown10 hgrow10 hmap4)
          go_roundw
          case rel => exact ⟨i + 1, m + 1, _, by go_num, hil, by omega, hM10.out⟩
          case measure => simp [intOf]; omega
        · obtain rfl : i = qs.length := by omega
          obtain ⟨wX, rfl⟩ : ∃ wX : World, wX = wr := ⟨_, rfl⟩
          have hbX := hM.below
          have hgX := hgB7.out.below hbX hgB7.out.lt
          have hg7 := hgB7.out.lt
          have g1 := hgX.cell 1
          have f1 := hgX.frozen 1
          simp only [List.getElem?_toArray, List.getElem?_cons_zero, List.getElem?_cons_succ] at g1
          have hmX := hM.map_
          have hixX := hid hM.ix
          have hoQ := hM.own
          have hoLX := own_later hoL7.out hbX
          have hBX := hB7.trans (hbX.mono hB7.size)
          have hB2X : Below w2.heap.size w2 wX := hb3.trans ((hB37.out.trans ((hb7.trans (hbX.mono hb7.size)).mono hB37.out.size)).mono hb3.size)
          have hgw : w.heap.size + 1 + 1 < gs := by have h1 := hrB.out.lt; have h2 := hgs.out; omega
          have hPX := hPA7.out.later hbX
          have hSX := hblkS.out.below hbX hblkS.out.lt
          have hbSn : ¬ bS = gs := by have h1 := hbS.out; have h2 := hz23.out; omega
          have hbPn : ¬ bP = gs := by have h1 := hbP.out; have h2 := hz23.out; have h3 := hb35.size; omega
          obtain ⟨wK, hwK⟩ : ∃ wK, wX.setCell ⟨gs, 1, none⟩ (.int .i64 (qs.length : Nat)) = wK := ⟨_, rfl⟩
          have hkK : KeepB (fun b => b = gs) wX wK := by rw [← hwK]; exact (KeepB.refl _ _).setCell _ _ fun _ => rfl
          have hgK : Blk wK gs 25 #[.int .i64 al, .int .i64 (qs.length : Nat), .slice none 0 0] := by rw [← hwK]; simpa using hgX.set_ 1 (.int .i64 (qs.length : Nat))
          have hQ3 : Hid (∀ wr, KeepB (fun b => b = gs) wK wr → NatsAt wr wr.heap.size A9 qs) := hid fun wr hk => by
            obtain ⟨A', c', e, -, -, h⟩ := OwnNats.read (own_keep hoQ (hkK.trans hk) fun g hg e => own_ne hoQ hgX (by decide) g hg e)
            cases e
            exact h
          have hL3 : Hid (∀ wr, KeepB (fun b => b = gs) wK wr → NatsAt wr wr.heap.size AL L) := hid fun wr hk => by
            obtain ⟨A', c', e, -, -, h⟩ := OwnNats.read (own_keep hoLX (hkK.trans hk) fun g hg e => own_ne hoLX hgX (by decide) g hg e)
            cases e
            exact h
          have hM3 : Hid (∀ wr, KeepB (fun b => b = gs) wK wr → wr.ownsMap Tryz.prog 3 (plainElem Tryz.prog 3) (w7.heap.size + 1) m D3) := hid fun wr hk => map_keep hmX (hkK.trans hk) (by omega)
          have hW3 : Hid (∀ wr, KeepB (fun b => b = gs) wK wr → Below w.heap.size w wr) := hid fun wr hk => KeepB.below hBX (hkK.trans hk) hBX.size fun k e => by omega
          have hR3 : Hid (∀ wr, KeepB (fun b => b = gs) wK wr → Below w2.heap.size w2 wr) := hid fun wr hk => KeepB.below hB2X (hkK.trans hk) hB2X.size fun k e => by have h2 := hgs.out; omega
          have hC3 : Hid (∀ wr, KeepB (fun b => b = gs) wK wr → wr.cell? ⟨bP, 0, none⟩ = some (.slice (some ⟨bS, 0, none⟩) 2 2) ∧ wr.cell? ⟨bP, 1, none⟩ = some (.slice MV 2 cm)) := hid fun wr hk => by
            have h0 := cell_keep (hkK.trans hk) hbPn hPX.c0
            have h1 := cell_keep (hkK.trans hk) hbPn hPX.c1
            rw [hlen.out] at h0 h1
            exact ⟨h0, h1⟩
          have hN3 : Hid (∀ wr, KeepB (fun b => b = gs) wK wr → ∀ (n l : Nat), n < 4096 → l < 6 → Calls Tryz.prog 41 #[.agg #[.slice (some ⟨bS, 0, none⟩) 2 2, .slice MV 2 cm], .int .i64 (n : Nat), .int .i64 (l : Nat), .slice none 0 0] wr fun e w' => ∃ v', e = .returned v' ∧ OwnNats w' wr.heap.size v' (nxParts ss n l) ∧ Below wr.heap.size wr w') := hid fun wr hk n l hn hl' => by
            have hkX := hkK.trans hk
            have hbw := hW3.out wr hk
            have hsy : SysAt wr wr.heap.size (some ⟨bS, 0, none⟩) ss := by rw [hss.out]; exact two_at (hSX.keep hkX hbSn) hl hc hm hd (hr.out.later hbw) (hr2.out.later hbw)
            exact nextTwo_any ss _ MV cm n l bP wr ⟨hT.out.later hbw, hall.out, hPX.len3, hPX.lc, hPX.hc, hPX.lm, hPX.hcm, hsy, hPX.mvs.kept hkX hgX, cell_keep hkX hbPn hPX.c0, cell_keep hkX hbPn hPX.c1⟩ hlen.out hl' hn
          have hK0 : Hid (KSt wK wK gs al (qs.length : Nat) (.slice none 0 0) (esTo ss (qs.take 0))) := hid ⟨hgK, World.ownsRow_nil _ _ _ _, KeepB.refl _ _, hgK.lt⟩
          have hrkm : Hid (∀ x, x ∈ qs → D3.atKey (.int .i64 (x : Int)) (.lit (.int .i64 0)) = .lit (.int .i64 ((rkN ss x : Nat) : Int))) := hid fun x hx => by
            have h1 := hixX.out.at_ x (qs.idxOf x) (numF_all hx)
            have h2 : qs.idxOf x = rkN ss x := by
              have h3 : Rn ss x := (rnL_mem hall.out).1 (by rw [← hqs.out]; exact hx)
              rw [hqs.out]
              exact idx_rank hall.out h3
            rw [h1, h2]
          clear hbX hmX hoQ hoLX hB2X hPX hSX hM hBX
          go_upto_region 32 with fail
          try rw [hwK]
          replace hgK := hid hgK
          replace hgX := hid hgX
          replace hkK := hid hkK
          clear g1 f1 hwK
          go_wp2_with fail
          go_loopw [113] (fun iv wr => ∃ (i : Nat) (v : Value), iv = .int .i64 (i : Nat) ∧ i ≤ qs.length ∧ KSt wK wr gs al (qs.length : Nat) v (esTo ss (qs.take i))) (fun iv _ => qs.length - (intOf iv).toNat)
          case atStart => exact ⟨0, _, rfl, Nat.zero_le _, hK0.out⟩
          case round =>
            clear hK0
            obtain ⟨i, v, rfl, hi1, hs⟩ := hrel
            by_cases hil : i < qs.length
            · obtain ⟨bQ, oQ, hAe, hbQ, hEQ⟩ := hQ3.out wr hs.keep (by omega)
              subst hAe
              have n0 := hEQ i hil
              obtain ⟨n, hn⟩ : ∃ n, Hid (n = qs[i]) := ⟨_, hid rfl⟩
              rw [← hn.out] at n0
              have hnR : Hid (Rn ss n) := hid (by
                have h9 := List.getElem_mem hil
                rw [← hn.out, hqs.out] at h9
                exact (rnL_mem hall.out).1 h9)
              have hn4 : n < 4096 := by
                have h1 := hnR.out.lt hall.out
                have h2 := (prodP_4096 hall.out (by rw [hlen.out]; decide)).2
                omega
              have hrk : Hid (rkN ss n = i) := hid (by rw [hn.out]; simp only [hqs.out]; exact rnL_get hall.out (by rw [← hqs.out]; exact hil))
              have hnx : Hid (esTo ss (qs.take (i + 1)) = esTo ss (qs.take i) ++ cmRow ss n) := hid (by rw [List.take_succ_eq_append_getElem hil, esTo_snoc, hn.out])
              have h3 : ss.length ≤ 3 := by rw [hlen.out]; decide
              have hesI : (esTo ss (qs.take i)).length ≤ 393216 := by
                have := esTo_le hall.out h3 (qs.take i)
                have h4 : (qs.take i).length * 24576 ≤ 16 * 24576 := Nat.mul_le_mul_right _ (by rw [List.length_take]; omega)
                omega
              obtain ⟨E0, hE0⟩ : ∃ E0, Hid (E0 = esTo ss (qs.take i)) := ⟨_, hid rfl⟩
              rw [← hE0.out] at hs hnx hesI
              have hs' := hid hs
              replace hEQ := hid hEQ
              replace h3 := hid h3
              clear hs
              go_wp2_with fail
              obtain ⟨wo, rfl⟩ : ∃ wo : World, wo = wr := ⟨_, rfl⟩
              go_loopw [120] (fun kv wr => ∃ (k : Nat) (v : Value), kv = .int .i64 (k : Nat) ∧ k ≤ L.length ∧ KSt wK wr gs al (qs.length : Nat) v (E0 ++ rowTo ss n k)) (fun kv _ => L.length - (intOf kv).toNat)
              case atStart => exact ⟨0, v, rfl, Nat.zero_le _, by rw [rowTo_zero, List.append_nil]; exact hs'.out⟩
              case round =>
                clear hs' n0
                obtain ⟨k, v, rfl, hk1, hs⟩ := hrel
                by_cases hlk : k < L.length
                · obtain ⟨bL, oL, hLE, hbL, hEL⟩ := hL3.out wr hs.keep (by omega)
                  subst hLE
                  have l0 := hEL k hlk
                  obtain ⟨l, hl9⟩ : ∃ l, Hid (l = L[k]) := ⟨_, hid rfl⟩
                  rw [← hl9.out] at l0
                  have hl6 : l < 6 := by rw [hl9.out]; exact hlL.out _ (List.getElem_mem _)
                  obtain ⟨M, hM⟩ : ∃ M, Hid (M = nxParts ss n l) := ⟨_, hid rfl⟩
                  have hMl : M.length ≤ 4096 := by rw [hM.out]; exact nxParts_le hall.out h3.out n l
                  have hkk : k < (letters (allAl ss)).length := by rw [← hLe.out]; exact hlk
                  have hlm : Hid (l ∈ letters (allAl ss)) := hid (by rw [hl9.out, ← hLe.out]; exact List.getElem_mem _)
                  have hMR : Hid (∀ x ∈ M, x < 4096 ∧ x ∈ qs) := hid fun x hx => by
                    rw [hM.out] at hx
                    have h1 := nxParts_lt hall.out n l x hx
                    have h2 := (prodP_4096 hall.out (by rw [hlen.out]; decide)).2
                    refine ⟨by omega, ?_⟩
                    rw [hqs.out]
                    exact (rnL_mem hall.out).2 (hnR.out.step hlm.out hx)
                  have hrow : Hid (rowTo ss n (k + 1) = rowTo ss n k ++ M.map (mkE ss n l)) := hid (by rw [rowTo_succ hkk, hM.out, hl9.out]; simp only [hLe.out])
                  have hrl := rowTo_le hall.out h3.out n k
                  obtain ⟨c0, c1⟩ := hC3.out wr hs.keep
                  have hnext := hN3.out wr hs.keep n l hn4 hl6
                  rw [← hM.out] at hnext
                  replace hnext := hid hnext
                  have hs' := hid hs
                  replace hEL := hid hEL
                  clear hs
                  go_wp2_with fail
                  refine hnext.out.mono ?_
                  rintro e w9 ⟨v', rfl, hoM, hb9⟩
                  obtain ⟨AM, cM, rfl, hcM, hcM', -⟩ := OwnNats.read hoM
                  have hs9 : Hid (KSt2 wK w9 gs al (qs.length : Nat) v (E0 ++ rowTo ss n k) (.slice AM M.length cM) M) := hid ⟨hs'.out.later hb9, own_base hoM hs'.out.keep.size⟩
                  clear hnext hoM c0 c1 l0 hs'
                  go_wp2_with fail
                  obtain ⟨wo2, rfl⟩ : ∃ wo : World, wo = wr := ⟨_, rfl⟩
                  go_loopw [129] (fun jv wr => ∃ (j : Nat) (v : Value), jv = .int .i64 (j : Nat) ∧ j ≤ M.length ∧ KSt2 wK wr gs al (qs.length : Nat) v (E0 ++ rowTo ss n k ++ (M.take j).map (mkE ss n l)) (.slice AM M.length cM) M) (fun jv _ => M.length - (intOf jv).toNat)
                  case atStart => exact ⟨0, v, rfl, Nat.zero_le _, by rw [List.take_zero, List.map_nil, List.append_nil]; exact hs9.out⟩
                  case round =>
                    clear hs9
                    obtain ⟨j, v, rfl, hj1, hs⟩ := hrel
                    by_cases hjl : j < M.length
                    · obtain ⟨AM2, cM2, e7, -, -, hMN⟩ := OwnNats.read hs.mem
                      cases e7
                      obtain ⟨bM, oM, hME, hbM, hEM⟩ := hMN (by omega)
                      subst hME
                      have m0 := hEM j hjl
                      obtain ⟨x, hx9⟩ : ∃ x, Hid (x = M[j]) := ⟨_, hid rfl⟩
                      rw [← hx9.out] at m0
                      have hxm := hMR.out _ (List.getElem_mem hjl)
                      rw [← hx9.out] at hxm
                      obtain ⟨hx4, hxq⟩ := hxm
                      have c2 := hs.so.blk.cell 2
                      simp only [List.getElem?_toArray, List.getElem?_cons_zero, List.getElem?_cons_succ] at c2
                      obtain ⟨rm, hrm⟩ : ∃ r, Hid (r = rkN ss x) := ⟨_, hid rfl⟩
                      have hat := hrkm.out x hxq
                      rw [← hrm.out] at hat
                      replace hat := hid hat
                      replace hxq := hid hxq
                      obtain ⟨es, hes⟩ : ∃ es, Hid (es = E0 ++ rowTo ss n k ++ (M.take j).map (mkE ss n l)) := ⟨_, hid rfl⟩
                      have hesl : es.length ≤ 1000000 := by
                        rw [hes.out, List.length_append, List.length_append, List.length_map, List.length_take]
                        omega
                      rw [← hes.out] at hs
                      have hek : Hid (E0 ++ rowTo ss n k ++ (M.take (j + 1)).map (mkE ss n l) = es ++ [⟨(i : Int), (l : Int), (rm : Int)⟩]) := hid (by
                        rw [map_take_snoc hjl, ← List.append_assoc, ← hes.out, ← hx9.out, hrm.out]
                        unfold mkE
                        rw [hrk.out])
                      have hmap := hM3.out wr hs.so.keep
                      have hkey : keyOf Tryz.prog 3 (.int .i64 (x : Int)) = some (.int .i64 (x : Int)) := keyOf_int_mk Tryz.underlying3 (wf64 (by omega) (by omega))
                      have hgl := hs.so.blk.lt
                      have ag : v.ownBlock ≠ some gs := fun e => own_ne hs.so.own hs.so.blk (by decide) gs e rfl
                      have hbz : wK.heap.size ≤ wr.heap.size := hs.so.keep.size
                      have hown := hid hs.so.own
                      have hs' := hid hs
                      replace hEM := hid hEM
                      replace hMN := hid hMN
                      clear hs
                      go_wp2_with (first
                        | (at_lookup; refine wpList_lookup_own_int _ rfl _ _ 65 rfl 3 3 .i64 mapLaw2 Tryz.underlying65 Tryz.underlying3 (zeroInt _) (w7.heap.size + 1) m D3 rfl hmap _ _ rfl hkey ?_; intro c' hat' hwc'; obtain rfl : c' = (rm : Int) := (by have h1 := hat.out.symm.trans hat'; simpa using h1.symm); clear hat' hwc')
                        | (at_builtin; refine wpList_append_lies _ (by rfl) _ _ 23 (by rfl) wK.heap.size 50 i0 (.agg #[.int .i64 0, .int .i64 0, .int .i64 0]) 3 24 Tryz.underlying23 hi hz0' hz1' hz2' rfl (by decide) v es.length (edCells es) (by rfl) (hown.out.alloc _) ⟨wr.heap.size, 0, none⟩ 1 1 [.int .i64 (i : Nat), .int .i64 (l : Nat), .int .i64 (rm : Nat)] (by rfl) (by rfl) (World.news_of_block (heap_alloc_new wr _)) ?c1 (by omega) ?c3 ?c4 ?c5 _ rfl ?_))
                      case c1 => simp [Value.oneCell']
                      case c3 => unfold maxLen; omega
                      case c4 => omega
                      case c5 => simp; omega
                      intro gg cap5 w5' hown5 hgrow hat5 hlt5
                      have hs5 := hid ((hs'.out.later ((Below.refl _ wr).alloc (Nat.le_refl _) _)).add (x := ⟨(i : Int), (l : Int), (rm : Int)⟩) hown5 hgrow)
                      have c2' : w5'.cell? ⟨gs, 2, none⟩ = some v := by rw [hgrow.cell_far _ (by simp; omega) (Ne.symm ag), World.cell?_alloc_lt (h := by simpa using hgl)]; exact c2
                      have f2' : w5'.frozen? ⟨gs, 2, none⟩ = false := by rw [hgrow.frozen_far _ (by simp; omega) (Ne.symm ag)]; exact (hs'.out.so.blk.alloc _).frozen 2
                      clear hown5 hgrow hat5 c2 m0
                      go_wp2_with fail
                      go_roundw
                      case rel => exact ⟨j + 1, _, by go_num, by omega, by rw [hek.out]; exact hs5.out⟩
                      case measure => simp [intOf]; omega
                    · obtain rfl : j = M.length := by omega
                      have hfin : Hid (KSt wK wr gs al (qs.length : Nat) v (E0 ++ rowTo ss n (k + 1))) := hid (by
                        rw [hrow.out, ← List.append_assoc]
                        have h9 := hs.so
                        rw [List.take_length] at h9
                        exact h9)
                      replace hs := hid hs
                      go_wp2_with fail
                      go_roundw
                      case rel => exact ⟨k + 1, v, by go_num, by omega, hfin.out⟩
                      case measure => simp [intOf]; omega
                · obtain rfl : k = L.length := by omega
                  have hfin : Hid (KSt wK wr gs al (qs.length : Nat) v (esTo ss (qs.take (i + 1)))) := hid (by
                    rw [hnx.out, ← rowTo_all, ← hLe.out]
                    exact hs)
                  replace hs := hid hs
                  go_wp2_with fail
                  go_roundw
                  case rel => exact ⟨i + 1, v, by go_num, by omega, hfin.out⟩
                  case measure => simp [intOf]; omega
            · obtain rfl : i = qs.length := by omega
              have hE : esTo ss (qs.take qs.length) = cmEs ss := by rw [List.take_length, hqs.out, esTo_all]
              rw [hE] at hs
              obtain ⟨es, hes⟩ : ∃ es, Hid (es = cmEs ss) := ⟨_, hid rfl⟩
              rw [← hes.out] at hs
              have hesn : es.length ≤ 1000000 := by
                have h1 := esTo_le hall.out (by rw [hlen.out]; decide) qs
                rw [hqs.out, esTo_all, ← hes.out, ← hqs.out] at h1
                have h4 : qs.length * 24576 ≤ 16 * 24576 := Nat.mul_le_mul_right _ hp16
                omega
              have hcall := hid (sortEdges_any es v wK.heap.size wr hs.own hesn (by rw [hes.out]; exact cmEs_sorted hall.out))
              have c2 := hs.blk.cell 2
              simp only [List.getElem?_toArray, List.getElem?_cons_zero, List.getElem?_cons_succ] at c2
              have hs' := hid hs
              clear hs hil hi1
              go_wp2_with fail
              refine hcall.out.mono ?_
              rintro e w9 ⟨rfl, hb9⟩
              have hs9 := hs'.out.later hb9
              clear c2 hcall hs'
              obtain ⟨Av, cv, hve, hv1, hv2⟩ := own_slice hs9.own
              subst hve
              have hWr := hW3.out w9 hs9.keep
              have hrb := hrB.out.below (hR3.out w9 hs9.keep) hrB.out.lt
              have c0 := hs9.blk.cell 0
              have c1 := hs9.blk.cell 1
              have c2 := hs9.blk.cell 2
              have d0 := hrb.cell 0
              have d1 := hrb.cell 1
              have d2 := hrb.cell 2
              have f0 := hrb.frozen 0
              have f1 := hrb.frozen 1
              have f2 := hrb.frozen 2
              simp only [List.getElem?_toArray, List.getElem?_cons_zero, List.getElem?_cons_succ] at c0 c1 c2 d0 d1 d2
              have hne : (Value.slice Av es.length cv).ownBlock ≠ some (w.heap.size + 1 + 1) := fun e => by have h1 := (hs9.own.lt _ e).1; have h2 := hs9.low; omega
              have hfin : Hid (SoOwn w (cmX s t) (cmOk s t) (.returned (.tuple #[.agg #[.int .i64 al, .int .i64 (qs.length : Nat), .slice Av es.length cv], .bool true])) (((w9.setCell ⟨w.heap.size + 1 + 1, 0, none⟩ (.int .i64 al)).setCell ⟨w.heap.size + 1 + 1, 1, none⟩ (.int .i64 (qs.length : Nat))).setCell ⟨w.heap.size + 1 + 1, 2, none⟩ (.slice Av es.length cv))) := hid (by
                have hcok : cmOk s t = true := cmOk_of hok'.out hok2'.out (by rw [← hss.out, ← hqs.out]; omega)
                have e : cmX s t = ⟨al, ((qs.length : Nat) : Int), es⟩ := by
                  rw [cmX_ok hcok, ← hss.out]
                  unfold cmSy
                  rw [← hale.out, ← hqs.out, ← hes.out]
                rw [e, hcok]
                refine ⟨Av, cv, rfl, ?_, ((hWr.setCell (by simp; omega) _).setCell (by simp; omega) _).setCell (by simp; omega) _⟩
                exact ownsRow_setCell_other (ownsRow_setCell_other (ownsRow_setCell_other (own_base hs9.own (by have := hs9.low; omega)) hne _) hne _) hne _)
              have hgl := hs9.blk.lt
              replace hs9 := hid hs9
              replace hrb := hid hrb
              replace hWr := hid hWr
              go_wp2
              refine bodyPost_ret (v := .tuple #[.agg #[.int .i64 al, .int .i64 (qs.length : Nat), .slice Av es.length cv], .bool true]) (by simp [results, Tryz.results12, go_sem, d0, d1, d2]) rfl ?_
              exact hfin.out

end Go.Proofs.YtdkjnemakkppfaaGreatDoor

/- The two tables of math/bits that the cards list: what a walk reads of them, and a world that holds them. -/
namespace Go.Proofs.YtdkjnemakkppfaaGreatDoor
open Go.ChangeShapes Go.WideShapes Go.ChangeAt Go.RowKit AG

theorem g64 : Tryz.prog.globalNamed "math/bits.deBruijn64tab" = some 1 := by kernel_rfl
theorem g64Type : (Tryz.prog.globals[1]?).map (·.type) = some 171 := by kernel_rfl
theorem g64Under : Tryz.prog.underlying 171 = some (.array 64 5) := by kernel_rfl
theorem u8Under : Tryz.prog.underlying 5 = some (.int .u8) := by kernel_rfl
theorem u8Cells : Tryz.prog.cellsOf 5 = 1 := by kernel_rfl
theorem g64Cells : Tryz.prog.cellsOf 171 = 64 := by kernel_rfl

theorem tab_of_laid {W : World} (h : laidMetH Tryz.prog [("math/bits.deBruijn32tab", Rows.laid_math_bits_deBruijn32tab), ("math/bits.deBruijn64tab", Rows.laid_math_bits_deBruijn64tab)] W) : Tab W := by
  have h1 : laidMet Tryz.prog [("math/bits.deBruijn32tab", Rows.laid_math_bits_deBruijn32tab), ("math/bits.deBruijn64tab", Rows.laid_math_bits_deBruijn64tab)] W := h
  have h2 : laidMet Tryz.prog (("math/bits.deBruijn64tab", Lib.tabData .u8 (Lib.deBruijn64tab.map Int.ofNat)) :: []) W := laidMet.tail h1
  have h3 := Lib.tabIs_of_head g64 g64Type g64Under u8Under u8Cells g64Cells h2
  intro j hj
  rw [h3.cell g64 j (by simpa using hj)]
  simp [List.getD, hj]

def layTab (zs : List Nat) : Obj → Obj
  | .cells _ t frozen => .cells (zs.map fun n => Value.int .u8 (Int.ofNat n)).toArray t frozen
  | o => o

/-- A world for the witness: the settled one, the two tables holding what their initialisers lay. -/
noncomputable def laidWorld (os : Os) : World :=
  { World.holding Tryz.prog os ⟨#[], #[], []⟩ with heap := ((World.holding Tryz.prog os ⟨#[], #[], []⟩).heap.modify 0 (layTab Lib.deBruijn32tab)).modify 1 (layTab Lib.deBruijn64tab) }


end Go.Proofs.YtdkjnemakkppfaaGreatDoor

/- How a slice of edges, a system, a slice of systems read as data: opened to cells. -/
namespace AG
open Go Go.RowKit Go.ChangeShapes Go.WideShapes Go.Deep

section
variable {H : Type} {enc : TypeId × Value → H} {P : Program} {w : World} {base : Nat} {spare : Nat → Bool} {held : Bool}
theorem add_at (b o n : Nat) : (⟨b, o, none⟩ : Addr).add n = ⟨b, o + n, none⟩ := by
  unfold Addr.add
  split
  · subst_vars; rfl
  · rfl

end

section
variable {H : Type} {enc : TypeId × Value → H} {P : Program}
/-- An argument reads behind the call as it did. -/
theorem trod_later {t : TypeId} (hl : laidOutB P = true) (hr : P.readableRec t = true) (hrow : t < P.types.size) {W W' : World} {v : Value} {d : DataW H} {ps : List MemPlace} {sp : Nat → Bool}
    (h : DataW.Trod enc P W 0 (fun _ => true) true t v d ps) (hb : Below W.heap.size W W') (hlt : ∀ x ∈ ps, x.block < W.heap.size) (hsp : ∀ x ∈ ps, sp x.block = true) : DataW.Trod enc P W' 0 sp true t v d ps :=
  WideElems.Trod_stays hl hr hrow h (fun x hx => hb.same (hlt x hx)) hsp
/-- The row's last step where of the world behind the call 'Below' is known. -/
theorem post_of_below {f : Func} {s : ChangeSpec} {apart fresh handsOn again : Bool} {W W' : World} {args : Array Value} {v : Value} {ds gs : List (DataW H)} {before pa pv : List MemPlace}
    (hW : DataW.Whole enc P f.params.toList s.vars apart W args.toList ds gs before)
    (hres : ∀ (b : Nat) (sp : Nat → Bool) (hd : Bool), DataW.TrodAll enc P W' b sp hd f.resultTypes.toList (v.resultList f.resultTypes.size) (s.fn H (ds ++ gs)).results [])
    (hargs : ∀ sp : Nat → Bool, (∀ p ∈ before, sp p.block = true) → DataW.TrodAll enc P W' 0 sp true f.params.toList args.toList (s.fn H (ds ++ gs)).args pa)
    (hvars : ∀ sp : Nat → Bool, (∀ p ∈ before, sp p.block = true) → DataW.TrodVars enc P W' sp s.vars (s.fn H (ds ++ gs)).vars pv)
    (hps : before = pa ++ pv) (hb : Below W.heap.size W W')
    (hok : ∀ (j : Nat) (t : TypeId) (r : Value), f.resultTypes[j]? = some t → (v.resultList f.resultTypes.size)[j]? = some r → Value.okWide P W' .any 0 t r) :
    s.post enc P f apart fresh handsOn again W args v W' := by
  have hlt : ∀ p ∈ before, p.block < W.heap.size := fun p hp => hW.lt p hp
  have hold : ∀ p ∈ before, (fun b => decide (b < W.heap.size)) p.block = true := fun p hp => by simpa using hlt p hp
  refine ⟨ds, gs, before, [], pa, pv, hW, hres _ _ _, hargs _ hold, hvars _ hold, World.keptBut_mono (fun p hp => ⟨hp, ?_⟩) (hb.frame (· ∈ before)), fun _ => ?_⟩
  · rw [hps, List.mem_append] at hp
    exact Or.inr hp
  · obtain ⟨_, _, _, _, _, hz, hn⟩ := hW
    refine ⟨hok, _, _, ([] ++ pa) ++ pv, ⟨[] ++ pa, pv, trodAll_append (hargs _ (fun _ _ => rfl)) (hres _ _ _), hvars _ (fun _ _ => rfl), rfl, ?_, ?_⟩, ?_⟩
    · intro b off hp
      have hin : MemPlace.cell b off ∈ before := by rw [hps]; simpa using hp
      rw [hb.frozen (hlt _ hin)]
      exact hz b off hin
    · intro ha
      have := hn ha
      rw [hps] at this
      simpa using this
    · intro p hp _
      rw [hps]
      simpa using hp
end
end AG

/- A slice of bytes that came in. -/
namespace Go.Proofs.YtdkjnemakkppfaaGreatDoor
open Go.RowKit Go.ChangeShapes Go.WideShapes AG

theorem cells_u8 : Tryz.prog.cellsOf 5 = 1 := by kernel_rfl

theorem open_code {H : Type} {enc : TypeId × Value → H} {W : World} {A : Option Addr} {n c fuel : Nat} {x : DataW H × List MemPlace} (h : DataW.trod enc Tryz.prog W 0 (fun _ => true) true fuel 22 [.slice A n c] = some x) :
    n ≤ c ∧ c ≤ 9223372036854775807 ∧ CodeAt W A n := by
  rcases open_ints Tryz.underlying22 Tryz.underlying5 cells_u8 h with ⟨hcs, _⟩ | ⟨a, len, cap, zs, hcs, _, hl, hm, hz, _, hcell, hwf⟩
  · simp only [List.cons.injEq, Value.slice.injEq, and_true] at hcs
    obtain ⟨rfl, rfl, rfl⟩ := hcs
    exact ⟨Nat.le_refl _, by omega, fun h => by omega⟩
  · simp only [List.cons.injEq, Value.slice.injEq, and_true] at hcs
    obtain ⟨rfl, rfl, rfl⟩ := hcs
    unfold maxLen at hm
    simp only [if_true] at hz
    refine ⟨hl, by omega, fun hn => ?_⟩
    obtain ⟨b, o, sp⟩ := a
    have hsp : sp = none := by simpa [Addr.add] using World.cell?_spot (hcell 0 (by omega))
    subst hsp
    refine ⟨b, o, rfl, World.block_lt_of_cell? _ _ (by simpa [Addr.add] using hcell 0 (by omega)), fun i hi => ?_⟩
    have h1 := hcell i (by omega)
    rw [add_at] at h1
    have hmem : zs.getD i 0 ∈ zs := by
      have : i < zs.length := by omega
      rw [List.getD_eq_getElem?_getD, List.getElem?_eq_getElem this]
      exact List.getElem_mem _
    have h2 := hwf _ hmem
    have h3 : 0 ≤ zs.getD i 0 ∧ zs.getD i 0 < 256 := by
      have h4 : IntKind.u8.min ≤ zs.getD i 0 ∧ zs.getD i 0 ≤ IntKind.u8.max := by simpa [Lit.wf] using h2
      have e1 : IntKind.u8.min = 0 := by decide
      have e2 : IntKind.u8.max = 255 := by decide
      omega
    obtain ⟨y, hy⟩ := Int.eq_ofNat_of_zero_le h3.1
    rw [hy] at h1
    exact ⟨y, by omega, h1⟩

end Go.Proofs.YtdkjnemakkppfaaGreatDoor

/- Both IsDeterministic return detB. -/
namespace Go.Proofs.YtdkjnemakkppfaaGreatDoor
open Go.RowKit Go.BigFrame AG

theorem detAt.next {s : Sy} {S k : Nat} (h : detAt s S k) (hlt : k + 1 < s.es.length) (hn : ¬ (Has (S : Int) s.es[k].f.toNat = true ∧ s.es[k].f = s.es[k + 1].f ∧ s.es[k].l = s.es[k + 1].l)) : detAt s S (k + 1) := fun i hi hik => by
  by_cases e : i = k
  · subst e
    exact hn
  · exact h i hi (by omega)

end Go.Proofs.YtdkjnemakkppfaaGreatDoor

/- TrimSystem, both versions; the laws' agSystems on systems that are the same. -/
namespace Go.Proofs.YtdkjnemakkppfaaGreatDoor
open Go.RowKit Go.BigFrame AG

theorem keep_none {w w' : World} (h : KeepB (fun _ => False) w w') : Below w.heap.size w w' := ⟨h.os, h.tape, h.output, h.size, fun i hi => h.block i hi (fun hh => hh)⟩
theorem reachAll_small {s : Sy} (h : sysOk s = true) : reachAll s < 2 ^ s.st.toNat := by
  have hin := sysOk_in h
  have h1 := sysOk_st h
  refine Nat.lt_pow_two_of_testBit _ fun i hi => ?_
  rw [← Bool.not_eq_true]
  intro hb
  unfold reachAll reachSet at hb
  rw [bitsOf_testBit] at hb
  have := hb.2 (fun q => (q : Int) < s.st) (fun x hx => by
    have := testBit_lt (n := 1) (S := 1) (by decide) hx
    show (x : Int) < s.st
    omega) (fun e he _ _ => by
    obtain ⟨a, b, c, d, _, _, _, _, f⟩ := hin e he
    show ((e.t.toNat : Nat) : Int) < s.st
    omega)
  have h3 : (i : Int) < s.st := this
  omega
noncomputable def trimOut (s : Sy) : Sy := if sysOk s = true then trimSy s (reachAll s) else ⟨0, 0, []⟩
def TrimPost (w : World) (s : Sy) (e : Ending) (w' : World) : Prop := ∃ (A : Option Addr) (c : Nat), e = .returned (.tuple #[(trimOut s).val A c, .bool (sysOk s)]) ∧ (trimOut s).es.length ≤ c ∧ c ≤ 9223372036854775807 ∧ EdsAt w' w'.heap.size A (trimOut s).es ∧ Below w.heap.size w w'

set_option maxRecDepth 100000 in
set_option maxHeartbeats 4000000 in
theorem implTrimSystem_any (s : Sy) (A : Option Addr) (c : Nat) (w : World) (hL : s.es.length ≤ 1000000) (hl : s.es.length ≤ c) (hc : c ≤ 9223372036854775807) (hT : Tab w) (hr : EdsAt w w.heap.size A s.es) :
    Calls Tryz.prog 28 #[s.val A c] w (TrimPost w s) := by
  unfold Sy.val
  have hpar := (Blk.new w 25 #[.int .i64 s.al, .int .i64 s.st, .slice A s.es.length c]).alloc (.cells #[.int .i64 0, .int .i64 0, .slice none 0 0] 25)
  have hres := Blk.new (w.alloc (.cells #[.int .i64 s.al, .int .i64 s.st, .slice A s.es.length c] 25)) 25 #[.int .i64 0, .int .i64 0, .slice none 0 0]
  have hb0 : Below w.heap.size w ((w.alloc (.cells #[.int .i64 s.al, .int .i64 s.st, .slice A s.es.length c] 25)).alloc (.cells #[.int .i64 0, .int .i64 0, .slice none 0 0] 25)) := ((Below.refl _ _).alloc (Nat.le_refl _) _).alloc (by simp) _
  have hsz0 : ((w.alloc (.cells #[.int .i64 s.al, .int .i64 s.st, .slice A s.es.length c] 25)).alloc (.cells #[.int .i64 0, .int .i64 0, .slice none 0 0] 25)).heap.size = w.heap.size + 2 := by simp
  simp only [World.size_alloc] at hres
  generalize hw0 : (w.alloc (.cells #[.int .i64 s.al, .int .i64 s.st, .slice A s.es.length c] 25)).alloc (.cells #[.int .i64 0, .int .i64 0, .slice none 0 0] 25) = w0 at hres hb0 hsz0 hpar
  have p0 := hpar.cell 0
  have p1 := hpar.cell 1
  have p2 := hpar.cell 2
  simp only [List.getElem?_toArray, List.getElem?_cons_zero, List.getElem?_cons_succ] at p0 p1 p2
  have hs0 := hid (hr.later hb0)
  have hT0 := hid (hT.later hb0)
  replace hr := hid hr
  replace hres := hid hres
  have hpar' := hid hpar
  replace hsz0 := hid hsz0
  clear hpar
  go_enter Tryz.func28, Tryz.ntmps28
  go_wp2_with fail
  refine (implSystemValid_any s A c w0 hl hc hs0.out).mono ?_
  rintro e w1 ⟨rfl, hb1⟩
  have hB1 := hb0.trans (hb1.mono hb0.size)
  have hs1 := hid (hs0.out.later hb1)
  have hT1 := hid (hT0.out.later hb1)
  have hpb := hpar'.out.below hb1 hpar'.out.lt
  have hrb := hres.out.below hb1 hres.out.lt
  clear p0 p1 p2 hw0
  have p0 := hpb.cell 0
  have p1 := hpb.cell 1
  have p2 := hpb.cell 2
  have d0 := hrb.cell 0
  have d1 := hrb.cell 1
  have d2 := hrb.cell 2
  have f0 := hrb.frozen 0
  have f1 := hrb.frozen 1
  have f2 := hrb.frozen 2
  simp only [List.getElem?_toArray, List.getElem?_cons_zero, List.getElem?_cons_succ] at p0 p1 p2 d0 d1 d2
  have hz1 := hb1.size
  have hlt1 := hrb.lt
  have hzz := hsz0.out
  cases hok : sysOk s
  · have hfin : Hid (TrimPost w s (.returned (.tuple #[.agg #[.int .i64 0, .int .i64 0, .slice none 0 0], .bool false])) (((w1.setCell ⟨w.heap.size + 1, 0, none⟩ (.int .i64 0)).setCell ⟨w.heap.size + 1, 1, none⟩ (.int .i64 0)).setCell ⟨w.heap.size + 1, 2, none⟩ (.slice none 0 0))) := hid (by
      refine ⟨none, 0, ?_, ?_, by omega, ?_, ?_⟩
      · unfold trimOut; rw [hok]; rfl
      · unfold trimOut; rw [hok]; exact Nat.le_refl _
      · unfold trimOut; rw [hok]; intro h; simp at h
      · exact ((hB1.setCell (by simp) _).setCell (by simp) _).setCell (by simp) _)
    replace hok := hid hok
    clear hpb hrb
    go_wp2
    refine bodyPost_ret (v := .tuple #[.agg #[.int .i64 0, .int .i64 0, .slice none 0 0], .bool false]) (by simp [results, Tryz.results28, go_sem, d0, d1, d2]) rfl ?_
    exact hfin.out
  · have hin := sysOk_in hok
    have hst := sysOk_st hok
    have hsm := reachAll_small hok
    have htr : Hid (trimOut s = trimSy s (reachAll s)) := hid (by unfold trimOut; rw [if_pos hok])
    have hok2 := hid hok
    have q0 := GK.BI.cell p0
    have q1 := GK.BI.cell p1
    have q2 := GK.BI.cell p2
    replace hin := hid hin
    replace hsm := hid hsm
    replace hok := hid hok
    clear hpb hrb d0 d1 d2 f0 f1 f2
    go_wp2_with fail
    clear p0 p1 p2
    refine GK.wp_region 4 [4, 5] 200 (KeepB fun _ => False) (GK.BI w1) (fun i u w' => if i = 2 then u = .int .i64 ((reachAll s : Nat) : Int) else ∃ (A2 : Option Addr) (c2 : Nat), u = (trimSy s (reachAll s)).val A2 c2 ∧ (trimSy s (reachAll s)).es.length ≤ c2 ∧ c2 ≤ 9223372036854775807 ∧ EdsAt w' w'.heap.size A2 (trimSy s (reachAll s)).es ∧ FreshA w1.heap.size A2) (by kernel_rfl) (by kernel_rfl) (GK.BI.way w1) (by decide) (Below.refl _ _).drew ?_
    simp only [List.take_succ_cons, List.take_zero]
    (repeat (refine GK.grow_quiet w1 (by rfl) (by rfl) ?_; intro K hK; go_big_quiet_op; go_big_quiet_on))
    refine GK.grow_val (.int .i64 ((reachAll s : Nat) : Int)) (by rfl) rfl (fun m wq hm2 hbq _ => ?_) ?_
    · go_simp
      exact ⟨rfl, by
        have hbq' : Below w1.heap.size w1 wq := hbq
        refine (implReachableStates_any s A c wq hl hc (hT1.out.later hbq') (hs1.out.later hbq')).mono fun e w' ⟨h1, h2⟩ => ⟨?_, GK.BI.after hbq h2⟩
        rw [h1, hok2.out]
        rfl⟩
    simp only [Act.put, List.setIfInBounds_toArray, List.set_cons_zero, List.set_cons_succ]
    (repeat (refine GK.grow_quiet w1 (by rfl) (by rfl) ?_; intro K hK; go_big_quiet_op; go_big_quiet_on))
    refine GK.grow_call (by rfl) (fun u w w' hk h => by
      obtain ⟨A2, c2, h1, h2, h3, h4, h5⟩ := h
      exact ⟨A2, c2, h1, h2, h3, h4.later (keep_none hk), h5⟩) (fun m wq hm2 hbq hf => ?_) ?_
    · go_simp
      have hbq' : Below w1.heap.size w1 wq := hbq
      exact ⟨rfl, (subSystem_any s A c (reachAll s) wq hin.out (by omega) (by omega) hsm.out hL hl hc (hs1.out.later hbq')).mono fun e w' ⟨A2, c2, h1, h2, h3, h4, h5, h6⟩ => ⟨_, h1, GK.BI.after hbq h6, A2, c2, rfl, h2, h3, h4, fun b o hA => by have := h5 b o hA; have := hbq'.size; omega⟩⟩
    rintro u ⟨_, _, _, A2, c2, rfl, a1, a2, -, -⟩
    unfold Sy.val
    simp only [Act.put, List.setIfInBounds_toArray, List.set_cons_zero, List.set_cons_succ]
    refine GK.grow_nil ?_
    intro w3 hw3 hf
    simp only [List.filterMap_cons, List.filterMap_nil, List.getElem?_cons_zero, List.getElem?_cons_succ]
    obtain ⟨A3, c3, hve, -, -, h4, h5⟩ := hf _ List.mem_cons_self
    injection hve with hve
    simp at hve
    obtain ⟨rfl, rfl⟩ := hve
    replace hw3 : Below w1.heap.size w1 w3 := hw3
    clear hf q0 q1 q2
    have hrb := (hres.out.below hb1 hres.out.lt).below hw3 hlt1
    have d0 := hrb.cell 0
    have d1 := hrb.cell 1
    have d2 := hrb.cell 2
    have f0 := hrb.frozen 0
    have f1 := hrb.frozen 1
    have f2 := hrb.frozen 2
    simp only [List.getElem?_toArray, List.getElem?_cons_zero, List.getElem?_cons_succ] at d0 d1 d2
    have hlt3 := hrb.lt
    obtain ⟨x, hx⟩ : ∃ x, x = trimSy s (reachAll s) := ⟨_, rfl⟩
    rw [← hx] at h4 a1 ⊢
    have hfin : Hid (TrimPost w s (.returned (.tuple #[.agg #[.int .i64 x.al, .int .i64 x.st, .slice A2 x.es.length c2], .bool true])) (((w3.setCell ⟨w.heap.size + 1, 0, none⟩ (.int .i64 x.al)).setCell ⟨w.heap.size + 1, 1, none⟩ (.int .i64 x.st)).setCell ⟨w.heap.size + 1, 2, none⟩ (.slice A2 x.es.length c2))) := hid (by
      have hne : ∀ b o, A2 = some ⟨b, o, none⟩ → 0 < x.es.length → b ≠ w.heap.size + 1 := fun b o hA _ => by have := h5 b o hA; omega
      refine ⟨A2, c2, ?_, ?_, a2, ?_, ?_⟩
      · rw [htr.out, ← hx, hok2.out]; rfl
      · rw [htr.out, ← hx]; exact a1
      · rw [htr.out, ← hx]; simpa [World.setCell] using ((h4.stored _ hne).stored _ hne).stored _ hne
      · exact (((hB1.trans (hw3.mono hB1.size)).setCell (by simp) _).setCell (by simp) _).setCell (by simp) _)
    clear h4 h5 hrb
    replace hx := hid hx
    go_wp2
    refine bodyPost_ret (v := .tuple #[.agg #[.int .i64 x.al, .int .i64 x.st, .slice A2 x.es.length c2], .bool true]) (by simp [results, Tryz.results28, go_sem, d0, d1, d2]) rfl ?_
    exact hfin.out

end Go.Proofs.YtdkjnemakkppfaaGreatDoor

/- The law FnSameTrim. -/
namespace Go.Proofs.YtdkjnemakkppfaaGreatDoor
open Go.RowKit Go.BigFrame AG

set_option maxRecDepth 100000 in
set_option maxHeartbeats 4000000 in
theorem agSystems_same (s : Sy) (A B : Option Addr) (c d : Nat) (w : World) (hl : s.es.length ≤ c) (hc : c ≤ 9223372036854775807) (hm : s.es.length ≤ d) (hd : d ≤ 9223372036854775807) (hr : EdsAt w w.heap.size A s.es) (hs : EdsAt w w.heap.size B s.es) :
    Calls Tryz.prog 14 #[s.val A c, s.val B d] w fun e w' => e = .returned (.bool true) ∧ Below w.heap.size w w' := by
  unfold Sy.val
  obtain ⟨w0, hw0, hz0, hB0, hS, hU⟩ := boxed2 w #[Value.int IntKind.i64 s.al, Value.int IntKind.i64 s.st, Value.slice A s.es.length c] 25 #[Value.int IntKind.i64 s.al, Value.int IntKind.i64 s.st, Value.slice B s.es.length d] 25
  have p0 := hS 0 _ rfl _ (Below.refl _ _)
  have p1 := hS 1 _ rfl _ (Below.refl _ _)
  have p2 := hS 2 _ rfl _ (Below.refl _ _)
  have q0 := hU 0 _ rfl _ (Below.refl _ _)
  have q1 := hU 1 _ rfl _ (Below.refl _ _)
  have q2 := hU 2 _ rfl _ (Below.refl _ _)
  have hr0 := hid (hr.later hB0)
  have hs0 := hid (hs.later hB0)
  replace hr := hid hr
  replace hs := hid hs
  go_enter Tryz.func14, Tryz.ntmps14
  go_wp2_with fail
  go_loopw [5] (fun i wr => ∃ k : Nat, i = .int .i64 (k : Nat) ∧ k ≤ s.es.length ∧ Below w0.heap.size w0 wr) (fun i _ => s.es.length - (intOf i).toNat)
  case atStart => exact ⟨0, rfl, by omega, Below.refl _ _⟩
  case round =>
    clear p0 p1 p2 q0 q1 q2
    obtain ⟨k, rfl, hk, hb⟩ := hrel
    have hC := hb.mono hz0
    have p0 := hS 0 _ rfl _ hC
    have p1 := hS 1 _ rfl _ hC
    have p2 := hS 2 _ rfl _ hC
    have q0 := hU 0 _ rfl _ hC
    have q1 := hU 1 _ rfl _ hC
    have q2 := hU 2 _ rfl _ hC
    by_cases hlt : k < s.es.length
    · obtain ⟨b, o, hA, hbb, hE⟩ := hr0.out (by omega)
      obtain ⟨b', o', hA', hbb', hE'⟩ := hs0.out (by omega)
      subst hA
      subst hA'
      obtain ⟨e0, e1, e2⟩ := hE k hlt
      obtain ⟨g0, g1, g2⟩ := hE' k hlt
      rw [← hb.cell (by simpa using hbb)] at e0 e1 e2
      rw [← hb.cell (by simpa using hbb')] at g0 g1 g2
      obtain ⟨⟨xf, xl, xt⟩, hx⟩ : ∃ x, x = s.es[k] := ⟨_, rfl⟩
      rw [← hx] at e0 e1 e2 g0 g1 g2
      simp only at e0 e1 e2 g0 g1 g2
      have k1 : (0 : Int) ≤ (k : Int) ∧ (k : Int) < (s.es.length : Int) := by omega
      have x0 := GK.BI.cell p2
      have x1 := GK.BI.cell q2
      have y0 := GK.BI.cell e0
      have y1 := GK.BI.cell e1
      have y2 := GK.BI.cell e2
      have z0 := GK.BI.cell g0
      have z1 := GK.BI.cell g1
      have z2 := GK.BI.cell g2
      replace hE := hid hE
      replace hE' := hid hE'
      replace hx := hid hx
      go_wp2_with fail
      clear p0 p1 p2 q0 q1 q2 e0 e1 e2 g0 g1 g2
      refine GK.wp_region 11 [] 200 (KeepB fun _ => False) (GK.BI wr) (fun _ _ _ => True) (by kernel_rfl) (by kernel_rfl) (GK.BI.way wr) (by decide) (Below.refl _ _).drew ?_
      simp only [List.take_succ_cons, List.take_zero]
      (repeat (refine GK.grow_quiet wr (by rfl) (by rfl) ?_; intro K hK; go_big_quiet_op; go_big_quiet_on))
      refine GK.grow_nil ?_
      intro w4 hw4 _
      simp only [List.filterMap_nil]
      replace hw4 : Below wr.heap.size wr w4 := hw4
      have hB4 := hid (hb.trans (hw4.mono hb.size))
      clear x0 x1 y0 y1 y2 z0 z1 z2
      go_wp2_with fail
      go_roundw
      case rel => exact ⟨k + 1, by go_num, by omega, hB4.out⟩
      case measure => simp [intOf]; omega
    · obtain rfl : k = s.es.length := by omega
      go_wp2_with fail
      go_ret
      exact ⟨rfl, hB0.trans (hb.mono (by have := hB0.size; exact this))⟩

def DrawOne (w : World) (e : Ending) (w' : World) : Prop := ∃ (s : Sy) (A : Option Addr) (c : Nat), e = .returned (s.val A c) ∧ s.es.length ≤ c ∧ c ≤ 9223372036854775807 ∧ s.es.length ≤ 1000000 ∧ EdsAt w' w'.heap.size A s.es ∧ FreshA w.heap.size A ∧ Below w.heap.size w w'
theorem DrawOne.ret {w w0 w1 : World} {s : Sy} {A : Option Addr} {c : Nat} (h1 : s.es.length ≤ c) (h2 : c ≤ 9223372036854775807) (h3 : s.es.length ≤ 1000000) (h4 : EdsAt w1 w1.heap.size A s.es) (h5 : FreshA (w.heap.size + 1) A) (h7 : Below w.heap.size w w1) (v1 v2 v3 : Value) :
    DrawOne w (.returned (.agg #[.int .i64 s.al, .int .i64 s.st, .slice A s.es.length c])) (((w1.setCell ⟨w.heap.size, 0, none⟩ v1).setCell ⟨w.heap.size, 1, none⟩ v2).setCell ⟨w.heap.size, 2, none⟩ v3) := by
  have hne : ∀ b o, A = some ⟨b, o, none⟩ → 0 < s.es.length → b ≠ w.heap.size := fun b o hA _ => by have := h5 b o hA; omega
  refine ⟨s, A, c, rfl, h1, h2, h3, ?_, fun b o hA => by have := h5 b o hA; omega, ?_⟩
  · simpa [World.setCell] using ((h4.stored v1 hne).stored v2 hne).stored v3 hne
  · exact ((h7.setCell (by simp) _).setCell (by simp) _).setCell (by simp) _

end Go.Proofs.YtdkjnemakkppfaaGreatDoor

/- Closed facts on the whole program, each a lemma of its own: the rows of all laws of the seat use them. -/
namespace Go.Proofs.YtdkjnemakkppfaaGreatDoor
open Go.ChangeShapes Go.WideShapes Go.ChangeAt Go.RowKit AG
theorem and2 {a b : Bool} (h : a = true) (k : b = true) : (a && b) = true := by rw [h, k]; rfl
theorem whLaid : laidOutB Tryz.prog = true := by kernel_rfl
theorem whRowed : mapsRowed Tryz.prog = true := by kernel_rfl
theorem whHeard : Tryz.prog.stopsHeard = true := by kernel_rfl
theorem whMay : Tryz.prog.mayEnter = true := by kernel_rfl
theorem whLift : Tryz.prog.liftsFinal = false := by kernel_rfl
theorem whMake : (Tryz.prog.make == some Rows.fnComposeSelfRow.make) = true := by kernel_rfl
theorem whMain : Tryz.prog.mainIs = some (Rows.fnComposeSelfCard.stood.harness.1, Rows.fnComposeSelfCard.stood.harness.2.toList) := by kernel_rfl
theorem whLooks : false = Tryz.prog.looks [] := by kernel_rfl
end Go.Proofs.YtdkjnemakkppfaaGreatDoor
