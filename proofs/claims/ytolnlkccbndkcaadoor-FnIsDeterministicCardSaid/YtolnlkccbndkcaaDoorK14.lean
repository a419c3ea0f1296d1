/- Lemmas, part 14: several texts in one. -/
import Derived.Test.YtolnlkccbndkcaaDoorCards
import Derived.Test.YtolnlkccbndkcaaDoorTie
import Derived.Test.YtolnlkccbndkcaaDoorK5
import Derived.WalkKit
import Derived.ProofKit
import Derived.OpenShut
import Derived.Deep.DeepHandedRow
import Derived.Lib.LaidTab
import Derived.Stop.LaidErr
import Derived.Test.YtolnlkccbndkcaaDoorK3
import Derived.Deep.Slices
import Derived.Deep.Fields
import Derived.ChangeSame
import Derived.Test.YtolnlkccbndkcaaDoorK10
import Derived.ChangeSlices
import Derived.Lib.SmallJoins
set_option linter.unusedSimpArgs false
set_option linter.unusedVariables false

/- The two tables of math/bits that the cards list: what a walk reads of them, and a world that holds them. -/
namespace Go.Proofs.YtolnlkccbndkcaaDoor
open Go.ChangeShapes Go.WideShapes Go.ChangeAt Go.RowKit AG

theorem g64 : Tryd.prog.globalNamed "math/bits.deBruijn64tab" = some 1 := by kernel_rfl
theorem g64Type : (Tryd.prog.globals[1]?).map (·.type) = some 165 := by kernel_rfl
theorem g64Under : Tryd.prog.underlying 165 = some (.array 64 5) := by kernel_rfl
theorem u8Under : Tryd.prog.underlying 5 = some (.int .u8) := by kernel_rfl
theorem u8Cells : Tryd.prog.cellsOf 5 = 1 := by kernel_rfl
theorem g64Cells : Tryd.prog.cellsOf 165 = 64 := by kernel_rfl

theorem tab_of_laid {W : World} (h : laidMetH Tryd.prog [("math/bits.deBruijn32tab", Rows.laid_math_bits_deBruijn32tab), ("math/bits.deBruijn64tab", Rows.laid_math_bits_deBruijn64tab)] W) : Tab W := by
  have h1 : laidMet Tryd.prog [("math/bits.deBruijn32tab", Rows.laid_math_bits_deBruijn32tab), ("math/bits.deBruijn64tab", Rows.laid_math_bits_deBruijn64tab)] W := h
  have h2 : laidMet Tryd.prog (("math/bits.deBruijn64tab", Lib.tabData .u8 (Lib.deBruijn64tab.map Int.ofNat)) :: []) W := laidMet.tail h1
  have h3 := Lib.tabIs_of_head g64 g64Type g64Under u8Under u8Cells g64Cells h2
  intro j hj
  rw [h3.cell g64 j (by simpa using hj)]
  simp [List.getD, hj]

def layTab (zs : List Nat) : Obj → Obj
  | .cells _ t frozen => .cells (zs.map fun n => Value.int .u8 (Int.ofNat n)).toArray t frozen
  | o => o

/-- A world for the witness: the settled one, the two tables holding what their initialisers lay. -/
noncomputable def laidWorld (os : Os) : World :=
  { World.holding Tryd.prog os ⟨#[], #[], []⟩ with heap := ((World.holding Tryd.prog os ⟨#[], #[], []⟩).heap.modify 0 (layTab Lib.deBruijn32tab)).modify 1 (layTab Lib.deBruijn64tab) }

end Go.Proofs.YtolnlkccbndkcaaDoor

/- How a slice of edges, a system, a slice of systems read as data: opened to cells. -/
namespace AG
open Go Go.RowKit Go.ChangeShapes Go.WideShapes Go.Deep

theorem list_of_forall {α : Type} (P : Nat → α → Prop) : ∀ n, (∀ i, i < n → ∃ a, P i a) → ∃ l : List α, l.length = n ∧ ∀ i (hi : i < l.length), P i l[i] := by
  intro n
  induction n with
  | zero => intro _; exact ⟨[], rfl, fun i hi => by simp at hi⟩
  | succ n ih =>
    intro h
    obtain ⟨l, hl, hP⟩ := ih fun i hi => h i (by omega)
    obtain ⟨a, ha⟩ := h n (by omega)
    refine ⟨l ++ [a], by simp [hl], fun i hi => ?_⟩
    simp only [List.length_append, List.length_singleton] at hi
    by_cases e : i < l.length
    · rw [List.getElem_append_left e]; exact hP i e
    · obtain rfl : i = l.length := by omega
      rw [List.getElem_append_right (Nat.le_refl _)]
      simp only [Nat.sub_self, List.getElem_cons_zero]
      rw [hl]
      exact ha

section
variable {H : Type} {enc : TypeId × Value → H} {P : Program} {w : World} {base : Nat} {spare : Nat → Bool} {held : Bool}
/-- A slice of structs, each field of one cell: every element's fields. -/
theorem open_fields {t e : TypeId} {fs : Array Field} {fuel : Nat} {cs : List Value} {x : DataW H × List MemPlace} (ht : P.underlying t = some (.slice e)) (he : P.underlying e = some (.struct fs))
    (hone : oneCellFields P fs = true) (hC : P.cellsOf e = fs.size) (h : DataW.trod enc P w base spare held fuel t cs = some x) :
    cs = [.slice none 0 0] ∨
    ∃ (a : Addr) (len cap : Nat), cs = [.slice (some a) len cap] ∧ len ≤ cap ∧ cap ≤ maxLen ∧
      ∀ i, i < len → ∀ (j : Nat) (f : Field), fs[j]? = some f → ∃ (v : Value) (y : DataW H × List MemPlace) (n : Nat), w.cell? (a.add (i * fs.size + j)) = some v ∧ DataW.trod enc P w base spare held n f.type [v] = some y := by
  rcases open_slice ht h with h0 | ⟨a, len, cap, m, n, D, Pl, hcs, hb, hl, hm, hmm, hx, hi⟩
  · exact .inl h0.1
  · refine .inr ⟨a, len, cap, hcs, hl, hm, fun i hil => ?_⟩
    have hlm : len ≤ m := by rw [hmm]; split <;> omega
    obtain ⟨cs', hc, ht'⟩ := hi i (by omega)
    rw [hC] at hc
    obtain ⟨ys, n', hn', hy, hlen, hyl, hf⟩ := DataW.trod_struct he ht'
    obtain ⟨_, hcl, hat⟩ := World.cells?_some hc
    intro j f hj
    obtain ⟨ho, hk⟩ := hone_of hone j f hj
    have hjl : j < fs.size := (Array.getElem?_eq_some_iff.1 hj).1
    have hcell := hat j hjl
    have hv : cs'[j]? = some (cs'[j]'(by omega)) := List.getElem?_eq_getElem (by omega)
    have h1 := hf j f hj
    rw [ho, hk] at h1
    have hone' : (cs'.drop j).take 1 = [cs'[j]'(by omega)] := by
      rw [List.drop_eq_getElem_cons (by omega)]
      rfl
    rw [hone'] at h1
    have hys : ys[j]? = some (ys[j]'(by omega)) := List.getElem?_eq_getElem (by omega)
    refine ⟨_, _, n', ?_, h1.trans hys⟩
    rw [← Go.Deep.add_add, hcell, hv]

theorem addr_of {a : Addr} {v : Value} (h : w.cell? (a.add 0) = some v) : ∃ b o, a = ⟨b, o, none⟩ := by
  obtain ⟨b, o, sp⟩ := a
  have : (⟨b, o, sp⟩ : Addr).spot = none := World.cell?_spot (by simpa [Addr.add] using h)
  exact ⟨b, o, by simp_all⟩
theorem add_at (b o n : Nat) : (⟨b, o, none⟩ : Addr).add n = ⟨b, o + n, none⟩ := by
  unfold Addr.add
  split
  · subst_vars; rfl
  · rfl

/-- A slice of edges. -/
theorem open_edges {t e ti : TypeId} {f0 f1 f2 : Field} {fuel : Nat} {v : Value} {x : DataW H × List MemPlace} (ht : P.underlying t = some (.slice e)) (he : P.underlying e = some (.struct #[f0, f1, f2]))
    (hone : oneCellFields P #[f0, f1, f2] = true) (hC : P.cellsOf e = 3) (h0 : f0.type = ti) (h1 : f1.type = ti) (h2 : f2.type = ti) (hti : P.underlying ti = some (.int .i64))
    (h : DataW.trod enc P w base spare held fuel t [v] = some x) :
    ∃ A c es, v = .slice A (List.length es) c ∧ List.length es ≤ c ∧ c ≤ 9223372036854775807 ∧ EdsAt w w.heap.size A es := by
  rcases open_fields ht he hone hC h with h | ⟨a, n, c, hcs, hl, hm, hf⟩
  · exact ⟨none, 0, [], by simpa using h, by simp, by omega, fun h => by simp at h⟩
  · have hcs' : v = .slice (some a) n c := by simpa using hcs
    have hm' : c ≤ 9223372036854775807 := by unfold maxLen at hm; omega
    have hcell : ∀ i, i < n → ∃ e : Ed, w.cell? (a.add (i * 3 + 0)) = some (.int .i64 e.f) ∧ w.cell? (a.add (i * 3 + 1)) = some (.int .i64 e.l) ∧ w.cell? (a.add (i * 3 + 2)) = some (.int .i64 e.t) := fun i hi => by
      obtain ⟨v0, y0, n0, c0, t0⟩ := hf i hi 0 f0 rfl
      obtain ⟨v1, y1, n1, c1, t1⟩ := hf i hi 1 f1 rfl
      obtain ⟨v2, y2, n2, c2, t2⟩ := hf i hi 2 f2 rfl
      obtain ⟨m0, e0, _⟩ := DataW.trod_int (by rw [h0]; exact hti) t0
      obtain ⟨m1, e1, _⟩ := DataW.trod_int (by rw [h1]; exact hti) t1
      obtain ⟨m2, e2, _⟩ := DataW.trod_int (by rw [h2]; exact hti) t2
      simp only [List.cons.injEq, and_true] at e0 e1 e2
      subst e0 e1 e2
      exact ⟨⟨m0, m1, m2⟩, c0, c1, c2⟩
    obtain ⟨es, hes, hE⟩ := list_of_forall _ n hcell
    subst hes
    refine ⟨some a, c, es, hcs', hl, hm', fun hpos => ?_⟩
    obtain ⟨b, o, rfl⟩ := addr_of (w := w) (v := .int .i64 es[0].f) (by simpa using (hE 0 hpos).1)
    refine ⟨b, o, rfl, ?_, fun i hi => ?_⟩
    · have := (hE 0 hpos).1
      rw [add_at] at this
      exact World.block_lt_of_cell? _ _ this
    · obtain ⟨q0, q1, q2⟩ := hE i hi
      rw [add_at] at q0 q1 q2
      exact ⟨by simpa using q0, by rw [Nat.add_assoc]; exact q1, by rw [Nat.add_assoc]; exact q2⟩

/-- A slice of systems. -/
theorem open_systems {t e te ee ti : TypeId} {f0 f1 f2 g0 g1 g2 : Field} {fuel : Nat} {v : Value} {x : DataW H × List MemPlace} (ht : P.underlying t = some (.slice e)) (he : P.underlying e = some (.struct #[f0, f1, f2]))
    (hone : oneCellFields P #[f0, f1, f2] = true) (hC : P.cellsOf e = 3) (h0 : f0.type = ti) (h1 : f1.type = ti) (h2 : f2.type = te) (hti : P.underlying ti = some (.int .i64))
    (ht' : P.underlying te = some (.slice ee)) (he' : P.underlying ee = some (.struct #[g0, g1, g2])) (hone' : oneCellFields P #[g0, g1, g2] = true) (hC' : P.cellsOf ee = 3) (h0' : g0.type = ti) (h1' : g1.type = ti) (h2' : g2.type = ti)
    (h : DataW.trod enc P w base spare held fuel t [v] = some x) :
    ∃ A c ss, v = .slice A (List.length ss) c ∧ List.length ss ≤ c ∧ c ≤ 9223372036854775807 ∧ SysAt w w.heap.size A ss := by
  rcases open_fields ht he hone hC h with h | ⟨a, n, c, hcs, hl, hm, hf⟩
  · exact ⟨none, 0, [], by simpa using h, by simp, by omega, fun h => by simp at h⟩
  · have hcs' : v = .slice (some a) n c := by simpa using hcs
    have hm' : c ≤ 9223372036854775807 := by unfold maxLen at hm; omega
    have hcell : ∀ i, i < n → ∃ s : Sy, w.cell? (a.add (i * 3 + 0)) = some (.int .i64 s.al) ∧ w.cell? (a.add (i * 3 + 1)) = some (.int .i64 s.st) ∧
        ∃ Ai ci, w.cell? (a.add (i * 3 + 2)) = some (.slice Ai s.es.length ci) ∧ s.es.length ≤ ci ∧ ci ≤ 9223372036854775807 ∧ EdsAt w w.heap.size Ai s.es := fun i hi => by
      obtain ⟨v0, y0, n0, c0, t0⟩ := hf i hi 0 f0 rfl
      obtain ⟨v1, y1, n1, c1, t1⟩ := hf i hi 1 f1 rfl
      obtain ⟨v2, y2, n2, c2, t2⟩ := hf i hi 2 f2 rfl
      obtain ⟨m0, e0, _⟩ := DataW.trod_int (by rw [h0]; exact hti) t0
      obtain ⟨m1, e1, _⟩ := DataW.trod_int (by rw [h1]; exact hti) t1
      simp only [List.cons.injEq, and_true] at e0 e1
      subst e0 e1
      obtain ⟨Ai, ci, es, rfl, hel, hec, hE⟩ := open_edges (by rw [h2]; exact ht') he' hone' hC' h0' h1' h2' hti t2
      exact ⟨⟨m0, m1, es⟩, c0, c1, Ai, ci, c2, hel, hec, hE⟩
    obtain ⟨ss, hss, hS⟩ := list_of_forall _ n hcell
    subst hss
    refine ⟨some a, c, ss, hcs', hl, hm', fun hpos => ?_⟩
    obtain ⟨b, o, rfl⟩ := addr_of (w := w) (v := .int .i64 ss[0].al) (by simpa using (hS 0 hpos).1)
    refine ⟨b, o, rfl, ?_, fun i hi => ?_⟩
    · have := (hS 0 hpos).1
      rw [add_at] at this
      exact World.block_lt_of_cell? _ _ this
    · obtain ⟨q0, q1, Ai, ci, q2, q3, q4, q5⟩ := hS i hi
      rw [add_at] at q0 q1 q2
      exact ⟨by simpa using q0, by rw [Nat.add_assoc]; exact q1, Ai, ci, by rw [Nat.add_assoc]; exact q2, q3, q4, q5⟩
end

section
variable {H : Type} {enc : TypeId × Value → H} {P : Program}
/-- An argument reads behind the call as it did. -/
theorem trod_later {t : TypeId} (hl : laidOutB P = true) (hr : P.readableRec t = true) (hrow : t < P.types.size) {W W' : World} {v : Value} {d : DataW H} {ps : List MemPlace} {sp : Nat → Bool}
    (h : DataW.Trod enc P W 0 (fun _ => true) true t v d ps) (hb : Below W.heap.size W W') (hlt : ∀ x ∈ ps, x.block < W.heap.size) (hsp : ∀ x ∈ ps, sp x.block = true) : DataW.Trod enc P W' 0 sp true t v d ps :=
  WideElems.Trod_stays hl hr hrow h (fun x hx => hb.same (hlt x hx)) hsp
/-- The row's last step where of the world behind the call 'Below' is known. -/
theorem post_of_below {f : Func} {s : ChangeSpec} {apart fresh handsOn again : Bool} {W W' : World} {args : Array Value} {v : Value} {ds gs : List (DataW H)} {before pa pv : List MemPlace}
    (hW : DataW.Whole enc P f.params.toList s.vars apart W args.toList ds gs before)
    (hres : ∀ (b : Nat) (sp : Nat → Bool) (hd : Bool), DataW.TrodAll enc P W' b sp hd f.resultTypes.toList (v.resultList f.resultTypes.size) (s.fn H (ds ++ gs)).results [])
    (hargs : ∀ sp : Nat → Bool, (∀ p ∈ before, sp p.block = true) → DataW.TrodAll enc P W' 0 sp true f.params.toList args.toList (s.fn H (ds ++ gs)).args pa)
    (hvars : ∀ sp : Nat → Bool, (∀ p ∈ before, sp p.block = true) → DataW.TrodVars enc P W' sp s.vars (s.fn H (ds ++ gs)).vars pv)
    (hps : before = pa ++ pv) (hb : Below W.heap.size W W')
    (hok : ∀ (j : Nat) (t : TypeId) (r : Value), f.resultTypes[j]? = some t → (v.resultList f.resultTypes.size)[j]? = some r → Value.okWide P W' .any 0 t r) :
    s.post enc P f apart fresh handsOn again W args v W' := by
  have hlt : ∀ p ∈ before, p.block < W.heap.size := fun p hp => hW.lt p hp
  have hold : ∀ p ∈ before, (fun b => decide (b < W.heap.size)) p.block = true := fun p hp => by simpa using hlt p hp
  refine ⟨ds, gs, before, [], pa, pv, hW, hres _ _ _, hargs _ hold, hvars _ hold, World.keptBut_mono (fun p hp => ⟨hp, ?_⟩) (hb.frame (· ∈ before)), fun _ => ?_⟩
  · rw [hps, List.mem_append] at hp
    exact Or.inr hp
  · obtain ⟨_, _, _, _, _, hz, hn⟩ := hW
    refine ⟨hok, _, _, ([] ++ pa) ++ pv, ⟨[] ++ pa, pv, trodAll_append (hargs _ (fun _ _ => rfl)) (hres _ _ _), hvars _ (fun _ _ => rfl), rfl, ?_, ?_⟩, ?_⟩
    · intro b off hp
      have hin : MemPlace.cell b off ∈ before := by rw [hps]; simpa using hp
      rw [hb.frozen (hlt _ hin)]
      exact hz b off hin
    · intro ha
      have := hn ha
      rw [hps] at this
      simpa using this
    · intro p hp _
      rw [hps]
      simpa using hp
end
end AG

/- A slice of bytes that came in. -/
namespace Go.Proofs.YtolnlkccbndkcaaDoor
open Go.RowKit Go.ChangeShapes Go.WideShapes AG

theorem cells_u8 : Tryd.prog.cellsOf 5 = 1 := by kernel_rfl

theorem open_code {H : Type} {enc : TypeId × Value → H} {W : World} {A : Option Addr} {n c fuel : Nat} {x : DataW H × List MemPlace} (h : DataW.trod enc Tryd.prog W 0 (fun _ => true) true fuel 22 [.slice A n c] = some x) :
    n ≤ c ∧ c ≤ 9223372036854775807 ∧ CodeAt W A n := by
  rcases open_ints Tryd.underlying22 Tryd.underlying5 cells_u8 h with ⟨hcs, _⟩ | ⟨a, len, cap, zs, hcs, _, hl, hm, hz, _, hcell, hwf⟩
  · simp only [List.cons.injEq, Value.slice.injEq, and_true] at hcs
    obtain ⟨rfl, rfl, rfl⟩ := hcs
    exact ⟨Nat.le_refl _, by omega, fun h => by omega⟩
  · simp only [List.cons.injEq, Value.slice.injEq, and_true] at hcs
    obtain ⟨rfl, rfl, rfl⟩ := hcs
    unfold maxLen at hm
    simp only [if_true] at hz
    refine ⟨hl, by omega, fun hn => ?_⟩
    obtain ⟨b, o, sp⟩ := a
    have hsp : sp = none := by simpa [Addr.add] using World.cell?_spot (hcell 0 (by omega))
    subst hsp
    refine ⟨b, o, rfl, World.block_lt_of_cell? _ _ (by simpa [Addr.add] using hcell 0 (by omega)), fun i hi => ?_⟩
    have h1 := hcell i (by omega)
    rw [add_at] at h1
    have hmem : zs.getD i 0 ∈ zs := by
      have : i < zs.length := by omega
      rw [List.getD_eq_getElem?_getD, List.getElem?_eq_getElem this]
      exact List.getElem_mem _
    have h2 := hwf _ hmem
    have h3 : 0 ≤ zs.getD i 0 ∧ zs.getD i 0 < 256 := by
      have h4 : IntKind.u8.min ≤ zs.getD i 0 ∧ zs.getD i 0 ≤ IntKind.u8.max := by simpa [Lit.wf] using h2
      have e1 : IntKind.u8.min = 0 := by decide
      have e2 : IntKind.u8.max = 255 := by decide
      omega
    obtain ⟨y, hy⟩ := Int.eq_ofNat_of_zero_le h3.1
    rw [hy] at h1
    exact ⟨y, by omega, h1⟩

end Go.Proofs.YtolnlkccbndkcaaDoor

/- Closed facts on the whole program, each a lemma of its own: the rows of all laws of the seat use them. -/
namespace Go.Proofs.YtolnlkccbndkcaaDoor
open Go.ChangeShapes Go.WideShapes Go.ChangeAt Go.RowKit AG
theorem and2 {a b : Bool} (h : a = true) (k : b = true) : (a && b) = true := by rw [h, k]; rfl
theorem whLaid : laidOutB Tryd.prog = true := by kernel_rfl
theorem whRowed : mapsRowed Tryd.prog = true := by kernel_rfl
theorem whHeard : Tryd.prog.stopsHeard = true := by kernel_rfl
theorem whMay : Tryd.prog.mayEnter = true := by kernel_rfl
theorem whLift : Tryd.prog.liftsFinal = false := by kernel_rfl
theorem whMake : (Tryd.prog.make == some Rows.fnMinimizeRow.make) = true := by kernel_rfl
theorem whMain : Tryd.prog.mainIs = some (Rows.fnMinimizeCard.stood.harness.1, Rows.fnMinimizeCard.stood.harness.2.toList) := by kernel_rfl
theorem whLooks : false = Tryd.prog.looks [] := by kernel_rfl
end Go.Proofs.YtolnlkccbndkcaaDoor
