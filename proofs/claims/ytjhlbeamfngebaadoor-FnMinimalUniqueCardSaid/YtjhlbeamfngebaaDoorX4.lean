/- Lemmas, part 4: several texts in one. -/
import Derived.Test.YtjhlbeamfngebaaDoorX3
import Derived.Test.YtjhlbeamfngebaaDoorX1
import Derived.Test.YtjhlbeamfngebaaDoorX2
import Derived.Maps.Own
import Derived.Maps.OwnOps
import Derived.Maps.Range
import Derived.Maps.RangeWalk
import Derived.Maps.Views
import Derived.Deep.DeepCutAuto
import Derived.Test.YtjhlbeamfngebaaDoorProg
import Derived.WalkKit
set_option linter.unusedSimpArgs false
set_option linter.unusedVariables false

/- The program's TracesUpTo. -/
namespace Go.Proofs.YtjhlbeamfngebaaDoor
open Go.RowKit Go.BigFrame Go.Maps AG

theorem zeroInt (w : World) : (zeroValue 3).run Tryd.prog w = .ok (.int .i64 0) w := by kernel_rfl

/-- An entry of a map that is written out: as a store. -/
theorem wpList_insert_own {H : Type} {P : Program} (w : World) {ops : Array Oper} {rest : List Oper} {o : Oper} {a : Act} {Q : Exit → Act → World → Prop}
    (hg : o.guard = none) (m x v : Operand) (t : TypeId) (hop : o.op = Op.insert t m x v)
    (k e : TypeId) (K : Keyed P k) (ht : P.underlying t = some (.map k e)) (R : Value → Option (DataW H × List MemPlace)) (b n : Nat) (D : DataW H)
    (hm : a.eval m = .map (some b)) (hown : w.ownsMap P k R b n D) (hn : n < maxLen) (key val : Value) (kl : Lit) (hx : a.eval x = key) (hv : a.eval v = val) (hkey : keyOf P k key = some kl)
    (d : DataW H) (ps : List MemPlace) (hval : R val = some (d, ps))
    (hK : ∀ w', w'.ownsMap P k R b (n + 1) (D.put kl d) → w.grownBy w' (some b) → wpList P ops Q rest (a.put o.dst undef) w') :
    wpList P ops Q (o :: rest) a w := by
  refine wpList_plain hg fun K' hK' => ?_
  obtain ⟨w', hrun, r1, r2⟩ := hown.update K ht hn hkey hval
  unfold Oper.wp
  simp [execOp, hop, hm, hx, hv, hrun, Result.andThen]
  exact hK' _ _ (hK w' r1 r2)

/-- A map reads as a function: no entry, no number. -/
structure MapFn (D : DataW Unit) (v : Nat → Nat) : Prop where
  isMap : Maps.IsMap D
  at_ : ∀ T : Nat, D.atKey (.int .i64 (T : Int)) (.lit (.int .i64 0)) = .lit (.int .i64 ((v T : Nat) : Int))
  has : ∀ kl, Maps.has D kl = true → ∃ T : Nat, kl = .int .i64 (T : Int) ∧ 0 < v T ∧ T ≠ 0 ∧ T < 65536
  pos : ∀ T : Nat, 0 < v T → Maps.has D (.int .i64 (T : Int)) = true
theorem MapFn.empty : MapFn (.map []) (fun _ => 0) :=
  ⟨Maps.isMap_empty, fun T => Maps.atKey_of_not_has rfl _, fun kl h => (by cases h), fun T h => (by cases h)⟩
theorem key_ne {x T : Nat} (h : x ≠ T) : Lit.int .i64 (x : Int) ≠ Lit.int .i64 (T : Int) := fun e => by
  injection e with _ e
  exact h (by omega)
theorem MapFn.put {D : DataW Unit} {v : Nat → Nat} (h : MapFn D v) {T c : Nat} (hT : T ≠ 0) (hT2 : T < 65536) (hc : 0 < c) :
    MapFn (D.put (.int .i64 (T : Int)) (.lit (.int .i64 ((v T + c : Nat) : Int)))) (fun x => if x = T then v T + c else v x) := by
  refine ⟨h.isMap.put _ _, fun x => ?_, fun kl hk => ?_, fun x hx => ?_⟩
  · by_cases e : x = T
    · subst e
      rw [Maps.atKey_put_same h.isMap (show WideAt.IsKeyLit (Lit.int .i64 (x : Int)) from trivial), if_pos rfl]
    · rw [Maps.atKey_put_other (key_ne e), h.at_ x, if_neg e]
  · by_cases e : kl = .int .i64 (T : Int)
    · exact ⟨T, e, by rw [if_pos rfl]; omega, hT, hT2⟩
    · rw [Maps.has_put_other e] at hk
      obtain ⟨x, h1, h2, h3, h4⟩ := h.has kl hk
      have : x ≠ T := fun e' => e (by rw [h1, e'])
      exact ⟨x, h1, by rw [if_neg this]; exact h2, h3, h4⟩
  · by_cases e : x = T
    · subst e
      exact Maps.has_put_same h.isMap (show WideAt.IsKeyLit (Lit.int .i64 (x : Int)) from trivial) _
    · rw [if_neg e] at hx
      rw [Maps.has_put_other (key_ne e)]
      exact h.pos x hx
theorem MapFn.congr {D : DataW Unit} {v v' : Nat → Nat} (h : MapFn D v) (e : ∀ T, v T = v' T) : MapFn D v' := by
  have : v = v' := funext e
  rw [← this]
  exact h
theorem grown_of_below {w w' : World} (hb : Below w.heap.size w w') : w.grownBy w' none := ⟨hb.os, hb.tape, hb.output, hb.size, fun i hi _ => hb.block i hi⟩

theorem wf64 {a : Int} (h1 : -9223372036854775808 ≤ a) (h2 : a ≤ 9223372036854775807) : (Lit.int .i64 a).wf = true := by
  unfold Lit.wf
  simp [IntKind.min, IntKind.max, IntKind.signed, IntKind.bits]
  omega

end Go.Proofs.YtjhlbeamfngebaaDoor

/- The program's numbered: what is reached is numbered in the order in which it is met. -/
namespace Go.Proofs.YtjhlbeamfngebaaDoor
open Go.RowKit Go.BigFrame Go.Maps AG

/-- Rows of numbers that are owned, each in a block of its own. -/
structure Fam3 (w : World) (base : Nat) (fs : List (Value × List Value)) : Prop where
  rows : ∀ f ∈ fs, w.ownsRow base 3 1 f.1 f.2.length f.2
  apart : fs.Pairwise fun f g => ∀ k, f.1.ownBlock = some k → g.1.ownBlock ≠ some k
theorem Fam3.keep {K : Nat → Prop} {w w' : World} {base : Nat} {fs : List (Value × List Value)} (h : Fam3 w base fs) (hk : KeepB K w w') (h2 : ∀ f ∈ fs, ∀ g, f.1.ownBlock = some g → ¬ K g) : Fam3 w' base fs :=
  ⟨fun f hf => own_keep (h.rows f hf) hk (h2 f hf), h.apart⟩
theorem Fam3.later {w w' : World} {base : Nat} {fs : List (Value × List Value)} (h : Fam3 w base fs) (hb : Below w.heap.size w w') : Fam3 w' base fs := h.keep (.of_below (K := fun _ => False) hb) fun _ _ _ _ h => h
theorem Fam3.app {w w1 : World} {base : Nat} {l1 l2 : List (Value × List Value)} {f : Value × List Value} {v' : Value} {ys' : List Value} {o : Obj} (h : Fam3 w base (l1 ++ f :: l2)) (hg : (w.alloc o).grownBy w1 f.1.ownBlock)
    (ho : w1.ownsRow base 3 1 v' ys'.length ys') (hat : v'.ownBlock = f.1.ownBlock ∨ v'.ownBlock = some (w.alloc o).heap.size) : Fam3 w1 base (l1 ++ (v', ys') :: l2) := by
  obtain ⟨h2, h3⟩ := h
  rw [List.pairwise_append, List.pairwise_cons] at h3
  have hkA : KeepB (fun b => f.1.ownBlock = some b) w w1 := ((KeepB.refl _ w).alloc o).grown hg fun k hk _ => hk
  have hlt : ∀ y ∈ l1 ++ f :: l2, ∀ g, y.1.ownBlock = some g → g < w.heap.size := fun y hy g e => ((h2 y hy).lt g e).2
  have hsz : w.heap.size < (w.alloc o).heap.size := by simp
  refine ⟨fun y hy => ?_, ?_⟩
  · rw [List.mem_append, List.mem_cons] at hy
    rcases hy with hy | rfl | hy
    · exact own_keep (h2 y (by simp [hy])) hkA fun g hg e => h3.2.2 y hy f List.mem_cons_self g hg e
    · exact ho
    · exact own_keep (h2 y (by simp [hy])) hkA fun g hg e => h3.2.1.1 y hy g e hg
  · rw [List.pairwise_append, List.pairwise_cons]
    refine ⟨h3.1, ⟨fun y hy k e e' => ?_, h3.2.1.2⟩, fun a ha b hb k e e' => ?_⟩
    · have := hlt y (by simp [hy]) k e'
      rcases hat with h | h
      · exact h3.2.1.1 y hy k (by rw [← h]; exact e) e'
      · rw [h] at e; injection e with e; omega
    · have := hlt a (by simp [ha]) k e
      rcases List.mem_cons.1 hb with rfl | hb
      · rcases hat with h | h
        · exact h3.2.2 a ha f List.mem_cons_self k e (by rw [← h]; exact e')
        · rw [h] at e'; injection e' with e'; omega
      · exact h3.2.2 a ha b (List.mem_cons_of_mem _ hb) k e e'
theorem Fam3.perm {w : World} {base : Nat} {fs gs : List (Value × List Value)} (h : Fam3 w base fs) (hp : fs.Perm gs) : Fam3 w base gs :=
  ⟨fun f hf => h.rows f (hp.mem_iff.2 hf), (hp.pairwise_iff (fun {a b} h k e e' => h k e' e)).1 h.apart⟩
theorem Fam3.nil_ {w : World} {base : Nat} {f : Value × List Value} {fs : List (Value × List Value)} (h : Fam3 w base (f :: fs)) : Fam3 w base (f :: (.slice none 0 0, []) :: fs) := by
  obtain ⟨h2, h3⟩ := h
  rw [List.pairwise_cons] at h3
  refine ⟨fun y hy => ?_, ?_⟩
  · rw [List.mem_cons, List.mem_cons] at hy
    rcases hy with rfl | rfl | hy
    · exact h2 _ List.mem_cons_self
    · exact World.ownsRow_nil _ _ _ _
    · exact h2 y (List.mem_cons_of_mem _ hy)
  · rw [List.pairwise_cons, List.pairwise_cons]
    refine ⟨fun y hy k e e' => ?_, ⟨fun y hy k e => (by cases e), h3.2⟩⟩
    rcases List.mem_cons.1 hy with rfl | hy
    · cases e'
    · exact h3.1 y hy k e e'
def famOf (xs : List RowV) : List (Value × List Value) := xs.map fun x => (x.v, intVals x.r)
theorem intVals_len (xs : List Int) : (intVals xs).length = xs.length := by unfold intVals; simp
theorem natVals_len (ns : List Nat) : (natVals ns).length = ns.length := by unfold natVals; simp
theorem natVals_int (ns : List Nat) : intVals (ns.map fun (n : Nat) => (n : Int)) = natVals ns := by unfold intVals natVals; simp
/-- The current row becomes a row of the table. -/
theorem Fam3.into {w : World} {base : Nat} {f : Value × List Value} {A : Option Addr} {c : Nat} {row : List Nat} {xs : List RowV} (h : Fam3 w base (f :: (.slice A row.length c, natVals row) :: famOf xs)) : Fam3 w base (f :: famOf (xs ++ [⟨row.map fun (n : Nat) => (n : Int), A, c⟩])) := by
  refine h.perm ?_
  unfold famOf
  rw [List.map_append]
  refine List.Perm.cons _ ?_
  have e : ((.slice A row.length c, natVals row) : Value × List Value) = (RowV.v ⟨row.map fun (n : Nat) => (n : Int), A, c⟩, intVals (row.map fun (n : Nat) => (n : Int))) := by
    unfold RowV.v
    rw [natVals_int]
    simp
  rw [e]
  exact (List.perm_append_singleton _ _).symm
theorem Fam3.rowsOwn {w : World} {base : Nat} {f : Value × List Value} {xs : List RowV} {v : Value} (h : Fam3 w base (f :: famOf xs)) (ho : w.ownsRow base 72 1 v xs.length (rowVals xs)) : RowsOwn w base v xs := by
  refine ⟨ho, fun x hx => ?_, ?_⟩
  · have := h.rows (x.v, intVals x.r) (List.mem_cons_of_mem _ (List.mem_map.2 ⟨x, hx, rfl⟩))
    rwa [intVals_len] at this
  · have := h.apart
    rw [List.pairwise_cons] at this
    unfold famOf at this
    exact (List.pairwise_map.1 this.2)

theorem own_ne_map {w : World} {base : Nat} {e : TypeId} {size : Nat} {v : Value} {n m B : Nat} {xs : List Value} {k : TypeId} {R : Value → Option (DataW Unit × List MemPlace)} {D : DataW Unit} (h : w.ownsRow base e size v n xs) (hm : w.ownsMap Tryd.prog k R B m D) : ∀ g, v.ownBlock = some g → g ≠ B := by
  intro g hg hB
  rcases h.2 with ⟨rfl, _⟩ | ⟨g', cap, cur, rfl, _, hgg, _⟩
  · cases hg
  · cases hg
    obtain ⟨es, clock, hb, _⟩ := hm
    subst hB
    rw [hb] at hgg
    cases hgg

/-- A map that has the numbers of the nodes. -/
structure MapIx (D : DataW Unit) (ns : List Nat) : Prop where
  isMap : Maps.IsMap D
  has : ∀ T : Nat, Maps.has D (.int .i64 (T : Int)) = decide (T ∈ ns)
  at_ : ∀ T ∈ ns, D.atKey (.int .i64 (T : Int)) (.lit (.int .i64 0)) = .lit (.int .i64 ((ns.idxOf T : Nat) : Int))
theorem MapIx.empty : MapIx (.map []) [] := ⟨Maps.isMap_empty, fun T => by simp; rfl, fun T h => (by cases h)⟩
theorem MapIx.put {D : DataW Unit} {ns : List Nat} (h : MapIx D ns) {T : Nat} (hT : T ∉ ns) : MapIx (D.put (.int .i64 (T : Int)) (.lit (.int .i64 ((ns.length : Nat) : Int)))) (ns ++ [T]) := by
  refine ⟨h.isMap.put _ _, fun x => ?_, fun x hx => ?_⟩
  · by_cases e : x = T
    · subst e
      rw [Maps.has_put_same h.isMap (show WideAt.IsKeyLit (Lit.int .i64 (x : Int)) from trivial)]
      simp
    · rw [Maps.has_put_other (key_ne e), h.has x]
      simp [e]
  · by_cases e : x = T
    · subst e
      rw [Maps.atKey_put_same h.isMap (show WideAt.IsKeyLit (Lit.int .i64 (x : Int)) from trivial), List.idxOf_append, if_neg hT]
      simp
    · have hx' : x ∈ ns := by
        rcases List.mem_append.1 hx with h | h
        · exact h
        · exact absurd (List.mem_singleton.1 h) e
      rw [Maps.atKey_put_other (key_ne e), h.at_ x hx', idxOf_pre hx']

/-- A step of the numbering, as a function value. -/
structure NumOk (w : World) (P : Nat → Prop) (L : List Nat) (nx : Nat → Nat → Nat) (fN : FuncId) (capN : Array Value) : Prop where
  run : ∀ args w', (callFunc fN args).run Tryd.prog w' = .ok (.enter fN args) w'
  call : ∀ w' q l, Below w.heap.size w w' → P q → l ∈ L → Calls Tryd.prog fN (#[.int .i64 (q : Nat), .int .i64 (l : Nat)] ++ capN) w' fun e w'' => e = .returned (.int .i64 (nx q l : Nat)) ∧ Below w'.heap.size w' w''
  next : ∀ q l, P q → l ∈ L → P (nx q l)
  small : ∀ q, P q → q ≤ 4294967296

def numV (v1 v2 : Value) (b : Bool) : Value := .tuple #[v1, v2, .bool b]
def NumPost (w : World) (o : Option (List Nat × List (List Nat))) (e : Ending) (w' : World) : Prop :=
  Below w.heap.size w w' ∧ match o with
    | some x => ∃ v1 v2 xs, e = .returned (numV v1 v2 true) ∧ OwnNats w' w.heap.size v1 x.1 ∧ RowsOwn w' w.heap.size v2 xs ∧ xs.map (·.r) = toRows x.2
    | none => e = .returned (numV (.slice none 0 0) (.slice none 0 0) false)
theorem infoInts : (Tryd.prog.info? 72).map (fun i => (i.zero, i.size, i.bytes)) = some (some (.slice none 0 0), 1, 24) := by kernel_rfl
theorem mapLaw2 : Keyed Tryd.prog 3 := int_keyed Tryd.underlying3

/-- What the numbering holds in memory. -/
structure NumMem (w wr : World) (B : Nat) (ns : List Nat) (vR : Value) (xs : List RowV) (fs : List (Value × List Value)) (m : Nat) (D : DataW Unit) : Prop where
  below : Below w.heap.size w wr
  fam : Fam3 wr w.heap.size fs
  tab : wr.ownsRow w.heap.size 72 1 vR xs.length (rowVals xs)
  map_ : wr.ownsMap Tryd.prog 3 (plainElem Tryd.prog 3) B m D
  ix : MapIx D ns
  num : m ≤ ns.length
  geB : w.heap.size ≤ B
theorem NumMem.later {w wr w' : World} {B : Nat} {ns : List Nat} {vR : Value} {xs : List RowV} {fs : List (Value × List Value)} {m : Nat} {D : DataW Unit} (h : NumMem w wr B ns vR xs fs m D) (hb : Below wr.heap.size wr w') : NumMem w w' B ns vR xs fs m D :=
  ⟨h.below.trans (hb.mono h.below.size), h.fam.later hb, own_later_ h.tab hb, h.map_.kept (grown_of_below hb) (by simp), h.ix, h.num, h.geB⟩
/-- A row of numbers is appended to. -/
theorem NumMem.app {w wr w1 : World} {B : Nat} {ns : List Nat} {vR : Value} {xs : List RowV} {l1 l2 : List (Value × List Value)} {f : Value × List Value} {v' : Value} {ys' : List Value} {o : Obj} {m : Nat} {D : DataW Unit} (h : NumMem w wr B ns vR xs (l1 ++ f :: l2) m D) (hg : (wr.alloc o).grownBy w1 f.1.ownBlock)
    (ho : w1.ownsRow w.heap.size 3 1 v' ys'.length ys') (hat : v'.ownBlock = f.1.ownBlock ∨ v'.ownBlock = some (wr.alloc o).heap.size) : NumMem w w1 B ns vR xs (l1 ++ (v', ys') :: l2) m D := by
  have hf := h.fam.rows f (by simp)
  have hkA : KeepB (fun b => f.1.ownBlock = some b) wr w1 := ((KeepB.refl _ wr).alloc o).grown hg fun k hk _ => hk
  refine ⟨hkA.below h.below h.below.size fun b e => own_block hf b e, h.fam.app hg ho hat, own_keep h.tab hkA fun g hg e => own_ne_own h.tab hf (by decide) g g hg e rfl, (h.map_.alloc o).kept hg fun e => own_ne_map hf h.map_ B e.symm rfl, h.ix, h.num, h.geB⟩
/-- A node gets its number. -/
theorem NumMem.put {w wr w1 : World} {B : Nat} {ns : List Nat} {vR : Value} {xs : List RowV} {fs : List (Value × List Value)} {m : Nat} {D : DataW Unit} {T : Nat} (h : NumMem w wr B ns vR xs fs m D) (hT : T ∉ ns) (hm : w1.ownsMap Tryd.prog 3 (plainElem Tryd.prog 3) B (m + 1) (D.put (.int .i64 (T : Int)) (.lit (.int .i64 ((ns.length : Nat) : Int))))) (hg : wr.grownBy w1 (some B)) :
    NumMem w w1 B (ns ++ [T]) vR xs fs (m + 1) (D.put (.int .i64 (T : Int)) (.lit (.int .i64 ((ns.length : Nat) : Int)))) := by
  have hkA : KeepB (fun b => b = B) wr w1 := (KeepB.refl _ wr).grown hg fun k hk _ => by injection hk with hk; exact hk.symm
  refine ⟨hkA.below h.below h.below.size fun b e => by rw [e]; exact h.geB, h.fam.keep hkA fun f hf g hg e => own_ne_map (h.fam.rows f hf) h.map_ g hg e, own_keep h.tab hkA fun g hg e => own_ne_map h.tab h.map_ g hg e, hm, h.ix.put hT, ?_, h.geB⟩
  have := h.num
  rw [List.length_append, List.length_singleton]
  omega
/-- The row goes into the table. -/
theorem NumMem.row {w wr w1 : World} {B : Nat} {ns row : List Nat} {vR vR' : Value} {xs : List RowV} {f : Value × List Value} {A : Option Addr} {c m : Nat} {D : DataW Unit} {o : Obj} (h : NumMem w wr B ns vR xs (f :: (.slice A row.length c, natVals row) :: famOf xs) m D) (hg : (wr.alloc o).grownBy w1 vR.ownBlock)
    (ho : w1.ownsRow w.heap.size 72 1 vR' (xs.length + 1) (rowVals xs ++ [.slice A row.length c])) : NumMem w w1 B ns vR' (xs ++ [⟨row.map fun (n : Nat) => (n : Int), A, c⟩]) (f :: famOf (xs ++ [⟨row.map fun (n : Nat) => (n : Int), A, c⟩])) m D := by
  have hkA : KeepB (fun b => vR.ownBlock = some b) wr w1 := ((KeepB.refl _ wr).alloc o).grown hg fun k hk _ => hk
  refine ⟨hkA.below h.below h.below.size fun b e => own_block h.tab b e, ?_, ?_, (h.map_.alloc o).kept hg fun e => own_ne_map h.tab h.map_ B e.symm rfl, h.ix, h.num, h.geB⟩
  · exact (h.fam.keep hkA fun f hf g hg e => own_ne_own h.tab (h.fam.rows f hf) (by decide) g g e hg rfl).into
  · unfold rowVals at ho ⊢
    rw [List.length_append, List.map_append]
    unfold RowV.v at ho ⊢
    simpa using ho

end Go.Proofs.YtjhlbeamfngebaaDoor

/- The program's numbered: the walk. -/
namespace Go.Proofs.YtjhlbeamfngebaaDoor
open Go.RowKit Go.BigFrame Go.Maps AG

theorem NumMem.fs {w wr : World} {B : Nat} {ns : List Nat} {vR : Value} {xs : List RowV} {fs fs' : List (Value × List Value)} {m : Nat} {D : DataW Unit} (h : NumMem w wr B ns vR xs fs m D) (hf : Fam3 wr w.heap.size fs → Fam3 wr w.heap.size fs')   : NumMem w wr B ns vR xs fs' m D :=
  ⟨h.below, hf h.fam, h.tab, h.map_, h.ix, h.num, h.geB⟩
theorem NumMem.own {w wr : World} {B : Nat} {ns : List Nat} {vR : Value} {xs : List RowV} {fs : List (Value × List Value)} {m : Nat} {D : DataW Unit} {v : Value} {row : List Nat} (h : NumMem w wr B ns vR xs fs m D) (hf : (v, natVals row) ∈ fs) : wr.ownsRow w.heap.size 3 1 v row.length (natVals row) := by
  have := h.fam.rows _ hf
  rwa [natVals_len] at this
theorem numRes_ends {nx : Nat → Nat → Nat} {L : List Nat} {n0 i lim : Nat} (hj : ∀ j, j < i → j < (nsAt nx L n0 j).length) (hle : (nsAt nx L n0 i).length ≤ i) (hlim : (nsAt nx L n0 i).length ≤ lim) : numRes nx L n0 lim = some (nsAt nx L n0 i, rowsTo nx L n0 i) := by
  have h1 : (nsAt nx L n0 i).length = i := by
    rcases Nat.lt_or_ge (nsAt nx L n0 i).length i with h | h
    · have h2 := hj (nsAt nx L n0 i).length h
      obtain ⟨mm, hm⟩ := nsAt_pre nx L n0 (nsAt nx L n0 i).length (i - (nsAt nx L n0 i).length)
      rw [show (nsAt nx L n0 i).length + (i - (nsAt nx L n0 i).length) = i from by omega] at hm
      have := congrArg List.length hm
      rw [List.length_append] at this
      omega
    · omega
  rw [numRes_done h1 (by omega), rowsTo_all i hj, List.take_of_length_le (by omega)]

set_option maxRecDepth 100000 in
set_option maxHeartbeats 16000000 in
theorem numbered_any (w : World) (P : Nat → Prop) (L : List Nat) (nx : Nat → Nat → Nat) (fN : FuncId) (capN : Array Value) (n0 lim : Nat) (A : Option Addr) (c : Nat) (hN : NumOk w P L nx fN capN) (h0 : P n0) (hlim : 1 ≤ lim) (hlim' : lim ≤ 4096) (hL6 : L.length ≤ 6) (hlc : L.length ≤ c) (hcm : c ≤ 9223372036854775807) (hA : NatsAt w w.heap.size A L) :
    Calls Tryd.prog 167 #[.int .i64 (n0 : Nat), .slice A L.length c, .int .i64 (lim : Nat), .func (.func fN) #[] capN] w (NumPost w (numRes nx L n0 lim)) := by
  have hcf := hN.run
  have hmm := @run_makeMap Tryd.prog
  obtain ⟨i0, hi, hz0, hz1, hz2⟩ := info_parts infoInt
  obtain ⟨j0, hj0, hy0, hy1, hy2⟩ := info_parts infoInts
  have hn0 := hN.small n0 h0
  have hPall : Hid (∀ i, ∀ a ∈ nsAt nx L n0 i, P a) := hid (nsAt_all h0 fun a ha l hl => hN.next a l ha hl)
  replace hA := hid hA
  replace h0 := hid h0
  go_enter Tryd.func167, Tryd.ntmps167
  go_upto_region 2 with fail
  have hmade := World.ownsMap_made (H := Unit) (w.alloc (.cells #[.int .i64 (n0 : Nat)] 3)) Tryd.prog 3 (plainElem Tryd.prog 3)
  go_wp2_with (refine wpList_insert_own _ rfl _ _ _ 196 rfl 3 3 mapLaw2 Tryd.underlying196 (plainElem Tryd.prog 3) (w.heap.size + 1) 0 _ rfl (by simpa using hmade) (by unfold maxLen; omega) _ _ (.int .i64 (n0 : Int)) rfl rfl (keyOf_int_mk Tryd.underlying3 (wf64 (by omega) (by omega))) (.lit (.int .i64 0)) [] (plainElem_int Tryd.underlying3 (by decide)) ?_)
  intro w3 hown3 hgrow3
  obtain ⟨B, hB⟩ : ∃ B, B = w.heap.size + 1 := ⟨_, rfl⟩
  rw [← hB] at hown3 hgrow3
  have hst3 : Hid (NumMem w w3 B [n0] (.slice none 0 0) [] ((.slice (some ⟨w.heap.size, 0, none⟩) 1 1, natVals [n0]) :: famOf []) 1 ((DataW.map []).put (Lit.int IntKind.i64 (n0 : Int)) (DataW.lit (Lit.int IntKind.i64 0)))) := hid (by
    have hbl : Below w.heap.size w ((w.alloc (.cells #[.int .i64 (n0 : Nat)] 3)).alloc (.map #[] 0)) := ((Below.refl _ _).alloc (Nat.le_refl _) _).alloc (by simp) _
    have hk : KeepB (fun b => b = B) ((w.alloc (.cells #[.int .i64 (n0 : Nat)] 3)).alloc (.map #[] 0)) w3 := (KeepB.refl _ _).grown hgrow3 fun k hk _ => by injection hk with hk; exact hk.symm
    have ho1 : ((w.alloc (.cells #[.int .i64 (n0 : Nat)] 3)).alloc (.map #[] 0)).ownsRow w.heap.size 3 1 (.slice (some ⟨w.heap.size, 0, none⟩) 1 1) 1 (natVals [n0]) := by
      refine World.ownsRow.alloc ?_ _
      exact ⟨rfl, .inr ⟨w.heap.size, 1, #[.int .i64 (n0 : Nat)], rfl, Nat.le_refl _, heap_alloc_self _ _, Nat.le_refl _, by unfold maxLen; omega, rfl, rfl⟩⟩
    have ho3 := own_keep ho1 hk fun g hg e => by injection hg with hg; simp at hg; omega
    refine ⟨hk.below hbl (by simp; omega) fun b e => by omega, ⟨fun f hf => ?_, ?_⟩, World.ownsRow_nil _ _ _ _, hown3, MapIx.empty.put (T := n0) (by simp), by simp, by omega⟩
    · rw [show famOf [] = [] from rfl, List.mem_singleton] at hf
      subst hf
      exact ho3
    · rw [show famOf [] = [] from rfl]
      exact List.pairwise_singleton _ _)
  clear hown3 hgrow3 hmade
  subst hB
  go_wp2_with fail
  go_loopw [11, 13, 14] (fun vN vR iv wr => ∃ (i : Nat) (AN : Option Addr) (cN : Nat) (xs : List RowV) (m : Nat) (D : DataW Unit), vN = .slice AN (nsAt nx L n0 i).length cN ∧ iv = .int .i64 (i : Nat) ∧ NumMem w wr (w.heap.size + 1) (nsAt nx L n0 i) vR xs ((.slice AN (nsAt nx L n0 i).length cN, natVals (nsAt nx L n0 i)) :: famOf xs) m D ∧ xs.map (·.r) = toRows (rowsTo nx L n0 i) ∧ (∀ j, j < i → j < (nsAt nx L n0 j).length) ∧ (nsAt nx L n0 i).length ≤ lim) (fun _ _ iv _ => lim - (intOf iv).toNat)
  case atStart => exact ⟨0, _, _, [], 1, _, rfl, rfl, hst3.out, rfl, fun j hj => by omega, hlim⟩
  case round =>
    clear hst3
    obtain ⟨i, AN, cN, xs, m, D, rfl, rfl, hst, hxs, hjs, hle⟩ := hrel
    have hxl : xs.length = i := by
      have := congrArg List.length hxs
      rw [List.length_map, toRows_len, rowsTo_len] at this
      exact this
    have hil : i ≤ lim := by
      rcases Nat.eq_zero_or_pos i with h | h
      · omega
      · have h1 := hjs (i - 1) (by omega)
        obtain ⟨mm, hm⟩ := nsAt_pre nx L n0 (i - 1) 1
        rw [show i - 1 + 1 = i from by omega] at hm
        have := congrArg List.length hm
        rw [List.length_append] at this
        omega
    have hxl4 : xs.length ≤ 4096 := by omega
    replace hxl := hid hxl
    replace hjs := hid hjs
    replace hxs := hid hxs
    by_cases hlt : i < (nsAt nx L n0 i).length
    · obtain ⟨a, ha⟩ : ∃ a, Hid ((nsAt nx L n0 i)[i]? = some a) := ⟨_, hid (List.getElem?_eq_getElem hlt)⟩
      have hns := hid (NumSt.start hlt ha.out)
      have hPa : Hid (P a) := hid (hPall.out i a (List.mem_of_getElem? ha.out))
      have ha32 := hN.small a hPa.out
      obtain ⟨AR, cR, hvR, -, -⟩ := own_slice hst.tab
      subst hvR
      have hst0 := hid (hst.fs Fam3.nil_)
      replace hst := hid hst
      obtain ⟨n1, hn1⟩ : ∃ n1, Hid (n1 = nsAt nx L n0 i) := ⟨_, hid rfl⟩
      rw [← hn1.out] at hlt hle hns hst0 ⊢
      go_wp2_with fail
      go_loopw [11, 15, 34] (fun vN vW kv wr => ∃ (k : Nat) (ns row : List Nat) (AN : Option Addr) (cN : Nat) (AW : Option Addr) (cW m : Nat) (D : DataW Unit), vN = .slice AN ns.length cN ∧ vW = .slice AW row.length cW ∧ kv = .int .i64 (k : Nat) ∧ NumSt nx L n0 i k ns row a ∧ NumMem w wr (w.heap.size + 1) ns (.slice AR xs.length cR) xs ((.slice AN ns.length cN, natVals ns) :: (.slice AW row.length cW, natVals row) :: famOf xs) m D ∧ ns.length ≤ lim) (fun _ _ kv _ => L.length - (intOf kv).toNat)
      case atStart => exact ⟨0, n1, [], AN, cN, none, 0, m, D, rfl, rfl, rfl, hns.out, hst0.out, hle⟩
      case round =>
        clear hst0 hns
        obtain ⟨k, ns, row, AN2, cN2, AW, cW, m2, D2, rfl, rfl, rfl, hns, hst2, hle2⟩ := hrel
        have hk := hns.hk
        have hrl : row.length = k := by
          rw [hns.hrow, List.length_map, List.length_take]
          omega
        have hrl6 : row.length ≤ 6 := by omega
        replace hrl := hid hrl
        have hBm := hst2.below
        have hnum := hst2.num
        have hszm := hBm.size
        have hmap := hst2.map_
        by_cases hkl : k < L.length
        · have hLr := hA.out.later hBm
          obtain ⟨bL, oL, hAe, hbL, hcL⟩ := hLr (by omega)
          subst hAe
          have l0 := hcL k hkl
          have hail : i < ns.length := by
            have h1 := hlt
            rw [hn1.out] at h1
            obtain ⟨mm, hm⟩ := rowN_pre nx a (L.take k) (nsAt nx L n0 i)
            rw [hns.hns, hm, List.length_append]
            omega
          have hani : ns[i]'hail = a := by
            obtain ⟨mm, hm⟩ := rowN_pre nx a (L.take k) (nsAt nx L n0 i)
            have h1 : ns[i]? = some a := by
              rw [hns.hns, hm, List.getElem?_append_left hns.hi]
              exact hns.ha
            rw [List.getElem?_eq_getElem hail] at h1
            injection h1
          have hoN := hst2.own (v := .slice AN2 ns.length cN2) (row := ns) List.mem_cons_self
          obtain ⟨gN, capN', hve, -, -, -, -, hcN⟩ := own_shape hoN (by omega)
          injection hve with e1 e2 e3
          subst e1
          subst e3
          clear e2
          have a0 := hcN i _ (show (natVals ns)[i]? = some (.int .i64 (a : Nat)) from by unfold natVals; simp [hail, hani])
          obtain ⟨l, hl⟩ : ∃ l, Hid (l = L[k]) := ⟨_, hid rfl⟩
          have hlL : Hid (l ∈ L) := hid (by rw [hl.out]; exact List.getElem_mem _)
          rw [← hl.out] at l0
          have hnx := hns.next hkl
          have hfull := fun hx hlm => hns.full (lim := lim) hkl hx hlm (by omega)
          rw [← hl.out] at hnx hfull
          have hx32 := hN.small _ (hN.next a l hPa.out hlL.out)
          obtain ⟨x, hx⟩ : ∃ x, Hid (x = nx a l) := ⟨_, hid rfl⟩
          rw [← hx.out] at hnx hfull hx32
          have k1 : (0 : Int) ≤ (k : Int) ∧ (k : Int) < (L.length : Int) ∧ (0 : Int) ≤ (i : Int) ∧ (i : Int) < (ns.length : Int) := by omega
          have hkey : keyOf Tryd.prog 3 (.int .i64 (x : Int)) = some (.int .i64 (x : Int)) := keyOf_int_mk Tryd.underlying3 (wf64 (by omega) (by omega))
          replace hfull := hid hfull
          replace hnx := hid hnx
          replace hani := hid hani
          replace hcL := hid hcL
          replace hLr := hid hLr
          replace hcN := hid hcN
          replace hns := hid hns
          replace hoN := hid hoN
          replace hBm := hid hBm
          replace hst2 := hid hst2
          replace hmap := hid hmap
          go_wp2_with fail
          refine (hN.call wr a l hBm.out hPa.out hlL.out).mono ?_
          rintro e w4 ⟨rfl, hb4⟩
          rw [← hx.out]
          have hst4 := hst2.out.later hb4
          have hmap4 := hst4.map_
          have hz4 := hst4.below.size
          clear l0 a0 hb4
          by_cases hmem : x ∈ ns
          · have hhas : Maps.has D2 (.int .i64 (x : Int)) = true := by rw [hst4.ix.has x]; exact decide_eq_true hmem
            have hix := hid (hst4.ix.at_ x hmem)
            have hadd : Hid (addN ns x = ns) := hid (by unfold addN; rw [if_pos hmem])
            obtain ⟨q, hq⟩ : ∃ q, Hid (q = ns.idxOf x) := ⟨_, hid rfl⟩
            have hql : q < ns.length := by rw [hq.out]; exact List.idxOf_lt_length_iff.2 hmem
            rw [← hq.out] at hix
            rw [hadd.out, ← hq.out] at hnx
            have hoW := hid (hst4.own (v := .slice AW row.length cW) (row := row) (List.mem_cons_of_mem _ List.mem_cons_self))
            replace hmem := hid hmem
            replace hst4 := hid hst4
            go_wp2_with (first
              | (at_lookup; refine wpList_lookup_own_ok_int _ rfl _ _ 196 rfl 3 3 .i64 mapLaw2 Tryd.underlying196 Tryd.underlying3 (zeroInt _) (w.heap.size + 1) m2 D2 rfl hmap4 _ _ rfl hkey ?_; intro c' hat' hwc'; obtain rfl : c' = (q : Int) := (by have e := hat'.symm.trans hix.out; injection e with e; injection e); rw [hhas])
              | (at_builtin; refine wpList_append_own_at _ rfl _ _ 72 rfl w.heap.size 3 i0 (.int .i64 0) 1 8 Tryd.underlying72 hi hz0 hz1 hz2 rfl (by decide) _ _ _ rfl (hoW.out.alloc _) ⟨w4.heap.size, 0, none⟩ 1 1 [.int .i64 (q : Nat)] rfl rfl (cell_one_new _ _ _) (by intro u hu; simp at hu; subst hu; rfl) (by unfold maxLen; omega) (by omega) (by simp; omega) ?_; intro v5 w5 hO5 hg5 _ hat5; obtain ⟨Av5, cv5, ev5, -, -⟩ := own_slice hO5; subst ev5; replace hO5 := hid hO5; replace hg5 := hid hg5; replace hat5 := hid hat5))
            have hst5 := hid (hst4.out.app (l1 := [(.slice (some ⟨gN, 0, none⟩) ns.length cN2, natVals ns)]) (ys' := natVals (row ++ [q])) hg5.out (by rw [natVals_len, List.length_append]; have := hO5.out; unfold natVals at this ⊢; simpa using this) hat5.out)
            clear hmap4
            go_roundw
            case rel => exact ⟨k + 1, ns, row ++ [q], _, _, _, _, m2, D2, rfl, by rw [List.length_append]; rfl, by go_num, hnx.out, by have := hst5.out; rw [List.length_append]; exact this, hle2⟩
            case measure => simp [intOf]; omega
          · have hhas : Maps.has D2 (.int .i64 (x : Int)) = false := by rw [hst4.ix.has x]; exact decide_eq_false hmem
            by_cases hfl : ns.length = lim
            · have hres := hid (hfull.out hmem (by omega))
              have hfb : ((ns.length : Int) == (lim : Int)) = true := by simp; omega
              have hBf := hst4.below
              replace hmem := hid hmem
              replace hfl := hid hfl
              replace hst4 := hid hst4
              go_wp2_with (at_lookup; refine wpList_lookup_own_ok_int _ rfl _ _ 196 rfl 3 3 .i64 mapLaw2 Tryd.underlying196 Tryd.underlying3 (zeroInt _) (w.heap.size + 1) m2 D2 rfl hmap4 _ _ rfl hkey ?_; intro c' hat' hwc'; rw [hhas])
              refine bodyPost_ret (v := numV (.slice none 0 0) (.slice none 0 0) false) (by simp [results, Tryd.results167, go_sem, numV]) rfl ⟨hBf, ?_⟩
              rw [hres.out]
            · have hfb : ((ns.length : Int) == (lim : Int)) = false := by simp; omega
              have hadd : Hid (addN ns x = ns ++ [x]) := hid (by unfold addN; rw [if_neg hmem])
              have hidx : Hid ((ns ++ [x]).idxOf x = ns.length) := hid (by rw [List.idxOf_append, if_neg hmem]; simp)
              rw [hadd.out, hidx.out] at hnx
              replace hfl := hid hfl
              have hst4' := hid hst4
              have hmem' := hid hmem
              clear hst4 hmem
              go_wp2_with (first
                | (at_lookup; refine wpList_lookup_own_ok_int _ rfl _ _ 196 rfl 3 3 .i64 mapLaw2 Tryd.underlying196 Tryd.underlying3 (zeroInt _) (w.heap.size + 1) m2 D2 rfl hmap4 _ _ rfl hkey ?_; intro c' hat' hwc'; rw [hhas])
                | (at_mapUpdate; refine wpList_mapUpdate_own _ rfl _ _ _ 196 rfl 3 3 mapLaw2 Tryd.underlying196 _ (w.heap.size + 1) m2 D2 rfl hmap4 (by unfold maxLen; omega) _ _ _ rfl rfl hkey _ [] (plainElem_int Tryd.underlying3 (wf64 (by omega) (by omega))) ?_; intro w9 hown9 hgrow9; have hst9 := hst4'.out.put hmem'.out hown9 hgrow9; have hoN9 := hid (hst9.own (v := .slice (some ⟨gN, 0, none⟩) ns.length cN2) (row := ns) List.mem_cons_self); have hz9 := hst9.below.size; replace hst9 := hid hst9; clear hown9 hgrow9 hmap4)
                | (at_builtin; refine wpList_append_own_at _ rfl _ _ 72 rfl w.heap.size 3 i0 (.int .i64 0) 1 8 Tryd.underlying72 hi hz0 hz1 hz2 rfl (by decide) _ _ _ rfl (hoW.out.alloc _) ⟨w5.heap.size, 0, none⟩ 1 1 [.int .i64 (ns.length : Nat)] rfl rfl (cell_one_new _ _ _) (by intro u hu; simp at hu; subst hu; rfl) (by unfold maxLen; omega) (by omega) (by simp; omega) ?_; intro v6 w6 hO6 hg6 _ hat6; obtain ⟨Av6, cv6, ev6, -, -⟩ := own_slice hO6; subst ev6; replace hO6 := hid hO6; replace hg6 := hid hg6; replace hat6 := hid hat6)
                | (at_builtin; refine wpList_append_own_at _ rfl _ _ 72 rfl w.heap.size 3 i0 (.int .i64 0) 1 8 Tryd.underlying72 hi hz0 hz1 hz2 rfl (by decide) _ _ _ rfl (hoN9.out.alloc _) ⟨w9.heap.size, 0, none⟩ 1 1 [.int .i64 (x : Nat)] rfl rfl (cell_one_new _ _ _) (by intro u hu; simp at hu; subst hu; rfl) (by unfold maxLen; omega) (by omega) (by simp; omega) ?_; intro v5 w5 hO5 hg5 _ hat5; obtain ⟨Av5, cv5, ev5, -, -⟩ := own_slice hO5; subst ev5; replace hO5 := hid hO5; replace hg5 := hid hg5; replace hat5 := hid hat5; have hst5 := hst9.out.app (l1 := []) (ys' := natVals (ns ++ [x])) hg5.out (by rw [natVals_len, List.length_append]; have := hO5.out; unfold natVals at this ⊢; simpa using this) hat5.out; have hoW := hid (hst5.own (v := .slice AW row.length cW) (row := row) (List.mem_cons_of_mem _ List.mem_cons_self)); have hz5 := hst5.below.size; replace hst5 := hid hst5))
              have hst6 := hid (hst5.out.app (l1 := [(.slice Av5 (ns.length + 1) cv5, natVals (ns ++ [x]))]) (ys' := natVals (row ++ [ns.length])) hg6.out (by rw [natVals_len, List.length_append]; have := hO6.out; unfold natVals at this ⊢; simpa using this) hat6.out)
              go_roundw
              case rel => exact ⟨k + 1, ns ++ [x], row ++ [ns.length], _, _, _, _, m2 + 1, _, by rw [List.length_append]; rfl, by rw [List.length_append]; rfl, by go_num, hnx.out, by have := hst6.out; rw [List.length_append, List.length_append]; exact this, by rw [List.length_append, List.length_singleton]; have := hfl.out; omega⟩
              case measure => simp [intOf]; omega
        · obtain rfl : k = L.length := by omega
          obtain ⟨hd1, hd2⟩ := hns.done
          have hoR := hid hst2.tab
          have hgi : (nsAt nx L n0 i).getD i 0 = a := by rw [List.getD_eq_getElem?_getD, ha.out]; rfl
          have hxs2 : Hid ((xs ++ [(⟨row.map fun (n : Nat) => (n : Int), AW, cW⟩ : RowV)]).map (·.r) = toRows (rowsTo nx L n0 (i + 1))) := hid (by
            rw [List.map_append, hxs.out]
            unfold toRows
            rw [rowsTo, List.map_append, hgi, ← hd2]
            rfl)
          have hjs2 : Hid (∀ j, j < i + 1 → j < (nsAt nx L n0 j).length) := hid fun j hj => by
            by_cases e : j = i
            · subst e; exact hns.hi
            · exact hjs.out j (by omega)
          replace hd1 := hid hd1
          replace hd2 := hid hd2
          replace hgi := hid hgi
          replace hns := hid hns
          replace hBm := hid hBm
          replace hst2 := hid hst2
          replace hmap := hid hmap
          go_wp2_with (at_builtin; refine wpList_append_own_at _ rfl _ _ 23 rfl w.heap.size 72 j0 (.slice none 0 0) 1 24 Tryd.underlying23 hj0 hy0 hy1 hy2 rfl (by decide) _ _ _ rfl (hoR.out.alloc _) ⟨wr.heap.size, 0, none⟩ 1 1 [.slice AW row.length cW] rfl rfl (cell_one_new _ _ _) (by intro u hu; simp at hu; subst hu; rfl) (by unfold maxLen; omega) (by omega) (by simp; omega) ?_; intro v5 w5 hO5 hg5 _ hat5; obtain ⟨Av5, cv5, ev5, -, -⟩ := own_slice hO5; subst ev5; replace hO5 := hid hO5; replace hg5 := hid hg5; replace hat5 := hid hat5)
          have hst5 := hid (hst2.out.row hg5.out (by have := hO5.out; simpa using this))
          go_roundw
          case rel =>
            have h5 := hst5.out
            rw [hd1.out] at h5
            exact ⟨i + 1, _, _, _, _, _, by rw [hd1.out], by go_num, h5, hxs2.out, hjs2.out, by rw [← hd1.out]; exact hle2⟩
          case measure => simp [intOf]; omega
    · have hres := hid (numRes_ends hjs.out (by omega) hle)
      have hoN := hid (hst.own (v := .slice AN (nsAt nx L n0 i).length cN) (row := nsAt nx L n0 i) List.mem_cons_self)
      have hro := hid (hst.fam.rowsOwn hst.tab)
      have hBf := hst.below
      replace hst := hid hst
      go_wp2_with fail
      refine bodyPost_ret (v := numV _ _ true) (by simp [results, Tryd.results167, go_sem, numV]; exact ⟨rfl, rfl⟩) rfl ⟨hBf, ?_⟩
      rw [hres.out]
      exact ⟨_, _, xs, rfl, hoN.out, hro.out, hxs.out⟩

end Go.Proofs.YtjhlbeamfngebaaDoor

/- The program's ProjectSystem: its closure. -/
namespace Go.Proofs.YtjhlbeamfngebaaDoor
open Go.RowKit Go.BigFrame Go.Maps AG

/-- What is behind a projection. -/
def PrPost (w : World) (a : Au) (ok : Bool) (e : Ending) (w' : World) : Prop :=
  Below w.heap.size w w' ∧ ∃ v1 v2 xs, e = .returned (.tuple #[.agg #[.int .i64 a.al, v1, v2], .bool ok]) ∧ AuOwn w' w.heap.size v1 v2 a xs
theorem AuOwn.nil (w : World) (base : Nat) : AuOwn w base (.slice none 0 0) (.slice none 0 0) auNil [] :=
  ⟨⟨World.ownsRow_nil _ _ _ _, fun x hx => (by cases hx), List.Pairwise.nil⟩, rfl, World.ownsRow_nil _ _ _ _⟩
theorem AuOwn.setFar {w : World} {base : Nat} {v1 v2 : Value} {a : Au} {xs : List RowV} (h : AuOwn w base v1 v2 a xs) {g i : Nat} (hg : g < base) (v : Value) : AuOwn (w.setCell ⟨g, i, none⟩ v) base v1 v2 a xs := by
  have hk : KeepB (fun b => b = g) w (w.setCell ⟨g, i, none⟩ v) := (KeepB.refl _ w).setCell _ _ fun _ => rfl
  exact ⟨h.rows.keep hk (fun b hb e => by have := own_block h.rows.own b hb; omega) (fun x hx b hb e => by have := own_block (h.rows.rows x hx) b hb; omega), h.eq, own_keep h.acc hk fun b hb e => by have := own_block h.acc b hb; omega⟩

end Go.Proofs.YtjhlbeamfngebaaDoor

/- The program's ProjectSystem and Determinize. -/
namespace Go.Proofs.YtjhlbeamfngebaaDoor
open Go.RowKit Go.BigFrame Go.Maps AG

theorem infoBool : (Tryd.prog.info? 4).map (fun i => (i.zero, i.size, i.bytes)) = some (some (.bool false), 1, 1) := by kernel_rfl
end Go.Proofs.YtjhlbeamfngebaaDoor

/- The reference's SystemValid returns sysOk. -/
namespace Go.Proofs.YtjhlbeamfngebaaDoor
open Go.RowKit Go.BigFrame AG

attribute [local go_sem] Fam.below

end Go.Proofs.YtjhlbeamfngebaaDoor

/- The program's Determinize; the reference's l4In and l5Index; what l6Subsets holds in memory. -/
namespace Go.Proofs.YtjhlbeamfngebaaDoor
open Go.RowKit Go.BigFrame Go.Maps AG

set_option maxRecDepth 100000 in
set_option maxHeartbeats 1000000 in
theorem l4In_any (ns : List Nat) (x : Nat) (A : Option Addr) (c : Nat) (w : World) (hl : ns.length ≤ c) (hc : c ≤ 9223372036854775807) (hr : NatsAt w w.heap.size A ns) :
    Calls Tryd.prog 178 #[.slice A ns.length c, .int .i64 (x : Nat)] w fun e w' => e = .returned (.bool (decide (x ∈ ns))) ∧ w = w' := by
  replace hr := hid hr
  go_enter Tryd.func178, Tryd.ntmps178
  go_wp2_with fail
  go_loopw [5] (fun i wr => ∃ k : Nat, i = .int .i64 (k : Nat) ∧ k ≤ ns.length ∧ x ∉ ns.take k ∧ w = wr) (fun i _ => ns.length - (intOf i).toNat)
  case atStart => exact ⟨0, rfl, by omega, by simp, by first | rfl | trivial⟩
  case round =>
    obtain ⟨k, rfl, hk, hn, rfl⟩ := hrel
    by_cases hlt : k < ns.length
    · obtain ⟨b, o, hA, hB, hE⟩ := hr.out (by omega)
      subst hA
      have e0 := hE k hlt
      obtain ⟨y, hy⟩ : ∃ y, Hid (y = ns[k]) := ⟨_, hid rfl⟩
      rw [← hy.out] at e0
      have k1 : (0 : Int) ≤ (k : Int) ∧ (k : Int) < (ns.length : Int) := by omega
      replace hE := hid hE
      replace hn := hid hn
      by_cases hxy : y = x
      · have hq : ((y : Int) == (x : Int)) = true := by simp; omega
        have hin : Hid (x ∈ ns) := hid (by rw [← hxy, hy.out]; exact List.getElem_mem _)
        replace hxy := hid hxy
        go_wp2
        go_ret
        exact ⟨ret_bool (decide_eq_true hin.out).symm, by first | rfl | trivial⟩
      · have hq : ((y : Int) == (x : Int)) = false := by simp; omega
        replace hxy := hid hxy
        go_wp2
        go_roundw
        case rel =>
          refine ⟨k + 1, by go_num, by omega, ?_, by first | rfl | trivial⟩
          rw [List.take_succ_eq_append_getElem hlt, List.mem_append, List.mem_singleton, ← hy.out]
          rintro (h | h)
          · exact hn.out h
          · exact hxy.out h.symm
        case measure => simp [intOf]; omega
    · rw [List.take_of_length_le (by omega)] at hn
      replace hn := hid hn
      go_wp2
      go_ret
      exact ⟨ret_bool (decide_eq_false hn.out).symm, by first | rfl | trivial⟩

end Go.Proofs.YtjhlbeamfngebaaDoor

/- The reference's FirstTraceOutside. -/
namespace Go.Proofs.YtjhlbeamfngebaaDoor
open Go.RowKit Go.BigFrame AG

/-- What the search holds: seen pairs, their words. -/
structure Srch (s t : Sy) (B : Nat) (wr : World) (sv wv : Value) (ps : List (Nat × Nat)) (ws : List (List Nat)) (i k : Nat) : Prop where
  own1 : wr.ownsRow B 118 2 sv ps.length (pairCells ps)
  own2 : wr.ownsRow B 9 1 wv ws.length (ws.map fun r => Value.string (wordS r))
  ne : sv.ownBlock ≠ wv.ownBlock
  pb : PB s t (letters s.al) ps ws i k
  pre : ∀ j (hj : j < ps.length), j < i → ps[j].2 ≠ 0
  pos : 0 < ps.length

theorem PairsAt.later {w w' : World} {A : Option Addr} {ps : List (Nat × Nat)} (h : PairsAt w w.heap.size A ps) (hb : Below w.heap.size w w') : PairsAt w' w'.heap.size A ps := fun hl => by
  obtain ⟨b, o, hA, hb', hE⟩ := h hl
  exact ⟨b, o, hA, Nat.lt_of_lt_of_le hb' hb.size, fun i hi => by rw [hb.cell (by simpa using hb'), hb.cell (by simpa using hb')]; exact hE i hi⟩

theorem Blk.news {w : World} {g : Nat} {T : TypeId} {x : Value} (h : w.heap[g]? = some (.cells #[x] T (0, 0))) : ∀ j u, [x][j]? = some u → w.cell? ((⟨g, 0, none⟩ : Addr).add j) = some u := by
  intro j u hj
  match j, hj with
  | 0, hj =>
    simp at hj
    subst hj
    simp [Addr.add, World.cell?, h]

theorem Srch.later {s t : Sy} {B : Nat} {wr w' : World} {sv wv : Value} {ps : List (Nat × Nat)} {ws : List (List Nat)} {i k k' : Nat} (h : Srch s t B wr sv wv ps ws i k) (hb : Below wr.heap.size wr w') (hp : PB s t (letters s.al) ps ws i k') : Srch s t B w' sv wv ps ws i k' :=
  ⟨own_later h.own1 hb, own_later h.own2 hb, h.ne, hp, h.pre, h.pos⟩

theorem Srch.add {s t : Sy} {B : Nat} {wr w2 w8 w9 w10 w11 : World} {sv wv v9 v11 : Value} {ps : List (Nat × Nat)} {ws : List (List Nat)} {i k Z V l : Nat} {o1 : Obj} {S : ByteArray} (h : Srch s t B wr sv wv ps ws i k) (hB : Below B w2 wr) (hBs : B ≤ w2.heap.size)
    (hi : i < ps.length) (hi' : i < ws.length) (hk : k < (letters s.al).length) (hst : stepP s t ps[i] (letters s.al)[k] = (Z, V)) (hZ : Z ≠ 0) (hnew : (Z, V) ∉ ps) (hl : l = (letters s.al)[k]) (hS : S = wordS (l :: ws[i])) (h8 : Below wr.heap.size wr w8)
    (hO9 : w9.ownsRow B 118 2 v9 (ps.length + 1) (pairCells ps ++ [.int .i64 (Z : Nat), .int .i64 (V : Nat)])) (hg9 : (w8.alloc o1).grownBy w9 sv.ownBlock) (hat9 : v9.ownBlock = sv.ownBlock ∨ v9.ownBlock = some (w8.alloc o1).heap.size) (h10 : Below w9.heap.size w9 w10)
    (hO11 : w11.ownsRow B 9 1 v11 (ws.length + 1) (ws.map (fun r => Value.string (wordS r)) ++ [.string S])) (hg11 : w10.grownBy w11 wv.ownBlock) (hat11 : v11.ownBlock = wv.ownBlock ∨ v11.ownBlock = some w10.heap.size) :
    Srch s t B w11 v9 v11 (ps ++ [(Z, V)]) (ws ++ [l :: ws[i]]) i (k + 1) ∧ Below B w2 w11 := by
  have z8 := h8.size
  have z9 := hg9.size
  have z10 := h10.size
  have z11 := hg11.size
  simp only [World.size_alloc] at z9 hat9
  have hneW : v9.ownBlock ≠ wv.ownBlock := by
    rcases hat9 with e | e
    · rw [e]; exact h.ne
    · rw [e]
      intro e'
      have := (h.own2.lt _ e'.symm).2
      omega
  have hO1 : w11.ownsRow B 118 2 v9 (ps.length + 1) (pairCells ps ++ [.int .i64 (Z : Nat), .int .i64 (V : Nat)]) := (own_later hO9 h10).kept hg11 (.inr hneW)
  have hp := h.pb.add (letters_sorted _) hi hi' hk (by rw [hst]; exact hZ) (by rw [hst]; exact hnew)
  rw [hst, ← hl] at hp
  refine ⟨⟨?_, ?_, ?_, hp, ?_, by simp⟩, ?_⟩
  · have : (ps ++ [(Z, V)]).length = ps.length + 1 := by simp
    rw [this, pairCells_append]
    exact hO1
  · have : (ws ++ [l :: ws[i]]).length = ws.length + 1 := by simp
    rw [this, List.map_append, List.map_cons, List.map_nil, ← hS]
    exact hO11
  · intro e
    rcases hat11 with e' | e'
    · exact hneW (e.trans e')
    · have := (hO9.lt _ (e.trans e')).2
      omega
  · intro j hj hji
    have hj' : j < ps.length := by omega
    rw [List.getElem_append_left hj']
    exact h.pre j hj' hji
  · have b8 : Below B w2 (w8.alloc o1) := (hB.trans (h8.mono (Nat.le_trans hBs hB.size))).alloc (by have := hB.size; omega) _
    have b9 : Below B w2 w9 := b8.grown hg9 (by have := b8.size; omega) (fun k hk => (h.own1.lt k hk).1)
    have b10 : Below B w2 w10 := b9.trans (h10.mono (by have := b9.size; omega))
    exact b10.grown hg11 (by have := b10.size; omega) (fun k hk => (h.own2.lt k hk).1)

end Go.Proofs.YtjhlbeamfngebaaDoor

/- The reference's l6Subsets. -/
namespace Go.Proofs.YtjhlbeamfngebaaDoor
open Go.RowKit Go.BigFrame Go.Maps AG

/-- What l6Subsets holds in memory. -/
structure L6 (w2 wr : World) (gO : Nat) (al : Int) (vR : Value) (xs : List RowV) (vA : Value) (acs : List Bool) (fs : List (Value × List Value)) : Prop where
  below : Below w2.heap.size w2 wr
  ge : w2.heap.size ≤ gO
  fam : Fam3 wr w2.heap.size fs
  tab : wr.ownsRow w2.heap.size 72 1 vR xs.length (rowVals xs)
  acc : wr.ownsRow w2.heap.size 4 1 vA acs.length (boolVals acs)
  blk : Blk wr gO 26 #[.int .i64 al, vR, vA]
section
variable {w2 wr w1 w' : World} {gO : Nat} {al : Int} {vR vA : Value} {xs : List RowV} {acs : List Bool} {fs l1 l2 : List (Value × List Value)} {f : Value × List Value}
theorem L6.later (h : L6 w2 wr gO al vR xs vA acs fs) (hb : Below wr.heap.size wr w') : L6 w2 w' gO al vR xs vA acs fs :=
  ⟨h.below.trans (hb.mono h.below.size), h.ge, h.fam.later hb, own_later_ h.tab hb, own_later_ h.acc hb, h.blk.below hb h.blk.lt⟩
theorem L6.fs_ (h : L6 w2 wr gO al vR xs vA acs fs) {fs' : List (Value × List Value)} (hf : Fam3 wr w2.heap.size fs → Fam3 wr w2.heap.size fs') : L6 w2 wr gO al vR xs vA acs fs' := ⟨h.below, h.ge, hf h.fam, h.tab, h.acc, h.blk⟩
theorem L6.own {v : Value} {row : List Nat} (h : L6 w2 wr gO al vR xs vA acs fs) (hf : (v, natVals row) ∈ fs) : wr.ownsRow w2.heap.size 3 1 v row.length (natVals row) := by
  have := h.fam.rows _ hf
  rwa [natVals_len] at this
theorem L6.app {v' : Value} {ys' : List Value} {o : Obj} (h : L6 w2 wr gO al vR xs vA acs (l1 ++ f :: l2)) (hg : (wr.alloc o).grownBy w1 f.1.ownBlock)
    (ho : w1.ownsRow w2.heap.size 3 1 v' ys'.length ys') (hat : v'.ownBlock = f.1.ownBlock ∨ v'.ownBlock = some (wr.alloc o).heap.size) : L6 w2 w1 gO al vR xs vA acs (l1 ++ (v', ys') :: l2) := by
  have hf := h.fam.rows f (by simp)
  have hkA : KeepB (fun b => f.1.ownBlock = some b) wr w1 := ((KeepB.refl _ wr).alloc o).grown hg fun k hk _ => hk
  exact ⟨hkA.below h.below h.below.size fun b e => own_block hf b e, h.ge, h.fam.app hg ho hat, own_keep h.tab hkA fun g hg e => own_ne_own h.tab hf (by decide) g g hg e rfl, own_keep h.acc hkA fun g hg e => own_ne_own h.acc hf (by decide) g g hg e rfl, h.blk.keep hkA fun e => own_ne hf h.blk (by decide) _ e rfl⟩
/-- The row goes into the table. -/
theorem L6.row {row : List Nat} {vR' : Value} {A : Option Addr} {c : Nat} {o : Obj} (h : L6 w2 wr gO al vR xs vA acs (f :: (.slice A row.length c, natVals row) :: famOf xs)) (hg : (wr.alloc o).grownBy w1 vR.ownBlock)
    (ho : w1.ownsRow w2.heap.size 72 1 vR' (xs.length + 1) (rowVals xs ++ [.slice A row.length c])) : L6 w2 (w1.setCell ⟨gO, 1, none⟩ vR') gO al vR' (xs ++ [⟨row.map fun (n : Nat) => (n : Int), A, c⟩]) vA acs (f :: famOf (xs ++ [⟨row.map fun (n : Nat) => (n : Int), A, c⟩])) := by
  have hkA : KeepB (fun b => vR.ownBlock = some b) wr w1 := ((KeepB.refl _ wr).alloc o).grown hg fun k hk _ => hk
  have hblk1 : Blk w1 gO 26 #[.int .i64 al, vR, vA] := h.blk.keep hkA fun e => own_ne h.tab h.blk (by decide) _ e rfl
  have hkB : KeepB (fun b => b = gO) w1 (w1.setCell ⟨gO, 1, none⟩ vR') := (KeepB.refl _ w1).setCell _ _ fun _ => rfl
  have hb1 : Below w2.heap.size w2 w1 := hkA.below h.below h.below.size fun b e => own_block h.tab b e
  refine ⟨hkB.below hb1 hb1.size fun b e => by rw [e]; exact h.ge, h.ge, ?_, ?_, ?_, by simpa using hblk1.set_ 1 vR'⟩
  · have h1 := h.fam.keep hkA fun f hf g hg e => own_ne_own h.tab (h.fam.rows f hf) (by decide) g g e hg rfl
    exact (h1.keep hkB fun f hf g hg e => own_ne (h1.rows f hf) hblk1 (by decide) g hg e).into
  · have h2 : w1.ownsRow w2.heap.size 72 1 vR' (xs ++ [(⟨row.map fun (n : Nat) => (n : Int), A, c⟩ : RowV)]).length (rowVals (xs ++ [⟨row.map fun (n : Nat) => (n : Int), A, c⟩])) := by
      unfold rowVals at ho ⊢
      rw [List.length_append, List.map_append]
      unfold RowV.v at ho ⊢
      simpa using ho
    exact own_keep h2 hkB (own_ne h2 hblk1 (by decide))
  · have h3 := own_keep h.acc hkA fun g hg e => own_ne_own h.acc h.tab (by decide) g g hg e rfl
    exact own_keep h3 hkB (own_ne h3 hblk1 (by decide))
/-- Whether a node is accepting. -/
theorem L6.put {vA' : Value} {t : Bool} (h : L6 w2 wr gO al vR xs vA acs fs) (hg : wr.grownBy w1 vA.ownBlock)
    (ho : w1.ownsRow w2.heap.size 4 1 vA' (acs.length + 1) (boolVals acs ++ [.bool t])) : L6 w2 (w1.setCell ⟨gO, 2, none⟩ vA') gO al vR xs vA' (acs ++ [t]) fs := by
  have hkA : KeepB (fun b => vA.ownBlock = some b) wr w1 := (KeepB.refl _ wr).grown hg fun k hk _ => hk
  have hblk1 : Blk w1 gO 26 #[.int .i64 al, vR, vA] := h.blk.keep hkA fun e => own_ne h.acc h.blk (by decide) _ e rfl
  have hkB : KeepB (fun b => b = gO) w1 (w1.setCell ⟨gO, 2, none⟩ vA') := (KeepB.refl _ w1).setCell _ _ fun _ => rfl
  have hb1 : Below w2.heap.size w2 w1 := hkA.below h.below h.below.size fun b e => own_block h.acc b e
  refine ⟨hkB.below hb1 hb1.size fun b e => by rw [e]; exact h.ge, h.ge, ?_, ?_, ?_, by simpa using hblk1.set_ 2 vA'⟩
  · have h1 := h.fam.keep hkA fun f hf g hg e => own_ne_own h.acc (h.fam.rows f hf) (by decide) g g e hg rfl
    exact h1.keep hkB fun f hf g hg e => own_ne (h1.rows f hf) hblk1 (by decide) g hg e
  · have h3 := own_keep h.tab hkA fun g hg e => own_ne_own h.tab h.acc (by decide) g g hg e rfl
    exact own_keep h3 hkB (own_ne h3 hblk1 (by decide))
  · have h2 : w1.ownsRow w2.heap.size 4 1 vA' (acs ++ [t]).length (boolVals (acs ++ [t])) := by
      unfold boolVals at ho ⊢
      rw [List.length_append, List.map_append]
      exact ho
    exact own_keep h2 hkB (own_ne h2 hblk1 (by decide))
/-- A fresh empty row. -/
theorem Fam3.fresh {w : World} {base : Nat} {f : Value × List Value} {fs : List (Value × List Value)} (h : Fam3 w base (f :: fs)) (hb : base ≤ w.heap.size) : Fam3 (w.alloc (.cells #[] 3)) base (f :: (.slice (some ⟨w.heap.size, 0, none⟩) 0 0, []) :: fs) := by
  have hl := h.later ((Below.refl _ w).alloc (Nat.le_refl _) (.cells #[] 3))
  have hlt : ∀ y ∈ f :: fs, ∀ g, y.1.ownBlock = some g → g < w.heap.size := fun y hy g e => ((h.rows y hy).lt g e).2
  obtain ⟨h2, h3⟩ := hl
  rw [List.pairwise_cons] at h3
  refine ⟨fun y hy => ?_, ?_⟩
  · rw [List.mem_cons, List.mem_cons] at hy
    rcases hy with rfl | rfl | hy
    · exact h2 _ List.mem_cons_self
    · exact ⟨rfl, .inr ⟨w.heap.size, 0, #[], rfl, hb, heap_alloc_self _ _, Nat.le_refl _, Nat.zero_le _, rfl, rfl⟩⟩
    · exact h2 y (List.mem_cons_of_mem _ hy)
  · rw [List.pairwise_cons, List.pairwise_cons]
    refine ⟨fun y hy k e e' => ?_, ⟨fun y hy k e e' => ?_, h3.2⟩⟩
    · rcases List.mem_cons.1 hy with rfl | hy
      · have := hlt f List.mem_cons_self k e
        injection e' with e'
        simp at e'
        omega
      · exact h3.1 y hy k e e'
    · have := hlt y (List.mem_cons_of_mem _ hy) k e'
      injection e with e
      simp at e
      omega
theorem L6.fresh (h : L6 w2 wr gO al vR xs vA acs (f :: fs)) : L6 w2 (wr.alloc (.cells #[] 3)) gO al vR xs vA acs (f :: (.slice (some ⟨wr.heap.size, 0, none⟩) 0 0, []) :: fs) :=
  have hb : Below wr.heap.size wr (wr.alloc (.cells #[] 3)) := (Below.refl _ wr).alloc (Nat.le_refl _) _
  ⟨h.below.trans (hb.mono h.below.size), h.ge, h.fam.fresh h.below.size, own_later_ h.tab hb, own_later_ h.acc hb, h.blk.below hb h.blk.lt⟩
end
theorem OwnN.read {w : World} {B : Nat} {v : Value} {ns : List Nat} (h : w.ownsRow B 3 1 v ns.length (natVals ns)) : ∃ A c, v = .slice A ns.length c ∧ ns.length ≤ c ∧ c ≤ 9223372036854775807 ∧ NatsAt w w.heap.size A ns := OwnNats.read h

end Go.Proofs.YtjhlbeamfngebaaDoor

/- Copies of systems whose edges may be written; marks in systems. -/
namespace Go.Proofs.YtjhlbeamfngebaaDoor
open Go.RowKit Go.BigFrame AG

/-- The edges lie in a block that may be written. -/
def WrB (w : World) (A : Option Addr) (n : Nat) : Prop := ∀ b o, A = some ⟨b, o, none⟩ → o = 0 ∧ ∃ cs, Blk w b 77 cs ∧ n * 3 ≤ cs.size
theorem WrB.setFar {w : World} {n m : Nat} {A : Option Addr} (h : WrB w A n) (hf : FreshA m A) {g i : Nat} (v : Value) (hg : g < m) : WrB (w.setCell ⟨g, i, none⟩ v) A n := fun b o hA => by
  obtain ⟨h1, cs, h2, h3⟩ := h b o hA
  have := hf b o hA
  exact ⟨h1, cs, (Below.heap_setCell w ⟨g, i, none⟩ v b (by simp; omega)).trans h2, h3⟩
theorem WrB.later {w w' : World} {A : Option Addr} {n : Nat} (h : WrB w A n) (hb : Below w.heap.size w w') : WrB w' A n := fun b o hA => by
  obtain ⟨h1, cs, h2, h3⟩ := h b o hA
  exact ⟨h1, cs, h2.below hb h2.lt, h3⟩
end Go.Proofs.YtjhlbeamfngebaaDoor

/- The laws FnExactDeterminize, FnExactProjectSystem return true. -/
namespace Go.Proofs.YtjhlbeamfngebaaDoor
open Go.RowKit Go.BigFrame Go.Maps AG

theorem AuOwn.read {w : World} {base : Nat} {A B : Option Addr} {a : Au} {c d : Nat} {xs : List RowV} (h : AuOwn w base (.slice A a.nx.length c) (.slice B a.ac.length d) a xs) : AuAt w A c B d a := by
  obtain ⟨A', c', B', d', e1, e2, hat⟩ := h.at_
  cases e1
  cases e2
  exact hat



end Go.Proofs.YtjhlbeamfngebaaDoor

/- The program's AutomatonValid. -/
namespace Go.Proofs.YtjhlbeamfngebaaDoor
open Go.RowKit Go.BigFrame AG

def rowOk (L n : Nat) (r : List Int) : Prop := r.length = L ∧ ∀ q ∈ r, 0 ≤ q ∧ q < (n : Int)
theorem auOk_iff (a : Au) : auOk a = true ↔ alphaOk a.al = true ∧ 1 ≤ a.nx.length ∧ a.nx.length ≤ 12 ∧ a.ac.length = a.nx.length ∧ ∀ r ∈ a.nx, rowOk (letters a.al).length a.nx.length r := by
  unfold auOk rowOk
  rw [decide_eq_true_eq]
theorem auOk_no {a : Au} (h : ¬ (alphaOk a.al = true ∧ 1 ≤ a.nx.length ∧ a.nx.length ≤ 12 ∧ a.ac.length = a.nx.length ∧ ∀ r ∈ a.nx, rowOk (letters a.al).length a.nx.length r)) : auOk a = false := by
  rw [← Bool.not_eq_true, auOk_iff]
  exact h

set_option maxRecDepth 100000 in
set_option maxHeartbeats 4000000 in
theorem implAutomatonValid_any (a : Au) (A B : Option Addr) (c d : Nat) (w : World) (ha : AuAt w A c B d a) :
    Calls Tryd.prog 50 #[a.val A c B d] w fun e w' => e = .returned (.bool (auOk a)) ∧ Below w.heap.size w w' := by
  obtain ⟨cl, cm, dl, dm, hrows, -⟩ := ha
  unfold AG.Au.val
  obtain ⟨w0, hw0, hz0, hB0, hS⟩ := boxed w #[Value.int IntKind.i64 a.al, Value.slice A a.nx.length c, Value.slice B a.ac.length d] 26
  have hr0 := hid (hrows.later hB0)
  have p0 := hS 0 _ rfl _ (Below.refl _ _)
  have p1 := hS 1 _ rfl _ (Below.refl _ _)
  have p2 := hS 2 _ rfl _ (Below.refl _ _)
  replace hrows := hid hrows
  go_enter Tryd.func50, Tryd.ntmps50
  go_wp2_with fail
  refine (isAlphabet_any a.al w0).mono ?_
  rintro e w1 ⟨rfl, rfl⟩
  cases hal : alphaOk a.al
  case false =>
    have hno := hid (auOk_no (a := a) (by rw [hal]; simp))
    replace hal := hid hal
    go_wp2
    go_ret
    exact ⟨ret_bool (by rw [hno.out]), hB0⟩
  case true =>
  have hal' := hid hal
  clear hal
  by_cases hn1 : 1 ≤ a.nx.length
  case neg =>
    have hno := hid (auOk_no (a := a) (by omega))
    have ht : ((a.nx.length : Int) < 1) := by omega
    go_wp2
    go_ret
    exact ⟨ret_bool (by rw [hno.out]), hB0⟩
  by_cases hn2 : a.nx.length ≤ 12
  case neg =>
    have hno := hid (auOk_no (a := a) (by omega))
    have ht : ¬ ((a.nx.length : Int) < 1) := by omega
    have ht2 : ((12 : Int) < (a.nx.length : Int)) := by omega
    go_wp2
    go_ret
    exact ⟨ret_bool (by rw [hno.out]), hB0⟩
  have ht : ¬ ((a.nx.length : Int) < 1) := by omega
  have ht2 : ¬ ((12 : Int) < (a.nx.length : Int)) := by omega
  by_cases hn3 : a.ac.length = a.nx.length
  case neg =>
    have hno := hid (auOk_no (a := a) (fun h => hn3 h.2.2.2.1))
    have ht3 : ((a.ac.length : Int) != (a.nx.length : Int)) = true := by simp; omega
    replace hn3 := hid hn3
    go_wp2
    go_ret
    exact ⟨ret_bool (by rw [hno.out]), hB0⟩
  have ht3 : ((a.ac.length : Int) != (a.nx.length : Int)) = false := by simp; omega
  replace hn3 := hid hn3
  go_wp2_with fail
  refine (lettersOf_any a.al w0).mono ?_
  rintro e w2 ⟨lv, rfl, hown2, hb2⟩
  obtain ⟨AL, cL, rfl, hcL, hcL'⟩ := own_slice hown2
  have hB2 := hB0.trans (hb2.mono hB0.size)
  have hC2 := hb2.mono hz0
  have hz2 := hb2.size
  have hr2 := hid (hr0.out.later hb2)
  clear p0 p1 p2 hown2
  have p1 := hS 1 _ rfl _ hC2
  obtain ⟨L, hL⟩ : ∃ L, Hid (L = (letters a.al).length) := ⟨_, hid rfl⟩
  rw [← hL.out] at hcL ⊢
  have hL6 : L ≤ 6 := by rw [hL.out]; exact lettersTo_len a.al 6
  go_wp2_with fail
  clear p1
  go_loopw [40] (fun iv wr => ∃ i : Nat, iv = .int .i64 (i : Nat) ∧ i ≤ a.nx.length ∧ (∀ r ∈ a.nx.take i, rowOk L a.nx.length r) ∧ Below w2.heap.size w2 wr) (fun iv _ => a.nx.length - (intOf iv).toNat)
  case atStart => exact ⟨0, rfl, by omega, by simp, Below.refl _ _⟩
  case round =>
    obtain ⟨i, rfl, hi, hok, hb⟩ := hrel
    have hBr := hB2.trans (hb.mono hB2.size)
    by_cases hlt : i < a.nx.length
    · obtain ⟨b, o, hA, hbB, hE⟩ := hr2.out (by omega)
      subst hA
      obtain ⟨Ai, ci, e0, h1, h2, h3⟩ := hE i hlt
      rw [← hb.cell (by simpa using hbB)] at e0
      obtain ⟨r, hr⟩ : ∃ r, Hid (r = a.nx[i]) := ⟨_, hid rfl⟩
      rw [← hr.out] at e0 h1 h3
      have hmem : Hid (r ∈ a.nx) := hid (by rw [hr.out]; exact List.getElem_mem _)
      have k1 : (0 : Int) ≤ (i : Int) ∧ (i : Int) < (a.nx.length : Int) := by omega
      have h3' := hid h3
      replace hE := hid hE
      replace hok := hid hok
      clear h3
      by_cases hrl : r.length = L
      case neg =>
        have hno := hid (auOk_no (a := a) (fun h => hrl (by rw [hL.out]; exact (h.2.2.2.2 r hmem.out).1)))
        have hq : ((r.length : Int) != (L : Int)) = true := by simp; omega
        replace hrl := hid hrl
        go_wp2
        go_ret
        exact ⟨ret_bool (by rw [hno.out]), hBr⟩
      have hq : ((r.length : Int) != (L : Int)) = false := by simp; omega
      replace hrl := hid hrl
      go_wp2_with fail
      go_loopw [50] (fun jv wq => ∃ j : Nat, jv = .int .i64 (j : Nat) ∧ j ≤ r.length ∧ (∀ q ∈ r.take j, 0 ≤ q ∧ q < (a.nx.length : Int)) ∧ Below w2.heap.size w2 wq) (fun jv _ => r.length - (intOf jv).toNat)
      case atStart => exact ⟨0, rfl, by omega, by simp, hb⟩
      case round =>
        obtain ⟨j, rfl, hj, hin, hbq⟩ := hrel
        have hBq := hB2.trans (hbq.mono hB2.size)
        clear e0
        by_cases hjl : j < r.length
        · obtain ⟨bj, oj, hA, hbj, hcell⟩ := h3'.out (by omega)
          subst hA
          have c0 := hcell j hjl
          rw [← hbq.cell (by simpa using hbj)] at c0
          obtain ⟨q, hq'⟩ : ∃ q, Hid (q = r[j]) := ⟨_, hid rfl⟩
          rw [← hq'.out] at c0
          have hqm : Hid (q ∈ r) := hid (by rw [hq'.out]; exact List.getElem_mem _)
          have k2 : (0 : Int) ≤ (j : Int) ∧ (j : Int) < (r.length : Int) := by omega
          have p1 := hS 1 _ rfl _ (hC2.trans (hbq.mono (by omega)))
          replace hcell := hid hcell
          replace hin := hid hin
          by_cases hqn : 0 ≤ q ∧ q < (a.nx.length : Int)
          · have hq1 : ¬ (q < 0) := by omega
            have hq2 : ¬ ((a.nx.length : Int) ≤ q) := by omega
            go_wp2
            go_roundw
            case rel =>
              refine ⟨j + 1, by go_num, by omega, fun y hy => ?_, hbq⟩
              rw [List.take_succ_eq_append_getElem hjl, List.mem_append, List.mem_singleton, ← hq'.out] at hy
              rcases hy with hy | rfl
              · exact hin.out y hy
              · exact hqn
            case measure => simp [intOf]; omega
          · have hno := hid (auOk_no (a := a) (fun h => hqn ((h.2.2.2.2 r hmem.out).2 q hqm.out)))
            by_cases hq1 : q < 0
            · go_wp2
              go_ret
              exact ⟨ret_bool (by rw [hno.out]), hBq⟩
            · have hq2 : ((a.nx.length : Int) ≤ q) := by omega
              go_wp2
              go_ret
              exact ⟨ret_bool (by rw [hno.out]), hBq⟩
        · obtain rfl : j = r.length := by omega
          rw [List.take_length] at hin
          replace hin := hid hin
          go_wp2
          go_roundw
          case rel =>
            refine ⟨i + 1, by go_num, by omega, fun y hy => ?_, hbq⟩
            rw [List.take_succ_eq_append_getElem hlt, List.mem_append, List.mem_singleton, ← hr.out] at hy
            rcases hy with hy | rfl
            · exact hok.out y hy
            · exact ⟨hrl.out, hin.out⟩
          case measure => simp [intOf]; omega
    · rw [List.take_of_length_le (by omega)] at hok
      have hyes := hid ((auOk_iff a).2 ⟨hal'.out, hn1, hn2, hn3.out, by rw [← hL.out]; exact hok⟩)
      replace hok := hid hok
      go_wp2
      go_ret
      exact ⟨ret_bool (by rw [hyes.out]), hBr⟩

end Go.Proofs.YtjhlbeamfngebaaDoor

/- The program's tableOf. -/
namespace Go.Proofs.YtjhlbeamfngebaaDoor
open Go.RowKit Go.BigFrame AG

/-- The table of an automaton: where each letter leads from each of n states. -/
def TabA (w : World) (g n : Nat) (a : Au) : Prop := g < w.heap.size ∧ ∀ q l, q < n → l < 6 → w.cell? ⟨g, q * 6 + l, none⟩ = some (.int .i64 (goA a q l : Nat))
theorem TabA.later {w w' : World} {g n : Nat} {a : Au} (h : TabA w g n a) (hb : Below w.heap.size w w') : TabA w' g n a := ⟨Nat.lt_of_lt_of_le h.1 hb.size, fun q l h1 h2 => by rw [hb.cell (by simpa using h.1)]; exact h.2 q l h1 h2⟩
/-- Every row has as many entries as there are letters, and they are no negative numbers. -/
def tabOk (a : Au) : Prop := ∀ r ∈ a.nx, r.length = (letters a.al).length ∧ ∀ q ∈ r, 0 ≤ q
theorem tabOk_of {a : Au} (h : auOk a = true) : tabOk a := fun r hr => by
  have := ((auOk_iff a).1 h).2.2.2.2 r hr
  exact ⟨this.1, fun q hq => (this.2 q hq).1⟩
/-- .. when i letters of the row have been entered. -/
def goK (a : Au) (q i l : Nat) : Int := if l ∈ (letters a.al).take i then (a.nx.getD q []).getD ((letters a.al).idxOf l) 0 else (q : Int)
theorem goK_done {a : Au} (h : tabOk a) {q l : Nat} (hq : q < a.nx.length) : goK a q (letters a.al).length l = ((goA a q l : Nat) : Int) := by
  unfold goK goA
  rw [List.take_length]
  split
  · rename_i hl
    have hg : a.nx.getD q [] = a.nx[q] := by rw [List.getD_eq_getElem?_getD, List.getElem?_eq_getElem hq]; rfl
    obtain ⟨h1, h2⟩ := h a.nx[q] (List.getElem_mem _)
    have hk : (letters a.al).idxOf l < (a.nx[q]).length := by rw [h1]; exact List.idxOf_lt_length_iff.2 hl
    rw [hg]
    have : (a.nx[q]).getD ((letters a.al).idxOf l) 0 = (a.nx[q])[(letters a.al).idxOf l] := by rw [List.getD_eq_getElem?_getD, List.getElem?_eq_getElem hk]; rfl
    rw [this, Int.toNat_of_nonneg (h2 _ (List.getElem_mem _))]
  · rfl
theorem goK_next {a : Au} {q i l : Nat} (hi : i < (letters a.al).length) : goK a q (i + 1) l = if l = (letters a.al)[i] then (a.nx.getD q []).getD i 0 else goK a q i l := by
  unfold goK
  rw [List.take_succ_eq_append_getElem hi]
  by_cases e : l = (letters a.al)[i]
  · have hx : (letters a.al).idxOf l = i := by
      rw [e]
      exact (show (letters a.al).Nodup from (letters_sorted a.al).imp fun h => Nat.ne_of_lt h).idxOf_getElem i hi
    rw [if_pos e, if_pos (by rw [e]; exact List.mem_append_right _ (List.mem_singleton.2 rfl)), hx]
  · rw [if_neg e]
    by_cases hm : l ∈ (letters a.al).take i
    · rw [if_pos hm, if_pos (List.mem_append_left _ hm)]
    · rw [if_neg hm, if_neg]
      rw [List.mem_append, List.mem_singleton]
      rintro (h | h)
      · exact hm h
      · exact e h
/-- The cells of the table: q rows are done, of the next one those that f says. -/
structure TabSt (cs : Array Value) (n : Nat) (a : Au) (q : Nat) (f : Nat → Option Int) : Prop where
  size : cs.size = n * 6
  rows : ∀ p l, p < q → l < 6 → cs[p * 6 + l]? = some (.int .i64 (goA a p l : Nat))
  row : ∀ l v, l < 6 → f l = some v → cs[q * 6 + l]? = some (.int .i64 v)
theorem TabSt.set_ {cs : Array Value} {n : Nat} {a : Au} {q l : Nat} {f f' : Nat → Option Int} {v : Int} (h : TabSt cs n a q f) (hq : q < n) (hl : l < 6) (hf : ∀ k, k ≠ l → f' k = f k) (hv : f' l = some v) : TabSt (cs.setIfInBounds (q * 6 + l) (.int .i64 v)) n a q f' := by
  refine ⟨by simpa using h.size, fun p k hp hk => ?_, fun k u hk hu => ?_⟩
  · rw [Array.getElem?_setIfInBounds_ne (by omega)]
    exact h.rows p k hp hk
  · by_cases e : k = l
    · subst e
      rw [hv] at hu
      injection hu with hu
      subst hu
      rw [Array.getElem?_setIfInBounds_self_of_lt (by rw [h.size]; omega)]
    · rw [Array.getElem?_setIfInBounds_ne (by omega)]
      exact h.row k u hk (by rw [← hf k e]; exact hu)
theorem TabSt.over {cs : Array Value} {n : Nat} {a : Au} {q : Nat} (h : TabSt cs n a q (fun l => some (goK a q (letters a.al).length l))) (ht : tabOk a) (hq : q < a.nx.length) : TabSt cs n a (q + 1) (fun _ => none) := by
  refine ⟨h.size, fun p l hp hl => ?_, fun l v _ hv => by cases hv⟩
  by_cases e : p = q
  · subst e
    rw [h.row l _ hl rfl, goK_done ht hq]
  · exact h.rows p l (by omega) hl

theorem infoSix : (Tryd.prog.info? 116).map (fun i => (i.zero, i.size, i.bytes)) = some (some (.agg #[.int .i64 0, .int .i64 0, .int .i64 0, .int .i64 0, .int .i64 0, .int .i64 0]), 6, 48) := by kernel_rfl

set_option maxRecDepth 100000 in
set_option maxHeartbeats 8000000 in
theorem tableOf_any (a : Au) (A B : Option Addr) (c d : Nat) (w : World) (hn : a.nx.length ≤ 4096) (ht : tabOk a) (ha : AuAt w A c B d a) :
    Calls Tryd.prog 163 #[a.val A c B d] w fun e w' => ∃ g, e = .returned (.slice (some ⟨g, 0, none⟩) a.nx.length a.nx.length) ∧ TabA w' g a.nx.length a ∧ Below w.heap.size w w' := by
  obtain ⟨cl, cm, dl, dm, hrows, -⟩ := ha
  unfold AG.Au.val
  obtain ⟨i0, hi, hz0', hz1, hz2⟩ := info_parts infoSix
  have hmk := fun W => run_make_rowN (P := Tryd.prog) 172 116 i0 _ Tryd.underlying172 hi hz0' .i64 .i64 a.nx.length a.nx.length (Nat.le_refl _) (by rw [hz2]; omega) (by omega) W
  rw [hz1] at hmk
  obtain ⟨w0, hw0, hz0, hB0, hS⟩ := boxed w #[Value.int IntKind.i64 a.al, Value.slice A a.nx.length c, Value.slice B a.ac.length d] 26
  have hr0 := hid (hrows.later hB0)
  have p0 := hS 0 _ rfl _ (Below.refl _ _)
  have p1 := hS 1 _ rfl _ (Below.refl _ _)
  replace hrows := hid hrows
  replace ht := hid ht
  clear hz1 hz0' hz2 hi
  go_enter Tryd.func163, Tryd.ntmps163
  go_upto_region 2 with fail
  obtain ⟨w1, hw1⟩ : ∃ w1, w0.alloc (.cells (madeCells #[Value.int IntKind.i64 0, Value.int IntKind.i64 0, Value.int IntKind.i64 0, Value.int IntKind.i64 0, Value.int IntKind.i64 0, Value.int IntKind.i64 0] (a.nx.length * 6)) 116) = w1 := ⟨_, rfl⟩
  have hblk1 : Blk w1 w0.heap.size 116 (madeCells #[Value.int IntKind.i64 0, Value.int IntKind.i64 0, Value.int IntKind.i64 0, Value.int IntKind.i64 0, Value.int IntKind.i64 0, Value.int IntKind.i64 0] (a.nx.length * 6)) := by rw [← hw1]; exact Blk.new _ _ _
  have hB1 : Below w0.heap.size w0 w1 := by rw [← hw1]; exact (Below.refl _ _).alloc (Nat.le_refl _) _
  have hst0 : Hid (TabSt (madeCells #[Value.int IntKind.i64 0, Value.int IntKind.i64 0, Value.int IntKind.i64 0, Value.int IntKind.i64 0, Value.int IntKind.i64 0, Value.int IntKind.i64 0] (a.nx.length * 6)) a.nx.length a 0 fun _ => none) := hid ⟨size_madeCells _ _, fun p l h => by omega, fun l v _ hv => by cases hv⟩
  rw [hw1]
  generalize madeCells #[Value.int IntKind.i64 0, Value.int IntKind.i64 0, Value.int IntKind.i64 0, Value.int IntKind.i64 0, Value.int IntKind.i64 0, Value.int IntKind.i64 0] (a.nx.length * 6) = cs0 at *
  clear p0 p1 hw1 hmk
  have hz1 := hB1.size
  have p0 := hS 0 _ rfl _ (hB1.mono hz0)
  have p1 := hS 1 _ rfl _ (hB1.mono hz0)
  have hw01 := hblk1.lt
  replace hblk1 := hid hblk1
  go_wp2_with fail
  refine (lettersOf_any a.al w1).mono ?_
  rintro e w2 ⟨lv, rfl, hown2, hb2⟩
  obtain ⟨AL, cL, rfl, hcL, hcL'⟩ := own_slice hown2
  have hB2 : Below w0.heap.size w0 w2 := hB1.trans (hb2.mono hz1)
  have hblk2 := hid (hblk1.out.below hb2 hblk1.out.lt)
  have hz2 := hb2.size
  clear p0 p1
  have p0 := hS 0 _ rfl _ (hB2.mono hz0)
  have p1 := hS 1 _ rfl _ (hB2.mono hz0)
  have hr2 := hid (hr0.out.later hB2)
  have hnat := hid hown2
  have hL6 := lettersTo_len a.al 6
  obtain ⟨L, hL⟩ : ∃ L, Hid (L = letters a.al) := ⟨_, hid rfl⟩
  have hL6' : L.length ≤ 6 := by rw [hL.out]; exact hL6
  rw [← hL.out] at hcL hnat ⊢
  clear hown2 hL6
  go_wp2_with fail
  clear p0 p1
  go_loopw [20] (fun iv wr => ∃ (q : Nat) (cs : Array Value), iv = .int .i64 (q : Nat) ∧ q ≤ a.nx.length ∧ Blk wr w0.heap.size 116 cs ∧ TabSt cs a.nx.length a q (fun _ => none) ∧ KeepB (fun b => b = w0.heap.size) w2 wr) (fun iv _ => a.nx.length - (intOf iv).toNat)
  case atStart => exact ⟨0, cs0, rfl, by omega, hblk2.out, hst0.out, KeepB.refl _ _⟩
  case round =>
    obtain ⟨q, cs, rfl, hq, hblk, hst, hkp⟩ := hrel
    by_cases hlt : q < a.nx.length
    · have hBr : Below w0.heap.size w0 wr := KeepB.below hB2 hkp hB2.size fun b e => by omega
      obtain ⟨b, o, hA, hbB, hE⟩ := hr0.out (by omega)
      subst hA
      obtain ⟨Ai, ci, e0, h1, h2, h3⟩ := hE q hlt
      rw [← hBr.cell (by simpa using hbB)] at e0
      obtain ⟨r, hr⟩ : ∃ r, Hid (r = a.nx[q]) := ⟨_, hid rfl⟩
      rw [← hr.out] at e0 h1 h3
      have hrl : Hid (r.length = L.length) := hid (by rw [hr.out, hL.out]; exact (ht.out _ (List.getElem_mem hlt)).1)
      have k1 : (0 : Int) ≤ (q : Int) ∧ (q : Int) < (a.nx.length : Int) := by omega
      have h3' := hid h3
      have hst1 : Hid (TabSt cs a.nx.length a q fun l => if l < 0 then some (q : Int) else none) := hid ⟨hst.size, hst.rows, fun l v _ hv => by simp at hv⟩
      replace hE := hid hE
      replace hst := hid hst
      have hblk' := hid hblk
      have hkp' := hid hkp
      clear h3 hblk hkp
      go_wp2_with fail
      clear e0
      go_loopw [25] (fun jv wq => ∃ (l : Nat) (cs : Array Value), jv = .int .i64 (l : Nat) ∧ l ≤ 6 ∧ Blk wq w0.heap.size 116 cs ∧ TabSt cs a.nx.length a q (fun k => if k < l then some (q : Int) else none) ∧ KeepB (fun b => b = w0.heap.size) w2 wq) (fun jv _ => 6 - (intOf jv).toNat)
      case atStart => exact ⟨0, cs, rfl, by omega, hblk'.out, hst1.out, hkp'.out⟩
      case round =>
        clear hblk' hkp' hst hst1
        obtain ⟨l, cs, rfl, hl, hblk, hst, hkp⟩ := hrel
        have hsz := hst.size
        by_cases hl6 : l < 6
        · obtain ⟨v0, d0⟩ := hblk.some_ (i := q * 6 + l) (by omega)
          have z0 := hblk.frozen (q * 6 + l)
          have k2 : (0 : Int) ≤ (l : Int) ∧ (l : Int) < 6 := by omega
          have hst2 := hid (hst.set_ (l := l) (v := (q : Int)) (f' := fun k => if k < l + 1 then some (q : Int) else none) hlt hl6 (fun k hk => by
            by_cases h : k < l
            · rw [if_pos h, if_pos (by omega)]
            · rw [if_neg h, if_neg (by omega)]) (by rw [if_pos (by omega)]))
          have hb2' := hid (hblk.set_ (q * 6 + l) (.int .i64 (q : Nat)))
          have hk2 := hid (hkp.setCell ⟨w0.heap.size, q * 6 + l, none⟩ (.int .i64 (q : Nat)) fun _ => rfl)
          replace hst := hid hst
          replace hblk := hid hblk
          go_wp2
          go_roundw
          case rel => exact ⟨l + 1, _, by go_num, by omega, hb2'.out, hst2.out, hk2.out⟩
          case measure => simp [intOf]; omega
        · obtain rfl : l = 6 := by omega
          have hst1 : Hid (TabSt cs a.nx.length a q fun l => some (goK a q 0 l)) := hid ⟨hst.size, hst.rows, fun l v hl hv => hst.row l v hl (by rw [if_pos hl]; unfold goK at hv; simpa using hv)⟩
          replace hst := hid hst
          have hblk' := hid hblk
          have hkp' := hid hkp
          clear hblk hkp
          go_wp2_with fail
          go_loopw [37] (fun jv wq => ∃ (j : Nat) (cs : Array Value), jv = .int .i64 (j : Nat) ∧ j ≤ L.length ∧ Blk wq w0.heap.size 116 cs ∧ TabSt cs a.nx.length a q (fun k => some (goK a q j k)) ∧ KeepB (fun b => b = w0.heap.size) w2 wq) (fun jv _ => L.length - (intOf jv).toNat)
          case atStart => exact ⟨0, cs, rfl, by omega, hblk'.out, hst1.out, hkp'.out⟩
          case round =>
            clear hblk' hkp' hst hst1
            obtain ⟨j, cs, rfl, hj, hblk, hst, hkp⟩ := hrel
            have hsz := hst.size
            by_cases hjl : j < L.length
            · have hBq : Below w0.heap.size w0 wr := KeepB.below hB2 hkp hB2.size fun b e => by omega
              have hnr := own_keep hnat.out hkp (fun g hg e => by have := own_block hnat.out g hg; omega)
              obtain ⟨gL, capL, hve, -, hgL, -, -, hcL2⟩ := own_shape hnr (by omega)
              injection hve with e1 e2 e3
              subst e1
              subst e3
              clear e2
              have l0 := hcL2 j _ (show (L.map fun (n : Nat) => Value.int .i64 (n : Int))[j]? = some (.int .i64 (L[j] : Nat)) from by simp [hjl])
              obtain ⟨l, hl⟩ : ∃ l, Hid (l = L[j]) := ⟨_, hid rfl⟩
              rw [← hl.out] at l0
              have hl6 : l < 6 := (letters_lt (A := a.al) (by rw [← hL.out, hl.out]; exact List.getElem_mem _)).1
              obtain ⟨bi, oi, hAi, hbi, hci⟩ := h3'.out (by have := hrl.out; omega)
              subst hAi
              have hjr : j < r.length := by have := hrl.out; omega
              have r0 := hci j hjr
              obtain ⟨x, hx⟩ : ∃ x, Hid (x = r[j]) := ⟨_, hid rfl⟩
              rw [← hx.out, ← hBq.cell (by simpa using hbi)] at r0
              obtain ⟨v0, d0⟩ := hblk.some_ (i := q * 6 + l) (by omega)
              have z0 := hblk.frozen (q * 6 + l)
              have k2 : (0 : Int) ≤ (j : Int) ∧ (j : Int) < (L.length : Int) ∧ (j : Int) < (r.length : Int) := by omega
              have k3 : (0 : Int) ≤ (l : Int) ∧ (l : Int) < 6 := by omega
              have hst2 := hid (hst.set_ (l := l) (v := x) (f' := fun k => some (goK a q (j + 1) k)) hlt hl6 (fun k hk => by
                rw [goK_next (by rw [← hL.out]; exact hjl), if_neg (by
                  have := hl.out
                  simp only [hL.out] at this
                  rw [← this]; exact hk)]) (by
                rw [goK_next (by rw [← hL.out]; exact hjl), if_pos (by
                  have := hl.out
                  simp only [hL.out] at this
                  exact this)]
                rw [List.getD_eq_getElem?_getD (l := a.nx), List.getElem?_eq_getElem hlt]
                show some ((a.nx[q]).getD j 0) = some x
                rw [← hr.out, List.getD_eq_getElem?_getD, List.getElem?_eq_getElem hjr, hx.out]
                rfl))
              have hb2' := hid (hblk.set_ (q * 6 + l) (.int .i64 x))
              have hk2 := hid (hkp.setCell ⟨w0.heap.size, q * 6 + l, none⟩ (.int .i64 x) fun _ => rfl)
              replace hst := hid hst
              replace hblk := hid hblk
              replace hcL2 := hid hcL2
              replace hci := hid hci
              have y0 : ∀ x', (Fam wr.heap.size wr x').cell? ⟨bi, oi + j, none⟩ = some (.int .i64 x) := fun x' => by rw [(Fam.below wr.heap.size wr x').cell (by simp; have := hBq.size; omega)]; exact r0
              have hzq := hBq.size
              have hk3 : Hid (∀ w', Below wr.heap.size wr w' → KeepB (fun b => b = w0.heap.size) w2 w') := hid fun w' hb => hkp.trans (.of_below hb)
              have hblk3 : Hid (∀ w', Below wr.heap.size wr w' → Blk w' w0.heap.size 116 cs) := hid fun w' hb => hblk.out.below hb hblk.out.lt
              clear d0 z0 r0 hb2' hk2
              go_wp2_with fail
              refine wp_region_fam_tail wr.heap.size wr 9 (by kernel_rfl) (by kernel_rfl) (Below.refl _ _) ?_
              simp only [List.take_succ_cons, List.take_zero, List.drop_succ_cons, List.drop_zero]
              (repeat (go_big_quiet_step (fail)))
              refine wpQuiet_nil ?_
              intro w5 hw5
              replace hw5 := Fam.out hw5
              have hblk5 := hblk3.out w5 hw5
              obtain ⟨v5, d5⟩ := hblk5.some_ (i := q * 6 + l) (by omega)
              have z5 := hblk5.frozen (q * 6 + l)
              have hb2' := hid (hblk5.set_ (q * 6 + l) (.int .i64 x))
              have hk2 := hid ((hk3.out w5 hw5).setCell ⟨w0.heap.size, q * 6 + l, none⟩ (.int .i64 x) fun _ => rfl)
              replace hblk5 := hid hblk5
              clear y0
              go_wp2
              go_roundw
              case rel => exact ⟨j + 1, _, by go_num, by omega, hb2'.out, hst2.out, hk2.out⟩
              case measure => simp [intOf]; omega
            · obtain rfl : j = L.length := by omega
              have hst2 : Hid (TabSt cs a.nx.length a (q + 1) fun _ => none) := hid (TabSt.over (by have := hst; rw [hL.out] at this; exact this) ht.out hlt)
              replace hst := hid hst
              replace hblk := hid hblk
              go_wp2
              go_roundw
              case rel => exact ⟨q + 1, cs, by go_num, by omega, hblk.out, hst2.out, hkp⟩
              case measure => simp [intOf]; omega
    · obtain rfl : q = a.nx.length := by omega
      have htab : Hid (TabA wr w0.heap.size a.nx.length a) := hid ⟨hblk.lt, fun p l hp hl => by rw [hblk.cell]; exact hst.rows p l hp hl⟩
      have hBr : Below w.heap.size w wr := hB0.trans ((KeepB.below hB2 hkp hB2.size fun b e => by omega).mono hB0.size)
      replace hst := hid hst
      replace hblk := hid hblk
      go_wp2
      go_ret
      exact ⟨_, rfl, htab.out, hBr⟩

end Go.Proofs.YtjhlbeamfngebaaDoor

/- The program's StateAfter and AcceptsWord. -/
namespace AG

end AG
namespace Go.Proofs.YtjhlbeamfngebaaDoor
open Go.RowKit Go.BigFrame AG

theorem goA_lt {a : Au} (h : auOk a = true) {q l : Nat} (hq : q < a.nx.length) : goA a q l < a.nx.length := by
  unfold goA
  split
  · rename_i hl
    have hr := ((auOk_iff a).1 h).2.2.2.2 a.nx[q] (List.getElem_mem _)
    have hg : a.nx.getD q [] = a.nx[q] := by rw [List.getD_eq_getElem?_getD, List.getElem?_eq_getElem hq]; rfl
    have hk : (letters a.al).idxOf l < (a.nx[q]).length := by rw [hr.1]; exact List.idxOf_lt_length_iff.2 hl
    have : (a.nx[q]).getD ((letters a.al).idxOf l) 0 = (a.nx[q])[(letters a.al).idxOf l] := by rw [List.getD_eq_getElem?_getD, List.getElem?_eq_getElem hk]; rfl
    rw [hg, this]
    have := hr.2 _ (List.getElem_mem hk)
    omega
  · exact hq
end Go.Proofs.YtjhlbeamfngebaaDoor
