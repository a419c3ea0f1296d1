/- Lemmas, part 9: several texts in one. -/
import Derived.Test.YtolnlkccbndkcaaDoorK5
import Derived.Test.YtolnlkccbndkcaaDoorK7
import Derived.Test.YtolnlkccbndkcaaDoorK4
import Derived.Maps.Own
import Derived.Maps.OwnOps
import Derived.Maps.Range
import Derived.Maps.RangeWalk
import Derived.Maps.Views
import Derived.Deep.DeepCutAuto
import Derived.Test.YtolnlkccbndkcaaDoorK2
import Derived.Test.YtolnlkccbndkcaaDoorK6
import Derived.Test.YtolnlkccbndkcaaDoorK8
set_option linter.unusedSimpArgs false
set_option linter.unusedVariables false

/- The program's TracesUpTo. -/
namespace Go.Proofs.YtolnlkccbndkcaaDoor
open Go.RowKit Go.BigFrame Go.Maps AG

theorem mapLaw : Keyed Tryd.prog 3 := int_keyed Tryd.underlying3
theorem zeroInt (w : World) : (zeroValue 3).run Tryd.prog w = .ok (.int .i64 0) w := by kernel_rfl

/-- An entry of a map that is written out: as a store. -/
theorem wpList_insert_own {H : Type} {P : Program} (w : World) {ops : Array Oper} {rest : List Oper} {o : Oper} {a : Act} {Q : Exit → Act → World → Prop}
    (hg : o.guard = none) (m x v : Operand) (t : TypeId) (hop : o.op = Op.insert t m x v)
    (k e : TypeId) (K : Keyed P k) (ht : P.underlying t = some (.map k e)) (R : Value → Option (DataW H × List MemPlace)) (b n : Nat) (D : DataW H)
    (hm : a.eval m = .map (some b)) (hown : w.ownsMap P k R b n D) (hn : n < maxLen) (key val : Value) (kl : Lit) (hx : a.eval x = key) (hv : a.eval v = val) (hkey : keyOf P k key = some kl)
    (d : DataW H) (ps : List MemPlace) (hval : R val = some (d, ps))
    (hK : ∀ w', w'.ownsMap P k R b (n + 1) (D.put kl d) → w.grownBy w' (some b) → wpList P ops Q rest (a.put o.dst undef) w') :
    wpList P ops Q (o :: rest) a w := by
  refine wpList_plain hg fun K' hK' => ?_
  obtain ⟨w', hrun, r1, r2⟩ := hown.update K ht hn hkey hval
  unfold Oper.wp
  simp [execOp, hop, hm, hx, hv, hrun, Result.andThen]
  exact hK' _ _ (hK w' r1 r2)

/-- A map reads as a function: no entry, no number. -/
structure MapFn (D : DataW Unit) (v : Nat → Nat) : Prop where
  isMap : Maps.IsMap D
  at_ : ∀ T : Nat, D.atKey (.int .i64 (T : Int)) (.lit (.int .i64 0)) = .lit (.int .i64 ((v T : Nat) : Int))
  has : ∀ kl, Maps.has D kl = true → ∃ T : Nat, kl = .int .i64 (T : Int) ∧ 0 < v T ∧ T ≠ 0 ∧ T < 65536
  pos : ∀ T : Nat, 0 < v T → Maps.has D (.int .i64 (T : Int)) = true
theorem MapFn.empty : MapFn (.map []) (fun _ => 0) :=
  ⟨Maps.isMap_empty, fun T => Maps.atKey_of_not_has rfl _, fun kl h => (by cases h), fun T h => (by cases h)⟩
theorem key_ne {x T : Nat} (h : x ≠ T) : Lit.int .i64 (x : Int) ≠ Lit.int .i64 (T : Int) := fun e => by
  injection e with _ e
  exact h (by omega)
theorem MapFn.put {D : DataW Unit} {v : Nat → Nat} (h : MapFn D v) {T c : Nat} (hT : T ≠ 0) (hT2 : T < 65536) (hc : 0 < c) :
    MapFn (D.put (.int .i64 (T : Int)) (.lit (.int .i64 ((v T + c : Nat) : Int)))) (fun x => if x = T then v T + c else v x) := by
  refine ⟨h.isMap.put _ _, fun x => ?_, fun kl hk => ?_, fun x hx => ?_⟩
  · by_cases e : x = T
    · subst e
      rw [Maps.atKey_put_same h.isMap (show WideAt.IsKeyLit (Lit.int .i64 (x : Int)) from trivial), if_pos rfl]
    · rw [Maps.atKey_put_other (key_ne e), h.at_ x, if_neg e]
  · by_cases e : kl = .int .i64 (T : Int)
    · exact ⟨T, e, by rw [if_pos rfl]; omega, hT, hT2⟩
    · rw [Maps.has_put_other e] at hk
      obtain ⟨x, h1, h2, h3, h4⟩ := h.has kl hk
      have : x ≠ T := fun e' => e (by rw [h1, e'])
      exact ⟨x, h1, by rw [if_neg this]; exact h2, h3, h4⟩
  · by_cases e : x = T
    · subst e
      exact Maps.has_put_same h.isMap (show WideAt.IsKeyLit (Lit.int .i64 (x : Int)) from trivial) _
    · rw [if_neg e] at hx
      rw [Maps.has_put_other (key_ne e)]
      exact h.pos x hx
theorem MapFn.congr {D : DataW Unit} {v v' : Nat → Nat} (h : MapFn D v) (e : ∀ T, v T = v' T) : MapFn D v' := by
  have : v = v' := funext e
  rw [← this]
  exact h
theorem grown_of_below {w w' : World} (hb : Below w.heap.size w w') : w.grownBy w' none := ⟨hb.os, hb.tape, hb.output, hb.size, fun i hi _ => hb.block i hi⟩

theorem wf64 {a : Int} (h1 : -9223372036854775808 ≤ a) (h2 : a ≤ 9223372036854775807) : (Lit.int .i64 a).wf = true := by
  unfold Lit.wf
  simp [IntKind.min, IntKind.max, IntKind.signed, IntKind.bits]
  omega

/-- The state of the count: a map of sets. -/
structure CntSt (s : Sy) (L : List Nat) (k : Nat) (w : World) (B n0 : Nat) (D : DataW Unit) : Prop where
  own : w.ownsMap Tryd.prog 3 (plainElem Tryd.prog 3) B n0 D
  num : n0 ≤ 100000000
  fn : MapFn D (fun S => if S = 0 then 0 else cntW s L k S)

theorem sum_le_len {f : Nat → Nat} : ∀ {ps : List Nat}, (∀ S ∈ ps, 0 < f S) → ps.length ≤ (ps.map f).sum
  | [], _ => Nat.le_refl _
  | S :: ps, h => by
    have h1 := h S List.mem_cons_self
    have h2 := sum_le_len (f := f) (ps := ps) fun x hx => h x (List.mem_cons_of_mem _ hx)
    rw [List.length_cons, List.map_cons, List.sum_cons]
    omega
theorem keys_len {s : Sy} {L : List Nat} {k : Nat} {ps : List Nat} (hL : L.length ≤ 6) (hk : k ≤ 8) (hn : ps.Nodup) (h : ∀ S ∈ ps, 0 < cntW s L k S) : ps.length ≤ 10077696 := by
  have h1 := sum_le_len h
  have h2 := sum_le_groups (setW s) (fun _ => 1) hn (fun _ => by omega) (wordsOf L k)
  have h3 := pow_le6 hL hk
  rw [wordsOf_len] at h2
  simp only [Nat.mul_one] at h2
  unfold cntW at h1
  omega
theorem sameKey_int (x y : Int) : (Lit.int .i64 x).sameKey (.int .i64 y) = decide (x = y) := by
  by_cases e : x = y
  · subst e
    simp [Lit.sameKey]
  · rw [decide_eq_false e]
    exact Maps.sameKey_ne (fun h => e (by injection h))

end Go.Proofs.YtolnlkccbndkcaaDoor

/- The program's numbered: what is reached is numbered in the order in which it is met. -/
namespace Go.Proofs.YtolnlkccbndkcaaDoor
open Go.RowKit Go.BigFrame Go.Maps AG

/-- Rows of numbers that are owned, each in a block of its own. -/
structure Fam3 (w : World) (base : Nat) (fs : List (Value × List Value)) : Prop where
  rows : ∀ f ∈ fs, w.ownsRow base 3 1 f.1 f.2.length f.2
  apart : fs.Pairwise fun f g => ∀ k, f.1.ownBlock = some k → g.1.ownBlock ≠ some k
theorem Fam3.keep {K : Nat → Prop} {w w' : World} {base : Nat} {fs : List (Value × List Value)} (h : Fam3 w base fs) (hk : KeepB K w w') (h2 : ∀ f ∈ fs, ∀ g, f.1.ownBlock = some g → ¬ K g) : Fam3 w' base fs :=
  ⟨fun f hf => own_keep (h.rows f hf) hk (h2 f hf), h.apart⟩
theorem Fam3.later {w w' : World} {base : Nat} {fs : List (Value × List Value)} (h : Fam3 w base fs) (hb : Below w.heap.size w w') : Fam3 w' base fs := h.keep (.of_below (K := fun _ => False) hb) fun _ _ _ _ h => h
theorem Fam3.app {w w1 : World} {base : Nat} {l1 l2 : List (Value × List Value)} {f : Value × List Value} {v' : Value} {ys' : List Value} {o : Obj} (h : Fam3 w base (l1 ++ f :: l2)) (hg : (w.alloc o).grownBy w1 f.1.ownBlock)
    (ho : w1.ownsRow base 3 1 v' ys'.length ys') (hat : v'.ownBlock = f.1.ownBlock ∨ v'.ownBlock = some (w.alloc o).heap.size) : Fam3 w1 base (l1 ++ (v', ys') :: l2) := by
  obtain ⟨h2, h3⟩ := h
  rw [List.pairwise_append, List.pairwise_cons] at h3
  have hkA : KeepB (fun b => f.1.ownBlock = some b) w w1 := ((KeepB.refl _ w).alloc o).grown hg fun k hk _ => hk
  have hlt : ∀ y ∈ l1 ++ f :: l2, ∀ g, y.1.ownBlock = some g → g < w.heap.size := fun y hy g e => ((h2 y hy).lt g e).2
  have hsz : w.heap.size < (w.alloc o).heap.size := by simp
  refine ⟨fun y hy => ?_, ?_⟩
  · rw [List.mem_append, List.mem_cons] at hy
    rcases hy with hy | rfl | hy
    · exact own_keep (h2 y (by simp [hy])) hkA fun g hg e => h3.2.2 y hy f List.mem_cons_self g hg e
    · exact ho
    · exact own_keep (h2 y (by simp [hy])) hkA fun g hg e => h3.2.1.1 y hy g e hg
  · rw [List.pairwise_append, List.pairwise_cons]
    refine ⟨h3.1, ⟨fun y hy k e e' => ?_, h3.2.1.2⟩, fun a ha b hb k e e' => ?_⟩
    · have := hlt y (by simp [hy]) k e'
      rcases hat with h | h
      · exact h3.2.1.1 y hy k (by rw [← h]; exact e) e'
      · rw [h] at e; injection e with e; omega
    · have := hlt a (by simp [ha]) k e
      rcases List.mem_cons.1 hb with rfl | hb
      · rcases hat with h | h
        · exact h3.2.2 a ha f List.mem_cons_self k e (by rw [← h]; exact e')
        · rw [h] at e'; injection e' with e'; omega
      · exact h3.2.2 a ha b (List.mem_cons_of_mem _ hb) k e e'
theorem Fam3.perm {w : World} {base : Nat} {fs gs : List (Value × List Value)} (h : Fam3 w base fs) (hp : fs.Perm gs) : Fam3 w base gs :=
  ⟨fun f hf => h.rows f (hp.mem_iff.2 hf), (hp.pairwise_iff (fun {a b} h k e e' => h k e' e)).1 h.apart⟩
theorem Fam3.nil_ {w : World} {base : Nat} {f : Value × List Value} {fs : List (Value × List Value)} (h : Fam3 w base (f :: fs)) : Fam3 w base (f :: (.slice none 0 0, []) :: fs) := by
  obtain ⟨h2, h3⟩ := h
  rw [List.pairwise_cons] at h3
  refine ⟨fun y hy => ?_, ?_⟩
  · rw [List.mem_cons, List.mem_cons] at hy
    rcases hy with rfl | rfl | hy
    · exact h2 _ List.mem_cons_self
    · exact World.ownsRow_nil _ _ _ _
    · exact h2 y (List.mem_cons_of_mem _ hy)
  · rw [List.pairwise_cons, List.pairwise_cons]
    refine ⟨fun y hy k e e' => ?_, ⟨fun y hy k e => (by cases e), h3.2⟩⟩
    rcases List.mem_cons.1 hy with rfl | hy
    · cases e'
    · exact h3.1 y hy k e e'
def famOf (xs : List RowV) : List (Value × List Value) := xs.map fun x => (x.v, intVals x.r)
theorem intVals_len (xs : List Int) : (intVals xs).length = xs.length := by unfold intVals; simp
theorem natVals_len (ns : List Nat) : (natVals ns).length = ns.length := by unfold natVals; simp
theorem natVals_int (ns : List Nat) : intVals (ns.map fun (n : Nat) => (n : Int)) = natVals ns := by unfold intVals natVals; simp
/-- The current row becomes a row of the table. -/
theorem Fam3.into {w : World} {base : Nat} {f : Value × List Value} {A : Option Addr} {c : Nat} {row : List Nat} {xs : List RowV} (h : Fam3 w base (f :: (.slice A row.length c, natVals row) :: famOf xs)) : Fam3 w base (f :: famOf (xs ++ [⟨row.map fun (n : Nat) => (n : Int), A, c⟩])) := by
  refine h.perm ?_
  unfold famOf
  rw [List.map_append]
  refine List.Perm.cons _ ?_
  have e : ((.slice A row.length c, natVals row) : Value × List Value) = (RowV.v ⟨row.map fun (n : Nat) => (n : Int), A, c⟩, intVals (row.map fun (n : Nat) => (n : Int))) := by
    unfold RowV.v
    rw [natVals_int]
    simp
  rw [e]
  exact (List.perm_append_singleton _ _).symm
theorem Fam3.rowsOwn {w : World} {base : Nat} {f : Value × List Value} {xs : List RowV} {v : Value} (h : Fam3 w base (f :: famOf xs)) (ho : w.ownsRow base 62 1 v xs.length (rowVals xs)) : RowsOwn w base v xs := by
  refine ⟨ho, fun x hx => ?_, ?_⟩
  · have := h.rows (x.v, intVals x.r) (List.mem_cons_of_mem _ (List.mem_map.2 ⟨x, hx, rfl⟩))
    rwa [intVals_len] at this
  · have := h.apart
    rw [List.pairwise_cons] at this
    unfold famOf at this
    exact (List.pairwise_map.1 this.2)

theorem own_ne_map {w : World} {base : Nat} {e : TypeId} {size : Nat} {v : Value} {n m B : Nat} {xs : List Value} {k : TypeId} {R : Value → Option (DataW Unit × List MemPlace)} {D : DataW Unit} (h : w.ownsRow base e size v n xs) (hm : w.ownsMap Tryd.prog k R B m D) : ∀ g, v.ownBlock = some g → g ≠ B := by
  intro g hg hB
  rcases h.2 with ⟨rfl, _⟩ | ⟨g', cap, cur, rfl, _, hgg, _⟩
  · cases hg
  · cases hg
    obtain ⟨es, clock, hb, _⟩ := hm
    subst hB
    rw [hb] at hgg
    cases hgg

/-- A map that has the numbers of the nodes. -/
structure MapIx (D : DataW Unit) (ns : List Nat) : Prop where
  isMap : Maps.IsMap D
  has : ∀ T : Nat, Maps.has D (.int .i64 (T : Int)) = decide (T ∈ ns)
  at_ : ∀ T ∈ ns, D.atKey (.int .i64 (T : Int)) (.lit (.int .i64 0)) = .lit (.int .i64 ((ns.idxOf T : Nat) : Int))
theorem MapIx.empty : MapIx (.map []) [] := ⟨Maps.isMap_empty, fun T => by simp; rfl, fun T h => (by cases h)⟩
theorem MapIx.put {D : DataW Unit} {ns : List Nat} (h : MapIx D ns) {T : Nat} (hT : T ∉ ns) : MapIx (D.put (.int .i64 (T : Int)) (.lit (.int .i64 ((ns.length : Nat) : Int)))) (ns ++ [T]) := by
  refine ⟨h.isMap.put _ _, fun x => ?_, fun x hx => ?_⟩
  · by_cases e : x = T
    · subst e
      rw [Maps.has_put_same h.isMap (show WideAt.IsKeyLit (Lit.int .i64 (x : Int)) from trivial)]
      simp
    · rw [Maps.has_put_other (key_ne e), h.has x]
      simp [e]
  · by_cases e : x = T
    · subst e
      rw [Maps.atKey_put_same h.isMap (show WideAt.IsKeyLit (Lit.int .i64 (x : Int)) from trivial), List.idxOf_append, if_neg hT]
      simp
    · have hx' : x ∈ ns := by
        rcases List.mem_append.1 hx with h | h
        · exact h
        · exact absurd (List.mem_singleton.1 h) e
      rw [Maps.atKey_put_other (key_ne e), h.at_ x hx', idxOf_pre hx']

/-- A step of the numbering, as a function value. -/
structure NumOk (w : World) (P : Nat → Prop) (L : List Nat) (nx : Nat → Nat → Nat) (fN : FuncId) (capN : Array Value) : Prop where
  run : ∀ args w', (callFunc fN args).run Tryd.prog w' = .ok (.enter fN args) w'
  call : ∀ w' q l, Below w.heap.size w w' → P q → l ∈ L → Calls Tryd.prog fN (#[.int .i64 (q : Nat), .int .i64 (l : Nat)] ++ capN) w' fun e w'' => e = .returned (.int .i64 (nx q l : Nat)) ∧ Below w'.heap.size w' w''
  next : ∀ q l, P q → l ∈ L → P (nx q l)
  small : ∀ q, P q → q ≤ 4294967296

def numV (v1 v2 : Value) (b : Bool) : Value := .tuple #[v1, v2, .bool b]
def NumPost (w : World) (o : Option (List Nat × List (List Nat))) (e : Ending) (w' : World) : Prop :=
  Below w.heap.size w w' ∧ match o with
    | some x => ∃ v1 v2 xs, e = .returned (numV v1 v2 true) ∧ OwnNats w' w.heap.size v1 x.1 ∧ RowsOwn w' w.heap.size v2 xs ∧ xs.map (·.r) = toRows x.2
    | none => e = .returned (numV (.slice none 0 0) (.slice none 0 0) false)
theorem infoInts : (Tryd.prog.info? 62).map (fun i => (i.zero, i.size, i.bytes)) = some (some (.slice none 0 0), 1, 24) := by kernel_rfl
theorem mapLaw2 : Keyed Tryd.prog 3 := int_keyed Tryd.underlying3

/-- What the numbering holds in memory. -/
structure NumMem (w wr : World) (B : Nat) (ns : List Nat) (vR : Value) (xs : List RowV) (fs : List (Value × List Value)) (m : Nat) (D : DataW Unit) : Prop where
  below : Below w.heap.size w wr
  fam : Fam3 wr w.heap.size fs
  tab : wr.ownsRow w.heap.size 62 1 vR xs.length (rowVals xs)
  map_ : wr.ownsMap Tryd.prog 3 (plainElem Tryd.prog 3) B m D
  ix : MapIx D ns
  num : m ≤ ns.length
  geB : w.heap.size ≤ B
theorem NumMem.later {w wr w' : World} {B : Nat} {ns : List Nat} {vR : Value} {xs : List RowV} {fs : List (Value × List Value)} {m : Nat} {D : DataW Unit} (h : NumMem w wr B ns vR xs fs m D) (hb : Below wr.heap.size wr w') : NumMem w w' B ns vR xs fs m D :=
  ⟨h.below.trans (hb.mono h.below.size), h.fam.later hb, own_later_ h.tab hb, h.map_.kept (grown_of_below hb) (by simp), h.ix, h.num, h.geB⟩
/-- A row of numbers is appended to. -/
theorem NumMem.app {w wr w1 : World} {B : Nat} {ns : List Nat} {vR : Value} {xs : List RowV} {l1 l2 : List (Value × List Value)} {f : Value × List Value} {v' : Value} {ys' : List Value} {o : Obj} {m : Nat} {D : DataW Unit} (h : NumMem w wr B ns vR xs (l1 ++ f :: l2) m D) (hg : (wr.alloc o).grownBy w1 f.1.ownBlock)
    (ho : w1.ownsRow w.heap.size 3 1 v' ys'.length ys') (hat : v'.ownBlock = f.1.ownBlock ∨ v'.ownBlock = some (wr.alloc o).heap.size) : NumMem w w1 B ns vR xs (l1 ++ (v', ys') :: l2) m D := by
  have hf := h.fam.rows f (by simp)
  have hkA : KeepB (fun b => f.1.ownBlock = some b) wr w1 := ((KeepB.refl _ wr).alloc o).grown hg fun k hk _ => hk
  refine ⟨hkA.below h.below h.below.size fun b e => own_block hf b e, h.fam.app hg ho hat, own_keep h.tab hkA fun g hg e => own_ne_own h.tab hf (by decide) g g hg e rfl, (h.map_.alloc o).kept hg fun e => own_ne_map hf h.map_ B e.symm rfl, h.ix, h.num, h.geB⟩
/-- A node gets its number. -/
theorem NumMem.put {w wr w1 : World} {B : Nat} {ns : List Nat} {vR : Value} {xs : List RowV} {fs : List (Value × List Value)} {m : Nat} {D : DataW Unit} {T : Nat} (h : NumMem w wr B ns vR xs fs m D) (hT : T ∉ ns) (hm : w1.ownsMap Tryd.prog 3 (plainElem Tryd.prog 3) B (m + 1) (D.put (.int .i64 (T : Int)) (.lit (.int .i64 ((ns.length : Nat) : Int))))) (hg : wr.grownBy w1 (some B)) :
    NumMem w w1 B (ns ++ [T]) vR xs fs (m + 1) (D.put (.int .i64 (T : Int)) (.lit (.int .i64 ((ns.length : Nat) : Int)))) := by
  have hkA : KeepB (fun b => b = B) wr w1 := (KeepB.refl _ wr).grown hg fun k hk _ => by injection hk with hk; exact hk.symm
  refine ⟨hkA.below h.below h.below.size fun b e => by rw [e]; exact h.geB, h.fam.keep hkA fun f hf g hg e => own_ne_map (h.fam.rows f hf) h.map_ g hg e, own_keep h.tab hkA fun g hg e => own_ne_map h.tab h.map_ g hg e, hm, h.ix.put hT, ?_, h.geB⟩
  have := h.num
  rw [List.length_append, List.length_singleton]
  omega
/-- The row goes into the table. -/
theorem NumMem.row {w wr w1 : World} {B : Nat} {ns row : List Nat} {vR vR' : Value} {xs : List RowV} {f : Value × List Value} {A : Option Addr} {c m : Nat} {D : DataW Unit} {o : Obj} (h : NumMem w wr B ns vR xs (f :: (.slice A row.length c, natVals row) :: famOf xs) m D) (hg : (wr.alloc o).grownBy w1 vR.ownBlock)
    (ho : w1.ownsRow w.heap.size 62 1 vR' (xs.length + 1) (rowVals xs ++ [.slice A row.length c])) : NumMem w w1 B ns vR' (xs ++ [⟨row.map fun (n : Nat) => (n : Int), A, c⟩]) (f :: famOf (xs ++ [⟨row.map fun (n : Nat) => (n : Int), A, c⟩])) m D := by
  have hkA : KeepB (fun b => vR.ownBlock = some b) wr w1 := ((KeepB.refl _ wr).alloc o).grown hg fun k hk _ => hk
  refine ⟨hkA.below h.below h.below.size fun b e => own_block h.tab b e, ?_, ?_, (h.map_.alloc o).kept hg fun e => own_ne_map h.tab h.map_ B e.symm rfl, h.ix, h.num, h.geB⟩
  · exact (h.fam.keep hkA fun f hf g hg e => own_ne_own h.tab (h.fam.rows f hf) (by decide) g g e hg rfl).into
  · unfold rowVals at ho ⊢
    rw [List.length_append, List.map_append]
    unfold RowV.v at ho ⊢
    simpa using ho

end Go.Proofs.YtolnlkccbndkcaaDoor

/- The program's numbered: the walk. -/
namespace Go.Proofs.YtolnlkccbndkcaaDoor
open Go.RowKit Go.BigFrame Go.Maps AG

theorem NumMem.fs {w wr : World} {B : Nat} {ns : List Nat} {vR : Value} {xs : List RowV} {fs fs' : List (Value × List Value)} {m : Nat} {D : DataW Unit} (h : NumMem w wr B ns vR xs fs m D) (hf : Fam3 wr w.heap.size fs → Fam3 wr w.heap.size fs')   : NumMem w wr B ns vR xs fs' m D :=
  ⟨h.below, hf h.fam, h.tab, h.map_, h.ix, h.num, h.geB⟩
theorem NumMem.own {w wr : World} {B : Nat} {ns : List Nat} {vR : Value} {xs : List RowV} {fs : List (Value × List Value)} {m : Nat} {D : DataW Unit} {v : Value} {row : List Nat} (h : NumMem w wr B ns vR xs fs m D) (hf : (v, natVals row) ∈ fs) : wr.ownsRow w.heap.size 3 1 v row.length (natVals row) := by
  have := h.fam.rows _ hf
  rwa [natVals_len] at this
theorem numRes_ends {nx : Nat → Nat → Nat} {L : List Nat} {n0 i lim : Nat} (hj : ∀ j, j < i → j < (nsAt nx L n0 j).length) (hle : (nsAt nx L n0 i).length ≤ i) (hlim : (nsAt nx L n0 i).length ≤ lim) : numRes nx L n0 lim = some (nsAt nx L n0 i, rowsTo nx L n0 i) := by
  have h1 : (nsAt nx L n0 i).length = i := by
    rcases Nat.lt_or_ge (nsAt nx L n0 i).length i with h | h
    · have h2 := hj (nsAt nx L n0 i).length h
      obtain ⟨mm, hm⟩ := nsAt_pre nx L n0 (nsAt nx L n0 i).length (i - (nsAt nx L n0 i).length)
      rw [show (nsAt nx L n0 i).length + (i - (nsAt nx L n0 i).length) = i from by omega] at hm
      have := congrArg List.length hm
      rw [List.length_append] at this
      omega
    · omega
  rw [numRes_done h1 (by omega), rowsTo_all i hj, List.take_of_length_le (by omega)]

set_option maxRecDepth 100000 in
set_option maxHeartbeats 16000000 in
theorem numbered_any (w : World) (P : Nat → Prop) (L : List Nat) (nx : Nat → Nat → Nat) (fN : FuncId) (capN : Array Value) (n0 lim : Nat) (A : Option Addr) (c : Nat) (hN : NumOk w P L nx fN capN) (h0 : P n0) (hlim : 1 ≤ lim) (hlim' : lim ≤ 4096) (hL6 : L.length ≤ 6) (hlc : L.length ≤ c) (hcm : c ≤ 9223372036854775807) (hA : NatsAt w w.heap.size A L) :
    Calls Tryd.prog 115 #[.int .i64 (n0 : Nat), .slice A L.length c, .int .i64 (lim : Nat), .func (.func fN) #[] capN] w (NumPost w (numRes nx L n0 lim)) := by
  have hcf := hN.run
  have hmm := @run_makeMap Tryd.prog
  obtain ⟨i0, hi, hz0, hz1, hz2⟩ := info_parts infoInt
  obtain ⟨j0, hj0, hy0, hy1, hy2⟩ := info_parts infoInts
  have hn0 := hN.small n0 h0
  have hPall : Hid (∀ i, ∀ a ∈ nsAt nx L n0 i, P a) := hid (nsAt_all h0 fun a ha l hl => hN.next a l ha hl)
  replace hA := hid hA
  replace h0 := hid h0
  go_enter Tryd.func115, Tryd.ntmps115
  go_upto_region 2 with fail
  have hmade := World.ownsMap_made (H := Unit) (w.alloc (.cells #[.int .i64 (n0 : Nat)] 3)) Tryd.prog 3 (plainElem Tryd.prog 3)
  go_wp2_with (refine wpList_insert_own _ rfl _ _ _ 143 rfl 3 3 mapLaw2 Tryd.underlying143 (plainElem Tryd.prog 3) (w.heap.size + 1) 0 _ rfl (by simpa using hmade) (by unfold maxLen; omega) _ _ (.int .i64 (n0 : Int)) rfl rfl (keyOf_int_mk Tryd.underlying3 (wf64 (by omega) (by omega))) (.lit (.int .i64 0)) [] (plainElem_int Tryd.underlying3 (by decide)) ?_)
  intro w3 hown3 hgrow3
  obtain ⟨B, hB⟩ : ∃ B, B = w.heap.size + 1 := ⟨_, rfl⟩
  rw [← hB] at hown3 hgrow3
  have hst3 : Hid (NumMem w w3 B [n0] (.slice none 0 0) [] ((.slice (some ⟨w.heap.size, 0, none⟩) 1 1, natVals [n0]) :: famOf []) 1 ((DataW.map []).put (Lit.int IntKind.i64 (n0 : Int)) (DataW.lit (Lit.int IntKind.i64 0)))) := hid (by
    have hbl : Below w.heap.size w ((w.alloc (.cells #[.int .i64 (n0 : Nat)] 3)).alloc (.map #[] 0)) := ((Below.refl _ _).alloc (Nat.le_refl _) _).alloc (by simp) _
    have hk : KeepB (fun b => b = B) ((w.alloc (.cells #[.int .i64 (n0 : Nat)] 3)).alloc (.map #[] 0)) w3 := (KeepB.refl _ _).grown hgrow3 fun k hk _ => by injection hk with hk; exact hk.symm
    have ho1 : ((w.alloc (.cells #[.int .i64 (n0 : Nat)] 3)).alloc (.map #[] 0)).ownsRow w.heap.size 3 1 (.slice (some ⟨w.heap.size, 0, none⟩) 1 1) 1 (natVals [n0]) := by
      refine World.ownsRow.alloc ?_ _
      exact ⟨rfl, .inr ⟨w.heap.size, 1, #[.int .i64 (n0 : Nat)], rfl, Nat.le_refl _, heap_alloc_self _ _, Nat.le_refl _, by unfold maxLen; omega, rfl, rfl⟩⟩
    have ho3 := own_keep ho1 hk fun g hg e => by injection hg with hg; simp at hg; omega
    refine ⟨hk.below hbl (by simp; omega) fun b e => by omega, ⟨fun f hf => ?_, ?_⟩, World.ownsRow_nil _ _ _ _, hown3, MapIx.empty.put (T := n0) (by simp), by simp, by omega⟩
    · rw [show famOf [] = [] from rfl, List.mem_singleton] at hf
      subst hf
      exact ho3
    · rw [show famOf [] = [] from rfl]
      exact List.pairwise_singleton _ _)
  clear hown3 hgrow3 hmade
  subst hB
  go_wp2_with fail
  go_loopw [11, 13, 14] (fun vN vR iv wr => ∃ (i : Nat) (AN : Option Addr) (cN : Nat) (xs : List RowV) (m : Nat) (D : DataW Unit), vN = .slice AN (nsAt nx L n0 i).length cN ∧ iv = .int .i64 (i : Nat) ∧ NumMem w wr (w.heap.size + 1) (nsAt nx L n0 i) vR xs ((.slice AN (nsAt nx L n0 i).length cN, natVals (nsAt nx L n0 i)) :: famOf xs) m D ∧ xs.map (·.r) = toRows (rowsTo nx L n0 i) ∧ (∀ j, j < i → j < (nsAt nx L n0 j).length) ∧ (nsAt nx L n0 i).length ≤ lim) (fun _ _ iv _ => lim - (intOf iv).toNat)
  case atStart => exact ⟨0, _, _, [], 1, _, rfl, rfl, hst3.out, rfl, fun j hj => by omega, hlim⟩
  case round =>
    clear hst3
    obtain ⟨i, AN, cN, xs, m, D, rfl, rfl, hst, hxs, hjs, hle⟩ := hrel
    have hxl : xs.length = i := by
      have := congrArg List.length hxs
      rw [List.length_map, toRows_len, rowsTo_len] at this
      exact this
    have hil : i ≤ lim := by
      rcases Nat.eq_zero_or_pos i with h | h
      · omega
      · have h1 := hjs (i - 1) (by omega)
        obtain ⟨mm, hm⟩ := nsAt_pre nx L n0 (i - 1) 1
        rw [show i - 1 + 1 = i from by omega] at hm
        have := congrArg List.length hm
        rw [List.length_append] at this
        omega
    have hxl4 : xs.length ≤ 4096 := by omega
    replace hxl := hid hxl
    replace hjs := hid hjs
    replace hxs := hid hxs
    by_cases hlt : i < (nsAt nx L n0 i).length
    · obtain ⟨a, ha⟩ : ∃ a, Hid ((nsAt nx L n0 i)[i]? = some a) := ⟨_, hid (List.getElem?_eq_getElem hlt)⟩
      have hns := hid (NumSt.start hlt ha.out)
      have hPa : Hid (P a) := hid (hPall.out i a (List.mem_of_getElem? ha.out))
      have ha32 := hN.small a hPa.out
      obtain ⟨AR, cR, hvR, -, -⟩ := own_slice hst.tab
      subst hvR
      have hst0 := hid (hst.fs Fam3.nil_)
      replace hst := hid hst
      obtain ⟨n1, hn1⟩ : ∃ n1, Hid (n1 = nsAt nx L n0 i) := ⟨_, hid rfl⟩
      rw [← hn1.out] at hlt hle hns hst0 ⊢
      go_wp2_with fail
      go_loopw [11, 15, 34] (fun vN vW kv wr => ∃ (k : Nat) (ns row : List Nat) (AN : Option Addr) (cN : Nat) (AW : Option Addr) (cW m : Nat) (D : DataW Unit), vN = .slice AN ns.length cN ∧ vW = .slice AW row.length cW ∧ kv = .int .i64 (k : Nat) ∧ NumSt nx L n0 i k ns row a ∧ NumMem w wr (w.heap.size + 1) ns (.slice AR xs.length cR) xs ((.slice AN ns.length cN, natVals ns) :: (.slice AW row.length cW, natVals row) :: famOf xs) m D ∧ ns.length ≤ lim) (fun _ _ kv _ => L.length - (intOf kv).toNat)
      case atStart => exact ⟨0, n1, [], AN, cN, none, 0, m, D, rfl, rfl, rfl, hns.out, hst0.out, hle⟩
      case round =>
        clear hst0 hns
        obtain ⟨k, ns, row, AN2, cN2, AW, cW, m2, D2, rfl, rfl, rfl, hns, hst2, hle2⟩ := hrel
        have hk := hns.hk
        have hrl : row.length = k := by
          rw [hns.hrow, List.length_map, List.length_take]
          omega
        have hrl6 : row.length ≤ 6 := by omega
        replace hrl := hid hrl
        have hBm := hst2.below
        have hnum := hst2.num
        have hszm := hBm.size
        have hmap := hst2.map_
        by_cases hkl : k < L.length
        · have hLr := hA.out.later hBm
          obtain ⟨bL, oL, hAe, hbL, hcL⟩ := hLr (by omega)
          subst hAe
          have l0 := hcL k hkl
          have hail : i < ns.length := by
            have h1 := hlt
            rw [hn1.out] at h1
            obtain ⟨mm, hm⟩ := rowN_pre nx a (L.take k) (nsAt nx L n0 i)
            rw [hns.hns, hm, List.length_append]
            omega
          have hani : ns[i]'hail = a := by
            obtain ⟨mm, hm⟩ := rowN_pre nx a (L.take k) (nsAt nx L n0 i)
            have h1 : ns[i]? = some a := by
              rw [hns.hns, hm, List.getElem?_append_left hns.hi]
              exact hns.ha
            rw [List.getElem?_eq_getElem hail] at h1
            injection h1
          have hoN := hst2.own (v := .slice AN2 ns.length cN2) (row := ns) List.mem_cons_self
          obtain ⟨gN, capN', hve, -, -, -, -, hcN⟩ := own_shape hoN (by omega)
          injection hve with e1 e2 e3
          subst e1
          subst e3
          clear e2
          have a0 := hcN i _ (show (natVals ns)[i]? = some (.int .i64 (a : Nat)) from by unfold natVals; simp [hail, hani])
          obtain ⟨l, hl⟩ : ∃ l, Hid (l = L[k]) := ⟨_, hid rfl⟩
          have hlL : Hid (l ∈ L) := hid (by rw [hl.out]; exact List.getElem_mem _)
          rw [← hl.out] at l0
          have hnx := hns.next hkl
          have hfull := fun hx hlm => hns.full (lim := lim) hkl hx hlm (by omega)
          rw [← hl.out] at hnx hfull
          have hx32 := hN.small _ (hN.next a l hPa.out hlL.out)
          obtain ⟨x, hx⟩ : ∃ x, Hid (x = nx a l) := ⟨_, hid rfl⟩
          rw [← hx.out] at hnx hfull hx32
          have k1 : (0 : Int) ≤ (k : Int) ∧ (k : Int) < (L.length : Int) ∧ (0 : Int) ≤ (i : Int) ∧ (i : Int) < (ns.length : Int) := by omega
          have hkey : keyOf Tryd.prog 3 (.int .i64 (x : Int)) = some (.int .i64 (x : Int)) := keyOf_int_mk Tryd.underlying3 (wf64 (by omega) (by omega))
          replace hfull := hid hfull
          replace hnx := hid hnx
          replace hani := hid hani
          replace hcL := hid hcL
          replace hLr := hid hLr
          replace hcN := hid hcN
          replace hns := hid hns
          replace hoN := hid hoN
          replace hBm := hid hBm
          replace hst2 := hid hst2
          replace hmap := hid hmap
          go_wp2_with fail
          refine (hN.call wr a l hBm.out hPa.out hlL.out).mono ?_
          rintro e w4 ⟨rfl, hb4⟩
          rw [← hx.out]
          have hst4 := hst2.out.later hb4
          have hmap4 := hst4.map_
          have hz4 := hst4.below.size
          clear l0 a0 hb4
          by_cases hmem : x ∈ ns
          · have hhas : Maps.has D2 (.int .i64 (x : Int)) = true := by rw [hst4.ix.has x]; exact decide_eq_true hmem
            have hix := hid (hst4.ix.at_ x hmem)
            have hadd : Hid (addN ns x = ns) := hid (by unfold addN; rw [if_pos hmem])
            obtain ⟨q, hq⟩ : ∃ q, Hid (q = ns.idxOf x) := ⟨_, hid rfl⟩
            have hql : q < ns.length := by rw [hq.out]; exact List.idxOf_lt_length_iff.2 hmem
            rw [← hq.out] at hix
            rw [hadd.out, ← hq.out] at hnx
            have hoW := hid (hst4.own (v := .slice AW row.length cW) (row := row) (List.mem_cons_of_mem _ List.mem_cons_self))
            replace hmem := hid hmem
            replace hst4 := hid hst4
            go_wp2_with (first
              | (at_lookup; refine wpList_lookup_own_ok_int _ rfl _ _ 143 rfl 3 3 .i64 mapLaw2 Tryd.underlying143 Tryd.underlying3 (zeroInt _) (w.heap.size + 1) m2 D2 rfl hmap4 _ _ rfl hkey ?_; intro c' hat' hwc'; obtain rfl : c' = (q : Int) := (by have e := hat'.symm.trans hix.out; injection e with e; injection e); rw [hhas])
              | (at_builtin; refine wpList_append_own_at _ rfl _ _ 62 rfl w.heap.size 3 i0 (.int .i64 0) 1 8 Tryd.underlying62 hi hz0 hz1 hz2 rfl (by decide) _ _ _ rfl (hoW.out.alloc _) ⟨w4.heap.size, 0, none⟩ 1 1 [.int .i64 (q : Nat)] rfl rfl (cell_one_new _ _ _) (by intro u hu; simp at hu; subst hu; rfl) (by unfold maxLen; omega) (by omega) (by simp; omega) ?_; intro v5 w5 hO5 hg5 _ hat5; obtain ⟨Av5, cv5, ev5, -, -⟩ := own_slice hO5; subst ev5; replace hO5 := hid hO5; replace hg5 := hid hg5; replace hat5 := hid hat5))
            have hst5 := hid (hst4.out.app (l1 := [(.slice (some ⟨gN, 0, none⟩) ns.length cN2, natVals ns)]) (ys' := natVals (row ++ [q])) hg5.out (by rw [natVals_len, List.length_append]; have := hO5.out; unfold natVals at this ⊢; simpa using this) hat5.out)
            clear hmap4
            go_roundw
            case rel => exact ⟨k + 1, ns, row ++ [q], _, _, _, _, m2, D2, rfl, by rw [List.length_append]; rfl, by go_num, hnx.out, by have := hst5.out; rw [List.length_append]; exact this, hle2⟩
            case measure => simp [intOf]; omega
          · have hhas : Maps.has D2 (.int .i64 (x : Int)) = false := by rw [hst4.ix.has x]; exact decide_eq_false hmem
            by_cases hfl : ns.length = lim
            · have hres := hid (hfull.out hmem (by omega))
              have hfb : ((ns.length : Int) == (lim : Int)) = true := by simp; omega
              have hBf := hst4.below
              replace hmem := hid hmem
              replace hfl := hid hfl
              replace hst4 := hid hst4
              go_wp2_with (at_lookup; refine wpList_lookup_own_ok_int _ rfl _ _ 143 rfl 3 3 .i64 mapLaw2 Tryd.underlying143 Tryd.underlying3 (zeroInt _) (w.heap.size + 1) m2 D2 rfl hmap4 _ _ rfl hkey ?_; intro c' hat' hwc'; rw [hhas])
              refine bodyPost_ret (v := numV (.slice none 0 0) (.slice none 0 0) false) (by simp [results, Tryd.results115, go_sem, numV]) rfl ⟨hBf, ?_⟩
              rw [hres.out]
            · have hfb : ((ns.length : Int) == (lim : Int)) = false := by simp; omega
              have hadd : Hid (addN ns x = ns ++ [x]) := hid (by unfold addN; rw [if_neg hmem])
              have hidx : Hid ((ns ++ [x]).idxOf x = ns.length) := hid (by rw [List.idxOf_append, if_neg hmem]; simp)
              rw [hadd.out, hidx.out] at hnx
              replace hfl := hid hfl
              have hst4' := hid hst4
              have hmem' := hid hmem
              clear hst4 hmem
              go_wp2_with (first
                | (at_lookup; refine wpList_lookup_own_ok_int _ rfl _ _ 143 rfl 3 3 .i64 mapLaw2 Tryd.underlying143 Tryd.underlying3 (zeroInt _) (w.heap.size + 1) m2 D2 rfl hmap4 _ _ rfl hkey ?_; intro c' hat' hwc'; rw [hhas])
                | (at_mapUpdate; refine wpList_mapUpdate_own _ rfl _ _ _ 143 rfl 3 3 mapLaw2 Tryd.underlying143 _ (w.heap.size + 1) m2 D2 rfl hmap4 (by unfold maxLen; omega) _ _ _ rfl rfl hkey _ [] (plainElem_int Tryd.underlying3 (wf64 (by omega) (by omega))) ?_; intro w9 hown9 hgrow9; have hst9 := hst4'.out.put hmem'.out hown9 hgrow9; have hoN9 := hid (hst9.own (v := .slice (some ⟨gN, 0, none⟩) ns.length cN2) (row := ns) List.mem_cons_self); have hz9 := hst9.below.size; replace hst9 := hid hst9; clear hown9 hgrow9 hmap4)
                | (at_builtin; refine wpList_append_own_at _ rfl _ _ 62 rfl w.heap.size 3 i0 (.int .i64 0) 1 8 Tryd.underlying62 hi hz0 hz1 hz2 rfl (by decide) _ _ _ rfl (hoW.out.alloc _) ⟨w5.heap.size, 0, none⟩ 1 1 [.int .i64 (ns.length : Nat)] rfl rfl (cell_one_new _ _ _) (by intro u hu; simp at hu; subst hu; rfl) (by unfold maxLen; omega) (by omega) (by simp; omega) ?_; intro v6 w6 hO6 hg6 _ hat6; obtain ⟨Av6, cv6, ev6, -, -⟩ := own_slice hO6; subst ev6; replace hO6 := hid hO6; replace hg6 := hid hg6; replace hat6 := hid hat6)
                | (at_builtin; refine wpList_append_own_at _ rfl _ _ 62 rfl w.heap.size 3 i0 (.int .i64 0) 1 8 Tryd.underlying62 hi hz0 hz1 hz2 rfl (by decide) _ _ _ rfl (hoN9.out.alloc _) ⟨w9.heap.size, 0, none⟩ 1 1 [.int .i64 (x : Nat)] rfl rfl (cell_one_new _ _ _) (by intro u hu; simp at hu; subst hu; rfl) (by unfold maxLen; omega) (by omega) (by simp; omega) ?_; intro v5 w5 hO5 hg5 _ hat5; obtain ⟨Av5, cv5, ev5, -, -⟩ := own_slice hO5; subst ev5; replace hO5 := hid hO5; replace hg5 := hid hg5; replace hat5 := hid hat5; have hst5 := hst9.out.app (l1 := []) (ys' := natVals (ns ++ [x])) hg5.out (by rw [natVals_len, List.length_append]; have := hO5.out; unfold natVals at this ⊢; simpa using this) hat5.out; have hoW := hid (hst5.own (v := .slice AW row.length cW) (row := row) (List.mem_cons_of_mem _ List.mem_cons_self)); have hz5 := hst5.below.size; replace hst5 := hid hst5))
              have hst6 := hid (hst5.out.app (l1 := [(.slice Av5 (ns.length + 1) cv5, natVals (ns ++ [x]))]) (ys' := natVals (row ++ [ns.length])) hg6.out (by rw [natVals_len, List.length_append]; have := hO6.out; unfold natVals at this ⊢; simpa using this) hat6.out)
              go_roundw
              case rel => exact ⟨k + 1, ns ++ [x], row ++ [ns.length], _, _, _, _, m2 + 1, _, by rw [List.length_append]; rfl, by rw [List.length_append]; rfl, by go_num, hnx.out, by have := hst6.out; rw [List.length_append, List.length_append]; exact this, by rw [List.length_append, List.length_singleton]; have := hfl.out; omega⟩
              case measure => simp [intOf]; omega
        · obtain rfl : k = L.length := by omega
          obtain ⟨hd1, hd2⟩ := hns.done
          have hoR := hid hst2.tab
          have hgi : (nsAt nx L n0 i).getD i 0 = a := by rw [List.getD_eq_getElem?_getD, ha.out]; rfl
          have hxs2 : Hid ((xs ++ [(⟨row.map fun (n : Nat) => (n : Int), AW, cW⟩ : RowV)]).map (·.r) = toRows (rowsTo nx L n0 (i + 1))) := hid (by
            rw [List.map_append, hxs.out]
            unfold toRows
            rw [rowsTo, List.map_append, hgi, ← hd2]
            rfl)
          have hjs2 : Hid (∀ j, j < i + 1 → j < (nsAt nx L n0 j).length) := hid fun j hj => by
            by_cases e : j = i
            · subst e; exact hns.hi
            · exact hjs.out j (by omega)
          replace hd1 := hid hd1
          replace hd2 := hid hd2
          replace hgi := hid hgi
          replace hns := hid hns
          replace hBm := hid hBm
          replace hst2 := hid hst2
          replace hmap := hid hmap
          go_wp2_with (at_builtin; refine wpList_append_own_at _ rfl _ _ 29 rfl w.heap.size 62 j0 (.slice none 0 0) 1 24 Tryd.underlying29 hj0 hy0 hy1 hy2 rfl (by decide) _ _ _ rfl (hoR.out.alloc _) ⟨wr.heap.size, 0, none⟩ 1 1 [.slice AW row.length cW] rfl rfl (cell_one_new _ _ _) (by intro u hu; simp at hu; subst hu; rfl) (by unfold maxLen; omega) (by omega) (by simp; omega) ?_; intro v5 w5 hO5 hg5 _ hat5; obtain ⟨Av5, cv5, ev5, -, -⟩ := own_slice hO5; subst ev5; replace hO5 := hid hO5; replace hg5 := hid hg5; replace hat5 := hid hat5)
          have hst5 := hid (hst2.out.row hg5.out (by have := hO5.out; simpa using this))
          go_roundw
          case rel =>
            have h5 := hst5.out
            rw [hd1.out] at h5
            exact ⟨i + 1, _, _, _, _, _, by rw [hd1.out], by go_num, h5, hxs2.out, hjs2.out, by rw [← hd1.out]; exact hle2⟩
          case measure => simp [intOf]; omega
    · have hres := hid (numRes_ends hjs.out (by omega) hle)
      have hoN := hid (hst.own (v := .slice AN (nsAt nx L n0 i).length cN) (row := nsAt nx L n0 i) List.mem_cons_self)
      have hro := hid (hst.fam.rowsOwn hst.tab)
      have hBf := hst.below
      replace hst := hid hst
      go_wp2_with fail
      refine bodyPost_ret (v := numV _ _ true) (by simp [results, Tryd.results115, go_sem, numV]; exact ⟨rfl, rfl⟩) rfl ⟨hBf, ?_⟩
      rw [hres.out]
      exact ⟨_, _, xs, rfl, hoN.out, hro.out, hxs.out⟩

end Go.Proofs.YtolnlkccbndkcaaDoor

/- The program's ProjectSystem: its closure. -/
namespace Go.Proofs.YtolnlkccbndkcaaDoor
open Go.RowKit Go.BigFrame Go.Maps AG

theorem andNot_all : ∀ a b : Fin 64, bits .andNot .i64 (a.val : Int) (b.val : Int) = (a.val : Int) - ((a.val &&& b.val : Nat) : Int) := by decide +kernel
theorem bits_andNot {a b : Int} (ha : 0 ≤ a ∧ a ≤ 63) (hb : 0 ≤ b ∧ b ≤ 63) : bits .andNot .i64 a b = hidA a b := by
  have := andNot_all ⟨a.toNat, by omega⟩ ⟨b.toNat, by omega⟩
  dsimp only at this
  rw [Int.toNat_of_nonneg ha.1, Int.toNat_of_nonneg hb.1] at this
  exact this
theorem hid_range {a b : Int} (ha : 0 ≤ a ∧ a ≤ 63) : 0 ≤ hidA a b ∧ hidA a b ≤ 63 := by
  have : a.toNat &&& b.toNat ≤ a.toNat := Nat.and_le_left
  unfold hidA andB
  omega
theorem hid_zero {a b : Int} : (hidA a b != 0) = !decide (andB b a = a) := by
  unfold hidA
  rw [andB_comm a b, Bool.eq_iff_iff]
  simp
  omega

set_option maxRecDepth 100000 in
set_option maxHeartbeats 4000000 in
theorem projStep_any (s : Sy) (h : Int) (g bM bH S l : Nat) (A : Option Addr) (c : Nat) (w : World) (hs : edgesIn s) (hS : S < 65536) (hl : l < 6) (hlc : (letters h).length ≤ c) (hcm : c ≤ 9223372036854775807) (hT : Tab w) (hg : MvAt w w.heap.size g (mv s)) (hL : NatsAt w w.heap.size A (letters h))
    (hM : w.cell? ⟨bM, 0, none⟩ = some (.pointer (some ⟨g, 0, none⟩))) (hH : w.cell? ⟨bH, 0, none⟩ = some (.slice A (letters h).length c)) :
    Calls Tryd.prog 117 #[.int .i64 (S : Nat), .int .i64 (l : Nat), .pointer (some ⟨bM, 0, none⟩), .pointer (some ⟨bH, 0, none⟩)] w fun e w' => e = .returned (.int .i64 (prNx s h S l : Nat)) ∧ Below w.heap.size w w' := by
  obtain ⟨X, hX⟩ : ∃ X, Hid (X = unionOf (mv s) S l) := ⟨_, hid rfl⟩
  obtain ⟨Y, hY⟩ : ∃ Y, Hid (Y = reachSet s h X) := ⟨_, hid rfl⟩
  have hXl : X < 65536 := by rw [hX.out]; exact unionOf_lt _ _ _
  have hXY : Hid (prNx s h S l = Y) := hid (by rw [hY.out, hX.out, unionOf_mv s hs]; rfl)
  have y0 : ∀ x, (Fam w.heap.size w x).cell? ⟨bM, 0, none⟩ = some (.pointer (some ⟨g, 0, none⟩)) := fun x => by rw [(Fam.below _ _ x).cell (World.block_lt_of_cell? _ _ hM)]; exact hM
  have y1 : ∀ x, (Fam w.heap.size w x).cell? ⟨bH, 0, none⟩ = some (.slice A (letters h).length c) := fun x => by rw [(Fam.below _ _ x).cell (World.block_lt_of_cell? _ _ hH)]; exact hH
  replace hT := hid hT
  replace hg := hid hg
  replace hL := hid hL
  replace hs := hid hs
  clear hM hH
  go_enter Tryd.func117, Tryd.ntmps117
  go_wp2_with fail
  refine wp_region_grow 8 w.heap.size w (fun i u _ => if i = 4 then u = .int .i64 (X : Nat) else u = .int .i64 (Y : Nat)) (by kernel_rfl) (by kernel_rfl) (Nat.le_refl _) (Below.refl _ _) ?_
  simp only [List.take_succ_cons, List.take_zero, List.drop_succ_cons, List.drop_zero]
  (repeat (refine grow_quiet (by rfl) (by rfl) (by rfl) ?_; intro K hK; go_big_quiet_op; go_big_quiet_on))
  refine grow_val (.int .i64 (X : Nat)) (by rfl) (by rfl) rfl (fun wq hbq _ => ?_) ?_
  · go_simp
    refine ⟨rfl, ?_⟩
    rw [hX.out]
    exact step_any (mv s) g S l wq hl (fun p => mv_lt s p l) hS (hT.out.later hbq) (hg.out.later hbq)
  simp only [Act.put, List.setIfInBounds_toArray, List.set_cons_zero, List.set_cons_succ]
  (repeat (refine grow_quiet (by rfl) (by rfl) (by rfl) ?_; intro K hK; go_big_quiet_op; go_big_quiet_on))
  refine grow_val (.int .i64 (Y : Nat)) (by rfl) (by rfl) rfl (fun wq hbq _ => ?_) ?_
  · go_simp
    refine ⟨rfl, ?_⟩
    rw [hY.out]
    exact closure_any s h g X A c wq hs.out hXl hlc hcm (hT.out.later hbq) (hg.out.later hbq) (hL.out.later hbq)
  simp only [Act.put, List.setIfInBounds_toArray, List.set_cons_zero, List.set_cons_succ]
  (repeat (refine grow_quiet (by rfl) (by rfl) (by rfl) ?_; intro K hK; go_big_quiet_op; go_big_quiet_on))
  refine grow_nil ?_
  intro w1 hb1 hf
  clear hf y0 y1
  go_wp2
  go_ret
  exact ⟨by rw [hXY.out]; rfl, hb1⟩

/-- What is behind a projection. -/
def PrPost (w : World) (a : Au) (ok : Bool) (e : Ending) (w' : World) : Prop :=
  Below w.heap.size w w' ∧ ∃ v1 v2 xs, e = .returned (.tuple #[.agg #[.int .i64 a.al, v1, v2], .bool ok]) ∧ AuOwn w' w.heap.size v1 v2 a xs
theorem AuOwn.nil (w : World) (base : Nat) : AuOwn w base (.slice none 0 0) (.slice none 0 0) auNil [] :=
  ⟨⟨World.ownsRow_nil _ _ _ _, fun x hx => (by cases hx), List.Pairwise.nil⟩, rfl, World.ownsRow_nil _ _ _ _⟩
theorem AuOwn.setFar {w : World} {base : Nat} {v1 v2 : Value} {a : Au} {xs : List RowV} (h : AuOwn w base v1 v2 a xs) {g i : Nat} (hg : g < base) (v : Value) : AuOwn (w.setCell ⟨g, i, none⟩ v) base v1 v2 a xs := by
  have hk : KeepB (fun b => b = g) w (w.setCell ⟨g, i, none⟩ v) := (KeepB.refl _ w).setCell _ _ fun _ => rfl
  exact ⟨h.rows.keep hk (fun b hb e => by have := own_block h.rows.own b hb; omega) (fun x hx b hb e => by have := own_block (h.rows.rows x hx) b hb; omega), h.eq, own_keep h.acc hk fun b hb e => by have := own_block h.acc b hb; omega⟩

end Go.Proofs.YtolnlkccbndkcaaDoor

/- The program's ProjectSystem and Determinize. -/
namespace Go.Proofs.YtolnlkccbndkcaaDoor
open Go.RowKit Go.BigFrame Go.Maps AG

theorem infoBool : (Tryd.prog.info? 4).map (fun i => (i.zero, i.size, i.bytes)) = some (some (.bool false), 1, 1) := by kernel_rfl
theorem isAlphabet_eq (a : Int) : decide (0 ≤ a ∧ a ≤ 63) = alphaOk a := rfl

set_option maxRecDepth 100000 in
set_option maxHeartbeats 8000000 in
theorem implProjectSystem_any (s : Sy) (A : Option Addr) (c : Nat) (al : Int) (w : World) (hl : s.es.length ≤ c) (hc : c ≤ 9223372036854775807) (hT : Tab w) (hr : EdsAt w w.heap.size A s.es) :
    Calls Tryd.prog 46 #[s.val A c, .int .i64 al] w (PrPost w (prA s al) (prK s al)) := by
  unfold Sy.val
  obtain ⟨b0, hbi, hb0, hb1', hb2⟩ := info_parts infoBool
  obtain ⟨w0, hw0, hz0, hB0, hS, hU⟩ := boxed2 w #[Value.int IntKind.i64 s.al, Value.int IntKind.i64 s.st, Value.slice A s.es.length c] 25 #[Value.int IntKind.i64 0, Value.slice none 0 0, Value.slice none 0 0] 32
  have hres : Blk w0 (w.heap.size + 1) 32 #[Value.int IntKind.i64 0, Value.slice none 0 0, Value.slice none 0 0] := by
    rw [← hw0]
    have := Blk.new (w.alloc (.cells #[Value.int IntKind.i64 s.al, Value.int IntKind.i64 s.st, Value.slice A s.es.length c] 25)) 32 #[Value.int IntKind.i64 0, Value.slice none 0 0, Value.slice none 0 0]
    simpa using this
  have hr0 := hid (hr.later hB0)
  have hT0 := hid (hT.later hB0)
  have p0 := hS 0 _ rfl _ (Below.refl _ _)
  have p1 := hS 1 _ rfl _ (Below.refl _ _)
  have p2 := hS 2 _ rfl _ (Below.refl _ _)
  replace hr := hid hr
  replace hT := hid hT
  replace hres := hid hres
  go_enter Tryd.func46, Tryd.ntmps46
  go_wp2_with fail
  refine (implSystemValid_any s A c w0 hl hc hr0.out).mono ?_
  rintro e w1 ⟨rfl, hb1⟩
  have hC1 := hb1.mono hz0
  have hB1 := hB0.trans (hb1.mono hB0.size)
  have hz1 := hb1.size
  clear p0 p1 p2
  have q0 := (hres.out.below hb1 hres.out.lt).cell 0
  have q1 := (hres.out.below hb1 hres.out.lt).cell 1
  have q2 := (hres.out.below hb1 hres.out.lt).cell 2
  have f0 := (hres.out.below hb1 hres.out.lt).frozen 0
  have f1 := (hres.out.below hb1 hres.out.lt).frozen 1
  have f2 := (hres.out.below hb1 hres.out.lt).frozen 2
  simp only [List.getElem?_toArray, List.getElem?_cons_zero, List.getElem?_cons_succ] at q0 q1 q2
  cases hok : sysOk s
  case false =>
    have hbad := hid (prA_bad (s := s) (al := al) (by unfold prOk; rw [hok]; rfl))
    replace hok := hid hok
    go_wp2
    refine bodyPost_ret (v := .tuple #[.agg #[.int .i64 0, .slice none 0 0, .slice none 0 0], .bool false]) (by simp [results, Tryd.results46, go_sem, q0, q1, q2]) rfl ?_
    rw [hbad.out.1, hbad.out.2]
    exact ⟨by (repeat (first | exact Below.refl _ _ | assumption | refine Below.drew ?_ | refine Below.alloc ?_ (by first | omega | (simp; done) | (simp; omega)) _ | refine Below.setCell ?_ (by first | omega | (simp; done) | (simp; omega)) _)), _, _, _, rfl, AuOwn.nil _ _⟩
  case true =>
  have hin := hid (sysOk_in hok)
  have hal := sysOk_alpha hok
  have hok' := hid hok
  clear hok
  go_wp2_with fail
  refine (isAlphabet_any al w1).mono ?_
  rintro e w2 ⟨rfl, rfl⟩
  have p0 := hS 0 _ rfl _ hC1
  have p1 := hS 1 _ rfl _ hC1
  have p2 := hS 2 _ rfl _ hC1
  by_cases haa : 0 ≤ al ∧ al ≤ 63
  case neg =>
    have ha' : alphaOk al = false := decide_eq_false haa
    have hbad := hid (prA_bad (s := s) (al := al) (by unfold prOk; rw [ha']; simp))
    replace haa := hid haa
    rw [ha']
    go_wp2
    refine bodyPost_ret (v := .tuple #[.agg #[.int .i64 0, .slice none 0 0, .slice none 0 0], .bool false]) (by simp [results, Tryd.results46, go_sem, q0, q1, q2]) rfl ?_
    rw [hbad.out.1, hbad.out.2]
    exact ⟨by (repeat (first | exact Below.refl _ _ | assumption | refine Below.drew ?_ | refine Below.alloc ?_ (by first | omega | (simp; done) | (simp; omega)) _ | refine Below.setCell ?_ (by first | omega | (simp; done) | (simp; omega)) _)), _, _, _, rfl, AuOwn.nil _ _⟩
  have haT : alphaOk al = true := decide_eq_true haa
  rw [haT]
  have hbn := bits_andNot haa hal
  have hzz := hid_zero (a := al) (b := s.al)
  by_cases han : andB s.al al = al
  case neg =>
    have ha' : decide (andB s.al al = al) = false := decide_eq_false han
    rw [ha'] at hzz
    have hbad := hid (prA_bad (s := s) (al := al) (by unfold prOk; rw [ha']; simp))
    replace han := hid han
    replace hbn := hid hbn
    go_wp2_with (rw [hbn.out])
    refine bodyPost_ret (v := .tuple #[.agg #[.int .i64 0, .slice none 0 0, .slice none 0 0], .bool false]) (by simp [results, Tryd.results46, go_sem, q0, q1, q2]) rfl ?_
    rw [hbad.out.1, hbad.out.2]
    exact ⟨by (repeat (first | exact Below.refl _ _ | assumption | refine Below.drew ?_ | refine Below.alloc ?_ (by first | omega | (simp; done) | (simp; omega)) _ | refine Below.setCell ?_ (by first | omega | (simp; done) | (simp; omega)) _)), _, _, _, rfl, AuOwn.nil _ _⟩
  rw [decide_eq_true han] at hzz
  have hpk : Hid (prOk s al = true) := hid (by unfold prOk; rw [hok'.out, haT, decide_eq_true han]; rfl)
  replace han := hid han
  go_wp2_with fail
  have hr1 := hid (hr0.out.later hb1)
  refine (movesOf_any s A c w1 hin.out hl hc hr1.out).mono ?_
  rintro e w3 ⟨g, rfl, hg3, hb3⟩
  have hB3 := hB1.trans (hb3.mono hB1.size)
  have hC3 := hC1.trans (hb3.mono (by omega))
  have hz3 := hb3.size
  have hbn2 := bits_andNot hal haa
  clear p0 p1 p2 q0 q1 q2 f0 f1 f2
  have p0 := hS 0 _ rfl _ hC3
  replace hg3 := hid hg3
  go_upto_region 4 with fail
  obtain ⟨w4, hw4, hz4, hB4, hC4⟩ := boxed w3 #[.pointer (some ⟨g, 0, none⟩)] 70
  rw [hw4]
  clear p0
  have p0 := hS 0 _ rfl _ (hC3.trans (hB4.mono (by omega)))
  have hB4' := hB3.trans (hB4.mono hB3.size)
  have hT4 := hid (hT.out.later hB4')
  clear hw4
  go_wp2_with fail
  refine (lettersOf_any (hidA s.al al) w4).mono ?_
  rintro e w5 ⟨lv, rfl, hown5, hb5⟩
  obtain ⟨AH, cH, rfl, hcH, hcH', hLH⟩ := OwnNats.read hown5
  have hB5 := hB4'.trans (hb5.mono hB4'.size)
  have hz5 := hb5.size
  replace hLH := hid hLH
  clear hown5 p0
  go_upto_region 5 with fail
  obtain ⟨w6, hw6, hz6, hB6, hC6⟩ := boxed w5 #[.slice AH (letters (hidA s.al al)).length cH] 62
  rw [hw6]
  clear hw6
  have hB6' := hB5.trans (hB6.mono hB5.size)
  have m0 : w6.cell? ⟨w3.heap.size, 0, none⟩ = some (.pointer (some ⟨g, 0, none⟩)) := hC4 0 _ rfl _ ((hb5.mono hz4).trans (hB6.mono (by omega)))
  have m1 : w6.cell? ⟨w5.heap.size, 0, none⟩ = some (.slice AH (letters (hidA s.al al)).length cH) := hC6 0 _ rfl _ (Below.refl _ _)
  have hT6 := hid (hT.out.later hB6')
  have hg6 := hid (((hg3.out.later hB4).later hb5).later hB6)
  have hL6 := hid (hLH.out.later hB6)
  go_wp2_with fail
  refine (closure_any s (hidA s.al al) g 1 AH cH w6 hin.out (by omega) hcH hcH' hT6.out hg6.out hL6.out).mono ?_
  rintro e w7 ⟨rfl, hb7⟩
  have hB7 := hB6'.trans (hb7.mono hB6'.size)
  have hz7 := hb7.size
  obtain ⟨n0, hn0⟩ : ∃ n0, Hid (n0 = reachSet s (hidA s.al al) 1) := ⟨_, hid rfl⟩
  rw [← hn0.out]
  go_wp2_with fail
  refine (lettersOf_any al w7).mono ?_
  rintro e w8 ⟨lv, rfl, hown8, hb8⟩
  obtain ⟨AL, cL, rfl, hcL, hcL', hLL⟩ := OwnNats.read hown8
  have hB8 := hB7.trans (hb8.mono hB7.size)
  have hz8 := hb8.size
  have hb68 := hb7.trans (hb8.mono hz7)
  have hNum : Hid (NumOk w8 (fun q => q < 65536) (letters al) (prNx s (hidA s.al al)) 117 #[.pointer (some ⟨w3.heap.size, 0, none⟩), .pointer (some ⟨w5.heap.size, 0, none⟩)]) := hid
    ⟨fun args w' => by go_simp, fun w' q l hb hq hl => projStep_any s (hidA s.al al) g w3.heap.size w5.heap.size q l AH cH w' hin.out hq (letters_lt hl).1 hcH hcH' (hT6.out.later (hb68.trans (hb.mono hb68.size))) (hg6.out.later (hb68.trans (hb.mono hb68.size))) (hL6.out.later (hb68.trans (hb.mono hb68.size)))
      (((hb68.trans (hb.mono hb68.size)).cell (World.block_lt_of_cell? _ _ m0)).trans m0) (((hb68.trans (hb.mono hb68.size)).cell (World.block_lt_of_cell? _ _ m1)).trans m1), fun q l _ _ => reachSet_lt _ _ _, fun q hq => by omega⟩
  have hLL' := hid hLL
  clear hown8 hLL m0 m1
  go_wp2_with fail
  refine (numbered_any w8 (fun q => q < 65536) (letters al) (prNx s (hidA s.al al)) 117 _ n0 12 AL cL hNum.out (by rw [hn0.out]; exact reachSet_lt _ _ _) (by omega) (by omega) (lettersTo_len al 6) hcL hcL' hLL'.out).mono ?_
  rintro e w9 ⟨hb9, hpost⟩
  have hB9 := hB8.trans (hb9.mono hB8.size)
  have hz9 := hb9.size
  have hres9 := hres.out.below (hb1.trans ((hb3.trans ((hB4.trans ((hb5.trans ((hB6.trans (hb68.mono hB6.size |>.trans (hb9.mono (by omega)))).mono hz5)).mono hB4.size)).mono hz3)).mono hz1)) hres.out.lt
  have q0 := hres9.cell 0
  have q1 := hres9.cell 1
  have q2 := hres9.cell 2
  have f0 := hres9.frozen 0
  have f1 := hres9.frozen 1
  have f2 := hres9.frozen 2
  simp only [List.getElem?_toArray, List.getElem?_cons_zero, List.getElem?_cons_succ] at q0 q1 q2
  replace hres9 := hid hres9
  have hnum : Hid (prNum s al = numRes (prNx s (hidA s.al al)) (letters al) n0 12) := hid (by rw [hn0.out]; rfl)
  rw [← hnum.out] at hpost
  cases hpn : prNum s al with
  | none =>
    rw [hpn] at hpost
    subst hpost
    have hbad := hid (prA_none (s := s) (al := al) hpn)
    replace hpn := hid hpn
    unfold numV
    go_wp2
    refine bodyPost_ret (v := .tuple #[.agg #[.int .i64 0, .slice none 0 0, .slice none 0 0], .bool false]) (by simp [results, Tryd.results46, go_sem, q0, q1, q2]) rfl ?_
    rw [hbad.out.1, hbad.out.2]
    exact ⟨by (repeat (first | exact Below.refl _ _ | assumption | refine Below.drew ?_ | refine Below.alloc ?_ (by first | omega | (simp; done) | (simp; omega)) _ | refine Below.setCell ?_ (by first | omega | (simp; done) | (simp; omega)) _)), _, _, _, rfl, AuOwn.nil _ _⟩
  | some x =>
    rw [hpn] at hpost
    obtain ⟨v1, v2, xs, rfl, hv1, hv2, hxs⟩ := hpost
    have hgood := hid (prA_some (s := s) (al := al) hpk.out hpn)
    replace hpn := hid hpn
    obtain ⟨AS, cS, rfl, hcS, hcS', hLS⟩ := OwnNats.read hv1
    obtain ⟨AR, cR, rfl, hcR, hcR'⟩ := own_slice hv2.own
    unfold numV
    replace hv1 := hid hv1
    replace hv2 := hid hv2
    replace hLS := hid hLS
    go_wp2_with fail
    have hblk0 := hid (Blk.new w9 32 #[.int .i64 al, .slice AR xs.length cR, .slice none 0 0])
    have hxl : x.1.length ≤ 12 := (numRes_len (hpn.out)).1
    go_loopw [56] (fun iv wr => ∃ (k : Nat) (vA : Value), iv = .int .i64 (k : Nat) ∧ k ≤ x.1.length ∧ Blk wr w9.heap.size 32 #[.int .i64 al, .slice AR xs.length cR, vA] ∧ wr.ownsRow w9.heap.size 4 1 vA k (boolVals ((x.1.take k).map fun S => decide (S ≠ 0))) ∧ Below w9.heap.size w9 wr) (fun iv _ => x.1.length - (intOf iv).toNat)
    case atStart => exact ⟨0, _, rfl, by omega, hblk0.out, World.ownsRow_nil _ _ _ _, (Below.refl _ _).alloc (Nat.le_refl _) _⟩
    case round =>
      clear hblk0 q0 q1 q2 f0 f1 f2
      obtain ⟨k, vA, rfl, hk, hblk, hown, hb⟩ := hrel
      have hzr := hb.size
      obtain ⟨AA, cA, rfl, hcA, hcA'⟩ := own_slice hown
      by_cases hlt : k < x.1.length
      · obtain ⟨bS, oS, hAS, hbS, hcell⟩ := hLS.out.later hb (by omega)
        subst hAS
        have s0 := hcell k hlt
        obtain ⟨S, hS'⟩ : ∃ S, Hid (S = x.1[k]) := ⟨_, hid rfl⟩
        rw [← hS'.out] at s0
        obtain ⟨tb, htb⟩ : ∃ tb, ((S : Int) != 0) = tb := ⟨_, rfl⟩
        have d2 := hblk.cell 2
        simp only [List.getElem?_toArray, List.getElem?_cons_zero, List.getElem?_cons_succ] at d2
        have k1 : (0 : Int) ≤ (k : Int) ∧ (k : Int) < (x.1.length : Int) := by omega
        replace hcell := hid hcell
        have hblk' := hid hblk
        have hown' := hid hown
        clear hblk hown
        go_wp2_with (at_builtin; refine wpList_append_own_at _ rfl _ _ 30 rfl w9.heap.size 4 b0 (.bool false) 1 1 Tryd.underlying30 hbi hb0 hb1' hb2 rfl (by decide) _ _ _ rfl (hown'.out.alloc _) ⟨wr.heap.size, 0, none⟩ 1 1 [.bool tb] rfl rfl (cell_one_new _ _ _) (by intro u hu; simp at hu; subst hu; rfl) (by unfold maxLen; omega) (by omega) (by simp; omega) ?_; intro v5 w5 hO5 hg5 _ hat5; obtain ⟨A5, c5, ev5, -, -⟩ := own_slice hO5; subst ev5; have hk5 := (hb.alloc hzr _).grown hg5 (by simp; omega) (own_block hown'.out); have hbk5 : Blk w5 w9.heap.size 32 #[.int .i64 al, .slice AR xs.length cR, .slice AA k cA] := (hblk'.out.alloc _).keep ((KeepB.refl (fun b => (Value.slice AA k cA).ownBlock = some b) _).grown hg5 (fun k hk _ => hk)) (fun e => own_ne hown'.out hblk'.out (by decide) _ e rfl); have e2 := hbk5.cell 2; have g2 := hbk5.frozen 2; simp only [List.getElem?_toArray, List.getElem?_cons_zero, List.getElem?_cons_succ] at e2; replace hbk5 := hid hbk5; replace hO5 := hid hO5; replace hg5 := hid hg5)
        have hbk6 := hid (hbk5.out.set_ 2 (.slice A5 (k + 1) c5))
        have hO6 := hid (own_keep hO5.out ((KeepB.refl (fun b => b = w9.heap.size) w5).setCell ⟨w9.heap.size, 2, none⟩ (.slice A5 (k + 1) c5) fun _ => rfl) (own_ne hO5.out hbk5.out (by decide)))
        have hb6 := hid (hk5.setCell (p := ⟨w9.heap.size, 2, none⟩) (Nat.le_refl _) (.slice A5 (k + 1) c5))
        go_roundw
        case rel =>
          refine ⟨k + 1, _, by go_num, by omega, by simpa using hbk6.out, ?_, hb6.out⟩
          have := hO6.out
          rw [List.take_succ_eq_append_getElem hlt, List.map_append, ← hS'.out]
          unfold boolVals at this ⊢
          rw [List.map_append]
          have hSb : ((S : Int) != 0) = decide (S ≠ 0) := by rw [Bool.eq_iff_iff]; simp
          rw [← htb, hSb] at this
          exact this
        case measure => simp [intOf]; omega
      · obtain rfl : k = x.1.length := by omega
        rw [List.take_length] at hown
        have d0 := hblk.cell 0
        have d1 := hblk.cell 1
        have d2 := hblk.cell 2
        simp only [List.getElem?_toArray, List.getElem?_cons_zero, List.getElem?_cons_succ] at d0 d1 d2
        have hresr := hres9.out.below hb hres9.out.lt
        have q0 := hresr.cell 0
        have q1 := hresr.cell 1
        have q2 := hresr.cell 2
        have f0 := hresr.frozen 0
        have f1 := hresr.frozen 1
        have f2 := hresr.frozen 2
        simp only [List.getElem?_toArray, List.getElem?_cons_zero, List.getElem?_cons_succ] at q0 q1 q2
        have hsz := hb.size
        have hz1' : w.heap.size + 1 < w8.heap.size := by omega
        have hau : Hid (AuOwn wr w8.heap.size (.slice AR xs.length cR) (.slice AA x.1.length cA) (prAu al x) xs) := hid ⟨hv2.out.later hb, by rw [hxs]; rfl, by
          unfold prAu
          dsimp only
          rw [List.length_map]
          exact own_base hown (by omega)⟩
        have hBr := hB9.trans (hb.mono hB9.size)
        replace hblk := hid hblk
        replace hown := hid hown
        replace hresr := hid hresr
        go_wp2
        refine bodyPost_ret (v := .tuple #[.agg #[.int .i64 al, .slice AR xs.length cR, .slice AA x.1.length cA], .bool true]) (by simp [results, Tryd.results46, go_sem, q0, q1, q2]) rfl ?_
        rw [hgood.out.1, hgood.out.2]
        exact ⟨by (repeat (first | exact Below.refl _ _ | assumption | refine Below.drew ?_ | refine Below.alloc ?_ (by first | omega | (simp; done) | (simp; omega)) _ | refine Below.setCell ?_ (by first | omega | (simp; done) | (simp; omega)) _)), _, _, xs, rfl, (((hau.out.setFar hz1' _).setFar hz1' _).setFar hz1' _).base (by omega)⟩

end Go.Proofs.YtolnlkccbndkcaaDoor

/- The program's Determinize; the reference's l4In and l5Index; what l6Subsets holds in memory. -/
namespace Go.Proofs.YtolnlkccbndkcaaDoor
open Go.RowKit Go.BigFrame Go.Maps AG

set_option maxRecDepth 100000 in
set_option maxHeartbeats 4000000 in
theorem implDeterminize_any (s : Sy) (A : Option Addr) (c : Nat) (w : World) (hl : s.es.length ≤ c) (hc : c ≤ 9223372036854775807) (hT : Tab w) (hr : EdsAt w w.heap.size A s.es) :
    Calls Tryd.prog 16 #[s.val A c] w (PrPost w (prA s s.al) (prK s s.al)) := by
  obtain ⟨w0, hw0, hz0, hB0, hS, hU⟩ := boxed2 w #[Value.int IntKind.i64 s.al, Value.int IntKind.i64 s.st, Value.slice A s.es.length c] 25 #[Value.int IntKind.i64 0, Value.slice none 0 0, Value.slice none 0 0] 32
  have hres : Blk w0 (w.heap.size + 1) 32 #[Value.int IntKind.i64 0, Value.slice none 0 0, Value.slice none 0 0] := by
    rw [← hw0]
    have := Blk.new (w.alloc (.cells #[Value.int IntKind.i64 s.al, Value.int IntKind.i64 s.st, Value.slice A s.es.length c] 25)) 32 #[Value.int IntKind.i64 0, Value.slice none 0 0, Value.slice none 0 0]
    simpa using this
  have hr0 := hid (hr.later hB0)
  have hT0 := hid (hT.later hB0)
  have p0 := hS 0 _ rfl _ (Below.refl _ _)
  have p1 := hS 1 _ rfl _ (Below.refl _ _)
  have p2 := hS 2 _ rfl _ (Below.refl _ _)
  replace hr := hid hr
  replace hT := hid hT
  replace hres := hid hres
  unfold Sy.val
  go_enter Tryd.func16, Tryd.ntmps16
  go_wp2_with fail
  refine (implProjectSystem_any s A c s.al w0 hl hc hT0.out hr0.out).mono ?_
  rintro e w1 ⟨hb1, v1, v2, xs, rfl, hau⟩
  have hB1 := hB0.trans (hb1.mono hB0.size)
  have hres1 := hres.out.below hb1 hres.out.lt
  have q0 := hres1.cell 0
  have q1 := hres1.cell 1
  have q2 := hres1.cell 2
  have f0 := hres1.frozen 0
  have f1 := hres1.frozen 1
  have f2 := hres1.frozen 2
  simp only [List.getElem?_toArray, List.getElem?_cons_zero, List.getElem?_cons_succ] at q0 q1 q2
  clear p0 p1 p2 hw0
  have hg : w.heap.size + 1 < w0.heap.size := by omega
  have hf : Hid (∀ u v z, AuOwn (((w1.setCell ⟨w.heap.size + 1, 0, none⟩ u).setCell ⟨w.heap.size + 1, 1, none⟩ v).setCell ⟨w.heap.size + 1, 2, none⟩ z) w.heap.size v1 v2 (prA s s.al) xs) := hid fun u v z => (((hau.setFar hg u).setFar hg v).setFar hg z).base (by omega)
  obtain ⟨A1, c1, B1, d1, rfl, rfl, -⟩ := hau.at_
  replace hau := hid hau
  replace hres1 := hid hres1
  obtain ⟨a, ha⟩ : ∃ a, a = prA s s.al := ⟨_, rfl⟩
  obtain ⟨ok, hok⟩ : ∃ ok, ok = prK s s.al := ⟨_, rfl⟩
  rw [← ha] at hf ⊢
  rw [← hok]
  replace ha := hid ha
  replace hok := hid hok
  go_wp2
  refine bodyPost_ret (v := .tuple #[.agg #[.int .i64 a.al, .slice A1 a.nx.length c1, .slice B1 a.ac.length d1], .bool ok]) (by simp [results, Tryd.results16, go_sem, q0, q1, q2]) rfl ?_
  have ha' := ha.out
  have hok' := hok.out
  subst ha'
  subst hok'
  exact ⟨by (repeat (first | exact Below.refl _ _ | assumption | refine Below.drew ?_ | refine Below.alloc ?_ (by first | omega | (simp; done) | (simp; omega)) _ | refine Below.setCell ?_ (by first | omega | (simp; done) | (simp; omega)) _)), _, _, xs, rfl, hf.out _ _ _⟩

set_option maxRecDepth 100000 in
set_option maxHeartbeats 1000000 in
theorem l4In_any (ns : List Nat) (x : Nat) (A : Option Addr) (c : Nat) (w : World) (hl : ns.length ≤ c) (hc : c ≤ 9223372036854775807) (hr : NatsAt w w.heap.size A ns) :
    Calls Tryd.prog 166 #[.slice A ns.length c, .int .i64 (x : Nat)] w fun e w' => e = .returned (.bool (decide (x ∈ ns))) ∧ w = w' := by
  replace hr := hid hr
  go_enter Tryd.func166, Tryd.ntmps166
  go_wp2_with fail
  go_loopw [5] (fun i wr => ∃ k : Nat, i = .int .i64 (k : Nat) ∧ k ≤ ns.length ∧ x ∉ ns.take k ∧ w = wr) (fun i _ => ns.length - (intOf i).toNat)
  case atStart => exact ⟨0, rfl, by omega, by simp, by first | rfl | trivial⟩
  case round =>
    obtain ⟨k, rfl, hk, hn, rfl⟩ := hrel
    by_cases hlt : k < ns.length
    · obtain ⟨b, o, hA, hB, hE⟩ := hr.out (by omega)
      subst hA
      have e0 := hE k hlt
      obtain ⟨y, hy⟩ : ∃ y, Hid (y = ns[k]) := ⟨_, hid rfl⟩
      rw [← hy.out] at e0
      have k1 : (0 : Int) ≤ (k : Int) ∧ (k : Int) < (ns.length : Int) := by omega
      replace hE := hid hE
      replace hn := hid hn
      by_cases hxy : y = x
      · have hq : ((y : Int) == (x : Int)) = true := by simp; omega
        have hin : Hid (x ∈ ns) := hid (by rw [← hxy, hy.out]; exact List.getElem_mem _)
        replace hxy := hid hxy
        go_wp2
        go_ret
        exact ⟨ret_bool (decide_eq_true hin.out).symm, by first | rfl | trivial⟩
      · have hq : ((y : Int) == (x : Int)) = false := by simp; omega
        replace hxy := hid hxy
        go_wp2
        go_roundw
        case rel =>
          refine ⟨k + 1, by go_num, by omega, ?_, by first | rfl | trivial⟩
          rw [List.take_succ_eq_append_getElem hlt, List.mem_append, List.mem_singleton, ← hy.out]
          rintro (h | h)
          · exact hn.out h
          · exact hxy.out h.symm
        case measure => simp [intOf]; omega
    · rw [List.take_of_length_le (by omega)] at hn
      replace hn := hid hn
      go_wp2
      go_ret
      exact ⟨ret_bool (decide_eq_false hn.out).symm, by first | rfl | trivial⟩

set_option maxRecDepth 100000 in
set_option maxHeartbeats 1000000 in
theorem l5Index_any (ns : List Nat) (x : Nat) (A : Option Addr) (c : Nat) (w : World) (hx : x ∈ ns) (hl : ns.length ≤ c) (hc : c ≤ 9223372036854775807) (hr : NatsAt w w.heap.size A ns) :
    Calls Tryd.prog 167 #[.slice A ns.length c, .int .i64 (x : Nat)] w fun e w' => e = .returned (.int .i64 (ns.idxOf x : Nat)) ∧ w = w' := by
  have hi : ns.idxOf x < ns.length := List.idxOf_lt_length_iff.2 hx
  replace hr := hid hr
  replace hx := hid hx
  go_enter Tryd.func167, Tryd.ntmps167
  go_wp2_with fail
  go_loopw [5] (fun i wr => ∃ k : Nat, i = .int .i64 (k : Nat) ∧ k ≤ ns.idxOf x ∧ w = wr) (fun i _ => ns.length - (intOf i).toNat)
  case atStart => exact ⟨0, rfl, by omega, by first | rfl | trivial⟩
  case round =>
    obtain ⟨k, rfl, hk, rfl⟩ := hrel
    obtain ⟨b, o, hA, hB, hE⟩ := hr.out (by omega)
    subst hA
    have hlt : k < ns.length := by omega
    have e0 := hE k hlt
    obtain ⟨y, hy⟩ : ∃ y, Hid (y = ns[k]) := ⟨_, hid rfl⟩
    rw [← hy.out] at e0
    have k1 : (0 : Int) ≤ (k : Int) ∧ (k : Int) < (ns.length : Int) := by omega
    replace hE := hid hE
    by_cases hxy : y = x
    · have hq : ((y : Int) != (x : Int)) = false := by simp; omega
      have hkk : Hid (k = ns.idxOf x) := hid (by
        rcases Nat.lt_or_ge k (ns.idxOf x) with h | h
        · have h2 : ns.idxOf x ≤ k := by
            have h3 : ns = ns.take k ++ ns.drop k := (List.take_append_drop k ns).symm
            have h4 : ns.drop k = ns[k] :: ns.drop (k + 1) := List.drop_eq_getElem_cons hlt
            have h5 : ns.idxOf x ≤ (ns.take k).length := by
              conv => lhs; rw [h3, h4, ← hy.out, hxy]
              rw [List.idxOf_append]
              split
              · rename_i hm
                exact Nat.le_of_lt (List.idxOf_lt_length_iff.2 hm)
              · simp
            rw [List.length_take] at h5
            omega
          omega
        · omega)
      replace hxy := hid hxy
      go_wp2
      go_ret
      exact ⟨ret_int (by rw [← hkk.out]), by first | rfl | trivial⟩
    · have hq : ((y : Int) != (x : Int)) = true := by simp; omega
      have hkn : k ≠ ns.idxOf x := fun e => hxy (by rw [hy.out]; subst e; exact List.getElem_idxOf hlt)
      replace hxy := hid hxy
      go_wp2
      go_roundw
      case rel => exact ⟨k + 1, by go_num, by omega, by first | rfl | trivial⟩
      case measure => simp [intOf]; omega

end Go.Proofs.YtolnlkccbndkcaaDoor

/- The reference's l6Subsets. -/
namespace Go.Proofs.YtolnlkccbndkcaaDoor
open Go.RowKit Go.BigFrame Go.Maps AG

/-- What l6Subsets holds in memory. -/
structure L6 (w2 wr : World) (gO : Nat) (al : Int) (vR : Value) (xs : List RowV) (vA : Value) (acs : List Bool) (fs : List (Value × List Value)) : Prop where
  below : Below w2.heap.size w2 wr
  ge : w2.heap.size ≤ gO
  fam : Fam3 wr w2.heap.size fs
  tab : wr.ownsRow w2.heap.size 62 1 vR xs.length (rowVals xs)
  acc : wr.ownsRow w2.heap.size 4 1 vA acs.length (boolVals acs)
  blk : Blk wr gO 32 #[.int .i64 al, vR, vA]
section
variable {w2 wr w1 w' : World} {gO : Nat} {al : Int} {vR vA : Value} {xs : List RowV} {acs : List Bool} {fs l1 l2 : List (Value × List Value)} {f : Value × List Value}
theorem L6.later (h : L6 w2 wr gO al vR xs vA acs fs) (hb : Below wr.heap.size wr w') : L6 w2 w' gO al vR xs vA acs fs :=
  ⟨h.below.trans (hb.mono h.below.size), h.ge, h.fam.later hb, own_later_ h.tab hb, own_later_ h.acc hb, h.blk.below hb h.blk.lt⟩
theorem L6.fs_ (h : L6 w2 wr gO al vR xs vA acs fs) {fs' : List (Value × List Value)} (hf : Fam3 wr w2.heap.size fs → Fam3 wr w2.heap.size fs') : L6 w2 wr gO al vR xs vA acs fs' := ⟨h.below, h.ge, hf h.fam, h.tab, h.acc, h.blk⟩
theorem L6.own {v : Value} {row : List Nat} (h : L6 w2 wr gO al vR xs vA acs fs) (hf : (v, natVals row) ∈ fs) : wr.ownsRow w2.heap.size 3 1 v row.length (natVals row) := by
  have := h.fam.rows _ hf
  rwa [natVals_len] at this
theorem L6.app {v' : Value} {ys' : List Value} {o : Obj} (h : L6 w2 wr gO al vR xs vA acs (l1 ++ f :: l2)) (hg : (wr.alloc o).grownBy w1 f.1.ownBlock)
    (ho : w1.ownsRow w2.heap.size 3 1 v' ys'.length ys') (hat : v'.ownBlock = f.1.ownBlock ∨ v'.ownBlock = some (wr.alloc o).heap.size) : L6 w2 w1 gO al vR xs vA acs (l1 ++ (v', ys') :: l2) := by
  have hf := h.fam.rows f (by simp)
  have hkA : KeepB (fun b => f.1.ownBlock = some b) wr w1 := ((KeepB.refl _ wr).alloc o).grown hg fun k hk _ => hk
  exact ⟨hkA.below h.below h.below.size fun b e => own_block hf b e, h.ge, h.fam.app hg ho hat, own_keep h.tab hkA fun g hg e => own_ne_own h.tab hf (by decide) g g hg e rfl, own_keep h.acc hkA fun g hg e => own_ne_own h.acc hf (by decide) g g hg e rfl, h.blk.keep hkA fun e => own_ne hf h.blk (by decide) _ e rfl⟩
/-- The row goes into the table. -/
theorem L6.row {row : List Nat} {vR' : Value} {A : Option Addr} {c : Nat} {o : Obj} (h : L6 w2 wr gO al vR xs vA acs (f :: (.slice A row.length c, natVals row) :: famOf xs)) (hg : (wr.alloc o).grownBy w1 vR.ownBlock)
    (ho : w1.ownsRow w2.heap.size 62 1 vR' (xs.length + 1) (rowVals xs ++ [.slice A row.length c])) : L6 w2 (w1.setCell ⟨gO, 1, none⟩ vR') gO al vR' (xs ++ [⟨row.map fun (n : Nat) => (n : Int), A, c⟩]) vA acs (f :: famOf (xs ++ [⟨row.map fun (n : Nat) => (n : Int), A, c⟩])) := by
  have hkA : KeepB (fun b => vR.ownBlock = some b) wr w1 := ((KeepB.refl _ wr).alloc o).grown hg fun k hk _ => hk
  have hblk1 : Blk w1 gO 32 #[.int .i64 al, vR, vA] := h.blk.keep hkA fun e => own_ne h.tab h.blk (by decide) _ e rfl
  have hkB : KeepB (fun b => b = gO) w1 (w1.setCell ⟨gO, 1, none⟩ vR') := (KeepB.refl _ w1).setCell _ _ fun _ => rfl
  have hb1 : Below w2.heap.size w2 w1 := hkA.below h.below h.below.size fun b e => own_block h.tab b e
  refine ⟨hkB.below hb1 hb1.size fun b e => by rw [e]; exact h.ge, h.ge, ?_, ?_, ?_, by simpa using hblk1.set_ 1 vR'⟩
  · have h1 := h.fam.keep hkA fun f hf g hg e => own_ne_own h.tab (h.fam.rows f hf) (by decide) g g e hg rfl
    exact (h1.keep hkB fun f hf g hg e => own_ne (h1.rows f hf) hblk1 (by decide) g hg e).into
  · have h2 : w1.ownsRow w2.heap.size 62 1 vR' (xs ++ [(⟨row.map fun (n : Nat) => (n : Int), A, c⟩ : RowV)]).length (rowVals (xs ++ [⟨row.map fun (n : Nat) => (n : Int), A, c⟩])) := by
      unfold rowVals at ho ⊢
      rw [List.length_append, List.map_append]
      unfold RowV.v at ho ⊢
      simpa using ho
    exact own_keep h2 hkB (own_ne h2 hblk1 (by decide))
  · have h3 := own_keep h.acc hkA fun g hg e => own_ne_own h.acc h.tab (by decide) g g hg e rfl
    exact own_keep h3 hkB (own_ne h3 hblk1 (by decide))
/-- Whether a node is accepting. -/
theorem L6.put {vA' : Value} {t : Bool} (h : L6 w2 wr gO al vR xs vA acs fs) (hg : wr.grownBy w1 vA.ownBlock)
    (ho : w1.ownsRow w2.heap.size 4 1 vA' (acs.length + 1) (boolVals acs ++ [.bool t])) : L6 w2 (w1.setCell ⟨gO, 2, none⟩ vA') gO al vR xs vA' (acs ++ [t]) fs := by
  have hkA : KeepB (fun b => vA.ownBlock = some b) wr w1 := (KeepB.refl _ wr).grown hg fun k hk _ => hk
  have hblk1 : Blk w1 gO 32 #[.int .i64 al, vR, vA] := h.blk.keep hkA fun e => own_ne h.acc h.blk (by decide) _ e rfl
  have hkB : KeepB (fun b => b = gO) w1 (w1.setCell ⟨gO, 2, none⟩ vA') := (KeepB.refl _ w1).setCell _ _ fun _ => rfl
  have hb1 : Below w2.heap.size w2 w1 := hkA.below h.below h.below.size fun b e => own_block h.acc b e
  refine ⟨hkB.below hb1 hb1.size fun b e => by rw [e]; exact h.ge, h.ge, ?_, ?_, ?_, by simpa using hblk1.set_ 2 vA'⟩
  · have h1 := h.fam.keep hkA fun f hf g hg e => own_ne_own h.acc (h.fam.rows f hf) (by decide) g g e hg rfl
    exact h1.keep hkB fun f hf g hg e => own_ne (h1.rows f hf) hblk1 (by decide) g hg e
  · have h3 := own_keep h.tab hkA fun g hg e => own_ne_own h.tab h.acc (by decide) g g hg e rfl
    exact own_keep h3 hkB (own_ne h3 hblk1 (by decide))
  · have h2 : w1.ownsRow w2.heap.size 4 1 vA' (acs ++ [t]).length (boolVals (acs ++ [t])) := by
      unfold boolVals at ho ⊢
      rw [List.length_append, List.map_append]
      exact ho
    exact own_keep h2 hkB (own_ne h2 hblk1 (by decide))
/-- A fresh empty row. -/
theorem Fam3.fresh {w : World} {base : Nat} {f : Value × List Value} {fs : List (Value × List Value)} (h : Fam3 w base (f :: fs)) (hb : base ≤ w.heap.size) : Fam3 (w.alloc (.cells #[] 3)) base (f :: (.slice (some ⟨w.heap.size, 0, none⟩) 0 0, []) :: fs) := by
  have hl := h.later ((Below.refl _ w).alloc (Nat.le_refl _) (.cells #[] 3))
  have hlt : ∀ y ∈ f :: fs, ∀ g, y.1.ownBlock = some g → g < w.heap.size := fun y hy g e => ((h.rows y hy).lt g e).2
  obtain ⟨h2, h3⟩ := hl
  rw [List.pairwise_cons] at h3
  refine ⟨fun y hy => ?_, ?_⟩
  · rw [List.mem_cons, List.mem_cons] at hy
    rcases hy with rfl | rfl | hy
    · exact h2 _ List.mem_cons_self
    · exact ⟨rfl, .inr ⟨w.heap.size, 0, #[], rfl, hb, heap_alloc_self _ _, Nat.le_refl _, Nat.zero_le _, rfl, rfl⟩⟩
    · exact h2 y (List.mem_cons_of_mem _ hy)
  · rw [List.pairwise_cons, List.pairwise_cons]
    refine ⟨fun y hy k e e' => ?_, ⟨fun y hy k e e' => ?_, h3.2⟩⟩
    · rcases List.mem_cons.1 hy with rfl | hy
      · have := hlt f List.mem_cons_self k e
        injection e' with e'
        simp at e'
        omega
      · exact h3.1 y hy k e e'
    · have := hlt y (List.mem_cons_of_mem _ hy) k e'
      injection e with e
      simp at e
      omega
theorem L6.fresh (h : L6 w2 wr gO al vR xs vA acs (f :: fs)) : L6 w2 (wr.alloc (.cells #[] 3)) gO al vR xs vA acs (f :: (.slice (some ⟨wr.heap.size, 0, none⟩) 0 0, []) :: fs) :=
  have hb : Below wr.heap.size wr (wr.alloc (.cells #[] 3)) := (Below.refl _ wr).alloc (Nat.le_refl _) _
  ⟨h.below.trans (hb.mono h.below.size), h.ge, h.fam.fresh h.below.size, own_later_ h.tab hb, own_later_ h.acc hb, h.blk.below hb h.blk.lt⟩
end
theorem OwnN.read {w : World} {B : Nat} {v : Value} {ns : List Nat} (h : w.ownsRow B 3 1 v ns.length (natVals ns)) : ∃ A c, v = .slice A ns.length c ∧ ns.length ≤ c ∧ c ≤ 9223372036854775807 ∧ NatsAt w w.heap.size A ns := OwnNats.read h

set_option maxRecDepth 100000 in
set_option maxHeartbeats 16000000 in
theorem l6Subsets_any (s : Sy) (A : Option Addr) (c : Nat) (al : Int) (w : World) (hin : edgesIn s) (hal : 0 ≤ s.al ∧ s.al ≤ 63) (haa : 0 ≤ al ∧ al ≤ 63) (hl : s.es.length ≤ c) (hc : c ≤ 9223372036854775807) (hr : EdsAt w w.heap.size A s.es) :
    Calls Tryd.prog 119 #[s.val A c, .int .i64 al] w (PrPost w ((prNum s al).elim auNil (prAu al)) (prNum s al).isSome) := by
  unfold Sy.val
  obtain ⟨i0, hi, hz0, hz1, hz2⟩ := info_parts infoInt
  obtain ⟨j0, hj0, hy0, hy1, hy2⟩ := info_parts infoInts
  obtain ⟨b0, hbi, hb0, hb1', hb2'⟩ := info_parts infoBool
  obtain ⟨w0, hw0, hzz0, hB0, hS, hU⟩ := boxed2 w #[Value.int IntKind.i64 s.al, Value.int IntKind.i64 s.st, Value.slice A s.es.length c] 25 #[Value.int IntKind.i64 0, Value.slice none 0 0, Value.slice none 0 0] 32
  have hres : Blk w0 (w.heap.size + 1) 32 #[Value.int IntKind.i64 0, Value.slice none 0 0, Value.slice none 0 0] := by
    rw [← hw0]
    have := Blk.new (w.alloc (.cells #[Value.int IntKind.i64 s.al, Value.int IntKind.i64 s.st, Value.slice A s.es.length c] 25)) 32 #[Value.int IntKind.i64 0, Value.slice none 0 0, Value.slice none 0 0]
    simpa using this
  have hr0 := hid (hr.later hB0)
  have p0 := hS 0 _ rfl _ (Below.refl _ _)
  have hand := bits_and (show 0 ≤ s.al ∧ s.al < 9223372036854775808 by omega) (show 0 ≤ al ∧ al < 9223372036854775808 by omega)
  have hrng := andB_range (a := s.al) haa
  have hhr := hid_range (b := al) hal
  have hhid : s.al - andB s.al al = hidA s.al al := rfl
  replace hr := hid hr
  replace hres := hid hres
  replace hin := hid hin
  go_enter Tryd.func119, Tryd.ntmps119
  go_wp2_with fail
  refine (l1Letters_any al w0).mono ?_
  rintro e w2 ⟨lv, rfl, hown2, hb2⟩
  obtain ⟨AL, cL, rfl, hcL, hcL', hLL⟩ := OwnNats.read hown2
  have hB2 := hB0.trans (hb2.mono hB0.size)
  have hz2' := hb2.size
  have hC2 := hb2.mono hzz0
  have hr2 := hid (hr0.out.later hb2)
  have hsys : Hid (∀ w', Below w2.heap.size w2 w' → w'.cell? ⟨w.heap.size, 0, none⟩ = some (.int .i64 s.al) ∧ w'.cell? ⟨w.heap.size, 1, none⟩ = some (.int .i64 s.st) ∧ w'.cell? ⟨w.heap.size, 2, none⟩ = some (.slice A s.es.length c)) := hid fun w' hb => ⟨hS 0 _ rfl _ (hC2.trans (hb.mono (by omega))), hS 1 _ rfl _ (hC2.trans (hb.mono (by omega))), hS 2 _ rfl _ (hC2.trans (hb.mono (by omega)))⟩
  clear p0
  obtain ⟨p0, p1, p2⟩ := hsys.out w2 (Below.refl _ _)
  obtain ⟨L, hLe⟩ : ∃ L, Hid (L = letters al) := ⟨_, hid rfl⟩
  rw [← hLe.out] at hcL hLL ⊢
  have hL6 : L.length ≤ 6 := by rw [hLe.out]; exact lettersTo_len al 6
  have hl6 : Hid (∀ l ∈ L, l < 6) := hid fun l hl => (letters_lt (by rw [← hLe.out]; exact hl)).1
  obtain ⟨h, hh⟩ : ∃ h, h = hidA s.al al := ⟨_, rfl⟩
  rw [← hh]
  obtain ⟨n0, hn0⟩ : ∃ n0, Hid (n0 = reachSet s h 1) := ⟨_, hid rfl⟩
  have hnum : Hid (prNum s al = numRes (prNx s h) L n0 12) := hid (by rw [hn0.out, hLe.out, hh]; rfl)
  have hres2 := hid (hres.out.below hb2 hres.out.lt)
  have hLL' := hid hLL
  replace hh := hid hh
  clear hown2 hLL hw0
  go_wp2_with fail
  refine (l2Reach_any s A c 1 h w2 hin.out (by omega) hl hc hr2.out).mono ?_
  rintro e w3 ⟨rfl, hb3⟩
  rw [← hn0.out]
  have hz3 := hb3.size
  clear p0 p1 p2
  obtain ⟨nx, hnx⟩ : ∃ nx, Hid (nx = prNx s h) := ⟨_, hid rfl⟩
  rw [← hnx.out] at hnum
  have hst0 : Hid (L6 w2 ((w3.alloc (.cells #[.int .i64 (n0 : Nat)] 3)).alloc (.cells #[.int .i64 al, .slice none 0 0, .slice none 0 0] 32)) (w3.heap.size + 1) al (.slice none 0 0) [] (.slice none 0 0) [] [(.slice (some ⟨w3.heap.size, 0, none⟩) 1 1, natVals [n0])]) := hid (by
    have hb4 : Below w3.heap.size w3 ((w3.alloc (.cells #[.int .i64 (n0 : Nat)] 3)).alloc (.cells #[.int .i64 al, .slice none 0 0, .slice none 0 0] 32)) := ((Below.refl _ _).alloc (Nat.le_refl _) _).alloc (by simp) _
    refine ⟨hb3.trans (hb4.mono hz3), by omega, ⟨fun f hf => ?_, List.pairwise_singleton _ _⟩, World.ownsRow_nil _ _ _ _, World.ownsRow_nil _ _ _ _, by simpa using Blk.new (w3.alloc (.cells #[.int .i64 (n0 : Nat)] 3)) 32 #[.int .i64 al, .slice none 0 0, .slice none 0 0]⟩
    rw [List.mem_singleton] at hf
    subst hf
    refine World.ownsRow.alloc ?_ _
    exact ⟨rfl, .inr ⟨w3.heap.size, 1, #[.int .i64 (n0 : Nat)], rfl, hz3, heap_alloc_self _ _, Nat.le_refl _, by unfold maxLen; omega, rfl, rfl⟩⟩)
  go_wp2_with fail
  go_loopw [8, 10] (fun vN iv wr => ∃ (i : Nat) (AN : Option Addr) (cN : Nat) (vR vA : Value) (xs : List RowV), vN = .slice AN (nsAt nx L n0 i).length cN ∧ iv = .int .i64 (i : Nat) ∧ L6 w2 wr (w3.heap.size + 1) al vR xs vA (((nsAt nx L n0 i).take i).map fun S => decide (S ≠ 0)) ((.slice AN (nsAt nx L n0 i).length cN, natVals (nsAt nx L n0 i)) :: famOf xs) ∧ xs.map (·.r) = toRows (rowsTo nx L n0 i) ∧ (∀ j, j < i → j < (nsAt nx L n0 j).length) ∧ (nsAt nx L n0 i).length ≤ 12) (fun _ iv _ => 12 - (intOf iv).toNat)
  case atStart => exact ⟨0, _, _, _, _, [], rfl, rfl, hst0.out, rfl, fun j hj => by omega, by rw [nsAt_zero]; simp⟩
  case round =>
    clear hst0
    obtain ⟨i, AN, cN, vR, vA, xs, rfl, rfl, hst, hxs, hjs, hle⟩ := hrel
    have hxl : xs.length = i := by
      have := congrArg List.length hxs
      rw [List.length_map, toRows_len, rowsTo_len] at this
      exact this
    have hil : i ≤ 12 := by
      rcases Nat.eq_zero_or_pos i with h | h
      · omega
      · have h1 := hjs (i - 1) (by omega)
        obtain ⟨mm, hm⟩ := nsAt_pre nx L n0 (i - 1) 1
        rw [show i - 1 + 1 = i from by omega] at hm
        have := congrArg List.length hm
        rw [List.length_append] at this
        omega
    obtain ⟨AR, cR, rfl, -, -⟩ := own_slice hst.tab
    obtain ⟨AA, cA, rfl, -, -⟩ := own_slice hst.acc
    have hxl4 : xs.length ≤ 12 := by omega
    replace hxl := hid hxl
    replace hjs := hid hjs
    replace hxs := hid hxs
    by_cases hlt : i < (nsAt nx L n0 i).length
    · obtain ⟨a, ha⟩ : ∃ a, Hid ((nsAt nx L n0 i)[i]? = some a) := ⟨_, hid (List.getElem?_eq_getElem hlt)⟩
      have hns := hid (NumSt.start hlt ha.out)
      have hsm : Hid (∀ q ∈ nsAt nx L n0 i, q < 65536) := hid (nsAt_all (P := fun q => q < 65536) (by rw [hn0.out]; exact reachSet_lt _ _ _) (fun q _ l _ => by rw [hnx.out]; exact reachSet_lt _ _ _) i)
      have ha16 : a < 65536 := hsm.out a (List.mem_of_getElem? ha.out)
      have hfr := hid hst.fresh
      obtain ⟨acs, hacs⟩ : ∃ acs, Hid (acs = ((nsAt nx L n0 i).take i).map fun S => decide (S ≠ 0)) := ⟨_, hid rfl⟩
      have hal2 : acs.length ≤ 12 := by rw [hacs.out, List.length_map, List.length_take]; omega
      rw [← hacs.out] at hfr hst
      replace hst := hid hst
      obtain ⟨n1, hn1⟩ : ∃ n1, Hid (n1 = nsAt nx L n0 i) := ⟨_, hid rfl⟩
      rw [← hn1.out] at hlt hle hns hfr ⊢
      go_wp2_with fail
      go_loopw [8, 11, 12] (fun vN vW kv wr => ∃ (k : Nat) (ns row : List Nat) (AN : Option Addr) (cN : Nat) (AW : Option Addr) (cW : Nat), vN = .slice AN ns.length cN ∧ vW = .slice AW row.length cW ∧ kv = .int .i64 (k : Nat) ∧ NumSt nx L n0 i k ns row a ∧ L6 w2 wr (w3.heap.size + 1) al (.slice AR xs.length cR) xs (.slice AA acs.length cA) acs ((.slice AN ns.length cN, natVals ns) :: (.slice AW row.length cW, natVals row) :: famOf xs) ∧ ns.length ≤ 12 + k) (fun _ _ kv _ => L.length - (intOf kv).toNat)
      case atStart => exact ⟨0, n1, [], _, _, _, 0, rfl, rfl, rfl, hns.out, hfr.out, by omega⟩
      case round =>
        clear hfr hns
        obtain ⟨k, ns, row, AN2, cN2, AW, cW, rfl, rfl, rfl, hns, hst2, hle2⟩ := hrel
        have hk := hns.hk
        have hrl : row.length = k := by
          rw [hns.hrow, List.length_map, List.length_take]
          omega
        have hrl6 : row.length ≤ 6 := by omega
        replace hrl := hid hrl
        have hBm := hst2.below
        have hszm := hBm.size
        have hail : i < ns.length := by
          have h1 := hlt
          rw [hn1.out] at h1
          obtain ⟨mm, hm⟩ := rowN_pre nx a (L.take k) (nsAt nx L n0 i)
          rw [hns.hns, hm, List.length_append]
          omega
        have hani : ns[i]'hail = a := by
          obtain ⟨mm, hm⟩ := rowN_pre nx a (L.take k) (nsAt nx L n0 i)
          have h1 : ns[i]? = some a := by
            rw [hns.hns, hm, List.getElem?_append_left hns.hi]
            exact hns.ha
          rw [List.getElem?_eq_getElem hail] at h1
          injection h1
        have hoN := hst2.own (v := .slice AN2 ns.length cN2) (row := ns) List.mem_cons_self
        obtain ⟨gN, capN', hve, hgN0, hgN, hcN1, hcN2, hcN⟩ := own_shape hoN (by omega)
        injection hve with e1 e2 e3
        subst e1
        subst e3
        clear e2
        by_cases hkl : k < L.length
        · have hLr := hLL'.out.later hBm
          obtain ⟨bL, oL, hAe, hbL, hcL3⟩ := hLr (by omega)
          subst hAe
          have l0 := hcL3 k hkl
          have a0 := hcN i _ (show (natVals ns)[i]? = some (.int .i64 (a : Nat)) from by unfold natVals; simp [hail, hani])
          obtain ⟨l, hl'⟩ : ∃ l, Hid (l = L[k]) := ⟨_, hid rfl⟩
          have hll6 : l < 6 := hl6.out l (by rw [hl'.out]; exact List.getElem_mem _)
          rw [← hl'.out] at l0
          have hnxt := hns.next hkl
          rw [← hl'.out] at hnxt
          obtain ⟨X, hX⟩ : ∃ X, Hid (X = stepSet s a (l : Int)) := ⟨_, hid rfl⟩
          have hXl : X < 65536 := by rw [hX.out]; exact stepSet_lt _ _ _
          obtain ⟨x, hx⟩ : ∃ x, Hid (x = nx a l) := ⟨_, hid rfl⟩
          have hxR : Hid (reachSet s h X = x) := hid (by rw [hx.out, hX.out, hnx.out]; rfl)
          have hx16 : x < 65536 := by rw [← hxR.out]; exact reachSet_lt _ _ _
          rw [← hx.out] at hnxt
          have k1 : (0 : Int) ≤ (k : Int) ∧ (k : Int) < (L.length : Int) ∧ (0 : Int) ≤ (i : Int) ∧ (i : Int) < (ns.length : Int) := by omega
          have y0 : ∀ x', (Fam wr.heap.size wr x').cell? ⟨w.heap.size, 0, none⟩ = some (.int .i64 s.al) := fun x' => (hsys.out _ (hBm.trans ((Fam.below wr.heap.size wr x').mono hszm))).1
          have y1 : ∀ x', (Fam wr.heap.size wr x').cell? ⟨w.heap.size, 1, none⟩ = some (.int .i64 s.st) := fun x' => (hsys.out _ (hBm.trans ((Fam.below wr.heap.size wr x').mono hszm))).2.1
          have y2 : ∀ x', (Fam wr.heap.size wr x').cell? ⟨w.heap.size, 2, none⟩ = some (.slice A s.es.length c) := fun x' => (hsys.out _ (hBm.trans ((Fam.below wr.heap.size wr x').mono hszm))).2.2
          have y3 : ∀ x', (Fam wr.heap.size wr x').cell? ⟨bL, oL + k, none⟩ = some (.int .i64 (l : Nat)) := fun x' => by rw [(Fam.below wr.heap.size wr x').cell (by simpa using hbL)]; exact l0
          have y4 : ∀ x', (Fam wr.heap.size wr x').cell? ⟨gN, i, none⟩ = some (.int .i64 (a : Nat)) := fun x' => by rw [(Fam.below wr.heap.size wr x').cell (by simpa using hgN)]; exact a0
          have hrr := hid (hr2.out.later hBm)
          replace hnxt := hid hnxt
          replace hani := hid hani
          replace hcL3 := hid hcL3
          replace hLr := hid hLr
          replace hcN := hid hcN
          replace hns := hid hns
          replace hoN := hid hoN
          replace hBm := hid hBm
          replace hst2 := hid hst2
          clear l0 a0
          go_wp2_with fail
          refine wp_region_grow 14 wr.heap.size wr (fun i u _ => if i = 10 then u = .int .i64 (X : Nat) else u = .int .i64 (x : Nat)) (by kernel_rfl) (by kernel_rfl) (Nat.le_refl _) (Below.refl _ _) ?_
          simp only [List.take_succ_cons, List.take_zero, List.drop_succ_cons, List.drop_zero]
          (repeat (refine grow_quiet (by rfl) (by rfl) (by rfl) ?_; intro K hK; go_big_quiet_op; go_big_quiet_on))
          refine grow_val (.int .i64 (X : Nat)) (by rfl) (by rfl) rfl (fun wq hbq _ => ?_) ?_
          · go_simp
            refine ⟨rfl, ?_⟩
            rw [hX.out]
            exact l2Step_any s A c a l wq hin.out hl hc (hrr.out.later hbq)
          simp only [Act.put, List.setIfInBounds_toArray, List.set_cons_zero, List.set_cons_succ]
          (repeat (refine grow_quiet (by rfl) (by rfl) (by rfl) ?_; intro K hK; go_big_quiet_op; go_big_quiet_on))
          refine grow_val (.int .i64 (x : Nat)) (by rfl) (by rfl) rfl (fun wq hbq _ => ?_) ?_
          · go_simp
            refine ⟨rfl, ?_⟩
            rw [← hxR.out]
            exact l2Reach_any s A c X h wq hin.out hXl hl hc (hrr.out.later hbq)
          simp only [Act.put, List.setIfInBounds_toArray, List.set_cons_zero, List.set_cons_succ]
          (repeat (refine grow_quiet (by rfl) (by rfl) (by rfl) ?_; intro K hK; go_big_quiet_op; go_big_quiet_on))
          refine grow_nil ?_
          intro w4 hb4 hf
          clear hf y0 y1 y2 y3 y4
          have hst4 := hst2.out.later hb4
          have hz4 := hst4.below.size
          have hN4 := OwnN.read (hst4.own (v := .slice (some ⟨gN, 0, none⟩) ns.length cN2) (row := ns) List.mem_cons_self)
          obtain ⟨A4, c4, he4, hc4, hc4', hN4⟩ := hN4
          cases he4
          have hN4' := hid hN4
          clear hN4
          go_wp2_with fail
          refine (l4In_any ns x (some ⟨gN, 0, none⟩) cN2 w4 hc4 hc4' hN4'.out).mono ?_
          rintro e w5 ⟨rfl, rfl⟩
          by_cases hmem : x ∈ ns
          · have hadd : Hid (addN ns x = ns) := hid (by unfold addN; rw [if_pos hmem])
            obtain ⟨q, hq⟩ : ∃ q, Hid (q = ns.idxOf x) := ⟨_, hid rfl⟩
            have hql : q < ns.length := by rw [hq.out]; exact List.idxOf_lt_length_iff.2 hmem
            rw [hadd.out, ← hq.out] at hnxt
            have hmem' := hid hmem
            have hoW := hid (hst4.own (v := .slice AW row.length cW) (row := row) (List.mem_cons_of_mem _ List.mem_cons_self))
            replace hst4 := hid hst4
            rw [decide_eq_true hmem]
            clear hmem
            go_wp2_with fail
            refine (l5Index_any ns x (some ⟨gN, 0, none⟩) cN2 w4 hmem'.out hc4 hc4' hN4'.out).mono ?_
            rintro e w5 ⟨rfl, rfl⟩
            rw [← hq.out]
            go_wp2_with (at_builtin; refine wpList_append_own_at _ rfl _ _ 62 rfl w2.heap.size 3 i0 (.int .i64 0) 1 8 Tryd.underlying62 hi hz0 hz1 hz2 rfl (by decide) _ _ _ rfl (hoW.out.alloc _) ⟨w4.heap.size, 0, none⟩ 1 1 [.int .i64 (q : Nat)] rfl rfl (cell_one_new _ _ _) (by intro u hu; simp at hu; subst hu; rfl) (by unfold maxLen; omega) (by omega) (by first | omega | (simp; omega)) ?_; intro v5 w5 hO5 hg5 _ hat5; obtain ⟨Av5, cv5, ev5, -, -⟩ := own_slice hO5; subst ev5; replace hO5 := hid hO5; replace hg5 := hid hg5; replace hat5 := hid hat5)
            have hst5 := hid (hst4.out.app (l1 := [(.slice (some ⟨gN, 0, none⟩) ns.length cN2, natVals ns)]) (ys' := natVals (row ++ [q])) hg5.out (by rw [natVals_len, List.length_append]; have := hO5.out; unfold natVals at this ⊢; simpa using this) hat5.out)
            go_roundw
            case rel => exact ⟨k + 1, ns, row ++ [q], _, _, _, _, rfl, by rw [List.length_append]; rfl, by go_num, hnxt.out, by have := hst5.out; rw [List.length_append]; exact this, by omega⟩
            case measure => simp [intOf]; omega
          · have hadd : Hid (addN ns x = ns ++ [x]) := hid (by unfold addN; rw [if_neg hmem])
            have hidx : Hid ((ns ++ [x]).idxOf x = ns.length) := hid (by rw [List.idxOf_append, if_neg hmem]; simp)
            rw [hadd.out, hidx.out] at hnxt
            have hmm := hid (show x ∈ ns ++ [x] by simp)
            rw [decide_eq_false hmem]
            have hoN4 := hid (hst4.own (v := .slice (some ⟨gN, 0, none⟩) ns.length cN2) (row := ns) List.mem_cons_self)
            have hst4' := hid hst4
            clear hst4 hmem
            go_wp2_with (at_builtin; refine wpList_append_own_at _ rfl _ _ 62 rfl w2.heap.size 3 i0 (.int .i64 0) 1 8 Tryd.underlying62 hi hz0 hz1 hz2 rfl (by decide) _ _ _ rfl (hoN4.out.alloc _) ⟨w4.heap.size, 0, none⟩ 1 1 [.int .i64 (x : Nat)] rfl rfl (cell_one_new _ _ _) (by intro u hu; simp at hu; subst hu; rfl) (by unfold maxLen; omega) (by omega) (by first | omega | (simp; omega)) ?_; intro v5 w5 hO5 hg5 _ hat5; obtain ⟨Av5, cv5, ev5, -, -⟩ := own_slice hO5; subst ev5; have hst5 := hst4'.out.app (l1 := []) (ys' := natVals (ns ++ [x])) hg5 (by rw [natVals_len, List.length_append]; have := hO5; unfold natVals at this ⊢; simpa using this) hat5; clear hO5 hg5 hat5)
            have hz5 := hst5.below.size
            have hN5 := OwnN.read (hst5.own (v := .slice Av5 (ns.length + 1) cv5) (row := ns ++ [x]) List.mem_cons_self)
            obtain ⟨A5, c5, he5, hc5, hc5', hN5⟩ := hN5
            rw [List.length_append] at he5
            cases he5
            have hN5' := hid hN5
            have hst5' := hid hst5
            have hlen2 : Hid ((ns ++ [x]).length = ns.length + 1) := hid (by simp)
            clear hN5 hst5
            have hcall := hid (l5Index_any (ns ++ [x]) x Av5 cv5 w5 hmm.out hc5 hc5' hN5'.out)
            rw [hlen2.out, hidx.out] at hcall
            rw [hlen2.out] at hc5
            refine hcall.out.mono ?_
            rintro e w6 ⟨rfl, rfl⟩
            have hoW := hid (hst5'.out.own (v := .slice AW row.length cW) (row := row) (List.mem_cons_of_mem _ List.mem_cons_self))
            go_wp2_with (at_builtin; refine wpList_append_own_at _ rfl _ _ 62 rfl w2.heap.size 3 i0 (.int .i64 0) 1 8 Tryd.underlying62 hi hz0 hz1 hz2 rfl (by decide) _ _ _ rfl (hoW.out.alloc _) ⟨w5.heap.size, 0, none⟩ 1 1 [.int .i64 (ns.length : Nat)] rfl rfl (cell_one_new _ _ _) (by intro u hu; simp at hu; subst hu; rfl) (by unfold maxLen; omega) (by omega) (by first | omega | (simp; omega)) ?_; intro v6 w6 hO6 hg6 _ hat6; obtain ⟨Av6, cv6, ev6, -, -⟩ := own_slice hO6; subst ev6; replace hO6 := hid hO6; replace hg6 := hid hg6; replace hat6 := hid hat6)
            have hst6 := hid (hst5'.out.app (l1 := [(.slice Av5 (ns.length + 1) cv5, natVals (ns ++ [x]))]) (ys' := natVals (row ++ [ns.length])) hg6.out (by rw [natVals_len, List.length_append]; have := hO6.out; unfold natVals at this ⊢; simpa using this) hat6.out)
            go_roundw
            case rel => exact ⟨k + 1, ns ++ [x], row ++ [ns.length], _, _, _, _, by rw [List.length_append]; rfl, by rw [List.length_append]; rfl, by go_num, hnxt.out, by have := hst6.out; rw [List.length_append, List.length_append]; exact this, by rw [List.length_append, List.length_singleton]; omega⟩
            case measure => simp [intOf]; omega
        · obtain rfl : k = L.length := by omega
          obtain ⟨hd1, hd2⟩ := hns.done
          have hi16 : i + 1 ≤ 12 := by omega
          by_cases hov : 12 < ns.length
          · have hover := hid (numRes_over (nx := nx) (L := L) (n0 := n0) (i := i + 1) (lim := 12) hi16 (by rw [← hd1]; exact hov))
            have hgt : ((12 : Int) < (ns.length : Int)) := by omega
            have hresr := hres2.out.below hBm hres2.out.lt
            have q0 := hresr.cell 0
            have q1 := hresr.cell 1
            have q2 := hresr.cell 2
            have f0 := hresr.frozen 0
            have f1 := hresr.frozen 1
            have f2 := hresr.frozen 2
            simp only [List.getElem?_toArray, List.getElem?_cons_zero, List.getElem?_cons_succ] at q0 q1 q2
            have hBr := hB2.trans (hBm.mono hB2.size)
            replace hd1 := hid hd1
            replace hd2 := hid hd2
            replace hns := hid hns
            replace hst2 := hid hst2
            replace hcN := hid hcN
            replace hoN := hid hoN
            replace hani := hid hani
            replace hBm := hid hBm
            replace hresr := hid hresr
            go_wp2
            refine bodyPost_ret (v := .tuple #[.agg #[.int .i64 0, .slice none 0 0, .slice none 0 0], .bool false]) (by simp [results, Tryd.results119, go_sem, q0, q1, q2]) rfl ?_
            rw [hnum.out, hover.out]
            exact ⟨by (repeat (first | exact Below.refl _ _ | assumption | refine Below.drew ?_ | refine Below.alloc ?_ (by first | omega | (simp; done) | (simp; omega)) _ | refine Below.setCell ?_ (by first | omega | (simp; done) | (simp; omega)) _)), _, _, _, rfl, AuOwn.nil _ _⟩
          · have hgt : ¬ ((12 : Int) < (ns.length : Int)) := by omega
            have hgi : (nsAt nx L n0 i).getD i 0 = a := by rw [List.getD_eq_getElem?_getD, ha.out]; rfl
            have hxs2 : Hid ((xs ++ [(⟨row.map fun (n : Nat) => (n : Int), AW, cW⟩ : RowV)]).map (·.r) = toRows (rowsTo nx L n0 (i + 1))) := hid (by
              rw [List.map_append, hxs.out]
              unfold toRows
              rw [rowsTo, List.map_append, hgi, ← hd2]
              rfl)
            have hjs2 : Hid (∀ j, j < i + 1 → j < (nsAt nx L n0 j).length) := hid fun j hj => by
              by_cases e : j = i
              · subst e; exact hns.hi
              · exact hjs.out j (by omega)
            have hacs2 : Hid (acs ++ [decide (a ≠ 0)] = (ns.take (i + 1)).map fun S => decide (S ≠ 0)) := hid (by
              rw [hacs.out, List.take_succ_eq_append_getElem hail, List.map_append, hani]
              congr 2
              obtain ⟨mm, hm⟩ := rowN_pre nx a (L.take L.length) (nsAt nx L n0 i)
              rw [hns.hns, hm, List.take_append_of_le_length (by have := hns.hi; omega)])
            have c1 := hst2.blk.cell 1
            simp only [List.getElem?_toArray, List.getElem?_cons_zero, List.getElem?_cons_succ] at c1
            have hoR := hid hst2.tab
            have hbk := hid hst2.blk
            have hgO := hst2.blk.lt
            replace hd1 := hid hd1
            replace hd2 := hid hd2
            replace hgi := hid hgi
            replace hns := hid hns
            replace hani := hid hani
            replace hoN := hid hoN
            replace hcN := hid hcN
            replace hBm := hid hBm
            have hst2' := hid hst2
            clear hst2
            go_wp2_with (at_builtin; refine wpList_append_own_at _ rfl _ _ 29 rfl w2.heap.size 62 j0 (.slice none 0 0) 1 24 Tryd.underlying29 hj0 hy0 hy1 hy2 rfl (by decide) _ _ _ rfl (hoR.out.alloc _) ⟨wr.heap.size, 0, none⟩ 1 1 [.slice AW row.length cW] rfl rfl (cell_one_new _ _ _) (by intro u hu; simp at hu; subst hu; rfl) (by unfold maxLen; omega) (by omega) (by first | omega | (simp; omega)) ?_; intro v5 w5 hO5 hg5 _ hat5; obtain ⟨Av5, cv5, ev5, -, -⟩ := own_slice hO5; subst ev5; have hbk5 : Blk w5 (w3.heap.size + 1) 32 #[.int .i64 al, .slice AR xs.length cR, .slice AA acs.length cA] := (hbk.out.alloc _).keep ((KeepB.refl (fun b => (Value.slice AR xs.length cR).ownBlock = some b) _).grown hg5 (fun k hk _ => hk)) (fun e => own_ne hoR.out hbk.out (by decide) _ e rfl); have d1 := hbk5.cell 1; have z1 := hbk5.frozen 1; simp only [List.getElem?_toArray, List.getElem?_cons_zero, List.getElem?_cons_succ] at d1; have hst5 := hid (hst2'.out.row hg5 (by have := hO5; simpa using this)); replace hbk5 := hid hbk5; clear hO5 hg5 hat5)
            obtain ⟨w6, hw6⟩ : ∃ w6, w5.setCell ⟨w3.heap.size + 1, 1, none⟩ (.slice Av5 (xs.length + 1) cv5) = w6 := ⟨_, rfl⟩
            rw [hw6] at hst5 ⊢
            have hst6 := hst5.out
            have hz6 := hst6.below.size
            have hN6 := hst6.own (v := .slice (some ⟨gN, 0, none⟩) ns.length cN2) (row := ns) List.mem_cons_self
            obtain ⟨gN', cap6, hve6, -, hgN6, -, -, hc6⟩ := own_shape hN6 (by omega)
            injection hve6 with e1 e2 e3
            injection e1 with e1
            injection e1 with e1
            subst e1
            subst e3
            clear e2
            have a0 := hc6 i _ (show (natVals ns)[i]? = some (.int .i64 (a : Nat)) from by unfold natVals; simp [hail, hani.out])
            have c2 := hst6.blk.cell 2
            simp only [List.getElem?_toArray, List.getElem?_cons_zero, List.getElem?_cons_succ] at c2
            have hgO6 := hst6.blk.lt
            have y0 : ∀ x', (Fam w6.heap.size w6 x').cell? ⟨w3.heap.size + 1, 2, none⟩ = some (.slice AA acs.length cA) := fun x' => by rw [(Fam.below w6.heap.size w6 x').cell (by simpa using hgO6)]; exact c2
            have y1 : ∀ x', (Fam w6.heap.size w6 x').cell? ⟨gN, i, none⟩ = some (.int .i64 (a : Nat)) := fun x' => by rw [(Fam.below w6.heap.size w6 x').cell (by simpa using hgN6)]; exact a0
            obtain ⟨tb, htb⟩ : ∃ tb, ((a : Int) != 0) = tb := ⟨_, rfl⟩
            have k1 : (0 : Int) ≤ (i : Int) ∧ (i : Int) < (ns.length : Int) := by omega
            have hst6' := hid hst6
            replace hN6 := hid hN6
            replace hc6 := hid hc6
            clear hw6 hst5 hst6 a0 c1 c2 d1 z1
            refine wp_region_grow 8 w6.heap.size w6 (fun _ _ _ => True) (by kernel_rfl) (by kernel_rfl) (Nat.le_refl _) (Below.refl _ _) ?_
            simp only [List.take_succ_cons, List.take_zero, List.drop_succ_cons, List.drop_zero]
            (repeat (refine grow_quiet (by rfl) (by rfl) (by rfl) ?_; intro K hK; go_big_quiet_op; go_big_quiet_on))
            refine grow_new (by rfl) (fun b => .slice (some ⟨b, 0, none⟩) 1 1) 4 #[.bool tb] (fun _ => by go_simp) (fun _ => rfl) (Nat.le_refl _) fun g3 hg3 => ?_
            simp only [Act.put, List.setIfInBounds_toArray, List.set_cons_zero, List.set_cons_succ]
            refine grow_nil ?_
            intro w7 hb7 hf
            obtain ⟨g3', hge, -, hblk3⟩ := hf _ List.mem_cons_self
            cases hge
            have hnew3 := hid (Blk.news hblk3)
            clear hblk3 hf y0 y1
            have hst7 := hst6'.out.later hb7
            have hoA := hid hst7.acc
            have hz7 := hst7.below.size
            have hbk7 := hid hst7.blk
            have hgO7 := hst7.blk.lt
            have hst7' := hid hst7
            clear hst7
            go_wp2_with (at_builtin; refine wpList_append_own_at _ rfl _ _ 30 rfl w2.heap.size 4 b0 (.bool false) 1 1 Tryd.underlying30 hbi hb0 hb1' hb2' rfl (by decide) _ _ _ rfl (hoA.out) ⟨g3, 0, none⟩ 1 1 [.bool tb] rfl rfl hnew3.out (by intro u hu; simp at hu; subst hu; rfl) (by unfold maxLen; omega) (by omega) (by first | omega | (simp; omega)) ?_; intro v8 w8 hO8 hg8 _ hat8; obtain ⟨Av8, cv8, ev8, -, -⟩ := own_slice hO8; subst ev8; have hbk8 : Blk w8 (w3.heap.size + 1) 32 _ := hbk7.out.keep ((KeepB.refl (fun b => (Value.slice AA acs.length cA).ownBlock = some b) _).grown hg8 (fun k hk _ => hk)) (fun e => own_ne hoA.out hbk7.out (by decide) _ e rfl); have d2 := hbk8.cell 2; have z2 := hbk8.frozen 2; simp only [List.getElem?_toArray, List.getElem?_cons_zero, List.getElem?_cons_succ] at d2; have hst8 := hid (hst7'.out.put (t := tb) hg8 hO8); replace hbk8 := hid hbk8; clear hO8 hg8 hat8)
            go_roundw
            case rel =>
              have h8 := hst8.out
              rw [← htb, show ((a : Int) != 0) = decide (a ≠ 0) from by rw [Bool.eq_iff_iff]; simp, hacs2.out, hd1.out] at h8
              exact ⟨i + 1, _, _, _, _, _, by rw [hd1.out], by go_num, h8, hxs2.out, hjs2.out, by rw [← hd1.out]; omega⟩
            case measure => simp [intOf]; omega
    · have hres' := hid (numRes_ends hjs.out (by omega) hle)
      rw [List.take_of_length_le (show (nsAt nx L n0 i).length ≤ i by omega)] at hst
      have hro := hid (hst.fam.rowsOwn hst.tab)
      have hac := hst.acc
      have hBm := hst.below
      have hbk := hst.blk
      have d0 := hbk.cell 0
      have d1 := hbk.cell 1
      have d2 := hbk.cell 2
      have hresr := hres2.out.below hBm hres2.out.lt
      have q0 := hresr.cell 0
      have q1 := hresr.cell 1
      have q2 := hresr.cell 2
      have f0 := hresr.frozen 0
      have f1 := hresr.frozen 1
      have f2 := hresr.frozen 2
      simp only [List.getElem?_toArray, List.getElem?_cons_zero, List.getElem?_cons_succ] at q0 q1 q2 d0 d1 d2
      have hBr := hB2.trans (hBm.mono hB2.size)
      have hau : Hid (AuOwn wr w2.heap.size (.slice AR xs.length cR) (.slice AA ((nsAt nx L n0 i).map fun S => decide (S ≠ 0)).length cA) (prAu al (nsAt nx L n0 i, rowsTo nx L n0 i)) xs) := hid ⟨hro.out, by rw [hxs.out]; rfl, hac⟩
      have hlt2 : w.heap.size + 1 < w2.heap.size := by omega
      replace hst := hid hst
      replace hac := hid hac
      replace hbk := hid hbk
      replace hBm := hid hBm
      replace hresr := hid hresr
      obtain ⟨nA, hnA⟩ : ∃ nA, nA = ((nsAt nx L n0 i).map fun S => decide (S ≠ 0)).length := ⟨_, rfl⟩
      rw [← hnA] at hau d2
      replace hnA := hid hnA
      go_wp2
      refine bodyPost_ret (v := .tuple #[.agg #[.int .i64 al, .slice AR xs.length cR, .slice AA nA cA], .bool true]) (by simp [results, Tryd.results119, go_sem, q0, q1, q2]) rfl ?_
      rw [hnum.out, hres'.out]
      exact ⟨by (repeat (first | exact Below.refl _ _ | assumption | refine Below.drew ?_ | refine Below.alloc ?_ (by first | omega | (simp; done) | (simp; omega)) _ | refine Below.setCell ?_ (by first | omega | (simp; done) | (simp; omega)) _)), _, _, xs, rfl, (((hau.out.setFar hlt2 _).setFar hlt2 _).setFar hlt2 _).base (by omega)⟩

end Go.Proofs.YtolnlkccbndkcaaDoor

/- The reference's ProjectSystem and Determinize. -/
namespace Go.Proofs.YtolnlkccbndkcaaDoor
open Go.RowKit Go.BigFrame Go.Maps AG

theorem prA_ok {s : Sy} {al : Int} (h : prOk s al = true) : prA s al = (prNum s al).elim auNil (prAu al) ∧ prK s al = (prNum s al).isSome := by
  unfold prA prK prOpt
  rw [if_pos h]
  cases prNum s al <;> exact ⟨rfl, rfl⟩

set_option maxRecDepth 100000 in
set_option maxHeartbeats 4000000 in
theorem specProjectSystem_any (s : Sy) (A : Option Addr) (c : Nat) (al : Int) (w : World) (hl : s.es.length ≤ c) (hc : c ≤ 9223372036854775807) (hr : EdsAt w w.heap.size A s.es) :
    Calls Tryd.prog 47 #[s.val A c, .int .i64 al] w (PrPost w (prA s al) (prK s al)) := by
  obtain ⟨w0, hw0, hz0, hB0, hS, hU⟩ := boxed2 w #[Value.int IntKind.i64 s.al, Value.int IntKind.i64 s.st, Value.slice A s.es.length c] 25 #[Value.int IntKind.i64 0, Value.slice none 0 0, Value.slice none 0 0] 32
  have hres : Blk w0 (w.heap.size + 1) 32 #[Value.int IntKind.i64 0, Value.slice none 0 0, Value.slice none 0 0] := by
    rw [← hw0]
    have := Blk.new (w.alloc (.cells #[Value.int IntKind.i64 s.al, Value.int IntKind.i64 s.st, Value.slice A s.es.length c] 25)) 32 #[Value.int IntKind.i64 0, Value.slice none 0 0, Value.slice none 0 0]
    simpa using this
  have hr0 := hid (hr.later hB0)
  have p0 := hS 0 _ rfl _ (Below.refl _ _)
  have p1 := hS 1 _ rfl _ (Below.refl _ _)
  have p2 := hS 2 _ rfl _ (Below.refl _ _)
  replace hr := hid hr
  replace hres := hid hres
  unfold Sy.val
  go_enter Tryd.func47, Tryd.ntmps47
  go_wp2_with fail
  refine (specSystemValid_any s A c w0 hl hc hr0.out).mono ?_
  rintro e w1 ⟨rfl, hb1⟩
  have hC1 := hb1.mono hz0
  have hB1 := hB0.trans (hb1.mono hB0.size)
  have hz1 := hb1.size
  clear p0 p1 p2 hw0
  have p0 := hS 0 _ rfl _ hC1
  have p1 := hS 1 _ rfl _ hC1
  have p2 := hS 2 _ rfl _ hC1
  have q0 := (hres.out.below hb1 hres.out.lt).cell 0
  have q1 := (hres.out.below hb1 hres.out.lt).cell 1
  have q2 := (hres.out.below hb1 hres.out.lt).cell 2
  have f0 := (hres.out.below hb1 hres.out.lt).frozen 0
  have f1 := (hres.out.below hb1 hres.out.lt).frozen 1
  have f2 := (hres.out.below hb1 hres.out.lt).frozen 2
  simp only [List.getElem?_toArray, List.getElem?_cons_zero, List.getElem?_cons_succ] at q0 q1 q2
  cases hok : sysOk s
  case false =>
    have hbad := hid (prA_bad (s := s) (al := al) (by unfold prOk; rw [hok]; rfl))
    replace hok := hid hok
    go_wp2
    refine bodyPost_ret (v := .tuple #[.agg #[.int .i64 0, .slice none 0 0, .slice none 0 0], .bool false]) (by simp [results, Tryd.results47, go_sem, q0, q1, q2]) rfl ?_
    rw [hbad.out.1, hbad.out.2]
    exact ⟨by (repeat (first | exact Below.refl _ _ | assumption | refine Below.drew ?_ | refine Below.alloc ?_ (by first | omega | (simp; done) | (simp; omega)) _ | refine Below.setCell ?_ (by first | omega | (simp; done) | (simp; omega)) _)), _, _, _, rfl, AuOwn.nil _ _⟩
  case true =>
  have hin := hid (sysOk_in hok)
  have hal := sysOk_alpha hok
  have hok' := hid hok
  clear hok
  go_wp2_with fail
  refine (l1Alphabet_any al w1).mono ?_
  rintro e w2 ⟨rfl, rfl⟩
  by_cases haa : 0 ≤ al ∧ al ≤ 63
  case neg =>
    have ha' : alphaOk al = false := decide_eq_false haa
    have hbad := hid (prA_bad (s := s) (al := al) (by unfold prOk; rw [ha']; simp))
    replace haa := hid haa
    rw [ha']
    go_wp2
    refine bodyPost_ret (v := .tuple #[.agg #[.int .i64 0, .slice none 0 0, .slice none 0 0], .bool false]) (by simp [results, Tryd.results47, go_sem, q0, q1, q2]) rfl ?_
    rw [hbad.out.1, hbad.out.2]
    exact ⟨by (repeat (first | exact Below.refl _ _ | assumption | refine Below.drew ?_ | refine Below.alloc ?_ (by first | omega | (simp; done) | (simp; omega)) _ | refine Below.setCell ?_ (by first | omega | (simp; done) | (simp; omega)) _)), _, _, _, rfl, AuOwn.nil _ _⟩
  have haT : alphaOk al = true := decide_eq_true haa
  rw [haT]
  have hand := bits_and (show 0 ≤ s.al ∧ s.al < 9223372036854775808 by omega) (show 0 ≤ al ∧ al < 9223372036854775808 by omega)
  by_cases han : andB s.al al = al
  case neg =>
    have ha' : (andB s.al al != al) = true := by simpa using han
    have hbad := hid (prA_bad (s := s) (al := al) (by unfold prOk; rw [decide_eq_false han]; simp))
    replace han := hid han
    go_wp2_with fail
    refine bodyPost_ret (v := .tuple #[.agg #[.int .i64 0, .slice none 0 0, .slice none 0 0], .bool false]) (by simp [results, Tryd.results47, go_sem, q0, q1, q2]) rfl ?_
    rw [hbad.out.1, hbad.out.2]
    exact ⟨by (repeat (first | exact Below.refl _ _ | assumption | refine Below.drew ?_ | refine Below.alloc ?_ (by first | omega | (simp; done) | (simp; omega)) _ | refine Below.setCell ?_ (by first | omega | (simp; done) | (simp; omega)) _)), _, _, _, rfl, AuOwn.nil _ _⟩
  have ha' : (andB s.al al != al) = false := by simpa using han
  have hpk : Hid (prOk s al = true) := hid (by unfold prOk; rw [hok'.out, haT, decide_eq_true han]; rfl)
  replace han := hid han
  go_wp2_with fail
  have hr1 := hid (hr0.out.later hb1)
  have hpa := hid (prA_ok hpk.out)
  refine (l6Subsets_any s A c al w1 hin.out hal haa hl hc hr1.out).mono ?_
  rintro e w2 ⟨hb2, v1, v2, xs, rfl, hau⟩
  rw [← hpa.out.1] at hau ⊢
  rw [← hpa.out.2]
  have hB2 := hB1.trans (hb2.mono hB1.size)
  have hres2 := hres.out.below (hb1.trans (hb2.mono hz1)) hres.out.lt
  clear p0 p1 p2 q0 q1 q2 f0 f1 f2
  have q0 := hres2.cell 0
  have q1 := hres2.cell 1
  have q2 := hres2.cell 2
  have f0 := hres2.frozen 0
  have f1 := hres2.frozen 1
  have f2 := hres2.frozen 2
  simp only [List.getElem?_toArray, List.getElem?_cons_zero, List.getElem?_cons_succ] at q0 q1 q2
  have hg : w.heap.size + 1 < w1.heap.size := by omega
  have hf : Hid (∀ u v z, AuOwn (((w2.setCell ⟨w.heap.size + 1, 0, none⟩ u).setCell ⟨w.heap.size + 1, 1, none⟩ v).setCell ⟨w.heap.size + 1, 2, none⟩ z) w.heap.size v1 v2 (prA s al) xs) := hid fun u v z => (((hau.setFar hg u).setFar hg v).setFar hg z).base (by omega)
  obtain ⟨A1, c1, B1, d1, rfl, rfl, -⟩ := hau.at_
  replace hau := hid hau
  replace hres2 := hid hres2
  obtain ⟨a, ha⟩ : ∃ a, a = prA s al := ⟨_, rfl⟩
  obtain ⟨ok, hok⟩ : ∃ ok, ok = prK s al := ⟨_, rfl⟩
  rw [← ha] at hf ⊢
  rw [← hok]
  replace ha := hid ha
  replace hok := hid hok
  go_wp2
  refine bodyPost_ret (v := .tuple #[.agg #[.int .i64 a.al, .slice A1 a.nx.length c1, .slice B1 a.ac.length d1], .bool ok]) (by simp [results, Tryd.results47, go_sem, q0, q1, q2]) rfl ?_
  have ha' := ha.out
  have hok' := hok.out
  subst ha'
  subst hok'
  exact ⟨by (repeat (first | exact Below.refl _ _ | assumption | refine Below.drew ?_ | refine Below.alloc ?_ (by first | omega | (simp; done) | (simp; omega)) _ | refine Below.setCell ?_ (by first | omega | (simp; done) | (simp; omega)) _)), _, _, xs, rfl, hf.out _ _ _⟩

end Go.Proofs.YtolnlkccbndkcaaDoor
