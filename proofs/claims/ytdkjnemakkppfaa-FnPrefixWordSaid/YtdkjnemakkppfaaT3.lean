/- Lemmas, part 3: several texts in one. -/
import Derived.Test.YtdkjnemakkppfaaT1
import Derived.Test.YtdkjnemakkppfaaT2
import Derived.StillTail
import Derived.Deep.Quiet
import Derived.KernelRfl
import Derived.Below
set_option linter.unusedSimpArgs false
set_option linter.unusedVariables false

/- The program's numbered: what is reached is numbered in the order in which it is met. -/
namespace Go.Proofs.Ytdkjnemakkppfaa
open Go.RowKit Go.BigFrame Go.Maps AG

/-- Rows of numbers that are owned, each in a block of its own. -/
structure Fam3 (w : World) (base : Nat) (fs : List (Value × List Value)) : Prop where
  rows : ∀ f ∈ fs, w.ownsRow base 3 1 f.1 f.2.length f.2
  apart : fs.Pairwise fun f g => ∀ k, f.1.ownBlock = some k → g.1.ownBlock ≠ some k
theorem Fam3.keep {K : Nat → Prop} {w w' : World} {base : Nat} {fs : List (Value × List Value)} (h : Fam3 w base fs) (hk : KeepB K w w') (h2 : ∀ f ∈ fs, ∀ g, f.1.ownBlock = some g → ¬ K g) : Fam3 w' base fs :=
  ⟨fun f hf => own_keep (h.rows f hf) hk (h2 f hf), h.apart⟩
theorem Fam3.later {w w' : World} {base : Nat} {fs : List (Value × List Value)} (h : Fam3 w base fs) (hb : Below w.heap.size w w') : Fam3 w' base fs := h.keep (.of_below (K := fun _ => False) hb) fun _ _ _ _ h => h
theorem Fam3.app {w w1 : World} {base : Nat} {l1 l2 : List (Value × List Value)} {f : Value × List Value} {v' : Value} {ys' : List Value} {o : Obj} (h : Fam3 w base (l1 ++ f :: l2)) (hg : (w.alloc o).grownBy w1 f.1.ownBlock)
    (ho : w1.ownsRow base 3 1 v' ys'.length ys') (hat : v'.ownBlock = f.1.ownBlock ∨ v'.ownBlock = some (w.alloc o).heap.size) : Fam3 w1 base (l1 ++ (v', ys') :: l2) := by
  obtain ⟨h2, h3⟩ := h
  rw [List.pairwise_append, List.pairwise_cons] at h3
  have hkA : KeepB (fun b => f.1.ownBlock = some b) w w1 := ((KeepB.refl _ w).alloc o).grown hg fun k hk _ => hk
  have hlt : ∀ y ∈ l1 ++ f :: l2, ∀ g, y.1.ownBlock = some g → g < w.heap.size := fun y hy g e => ((h2 y hy).lt g e).2
  have hsz : w.heap.size < (w.alloc o).heap.size := by simp
  refine ⟨fun y hy => ?_, ?_⟩
  · rw [List.mem_append, List.mem_cons] at hy
    rcases hy with hy | rfl | hy
    · exact own_keep (h2 y (by simp [hy])) hkA fun g hg e => h3.2.2 y hy f List.mem_cons_self g hg e
    · exact ho
    · exact own_keep (h2 y (by simp [hy])) hkA fun g hg e => h3.2.1.1 y hy g e hg
  · rw [List.pairwise_append, List.pairwise_cons]
    refine ⟨h3.1, ⟨fun y hy k e e' => ?_, h3.2.1.2⟩, fun a ha b hb k e e' => ?_⟩
    · have := hlt y (by simp [hy]) k e'
      rcases hat with h | h
      · exact h3.2.1.1 y hy k (by rw [← h]; exact e) e'
      · rw [h] at e; injection e with e; omega
    · have := hlt a (by simp [ha]) k e
      rcases List.mem_cons.1 hb with rfl | hb
      · rcases hat with h | h
        · exact h3.2.2 a ha f List.mem_cons_self k e (by rw [← h]; exact e')
        · rw [h] at e'; injection e' with e'; omega
      · exact h3.2.2 a ha b (List.mem_cons_of_mem _ hb) k e e'
theorem Fam3.perm {w : World} {base : Nat} {fs gs : List (Value × List Value)} (h : Fam3 w base fs) (hp : fs.Perm gs) : Fam3 w base gs :=
  ⟨fun f hf => h.rows f (hp.mem_iff.2 hf), (hp.pairwise_iff (fun {a b} h k e e' => h k e' e)).1 h.apart⟩
theorem Fam3.nil_ {w : World} {base : Nat} {f : Value × List Value} {fs : List (Value × List Value)} (h : Fam3 w base (f :: fs)) : Fam3 w base (f :: (.slice none 0 0, []) :: fs) := by
  obtain ⟨h2, h3⟩ := h
  rw [List.pairwise_cons] at h3
  refine ⟨fun y hy => ?_, ?_⟩
  · rw [List.mem_cons, List.mem_cons] at hy
    rcases hy with rfl | rfl | hy
    · exact h2 _ List.mem_cons_self
    · exact World.ownsRow_nil _ _ _ _
    · exact h2 y (List.mem_cons_of_mem _ hy)
  · rw [List.pairwise_cons, List.pairwise_cons]
    refine ⟨fun y hy k e e' => ?_, ⟨fun y hy k e => (by cases e), h3.2⟩⟩
    rcases List.mem_cons.1 hy with rfl | hy
    · cases e'
    · exact h3.1 y hy k e e'
def famOf (xs : List RowV) : List (Value × List Value) := xs.map fun x => (x.v, intVals x.r)
theorem intVals_len (xs : List Int) : (intVals xs).length = xs.length := by unfold intVals; simp
theorem natVals_len (ns : List Nat) : (natVals ns).length = ns.length := by unfold natVals; simp
theorem natVals_int (ns : List Nat) : intVals (ns.map fun (n : Nat) => (n : Int)) = natVals ns := by unfold intVals natVals; simp
/-- The current row becomes a row of the table. -/
theorem Fam3.into {w : World} {base : Nat} {f : Value × List Value} {A : Option Addr} {c : Nat} {row : List Nat} {xs : List RowV} (h : Fam3 w base (f :: (.slice A row.length c, natVals row) :: famOf xs)) : Fam3 w base (f :: famOf (xs ++ [⟨row.map fun (n : Nat) => (n : Int), A, c⟩])) := by
  refine h.perm ?_
  unfold famOf
  rw [List.map_append]
  refine List.Perm.cons _ ?_
  have e : ((.slice A row.length c, natVals row) : Value × List Value) = (RowV.v ⟨row.map fun (n : Nat) => (n : Int), A, c⟩, intVals (row.map fun (n : Nat) => (n : Int))) := by
    unfold RowV.v
    rw [natVals_int]
    simp
  rw [e]
  exact (List.perm_append_singleton _ _).symm
theorem Fam3.rowsOwn {w : World} {base : Nat} {f : Value × List Value} {xs : List RowV} {v : Value} (h : Fam3 w base (f :: famOf xs)) (ho : w.ownsRow base 40 1 v xs.length (rowVals xs)) : RowsOwn w base v xs := by
  refine ⟨ho, fun x hx => ?_, ?_⟩
  · have := h.rows (x.v, intVals x.r) (List.mem_cons_of_mem _ (List.mem_map.2 ⟨x, hx, rfl⟩))
    rwa [intVals_len] at this
  · have := h.apart
    rw [List.pairwise_cons] at this
    unfold famOf at this
    exact (List.pairwise_map.1 this.2)

theorem own_ne_map {w : World} {base : Nat} {e : TypeId} {size : Nat} {v : Value} {n m B : Nat} {xs : List Value} {k : TypeId} {R : Value → Option (DataW Unit × List MemPlace)} {D : DataW Unit} (h : w.ownsRow base e size v n xs) (hm : w.ownsMap Try.prog k R B m D) : ∀ g, v.ownBlock = some g → g ≠ B := by
  intro g hg hB
  rcases h.2 with ⟨rfl, _⟩ | ⟨g', cap, cur, rfl, _, hgg, _⟩
  · cases hg
  · cases hg
    obtain ⟨es, clock, hb, _⟩ := hm
    subst hB
    rw [hb] at hgg
    cases hgg

/-- A map that has the numbers of the nodes. -/
structure MapIx (D : DataW Unit) (ns : List Nat) : Prop where
  isMap : Maps.IsMap D
  has : ∀ T : Nat, Maps.has D (.int .i64 (T : Int)) = decide (T ∈ ns)
  at_ : ∀ T ∈ ns, D.atKey (.int .i64 (T : Int)) (.lit (.int .i64 0)) = .lit (.int .i64 ((ns.idxOf T : Nat) : Int))
theorem MapIx.empty : MapIx (.map []) [] := ⟨Maps.isMap_empty, fun T => by simp; rfl, fun T h => (by cases h)⟩
theorem MapIx.put {D : DataW Unit} {ns : List Nat} (h : MapIx D ns) {T : Nat} (hT : T ∉ ns) : MapIx (D.put (.int .i64 (T : Int)) (.lit (.int .i64 ((ns.length : Nat) : Int)))) (ns ++ [T]) := by
  refine ⟨h.isMap.put _ _, fun x => ?_, fun x hx => ?_⟩
  · by_cases e : x = T
    · subst e
      rw [Maps.has_put_same h.isMap (show WideAt.IsKeyLit (Lit.int .i64 (x : Int)) from trivial)]
      simp
    · rw [Maps.has_put_other (key_ne e), h.has x]
      simp [e]
  · by_cases e : x = T
    · subst e
      rw [Maps.atKey_put_same h.isMap (show WideAt.IsKeyLit (Lit.int .i64 (x : Int)) from trivial), List.idxOf_append, if_neg hT]
      simp
    · have hx' : x ∈ ns := by
        rcases List.mem_append.1 hx with h | h
        · exact h
        · exact absurd (List.mem_singleton.1 h) e
      rw [Maps.atKey_put_other (key_ne e), h.at_ x hx', idxOf_pre hx']

/-- A step of the numbering, as a function value. -/
structure NumOk (w : World) (P : Nat → Prop) (L : List Nat) (nx : Nat → Nat → Nat) (fN : FuncId) (capN : Array Value) : Prop where
  run : ∀ args w', (callFunc fN args).run Try.prog w' = .ok (.enter fN args) w'
  call : ∀ w' q l, Below w.heap.size w w' → P q → l ∈ L → Calls Try.prog fN (#[.int .i64 (q : Nat), .int .i64 (l : Nat)] ++ capN) w' fun e w'' => e = .returned (.int .i64 (nx q l : Nat)) ∧ Below w'.heap.size w' w''
  next : ∀ q l, P q → l ∈ L → P (nx q l)
  small : ∀ q, P q → q ≤ 4294967296

def numV (v1 v2 : Value) (b : Bool) : Value := .tuple #[v1, v2, .bool b]
def NumPost (w : World) (o : Option (List Nat × List (List Nat))) (e : Ending) (w' : World) : Prop :=
  Below w.heap.size w w' ∧ match o with
    | some x => ∃ v1 v2 xs, e = .returned (numV v1 v2 true) ∧ OwnNats w' w.heap.size v1 x.1 ∧ RowsOwn w' w.heap.size v2 xs ∧ xs.map (·.r) = toRows x.2
    | none => e = .returned (numV (.slice none 0 0) (.slice none 0 0) false)
theorem infoInts : (Try.prog.info? 40).map (fun i => (i.zero, i.size, i.bytes)) = some (some (.slice none 0 0), 1, 24) := by kernel_rfl
theorem mapLaw2 : Keyed Try.prog 3 := int_keyed Try.underlying3

/-- What the numbering holds in memory. -/
structure NumMem (w wr : World) (B : Nat) (ns : List Nat) (vR : Value) (xs : List RowV) (fs : List (Value × List Value)) (m : Nat) (D : DataW Unit) : Prop where
  below : Below w.heap.size w wr
  fam : Fam3 wr w.heap.size fs
  tab : wr.ownsRow w.heap.size 40 1 vR xs.length (rowVals xs)
  map_ : wr.ownsMap Try.prog 3 (plainElem Try.prog 3) B m D
  ix : MapIx D ns
  num : m ≤ ns.length
  geB : w.heap.size ≤ B
theorem NumMem.later {w wr w' : World} {B : Nat} {ns : List Nat} {vR : Value} {xs : List RowV} {fs : List (Value × List Value)} {m : Nat} {D : DataW Unit} (h : NumMem w wr B ns vR xs fs m D) (hb : Below wr.heap.size wr w') : NumMem w w' B ns vR xs fs m D :=
  ⟨h.below.trans (hb.mono h.below.size), h.fam.later hb, own_later_ h.tab hb, h.map_.kept (grown_of_below hb) (by simp), h.ix, h.num, h.geB⟩
/-- A row of numbers is appended to. -/
theorem NumMem.app {w wr w1 : World} {B : Nat} {ns : List Nat} {vR : Value} {xs : List RowV} {l1 l2 : List (Value × List Value)} {f : Value × List Value} {v' : Value} {ys' : List Value} {o : Obj} {m : Nat} {D : DataW Unit} (h : NumMem w wr B ns vR xs (l1 ++ f :: l2) m D) (hg : (wr.alloc o).grownBy w1 f.1.ownBlock)
    (ho : w1.ownsRow w.heap.size 3 1 v' ys'.length ys') (hat : v'.ownBlock = f.1.ownBlock ∨ v'.ownBlock = some (wr.alloc o).heap.size) : NumMem w w1 B ns vR xs (l1 ++ (v', ys') :: l2) m D := by
  have hf := h.fam.rows f (by simp)
  have hkA : KeepB (fun b => f.1.ownBlock = some b) wr w1 := ((KeepB.refl _ wr).alloc o).grown hg fun k hk _ => hk
  refine ⟨hkA.below h.below h.below.size fun b e => own_block hf b e, h.fam.app hg ho hat, own_keep h.tab hkA fun g hg e => own_ne_own h.tab hf (by decide) g g hg e rfl, (h.map_.alloc o).kept hg fun e => own_ne_map hf h.map_ B e.symm rfl, h.ix, h.num, h.geB⟩
/-- A node gets its number. -/
theorem NumMem.put {w wr w1 : World} {B : Nat} {ns : List Nat} {vR : Value} {xs : List RowV} {fs : List (Value × List Value)} {m : Nat} {D : DataW Unit} {T : Nat} (h : NumMem w wr B ns vR xs fs m D) (hT : T ∉ ns) (hm : w1.ownsMap Try.prog 3 (plainElem Try.prog 3) B (m + 1) (D.put (.int .i64 (T : Int)) (.lit (.int .i64 ((ns.length : Nat) : Int))))) (hg : wr.grownBy w1 (some B)) :
    NumMem w w1 B (ns ++ [T]) vR xs fs (m + 1) (D.put (.int .i64 (T : Int)) (.lit (.int .i64 ((ns.length : Nat) : Int)))) := by
  have hkA : KeepB (fun b => b = B) wr w1 := (KeepB.refl _ wr).grown hg fun k hk _ => by injection hk with hk; exact hk.symm
  refine ⟨hkA.below h.below h.below.size fun b e => by rw [e]; exact h.geB, h.fam.keep hkA fun f hf g hg e => own_ne_map (h.fam.rows f hf) h.map_ g hg e, own_keep h.tab hkA fun g hg e => own_ne_map h.tab h.map_ g hg e, hm, h.ix.put hT, ?_, h.geB⟩
  have := h.num
  rw [List.length_append, List.length_singleton]
  omega
/-- The row goes into the table. -/
theorem NumMem.row {w wr w1 : World} {B : Nat} {ns row : List Nat} {vR vR' : Value} {xs : List RowV} {f : Value × List Value} {A : Option Addr} {c m : Nat} {D : DataW Unit} {o : Obj} (h : NumMem w wr B ns vR xs (f :: (.slice A row.length c, natVals row) :: famOf xs) m D) (hg : (wr.alloc o).grownBy w1 vR.ownBlock)
    (ho : w1.ownsRow w.heap.size 40 1 vR' (xs.length + 1) (rowVals xs ++ [.slice A row.length c])) : NumMem w w1 B ns vR' (xs ++ [⟨row.map fun (n : Nat) => (n : Int), A, c⟩]) (f :: famOf (xs ++ [⟨row.map fun (n : Nat) => (n : Int), A, c⟩])) m D := by
  have hkA : KeepB (fun b => vR.ownBlock = some b) wr w1 := ((KeepB.refl _ wr).alloc o).grown hg fun k hk _ => hk
  refine ⟨hkA.below h.below h.below.size fun b e => own_block h.tab b e, ?_, ?_, (h.map_.alloc o).kept hg fun e => own_ne_map h.tab h.map_ B e.symm rfl, h.ix, h.num, h.geB⟩
  · exact (h.fam.keep hkA fun f hf g hg e => own_ne_own h.tab (h.fam.rows f hf) (by decide) g g e hg rfl).into
  · unfold rowVals at ho ⊢
    rw [List.length_append, List.map_append]
    unfold RowV.v at ho ⊢
    simpa using ho

end Go.Proofs.Ytdkjnemakkppfaa

/- The program's numbered: the walk. -/
namespace Go.Proofs.Ytdkjnemakkppfaa
open Go.RowKit Go.BigFrame Go.Maps AG

theorem NumMem.fs {w wr : World} {B : Nat} {ns : List Nat} {vR : Value} {xs : List RowV} {fs fs' : List (Value × List Value)} {m : Nat} {D : DataW Unit} (h : NumMem w wr B ns vR xs fs m D) (hf : Fam3 wr w.heap.size fs → Fam3 wr w.heap.size fs')   : NumMem w wr B ns vR xs fs' m D :=
  ⟨h.below, hf h.fam, h.tab, h.map_, h.ix, h.num, h.geB⟩
theorem NumMem.own {w wr : World} {B : Nat} {ns : List Nat} {vR : Value} {xs : List RowV} {fs : List (Value × List Value)} {m : Nat} {D : DataW Unit} {v : Value} {row : List Nat} (h : NumMem w wr B ns vR xs fs m D) (hf : (v, natVals row) ∈ fs) : wr.ownsRow w.heap.size 3 1 v row.length (natVals row) := by
  have := h.fam.rows _ hf
  rwa [natVals_len] at this
theorem numRes_ends {nx : Nat → Nat → Nat} {L : List Nat} {n0 i lim : Nat} (hj : ∀ j, j < i → j < (nsAt nx L n0 j).length) (hle : (nsAt nx L n0 i).length ≤ i) (hlim : (nsAt nx L n0 i).length ≤ lim) : numRes nx L n0 lim = some (nsAt nx L n0 i, rowsTo nx L n0 i) := by
  have h1 : (nsAt nx L n0 i).length = i := by
    rcases Nat.lt_or_ge (nsAt nx L n0 i).length i with h | h
    · have h2 := hj (nsAt nx L n0 i).length h
      obtain ⟨mm, hm⟩ := nsAt_pre nx L n0 (nsAt nx L n0 i).length (i - (nsAt nx L n0 i).length)
      rw [show (nsAt nx L n0 i).length + (i - (nsAt nx L n0 i).length) = i from by omega] at hm
      have := congrArg List.length hm
      rw [List.length_append] at this
      omega
    · omega
  rw [numRes_done h1 (by omega), rowsTo_all i hj, List.take_of_length_le (by omega)]

set_option maxRecDepth 100000 in
set_option maxHeartbeats 16000000 in
theorem numbered_any (w : World) (P : Nat → Prop) (L : List Nat) (nx : Nat → Nat → Nat) (fN : FuncId) (capN : Array Value) (n0 lim : Nat) (A : Option Addr) (c : Nat) (hN : NumOk w P L nx fN capN) (h0 : P n0) (hlim : 1 ≤ lim) (hlim' : lim ≤ 4096) (hL6 : L.length ≤ 6) (hlc : L.length ≤ c) (hcm : c ≤ 9223372036854775807) (hA : NatsAt w w.heap.size A L) :
    Calls Try.prog 30 #[.int .i64 (n0 : Nat), .slice A L.length c, .int .i64 (lim : Nat), .func (.func fN) #[] capN] w (NumPost w (numRes nx L n0 lim)) := by
  have hcf := hN.run
  have hmm := @run_makeMap Try.prog
  obtain ⟨i0, hi, hz0, hz1, hz2⟩ := info_parts infoInt
  obtain ⟨j0, hj0, hy0, hy1, hy2⟩ := info_parts infoInts
  have hn0 := hN.small n0 h0
  have hPall : Hid (∀ i, ∀ a ∈ nsAt nx L n0 i, P a) := hid (nsAt_all h0 fun a ha l hl => hN.next a l ha hl)
  replace hA := hid hA
  replace h0 := hid h0
  go_enter Try.func30, Try.ntmps30
  go_upto_region 2 with fail
  have hmade := World.ownsMap_made (H := Unit) (w.alloc (.cells #[.int .i64 (n0 : Nat)] 3)) Try.prog 3 (plainElem Try.prog 3)
  go_wp2_with (refine wpList_insert_own _ rfl _ _ _ 73 rfl 3 3 mapLaw2 Try.underlying73 (plainElem Try.prog 3) (w.heap.size + 1) 0 _ rfl (by simpa using hmade) (by unfold maxLen; omega) _ _ (.int .i64 (n0 : Int)) rfl rfl (keyOf_int_mk Try.underlying3 (wf64 (by omega) (by omega))) (.lit (.int .i64 0)) [] (plainElem_int Try.underlying3 (by decide)) ?_)
  intro w3 hown3 hgrow3
  obtain ⟨B, hB⟩ : ∃ B, B = w.heap.size + 1 := ⟨_, rfl⟩
  rw [← hB] at hown3 hgrow3
  have hst3 : Hid (NumMem w w3 B [n0] (.slice none 0 0) [] ((.slice (some ⟨w.heap.size, 0, none⟩) 1 1, natVals [n0]) :: famOf []) 1 ((DataW.map []).put (Lit.int IntKind.i64 (n0 : Int)) (DataW.lit (Lit.int IntKind.i64 0)))) := hid (by
    have hbl : Below w.heap.size w ((w.alloc (.cells #[.int .i64 (n0 : Nat)] 3)).alloc (.map #[] 0)) := ((Below.refl _ _).alloc (Nat.le_refl _) _).alloc (by simp) _
    have hk : KeepB (fun b => b = B) ((w.alloc (.cells #[.int .i64 (n0 : Nat)] 3)).alloc (.map #[] 0)) w3 := (KeepB.refl _ _).grown hgrow3 fun k hk _ => by injection hk with hk; exact hk.symm
    have ho1 : ((w.alloc (.cells #[.int .i64 (n0 : Nat)] 3)).alloc (.map #[] 0)).ownsRow w.heap.size 3 1 (.slice (some ⟨w.heap.size, 0, none⟩) 1 1) 1 (natVals [n0]) := by
      refine World.ownsRow.alloc ?_ _
      exact ⟨rfl, .inr ⟨w.heap.size, 1, #[.int .i64 (n0 : Nat)], rfl, Nat.le_refl _, heap_alloc_self _ _, Nat.le_refl _, by unfold maxLen; omega, rfl, rfl⟩⟩
    have ho3 := own_keep ho1 hk fun g hg e => by injection hg with hg; simp at hg; omega
    refine ⟨hk.below hbl (by simp; omega) fun b e => by omega, ⟨fun f hf => ?_, ?_⟩, World.ownsRow_nil _ _ _ _, hown3, MapIx.empty.put (T := n0) (by simp), by simp, by omega⟩
    · rw [show famOf [] = [] from rfl, List.mem_singleton] at hf
      subst hf
      exact ho3
    · rw [show famOf [] = [] from rfl]
      exact List.pairwise_singleton _ _)
  clear hown3 hgrow3 hmade
  subst hB
  go_wp2_with fail
  go_loopw [11, 13, 14] (fun vN vR iv wr => ∃ (i : Nat) (AN : Option Addr) (cN : Nat) (xs : List RowV) (m : Nat) (D : DataW Unit), vN = .slice AN (nsAt nx L n0 i).length cN ∧ iv = .int .i64 (i : Nat) ∧ NumMem w wr (w.heap.size + 1) (nsAt nx L n0 i) vR xs ((.slice AN (nsAt nx L n0 i).length cN, natVals (nsAt nx L n0 i)) :: famOf xs) m D ∧ xs.map (·.r) = toRows (rowsTo nx L n0 i) ∧ (∀ j, j < i → j < (nsAt nx L n0 j).length) ∧ (nsAt nx L n0 i).length ≤ lim) (fun _ _ iv _ => lim - (intOf iv).toNat)
  case atStart => exact ⟨0, _, _, [], 1, _, rfl, rfl, hst3.out, rfl, fun j hj => by omega, hlim⟩
  case round =>
    clear hst3
    obtain ⟨i, AN, cN, xs, m, D, rfl, rfl, hst, hxs, hjs, hle⟩ := hrel
    have hxl : xs.length = i := by
      have := congrArg List.length hxs
      rw [List.length_map, toRows_len, rowsTo_len] at this
      exact this
    have hil : i ≤ lim := by
      rcases Nat.eq_zero_or_pos i with h | h
      · omega
      · have h1 := hjs (i - 1) (by omega)
        obtain ⟨mm, hm⟩ := nsAt_pre nx L n0 (i - 1) 1
        rw [show i - 1 + 1 = i from by omega] at hm
        have := congrArg List.length hm
        rw [List.length_append] at this
        omega
    have hxl4 : xs.length ≤ 4096 := by omega
    replace hxl := hid hxl
    replace hjs := hid hjs
    replace hxs := hid hxs
    by_cases hlt : i < (nsAt nx L n0 i).length
    · obtain ⟨a, ha⟩ : ∃ a, Hid ((nsAt nx L n0 i)[i]? = some a) := ⟨_, hid (List.getElem?_eq_getElem hlt)⟩
      have hns := hid (NumSt.start hlt ha.out)
      have hPa : Hid (P a) := hid (hPall.out i a (List.mem_of_getElem? ha.out))
      have ha32 := hN.small a hPa.out
      obtain ⟨AR, cR, hvR, -, -⟩ := own_slice hst.tab
      subst hvR
      have hst0 := hid (hst.fs Fam3.nil_)
      replace hst := hid hst
      obtain ⟨n1, hn1⟩ : ∃ n1, Hid (n1 = nsAt nx L n0 i) := ⟨_, hid rfl⟩
      rw [← hn1.out] at hlt hle hns hst0 ⊢
      go_wp2_with fail
      go_loopw [11, 15, 34] (fun vN vW kv wr => ∃ (k : Nat) (ns row : List Nat) (AN : Option Addr) (cN : Nat) (AW : Option Addr) (cW m : Nat) (D : DataW Unit), vN = .slice AN ns.length cN ∧ vW = .slice AW row.length cW ∧ kv = .int .i64 (k : Nat) ∧ NumSt nx L n0 i k ns row a ∧ NumMem w wr (w.heap.size + 1) ns (.slice AR xs.length cR) xs ((.slice AN ns.length cN, natVals ns) :: (.slice AW row.length cW, natVals row) :: famOf xs) m D ∧ ns.length ≤ lim) (fun _ _ kv _ => L.length - (intOf kv).toNat)
      case atStart => exact ⟨0, n1, [], AN, cN, none, 0, m, D, rfl, rfl, rfl, hns.out, hst0.out, hle⟩
      case round =>
        clear hst0 hns
        obtain ⟨k, ns, row, AN2, cN2, AW, cW, m2, D2, rfl, rfl, rfl, hns, hst2, hle2⟩ := hrel
        have hk := hns.hk
        have hrl : row.length = k := by
          rw [hns.hrow, List.length_map, List.length_take]
          omega
        have hrl6 : row.length ≤ 6 := by omega
        replace hrl := hid hrl
        have hBm := hst2.below
        have hnum := hst2.num
        have hszm := hBm.size
        have hmap := hst2.map_
        by_cases hkl : k < L.length
        · have hLr := hA.out.later hBm
          obtain ⟨bL, oL, hAe, hbL, hcL⟩ := hLr (by omega)
          subst hAe
          have l0 := hcL k hkl
          have hail : i < ns.length := by
            have h1 := hlt
            rw [hn1.out] at h1
            obtain ⟨mm, hm⟩ := rowN_pre nx a (L.take k) (nsAt nx L n0 i)
            rw [hns.hns, hm, List.length_append]
            omega
          have hani : ns[i]'hail = a := by
            obtain ⟨mm, hm⟩ := rowN_pre nx a (L.take k) (nsAt nx L n0 i)
            have h1 : ns[i]? = some a := by
              rw [hns.hns, hm, List.getElem?_append_left hns.hi]
              exact hns.ha
            rw [List.getElem?_eq_getElem hail] at h1
            injection h1
          have hoN := hst2.own (v := .slice AN2 ns.length cN2) (row := ns) List.mem_cons_self
          obtain ⟨gN, capN', hve, -, -, -, -, hcN⟩ := own_shape hoN (by omega)
          injection hve with e1 e2 e3
          subst e1
          subst e3
          clear e2
          have a0 := hcN i _ (show (natVals ns)[i]? = some (.int .i64 (a : Nat)) from by unfold natVals; simp [hail, hani])
          obtain ⟨l, hl⟩ : ∃ l, Hid (l = L[k]) := ⟨_, hid rfl⟩
          have hlL : Hid (l ∈ L) := hid (by rw [hl.out]; exact List.getElem_mem _)
          rw [← hl.out] at l0
          have hnx := hns.next hkl
          have hfull := fun hx hlm => hns.full (lim := lim) hkl hx hlm (by omega)
          rw [← hl.out] at hnx hfull
          have hx32 := hN.small _ (hN.next a l hPa.out hlL.out)
          obtain ⟨x, hx⟩ : ∃ x, Hid (x = nx a l) := ⟨_, hid rfl⟩
          rw [← hx.out] at hnx hfull hx32
          have k1 : (0 : Int) ≤ (k : Int) ∧ (k : Int) < (L.length : Int) ∧ (0 : Int) ≤ (i : Int) ∧ (i : Int) < (ns.length : Int) := by omega
          have hkey : keyOf Try.prog 3 (.int .i64 (x : Int)) = some (.int .i64 (x : Int)) := keyOf_int_mk Try.underlying3 (wf64 (by omega) (by omega))
          replace hfull := hid hfull
          replace hnx := hid hnx
          replace hani := hid hani
          replace hcL := hid hcL
          replace hLr := hid hLr
          replace hcN := hid hcN
          replace hns := hid hns
          replace hoN := hid hoN
          replace hBm := hid hBm
          replace hst2 := hid hst2
          replace hmap := hid hmap
          go_wp2_with fail
          refine (hN.call wr a l hBm.out hPa.out hlL.out).mono ?_
          rintro e w4 ⟨rfl, hb4⟩
          rw [← hx.out]
          have hst4 := hst2.out.later hb4
          have hmap4 := hst4.map_
          have hz4 := hst4.below.size
          clear l0 a0 hb4
          by_cases hmem : x ∈ ns
          · have hhas : Maps.has D2 (.int .i64 (x : Int)) = true := by rw [hst4.ix.has x]; exact decide_eq_true hmem
            have hix := hid (hst4.ix.at_ x hmem)
            have hadd : Hid (addN ns x = ns) := hid (by unfold addN; rw [if_pos hmem])
            obtain ⟨q, hq⟩ : ∃ q, Hid (q = ns.idxOf x) := ⟨_, hid rfl⟩
            have hql : q < ns.length := by rw [hq.out]; exact List.idxOf_lt_length_iff.2 hmem
            rw [← hq.out] at hix
            rw [hadd.out, ← hq.out] at hnx
            have hoW := hid (hst4.own (v := .slice AW row.length cW) (row := row) (List.mem_cons_of_mem _ List.mem_cons_self))
            replace hmem := hid hmem
            replace hst4 := hid hst4
            go_wp2_with (first
              | (at_lookup; refine wpList_lookup_own_ok_int _ rfl _ _ 73 rfl 3 3 .i64 mapLaw2 Try.underlying73 Try.underlying3 (zeroInt _) (w.heap.size + 1) m2 D2 rfl hmap4 _ _ rfl hkey ?_; intro c' hat' hwc'; obtain rfl : c' = (q : Int) := (by have e := hat'.symm.trans hix.out; injection e with e; injection e); rw [hhas])
              | (at_builtin; refine wpList_append_own_at _ rfl _ _ 40 rfl w.heap.size 3 i0 (.int .i64 0) 1 8 Try.underlying40 hi hz0 hz1 hz2 rfl (by decide) _ _ _ rfl (hoW.out.alloc _) ⟨w4.heap.size, 0, none⟩ 1 1 [.int .i64 (q : Nat)] rfl rfl (cell_one_new _ _ _) (by intro u hu; simp at hu; subst hu; rfl) (by unfold maxLen; omega) (by omega) (by simp; omega) ?_; intro v5 w5 hO5 hg5 _ hat5; obtain ⟨Av5, cv5, ev5, -, -⟩ := own_slice hO5; subst ev5; replace hO5 := hid hO5; replace hg5 := hid hg5; replace hat5 := hid hat5))
            have hst5 := hid (hst4.out.app (l1 := [(.slice (some ⟨gN, 0, none⟩) ns.length cN2, natVals ns)]) (ys' := natVals (row ++ [q])) hg5.out (by rw [natVals_len, List.length_append]; have := hO5.out; unfold natVals at this ⊢; simpa using this) hat5.out)
            clear hmap4
            go_roundw
            case rel => exact ⟨k + 1, ns, row ++ [q], _, _, _, _, m2, D2, rfl, by rw [List.length_append]; rfl, by go_num, hnx.out, by have := hst5.out; rw [List.length_append]; exact this, hle2⟩
            case measure => simp [intOf]; omega
          · have hhas : Maps.has D2 (.int .i64 (x : Int)) = false := by rw [hst4.ix.has x]; exact decide_eq_false hmem
            by_cases hfl : ns.length = lim
            · have hres := hid (hfull.out hmem (by omega))
              have hfb : ((ns.length : Int) == (lim : Int)) = true := by simp; omega
              have hBf := hst4.below
              replace hmem := hid hmem
              replace hfl := hid hfl
              replace hst4 := hid hst4
              go_wp2_with (at_lookup; refine wpList_lookup_own_ok_int _ rfl _ _ 73 rfl 3 3 .i64 mapLaw2 Try.underlying73 Try.underlying3 (zeroInt _) (w.heap.size + 1) m2 D2 rfl hmap4 _ _ rfl hkey ?_; intro c' hat' hwc'; rw [hhas])
              refine bodyPost_ret (v := numV (.slice none 0 0) (.slice none 0 0) false) (by simp [results, Try.results30, go_sem, numV]) rfl ⟨hBf, ?_⟩
              rw [hres.out]
            · have hfb : ((ns.length : Int) == (lim : Int)) = false := by simp; omega
              have hadd : Hid (addN ns x = ns ++ [x]) := hid (by unfold addN; rw [if_neg hmem])
              have hidx : Hid ((ns ++ [x]).idxOf x = ns.length) := hid (by rw [List.idxOf_append, if_neg hmem]; simp)
              rw [hadd.out, hidx.out] at hnx
              replace hfl := hid hfl
              have hst4' := hid hst4
              have hmem' := hid hmem
              clear hst4 hmem
              go_wp2_with (first
                | (at_lookup; refine wpList_lookup_own_ok_int _ rfl _ _ 73 rfl 3 3 .i64 mapLaw2 Try.underlying73 Try.underlying3 (zeroInt _) (w.heap.size + 1) m2 D2 rfl hmap4 _ _ rfl hkey ?_; intro c' hat' hwc'; rw [hhas])
                | (at_mapUpdate; refine wpList_mapUpdate_own _ rfl _ _ _ 73 rfl 3 3 mapLaw2 Try.underlying73 _ (w.heap.size + 1) m2 D2 rfl hmap4 (by unfold maxLen; omega) _ _ _ rfl rfl hkey _ [] (plainElem_int Try.underlying3 (wf64 (by omega) (by omega))) ?_; intro w9 hown9 hgrow9; have hst9 := hst4'.out.put hmem'.out hown9 hgrow9; have hoN9 := hid (hst9.own (v := .slice (some ⟨gN, 0, none⟩) ns.length cN2) (row := ns) List.mem_cons_self); have hz9 := hst9.below.size; replace hst9 := hid hst9; clear hown9 hgrow9 hmap4)
                | (at_builtin; refine wpList_append_own_at _ rfl _ _ 40 rfl w.heap.size 3 i0 (.int .i64 0) 1 8 Try.underlying40 hi hz0 hz1 hz2 rfl (by decide) _ _ _ rfl (hoW.out.alloc _) ⟨w5.heap.size, 0, none⟩ 1 1 [.int .i64 (ns.length : Nat)] rfl rfl (cell_one_new _ _ _) (by intro u hu; simp at hu; subst hu; rfl) (by unfold maxLen; omega) (by omega) (by simp; omega) ?_; intro v6 w6 hO6 hg6 _ hat6; obtain ⟨Av6, cv6, ev6, -, -⟩ := own_slice hO6; subst ev6; replace hO6 := hid hO6; replace hg6 := hid hg6; replace hat6 := hid hat6)
                | (at_builtin; refine wpList_append_own_at _ rfl _ _ 40 rfl w.heap.size 3 i0 (.int .i64 0) 1 8 Try.underlying40 hi hz0 hz1 hz2 rfl (by decide) _ _ _ rfl (hoN9.out.alloc _) ⟨w9.heap.size, 0, none⟩ 1 1 [.int .i64 (x : Nat)] rfl rfl (cell_one_new _ _ _) (by intro u hu; simp at hu; subst hu; rfl) (by unfold maxLen; omega) (by omega) (by simp; omega) ?_; intro v5 w5 hO5 hg5 _ hat5; obtain ⟨Av5, cv5, ev5, -, -⟩ := own_slice hO5; subst ev5; replace hO5 := hid hO5; replace hg5 := hid hg5; replace hat5 := hid hat5; have hst5 := hst9.out.app (l1 := []) (ys' := natVals (ns ++ [x])) hg5.out (by rw [natVals_len, List.length_append]; have := hO5.out; unfold natVals at this ⊢; simpa using this) hat5.out; have hoW := hid (hst5.own (v := .slice AW row.length cW) (row := row) (List.mem_cons_of_mem _ List.mem_cons_self)); have hz5 := hst5.below.size; replace hst5 := hid hst5))
              have hst6 := hid (hst5.out.app (l1 := [(.slice Av5 (ns.length + 1) cv5, natVals (ns ++ [x]))]) (ys' := natVals (row ++ [ns.length])) hg6.out (by rw [natVals_len, List.length_append]; have := hO6.out; unfold natVals at this ⊢; simpa using this) hat6.out)
              go_roundw
              case rel => exact ⟨k + 1, ns ++ [x], row ++ [ns.length], _, _, _, _, m2 + 1, _, by rw [List.length_append]; rfl, by rw [List.length_append]; rfl, by go_num, hnx.out, by have := hst6.out; rw [List.length_append, List.length_append]; exact this, by rw [List.length_append, List.length_singleton]; have := hfl.out; omega⟩
              case measure => simp [intOf]; omega
        · obtain rfl : k = L.length := by omega
          obtain ⟨hd1, hd2⟩ := hns.done
          have hoR := hid hst2.tab
          have hgi : (nsAt nx L n0 i).getD i 0 = a := by rw [List.getD_eq_getElem?_getD, ha.out]; rfl
          have hxs2 : Hid ((xs ++ [(⟨row.map fun (n : Nat) => (n : Int), AW, cW⟩ : RowV)]).map (·.r) = toRows (rowsTo nx L n0 (i + 1))) := hid (by
            rw [List.map_append, hxs.out]
            unfold toRows
            rw [rowsTo, List.map_append, hgi, ← hd2]
            rfl)
          have hjs2 : Hid (∀ j, j < i + 1 → j < (nsAt nx L n0 j).length) := hid fun j hj => by
            by_cases e : j = i
            · subst e; exact hns.hi
            · exact hjs.out j (by omega)
          replace hd1 := hid hd1
          replace hd2 := hid hd2
          replace hgi := hid hgi
          replace hns := hid hns
          replace hBm := hid hBm
          replace hst2 := hid hst2
          replace hmap := hid hmap
          go_wp2_with (at_builtin; refine wpList_append_own_at _ rfl _ _ 23 rfl w.heap.size 40 j0 (.slice none 0 0) 1 24 Try.underlying23 hj0 hy0 hy1 hy2 rfl (by decide) _ _ _ rfl (hoR.out.alloc _) ⟨wr.heap.size, 0, none⟩ 1 1 [.slice AW row.length cW] rfl rfl (cell_one_new _ _ _) (by intro u hu; simp at hu; subst hu; rfl) (by unfold maxLen; omega) (by omega) (by simp; omega) ?_; intro v5 w5 hO5 hg5 _ hat5; obtain ⟨Av5, cv5, ev5, -, -⟩ := own_slice hO5; subst ev5; replace hO5 := hid hO5; replace hg5 := hid hg5; replace hat5 := hid hat5)
          have hst5 := hid (hst2.out.row hg5.out (by have := hO5.out; simpa using this))
          go_roundw
          case rel =>
            have h5 := hst5.out
            rw [hd1.out] at h5
            exact ⟨i + 1, _, _, _, _, _, by rw [hd1.out], by go_num, h5, hxs2.out, hjs2.out, by rw [← hd1.out]; exact hle2⟩
          case measure => simp [intOf]; omega
    · have hres := hid (numRes_ends hjs.out (by omega) hle)
      have hoN := hid (hst.own (v := .slice AN (nsAt nx L n0 i).length cN) (row := nsAt nx L n0 i) List.mem_cons_self)
      have hro := hid (hst.fam.rowsOwn hst.tab)
      have hBf := hst.below
      replace hst := hid hst
      go_wp2_with fail
      refine bodyPost_ret (v := numV _ _ true) (by simp [results, Try.results30, go_sem, numV]; exact ⟨rfl, rfl⟩) rfl ⟨hBf, ?_⟩
      rw [hres.out]
      exact ⟨_, _, xs, rfl, hoN.out, hro.out, hxs.out⟩

end Go.Proofs.Ytdkjnemakkppfaa

/- A statement that draws its order: its first n operations read, reckon or make memory (calls that make memory among them); behind them the others come one by one. One walk in the order of the text serves every order. -/
namespace AG
open Go Go.RowKit
section
variable {P : Program} {ops : Array Oper} {md : Region.Mode} {n B : Nat} {w0 : World} {sp : Nat → Value → World → Prop} {nw : Nat → Bool}

/-- A fact that stays whatever memory is made. -/
def Steady (F : World → Prop) : Prop := ∀ w w', Below w.heap.size w w' → F w → F w'

def predsOf (md : Region.Mode) (ops : Array Oper) (j : Nat) : List Nat :=
  match ops[j]? with
  | some o => (o.after.toList.filter (Region.binds md)).map (·.on)
  | none => []
def upset (md : Region.Mode) (ops : Array Oper) : Nat → List Nat → List Nat
  | 0, S => S
  | f + 1, S => upset md ops f ((S ++ S.flatMap (predsOf md ops)).eraseDups)
/-- Operation j waits for operation k, at once or through others. -/
def depB (md : Region.Mode) (ops : Array Oper) (j k : Nat) : Bool := (upset md ops 6 (predsOf md ops j)).contains k
def dstOf (ops : Array Oper) (k : Nat) : Option Tmp := (ops[k]?).bind (·.dst)
def looksOf (ops : Array Oper) (k : Nat) : List Tmp := match ops[k]? with | some o => o.looksAt ops | none => []

def canon (ops : Array Oper) (n : Nat) : Array Bool := ((List.range ops.size).map fun k => decide (k < n)).toArray
def growB (md : Region.Mode) (ops : Array Oper) (n : Nat) : Bool :=
  Region.noSelect ops && (decide (n = ops.size) || (decide (n < ops.size) && (Region.sinkB md ops n && Region.chainB md ops n))) && Region.seqB md ops (ops.size - n) n (canon ops n) &&
  (List.range n).all fun j => (predsOf md ops j).all (fun k => decide (k < j)) && (List.range n).all fun k =>
    match dstOf ops k with
    | none => true
    | some t => (k == j || dstOf ops j != some t) && (!(looksOf ops j).contains t || (predsOf md ops j).contains k)

theorem upset_in {L : Nat → Bool} (hc : ∀ j, L j = true → ∀ k ∈ predsOf md ops j, L k = true) : ∀ (f : Nat) (S : List Nat), (∀ x ∈ S, L x = true) → ∀ x ∈ upset md ops f S, L x = true := by
  intro f
  induction f with
  | zero => intro S h; exact h
  | succ f ih =>
    intro S h
    refine ih _ fun x hx => ?_
    have hx' := List.mem_eraseDups.1 hx
    rcases List.mem_append.1 hx' with h1 | h1
    · exact h x h1
    · obtain ⟨y, hy, hxy⟩ := List.mem_flatMap.1 h1
      exact hc y (h y hy) x hxy

/-- The frame a is the frame a0 but for what the operations of S have left. -/
structure Pt (ops : Array Oper) (n : Nat) (S : Nat → Bool) (v : Nat → Value) (a0 a : Act) : Prop where
  defers : a.defers = a0.defers
  hit : ∀ k t, k < n → S k = true → dstOf ops k = some t → a.tmps[t]? = (a0.tmps[t]?).map fun _ => v k
  miss : ∀ t, (∀ k, k < n → S k = true → dstOf ops k ≠ some t) → a.tmps[t]? = a0.tmps[t]?

def ins (S : Nat → Bool) (j : Nat) : Nat → Bool := fun k => k == j || S k
def upd (v : Nat → Value) (j : Nat) (u : Value) : Nat → Value := fun k => if k = j then u else v k

theorem set_get (xs : Array Value) (t : Nat) (u : Value) : (xs.setIfInBounds t u)[t]? = (xs[t]?).map fun _ => u := by
  rw [Array.getElem?_setIfInBounds]
  by_cases h : t < xs.size
  · simp [h]
  · simp [h]

theorem Pt.put {S : Nat → Bool} {v : Nat → Value} {a0 a : Act} {j : Nat} {oj : Oper} {u : Value} (h : Pt ops n S v a0 a) (hd : ∀ i k t, i < n → k < n → dstOf ops i = some t → dstOf ops k = some t → i = k)
    (hj : j < n) (hS : S j = false) (ho : ops[j]? = some oj) : Pt ops n (ins S j) (upd v j u) a0 (a.put oj.dst u) := by
  have hdj : dstOf ops j = oj.dst := by simp [dstOf, ho]
  have hsk : ∀ k, S k = true → k ≠ j := fun k hk e => by rw [e, hS] at hk; cases hk
  refine ⟨?_, fun k t hk hSk hdk => ?_, fun t hm => ?_⟩
  · cases oj.dst <;> exact h.defers
  · by_cases e : k = j
    · subst e
      have hm := h.miss t fun i hi hSi hdi => hsk i hSi (hd i k t hi hk hdi hdk)
      rw [hdj] at hdk
      simp only [hdk, Act.put, upd, if_true]
      rw [set_get, hm]
    · have hSk' : S k = true := by simpa [ins, e] using hSk
      have hh := h.hit k t hk hSk' hdk
      simp only [upd, if_neg e]
      rw [← hh]
      cases hdd : oj.dst with
      | none => rfl
      | some d =>
        have hne : d ≠ t := fun e' => by subst e'; exact e (hd k j d hk hj hdk (by rw [hdj, hdd]))
        simp only [Act.put]
        rw [Array.getElem?_setIfInBounds_ne hne]
  · have h1 := h.miss t fun k hk hSk => hm k hk (by simp [ins, hSk])
    rw [← h1]
    cases hdd : oj.dst with
    | none => rfl
    | some d =>
      have hne : d ≠ t := fun e' => by subst e'; exact hm j hj (by simp [ins]) (by rw [hdj, hdd])
      simp only [Act.put]
      rw [Array.getElem?_setIfInBounds_ne hne]

theorem Pt.agree {S S' : Nat → Bool} {v v' : Nat → Value} {a0 a a' : Act} (h : Pt ops n S v a0 a) (h' : Pt ops n S' v' a0 a') {t : Nat}
    (ht : ∀ k, k < n → dstOf ops k = some t → S k = S' k ∧ (S k = true → v k = v' k)) : a.tmps[t]? = a'.tmps[t]? := by
  by_cases e : ∃ k, k < n ∧ S k = true ∧ dstOf ops k = some t
  · obtain ⟨k, hk, hS, hd⟩ := e
    obtain ⟨h1, h2⟩ := ht k hk hd
    rw [h.hit k t hk hS hd, h'.hit k t hk (h1 ▸ hS) hd, h2 hS]
  · rw [h.miss t fun k hk hS hd => e ⟨k, hk, hS, hd⟩, h'.miss t fun k hk hS hd => e ⟨k, hk, by rw [(ht k hk hd).1]; exact hS, hd⟩]

theorem look_same {a a' : Act} {o : Oper} (hs : ∀ cs b, o.op ≠ .select cs b) (h : ∀ t ∈ o.looksAt ops, a.tmps[t]? = a'.tmps[t]?) :
    execOp a.eval o = execOp a'.eval o ∧ Region.wanted o (yielded ops a.tmps) = Region.wanted o (yielded ops a'.tmps) := by
  refine ⟨execOp_congr o hs fun x hx => ?_, ?_⟩
  · cases x with
    | tmp t =>
      have := h t (List.mem_append_left _ (List.mem_filterMap.2 ⟨.tmp t, by simpa using hx, rfl⟩))
      simp only [Act.eval, Array.getD_eq_getD_getElem?, this]
    | _ => rfl
  · unfold Region.wanted
    cases hg : o.guard with
    | none => rfl
    | some gw =>
      obtain ⟨g, want⟩ := gw
      have hy : yielded ops a.tmps g = yielded ops a'.tmps g := by
        unfold yielded
        cases ht : (ops[g]?).bind (·.dst) with
        | none => rfl
        | some t =>
          have := h t (by simp [Oper.looksAt, hg, ht])
          simp only [Option.bind_some, this]
      simp only [hy]

/-- The block that a pointer or a slice leads to. -/
def blockOf : Value → Option Nat
  | .pointer (some a) => some a.block
  | .slice (some a) _ _ => some a.block
  | _ => none
/-- What an operation that calls no Go function yields. -/
def fnUpon (Z : Value → World → Prop) : Result Next → Prop
  | .ok (.value u) w' => Z u w'
  | .ok .skip w' => Z undef w'
  | _ => False
/-- What a call of a Go function yields. -/
def callUpon (P : Program) (w : World) (R : Ending → World → Prop) : Result Next → Prop
  | .ok (.enter f args) w' => w' = w ∧ Calls P f args w R
  | _ => False
def FactsAt (md : Region.Mode) (ops : Array Oper) (i : Nat) (Γ : List (Nat × (World → Prop))) (w : World) : Prop := ∀ p ∈ Γ, depB md ops i p.1 = true → p.2 w

/-- The walk in the order of the text; L: the operations that have been carried out already (none, for who walks). -/
def Res (P : Program) (md : Region.Mode) (ops : Array Oper) (B : Nat) (w0 : World) (sp : Nat → Value → World → Prop) (nw : Nat → Bool) (L : Nat → Bool) (val : Nat → Value) (wr : World)
    (Q : List (Nat × (World → Prop)) → Act → Prop) : List Oper → Nat → List (Nat × (World → Prop)) → Act → Prop
  | [], _, Γ, a => Q Γ a
  | o :: rest, i, Γ, a =>
    if Region.wanted o (yielded ops a.tmps) = true then
      (∃ v, nw i = false ∧ (∀ w, Below B w0 w → fnUpon (fun u w' => u = v ∧ w' = w) ((execOp a.eval o).run P w)) ∧ (L i = true → val i = v) ∧ Res P md ops B w0 sp nw L val wr Q rest (i + 1) Γ (a.put o.dst v)) ∨
      (∃ Z : Value → World → Prop, (∀ u, Steady (Z u)) ∧ (∀ w, Below B w0 w → FactsAt md ops i Γ w → fnUpon (fun u w' => (Below w.heap.size w w' ∧ (nw i = true → blockOf u = some w.heap.size ∧ w.heap.size < w'.heap.size)) ∧ Z u w') ((execOp a.eval o).run P w)) ∧ (L i = true → Z (val i) wr) ∧
        ∀ u, (L i = true → u = val i) → (L i = false → ∃ w', Below B w0 w' ∧ Z u w') → Res P md ops B w0 sp nw L val wr Q rest (i + 1) ((i, Z u) :: Γ) (a.put o.dst u)) ∨
      (nw i = false ∧ (∀ u, Steady (sp i u)) ∧ (∀ w, Below B w0 w → FactsAt md ops i Γ w → callUpon P w (fun e w' => ∃ u, e = .returned u ∧ Below w.heap.size w w' ∧ sp i u w') ((execOp a.eval o).run P w)) ∧ (L i = true → sp i (val i) wr) ∧
        ∀ u, (L i = true → u = val i) → (L i = false → ∃ w', Below B w0 w' ∧ sp i u w') → Res P md ops B w0 sp nw L val wr Q rest (i + 1) ((i, sp i u) :: Γ) (a.put o.dst u))
    else nw i = false ∧ (L i = true → val i = undef) ∧ Res P md ops B w0 sp nw L val wr Q rest (i + 1) Γ (a.put o.dst undef)

variable {Q : List (Nat × (World → Prop)) → Act → Prop}

/-- Behind the place of what was carried out last: only the world has moved on. -/
theorem Res.later {L L' : Nat → Bool} {val val' : Nat → Value} {wr w1 : World} (hb : Below wr.heap.size wr w1) : ∀ (l : List Oper) (i : Nat) (Γ : List (Nat × (World → Prop))) (a : Act),
    (∀ k, i ≤ k → L' k = L k ∧ val' k = val k) → Res P md ops B w0 sp nw L val wr Q l i Γ a → Res P md ops B w0 sp nw L' val' w1 Q l i Γ a := by
  intro l
  induction l with
  | nil => intro i Γ a _ h; exact h
  | cons o rest ih =>
    intro i Γ a he h
    obtain ⟨hL, hv⟩ := he i (Nat.le_refl i)
    have he' : ∀ k, i + 1 ≤ k → L' k = L k ∧ val' k = val k := fun k hk => he k (by omega)
    unfold Res at h ⊢
    rw [hL, hv]
    split
    · rename_i hw
      rw [if_pos hw] at h
      rcases h with ⟨v, hnw, h1, h2, h3⟩ | ⟨Z, hs, h1, h2, h3⟩ | ⟨hnw, hs, h1, h2, h3⟩
      · exact .inl ⟨v, hnw, h1, h2, ih _ _ _ he' h3⟩
      · exact .inr (.inl ⟨Z, hs, h1, fun h => hs _ _ _ hb (h2 h), fun u hu hu' => ih _ _ _ he' (h3 u hu hu')⟩)
      · exact .inr (.inr ⟨hnw, hs, h1, fun h => hs _ _ _ hb (h2 h), fun u hu hu' => ih _ _ _ he' (h3 u hu hu')⟩)
    · rename_i hw
      rw [if_neg hw] at h
      exact ⟨h.1, h.2.1, ih _ _ _ he' h.2.2⟩

/-- What the check says. -/
structure GrowOk (md : Region.Mode) (ops : Array Oper) (n : Nat) : Prop where
  sel : Region.noSelect ops = true
  size : n ≤ ops.size
  tail : n = ops.size ∨ (n < ops.size ∧ Region.sinkB md ops n = true ∧ Region.chainB md ops n = true)
  seq : Region.seqB md ops (ops.size - n) n (canon ops n) = true
  back : ∀ j, j < n → ∀ k ∈ predsOf md ops j, k < j
  one : ∀ i k t, i < n → k < n → dstOf ops i = some t → dstOf ops k = some t → i = k
  seen : ∀ j k t, j < n → k < n → dstOf ops k = some t → t ∈ looksOf ops j → k ∈ predsOf md ops j

theorem growB_ok (h : growB md ops n = true) : GrowOk md ops n := by
  unfold growB at h
  simp only [Bool.and_eq_true, Bool.or_eq_true, decide_eq_true_eq] at h
  obtain ⟨⟨⟨h1, h2⟩, h3⟩, h4⟩ := h
  have key : ∀ j, j < n → _ := fun j hj => List.all_eq_true.1 h4 j (List.mem_range.2 hj)
  simp only [Bool.and_eq_true] at key
  refine ⟨h1, by rcases h2 with h2 | h2 <;> omega, by simpa using h2, h3, fun j hj k hk => by simpa using List.all_eq_true.1 (key j hj).1 k hk, fun i k t hi hk hdi hdk => ?_, fun j k t hj hk hd ht => ?_⟩
  · have := List.all_eq_true.1 (key i hi).2 k (List.mem_range.2 hk)
    simp only [hdk, hdi, Bool.and_eq_true, Bool.or_eq_true, beq_iff_eq, bne_self_eq_false, Bool.false_eq_true, or_false] at this
    exact this.1.symm
  · have := List.all_eq_true.1 (key j hj).2 k (List.mem_range.2 hk)
    simp only [hd, Bool.and_eq_true, Bool.or_eq_true] at this
    rcases this.2 with h | h
    · simp [ht] at h
    · simpa using h

/-- The frames of two ways look the same to an operation whose callers have all come up. -/
theorem GrowOk.same {L : Nat → Bool} {val vh : Nat → Value} {a0 ar a : Act} {j : Nat} {oj : Oper} (g : GrowOk md ops n) (hr : Pt ops n L val a0 ar) (hl : Pt ops n (fun k => decide (k < j)) vh a0 a) (hj : j < n)
    (ho : ops[j]? = some oj) (hp : ∀ k ∈ predsOf md ops j, L k = true) (hv : ∀ k, k < j → L k = true → vh k = val k) :
    execOp a.eval oj = execOp ar.eval oj ∧ Region.wanted oj (yielded ops a.tmps) = Region.wanted oj (yielded ops ar.tmps) := by
  refine look_same (Region.noSelect_spec g.sel j oj · · ho) fun t ht => hl.agree hr fun k hk hd => ?_
  have hm := g.seen j k t hj hk hd (by simpa [looksOf, ho] using ht)
  have hlt := g.back j hj k hm
  have hLk := hp k hm
  exact ⟨by simp [hlt, hLk], fun _ => hv k hlt hLk⟩

/-- Some way leads to operation j. -/
theorem Res.reach {L : Nat → Bool} {val : Nat → Value} {wr : World} {a0 : Act} {j : Nat} {oj : Oper} (g : GrowOk md ops n) (hBw : B ≤ w0.heap.size) (hj : j < n) (ho : ops[j]? = some oj) :
    ∀ (l : List Oper) (i : Nat) (Γ : List (Nat × (World → Prop))) (a : Act) (vh : Nat → Value) (wh : World), (∀ m, m < l.length → l[m]? = ops[i + m]?) → i + l.length = n → i ≤ j → Res P md ops B w0 sp nw L val wr Q l i Γ a →
      Pt ops n (fun k => decide (k < i)) vh a0 a → (∀ k, k < i → L k = true → vh k = val k) → (∀ p ∈ Γ, Steady p.2) → (∀ p ∈ Γ, L p.1 = true → p.2 wr) → Below wr.heap.size wr wh → Below B w0 wh → (∀ p ∈ Γ, p.2 wh) →
      ∃ rest Γj aj vj, Res P md ops B w0 sp nw L val wr Q (oj :: rest) j Γj aj ∧ Pt ops n (fun k => decide (k < j)) vj a0 aj ∧ (∀ k, k < j → L k = true → vj k = val k) ∧ (∀ p ∈ Γj, L p.1 = true → p.2 wr) := by
  intro l
  induction l with
  | nil => intro i Γ a vh wh _ hn hij; simp at hn; omega
  | cons o rest ih =>
    intro i Γ a vh wh hl hn hij h hpt hv hst hlr hrh hBh hfh
    have hio : ops[i]? = some o := by simpa using (hl 0 (by simp)).symm
    by_cases e : i = j
    · subst e
      obtain rfl : o = oj := Option.some.inj (hio.symm.trans ho)
      exact ⟨rest, Γ, a, vh, h, hpt, hv, hlr⟩
    · have hlt : i < j := by omega
      have hin : i < n := by omega
      have hl' : ∀ m, m < rest.length → rest[m]? = ops[i + 1 + m]? := fun m hm => by
        have := hl (m + 1) (by simp; omega)
        simpa [Nat.add_assoc, Nat.add_comm 1 m] using this
      have hn' : i + 1 + rest.length = n := by simp at hn; omega
      have hput : ∀ u, Pt ops n (fun k => decide (k < i + 1)) (upd vh i u) a0 (a.put o.dst u) := fun u => by
        have := hpt.put (u := u) g.one hin (by simp) hio
        have e2 : ins (fun k => decide (k < i)) i = fun k => decide (k < i + 1) := by
          funext k; simp only [ins]; rw [Bool.eq_iff_iff]; simp; omega
        rwa [e2] at this
      have hvu : ∀ u, (L i = true → u = val i) → ∀ k, k < i + 1 → L k = true → upd vh i u k = val k := fun u hu k hk hLk => by
        unfold upd
        by_cases e : k = i
        · subst e; rw [if_pos rfl]; exact hu hLk
        · rw [if_neg e]; exact hv k (by omega) hLk
      unfold Res at h
      split at h
      · rcases h with ⟨v, hnw, h1, h2, h3⟩ | ⟨Z, hs, h1, h2, h3⟩ | ⟨hnw, hs, h1, h2, h3⟩
        · exact ih _ _ _ _ wh hl' hn' (by omega) h3 (hput v) (hvu v fun h => (h2 h).symm) hst hlr hrh hBh hfh
        · cases hLi : L i with
          | true =>
            refine ih _ _ _ _ wh hl' hn' (by omega) (h3 (val i) (fun _ => rfl) (fun h => by rw [hLi] at h; cases h)) (hput _) (hvu _ fun _ => rfl) ?_ ?_ hrh hBh ?_
            · exact fun p hp => by rcases List.mem_cons.1 hp with rfl | hp; exact hs _; exact hst p hp
            · exact fun p hp hL => by rcases List.mem_cons.1 hp with rfl | hp; exact h2 hLi; exact hlr p hp hL
            · exact fun p hp => by rcases List.mem_cons.1 hp with rfl | hp; exact hs _ _ _ hrh (h2 hLi); exact hfh p hp
          | false =>
            have hx := h1 wh hBh fun p hp _ => hfh p hp
            have hgo : ∀ u w', Below wh.heap.size wh w' ∧ Z u w' → _ := fun u w' hz =>
              ih (i + 1) ((i, Z u) :: Γ) (a.put o.dst u) (upd vh i u) w' hl' hn' (by omega) (h3 u (fun h => by rw [hLi] at h; cases h) (fun _ => ⟨w', hBh.trans (hz.1.mono (Nat.le_trans hBw hBh.size)), hz.2⟩)) (hput u)
                (hvu u fun h => by rw [hLi] at h; cases h) (fun p hp => by rcases List.mem_cons.1 hp with rfl | hp; exact hs _; exact hst p hp)
                (fun p hp hL => by rcases List.mem_cons.1 hp with rfl | hp; (rw [hLi] at hL; cases hL); exact hlr p hp hL) (hrh.trans (hz.1.mono hrh.size)) (hBh.trans (hz.1.mono (Nat.le_trans hBw hBh.size)))
                (fun p hp => by rcases List.mem_cons.1 hp with rfl | hp; exact hz.2; exact hst p hp _ _ hz.1 (hfh p hp))
            generalize (execOp a.eval o).run P wh = r at hx
            cases r with
            | ok x w' => cases x <;> simp only [fnUpon] at hx <;> exact hgo _ _ ⟨hx.1.1, hx.2⟩
            | halt x w' => exact hx.elim
        · cases hLi : L i with
          | true =>
            refine ih _ _ _ _ wh hl' hn' (by omega) (h3 (val i) (fun _ => rfl) (fun h => by rw [hLi] at h; cases h)) (hput _) (hvu _ fun _ => rfl) ?_ ?_ hrh hBh ?_
            · exact fun p hp => by rcases List.mem_cons.1 hp with rfl | hp; exact hs _; exact hst p hp
            · exact fun p hp hL => by rcases List.mem_cons.1 hp with rfl | hp; exact h2 hLi; exact hlr p hp hL
            · exact fun p hp => by rcases List.mem_cons.1 hp with rfl | hp; exact hs _ _ _ hrh (h2 hLi); exact hfh p hp
          | false =>
            have hx := h1 wh hBh fun p hp _ => hfh p hp
            have hgo : ∀ u w', Below wh.heap.size wh w' ∧ sp i u w' → _ := fun u w' hz =>
              ih (i + 1) ((i, sp i u) :: Γ) (a.put o.dst u) (upd vh i u) w' hl' hn' (by omega) (h3 u (fun h => by rw [hLi] at h; cases h) (fun _ => ⟨w', hBh.trans (hz.1.mono (Nat.le_trans hBw hBh.size)), hz.2⟩)) (hput u)
                (hvu u fun h => by rw [hLi] at h; cases h) (fun p hp => by rcases List.mem_cons.1 hp with rfl | hp; exact hs _; exact hst p hp)
                (fun p hp hL => by rcases List.mem_cons.1 hp with rfl | hp; (rw [hLi] at hL; cases hL); exact hlr p hp hL) (hrh.trans (hz.1.mono hrh.size)) (hBh.trans (hz.1.mono (Nat.le_trans hBw hBh.size)))
                (fun p hp => by rcases List.mem_cons.1 hp with rfl | hp; exact hz.2; exact hst p hp _ _ hz.1 (hfh p hp))
            generalize (execOp a.eval o).run P wh = r at hx
            cases r with
            | ok x w' =>
              cases x <;> simp only [callUpon] at hx
              obtain ⟨_, hc⟩ := hx
              obtain ⟨e', w'', _, ⟨u, _, hz⟩, _⟩ := hc []
              exact hgo u w'' hz
            | halt x w' => exact hx.elim
      · exact ih _ _ _ _ wh hl' hn' (by omega) h.2.2 (hput undef) (hvu undef fun hL => (h.2.1 hL).symm) hst hlr hrh hBh hfh

/-- What operation j, carried out in the frame ar and the world wr, leaves. -/
def Outc (P : Program) (ops : Array Oper) (sp : Nat → Value → World → Prop) (j : Nat) (oj : Oper) (ar : Act) (wr : World) (u : Value) (w1 : World) : Prop :=
  if Region.wanted oj (yielded ops ar.tmps) = true then
    match (execOp ar.eval oj).run P wr with
    | .ok (.value v) w' => v = u ∧ w' = w1
    | .ok .skip w' => undef = u ∧ w' = w1
    | .ok (.enter _ _) _ => sp j u w1
    | _ => False
  else undef = u ∧ wr = w1

theorem Res.mark {L : Nat → Bool} {val : Nat → Value} {wr w1 : World} {a0 ar : Act} {j : Nat} {oj : Oper} {u : Value} (g : GrowOk md ops n) (hj : j < n) (ho : ops[j]? = some oj) (hLj : L j = false)
    (hp : ∀ k ∈ predsOf md ops j, L k = true) (hdep : ∀ k, depB md ops j k = true → L k = true) (hr : Pt ops n L val a0 ar) (hBr : Below B w0 wr) (hb : Below wr.heap.size wr w1) (hB1 : Below B w0 w1) (hout : Outc P ops sp j oj ar wr u w1) :
    ∀ (l : List Oper) (i : Nat) (Γ : List (Nat × (World → Prop))) (a : Act) (vh : Nat → Value), (∀ m, m < l.length → l[m]? = ops[i + m]?) → i + l.length = n → i ≤ j → Res P md ops B w0 sp nw L val wr Q l i Γ a →
      Pt ops n (fun k => decide (k < i)) vh a0 a → (∀ k, k < i → L k = true → vh k = val k) → (∀ p ∈ Γ, L p.1 = true → p.2 wr) → Res P md ops B w0 sp nw (ins L j) (upd val j u) w1 Q l i Γ a := by
  intro l
  induction l with
  | nil => intro i Γ a vh _ hn hij; simp at hn; omega
  | cons o rest ih =>
    intro i Γ a vh hl hn hij h hpt hv hlr
    have hio : ops[i]? = some o := by simpa using (hl 0 (by simp)).symm
    by_cases e : i = j
    · subst e
      obtain rfl : o = oj := Option.some.inj (hio.symm.trans ho)
      obtain ⟨hex, hwt⟩ := g.same hr hpt hj ho hp hv
      have hins : ins L i i = true := by simp [ins]
      have hupd : upd val i u i = u := by simp [upd]
      have hafter : ∀ k, i + 1 ≤ k → ins L i k = L k ∧ upd val i u k = val k := fun k hk => by
        have : k ≠ i := by omega
        simp [ins, upd, this]
      have hF : FactsAt md ops i Γ wr := fun p hp' hd => hlr p hp' (hdep _ hd)
      unfold Res at h ⊢
      rw [hins, hupd]
      unfold Outc at hout
      rw [← hex, ← hwt] at hout
      split
      · rename_i hw
        rw [if_pos hw] at h hout
        rcases h with ⟨v, hnw, h1, h2, h3⟩ | ⟨Z, hs, h1, h2, h3⟩ | ⟨hnw, hs, h1, h2, h3⟩
        · have hx := h1 wr hBr
          have huv : u = v := by
            generalize (execOp a.eval o).run P wr = r at hx hout
            cases r with
            | ok x w' => cases x <;> simp only [fnUpon] at hx <;> simp only at hout <;> rw [← hout.1, hx.1]
            | halt x w' => exact hx.elim
          exact .inl ⟨v, hnw, h1, fun _ => huv, h3.later hb _ _ _ _ hafter⟩
        · have hx := h1 wr hBr hF
          have hz : Z u w1 := by
            generalize (execOp a.eval o).run P wr = r at hx hout
            cases r with
            | ok x w' => cases x <;> simp only [fnUpon] at hx <;> simp only at hout <;> (obtain ⟨rfl, rfl⟩ := hout; exact hx.2)
            | halt x w' => exact hx.elim
          refine .inr (.inl ⟨Z, hs, h1, fun _ => hz, fun u' hu' _ => ?_⟩)
          obtain rfl := hu' rfl
          exact (h3 u' (fun h => by rw [hLj] at h; cases h) (fun _ => ⟨w1, hB1, hz⟩)).later hb _ _ _ _ hafter
        · have hx := h1 wr hBr hF
          have hz : sp i u w1 := by
            generalize (execOp a.eval o).run P wr = r at hx hout
            cases r with
            | ok x w' => cases x <;> simp only [callUpon] at hx; exact hout
            | halt x w' => exact hx.elim
          refine .inr (.inr ⟨hnw, hs, h1, fun _ => hz, fun u' hu' _ => ?_⟩)
          obtain rfl := hu' rfl
          exact (h3 u' (fun h => by rw [hLj] at h; cases h) (fun _ => ⟨w1, hB1, hz⟩)).later hb _ _ _ _ hafter
      · rename_i hw
        rw [if_neg hw] at h hout
        exact ⟨h.1, fun _ => hout.1.symm, h.2.2.later hb _ _ _ _ hafter⟩
    · have hlt : i < j := by omega
      have hin : i < n := by omega
      have hl' : ∀ m, m < rest.length → rest[m]? = ops[i + 1 + m]? := fun m hm => by
        have := hl (m + 1) (by simp; omega)
        simpa [Nat.add_assoc, Nat.add_comm 1 m] using this
      have hn' : i + 1 + rest.length = n := by simp at hn; omega
      have hput : ∀ u, Pt ops n (fun k => decide (k < i + 1)) (upd vh i u) a0 (a.put o.dst u) := fun u => by
        have := hpt.put (u := u) g.one hin (by simp) hio
        have e2 : ins (fun k => decide (k < i)) i = fun k => decide (k < i + 1) := by
          funext k; simp only [ins]; rw [Bool.eq_iff_iff]; simp; omega
        rwa [e2] at this
      have hvu : ∀ u, (L i = true → u = val i) → ∀ k, k < i + 1 → L k = true → upd vh i u k = val k := fun u hu k hk hLk => by
        unfold upd
        by_cases e : k = i
        · subst e; rw [if_pos rfl]; exact hu hLk
        · rw [if_neg e]; exact hv k (by omega) hLk
      have hins : ins L j i = L i := by simp [ins, e]
      have hupd : upd val j u i = val i := by simp [upd, e]
      unfold Res at h ⊢
      rw [hins, hupd]
      split
      · rename_i hw
        rw [if_pos hw] at h
        rcases h with ⟨v, hnw, h1, h2, h3⟩ | ⟨Z, hs, h1, h2, h3⟩ | ⟨hnw, hs, h1, h2, h3⟩
        · exact .inl ⟨v, hnw, h1, h2, ih _ _ _ _ hl' hn' (by omega) h3 (hput v) (hvu v fun h => (h2 h).symm) hlr⟩
        · exact .inr (.inl ⟨Z, hs, h1, fun h => hs _ _ _ hb (h2 h), fun u' hu hu' => ih _ _ _ _ hl' hn' (by omega) (h3 u' hu hu') (hput u') (hvu u' hu) fun p hp hL => by
            rcases List.mem_cons.1 hp with rfl | hp
            · rw [hu hL]; exact h2 hL
            · exact hlr p hp hL⟩)
        · exact .inr (.inr ⟨hnw, hs, h1, fun h => hs _ _ _ hb (h2 h), fun u' hu hu' => ih _ _ _ _ hl' hn' (by omega) (h3 u' hu hu') (hput u') (hvu u' hu) fun p hp hL => by
            rcases List.mem_cons.1 hp with rfl | hp
            · rw [hu hL]; exact h2 hL
            · exact hlr p hp hL⟩)
      · rename_i hw
        rw [if_neg hw] at h
        exact ⟨h.1, h.2.1, ih _ _ _ _ hl' hn' (by omega) h.2.2 (hput undef) (hvu undef fun hL => (h.2.1 hL).symm) hlr⟩

/-- All have come up. -/
theorem Res.over {L : Nat → Bool} {val : Nat → Value} {wr : World} {a0 : Act} (g : GrowOk md ops n) (hL : ∀ k, k < n → L k = true) :
    ∀ (l : List Oper) (i : Nat) (Γ : List (Nat × (World → Prop))) (a : Act) (vh : Nat → Value), (∀ m, m < l.length → l[m]? = ops[i + m]?) → i + l.length = n → Res P md ops B w0 sp nw L val wr Q l i Γ a →
      Pt ops n (fun k => decide (k < i)) vh a0 a → (∀ k, k < i → vh k = val k) → (∀ p ∈ Γ, p.2 wr) → ∃ Γ' a' vh', Q Γ' a' ∧ Pt ops n (fun k => decide (k < n)) vh' a0 a' ∧ (∀ k, k < n → vh' k = val k) ∧ ∀ p ∈ Γ', p.2 wr := by
  intro l
  induction l with
  | nil =>
    intro i Γ a vh _ hn h hpt hv hf
    obtain rfl : i = n := by simpa using hn
    exact ⟨Γ, a, vh, h, hpt, hv, hf⟩
  | cons o rest ih =>
    intro i Γ a vh hl hn h hpt hv hf
    have hio : ops[i]? = some o := by simpa using (hl 0 (by simp)).symm
    have hin : i < n := by simp at hn; omega
    have hLi := hL i hin
    have hl' : ∀ m, m < rest.length → rest[m]? = ops[i + 1 + m]? := fun m hm => by
      have := hl (m + 1) (by simp; omega)
      simpa [Nat.add_assoc, Nat.add_comm 1 m] using this
    have hn' : i + 1 + rest.length = n := by simp at hn; omega
    have hput : ∀ u, Pt ops n (fun k => decide (k < i + 1)) (upd vh i u) a0 (a.put o.dst u) := fun u => by
      have := hpt.put (u := u) g.one hin (by simp) hio
      have e2 : ins (fun k => decide (k < i)) i = fun k => decide (k < i + 1) := by
        funext k; simp only [ins]; rw [Bool.eq_iff_iff]; simp; omega
      rwa [e2] at this
    have hvu : ∀ u, u = val i → ∀ k, k < i + 1 → upd vh i u k = val k := fun u hu k hk => by
      unfold upd
      by_cases e : k = i
      · subst e; rw [if_pos rfl]; exact hu
      · rw [if_neg e]; exact hv k (by omega)
    unfold Res at h
    split at h
    · rcases h with ⟨v, hnw, h1, h2, h3⟩ | ⟨Z, hs, h1, h2, h3⟩ | ⟨hnw, hs, h1, h2, h3⟩
      · exact ih _ _ _ _ hl' hn' h3 (hput v) (hvu v (h2 hLi).symm) hf
      · exact ih _ _ _ _ hl' hn' (h3 (val i) (fun _ => rfl) (fun h => by rw [hLi] at h; cases h)) (hput _) (hvu _ rfl) fun p hp => by
          rcases List.mem_cons.1 hp with rfl | hp
          exact h2 hLi; exact hf p hp
      · exact ih _ _ _ _ hl' hn' (h3 (val i) (fun _ => rfl) (fun h => by rw [hLi] at h; cases h)) (hput _) (hvu _ rfl) fun p hp => by
          rcases List.mem_cons.1 hp with rfl | hp
          exact h2 hLi; exact hf p hp
    · exact ih _ _ _ _ hl' hn' h.2.2 (hput undef) (hvu undef (h.2.1 hLi).symm) hf

/-- One operation comes up. -/
theorem Res.step {Qx : Exit → Act → World → Prop} {L : Nat → Bool} {val : Nat → Value} {wr : World} {a0 ar : Act} {j : Nat} {oj : Oper} {l : List Oper} (g : GrowOk md ops n) (hBw : B ≤ w0.heap.size) (hj : j < n) (ho : ops[j]? = some oj)
    (hLj : L j = false) (hp : ∀ k ∈ predsOf md ops j, L k = true) (hdep : ∀ k, depB md ops j k = true → L k = true) (hr : Pt ops n L val a0 ar) (hBr : Below B w0 wr) (hl : ∀ m, m < l.length → l[m]? = ops[m]?) (hn : l.length = n)
    (h : Res P md ops B w0 sp nw L val wr Q l 0 [] a0) :
    wpOp P ops Qx j (fun a' w' => ∃ u, a' = ar.put oj.dst u ∧ (Below wr.heap.size wr w' ∧ (nw j = true → blockOf u = some wr.heap.size ∧ wr.heap.size < w'.heap.size)) ∧ Below B w0 w' ∧ Res P md ops B w0 sp nw (ins L j) (upd val j u) w' Q l 0 [] a0) ar wr := by
  have pt0 : ∀ v, Pt ops n (fun k => decide (k < 0)) v a0 a0 := fun v => ⟨rfl, fun k t _ hS => by simp at hS, fun _ _ => rfl⟩
  have hl0 : ∀ m, m < l.length → l[m]? = ops[0 + m]? := fun m hm => by rw [Nat.zero_add]; exact hl m hm
  have after : ∀ u w1, Below wr.heap.size wr w1 → (nw j = true → blockOf u = some wr.heap.size ∧ wr.heap.size < w1.heap.size) → Outc P ops sp j oj ar wr u w1 → (∃ u', ar.put oj.dst u = ar.put oj.dst u' ∧ (Below wr.heap.size wr w1 ∧ (nw j = true → blockOf u' = some wr.heap.size ∧ wr.heap.size < w1.heap.size)) ∧ Below B w0 w1 ∧ Res P md ops B w0 sp nw (ins L j) (upd val j u') w1 Q l 0 [] a0) := fun u w1 hb hbl hout => by
    have hB1 : Below B w0 w1 := hBr.trans (hb.mono (Nat.le_trans hBw hBr.size))
    exact ⟨u, rfl, ⟨hb, hbl⟩, hB1, h.mark g hj ho hLj hp hdep hr hBr hb hB1 hout l 0 [] a0 val hl0 (by omega) (Nat.zero_le _) (pt0 _) (fun k hk => by omega) (fun p hp => by cases hp)⟩
  obtain ⟨rest, Γ, a, vh, hres, hpt, hv, hlr⟩ := h.reach (j := j) g hBw hj ho l 0 [] a0 val wr hl0 (by omega) (Nat.zero_le _) (pt0 _) (fun k hk => by omega) (fun p hp => by cases hp) (fun p hp => by cases hp) (Below.refl _ _) hBr (fun p hp => by cases hp)
  obtain ⟨hex, hwt⟩ := g.same hr hpt hj ho hp hv
  have hF : FactsAt md ops j Γ wr := fun p hp' hd => hlr p hp' (hdep _ hd)
  unfold wpOp
  simp only [ho]
  unfold Res at hres
  rw [hex, hwt] at hres
  split
  · rename_i hw
    rw [if_pos hw] at hres
    refine .inl ?_
    unfold Oper.wp
    have hout : ∀ u w1, (match (execOp ar.eval oj).run P wr with | .ok (.value v) w' => v = u ∧ w' = w1 | .ok .skip w' => undef = u ∧ w' = w1 | .ok (.enter _ _) _ => sp j u w1 | _ => False) → Outc P ops sp j oj ar wr u w1 := fun u w1 h => by
      unfold Outc; rw [if_pos hw]; exact h
    rcases hres with ⟨v, hnw, h1, h2, h3⟩ | ⟨Z, hs, h1, h2, h3⟩ | ⟨hnw, hs, h1, h2, h3⟩
    · have hx := h1 wr hBr
      cases hrun : (execOp ar.eval oj).run P wr with
      | ok x w' =>
        rw [hrun] at hx hout
        cases x <;> simp only [fnUpon] at hx <;> simp only [Oper.upon]
        case value v' => exact after _ _ (by rw [hx.2]; exact Below.refl _ _) (fun h => by rw [hnw] at h; cases h) (hout _ _ ⟨rfl, rfl⟩)
        case skip => exact after _ _ (by rw [hx.2]; exact Below.refl _ _) (fun h => by rw [hnw] at h; cases h) (hout _ _ ⟨rfl, rfl⟩)
      | halt x w' => rw [hrun] at hx; exact hx.elim
    · have hx := h1 wr hBr hF
      cases hrun : (execOp ar.eval oj).run P wr with
      | ok x w' =>
        rw [hrun] at hx hout
        cases x <;> simp only [fnUpon] at hx <;> simp only [Oper.upon]
        case value v' => exact after _ _ hx.1.1 hx.1.2 (hout _ _ ⟨rfl, rfl⟩)
        case skip => exact after _ _ hx.1.1 hx.1.2 (hout _ _ ⟨rfl, rfl⟩)
      | halt x w' => rw [hrun] at hx; exact hx.elim
    · have hx := h1 wr hBr hF
      cases hrun : (execOp ar.eval oj).run P wr with
      | ok x w' =>
        rw [hrun] at hx hout
        cases x <;> simp only [callUpon] at hx
        simp only [Oper.upon]
        obtain ⟨rfl, hc⟩ := hx
        exact hc.mono fun e w'' ⟨u, he, hb, hz⟩ => by subst he; exact after u w'' hb (fun h => by rw [hnw] at h; cases h) (hout _ _ hz)
      | halt x w' => rw [hrun] at hx; exact hx.elim
  · rename_i hw
    rw [if_neg hw] at hres
    exact after _ _ (Below.refl _ _) (fun h => by rw [hres.1] at h; cases h) (by unfold Outc; rw [if_neg hw]; exact ⟨rfl, rfl⟩)

theorem count_off : ∀ (n : Nat) (p : Nat → Bool) (j : Nat), j < n → p j = true → (List.range n).countP (fun k => p k && k != j) + 1 = (List.range n).countP p := by
  intro n
  induction n with
  | zero => intro p j hj; omega
  | succ n ih =>
    intro p j hj hp
    rw [List.range_succ, List.countP_append, List.countP_append]
    by_cases e : j = n
    · subst e
      have h1 : (List.range j).countP (fun k => p k && k != j) = (List.range j).countP p := List.countP_congr fun k hk => by
        have : k ≠ j := by have := List.mem_range.1 hk; omega
        simp [this]
      rw [h1]
      simp [hp]
    · have := ih p j (by omega) hp
      have h2 : n ≠ j := fun h => e h.symm
      have h3 : [n].countP (fun k => p k && k != j) = [n].countP p := by simp [List.countP_cons, h2]
      rw [h3]
      omega

theorem least_of {p : Nat → Bool} : ∀ k, p k = true → ∃ m, m ≤ k ∧ p m = true ∧ ∀ i, i < m → p i = false := by
  intro k
  induction k using Nat.strongRecOn with
  | _ k ih =>
    intro hk
    by_cases h : ∃ i, i < k ∧ p i = true
    · obtain ⟨i, hi, hpi⟩ := h
      obtain ⟨m, hm, h1, h2⟩ := ih i hi hpi
      exact ⟨m, by omega, h1, h2⟩
    · exact ⟨k, Nat.le_refl _, hk, fun i hi => by cases hpi : p i; rfl; exact absurd ⟨i, hi, hpi⟩ h⟩

/-- The blocks that the operations nw made are there, and no two are one. -/
def Apart (n : Nat) (nw L : Nat → Bool) (val : Nat → Value) (w : World) : Prop :=
  (∀ i, i < n → L i = true → nw i = true → ∃ b, blockOf (val i) = some b ∧ b < w.heap.size) ∧
    ∀ i j, i < n → j < n → i ≠ j → L i = true → L j = true → nw i = true → nw j = true → blockOf (val i) ≠ blockOf (val j)
theorem Apart.step {L : Nat → Bool} {val : Nat → Value} {w w' : World} {j : Nat} {u : Value} (h : Apart n nw L val w) (hsz : w.heap.size ≤ w'.heap.size) (hb : nw j = true → blockOf u = some w.heap.size ∧ w.heap.size < w'.heap.size) : Apart n nw (ins L j) (upd val j u) w' := by
  refine ⟨fun i hi hL hn => ?_, fun i k hi hk hik hL hLk hn hnk => ?_⟩
  · by_cases e : i = j
    · subst e
      exact ⟨_, by simp [upd]; exact (hb hn).1, (hb hn).2⟩
    · obtain ⟨b, h1, h2⟩ := h.1 i hi (by simpa [ins, e] using hL) hn
      exact ⟨b, by simpa [upd, e] using h1, by omega⟩
  · by_cases e : i = j
    · subst e
      have hki : k ≠ i := fun e => hik e.symm
      obtain ⟨b, h1, h2⟩ := h.1 k hk (by simpa [ins, hki] using hLk) hnk
      rw [show upd val i u i = u from by simp [upd], show upd val i u k = val k from by simp [upd, hki], (hb hn).1, h1]
      intro e
      injection e with e
      omega
    · by_cases e' : k = j
      · subst e'
        obtain ⟨b, h1, h2⟩ := h.1 i hi (by simpa [ins, e] using hL) hn
        rw [show upd val k u k = u from by simp [upd], show upd val k u i = val i from by simp [upd, e], (hb hnk).1, h1]
        intro e
        injection e with e
        omega
      · simp only [upd, if_neg e, if_neg e']
        exact h.2 i k hi hk hik (by simpa [ins, e] using hL) (by simpa [ins, e'] using hLk) hn hnk
/-- .. said of a frame. -/
def ApartAt (ops : Array Oper) (n : Nat) (nw : Nat → Bool) (a : Act) : Prop :=
  ∀ i j ti tj u v, i < n → j < n → i ≠ j → nw i = true → nw j = true → dstOf ops i = some ti → dstOf ops j = some tj → a.tmps[ti]? = some u → a.tmps[tj]? = some v → blockOf u ≠ blockOf v

theorem grow_any {Qx : Exit → Act → World → Prop} {a0 : Act} {l : List Oper} (g : GrowOk md ops n) (hBw : B ≤ w0.heap.size) (hl : ∀ m, m < l.length → l[m]? = ops[m]?) (hn : l.length = n)
    (hQ : ∀ Γ a w, Q Γ a → Below B w0 w → (∀ p ∈ Γ, p.2 w) → ApartAt ops n nw a → wpAny P md ops Qx (ops.size - n) (canon ops n) a w) :
    ∀ (f : Nat) (listed : Array Bool) (ar : Act) (wr : World) (val : Nat → Value), (List.range n).countP (fun k => !listed.getD k false) = f → HeadInv md ops n listed → Pt ops n (fun k => listed.getD k false) val a0 ar → Below B w0 wr → Apart n nw (fun k => listed.getD k false) val wr →
      Res P md ops B w0 sp nw (fun k => listed.getD k false) val wr Q l 0 [] a0 → wpAny P md ops Qx (f + (ops.size - n)) listed ar wr := by
  intro f
  induction f with
  | zero =>
    intro listed ar wr val hc inv hpt hB hap h
    have hall : ∀ k, k < n → listed.getD k false = true := fun k hk => by
      have := List.countP_eq_zero.1 hc k (List.mem_range.2 hk)
      simpa using this
    obtain ⟨Γ, a, vh, hq, hpa, hv, hf⟩ := h.over g hall l 0 [] a0 val (fun m hm => by rw [Nat.zero_add]; exact hl m hm) (by omega) ⟨rfl, fun k t _ hS => by simp at hS, fun _ _ => rfl⟩ (fun k hk => by omega) (fun p hp => by cases hp)
    have hcan : listed = canon ops n := by
      apply Array.ext_getElem?
      intro k
      unfold canon
      by_cases hks : k < ops.size
      · have hks' : k < listed.size := by rw [inv.size]; exact hks
        by_cases hkn : k < n
        · have := hall k hkn
          simp [hks, hks', hkn] at this ⊢
          exact this
        · have := inv.tail k (by omega) hks
          simp [hks, hks', hkn] at this ⊢
          exact this
      · have hks' : ¬ k < listed.size := by rw [inv.size]; exact hks
        simp [hks, hks']
    have hfr : ar = a := by
      have h1 : ar.defers = a.defers := hpt.defers.trans hpa.defers.symm
      have h2 : ar.tmps = a.tmps := Array.ext_getElem? fun t => hpt.agree hpa fun k hk _ => ⟨by simp [hk, hall k hk], fun _ => (hv k hk).symm⟩
      cases ar; cases a; simp_all
    rw [Nat.zero_add, hcan, hfr]
    refine hQ Γ a wr hq hB hf fun i j ti tj u v hi hj hij hni hnj hdi hdj hu hv' => ?_
    have e1 := hpa.hit i ti hi (by simpa using hi) hdi
    have e2 := hpa.hit j tj hj (by simpa using hj) hdj
    rw [hu] at e1
    rw [hv'] at e2
    have e3 : u = val i := by
      cases h0 : a0.tmps[ti]? with
      | none => rw [h0] at e1; cases e1
      | some x => rw [h0] at e1; simp at e1; rw [e1, hv i hi]
    have e4 : v = val j := by
      cases h0 : a0.tmps[tj]? with
      | none => rw [h0] at e2; cases e2
      | some x => rw [h0] at e2; simp at e2; rw [e2, hv j hj]
    rw [e3, e4]
    exact hap.2 i j hi hj hij (hall i hi) (hall j hj) hni hnj
  | succ f ih =>
    intro listed ar wr val hc inv hpt hB hap h
    have hex : ∃ k, k < n ∧ listed.getD k false = false := by
      have : 0 < (List.range n).countP (fun k => !listed.getD k false) := by omega
      obtain ⟨k, hk, hp⟩ := List.countP_pos_iff.1 this
      exact ⟨k, List.mem_range.1 hk, by simpa using hp⟩
    obtain ⟨k0, hk0, hun0⟩ := hex
    obtain ⟨m, hm, hm1, hm2⟩ := least_of (p := fun k => !listed.getD k false) k0 (by simpa using hun0)
    have hmn : m < n := by omega
    have hms : m < listed.size := by rw [inv.size]; have := g.size; omega
    have hun : listed.getD m true = false := getD_in hms (by simpa using hm1)
    have hready : m ∈ Region.ready md ops listed := by
      have hmo : m < ops.size := by have := g.size; omega
      refine mem_ready.2 ⟨hun, ops[m], by simp [hmo], fun e he hb => ?_⟩
      have : e.on < m := g.back m hmn _ (by
        unfold predsOf
        rw [Array.getElem?_eq_getElem hmo]
        exact List.mem_map.2 ⟨e, List.mem_filter.2 ⟨by simpa using he, hb⟩, rfl⟩)
      have := hm2 _ this
      simpa using this
    have e1 : f + 1 + (ops.size - n) = (f + (ops.size - n)) + 1 := by omega
    rw [e1]
    refine ⟨fun h0 => absurd (h0 ▸ hready) (by simp), fun j hj => ?_⟩
    obtain ⟨hju, oj, hoj, hall⟩ := mem_ready.1 hj
    have hjs : j < ops.size := (Array.getElem?_eq_some_iff.1 hoj).1
    have hjn : j < n := by
      rcases g.tail with ht | ⟨ht, hs, hch⟩
      · omega
      · exact Nat.lt_of_not_le fun h => tail_waits hs hch ht inv _ m rfl hmn hun j h hj
    have hp : ∀ k ∈ predsOf md ops j, listed.getD k false = true := fun k hk => by
      unfold predsOf at hk
      rw [hoj] at hk
      obtain ⟨e, he, rfl⟩ := List.mem_map.1 hk
      obtain ⟨he1, he2⟩ := List.mem_filter.1 he
      exact hall e (by simpa using he1) he2
    have hcl : ∀ i, listed.getD i false = true → ∀ k ∈ predsOf md ops i, listed.getD k false = true := fun i hi k hk => by
      unfold predsOf at hk
      cases hoi : ops[i]? with
      | none => rw [hoi] at hk; cases hk
      | some oi =>
        rw [hoi] at hk
        obtain ⟨e, he, rfl⟩ := List.mem_map.1 hk
        obtain ⟨he1, he2⟩ := List.mem_filter.1 he
        exact inv.closed i oi hoi hi e (by simpa using he1) he2
    have hdep : ∀ k, depB md ops j k = true → listed.getD k false = true := fun k hk => by
      unfold depB at hk
      exact upset_in hcl _ _ hp k (by simpa using hk)
    have hset : (fun k => (listed.setIfInBounds j true).getD k false) = ins (fun k => listed.getD k false) j := by
      funext k
      unfold ins
      by_cases e : k = j
      · subst e
        have : k < listed.size := by rw [inv.size]; exact hjs
        simp [this]
      · rw [getD_set_ne false (Ne.symm e)]
        simp [e]
    have hjf : listed.getD j false = false := getD_both hju
    refine wpOp_mono (fun a' w' ⟨u, he, hbl, hB', hres⟩ => ?_) (h.step (Qx := Qx) g hBw hjn hoj hjf hp hdep hpt hB hl hn)
    subst he
    have hpt' := hpt.put (u := u) g.one hjn hjf hoj
    have hap' := hap.step (u := u) (j := j) hbl.1.size hbl.2
    rw [← hset] at hres hpt' hap'
    refine ih _ _ _ _ ?_ (inv.set hj hjn) hpt' hB' hap' hres
    have := count_off n (fun k => !listed.getD k false) j hjn (by simpa using hjf)
    rw [hc] at this
    have e3 : (List.range n).countP (fun k => !(listed.setIfInBounds j true).getD k false) = (List.range n).countP (fun k => (!listed.getD k false) && k != j) := List.countP_congr fun k _ => by
      have := congrFun hset k
      simp only [ins] at this
      rw [this]
      by_cases e : k = j <;> simp [e]
    omega

theorem Res.fresh {val val' : Nat → Value} {wr w1 : World} : ∀ (l : List Oper) (i : Nat) (Γ : List (Nat × (World → Prop))) (a : Act), Res P md ops B w0 sp nw (fun _ => false) val wr Q l i Γ a → Res P md ops B w0 sp nw (fun _ => false) val' w1 Q l i Γ a := by
  intro l
  induction l with
  | nil => intro i Γ a h; exact h
  | cons o rest ih =>
    intro i Γ a h
    unfold Res at h ⊢
    split
    · rename_i hw
      rw [if_pos hw] at h
      rcases h with ⟨v, hnw, h1, h2, h3⟩ | ⟨Z, hs, h1, h2, h3⟩ | ⟨hnw, hs, h1, h2, h3⟩
      · exact .inl ⟨v, hnw, h1, (fun h => by cases h), ih _ _ _ h3⟩
      · exact .inr (.inl ⟨Z, hs, h1, (fun h => by cases h), fun u _ hu' => ih _ _ _ (h3 u (fun h => by cases h) hu')⟩)
      · exact .inr (.inr ⟨hnw, hs, h1, (fun h => by cases h), fun u _ hu' => ih _ _ _ (h3 u (fun h => by cases h) hu')⟩)
    · rename_i hw
      rw [if_neg hw] at h
      exact ⟨h.1, (fun h => by cases h), ih _ _ _ h.2.2⟩

theorem Res.post {Q Q' : List (Nat × (World → Prop)) → Act → Prop} {L : Nat → Bool} {val : Nat → Value} {wr : World} (hQ : ∀ Γ a, Q Γ a → Q' Γ a) : ∀ (l : List Oper) (i : Nat) (Γ : List (Nat × (World → Prop))) (a : Act), Res P md ops B w0 sp nw L val wr Q l i Γ a → Res P md ops B w0 sp nw L val wr Q' l i Γ a := by
  intro l
  induction l with
  | nil => intro i Γ a h; exact hQ _ _ h
  | cons o rest ih =>
    intro i Γ a h
    unfold Res at h ⊢
    split
    · rename_i hw
      rw [if_pos hw] at h
      rcases h with ⟨v, hnw, h1, h2, h3⟩ | ⟨Z, hs, h1, h2, h3⟩ | ⟨hnw, hs, h1, h2, h3⟩
      · exact .inl ⟨v, hnw, h1, h2, ih _ _ _ h3⟩
      · exact .inr (.inl ⟨Z, hs, h1, h2, fun u hu hu' => ih _ _ _ (h3 u hu hu')⟩)
      · exact .inr (.inr ⟨hnw, hs, h1, h2, fun u hu hu' => ih _ _ _ (h3 u hu hu')⟩)
    · rename_i hw
      rw [if_neg hw] at h
      exact ⟨h.1, h.2.1, ih _ _ _ h.2.2⟩

/-- The walk that a prover makes: nothing has been carried out yet. -/
abbrev wpGrow (P : Program) (ops : Array Oper) (B : Nat) (w0 : World) (sp : Nat → Value → World → Prop) (nw : Nat → Bool) (Q : List (Nat × (World → Prop)) → Act → Prop) (l : List Oper) (i : Nat) (Γ : List (Nat × (World → Prop))) (a : Act) : Prop :=
  Res P .any ops B w0 sp nw (fun _ => false) (fun _ => undef) w0 Q l i Γ a

theorem wp_region_grow2 {id : Nat} {Qx : Exit → Act → World → Prop} {a : Act} {w : World} {l : List Oper} (n B : Nat) (w0 : World) (sp : Nat → Value → World → Prop) (nw : Nat → Bool) (hm : P.follows .mixedOrders = true) (hg : growB .any l.toArray n = true)
    (hBw : B ≤ w0.heap.size) (hC : Below B w0 w)
    (h : wpGrow P l.toArray B w0 sp nw (fun Γ a' => ∀ w', Below B w0 w' → (∀ p ∈ Γ, p.2 w') → ApartAt l.toArray n nw a' → wpList P l.toArray Qx (l.drop n) a' w') (l.take n) 0 [] a) : (Code.region id l.toArray true).wp P Qx a w := by
  have g := growB_ok hg
  have hsz : n ≤ l.length := by simpa using g.size
  have htl : (l.take n).length = n := by simp; omega
  have hdl : (l.drop n).length = l.toArray.size - n := by simp
  have inv0 : HeadInv .any l.toArray n (Array.replicate l.toArray.size false) :=
    ⟨by simp, fun j oj _ hl => (by rw [getD_replicate_false] at hl; cases hl), fun t _ ht => getD_in (by simpa using ht) (getD_replicate_false _ _)⟩
  have hrep : (fun k => (Array.replicate l.toArray.size false).getD k false) = fun _ => false := funext fun k => getD_replicate_false _ _
  refine wp_region_any hm ?_
  have := grow_any (Qx := Qx) (P := P) (sp := sp) (nw := nw) (B := B) (w0 := w0) (a0 := a) (l := l.take n) (Q := fun Γ a' => ∀ w', Below B w0 w' → (∀ p ∈ Γ, p.2 w') → ApartAt l.toArray n nw a' → wpList P l.toArray Qx (l.drop n) a' w') g hBw (fun m hm' => by rw [htl] at hm'; simp [hm']) htl (fun Γ a' w' hq hb hf hd => by
    have := wpAny_of_seq (md := .any) (Q' := Qx) (l.drop n) n (canon l.toArray n) a' w' (fun j => by simp [List.getElem?_drop]) (by rw [hdl]; exact g.seq) (hq w' hb hf hd)
    rwa [hdl] at this) n (Array.replicate l.toArray.size false) a { w with drawn := w.drawn + 1 } (fun _ => undef) (by
      rw [List.countP_eq_length.2 (fun k _ => by rw [getD_replicate_false]; rfl)]; simp) inv0 (by rw [hrep]; exact ⟨rfl, fun k t _ hS => by simp at hS, fun _ _ => rfl⟩) (show Below B w0 w.drew from hC.drew) (by rw [hrep]; exact ⟨fun i _ h => (by cases h), fun i j _ _ _ h => (by cases h)⟩) (by
      rw [hrep]
      exact Res.fresh _ _ _ _ h)
  rwa [show n + (l.toArray.size - n) = l.toArray.size by simp; omega] at this

/-- The same where nobody asks which new blocks are apart. -/
theorem wp_region_grow {id : Nat} {Qx : Exit → Act → World → Prop} {a : Act} {w : World} {l : List Oper} (n B : Nat) (w0 : World) (sp : Nat → Value → World → Prop) (hm : P.follows .mixedOrders = true) (hg : growB .any l.toArray n = true)
    (hBw : B ≤ w0.heap.size) (hC : Below B w0 w)
    (h : wpGrow P l.toArray B w0 sp (fun _ => false) (fun Γ a' => ∀ w', Below B w0 w' → (∀ p ∈ Γ, p.2 w') → wpList P l.toArray Qx (l.drop n) a' w') (l.take n) 0 [] a) : (Code.region id l.toArray true).wp P Qx a w :=
  wp_region_grow2 n B w0 sp (fun _ => false) hm hg hBw hC (Res.post (fun _ _ h w' hb hf _ => h w' hb hf) _ _ _ _ h)

section
variable {Q : List (Nat × (World → Prop)) → Act → Prop} {o : Oper} {rest : List Oper} {i : Nat} {Γ : List (Nat × (World → Prop))} {a : Act}
theorem grow_nil (h : Q Γ a) : wpGrow P ops B w0 sp nw Q [] i Γ a := h
theorem grow_skip (hw : Region.wanted o (yielded ops a.tmps) = false) (hnw : nw i = false) (h : wpGrow P ops B w0 sp nw Q rest (i + 1) Γ (a.put o.dst undef)) : wpGrow P ops B w0 sp nw Q (o :: rest) i Γ a := by
  unfold wpGrow Res
  rw [if_neg (by simp [hw])]
  exact ⟨hnw, (fun h => by cases h), h⟩

theorem value_bind {α : Type} (s : Sem α) (g : α → Value) (w w' : World) (f : FuncId) (args : Array Value) : (s >>= fun x => (pure (.value (g x)) : Sem Next)).run P w ≠ .ok (.enter f args) w' := by
  rw [Sem.run_bind]
  cases s.run P w with
  | ok x w1 => simp [Result.andThen, Sem.run_pure]
  | halt x w1 => simp [Result.andThen]

theorem enter_bind {α : Type} {s : Sem α} {g : α → Sem Next} {w w' : World} {f : FuncId} {args : Array Value} (h : (s >>= g).run P w = .ok (.enter f args) w') : ∃ x w1, (g x).run P w1 = .ok (.enter f args) w' := by
  rw [Sem.run_bind] at h
  cases hs : s.run P w with
  | ok x w1 => rw [hs] at h; exact ⟨x, w1, h⟩
  | halt x w1 => rw [hs] at h; simp [Result.andThen] at h

/-- An operation that calls no Go function. -/
def fnOp (o : Oper) : Bool :=
  match o.op with
  | .call c => (match c.callee with | .builtin b => (match b with | .len | .append | .cap | .copy | .min | .max => true | _ => false) | _ => false)
  | .move _ | .assign _ | .pick .. | .alloc _ | .box .. | .build .. | .buildSlice .. | .load .. | .binOp .. | .unOp .. | .convert .. | .makeFunc .. | .makeMap .. | .makeSlice .. | .slice .. | .fieldAddr .. | .field .. | .indexAddr .. | .index .. | .lookup .. | .extract .. | .nilCheck _ => true
  | _ => false

theorem fnOp_run (h : fnOp o = true) (ρ : Operand → Value) (w w' : World) (f : FuncId) (args : Array Value) : (execOp ρ o).run P w ≠ .ok (.enter f args) w' := by
  obtain ⟨dst, op, type, pos, after, guard⟩ := o
  cases op <;> simp only [fnOp] at h <;> (try cases h) <;> simp only [execOp]
  case call c =>
    obtain ⟨callee, args, ats⟩ := c
    cases callee <;> simp only at h <;> (try cases h)
    rename_i b
    cases b <;> simp only at h <;> (try cases h) <;> simp only [resolve, pure_bind, invoke, builtin] <;> exact value_bind _ (fun x => x) _ _ _ _
  case nilCheck x =>
    intro h
    repeat' split at h
    all_goals first
      | (rw [Sem.run_pure] at h; cases h; done)
      | (simp [runtimePanic] at h; done)
      | (obtain ⟨_, _, h⟩ := enter_bind h
         obtain ⟨_, _, h⟩ := enter_bind h
         split at h
         · obtain ⟨_, _, h⟩ := enter_bind h
           rw [Sem.run_pure] at h; cases h
         · rw [Sem.run_pure] at h; cases h)
  all_goals first
    | exact value_bind _ (fun x => x) _ _ _ _
    | exact value_bind _ _ _ _ _ _
    | (intro h; rw [Sem.run_pure] at h; cases h)

theorem grow_quiet (hw : Region.wanted o (yielded ops a.tmps) = true) (hf : fnOp o = true) (hnw : nw i = false)
    (h : ∀ K : Act → Prop, (∀ a, wpGrow P ops B w0 sp nw Q rest (i + 1) Γ a → K a) → o.quiet P a (fun w => ∃ x, w = Fam B w0 x) K) : wpGrow P ops B w0 sp nw Q (o :: rest) i Γ a := by
  obtain ⟨v, h1, h2⟩ := h _ fun _ h => h
  unfold wpGrow Res
  rw [if_pos hw]
  refine .inl ⟨v, hnw, fun w hb => ?_, (fun h => by cases h), h2⟩
  have hq := h1 w (Fam.of hb)
  unfold Oper.quietAt at hq
  cases hr : (execOp a.eval o).run P w with
  | ok x w' =>
    rw [hr] at hq
    cases x <;> simp only [Oper.quietUpon] at hq
    case value u => exact ⟨hq.2, hq.1⟩
    case skip => exact ⟨hq.2.symm, hq.1⟩
    case enter f args => exact absurd hr (fnOp_run hf _ _ _ _ _)
  | halt x w' => rw [hr] at hq; exact hq.elim

/-- An operation that makes a block: its value hangs on the block's number alone. -/
theorem grow_new (hw : Region.wanted o (yielded ops a.tmps) = true) (mk : Nat → Value) (T : TypeId) (cs : Array Value) (hrun : ∀ w, (execOp a.eval o).run P w = .ok (.value (mk w.heap.size)) (w.alloc (.cells cs T)))
    (hmk : ∀ b, blockOf (mk b) = some b) (hBw : B ≤ w0.heap.size)
    (h : ∀ b, B ≤ b → wpGrow P ops B w0 sp nw Q rest (i + 1) ((i, fun w' => ∃ b', mk b = mk b' ∧ B ≤ b' ∧ w'.heap[b']? = some (.cells cs T (0, 0))) :: Γ) (a.put o.dst (mk b))) : wpGrow P ops B w0 sp nw Q (o :: rest) i Γ a := by
  unfold wpGrow Res
  rw [if_pos hw]
  refine .inr (.inl ⟨fun u w' => ∃ b', u = mk b' ∧ B ≤ b' ∧ w'.heap[b']? = some (.cells cs T (0, 0)), fun u w w' hb ⟨b', h1, h2, h3⟩ => ⟨b', h1, h2, ?_⟩, fun w hb _ => ?_, (fun h => by cases h), fun u _ hu => ?_⟩)
  · rw [hb.block b' (by
      rcases Nat.lt_or_ge b' w.heap.size with h | h
      · exact h
      · rw [Array.getElem?_eq_none h] at h3; cases h3), h3]
  · rw [hrun]
    exact ⟨⟨(Below.refl _ _).alloc (Nat.le_refl _) _, fun _ => ⟨hmk _, by simp⟩⟩, w.heap.size, rfl, Nat.le_trans hBw hb.size, heap_alloc_new w _⟩
  · obtain ⟨w', _, b', rfl, h2, _⟩ := hu rfl
    exact h b' h2

/-- A call of a Go function. -/
theorem grow_call (hw : Region.wanted o (yielded ops a.tmps) = true) (hnw : nw i = false) (hs : ∀ u, Steady (sp i u))
    (hc : ∀ w, Below B w0 w → FactsAt .any ops i Γ w → callUpon P w (fun e w' => ∃ u, e = .returned u ∧ Below w.heap.size w w' ∧ sp i u w') ((execOp a.eval o).run P w))
    (h : ∀ u, (∃ w', Below B w0 w' ∧ sp i u w') → wpGrow P ops B w0 sp nw Q rest (i + 1) ((i, sp i u) :: Γ) (a.put o.dst u)) : wpGrow P ops B w0 sp nw Q (o :: rest) i Γ a := by
  unfold wpGrow Res
  rw [if_pos hw]
  exact .inr (.inr ⟨hnw, hs, hc, (fun h => by cases h), fun u _ hu => h u (hu rfl)⟩)
/-- A call of a Go function whose value is known. -/
theorem grow_val (v : Value) (hw : Region.wanted o (yielded ops a.tmps) = true) (hnw : nw i = false) (hsp : sp i = fun u _ => u = v)
    (hc : ∀ w, Below B w0 w → FactsAt .any ops i Γ w → callUpon P w (fun e w' => e = .returned v ∧ Below w.heap.size w w') ((execOp a.eval o).run P w))
    (h : wpGrow P ops B w0 sp nw Q rest (i + 1) ((i, fun _ => v = v) :: Γ) (a.put o.dst v)) : wpGrow P ops B w0 sp nw Q (o :: rest) i Γ a := by
  refine grow_call hw hnw (fun u => by rw [hsp]; exact fun _ _ _ h => h) (fun w hb hf => ?_) fun u ⟨w', _, hu⟩ => ?_
  · have hx := hc w hb hf
    generalize (execOp a.eval o).run P w = r at hx ⊢
    cases r with
    | ok x w' =>
      cases x <;> simp only [callUpon] at hx ⊢
      exact ⟨hx.1, hx.2.mono fun e w'' ⟨he, hb⟩ => ⟨v, he, hb, by rw [hsp]⟩⟩
    | halt x w' => exact hx.elim
  · rw [hsp] at hu
    subst hu
    rw [hsp]
    exact h
end
end
end AG

/- The program's ProjectSystem: its closure. -/
namespace Go.Proofs.Ytdkjnemakkppfaa
open Go.RowKit Go.BigFrame Go.Maps AG

theorem AuOwn.nil (w : World) (base : Nat) : AuOwn w base (.slice none 0 0) (.slice none 0 0) auNil [] :=
  ⟨⟨World.ownsRow_nil _ _ _ _, fun x hx => (by cases hx), List.Pairwise.nil⟩, rfl, World.ownsRow_nil _ _ _ _⟩
theorem AuOwn.setFar {w : World} {base : Nat} {v1 v2 : Value} {a : Au} {xs : List RowV} (h : AuOwn w base v1 v2 a xs) {g i : Nat} (hg : g < base) (v : Value) : AuOwn (w.setCell ⟨g, i, none⟩ v) base v1 v2 a xs := by
  have hk : KeepB (fun b => b = g) w (w.setCell ⟨g, i, none⟩ v) := (KeepB.refl _ w).setCell _ _ fun _ => rfl
  exact ⟨h.rows.keep hk (fun b hb e => by have := own_block h.rows.own b hb; omega) (fun x hx b hb e => by have := own_block (h.rows.rows x hx) b hb; omega), h.eq, own_keep h.acc hk fun b hb e => by have := own_block h.acc b hb; omega⟩

end Go.Proofs.Ytdkjnemakkppfaa

/- The reference's SystemValid returns sysOk. -/
namespace Go.Proofs.Ytdkjnemakkppfaa
open Go.RowKit Go.BigFrame AG

attribute [local go_sem] Fam.below

end Go.Proofs.Ytdkjnemakkppfaa

/- The program's Determinize; the reference's l4In and l5Index; what l6Subsets holds in memory. -/
namespace Go.Proofs.Ytdkjnemakkppfaa
open Go.RowKit Go.BigFrame Go.Maps AG

set_option maxRecDepth 100000 in
set_option maxHeartbeats 1000000 in
theorem l4In_any (ns : List Nat) (x : Nat) (A : Option Addr) (c : Nat) (w : World) (hl : ns.length ≤ c) (hc : c ≤ 9223372036854775807) (hr : NatsAt w w.heap.size A ns) :
    Calls Try.prog 75 #[.slice A ns.length c, .int .i64 (x : Nat)] w fun e w' => e = .returned (.bool (decide (x ∈ ns))) ∧ w = w' := by
  replace hr := hid hr
  go_enter Try.func75, Try.ntmps75
  go_wp2_with fail
  go_loopw [5] (fun i wr => ∃ k : Nat, i = .int .i64 (k : Nat) ∧ k ≤ ns.length ∧ x ∉ ns.take k ∧ w = wr) (fun i _ => ns.length - (intOf i).toNat)
  case atStart => exact ⟨0, rfl, by omega, by simp, by first | rfl | trivial⟩
  case round =>
    obtain ⟨k, rfl, hk, hn, rfl⟩ := hrel
    by_cases hlt : k < ns.length
    · obtain ⟨b, o, hA, hB, hE⟩ := hr.out (by omega)
      subst hA
      have e0 := hE k hlt
      obtain ⟨y, hy⟩ : ∃ y, Hid (y = ns[k]) := ⟨_, hid rfl⟩
      rw [← hy.out] at e0
      have k1 : (0 : Int) ≤ (k : Int) ∧ (k : Int) < (ns.length : Int) := by omega
      replace hE := hid hE
      replace hn := hid hn
      by_cases hxy : y = x
      · have hq : ((y : Int) == (x : Int)) = true := by simp; omega
        have hin : Hid (x ∈ ns) := hid (by rw [← hxy, hy.out]; exact List.getElem_mem _)
        replace hxy := hid hxy
        go_wp2
        go_ret
        exact ⟨ret_bool (decide_eq_true hin.out).symm, by first | rfl | trivial⟩
      · have hq : ((y : Int) == (x : Int)) = false := by simp; omega
        replace hxy := hid hxy
        go_wp2
        go_roundw
        case rel =>
          refine ⟨k + 1, by go_num, by omega, ?_, by first | rfl | trivial⟩
          rw [List.take_succ_eq_append_getElem hlt, List.mem_append, List.mem_singleton, ← hy.out]
          rintro (h | h)
          · exact hn.out h
          · exact hxy.out h.symm
        case measure => simp [intOf]; omega
    · rw [List.take_of_length_le (by omega)] at hn
      replace hn := hid hn
      go_wp2
      go_ret
      exact ⟨ret_bool (decide_eq_false hn.out).symm, by first | rfl | trivial⟩

end Go.Proofs.Ytdkjnemakkppfaa

/- The reference's FirstTraceOutside. -/
namespace Go.Proofs.Ytdkjnemakkppfaa
open Go.RowKit Go.BigFrame AG

theorem PairsAt.later {w w' : World} {A : Option Addr} {ps : List (Nat × Nat)} (h : PairsAt w w.heap.size A ps) (hb : Below w.heap.size w w') : PairsAt w' w'.heap.size A ps := fun hl => by
  obtain ⟨b, o, hA, hb', hE⟩ := h hl
  exact ⟨b, o, hA, Nat.lt_of_lt_of_le hb' hb.size, fun i hi => by rw [hb.cell (by simpa using hb'), hb.cell (by simpa using hb')]; exact hE i hi⟩

theorem Blk.news {w : World} {g : Nat} {T : TypeId} {x : Value} (h : w.heap[g]? = some (.cells #[x] T (0, 0))) : ∀ j u, [x][j]? = some u → w.cell? ((⟨g, 0, none⟩ : Addr).add j) = some u := by
  intro j u hj
  match j, hj with
  | 0, hj =>
    simp at hj
    subst hj
    simp [Addr.add, World.cell?, h]

end Go.Proofs.Ytdkjnemakkppfaa

/- The reference's l6Subsets. -/
namespace Go.Proofs.Ytdkjnemakkppfaa
open Go.RowKit Go.BigFrame Go.Maps AG

/-- What l6Subsets holds in memory. -/
structure L6 (w2 wr : World) (gO : Nat) (al : Int) (vR : Value) (xs : List RowV) (vA : Value) (acs : List Bool) (fs : List (Value × List Value)) : Prop where
  below : Below w2.heap.size w2 wr
  ge : w2.heap.size ≤ gO
  fam : Fam3 wr w2.heap.size fs
  tab : wr.ownsRow w2.heap.size 40 1 vR xs.length (rowVals xs)
  acc : wr.ownsRow w2.heap.size 4 1 vA acs.length (boolVals acs)
  blk : Blk wr gO 26 #[.int .i64 al, vR, vA]
section
variable {w2 wr w1 w' : World} {gO : Nat} {al : Int} {vR vA : Value} {xs : List RowV} {acs : List Bool} {fs l1 l2 : List (Value × List Value)} {f : Value × List Value}
theorem L6.later (h : L6 w2 wr gO al vR xs vA acs fs) (hb : Below wr.heap.size wr w') : L6 w2 w' gO al vR xs vA acs fs :=
  ⟨h.below.trans (hb.mono h.below.size), h.ge, h.fam.later hb, own_later_ h.tab hb, own_later_ h.acc hb, h.blk.below hb h.blk.lt⟩
theorem L6.own {v : Value} {row : List Nat} (h : L6 w2 wr gO al vR xs vA acs fs) (hf : (v, natVals row) ∈ fs) : wr.ownsRow w2.heap.size 3 1 v row.length (natVals row) := by
  have := h.fam.rows _ hf
  rwa [natVals_len] at this
theorem L6.app {v' : Value} {ys' : List Value} {o : Obj} (h : L6 w2 wr gO al vR xs vA acs (l1 ++ f :: l2)) (hg : (wr.alloc o).grownBy w1 f.1.ownBlock)
    (ho : w1.ownsRow w2.heap.size 3 1 v' ys'.length ys') (hat : v'.ownBlock = f.1.ownBlock ∨ v'.ownBlock = some (wr.alloc o).heap.size) : L6 w2 w1 gO al vR xs vA acs (l1 ++ (v', ys') :: l2) := by
  have hf := h.fam.rows f (by simp)
  have hkA : KeepB (fun b => f.1.ownBlock = some b) wr w1 := ((KeepB.refl _ wr).alloc o).grown hg fun k hk _ => hk
  exact ⟨hkA.below h.below h.below.size fun b e => own_block hf b e, h.ge, h.fam.app hg ho hat, own_keep h.tab hkA fun g hg e => own_ne_own h.tab hf (by decide) g g hg e rfl, own_keep h.acc hkA fun g hg e => own_ne_own h.acc hf (by decide) g g hg e rfl, h.blk.keep hkA fun e => own_ne hf h.blk (by decide) _ e rfl⟩
/-- The row goes into the table. -/
theorem L6.row {row : List Nat} {vR' : Value} {A : Option Addr} {c : Nat} {o : Obj} (h : L6 w2 wr gO al vR xs vA acs (f :: (.slice A row.length c, natVals row) :: famOf xs)) (hg : (wr.alloc o).grownBy w1 vR.ownBlock)
    (ho : w1.ownsRow w2.heap.size 40 1 vR' (xs.length + 1) (rowVals xs ++ [.slice A row.length c])) : L6 w2 (w1.setCell ⟨gO, 1, none⟩ vR') gO al vR' (xs ++ [⟨row.map fun (n : Nat) => (n : Int), A, c⟩]) vA acs (f :: famOf (xs ++ [⟨row.map fun (n : Nat) => (n : Int), A, c⟩])) := by
  have hkA : KeepB (fun b => vR.ownBlock = some b) wr w1 := ((KeepB.refl _ wr).alloc o).grown hg fun k hk _ => hk
  have hblk1 : Blk w1 gO 26 #[.int .i64 al, vR, vA] := h.blk.keep hkA fun e => own_ne h.tab h.blk (by decide) _ e rfl
  have hkB : KeepB (fun b => b = gO) w1 (w1.setCell ⟨gO, 1, none⟩ vR') := (KeepB.refl _ w1).setCell _ _ fun _ => rfl
  have hb1 : Below w2.heap.size w2 w1 := hkA.below h.below h.below.size fun b e => own_block h.tab b e
  refine ⟨hkB.below hb1 hb1.size fun b e => by rw [e]; exact h.ge, h.ge, ?_, ?_, ?_, by simpa using hblk1.set_ 1 vR'⟩
  · have h1 := h.fam.keep hkA fun f hf g hg e => own_ne_own h.tab (h.fam.rows f hf) (by decide) g g e hg rfl
    exact (h1.keep hkB fun f hf g hg e => own_ne (h1.rows f hf) hblk1 (by decide) g hg e).into
  · have h2 : w1.ownsRow w2.heap.size 40 1 vR' (xs ++ [(⟨row.map fun (n : Nat) => (n : Int), A, c⟩ : RowV)]).length (rowVals (xs ++ [⟨row.map fun (n : Nat) => (n : Int), A, c⟩])) := by
      unfold rowVals at ho ⊢
      rw [List.length_append, List.map_append]
      unfold RowV.v at ho ⊢
      simpa using ho
    exact own_keep h2 hkB (own_ne h2 hblk1 (by decide))
  · have h3 := own_keep h.acc hkA fun g hg e => own_ne_own h.acc h.tab (by decide) g g hg e rfl
    exact own_keep h3 hkB (own_ne h3 hblk1 (by decide))
/-- Whether a node is accepting. -/
theorem L6.put {vA' : Value} {t : Bool} (h : L6 w2 wr gO al vR xs vA acs fs) (hg : wr.grownBy w1 vA.ownBlock)
    (ho : w1.ownsRow w2.heap.size 4 1 vA' (acs.length + 1) (boolVals acs ++ [.bool t])) : L6 w2 (w1.setCell ⟨gO, 2, none⟩ vA') gO al vR xs vA' (acs ++ [t]) fs := by
  have hkA : KeepB (fun b => vA.ownBlock = some b) wr w1 := (KeepB.refl _ wr).grown hg fun k hk _ => hk
  have hblk1 : Blk w1 gO 26 #[.int .i64 al, vR, vA] := h.blk.keep hkA fun e => own_ne h.acc h.blk (by decide) _ e rfl
  have hkB : KeepB (fun b => b = gO) w1 (w1.setCell ⟨gO, 2, none⟩ vA') := (KeepB.refl _ w1).setCell _ _ fun _ => rfl
  have hb1 : Below w2.heap.size w2 w1 := hkA.below h.below h.below.size fun b e => own_block h.acc b e
  refine ⟨hkB.below hb1 hb1.size fun b e => by rw [e]; exact h.ge, h.ge, ?_, ?_, ?_, by simpa using hblk1.set_ 2 vA'⟩
  · have h1 := h.fam.keep hkA fun f hf g hg e => own_ne_own h.acc (h.fam.rows f hf) (by decide) g g e hg rfl
    exact h1.keep hkB fun f hf g hg e => own_ne (h1.rows f hf) hblk1 (by decide) g hg e
  · have h3 := own_keep h.tab hkA fun g hg e => own_ne_own h.tab h.acc (by decide) g g hg e rfl
    exact own_keep h3 hkB (own_ne h3 hblk1 (by decide))
  · have h2 : w1.ownsRow w2.heap.size 4 1 vA' (acs ++ [t]).length (boolVals (acs ++ [t])) := by
      unfold boolVals at ho ⊢
      rw [List.length_append, List.map_append]
      exact ho
    exact own_keep h2 hkB (own_ne h2 hblk1 (by decide))
/-- A fresh empty row. -/
theorem Fam3.fresh {w : World} {base : Nat} {f : Value × List Value} {fs : List (Value × List Value)} (h : Fam3 w base (f :: fs)) (hb : base ≤ w.heap.size) : Fam3 (w.alloc (.cells #[] 3)) base (f :: (.slice (some ⟨w.heap.size, 0, none⟩) 0 0, []) :: fs) := by
  have hl := h.later ((Below.refl _ w).alloc (Nat.le_refl _) (.cells #[] 3))
  have hlt : ∀ y ∈ f :: fs, ∀ g, y.1.ownBlock = some g → g < w.heap.size := fun y hy g e => ((h.rows y hy).lt g e).2
  obtain ⟨h2, h3⟩ := hl
  rw [List.pairwise_cons] at h3
  refine ⟨fun y hy => ?_, ?_⟩
  · rw [List.mem_cons, List.mem_cons] at hy
    rcases hy with rfl | rfl | hy
    · exact h2 _ List.mem_cons_self
    · exact ⟨rfl, .inr ⟨w.heap.size, 0, #[], rfl, hb, heap_alloc_self _ _, Nat.le_refl _, Nat.zero_le _, rfl, rfl⟩⟩
    · exact h2 y (List.mem_cons_of_mem _ hy)
  · rw [List.pairwise_cons, List.pairwise_cons]
    refine ⟨fun y hy k e e' => ?_, ⟨fun y hy k e e' => ?_, h3.2⟩⟩
    · rcases List.mem_cons.1 hy with rfl | hy
      · have := hlt f List.mem_cons_self k e
        injection e' with e'
        simp at e'
        omega
      · exact h3.1 y hy k e e'
    · have := hlt y (List.mem_cons_of_mem _ hy) k e'
      injection e with e
      simp at e
      omega
theorem L6.fresh (h : L6 w2 wr gO al vR xs vA acs (f :: fs)) : L6 w2 (wr.alloc (.cells #[] 3)) gO al vR xs vA acs (f :: (.slice (some ⟨wr.heap.size, 0, none⟩) 0 0, []) :: fs) :=
  have hb : Below wr.heap.size wr (wr.alloc (.cells #[] 3)) := (Below.refl _ wr).alloc (Nat.le_refl _) _
  ⟨h.below.trans (hb.mono h.below.size), h.ge, h.fam.fresh h.below.size, own_later_ h.tab hb, own_later_ h.acc hb, h.blk.below hb h.blk.lt⟩
end
theorem OwnN.read {w : World} {B : Nat} {v : Value} {ns : List Nat} (h : w.ownsRow B 3 1 v ns.length (natVals ns)) : ∃ A c, v = .slice A ns.length c ∧ ns.length ≤ c ∧ c ≤ 9223372036854775807 ∧ NatsAt w w.heap.size A ns := OwnNats.read h

end Go.Proofs.Ytdkjnemakkppfaa
