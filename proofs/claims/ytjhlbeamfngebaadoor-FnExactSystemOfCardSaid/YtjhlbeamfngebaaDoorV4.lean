/- Lemmas, part 4: several texts in one. -/
import Derived.Test.YtjhlbeamfngebaaDoorV3
import Derived.Test.YtjhlbeamfngebaaDoorV2
import Derived.Test.YtjhlbeamfngebaaDoorV1
import Derived.Maps.Own
import Derived.Maps.OwnOps
import Derived.Maps.Range
import Derived.Maps.RangeWalk
import Derived.Maps.Views
import Derived.Deep.DeepCutAuto
import Derived.Test.YtjhlbeamfngebaaDoorProg
set_option linter.unusedSimpArgs false
set_option linter.unusedVariables false

/- The program's closure: the states that words of hidden letters reach. -/
namespace Go.Proofs.YtjhlbeamfngebaaDoor
open Go.RowKit Go.BigFrame AG

/-- A list of numbers lies in memory below a block. -/
def NatsAt (w : World) (B : Nat) (A : Option Addr) (ns : List Nat) : Prop := 0 < ns.length → ∃ b o, A = some ⟨b, o, none⟩ ∧ b < B ∧ ∀ i (h : i < ns.length), w.cell? ⟨b, o + i, none⟩ = some (.int .i64 (ns[i] : Nat))
theorem NatsAt.later {w w' : World} {A : Option Addr} {ns : List Nat} (h : NatsAt w w.heap.size A ns) (hb : Below w.heap.size w w') : NatsAt w' w'.heap.size A ns := fun hl => by
  obtain ⟨b, o, h1, h2, h3⟩ := h hl
  exact ⟨b, o, h1, Nat.lt_of_lt_of_le h2 hb.size, fun i hi => by rw [hb.cell (by simpa using h2)]; exact h3 i hi⟩
theorem OwnNats.read {w : World} {B : Nat} {v : Value} {ns : List Nat} (h : OwnNats w B v ns) : ∃ A c, v = .slice A ns.length c ∧ ns.length ≤ c ∧ c ≤ 9223372036854775807 ∧ NatsAt w w.heap.size A ns := by
  by_cases hn : 0 < ns.length
  · obtain ⟨g, cap, hv, h1, h2, h3, h4, h5⟩ := own_nats h hn
    exact ⟨_, cap, hv, h3, h4, fun _ => ⟨g, 0, rfl, h2, fun i hi => by rw [Nat.zero_add]; exact h5 i hi⟩⟩
  · obtain ⟨A, c, hv, h1, h2⟩ := own_slice h
    exact ⟨A, c, hv, h1, h2, fun hl => absurd hl hn⟩


end Go.Proofs.YtjhlbeamfngebaaDoor

/- The program's TracesUpTo. -/
namespace Go.Proofs.YtjhlbeamfngebaaDoor
open Go.RowKit Go.BigFrame Go.Maps AG

/-- A map reads as a function: no entry, no number. -/
structure MapFn (D : DataW Unit) (v : Nat → Nat) : Prop where
  isMap : Maps.IsMap D
  at_ : ∀ T : Nat, D.atKey (.int .i64 (T : Int)) (.lit (.int .i64 0)) = .lit (.int .i64 ((v T : Nat) : Int))
  has : ∀ kl, Maps.has D kl = true → ∃ T : Nat, kl = .int .i64 (T : Int) ∧ 0 < v T ∧ T ≠ 0 ∧ T < 65536
  pos : ∀ T : Nat, 0 < v T → Maps.has D (.int .i64 (T : Int)) = true
theorem MapFn.empty : MapFn (.map []) (fun _ => 0) :=
  ⟨Maps.isMap_empty, fun T => Maps.atKey_of_not_has rfl _, fun kl h => (by cases h), fun T h => (by cases h)⟩
theorem key_ne {x T : Nat} (h : x ≠ T) : Lit.int .i64 (x : Int) ≠ Lit.int .i64 (T : Int) := fun e => by
  injection e with _ e
  exact h (by omega)
theorem MapFn.put {D : DataW Unit} {v : Nat → Nat} (h : MapFn D v) {T c : Nat} (hT : T ≠ 0) (hT2 : T < 65536) (hc : 0 < c) :
    MapFn (D.put (.int .i64 (T : Int)) (.lit (.int .i64 ((v T + c : Nat) : Int)))) (fun x => if x = T then v T + c else v x) := by
  refine ⟨h.isMap.put _ _, fun x => ?_, fun kl hk => ?_, fun x hx => ?_⟩
  · by_cases e : x = T
    · subst e
      rw [Maps.atKey_put_same h.isMap (show WideAt.IsKeyLit (Lit.int .i64 (x : Int)) from trivial), if_pos rfl]
    · rw [Maps.atKey_put_other (key_ne e), h.at_ x, if_neg e]
  · by_cases e : kl = .int .i64 (T : Int)
    · exact ⟨T, e, by rw [if_pos rfl]; omega, hT, hT2⟩
    · rw [Maps.has_put_other e] at hk
      obtain ⟨x, h1, h2, h3, h4⟩ := h.has kl hk
      have : x ≠ T := fun e' => e (by rw [h1, e'])
      exact ⟨x, h1, by rw [if_neg this]; exact h2, h3, h4⟩
  · by_cases e : x = T
    · subst e
      exact Maps.has_put_same h.isMap (show WideAt.IsKeyLit (Lit.int .i64 (x : Int)) from trivial) _
    · rw [if_neg e] at hx
      rw [Maps.has_put_other (key_ne e)]
      exact h.pos x hx
theorem MapFn.congr {D : DataW Unit} {v v' : Nat → Nat} (h : MapFn D v) (e : ∀ T, v T = v' T) : MapFn D v' := by
  have : v = v' := funext e
  rw [← this]
  exact h
theorem grown_of_below {w w' : World} (hb : Below w.heap.size w w') : w.grownBy w' none := ⟨hb.os, hb.tape, hb.output, hb.size, fun i hi _ => hb.block i hi⟩

end Go.Proofs.YtjhlbeamfngebaaDoor

/- The program's numbered: what is reached is numbered in the order in which it is met. -/
namespace Go.Proofs.YtjhlbeamfngebaaDoor
open Go.RowKit Go.BigFrame Go.Maps AG

/-- Rows of numbers that are owned, each in a block of its own. -/
structure Fam3 (w : World) (base : Nat) (fs : List (Value × List Value)) : Prop where
  rows : ∀ f ∈ fs, w.ownsRow base 3 1 f.1 f.2.length f.2
  apart : fs.Pairwise fun f g => ∀ k, f.1.ownBlock = some k → g.1.ownBlock ≠ some k
theorem Fam3.keep {K : Nat → Prop} {w w' : World} {base : Nat} {fs : List (Value × List Value)} (h : Fam3 w base fs) (hk : KeepB K w w') (h2 : ∀ f ∈ fs, ∀ g, f.1.ownBlock = some g → ¬ K g) : Fam3 w' base fs :=
  ⟨fun f hf => own_keep (h.rows f hf) hk (h2 f hf), h.apart⟩
theorem Fam3.later {w w' : World} {base : Nat} {fs : List (Value × List Value)} (h : Fam3 w base fs) (hb : Below w.heap.size w w') : Fam3 w' base fs := h.keep (.of_below (K := fun _ => False) hb) fun _ _ _ _ h => h
theorem Fam3.perm {w : World} {base : Nat} {fs gs : List (Value × List Value)} (h : Fam3 w base fs) (hp : fs.Perm gs) : Fam3 w base gs :=
  ⟨fun f hf => h.rows f (hp.mem_iff.2 hf), (hp.pairwise_iff (fun {a b} h k e e' => h k e' e)).1 h.apart⟩
def famOf (xs : List RowV) : List (Value × List Value) := xs.map fun x => (x.v, intVals x.r)
theorem natVals_len (ns : List Nat) : (natVals ns).length = ns.length := by unfold natVals; simp
theorem natVals_int (ns : List Nat) : intVals (ns.map fun (n : Nat) => (n : Int)) = natVals ns := by unfold intVals natVals; simp
/-- The current row becomes a row of the table. -/
theorem Fam3.into {w : World} {base : Nat} {f : Value × List Value} {A : Option Addr} {c : Nat} {row : List Nat} {xs : List RowV} (h : Fam3 w base (f :: (.slice A row.length c, natVals row) :: famOf xs)) : Fam3 w base (f :: famOf (xs ++ [⟨row.map fun (n : Nat) => (n : Int), A, c⟩])) := by
  refine h.perm ?_
  unfold famOf
  rw [List.map_append]
  refine List.Perm.cons _ ?_
  have e : ((.slice A row.length c, natVals row) : Value × List Value) = (RowV.v ⟨row.map fun (n : Nat) => (n : Int), A, c⟩, intVals (row.map fun (n : Nat) => (n : Int))) := by
    unfold RowV.v
    rw [natVals_int]
    simp
  rw [e]
  exact (List.perm_append_singleton _ _).symm
theorem own_ne_map {w : World} {base : Nat} {e : TypeId} {size : Nat} {v : Value} {n m B : Nat} {xs : List Value} {k : TypeId} {R : Value → Option (DataW Unit × List MemPlace)} {D : DataW Unit} (h : w.ownsRow base e size v n xs) (hm : w.ownsMap Tryd.prog k R B m D) : ∀ g, v.ownBlock = some g → g ≠ B := by
  intro g hg hB
  rcases h.2 with ⟨rfl, _⟩ | ⟨g', cap, cur, rfl, _, hgg, _⟩
  · cases hg
  · cases hg
    obtain ⟨es, clock, hb, _⟩ := hm
    subst hB
    rw [hb] at hgg
    cases hgg

/-- A map that has the numbers of the nodes. -/
structure MapIx (D : DataW Unit) (ns : List Nat) : Prop where
  isMap : Maps.IsMap D
  has : ∀ T : Nat, Maps.has D (.int .i64 (T : Int)) = decide (T ∈ ns)
  at_ : ∀ T ∈ ns, D.atKey (.int .i64 (T : Int)) (.lit (.int .i64 0)) = .lit (.int .i64 ((ns.idxOf T : Nat) : Int))
theorem MapIx.empty : MapIx (.map []) [] := ⟨Maps.isMap_empty, fun T => by simp; rfl, fun T h => (by cases h)⟩
theorem MapIx.put {D : DataW Unit} {ns : List Nat} (h : MapIx D ns) {T : Nat} (hT : T ∉ ns) : MapIx (D.put (.int .i64 (T : Int)) (.lit (.int .i64 ((ns.length : Nat) : Int)))) (ns ++ [T]) := by
  refine ⟨h.isMap.put _ _, fun x => ?_, fun x hx => ?_⟩
  · by_cases e : x = T
    · subst e
      rw [Maps.has_put_same h.isMap (show WideAt.IsKeyLit (Lit.int .i64 (x : Int)) from trivial)]
      simp
    · rw [Maps.has_put_other (key_ne e), h.has x]
      simp [e]
  · by_cases e : x = T
    · subst e
      rw [Maps.atKey_put_same h.isMap (show WideAt.IsKeyLit (Lit.int .i64 (x : Int)) from trivial), List.idxOf_append, if_neg hT]
      simp
    · have hx' : x ∈ ns := by
        rcases List.mem_append.1 hx with h | h
        · exact h
        · exact absurd (List.mem_singleton.1 h) e
      rw [Maps.atKey_put_other (key_ne e), h.at_ x hx', idxOf_pre hx']

theorem infoInts : (Tryd.prog.info? 72).map (fun i => (i.zero, i.size, i.bytes)) = some (some (.slice none 0 0), 1, 24) := by kernel_rfl
/-- What the numbering holds in memory. -/
structure NumMem (w wr : World) (B : Nat) (ns : List Nat) (vR : Value) (xs : List RowV) (fs : List (Value × List Value)) (m : Nat) (D : DataW Unit) : Prop where
  below : Below w.heap.size w wr
  fam : Fam3 wr w.heap.size fs
  tab : wr.ownsRow w.heap.size 72 1 vR xs.length (rowVals xs)
  map_ : wr.ownsMap Tryd.prog 3 (plainElem Tryd.prog 3) B m D
  ix : MapIx D ns
  num : m ≤ ns.length
  geB : w.heap.size ≤ B
theorem NumMem.later {w wr w' : World} {B : Nat} {ns : List Nat} {vR : Value} {xs : List RowV} {fs : List (Value × List Value)} {m : Nat} {D : DataW Unit} (h : NumMem w wr B ns vR xs fs m D) (hb : Below wr.heap.size wr w') : NumMem w w' B ns vR xs fs m D :=
  ⟨h.below.trans (hb.mono h.below.size), h.fam.later hb, own_later_ h.tab hb, h.map_.kept (grown_of_below hb) (by simp), h.ix, h.num, h.geB⟩
/-- A node gets its number. -/
theorem NumMem.put {w wr w1 : World} {B : Nat} {ns : List Nat} {vR : Value} {xs : List RowV} {fs : List (Value × List Value)} {m : Nat} {D : DataW Unit} {T : Nat} (h : NumMem w wr B ns vR xs fs m D) (hT : T ∉ ns) (hm : w1.ownsMap Tryd.prog 3 (plainElem Tryd.prog 3) B (m + 1) (D.put (.int .i64 (T : Int)) (.lit (.int .i64 ((ns.length : Nat) : Int))))) (hg : wr.grownBy w1 (some B)) :
    NumMem w w1 B (ns ++ [T]) vR xs fs (m + 1) (D.put (.int .i64 (T : Int)) (.lit (.int .i64 ((ns.length : Nat) : Int)))) := by
  have hkA : KeepB (fun b => b = B) wr w1 := (KeepB.refl _ wr).grown hg fun k hk _ => by injection hk with hk; exact hk.symm
  refine ⟨hkA.below h.below h.below.size fun b e => by rw [e]; exact h.geB, h.fam.keep hkA fun f hf g hg e => own_ne_map (h.fam.rows f hf) h.map_ g hg e, own_keep h.tab hkA fun g hg e => own_ne_map h.tab h.map_ g hg e, hm, h.ix.put hT, ?_, h.geB⟩
  have := h.num
  rw [List.length_append, List.length_singleton]
  omega
/-- The row goes into the table. -/
theorem NumMem.row {w wr w1 : World} {B : Nat} {ns row : List Nat} {vR vR' : Value} {xs : List RowV} {f : Value × List Value} {A : Option Addr} {c m : Nat} {D : DataW Unit} {o : Obj} (h : NumMem w wr B ns vR xs (f :: (.slice A row.length c, natVals row) :: famOf xs) m D) (hg : (wr.alloc o).grownBy w1 vR.ownBlock)
    (ho : w1.ownsRow w.heap.size 72 1 vR' (xs.length + 1) (rowVals xs ++ [.slice A row.length c])) : NumMem w w1 B ns vR' (xs ++ [⟨row.map fun (n : Nat) => (n : Int), A, c⟩]) (f :: famOf (xs ++ [⟨row.map fun (n : Nat) => (n : Int), A, c⟩])) m D := by
  have hkA : KeepB (fun b => vR.ownBlock = some b) wr w1 := ((KeepB.refl _ wr).alloc o).grown hg fun k hk _ => hk
  refine ⟨hkA.below h.below h.below.size fun b e => own_block h.tab b e, ?_, ?_, (h.map_.alloc o).kept hg fun e => own_ne_map h.tab h.map_ B e.symm rfl, h.ix, h.num, h.geB⟩
  · exact (h.fam.keep hkA fun f hf g hg e => own_ne_own h.tab (h.fam.rows f hf) (by decide) g g e hg rfl).into
  · unfold rowVals at ho ⊢
    rw [List.length_append, List.map_append]
    unfold RowV.v at ho ⊢
    simpa using ho

end Go.Proofs.YtjhlbeamfngebaaDoor

/- The program's numbered: the walk. -/
namespace Go.Proofs.YtjhlbeamfngebaaDoor
open Go.RowKit Go.BigFrame Go.Maps AG

theorem NumMem.fs {w wr : World} {B : Nat} {ns : List Nat} {vR : Value} {xs : List RowV} {fs fs' : List (Value × List Value)} {m : Nat} {D : DataW Unit} (h : NumMem w wr B ns vR xs fs m D) (hf : Fam3 wr w.heap.size fs → Fam3 wr w.heap.size fs')   : NumMem w wr B ns vR xs fs' m D :=
  ⟨h.below, hf h.fam, h.tab, h.map_, h.ix, h.num, h.geB⟩
theorem NumMem.own {w wr : World} {B : Nat} {ns : List Nat} {vR : Value} {xs : List RowV} {fs : List (Value × List Value)} {m : Nat} {D : DataW Unit} {v : Value} {row : List Nat} (h : NumMem w wr B ns vR xs fs m D) (hf : (v, natVals row) ∈ fs) : wr.ownsRow w.heap.size 3 1 v row.length (natVals row) := by
  have := h.fam.rows _ hf
  rwa [natVals_len] at this
end Go.Proofs.YtjhlbeamfngebaaDoor

/- The program's ProjectSystem: its closure. -/
namespace Go.Proofs.YtjhlbeamfngebaaDoor
open Go.RowKit Go.BigFrame Go.Maps AG

theorem AuOwn.nil (w : World) (base : Nat) : AuOwn w base (.slice none 0 0) (.slice none 0 0) auNil [] :=
  ⟨⟨World.ownsRow_nil _ _ _ _, fun x hx => (by cases hx), List.Pairwise.nil⟩, rfl, World.ownsRow_nil _ _ _ _⟩
theorem AuOwn.setFar {w : World} {base : Nat} {v1 v2 : Value} {a : Au} {xs : List RowV} (h : AuOwn w base v1 v2 a xs) {g i : Nat} (hg : g < base) (v : Value) : AuOwn (w.setCell ⟨g, i, none⟩ v) base v1 v2 a xs := by
  have hk : KeepB (fun b => b = g) w (w.setCell ⟨g, i, none⟩ v) := (KeepB.refl _ w).setCell _ _ fun _ => rfl
  exact ⟨h.rows.keep hk (fun b hb e => by have := own_block h.rows.own b hb; omega) (fun x hx b hb e => by have := own_block (h.rows.rows x hx) b hb; omega), h.eq, own_keep h.acc hk fun b hb e => by have := own_block h.acc b hb; omega⟩

end Go.Proofs.YtjhlbeamfngebaaDoor

/- The reference's SystemValid returns sysOk. -/
namespace Go.Proofs.YtjhlbeamfngebaaDoor
open Go.RowKit Go.BigFrame AG

attribute [local go_sem] Fam.below

end Go.Proofs.YtjhlbeamfngebaaDoor

/- The reference's reached states. -/
namespace Go.Proofs.YtjhlbeamfngebaaDoor
open Go.RowKit Go.BigFrame AG

set_option maxHeartbeats 400000 in
theorem l1Bit_any (n : Nat) (w : World) (h : n ≤ 61) :
    Calls Tryd.prog 121 #[.int .i64 n] w fun e w' => e = .returned (.int .i64 ((2 ^ n : Nat) : Int)) ∧ w = w' := by
  go_enter Tryd.func121, Tryd.ntmps121
  go_wp2
  go_ret
  exact ⟨ret_int (wrap_pow h), rfl⟩

set_option maxHeartbeats 400000 in
theorem l1Has_nat (S n : Nat) (w : World) (h1 : n ≤ 63) :
    Calls Tryd.prog 119 #[.int .i64 S, .int .i64 n] w fun e w' => e = .returned (.bool (S.testBit n)) ∧ w = w' := by
  have := l1Has_any S n w (by omega) (by omega)
  rw [Int.toNat_natCast, Has_nat] at this
  exact this


end Go.Proofs.YtjhlbeamfngebaaDoor

/- The reference's FirstTraceOutside. -/
namespace Go.Proofs.YtjhlbeamfngebaaDoor
open Go.RowKit Go.BigFrame AG

/-- What the search holds: seen pairs, their words. -/
structure Srch (s t : Sy) (B : Nat) (wr : World) (sv wv : Value) (ps : List (Nat × Nat)) (ws : List (List Nat)) (i k : Nat) : Prop where
  own1 : wr.ownsRow B 118 2 sv ps.length (pairCells ps)
  own2 : wr.ownsRow B 9 1 wv ws.length (ws.map fun r => Value.string (wordS r))
  ne : sv.ownBlock ≠ wv.ownBlock
  pb : PB s t (letters s.al) ps ws i k
  pre : ∀ j (hj : j < ps.length), j < i → ps[j].2 ≠ 0
  pos : 0 < ps.length

theorem PairsAt.later {w w' : World} {A : Option Addr} {ps : List (Nat × Nat)} (h : PairsAt w w.heap.size A ps) (hb : Below w.heap.size w w') : PairsAt w' w'.heap.size A ps := fun hl => by
  obtain ⟨b, o, hA, hb', hE⟩ := h hl
  exact ⟨b, o, hA, Nat.lt_of_lt_of_le hb' hb.size, fun i hi => by rw [hb.cell (by simpa using hb'), hb.cell (by simpa using hb')]; exact hE i hi⟩

theorem Srch.later {s t : Sy} {B : Nat} {wr w' : World} {sv wv : Value} {ps : List (Nat × Nat)} {ws : List (List Nat)} {i k k' : Nat} (h : Srch s t B wr sv wv ps ws i k) (hb : Below wr.heap.size wr w') (hp : PB s t (letters s.al) ps ws i k') : Srch s t B w' sv wv ps ws i k' :=
  ⟨own_later h.own1 hb, own_later h.own2 hb, h.ne, hp, h.pre, h.pos⟩

theorem Srch.add {s t : Sy} {B : Nat} {wr w2 w8 w9 w10 w11 : World} {sv wv v9 v11 : Value} {ps : List (Nat × Nat)} {ws : List (List Nat)} {i k Z V l : Nat} {o1 : Obj} {S : ByteArray} (h : Srch s t B wr sv wv ps ws i k) (hB : Below B w2 wr) (hBs : B ≤ w2.heap.size)
    (hi : i < ps.length) (hi' : i < ws.length) (hk : k < (letters s.al).length) (hst : stepP s t ps[i] (letters s.al)[k] = (Z, V)) (hZ : Z ≠ 0) (hnew : (Z, V) ∉ ps) (hl : l = (letters s.al)[k]) (hS : S = wordS (l :: ws[i])) (h8 : Below wr.heap.size wr w8)
    (hO9 : w9.ownsRow B 118 2 v9 (ps.length + 1) (pairCells ps ++ [.int .i64 (Z : Nat), .int .i64 (V : Nat)])) (hg9 : (w8.alloc o1).grownBy w9 sv.ownBlock) (hat9 : v9.ownBlock = sv.ownBlock ∨ v9.ownBlock = some (w8.alloc o1).heap.size) (h10 : Below w9.heap.size w9 w10)
    (hO11 : w11.ownsRow B 9 1 v11 (ws.length + 1) (ws.map (fun r => Value.string (wordS r)) ++ [.string S])) (hg11 : w10.grownBy w11 wv.ownBlock) (hat11 : v11.ownBlock = wv.ownBlock ∨ v11.ownBlock = some w10.heap.size) :
    Srch s t B w11 v9 v11 (ps ++ [(Z, V)]) (ws ++ [l :: ws[i]]) i (k + 1) ∧ Below B w2 w11 := by
  have z8 := h8.size
  have z9 := hg9.size
  have z10 := h10.size
  have z11 := hg11.size
  simp only [World.size_alloc] at z9 hat9
  have hneW : v9.ownBlock ≠ wv.ownBlock := by
    rcases hat9 with e | e
    · rw [e]; exact h.ne
    · rw [e]
      intro e'
      have := (h.own2.lt _ e'.symm).2
      omega
  have hO1 : w11.ownsRow B 118 2 v9 (ps.length + 1) (pairCells ps ++ [.int .i64 (Z : Nat), .int .i64 (V : Nat)]) := (own_later hO9 h10).kept hg11 (.inr hneW)
  have hp := h.pb.add (letters_sorted _) hi hi' hk (by rw [hst]; exact hZ) (by rw [hst]; exact hnew)
  rw [hst, ← hl] at hp
  refine ⟨⟨?_, ?_, ?_, hp, ?_, by simp⟩, ?_⟩
  · have : (ps ++ [(Z, V)]).length = ps.length + 1 := by simp
    rw [this, pairCells_append]
    exact hO1
  · have : (ws ++ [l :: ws[i]]).length = ws.length + 1 := by simp
    rw [this, List.map_append, List.map_cons, List.map_nil, ← hS]
    exact hO11
  · intro e
    rcases hat11 with e' | e'
    · exact hneW (e.trans e')
    · have := (hO9.lt _ (e.trans e')).2
      omega
  · intro j hj hji
    have hj' : j < ps.length := by omega
    rw [List.getElem_append_left hj']
    exact h.pre j hj' hji
  · have b8 : Below B w2 (w8.alloc o1) := (hB.trans (h8.mono (Nat.le_trans hBs hB.size))).alloc (by have := hB.size; omega) _
    have b9 : Below B w2 w9 := b8.grown hg9 (by have := b8.size; omega) (fun k hk => (h.own1.lt k hk).1)
    have b10 : Below B w2 w10 := b9.trans (h10.mono (by have := b9.size; omega))
    exact b10.grown hg11 (by have := b10.size; omega) (fun k hk => (h.own2.lt k hk).1)

end Go.Proofs.YtjhlbeamfngebaaDoor

/- The reference's l6Subsets. -/
namespace Go.Proofs.YtjhlbeamfngebaaDoor
open Go.RowKit Go.BigFrame Go.Maps AG

/-- What l6Subsets holds in memory. -/
structure L6 (w2 wr : World) (gO : Nat) (al : Int) (vR : Value) (xs : List RowV) (vA : Value) (acs : List Bool) (fs : List (Value × List Value)) : Prop where
  below : Below w2.heap.size w2 wr
  ge : w2.heap.size ≤ gO
  fam : Fam3 wr w2.heap.size fs
  tab : wr.ownsRow w2.heap.size 72 1 vR xs.length (rowVals xs)
  acc : wr.ownsRow w2.heap.size 4 1 vA acs.length (boolVals acs)
  blk : Blk wr gO 26 #[.int .i64 al, vR, vA]
section
variable {w2 wr w1 w' : World} {gO : Nat} {al : Int} {vR vA : Value} {xs : List RowV} {acs : List Bool} {fs l1 l2 : List (Value × List Value)} {f : Value × List Value}
theorem L6.later (h : L6 w2 wr gO al vR xs vA acs fs) (hb : Below wr.heap.size wr w') : L6 w2 w' gO al vR xs vA acs fs :=
  ⟨h.below.trans (hb.mono h.below.size), h.ge, h.fam.later hb, own_later_ h.tab hb, own_later_ h.acc hb, h.blk.below hb h.blk.lt⟩
theorem L6.own {v : Value} {row : List Nat} (h : L6 w2 wr gO al vR xs vA acs fs) (hf : (v, natVals row) ∈ fs) : wr.ownsRow w2.heap.size 3 1 v row.length (natVals row) := by
  have := h.fam.rows _ hf
  rwa [natVals_len] at this
/-- The row goes into the table. -/
theorem L6.row {row : List Nat} {vR' : Value} {A : Option Addr} {c : Nat} {o : Obj} (h : L6 w2 wr gO al vR xs vA acs (f :: (.slice A row.length c, natVals row) :: famOf xs)) (hg : (wr.alloc o).grownBy w1 vR.ownBlock)
    (ho : w1.ownsRow w2.heap.size 72 1 vR' (xs.length + 1) (rowVals xs ++ [.slice A row.length c])) : L6 w2 (w1.setCell ⟨gO, 1, none⟩ vR') gO al vR' (xs ++ [⟨row.map fun (n : Nat) => (n : Int), A, c⟩]) vA acs (f :: famOf (xs ++ [⟨row.map fun (n : Nat) => (n : Int), A, c⟩])) := by
  have hkA : KeepB (fun b => vR.ownBlock = some b) wr w1 := ((KeepB.refl _ wr).alloc o).grown hg fun k hk _ => hk
  have hblk1 : Blk w1 gO 26 #[.int .i64 al, vR, vA] := h.blk.keep hkA fun e => own_ne h.tab h.blk (by decide) _ e rfl
  have hkB : KeepB (fun b => b = gO) w1 (w1.setCell ⟨gO, 1, none⟩ vR') := (KeepB.refl _ w1).setCell _ _ fun _ => rfl
  have hb1 : Below w2.heap.size w2 w1 := hkA.below h.below h.below.size fun b e => own_block h.tab b e
  refine ⟨hkB.below hb1 hb1.size fun b e => by rw [e]; exact h.ge, h.ge, ?_, ?_, ?_, by simpa using hblk1.set_ 1 vR'⟩
  · have h1 := h.fam.keep hkA fun f hf g hg e => own_ne_own h.tab (h.fam.rows f hf) (by decide) g g e hg rfl
    exact (h1.keep hkB fun f hf g hg e => own_ne (h1.rows f hf) hblk1 (by decide) g hg e).into
  · have h2 : w1.ownsRow w2.heap.size 72 1 vR' (xs ++ [(⟨row.map fun (n : Nat) => (n : Int), A, c⟩ : RowV)]).length (rowVals (xs ++ [⟨row.map fun (n : Nat) => (n : Int), A, c⟩])) := by
      unfold rowVals at ho ⊢
      rw [List.length_append, List.map_append]
      unfold RowV.v at ho ⊢
      simpa using ho
    exact own_keep h2 hkB (own_ne h2 hblk1 (by decide))
  · have h3 := own_keep h.acc hkA fun g hg e => own_ne_own h.acc h.tab (by decide) g g hg e rfl
    exact own_keep h3 hkB (own_ne h3 hblk1 (by decide))
/-- Whether a node is accepting. -/
theorem L6.put {vA' : Value} {t : Bool} (h : L6 w2 wr gO al vR xs vA acs fs) (hg : wr.grownBy w1 vA.ownBlock)
    (ho : w1.ownsRow w2.heap.size 4 1 vA' (acs.length + 1) (boolVals acs ++ [.bool t])) : L6 w2 (w1.setCell ⟨gO, 2, none⟩ vA') gO al vR xs vA' (acs ++ [t]) fs := by
  have hkA : KeepB (fun b => vA.ownBlock = some b) wr w1 := (KeepB.refl _ wr).grown hg fun k hk _ => hk
  have hblk1 : Blk w1 gO 26 #[.int .i64 al, vR, vA] := h.blk.keep hkA fun e => own_ne h.acc h.blk (by decide) _ e rfl
  have hkB : KeepB (fun b => b = gO) w1 (w1.setCell ⟨gO, 2, none⟩ vA') := (KeepB.refl _ w1).setCell _ _ fun _ => rfl
  have hb1 : Below w2.heap.size w2 w1 := hkA.below h.below h.below.size fun b e => own_block h.acc b e
  refine ⟨hkB.below hb1 hb1.size fun b e => by rw [e]; exact h.ge, h.ge, ?_, ?_, ?_, by simpa using hblk1.set_ 2 vA'⟩
  · have h1 := h.fam.keep hkA fun f hf g hg e => own_ne_own h.acc (h.fam.rows f hf) (by decide) g g e hg rfl
    exact h1.keep hkB fun f hf g hg e => own_ne (h1.rows f hf) hblk1 (by decide) g hg e
  · have h3 := own_keep h.tab hkA fun g hg e => own_ne_own h.tab h.acc (by decide) g g hg e rfl
    exact own_keep h3 hkB (own_ne h3 hblk1 (by decide))
  · have h2 : w1.ownsRow w2.heap.size 4 1 vA' (acs ++ [t]).length (boolVals (acs ++ [t])) := by
      unfold boolVals at ho ⊢
      rw [List.length_append, List.map_append]
      exact ho
    exact own_keep h2 hkB (own_ne h2 hblk1 (by decide))
/-- A fresh empty row. -/
theorem Fam3.fresh {w : World} {base : Nat} {f : Value × List Value} {fs : List (Value × List Value)} (h : Fam3 w base (f :: fs)) (hb : base ≤ w.heap.size) : Fam3 (w.alloc (.cells #[] 3)) base (f :: (.slice (some ⟨w.heap.size, 0, none⟩) 0 0, []) :: fs) := by
  have hl := h.later ((Below.refl _ w).alloc (Nat.le_refl _) (.cells #[] 3))
  have hlt : ∀ y ∈ f :: fs, ∀ g, y.1.ownBlock = some g → g < w.heap.size := fun y hy g e => ((h.rows y hy).lt g e).2
  obtain ⟨h2, h3⟩ := hl
  rw [List.pairwise_cons] at h3
  refine ⟨fun y hy => ?_, ?_⟩
  · rw [List.mem_cons, List.mem_cons] at hy
    rcases hy with rfl | rfl | hy
    · exact h2 _ List.mem_cons_self
    · exact ⟨rfl, .inr ⟨w.heap.size, 0, #[], rfl, hb, heap_alloc_self _ _, Nat.le_refl _, Nat.zero_le _, rfl, rfl⟩⟩
    · exact h2 y (List.mem_cons_of_mem _ hy)
  · rw [List.pairwise_cons, List.pairwise_cons]
    refine ⟨fun y hy k e e' => ?_, ⟨fun y hy k e e' => ?_, h3.2⟩⟩
    · rcases List.mem_cons.1 hy with rfl | hy
      · have := hlt f List.mem_cons_self k e
        injection e' with e'
        simp at e'
        omega
      · exact h3.1 y hy k e e'
    · have := hlt y (List.mem_cons_of_mem _ hy) k e'
      injection e with e
      simp at e
      omega
theorem L6.fresh (h : L6 w2 wr gO al vR xs vA acs (f :: fs)) : L6 w2 (wr.alloc (.cells #[] 3)) gO al vR xs vA acs (f :: (.slice (some ⟨wr.heap.size, 0, none⟩) 0 0, []) :: fs) :=
  have hb : Below wr.heap.size wr (wr.alloc (.cells #[] 3)) := (Below.refl _ wr).alloc (Nat.le_refl _) _
  ⟨h.below.trans (hb.mono h.below.size), h.ge, h.fam.fresh h.below.size, own_later_ h.tab hb, own_later_ h.acc hb, h.blk.below hb h.blk.lt⟩
end
theorem OwnN.read {w : World} {B : Nat} {v : Value} {ns : List Nat} (h : w.ownsRow B 3 1 v ns.length (natVals ns)) : ∃ A c, v = .slice A ns.length c ∧ ns.length ≤ c ∧ c ≤ 9223372036854775807 ∧ NatsAt w w.heap.size A ns := OwnNats.read h

end Go.Proofs.YtjhlbeamfngebaaDoor

/- The laws' own functions on systems: sizes, copies, comparisons. -/
namespace Go.Proofs.YtjhlbeamfngebaaDoor
open Go.RowKit Go.BigFrame AG

set_option maxHeartbeats 400000 in
theorem eqEdge_any (a b : Ed) (w : World) :
    Calls Tryd.prog 125 #[a.val, b.val] w fun e w' => e = .returned (.bool (decide (a = b))) ∧ Below w.heap.size w w' := by
  obtain ⟨af, al, at_⟩ := a
  obtain ⟨bf, bl, bt⟩ := b
  unfold Ed.val
  go_enter Tryd.func125, Tryd.ntmps125
  go_wp2
  all_goals go_ret
  all_goals exact ⟨ret_bool (by simp_all), by (repeat (first | exact Below.refl _ _ | assumption | refine Below.drew ?_ | refine Below.alloc ?_ (by first | omega | (simp; done) | (simp; omega)) _ | refine Below.setCell ?_ (by first | omega | (simp; done) | (simp; omega)) _))⟩

set_option maxHeartbeats 1000000 in
theorem eqEdgeS_any (es fs : List Ed) (A B : Option Addr) (c d : Nat) (w : World) (hn : es.length ≤ c) (hc : c ≤ 9223372036854775807) (hm : fs.length ≤ d) (_hd : d ≤ 9223372036854775807) (hr : EdsAt w w.heap.size A es) (hs : EdsAt w w.heap.size B fs) :
    Calls Tryd.prog 65 #[.slice A es.length c, .slice B fs.length d] w fun e w' => e = .returned (.bool (decide (es = fs))) ∧ Below w.heap.size w w' := by
  replace hr := hid hr
  replace hs := hid hs
  by_cases hlen : es.length = fs.length
  · go_enter Tryd.func65, Tryd.ntmps65
    go_wp2
    go_loopw [5] (fun i wr => ∃ k : Nat, i = .int .i64 k ∧ k ≤ es.length ∧ (∀ i (h : i < es.length) (h' : i < fs.length), i < k → es[i] = fs[i]) ∧ Below w.heap.size w wr) (fun i _ => es.length - (intOf i).toNat)
    case atStart => exact ⟨0, rfl, by omega, by intro i _ _ h; omega, Below.refl _ _⟩
    case round =>
      obtain ⟨k, rfl, hk, heq, hb⟩ := hrel
      by_cases hlt : k < es.length
      · obtain ⟨b, o, rfl, hB, hE⟩ := hr.out.get (Below.refl _ _) (Nat.le_refl _) hlt
        obtain ⟨b', o', rfl, hB', hF⟩ := hs.out.get (Below.refl _ _) (Nat.le_refl _) (show k < fs.length by omega)
        obtain ⟨e0, e1, e2⟩ := hE k hlt
        obtain ⟨f0, f1, f2⟩ := hF k (by omega)
        replace hE := hid hE
        replace hF := hid hF
        have hB1 := hid hB
        have g0 := fun x => e0 _ (Fam.below _ _ x)
        have g1 := fun x => e1 _ (Fam.below _ _ x)
        have g2 := fun x => e2 _ (Fam.below _ _ x)
        have i0 := fun x => f0 _ (Fam.below _ _ x)
        have i1 := fun x => f1 _ (Fam.below _ _ x)
        have i2 := fun x => f2 _ (Fam.below _ _ x)
        cases hq : decide (es[k] = fs[k])
        all_goals
          replace hq := hid hq
          replace heq := hid heq
          go_wp2_with fail
          refine wp_region_fam w.heap.size w (by kernel_rfl) (by kernel_rfl) hb ?_
          (repeat (go_big_quiet_step ((refine (eqEdge_any es[k] fs[k] _).mono ?_; rintro e w1 ⟨rfl, hb1⟩; exact ⟨by rw [hq.out], Fam.next (Nat.le_refl _) hb1⟩))))
          refine wpQuiet_nil ?_
          intro w2 hw2
          replace hw2 := Fam.out hw2
          go_wp2
        · go_ret
          exact ⟨ret_bool (by
            have := hq.out
            rw [decide_eq_false_iff_not] at this
            rw [eq_comm, decide_eq_false_iff_not]
            intro h
            subst h
            exact this rfl), hw2⟩
        · go_roundw
          case rel =>
            refine ⟨k + 1, by go_num, by omega, fun i hi hi' hik => ?_, hw2⟩
            by_cases e : i = k
            · subst e; exact of_decide_eq_true hq.out
            · exact heq.out i hi hi' (by omega)
          case measure => simp [intOf]; omega
      · replace heq := hid heq
        go_wp2
        go_ret
        exact ⟨ret_bool (by
          rw [eq_comm, decide_eq_true_iff]
          exact List.ext_getElem hlen fun i hi hi' => heq.out i hi hi' (by omega)), hb⟩
  · go_enter Tryd.func65, Tryd.ntmps65
    go_wp2
    go_ret
    exact ⟨ret_bool (by rw [eq_comm, decide_eq_false_iff_not]; intro h; exact hlen (by rw [h])), Below.refl _ _⟩

set_option maxHeartbeats 1000000 in
theorem eqSystem_any (s t : Sy) (A B : Option Addr) (c d : Nat) (w : World) (hn : s.es.length ≤ c) (hc : c ≤ 9223372036854775807) (hm : t.es.length ≤ d) (hd : d ≤ 9223372036854775807) (hr : EdsAt w w.heap.size A s.es) (hs : EdsAt w w.heap.size B t.es) :
    Calls Tryd.prog 21 #[s.val A c, t.val B d] w fun e w' => e = .returned (.bool (decide (s = t))) ∧ Below w.heap.size w w' := by
  obtain ⟨sa, ss, se⟩ := s
  obtain ⟨ta, ts, te⟩ := t
  dsimp only at hn hm hr hs
  have hsp : Hid (decide (({ al := sa, st := ss, es := se } : Sy) = { al := ta, st := ts, es := te }) = (decide (sa = ta) && (decide (ss = ts) && decide (se = te)))) := hid (by simp)
  unfold Sy.val
  replace hr := hid hr
  replace hs := hid hs
  go_enter Tryd.func21, Tryd.ntmps21
  go_wp2_with (refine (eqEdgeS_any se te A B c d _ hn hc hm hd (hr.out.later (by (repeat (first | exact Below.refl _ _ | assumption | refine Below.drew ?_ | refine Below.alloc ?_ (by first | omega | (simp; done) | (simp; omega)) _ | refine Below.setCell ?_ (by first | omega | (simp; done) | (simp; omega)) _)))) (hs.out.later (by (repeat (first | exact Below.refl _ _ | assumption | refine Below.drew ?_ | refine Below.alloc ?_ (by first | omega | (simp; done) | (simp; omega)) _ | refine Below.setCell ?_ (by first | omega | (simp; done) | (simp; omega)) _))))).mono ?_; rintro e w' ⟨rfl, hb⟩)
  all_goals
    go_ret
    exact ⟨ret_bool (by rw [hsp.out]; simp_all), by first | ((repeat (first | exact Below.refl _ _ | assumption | refine Below.drew ?_ | refine Below.alloc ?_ (by first | omega | (simp; done) | (simp; omega)) _ | refine Below.setCell ?_ (by first | omega | (simp; done) | (simp; omega)) _)); done) | exact Below.trans (by (repeat (first | exact Below.refl _ _ | assumption | refine Below.drew ?_ | refine Below.alloc ?_ (by first | omega | (simp; done) | (simp; omega)) _ | refine Below.setCell ?_ (by first | omega | (simp; done) | (simp; omega)) _))) (hb.mono (by first | (simp; done) | (simp; omega)))⟩

end Go.Proofs.YtjhlbeamfngebaaDoor

/- Copies of systems whose edges may be written; marks in systems. -/
namespace Go.Proofs.YtjhlbeamfngebaaDoor
open Go.RowKit Go.BigFrame AG

/-- The edges lie in a block that may be written. -/
def WrB (w : World) (A : Option Addr) (n : Nat) : Prop := ∀ b o, A = some ⟨b, o, none⟩ → o = 0 ∧ ∃ cs, Blk w b 77 cs ∧ n * 3 ≤ cs.size
theorem WrB.setFar {w : World} {n m : Nat} {A : Option Addr} (h : WrB w A n) (hf : FreshA m A) {g i : Nat} (v : Value) (hg : g < m) : WrB (w.setCell ⟨g, i, none⟩ v) A n := fun b o hA => by
  obtain ⟨h1, cs, h2, h3⟩ := h b o hA
  have := hf b o hA
  exact ⟨h1, cs, (Below.heap_setCell w ⟨g, i, none⟩ v b (by simp; omega)).trans h2, h3⟩
theorem WrB.later {w w' : World} {A : Option Addr} {n : Nat} (h : WrB w A n) (hb : Below w.heap.size w w') : WrB w' A n := fun b o hA => by
  obtain ⟨h1, cs, h2, h3⟩ := h b o hA
  exact ⟨h1, cs, h2.below hb h2.lt, h3⟩
end Go.Proofs.YtjhlbeamfngebaaDoor

/- The laws FnExactDeterminize, FnExactProjectSystem return true. -/
namespace Go.Proofs.YtjhlbeamfngebaaDoor
open Go.RowKit Go.BigFrame Go.Maps AG

theorem cell_keep {K : Nat → Prop} {w w' : World} (hk : KeepB K w w') {p : Addr} {v : Value} (h : w.cell? p = some v) (hn : ¬ K p.block) : w'.cell? p = some v := by
  rw [World.cell?_of_block (hk.block p.block (World.block_lt_of_cell? _ _ h) hn)]
  exact h
theorem AuOwn.read {w : World} {base : Nat} {A B : Option Addr} {a : Au} {c d : Nat} {xs : List RowV} (h : AuOwn w base (.slice A a.nx.length c) (.slice B a.ac.length d) a xs) : AuAt w A c B d a := by
  obtain ⟨A', c', B', d', e1, e2, hat⟩ := h.at_
  cases e1
  cases e2
  exact hat



end Go.Proofs.YtjhlbeamfngebaaDoor

/- Plain: how many bits a small number has. -/
namespace AG

def popE (x : Nat) : Nat := x % 2 + x / 2 % 2 + x / 4 % 2 + x / 8 % 2 + x / 16 % 2 + x / 32 % 2 + x / 64 % 2 + x / 128 % 2 + x / 256 % 2 + x / 512 % 2 + x / 1024 % 2 + x / 2048 % 2 + x / 4096 % 2 + x / 8192 % 2 + x / 16384 % 2 + x / 32768 % 2
/-- The library's steps. -/
def popS (x : Nat) : Nat :=
  let x1 := (x / 2 &&& 6148914691236517205) + (x &&& 6148914691236517205)
  let x2 := (x1 / 4 &&& 3689348814741910323) + (x1 &&& 3689348814741910323)
  let x3 := x2 / 16 + x2 &&& 1085102592571150095
  let x4 := x3 + x3 / 256
  let x5 := x4 + x4 / 65536
  let x6 := x5 + x5 / 4294967296
  x6 &&& 127
theorem pop_all : ∀ a : Fin 256, ∀ b : Fin 256, popE (a.val * 256 + b.val) = popS (a.val * 256 + b.val) := by decide +kernel
theorem pop_steps (x : Nat) (hx : x < 65536) : popE x = popS x := by
  have := pop_all ⟨x / 256, by omega⟩ ⟨x % 256, by omega⟩
  simp only at this
  rwa [show x / 256 * 256 + x % 256 = x from by omega] at this

end AG

/- Plain: ranks in a set, and a system with only some of its states. -/
namespace AG

/-- How many numbers below n are in the set. -/
def rankN (S : Nat) : Nat → Nat
  | 0 => 0
  | n + 1 => rankN S n + if S.testBit n = true then 1 else 0
theorem rankN_le (S : Nat) : ∀ n, rankN S n ≤ n
  | 0 => Nat.le_refl _
  | n + 1 => by
    have := rankN_le S n
    unfold rankN
    split <;> omega
theorem bit_num (x i : Nat) : (if x.testBit i = true then 1 else 0) = x / 2 ^ i % 2 := by
  have h := Nat.testBit_eq_decide_div_mod_eq (x := x) (i := i)
  rw [h]
  by_cases hh : x / 2 ^ i % 2 = 1
  · simp [hh]
  · simp [hh]; omega
theorem popE_rank (x : Nat) : popE x = rankN x 16 := by
  unfold popE
  simp only [rankN, bit_num]
  simp
theorem rank_mask (S n : Nat) : ∀ m, n ≤ m → rankN (S &&& (2 ^ n - 1)) m = rankN S n := by
  have key : ∀ i, (S &&& (2 ^ n - 1)).testBit i = (S.testBit i && decide (i < n)) := fun i => by rw [Nat.testBit_and, Nat.testBit_two_pow_sub_one]
  have low : ∀ m, m ≤ n → rankN (S &&& (2 ^ n - 1)) m = rankN S m := by
    intro m
    induction m with
    | zero => intro _; rfl
    | succ m ih =>
      intro h
      rw [rankN, rankN, ih (by omega), key, decide_eq_true (by omega : m < n), Bool.and_true]
  intro m
  induction m with
  | zero => intro h; exact low 0 (by omega) |>.trans (by rw [show n = 0 from by omega])
  | succ m ih =>
    intro h
    by_cases e : n = m + 1
    · rw [e, ← e]; exact low n (Nat.le_refl _)
    · rw [rankN, ih (by omega), key, decide_eq_false (by omega : ¬ m < n)]
      simp
theorem rank_top {S n : Nat} (hS : S < 2 ^ n) : ∀ m, n ≤ m → rankN S m = rankN S n := by
  intro m h
  have := rank_mask S n m h
  have e : S &&& (2 ^ n - 1) = S := by rw [Nat.and_two_pow_sub_one_eq_mod, Nat.mod_eq_of_lt hS]
  rwa [e] at this

def trimE (R : Nat) (e : Ed) : Ed := ⟨(rankN R e.f.toNat : Nat), e.l, (rankN R e.t.toNat : Nat)⟩
def keptE (R : Nat) (e : Ed) : Bool := R.testBit e.f.toNat && R.testBit e.t.toNat
def trimEs (R : Nat) (es : List Ed) : List Ed := (es.filter (keptE R)).map (trimE R)
/-- A system with only the states of a set, renumbered. -/
def trimSy (s : Sy) (R : Nat) : Sy := ⟨s.al, (rankN R s.st.toNat : Nat), trimEs R s.es⟩
theorem trimEs_hit {R : Nat} {es : List Ed} {k : Nat} (hk : k < es.length) (h : keptE R es[k] = true) : trimEs R (es.take (k + 1)) = trimEs R (es.take k) ++ [trimE R es[k]] := by
  unfold trimEs
  rw [List.take_succ_eq_append_getElem hk, List.filter_append, List.map_append]
  simp [h]
theorem trimEs_miss {R : Nat} {es : List Ed} {k : Nat} (hk : k < es.length) (h : keptE R es[k] = false) : trimEs R (es.take (k + 1)) = trimEs R (es.take k) := by
  unfold trimEs
  rw [List.take_succ_eq_append_getElem hk, List.filter_append, List.map_append]
  simp [h]
theorem trimEs_len (R : Nat) (es : List Ed) : (trimEs R es).length ≤ es.length := by
  unfold trimEs
  rw [List.length_map]
  exact List.length_filter_le _ _

end AG
