/- Lemmas, part 2: several texts in one. -/
import Derived.Test.YtdkjnemakkppfaaT1
import Derived.WalkKit
import Derived.Maps.AppendAt
import Derived.Test.YtdkjnemakkppfaaProg
import Derived.Laws.IdiomStrings
import Derived.Lib.TrailingZeros
import Derived.Laws.Bits64b
import Derived.Shelf.Spec.TrailingZeros
import Derived.BigQuiet
import Derived.BigRegion
import Derived.RegionTactic
import Derived.Maps.Own
import Derived.Maps.OwnOps
import Derived.Maps.Range
import Derived.Maps.RangeWalk
import Derived.Maps.Views
import Derived.Deep.DeepCutAuto
set_option linter.unusedSimpArgs false
set_option linter.unusedVariables false

/- The reference's l1Letters, l1Text. -/
namespace Go.Proofs.Ytdkjnemakkppfaa
open Go.RowKit Go.BigFrame AG

theorem infoInt : (Try.prog.info? 3).map (fun i => (i.zero, i.size, i.bytes)) = some (some (.int .i64 0), 1, 8) := by kernel_rfl

/-- The numbers ns, as an owned slice. -/
def OwnNats (w : World) (B : Nat) (v : Value) (ns : List Nat) : Prop := w.ownsRow B 3 1 v ns.length (ns.map fun (n : Nat) => Value.int .i64 (n : Int))

theorem own_block {w : World} {B : Nat} {e : TypeId} {size : Nat} {v : Value} {n : Nat} {xs : List Value} (h : w.ownsRow B e size v n xs) : ∀ k, v.ownBlock = some k → B ≤ k := by
  intro k hk
  obtain ⟨_, ⟨rfl, _⟩ | ⟨g, cap, cur, rfl, hg, _⟩⟩ := h
  · cases hk
  · cases hk
    exact hg

theorem heap_alloc_self (w : World) (o : Obj) : (w.alloc o).heap[w.heap.size]? = some o := by
  unfold World.alloc
  simp

/-- A letter is appended. -/
theorem letters_next {w wr w1 : World} {A : Int} {k : Nat} {v v' : Value} {c : Array Value} {t : TypeId} (hB : w.heap.size ≤ wr.heap.size) (h : Has A k = true) (hown : OwnNats wr w.heap.size v (lettersTo A k)) (hb : Below w.heap.size w wr)
    (hown' : w1.ownsRow w.heap.size 3 1 v' ((lettersTo A k).length + 1) (((lettersTo A k).map fun (n : Nat) => Value.int .i64 (n : Int)) ++ [.int .i64 (k : Int)])) (hg : (wr.alloc (.cells c t)).grownBy w1 v.ownBlock) :
    OwnNats w1 w.heap.size v' (lettersTo A (k + 1)) ∧ Below w.heap.size w w1 := by
  refine ⟨?_, Below.grown (hb.alloc hB _) hg (by simp; omega) (own_block hown)⟩
  unfold OwnNats
  rw [lettersTo_succ, if_pos h, List.length_append, List.map_append]
  exact hown'

set_option maxRecDepth 100000 in
set_option maxHeartbeats 1000000 in
theorem l1Letters_any (A : Int) (w : World) :
    Calls Try.prog 35 #[.int .i64 A] w fun e w' => ∃ v, e = .returned v ∧ OwnNats w' w.heap.size v (letters A) ∧ Below w.heap.size w w' := by
  obtain ⟨i0, hi, hz0, hz1, hz2⟩ := info_parts infoInt
  go_enter Try.func35, Try.ntmps35
  go_wp2_with fail
  go_loopw [3, 4] (fun v i wr => ∃ k : Nat, k ≤ 6 ∧ i = .int .i64 k ∧ OwnNats wr w.heap.size v (lettersTo A k) ∧ Below w.heap.size w wr) (fun _ i _ => 6 - (intOf i).toNat)
  case atStart =>
    refine ⟨0, by omega, rfl, ?_, by (repeat (first | exact Below.refl _ _ | assumption | refine Below.drew ?_ | refine Below.alloc ?_ (by first | omega | (simp; done) | (simp; omega)) _ | refine Below.setCell ?_ (by first | omega | (simp; done) | (simp; omega)) _))⟩
    refine ⟨rfl, .inr ⟨w.heap.size, 0, #[], rfl, Nat.le_refl _, heap_alloc_self _ _, Nat.le_refl _, Nat.zero_le _, rfl, rfl⟩⟩
  case round =>
    obtain ⟨k, hk, rfl, hown, hb⟩ := hrel
    have hz := hb.size
    have hlen := lettersTo_len A k
    by_cases hlt : k < 6
    · cases hH : Has A k
      · replace hH := hid hH
        go_wp2_with (go_at_call 52; refine (l1Has_any A k _ (by omega) (by omega)).mono ?_; rintro e w' ⟨rfl, rfl⟩; rw [Int.toNat_natCast, hH.out])
        refine ⟨⟨k + 1, by omega, by go_num, ?_, hb⟩, by simp [intOf]; omega⟩
        rw [lettersTo_succ, hH.out]
        exact hown
      · replace hH := hid hH
        unfold OwnNats at hown
        go_wp2_with (first
          | (go_at_call 52; refine (l1Has_any A k _ (by omega) (by omega)).mono ?_; rintro e w' ⟨rfl, rfl⟩; rw [Int.toNat_natCast, hH.out])
          | (at_builtin; refine wpList_append_own _ rfl _ _ 40 rfl w.heap.size 3 i0 (.int .i64 0) 1 8 Try.underlying40 hi hz0 hz1 hz2 rfl (by decide) _ _ _ rfl (hown.alloc _) ⟨wr.heap.size, 0, none⟩ 1 1 [.int .i64 (k : Int)] rfl rfl ?c1 ?c2 ?c3 ?c4 ?c5 ?_))
        case c1 =>
          intro j u hj
          match j, hj with
          | 0, hj => simp at hj; subst hj; simp [Addr.add]
        case c2 => intro u hu; simp at hu; subst hu; rfl
        case c3 => unfold maxLen; omega
        case c4 => omega
        case c5 => simp; omega
        · intro v' w1 hown' hgrow _
          have R := letters_next hz hH.out hown hb hown' hgrow
          clear hown' hgrow hown hb hlen
          go_wp2
          go_roundw
          case rel => exact ⟨k + 1, by omega, by go_num, R.1, R.2⟩
          case measure => simp [intOf]; omega
    · obtain rfl : k = 6 := by omega
      go_wp2
      go_ret
      exact ⟨_, rfl, hown, hb⟩

end Go.Proofs.Ytdkjnemakkppfaa

/- What owned rows give. -/
namespace Go.Proofs.Ytdkjnemakkppfaa
open Go.RowKit Go.BigFrame AG

/-- What an owned row gives that is not empty. -/
theorem own_shape {w : World} {B : Nat} {e : TypeId} {size : Nat} {v : Value} {n : Nat} {xs : List Value} (h : w.ownsRow B e size v n xs) (hn : 0 < n) :
    ∃ g cap, v = .slice (some ⟨g, 0, none⟩) n cap ∧ B ≤ g ∧ g < w.heap.size ∧ n ≤ cap ∧ cap ≤ 9223372036854775807 ∧ ∀ (j : Nat) u, xs[j]? = some u → w.cell? ⟨g, j, none⟩ = some u := by
  have hlt := h.lt
  have hcells := @World.ownsRow.cells
  have hc := fun g hg => h.cells (g := g) hg
  obtain ⟨_, ⟨rfl, h0⟩ | ⟨g, cap, cur, rfl, hg, hw, h1, h2, h3, h4⟩⟩ := h
  · omega
  · refine ⟨g, cap, rfl, hg, (hlt g rfl).2, h1, h2, fun j u hj => ?_⟩
    have := hc g rfl j u hj
    rw [show ((⟨g, 0, none⟩ : Addr).add j) = ⟨g, j, none⟩ from by unfold Addr.add; split <;> simp_all] at this
    exact this

theorem own_slice {w : World} {B : Nat} {e : TypeId} {size : Nat} {v : Value} {n : Nat} {xs : List Value} (h : w.ownsRow B e size v n xs) : ∃ A c, v = .slice A n c ∧ n ≤ c ∧ c ≤ 9223372036854775807 := by
  obtain ⟨_, ⟨rfl, rfl⟩ | ⟨g, cap, cur, rfl, hg, hw, h1, h2, h3, h4⟩⟩ := h
  · exact ⟨none, 0, rfl, Nat.le_refl _, by omega⟩
  · exact ⟨_, cap, rfl, h1, h2⟩

theorem own_nats {w : World} {B : Nat} {v : Value} {ns : List Nat} (h : OwnNats w B v ns) (hn : 0 < ns.length) :
    ∃ g cap, v = .slice (some ⟨g, 0, none⟩) ns.length cap ∧ B ≤ g ∧ g < w.heap.size ∧ ns.length ≤ cap ∧ cap ≤ 9223372036854775807 ∧
      ∀ i (hi : i < ns.length), w.cell? ⟨g, i, none⟩ = some (.int .i64 (ns[i] : Nat)) := by
  obtain ⟨g, cap, hv, h1, h2, h3, h4, h5⟩ := own_shape h hn
  exact ⟨g, cap, hv, h1, h2, h3, h4, fun i hi => h5 _ _ (by simp [hi])⟩

theorem own_later {w w' : World} {base : Nat} {e : TypeId} {size : Nat} {v : Value} {n : Nat} {xs : List Value} (h : w.ownsRow base e size v n xs) (hb : Below w.heap.size w w') : w'.ownsRow base e size v n xs :=
  h.kept (row := none) ⟨hb.os, hb.tape, hb.output, hb.size, fun k hk _ => hb.block k hk⟩ (by cases v.ownBlock; exact .inl rfl; exact .inr (by simp))

end Go.Proofs.Ytdkjnemakkppfaa

/- Words for memory: all old blocks but a few are as they were. -/
namespace AG
open Go Go.RowKit

/-- All old blocks but those of K are as they were. -/
structure KeepB (K : Nat → Prop) (w w' : World) : Prop where
  os : w'.os = w.os
  tape : w'.tape = w.tape
  output : w'.output = w.output
  size : w.heap.size ≤ w'.heap.size
  block : ∀ k, k < w.heap.size → ¬ K k → w'.heap[k]? = w.heap[k]?
theorem KeepB.refl (K : Nat → Prop) (w : World) : KeepB K w w := ⟨rfl, rfl, rfl, Nat.le_refl _, fun _ _ _ => rfl⟩
theorem KeepB.trans {K : Nat → Prop} {a b c : World} (h : KeepB K a b) (k : KeepB K b c) : KeepB K a c :=
  ⟨k.os.trans h.os, k.tape.trans h.tape, k.output.trans h.output, Nat.le_trans h.size k.size, fun i hi hne => (k.block i (Nat.lt_of_lt_of_le hi h.size) hne).trans (h.block i hi hne)⟩
theorem KeepB.mono {K K' : Nat → Prop} {a b : World} (h : KeepB K a b) (hK : ∀ k, K k → K' k) : KeepB K' a b := ⟨h.os, h.tape, h.output, h.size, fun i hi hne => h.block i hi fun hk => hne (hK i hk)⟩
theorem KeepB.of_below {K : Nat → Prop} {a b : World} (h : Below a.heap.size a b) : KeepB K a b := ⟨h.os, h.tape, h.output, h.size, fun i hi _ => h.block i hi⟩
theorem KeepB.below {K : Nat → Prop} {B : Nat} {w a b : World} (hb : Below B w a) (h : KeepB K a b) (hB : B ≤ a.heap.size) (hK : ∀ k, K k → B ≤ k) : Below B w b :=
  hb.trans ⟨h.os, h.tape, h.output, h.size, fun i hi => h.block i (by omega) fun hk => by have := hK i hk; omega⟩
/-- .. from a world a that began earlier: blocks made since may be written. -/
theorem KeepB.grown {K : Nat → Prop} {w a b : World} {row : Option Nat} (hk : KeepB K w a) (h : a.grownBy b row) (hK : ∀ k, row = some k → k < w.heap.size → K k) : KeepB K w b :=
  ⟨h.os.trans hk.os, h.tape.trans hk.tape, h.output.trans hk.output, Nat.le_trans hk.size h.size, fun i hi hne => (h.block i (Nat.lt_of_lt_of_le hi hk.size) fun e => hne (hK i e.symm hi)).trans (hk.block i hi hne)⟩
theorem KeepB.setCell {K : Nat → Prop} {w a : World} (hk : KeepB K w a) (p : Addr) (v : Value) (hK : p.block < w.heap.size → K p.block) : KeepB K w (a.setCell p v) :=
  ⟨hk.os, hk.tape, hk.output, by simpa using hk.size, fun i hi hne => by
    rw [Below.heap_setCell _ _ _ _ (fun e => hne (by rw [e]; exact hK (by rw [← e]; exact hi)))]
    exact hk.block i hi hne⟩
theorem KeepB.alloc {K : Nat → Prop} {w a : World} (hk : KeepB K w a) (o : Obj) : KeepB K w (a.alloc o) :=
  ⟨hk.os, hk.tape, hk.output, by have := hk.size; simp; omega, fun i hi hne => by
    rw [Below.heap_alloc a o i (Nat.lt_of_lt_of_le hi hk.size)]
    exact hk.block i hi hne⟩

theorem Blk.keep {K : Nat → Prop} {w w' : World} {g : Nat} {t : TypeId} {cs : Array Value} (h : Blk w g t cs) (hk : KeepB K w w') (hg : ¬ K g) : Blk w' g t cs := (hk.block g h.lt hg).trans h
theorem Blk.ne {w : World} {g g' : Nat} {t t' : TypeId} {cs cs' : Array Value} (h : Blk w g t cs) (h' : Blk w g' t' cs') (ht : t ≠ t') : g ≠ g' := fun e => by
  subst e
  have := h.symm.trans h'
  simp at this
  exact ht this.2
theorem own_keep {K : Nat → Prop} {w w' : World} {base : Nat} {e : TypeId} {size : Nat} {v : Value} {n : Nat} {xs : List Value} (h : w.ownsRow base e size v n xs) (hk : KeepB K w w') (hv : ∀ g, v.ownBlock = some g → ¬ K g) : w'.ownsRow base e size v n xs := by
  refine ⟨h.1, ?_⟩
  rcases h.2 with hn | ⟨g, cap, cur, rfl, hb, hgg, rest⟩
  · exact .inl hn
  · refine .inr ⟨g, cap, cur, rfl, hb, ?_, rest⟩
    rw [hk.block g (Array.getElem?_eq_some_iff.1 hgg).1 (hv g rfl)]
    exact hgg
theorem own_base {w : World} {base base' : Nat} {e : TypeId} {size : Nat} {v : Value} {n : Nat} {xs : List Value} (h : w.ownsRow base e size v n xs) (hb : base' ≤ base) : w.ownsRow base' e size v n xs := by
  refine ⟨h.1, ?_⟩
  rcases h.2 with hn | ⟨g, cap, cur, rfl, hg, rest⟩
  · exact .inl hn
  · exact .inr ⟨g, cap, cur, rfl, Nat.le_trans hb hg, rest⟩
theorem own_ne {w : World} {base : Nat} {e : TypeId} {size : Nat} {v : Value} {n : Nat} {xs : List Value} {g : Nat} {t : TypeId} {cs : Array Value} (h : w.ownsRow base e size v n xs) (hb : Blk w g t cs) (ht : e ≠ t) : ∀ k, v.ownBlock = some k → k ≠ g := by
  intro k hk
  rcases h.2 with ⟨rfl, _⟩ | ⟨g', cap, cur, rfl, _, hgg, _⟩
  · cases hk
  · cases hk
    exact Blk.ne (show Blk w g' e cur from hgg) hb ht
theorem own_ne_own {w : World} {base base' : Nat} {e e' : TypeId} {size size' : Nat} {v v' : Value} {n n' : Nat} {xs xs' : List Value} (h : w.ownsRow base e size v n xs) (h' : w.ownsRow base' e' size' v' n' xs') (ht : e ≠ e') : ∀ k k', v.ownBlock = some k → v'.ownBlock = some k' → k ≠ k' := by
  intro k k' hk hk'
  rcases h'.2 with ⟨rfl, _⟩ | ⟨g', cap, cur, rfl, _, hgg, _⟩
  · cases hk'
  · cases hk'
    exact own_ne h (show Blk w g' e' cur from hgg) ht k hk

end AG

/- Words for memory: lists of numbers, of truth values, tables of numbers, automata. -/
namespace Go.Proofs.Ytdkjnemakkppfaa
open Go.RowKit Go.BigFrame AG

/-- A list of numbers (of truth values, of rows of numbers) lies in memory below a block. -/
def IntsAt (w : World) (B : Nat) (A : Option Addr) (xs : List Int) : Prop := 0 < xs.length → ∃ b o, A = some ⟨b, o, none⟩ ∧ b < B ∧ ∀ i (h : i < xs.length), w.cell? ⟨b, o + i, none⟩ = some (.int .i64 xs[i])
def BoolsAt (w : World) (B : Nat) (A : Option Addr) (xs : List Bool) : Prop := 0 < xs.length → ∃ b o, A = some ⟨b, o, none⟩ ∧ b < B ∧ ∀ i (h : i < xs.length), w.cell? ⟨b, o + i, none⟩ = some (.bool xs[i])
def RowsAt (w : World) (B : Nat) (A : Option Addr) (rs : List (List Int)) : Prop := 0 < rs.length → ∃ b o, A = some ⟨b, o, none⟩ ∧ b < B ∧ ∀ i (h : i < rs.length),
  ∃ Ai ci, w.cell? ⟨b, o + i, none⟩ = some (.slice Ai rs[i].length ci) ∧ rs[i].length ≤ ci ∧ ci ≤ 9223372036854775807 ∧ IntsAt w B Ai rs[i]

theorem IntsAt.later {w w' : World} {A : Option Addr} {xs : List Int} (h : IntsAt w w.heap.size A xs) (hb : Below w.heap.size w w') : IntsAt w' w'.heap.size A xs := fun hl => by
  obtain ⟨b, o, h1, h2, h3⟩ := h hl
  exact ⟨b, o, h1, Nat.lt_of_lt_of_le h2 hb.size, fun i hi => by rw [hb.cell (by simpa using h2)]; exact h3 i hi⟩
theorem BoolsAt.later {w w' : World} {A : Option Addr} {xs : List Bool} (h : BoolsAt w w.heap.size A xs) (hb : Below w.heap.size w w') : BoolsAt w' w'.heap.size A xs := fun hl => by
  obtain ⟨b, o, h1, h2, h3⟩ := h hl
  exact ⟨b, o, h1, Nat.lt_of_lt_of_le h2 hb.size, fun i hi => by rw [hb.cell (by simpa using h2)]; exact h3 i hi⟩
theorem RowsAt.later {w w' : World} {A : Option Addr} {rs : List (List Int)} (h : RowsAt w w.heap.size A rs) (hb : Below w.heap.size w w') : RowsAt w' w'.heap.size A rs := fun hl => by
  obtain ⟨b, o, h1, h2, h3⟩ := h hl
  refine ⟨b, o, h1, Nat.lt_of_lt_of_le h2 hb.size, fun i hi => ?_⟩
  obtain ⟨Ai, ci, h4, h5, h6, h7⟩ := h3 i hi
  exact ⟨Ai, ci, by rw [hb.cell (by simpa using h2)]; exact h4, h5, h6, h7.later hb⟩

def _root_.AG.Au.val (a : Au) (A : Option Addr) (c : Nat) (B : Option Addr) (d : Nat) : Value := .agg #[.int .i64 a.al, .slice A a.nx.length c, .slice B a.ac.length d]
structure AuAt (w : World) (A : Option Addr) (c : Nat) (B : Option Addr) (d : Nat) (a : Au) : Prop where
  cl : a.nx.length ≤ c
  cm : c ≤ 9223372036854775807
  dl : a.ac.length ≤ d
  dm : d ≤ 9223372036854775807
  rows : RowsAt w w.heap.size A a.nx
  acc : BoolsAt w w.heap.size B a.ac
theorem AuAt.later {w w' : World} {A B : Option Addr} {c d : Nat} {a : Au} (h : AuAt w A c B d a) (hb : Below w.heap.size w w') : AuAt w' A c B d a := ⟨h.cl, h.cm, h.dl, h.dm, h.rows.later hb, h.acc.later hb⟩

/-- A row that is owned. -/
structure RowV where
  r : List Int
  A : Option Addr
  c : Nat
def RowV.v (x : RowV) : Value := .slice x.A x.r.length x.c
def intVals (xs : List Int) : List Value := xs.map fun n => Value.int .i64 n
def boolVals (xs : List Bool) : List Value := xs.map fun n => Value.bool n
def rowVals (xs : List RowV) : List Value := xs.map RowV.v

/-- A table of rows that is owned: every row lies in a block of its own. -/
structure RowsOwn (w : World) (base : Nat) (v : Value) (xs : List RowV) : Prop where
  own : w.ownsRow base 40 1 v xs.length (rowVals xs)
  rows : ∀ x ∈ xs, w.ownsRow base 3 1 x.v x.r.length (intVals x.r)
  apart : xs.Pairwise fun x y => ∀ k, x.v.ownBlock = some k → y.v.ownBlock ≠ some k
/-- An automaton that is owned. -/
structure AuOwn (w : World) (base : Nat) (v1 v2 : Value) (a : Au) (xs : List RowV) : Prop where
  rows : RowsOwn w base v1 xs
  eq : xs.map (·.r) = a.nx
  acc : w.ownsRow base 4 1 v2 a.ac.length (boolVals a.ac)

theorem own_later_ {w w' : World} {base : Nat} {e : TypeId} {size : Nat} {v : Value} {n : Nat} {xs : List Value} (h : w.ownsRow base e size v n xs) (hb : Below w.heap.size w w') : w'.ownsRow base e size v n xs :=
  own_keep h (.of_below (K := fun _ => False) hb) fun _ _ h => h
theorem RowsOwn.keep {K : Nat → Prop} {w w' : World} {base : Nat} {v : Value} {xs : List RowV} (h : RowsOwn w base v xs) (hk : KeepB K w w') (h1 : ∀ g, v.ownBlock = some g → ¬ K g) (h2 : ∀ x ∈ xs, ∀ g, x.v.ownBlock = some g → ¬ K g) : RowsOwn w' base v xs :=
  ⟨own_keep h.own hk h1, fun x hx => own_keep (h.rows x hx) hk (h2 x hx), h.apart⟩
theorem RowsOwn.later {w w' : World} {base : Nat} {v : Value} {xs : List RowV} (h : RowsOwn w base v xs) (hb : Below w.heap.size w w') : RowsOwn w' base v xs :=
  h.keep (.of_below (K := fun _ => False) hb) (fun _ _ h => h) fun _ _ _ _ h => h
theorem RowsOwn.base {w : World} {base base' : Nat} {v : Value} {xs : List RowV} (h : RowsOwn w base v xs) (hb : base' ≤ base) : RowsOwn w base' v xs :=
  ⟨own_base h.own hb, fun x hx => own_base (h.rows x hx) hb, h.apart⟩
theorem AuOwn.later {w w' : World} {base : Nat} {v1 v2 : Value} {a : Au} {xs : List RowV} (h : AuOwn w base v1 v2 a xs) (hb : Below w.heap.size w w') : AuOwn w' base v1 v2 a xs := ⟨h.rows.later hb, h.eq, own_later_ h.acc hb⟩
theorem AuOwn.base {w : World} {base base' : Nat} {v1 v2 : Value} {a : Au} {xs : List RowV} (h : AuOwn w base v1 v2 a xs) (hb : base' ≤ base) : AuOwn w base' v1 v2 a xs := ⟨h.rows.base hb, h.eq, own_base h.acc hb⟩

theorem own_ints_at {w : World} {base : Nat} {A : Option Addr} {n c : Nat} {xs : List Int} (h : w.ownsRow base 3 1 (.slice A n c) xs.length (intVals xs)) : n = xs.length ∧ xs.length ≤ c ∧ c ≤ 9223372036854775807 ∧ IntsAt w w.heap.size A xs := by
  obtain ⟨A', c', he, h1, h2⟩ := own_slice h
  injection he with e1 e2 e3
  subst e1 e2 e3
  refine ⟨rfl, h1, h2, fun hl => ?_⟩
  obtain ⟨g, cap, hv, _, h3, _, _, h4⟩ := own_shape h hl
  injection hv with e1 _ _
  exact ⟨g, 0, e1, h3, fun i hi => by rw [Nat.zero_add]; exact h4 _ _ (by unfold intVals; simp [hi])⟩
theorem own_bools_at {w : World} {base : Nat} {A : Option Addr} {n c : Nat} {xs : List Bool} (h : w.ownsRow base 4 1 (.slice A n c) xs.length (boolVals xs)) : n = xs.length ∧ xs.length ≤ c ∧ c ≤ 9223372036854775807 ∧ BoolsAt w w.heap.size A xs := by
  obtain ⟨A', c', he, h1, h2⟩ := own_slice h
  injection he with e1 e2 e3
  subst e1 e2 e3
  refine ⟨rfl, h1, h2, fun hl => ?_⟩
  obtain ⟨g, cap, hv, _, h3, _, _, h4⟩ := own_shape h hl
  injection hv with e1 _ _
  exact ⟨g, 0, e1, h3, fun i hi => by rw [Nat.zero_add]; exact h4 _ _ (by unfold boolVals; simp [hi])⟩
theorem RowsOwn.at_ {w : World} {base : Nat} {v : Value} {xs : List RowV} (h : RowsOwn w base v xs) : ∃ A c, v = .slice A (xs.map (·.r)).length c ∧ (xs.map (·.r)).length ≤ c ∧ c ≤ 9223372036854775807 ∧ RowsAt w w.heap.size A (xs.map (·.r)) := by
  rw [List.length_map]
  obtain ⟨A, c, rfl, h1, h2⟩ := own_slice h.own
  refine ⟨A, c, rfl, h1, h2, fun hl => ?_⟩
  rw [List.length_map] at hl
  obtain ⟨g, cap, hv, _, h3, _, _, h4⟩ := own_shape h.own hl
  injection hv with e1 _ _
  refine ⟨g, 0, e1, h3, fun i hi => ?_⟩
  rw [List.length_map] at hi
  obtain ⟨_, a1, a2, a3⟩ := own_ints_at (h.rows xs[i] (List.getElem_mem hi))
  rw [List.getElem_map]
  exact ⟨xs[i].A, xs[i].c, by rw [Nat.zero_add]; exact h4 _ _ (by unfold rowVals; simp [hi, RowV.v]), a1, a2, a3⟩
/-- An automaton that is owned can be read. -/
theorem AuOwn.at_ {w : World} {base : Nat} {v1 v2 : Value} {a : Au} {xs : List RowV} (h : AuOwn w base v1 v2 a xs) : ∃ A c B d, v1 = .slice A a.nx.length c ∧ v2 = .slice B a.ac.length d ∧ AuAt w A c B d a := by
  obtain ⟨A, c, rfl, h1, h2, h3⟩ := h.rows.at_
  rw [h.eq] at h1 h3 ⊢
  obtain ⟨B, d, rfl, h4, h5⟩ := own_slice h.acc
  exact ⟨A, c, B, d, rfl, rfl, h1, h2, h4, h5, h3, (own_bools_at h.acc).2.2.2⟩

end Go.Proofs.Ytdkjnemakkppfaa

/- Contracts of the program's small functions on letters and edges. -/
namespace Go.Proofs.Ytdkjnemakkppfaa
open Go.RowKit Go.BigFrame AG
attribute [local go_sem] Fam.below

set_option maxHeartbeats 400000 in
theorem isAlphabet_any (a : Int) (w : World) :
    Calls Try.prog 27 #[.int .i64 a] w fun e w' => e = .returned (.bool (alphaOk a)) ∧ w = w' := by
  go_enter Try.func27, Try.ntmps27
  go_wp2
  all_goals go_ret
  all_goals exact ⟨ret_bool (by unfold alphaOk; simp; omega), rfl⟩

set_option maxHeartbeats 400000 in
theorem has_any (a n : Int) (w : World) (h1 : n ≤ 63) :
    Calls Try.prog 49 #[.int .i64 a, .int .i64 n] w fun e w' => e = .returned (.bool (HasZ a n)) ∧ w = w' := by
  by_cases h0 : 0 ≤ n
  · go_enter Try.func49, Try.ntmps49
    go_wp2
    go_ret
    exact ⟨ret_bool (by unfold HasZ; rw [← and_one_has]; simp [h0]), rfl⟩
  · go_enter Try.func49, Try.ntmps49
    go_wp2
    go_ret
    exact ⟨ret_bool (by unfold HasZ; rw [decide_eq_false (show ¬ 0 ≤ n by omega)]; rfl), rfl⟩



end Go.Proofs.Ytdkjnemakkppfaa

/- The program's SystemValid returns sysOk. -/
namespace Go.Proofs.Ytdkjnemakkppfaa
open Go.RowKit Go.BigFrame AG
attribute [local go_sem] Fam.below

end Go.Proofs.Ytdkjnemakkppfaa

/- The reference's l1Text. -/
namespace Go.Proofs.Ytdkjnemakkppfaa
open Go.RowKit Go.BigFrame AG

/-- A letter's byte. -/
def letB (l : Nat) : UInt8 := UInt8.ofNat (97 + l)

set_option maxHeartbeats 1000000 in
theorem l1Text_any (l : Nat) (h : l < 6) (w : World) :
    Calls Try.prog 36 #[.int .i64 l] w fun e w' => e = .returned (.string ⟨#[letB l]⟩) ∧ Below w.heap.size w w' := by
  have hb : ((letB l).toNat : Int) = 97 + (l : Int) := by
    unfold letB
    rw [UInt8.toNat_ofNat']
    omega
  have kc : (convert 22 9 (.slice (some ⟨w.heap.size, 0, none⟩) 1 1)).run Try.prog (w.alloc (Obj.cells #[Value.int IntKind.u8 (97 + (l : Int))] 5)) = .ok (.string ⟨#[letB l]⟩) (w.alloc (Obj.cells #[Value.int IntKind.u8 (97 + (l : Int))] 5)) :=
    run_convert_bytes_back (P := Try.prog) _ 22 9 5 ⟨w.heap.size, 0, none⟩ 1 [letB l] Try.underlying22 Try.underlying5 Try.underlying9 (fun j hj => by
      obtain rfl : j = 0 := by simpa using hj
      rw [List.getElem_cons_zero, hb]
      simp [Addr.add])
  replace hb := hid hb
  go_enter Try.func36, Try.ntmps36
  go_wp2_with fail
  go_ret
  exact ⟨rfl, by (repeat (first | exact Below.refl _ _ | assumption | refine Below.drew ?_ | refine Below.alloc ?_ (by first | omega | (simp; done) | (simp; omega)) _ | refine Below.setCell ?_ (by first | omega | (simp; done) | (simp; omega)) _))⟩

end Go.Proofs.Ytdkjnemakkppfaa

/- The program's sameAlphabets, lettersOf, letterByte, members. -/
namespace Go.Proofs.Ytdkjnemakkppfaa
open Go.RowKit Go.BigFrame AG


set_option maxRecDepth 100000 in
set_option maxHeartbeats 400000 in
theorem letterByte_any (l : Nat) (h : l < 6) (w : World) :
    Calls Try.prog 60 #[.int .i64 l] w fun e w' => e = .returned (.int .u8 (97 + l : Nat)) ∧ w = w' := by
  go_enter Try.func60, Try.ntmps60
  go_wp2
  go_ret
  exact ⟨rfl, rfl⟩

set_option maxRecDepth 100000 in
set_option maxHeartbeats 1000000 in
theorem lettersOf_any (A : Int) (w : World) :
    Calls Try.prog 28 #[.int .i64 A] w fun e w' => ∃ v, e = .returned v ∧ OwnNats w' w.heap.size v (letters A) ∧ Below w.heap.size w w' := by
  obtain ⟨i0, hi, hz0, hz1, hz2⟩ := info_parts infoInt
  go_enter Try.func28, Try.ntmps28
  go_wp2_with fail
  go_loopw [3, 5] (fun v i wr => ∃ k : Nat, k ≤ 6 ∧ i = .int .i64 k ∧ OwnNats wr w.heap.size v (lettersTo A k) ∧ Below w.heap.size w wr) (fun _ i _ => 6 - (intOf i).toNat)
  case atStart =>
    refine ⟨0, by omega, rfl, ?_, by (repeat (first | exact Below.refl _ _ | assumption | refine Below.drew ?_ | refine Below.alloc ?_ (by first | omega | (simp; done) | (simp; omega)) _ | refine Below.setCell ?_ (by first | omega | (simp; done) | (simp; omega)) _))⟩
    exact World.ownsRow_nil _ _ _ _
  case round =>
    obtain ⟨k, hk, rfl, hown, hb⟩ := hrel
    have hz := hb.size
    have hlen := lettersTo_len A k
    by_cases hlt : k < 6
    · have hHZ : Hid (HasZ A (k : Int) = Has A k) := hid (by unfold HasZ; simp)
      cases hH : Has A k
      · replace hH := hid hH
        go_wp2_with (go_at_call 49; refine (has_any A k _ (by omega)).mono ?_; rintro e w' ⟨rfl, rfl⟩; rw [hHZ.out, hH.out])
        go_roundw
        case rel => exact ⟨k + 1, by omega, by go_num, by rw [lettersTo_succ, hH.out]; exact hown, hb⟩
        case measure => simp [intOf]; omega
      · replace hH := hid hH
        unfold OwnNats at hown
        go_wp2_with (first
          | (go_at_call 49; refine (has_any A k _ (by omega)).mono ?_; rintro e w' ⟨rfl, rfl⟩; rw [hHZ.out, hH.out])
          | (at_builtin; refine wpList_append_own _ rfl _ _ 40 rfl w.heap.size 3 i0 (.int .i64 0) 1 8 Try.underlying40 hi hz0 hz1 hz2 rfl (by decide) _ _ _ rfl (hown.alloc _) ⟨wr.heap.size, 0, none⟩ 1 1 [.int .i64 (k : Int)] rfl rfl (cell_one_new _ _ _) (by intro u hu; simp at hu; subst hu; rfl) (by unfold maxLen; omega) (by omega) (by simp; omega) ?_; intro v' w1 hown' hgrow _))
        have R := letters_next hz hH.out hown hb hown' hgrow
        clear hown' hgrow hown hb hlen
        go_roundw
        case rel => exact ⟨k + 1, by omega, by go_num, R.1, R.2⟩
        case measure => simp [intOf]; omega
    · obtain rfl : k = 6 := by omega
      go_wp2
      go_ret
      exact ⟨_, rfl, hown, hb⟩

end Go.Proofs.Ytdkjnemakkppfaa

/- Lists of pairs of sets in memory; the reference's l5Find. -/
namespace Go.Proofs.Ytdkjnemakkppfaa
open Go.RowKit Go.BigFrame AG

/-- The slice of pairs reads as ps, below block B. -/
def PairsAt (w : World) (B : Nat) (A : Option Addr) (ps : List (Nat × Nat)) : Prop :=
  0 < ps.length → ∃ b o, A = some ⟨b, o, none⟩ ∧ b < B ∧ ∀ i (h : i < ps.length), w.cell? ⟨b, o + i * 2, none⟩ = some (.int .i64 ps[i].1) ∧ w.cell? ⟨b, o + i * 2 + 1, none⟩ = some (.int .i64 ps[i].2)

end Go.Proofs.Ytdkjnemakkppfaa

/- The rows that the reference's search owns: pairs and words. -/
namespace Go.Proofs.Ytdkjnemakkppfaa
open Go.RowKit Go.BigFrame AG

/-- The word r (its last letter first) as a string. -/
def wordS (r : List Nat) : ByteArray := ⟨(r.reverse.map letB).toArray⟩
theorem wordS_cons (l : Nat) (r : List Nat) : wordS r ++ ⟨#[letB l]⟩ = wordS (l :: r) := by
  unfold wordS
  rw [List.reverse_cons, List.map_append]
  apply ByteArray.ext
  simp

theorem wordS_size (r : List Nat) : (wordS r).size = r.length := by unfold wordS; simp [ByteArray.size]

end Go.Proofs.Ytdkjnemakkppfaa

/- The library's slices.Reverse at bytes; the program's pathWord. -/
namespace Go.Proofs.Ytdkjnemakkppfaa
open Go.RowKit Go.BigFrame AG

/-- xs with its first k and its last k elements exchanged. -/
def revTo (xs : List Nat) (k p : Nat) : Option Value := (if p < k ∨ xs.length ≤ p + k then xs[xs.length - 1 - p]? else xs[p]?).map fun b => Value.int .u8 (b : Nat)
theorem revTo_at {xs : List Nat} {k p : Nat} (h : ¬ (p < k ∨ xs.length ≤ p + k)) (hp : p < xs.length) : revTo xs k p = some (.int .u8 (xs[p] : Nat)) := by unfold revTo; rw [if_neg h]; simp [hp]
theorem revTo_swap {xs : List Nat} {k p : Nat} (h : p < k ∨ xs.length ≤ p + k) (q : Nat) (hq : q < xs.length) (e : xs.length - 1 - p = q) : revTo xs k p = some (.int .u8 (xs[q] : Nat)) := by unfold revTo; rw [if_pos h, e]; simp [hq]

theorem grown_two {w : World} {g : Nat} (i j : Nat) (u v : Value) : w.grownBy ((w.setCell ⟨g, i, none⟩ u).setCell ⟨g, j, none⟩ v).drew (some g) :=
  ⟨rfl, rfl, rfl, by simp, fun k _ hne => by
    have hk : k ≠ g := fun e => hne (by rw [e])
    show ((w.setCell ⟨g, i, none⟩ u).setCell ⟨g, j, none⟩ v).heap[k]? = _
    rw [Below.heap_setCell _ _ _ _ hk, Below.heap_setCell _ _ _ _ hk]⟩

set_option maxRecDepth 100000 in
set_option maxHeartbeats 2000000 in
theorem reverseBytes_any (g n c : Nat) (xs : List Nat) (cs : Array Value) (w : World) (hx : xs.length = n) (hn : n ≤ c) (hc : c ≤ 9223372036854775807) (hb : Blk w g 5 cs) (hs : n ≤ cs.size) (hcs : ∀ i (h : i < xs.length), cs[i]? = some (.int .u8 (xs[i] : Nat))) :
    Calls Try.prog 61 #[.slice (some ⟨g, 0, none⟩) n c] w fun e w' => e = .returned (.tuple #[]) ∧ w.grownBy w' (some g) ∧ ∃ cs', Blk w' g 5 cs' ∧ cs'.size = cs.size ∧ ∀ i (h : i < xs.length), cs'[i]? = some (.int .u8 (xs.reverse[i]'(by simpa using h) : Nat)) := by
  subst hx
  have hstart : Hid (∀ p, p < xs.length → cs[p]? = revTo xs 0 p) := hid fun p hp => by
    rw [revTo_at (by omega) hp, hcs p hp]
  replace hb := hid hb
  replace hcs := hid hcs
  go_enter Try.func61, Try.ntmps61
  go_wp2_with fail
  go_loopw [2, 3] (fun iv jv wr => ∃ (k : Nat) (cs' : Array Value), iv = .int .i64 k ∧ jv = .int .i64 ((xs.length : Int) - 1 - k) ∧ 2 * k ≤ xs.length + 1 ∧ Blk wr g 5 cs' ∧ cs'.size = cs.size ∧ (∀ p, p < xs.length → cs'[p]? = revTo xs k p) ∧ w.grownBy wr (some g)) (fun iv _ _ => xs.length - (intOf iv).toNat)
  case atStart => exact ⟨0, cs, rfl, by simp, by omega, hb.out, rfl, hstart.out, ⟨rfl, rfl, rfl, Nat.le_refl _, fun _ _ _ => rfl⟩⟩
  case round =>
    obtain ⟨k, cs', rfl, rfl, hk, hblk, hsz, hrev, hgr⟩ := hrel
    by_cases hlt : 2 * k + 1 < xs.length
    · obtain ⟨j, hj⟩ : ∃ j, j + k + 1 = xs.length := ⟨xs.length - 1 - k, by omega⟩
      have e1 : ((xs.length : Int) - 1 - k) = (j : Int) := by omega
      rw [e1]
      have hkj : k < j := by omega
      have hk1 : k < xs.length := by omega
      have hj1 : j < xs.length := by omega
      have ck := hblk.cell k
      have cj := hblk.cell j
      rw [hrev k hk1, revTo_at (by omega) hk1] at ck
      rw [hrev j hj1, revTo_at (by omega) hj1] at cj
      have zk := hblk.frozen k
      have zj := hblk.frozen j
      have hnx : Hid (∀ p, p < xs.length → ((cs'.setIfInBounds k (.int .u8 (xs[j] : Nat))).setIfInBounds j (.int .u8 (xs[k] : Nat)))[p]? = revTo xs (k + 1) p) := hid fun p hp => by
        have hrp := hrev p hp
        by_cases h1 : p = j
        · subst h1
          rw [Array.getElem?_setIfInBounds_self_of_lt (by simp; omega), revTo_swap (by omega) k hk1 (by omega)]
        · rw [Array.getElem?_setIfInBounds_ne (Ne.symm h1)]
          by_cases h2 : p = k
          · subst h2
            rw [Array.getElem?_setIfInBounds_self_of_lt (by omega), revTo_swap (by omega) j hj1 (by omega)]
          · rw [Array.getElem?_setIfInBounds_ne (Ne.symm h2), hrp]
            by_cases h3 : p < k ∨ xs.length ≤ p + k
            · rw [revTo_swap h3 (xs.length - 1 - p) (by omega) rfl, revTo_swap (by omega) (xs.length - 1 - p) (by omega) rfl]
            · rw [revTo_at h3 hp, revTo_at (by omega) hp]
      obtain ⟨a, ha⟩ : ∃ a, a = xs[k] := ⟨_, rfl⟩
      obtain ⟨b, hb'⟩ : ∃ b, b = xs[j] := ⟨_, rfl⟩
      rw [← ha] at ck
      rw [← hb'] at cj
      replace ha := hid ha
      replace hb' := hid hb'
      replace hrev := hid hrev
      replace hblk := hid hblk
      replace hsz := hid hsz
      have i1 : (0 : Int) ≤ (k : Int) := by omega
      have i2 : (k : Int) < (xs.length : Int) := by omega
      have i3 : (0 : Int) ≤ (j : Int) := by omega
      have i4 : (j : Int) < (xs.length : Int) := by omega
      have i5 : (k : Int) < (j : Int) := by omega
      clear e1
      go_wp2_with fail
      go_region
      go_wp2
      go_roundw
      case rel =>
        refine ⟨k + 1, _, by go_num, ?_, by omega, (hblk.out.set_ _ _).set_ _ _, by simp; exact hsz.out, by rw [ha.out, hb'.out]; exact hnx.out, hgr.trans (grown_two _ _ _ _)⟩
        rw [show ((xs.length : Int) - 1 - ((k + 1 : Nat) : Int)) = (j : Int) - 1 from by omega]
      case measure => simp [intOf]; omega
    · have hfin : Hid (∀ i (h : i < xs.length), cs'[i]? = some (.int .u8 (xs.reverse[i]'(by simpa using h) : Nat))) := hid fun i hi => by
        rw [hrev i hi, List.getElem_reverse]
        by_cases h3 : i < k ∨ xs.length ≤ i + k
        · rw [revTo_swap h3 (xs.length - 1 - i) (by omega) rfl]
        · rw [revTo_at h3 hi]
          simp only [show xs.length - 1 - i = i from by omega]
      replace hrev := hid hrev
      replace hblk := hid hblk
      replace hsz := hid hsz
      have hge : ¬ ((k : Int) < (xs.length : Int) - 1 - k) := by omega
      go_wp2
      go_end0
      exact ⟨rfl, hgr, cs', hblk.out, hsz.out, fun i hi => by have := hfin.out i hi; simpa using this⟩

/-- A step of the search as it lies in memory: where its list of nodes lies. -/
structure StV where
  st : Stp
  A : Option Addr
  c : Nat
def stCells : List StV → List Value
  | [] => []
  | x :: xs => .int .i64 x.st.par :: .int .i64 (x.st.let_ : Nat) :: .slice x.A x.st.nodes.length x.c :: stCells xs
theorem stCells_append : ∀ xs ys : List StV, stCells (xs ++ ys) = stCells xs ++ stCells ys
  | [], _ => rfl
  | x :: xs, ys => by rw [List.cons_append, stCells, stCells_append xs ys]; rfl
theorem stCells_at : ∀ (xs : List StV) (i : Nat) (h : i < xs.length), (stCells xs)[i * 3]? = some (.int .i64 xs[i].st.par) ∧ (stCells xs)[i * 3 + 1]? = some (.int .i64 (xs[i].st.let_ : Nat)) ∧ (stCells xs)[i * 3 + 2]? = some (.slice xs[i].A xs[i].st.nodes.length xs[i].c)
  | x :: xs, 0, _ => ⟨rfl, rfl, rfl⟩
  | x :: xs, i + 1, h => by
    have := stCells_at xs i (by simpa using h)
    rw [show (i + 1) * 3 = i * 3 + 1 + 1 + 1 from by omega]
    exact this

theorem own_blk {w : World} {B : Nat} {e : TypeId} {v : Value} {n : Nat} {xs : List Value} (h : w.ownsRow B e 1 v n xs) (hn : 0 < n) :
    ∃ g cap cur, v = .slice (some ⟨g, 0, none⟩) n cap ∧ B ≤ g ∧ n ≤ cap ∧ cap ≤ 9223372036854775807 ∧ Blk w g e cur ∧ n ≤ cur.size ∧ ∀ j (hj : j < xs.length), cur[j]? = some xs[j] := by
  have hl := h.1
  obtain ⟨g, cap, hv, hg, hlt, h1, h2, h3⟩ := own_shape h hn
  obtain ⟨_, ⟨rfl, h0⟩ | ⟨g', cap', cur, hv', hg', hw, h1', h2', h3', h4'⟩⟩ := h
  · omega
  · rw [hv'] at hv
    cases hv
    have hb : Blk w g e cur := hw
    refine ⟨g, cap, cur, hv', hg, h1, h2, hb, ?_, fun j hj => ?_⟩
    · rw [h3']; omega
    · have := h3 j xs[j] (by simp)
      rwa [hb.cell] at this

/-- Every step but the first hangs on an earlier one, by a letter. -/
structure PathOk (ss : List StV) (ws : List (List Nat)) : Prop where
  len : ws.length = ss.length
  zero : ∀ (h : 0 < ws.length), ws[0] = []
  root : ∀ (h : 0 < ss.length), ss[0].st.par = -1
  link : ∀ j (h : j < ss.length) (h' : j < ws.length), 0 < j → ∃ p, p < j ∧ ss[j].st.par = (p : Int) ∧ ss[j].st.let_ < 6 ∧ ∃ (hp : p < ws.length), ws[j] = ss[j].st.let_ :: ws[p]
theorem PathOk.wlen {ss : List StV} {ws : List (List Nat)} (h : PathOk ss ws) : ∀ j (hj : j < ws.length), ws[j].length ≤ j := by
  intro j
  induction j using Nat.strongRecOn with
  | _ j ih =>
    intro hj
    by_cases e : j = 0
    · subst e
      rw [h.zero hj]
      exact Nat.le_refl _
    · obtain ⟨p, hpj, _, _, hp, hw⟩ := h.link j (by rw [← h.len]; exact hj) hj (by omega)
      have := ih p hpj hp
      rw [hw, List.length_cons]
      omega
theorem PathOk.lt6 {ss : List StV} {ws : List (List Nat)} (h : PathOk ss ws) : ∀ j (hj : j < ws.length), ∀ l ∈ ws[j], l < 6 := by
  intro j
  induction j using Nat.strongRecOn with
  | _ j ih =>
    intro hj l hl
    by_cases e : j = 0
    · subst e
      rw [h.zero hj] at hl
      cases hl
    · obtain ⟨p, hpj, _, h6, hp, hw⟩ := h.link j (by rw [← h.len]; exact hj) hj (by omega)
      rw [hw] at hl
      rcases List.mem_cons.1 hl with rfl | hl
      · exact h6
      · exact ih p hpj hp l hl

def bytesOf (r : List Nat) : List Value := r.map fun l => Value.int .u8 (97 + l : Nat)
theorem infoByte : (Try.prog.info? 5).map (fun i => (i.zero, i.size, i.bytes)) = some (some (.int .u8 0), 1, 1) := by kernel_rfl

theorem own_steps {w : World} {B : Nat} {v : Value} {ss : List StV} (h : w.ownsRow B 77 3 v ss.length (stCells ss)) (hn : 0 < ss.length) :
    ∃ g cap, v = .slice (some ⟨g, 0, none⟩) ss.length cap ∧ B ≤ g ∧ g < w.heap.size ∧ ss.length ≤ cap ∧ cap ≤ 9223372036854775807 ∧
      ∀ i (hi : i < ss.length), w.cell? ⟨g, i * 3, none⟩ = some (.int .i64 ss[i].st.par) ∧ w.cell? ⟨g, i * 3 + 1, none⟩ = some (.int .i64 (ss[i].st.let_ : Nat)) ∧ w.cell? ⟨g, i * 3 + 2, none⟩ = some (.slice ss[i].A ss[i].st.nodes.length ss[i].c) := by
  obtain ⟨g, cap, hv, h1, h2, h3, h4, h5⟩ := own_shape h hn
  exact ⟨g, cap, hv, h1, h2, h3, h4, fun i hi => ⟨h5 _ _ (stCells_at ss i hi).1, h5 _ _ (stCells_at ss i hi).2.1, h5 _ _ (stCells_at ss i hi).2.2⟩⟩

set_option maxRecDepth 100000 in
set_option maxHeartbeats 2000000 in
theorem pathWord_core (ss : List StV) (ws : List (List Nat)) (g c n : Nat) (w : World) (hn : ss.length = n + 2) (hs : ss.length ≤ 4294967296) (hw : PathOk ss ws) (hw' : n + 1 < ws.length)
    (hl : ss.length ≤ c) (hc : c ≤ 9223372036854775807) (hg : g < w.heap.size) (hr : ∀ i (hi : i < ss.length), w.cell? ⟨g, i * 3, none⟩ = some (.int .i64 ss[i].st.par) ∧ w.cell? ⟨g, i * 3 + 1, none⟩ = some (.int .i64 (ss[i].st.let_ : Nat))) :
    Calls Try.prog 51 #[.slice (some ⟨g, 0, none⟩) ss.length c] w fun e w' => e = .returned (.string (wordS ws[n + 1])) ∧ Below w.heap.size w w' := by
  obtain ⟨i0, hi, hz0, hz1, hz2⟩ := info_parts infoByte
  have hlen := hw.len
  have hwl := hw.wlen (n + 1) hw'
  have hlast : Hid (((n + 1 : Nat) : Int) = (ss.length : Int) - 1) := hid (by omega)
  replace hw := hid hw
  replace hr := hid hr
  replace hn := hid hn
  go_enter Try.func51, Try.ntmps51
  go_wp2_with fail
  go_loopw [3, 4] (fun v iv wr => ∃ (j : Nat) (done : List Nat), iv = .int .i64 j ∧ j < ss.length ∧ (∀ h : j < ws.length, done ++ ws[j] = ws[n + 1]) ∧ wr.ownsRow w.heap.size 5 1 v done.length (bytesOf done) ∧ Below w.heap.size w wr) (fun _ iv _ => (intOf iv).toNat)
  case atStart => exact ⟨n + 1, [], by rw [hlast.out], by have := hn.out; omega, fun _ => rfl, World.ownsRow_nil _ _ _ _, by (repeat (first | exact Below.refl _ _ | assumption | refine Below.drew ?_ | refine Below.alloc ?_ (by first | omega | (simp; done) | (simp; omega)) _ | refine Below.setCell ?_ (by first | omega | (simp; done) | (simp; omega)) _))⟩
  case round =>
    obtain ⟨j, done, rfl, hj, hdone, hown, hb⟩ := hrel
    have hd := hdone (by omega)
    have hdl : done.length ≤ n + 1 := by
      have := congrArg List.length hd
      rw [List.length_append] at this
      omega
    have hjw : j < ws.length := by omega
    obtain ⟨e0, e1⟩ := hr.out j hj
    rw [← hb.cell (by simpa using hg)] at e0 e1
    have i1 : (0 : Int) ≤ (j : Int) := by omega
    have i2 : (j : Int) < (ss.length : Int) := by omega
    by_cases h0 : j = 0
    · have hz : ws[j]'hjw = [] := by subst h0; exact hw.out.zero (by omega)
      rw [hz, List.append_nil] at hd
      subst hd
      have hroot : ss[j].st.par = -1 := by subst h0; exact hw.out.root (by omega)
      rw [hroot] at e0
      replace h0 := hid h0
      have hpos : 0 < ws[n + 1].length := by
        obtain ⟨p, -, -, -, hp, hq⟩ := hw.out.link (n + 1) (by omega) hw' (by omega)
        rw [hq]
        simp
      have h6 := hw.out.lt6 (n + 1) hw'
      obtain ⟨gb, cap, cur, rfl, hgb, hcap, hcap', hblk, hsz, hcur⟩ := own_blk hown hpos
      generalize hR : ws[n + 1] = r at *
      replace hR := hid hR
      have hblk' := hid hblk
      have hcs : Hid (∀ i (h : i < (r.map (97 + ·)).length), cur[i]? = some (.int .u8 ((r.map (97 + ·))[i] : Nat))) := hid fun i h => by
        have hi : i < r.length := by simpa using h
        rw [hcur i (by unfold bytesOf; simpa using hi)]
        unfold bytesOf
        simp
      replace hdone := hid hdone
      replace hcur := hid hcur
      replace hblk := hid hblk
      replace hown := hid hown
      replace hwl := hid hwl
      replace h6 := hid h6
      go_wp2_with fail
      refine (reverseBytes_any gb r.length cap (r.map (97 + ·)) cur wr (by simp) hcap hcap' hblk'.out hsz hcs.out).mono ?_
      rintro e w2 ⟨rfl, hg2, cs2, hblk2, hsz2, hcs2⟩
      have hB2 : Hid (Below w.heap.size w w2) := hid (hb.grown hg2 hb.size (fun k hk => by cases hk; exact hgb))
      have kc : (convert 22 9 (.slice (some ⟨gb, 0, none⟩) r.length cap)).run Try.prog w2 = .ok (.string (wordS r)) w2 := by
        have := run_convert_bytes_back (P := Try.prog) w2 22 9 5 ⟨gb, 0, none⟩ cap (r.reverse.map letB) Try.underlying22 Try.underlying5 Try.underlying9 (fun j hj => by
          have hj' : j < r.length := by simpa using hj
          have e1 := hcs2 j (by simpa using hj')
          have hadd : (⟨gb, 0, none⟩ : Addr).add j = ⟨gb, j, none⟩ := by unfold Addr.add; split <;> simp_all
          rw [hadd, hblk2.cell, e1]
          have h6' : r.reverse[j]'(by simpa using hj') < 6 := h6.out _ (List.mem_reverse.1 (List.getElem_mem _))
          simp only [List.getElem_map, List.map_reverse, List.getElem_reverse] at h6' ⊢
          unfold letB
          rw [UInt8.toNat_ofNat']
          have := h6'
          simp only [List.length_map] at *
          rw [Nat.mod_eq_of_lt (by omega)])
        simpa [wordS] using this
      replace hcs2 := hid hcs2
      replace hblk2 := hid hblk2
      replace hg2 := hid hg2
      clear e0 e1
      go_wp2
      go_ret
      exact ⟨by rw [hR.out]; rfl, hB2.out⟩
    · obtain ⟨p, hpj, hpar, h6, hp, hq⟩ := hw.out.link j hj hjw (by omega)
      rw [hpar] at e0
      rw [hq] at hd
      obtain ⟨l, hll⟩ : ∃ l, l = ss[j].st.let_ := ⟨_, rfl⟩
      rw [← hll] at e1 hd h6
      have hps : p < ss.length := by omega
      have hge : (0 : Int) ≤ (p : Int) := by omega
      have hd2 : Hid ((done ++ [l]) ++ ws[p] = ws[n + 1]) := hid (by rw [List.append_assoc]; exact hd)
      replace hd := hid hd
      replace hll := hid hll
      replace hq := hid hq
      replace hpar := hid hpar
      replace hdone := hid hdone
      replace hown := hid hown
      have hzr := hb.size
      go_wp2_with (first
        | (go_at_call 60; refine (letterByte_any l h6 _).mono ?_; rintro e w' ⟨rfl, rfl⟩)
        | (at_builtin; refine wpList_append_own _ rfl _ _ 22 rfl w.heap.size 5 i0 (.int .u8 0) 1 1 Try.underlying22 hi hz0 hz1 hz2 rfl (by decide) _ _ _ rfl (hown.out.alloc _) ⟨wr.heap.size, 0, none⟩ 1 1 [.int .u8 (97 + l : Nat)] rfl rfl (cell_one_new _ _ _) (by intro u hu; simp at hu; subst hu; rfl) (by unfold maxLen; omega) (by omega) (by simp; omega) ?_; intro v' w1 hown' hgrow _; have hB1 : Below w.heap.size w w1 := Below.grown (hb.alloc hzr _) hgrow (by simp; omega) (own_block hown.out); have e2 := e0; rw [hb.cell (by simpa using hg), ← hB1.cell (by simpa using hg)] at e2))
      go_roundw
      case rel =>
        refine ⟨p, done ++ [l], rfl, hps, fun _ => hd2.out, ?_, hB1⟩
        unfold bytesOf at hown' ⊢
        rw [List.length_append, List.map_append]
        exact hown'
      case measure => simp [intOf]; omega

theorem pathWord_any (ss : List StV) (ws : List (List Nat)) (g c n m : Nat) (w : World) (hm : ss.length = m) (hn : ss.length = n + 2) (hs : ss.length ≤ 4294967296) (hw : PathOk ss ws) (hw' : n + 1 < ws.length)
    (hl : ss.length ≤ c) (hc : c ≤ 9223372036854775807) (hg : g < w.heap.size) (hr : ∀ i (hi : i < ss.length), w.cell? ⟨g, i * 3, none⟩ = some (.int .i64 ss[i].st.par) ∧ w.cell? ⟨g, i * 3 + 1, none⟩ = some (.int .i64 (ss[i].st.let_ : Nat))) :
    Calls Try.prog 51 #[.slice (some ⟨g, 0, none⟩) m c] w fun e w' => e = .returned (.string (wordS ws[n + 1])) ∧ Below w.heap.size w w' := by
  subst hm
  exact pathWord_core ss ws g c n w hn hs hw hw' hl hc hg hr

end Go.Proofs.Ytdkjnemakkppfaa

/- The program's search: the closure that takes up a word's nodes. -/
namespace Go.Proofs.Ytdkjnemakkppfaa
open Go.RowKit Go.BigFrame AG

/-- The marks of the nodes that have been seen. -/
def SeenAt (cs : Array Value) (size : Nat) (S : Nat → Bool) : Prop := cs.size = size ∧ ∀ n, n < size → cs[n]? = some (.bool (S n))
theorem SeenAt.set_ {cs : Array Value} {size : Nat} {S S' : Nat → Bool} {n : Nat} (h : SeenAt cs size S) (hn : n < size) (hS : ∀ x, S' x = (S x || decide (x = n))) : SeenAt (cs.setIfInBounds n (.bool true)) size S' := by
  refine ⟨by simpa using h.1, fun x hx => ?_⟩
  rw [hS]
  by_cases e : x = n
  · subst e
    rw [Array.getElem?_setIfInBounds_self_of_lt (by rw [h.1]; exact hx)]
    simp
  · rw [Array.getElem?_setIfInBounds_ne (Ne.symm e), h.2 x hx]
    simp [e]

def natVals (ns : List Nat) : List Value := ns.map fun (n : Nat) => Value.int .i64 (n : Int)

/-- What the search holds in memory. -/
structure FPst (w wr : World) (size : Nat) (gv : Value) (bS bG bP gS : Nat) (sv : Value) (ss : List StV) (S : Nat → Bool) : Prop where
  below : Below w.heap.size w wr
  blkS : Blk wr bS 24 #[.slice (some ⟨gS, 0, none⟩) size size]
  blkG : Blk wr bG 49 #[gv]
  blkP : Blk wr bP 75 #[sv]
  seen : ∃ cs, Blk wr gS 4 cs ∧ SeenAt cs size S
  geS : w.heap.size ≤ gS
  geP : w.heap.size ≤ bP
  own : wr.ownsRow w.heap.size 77 3 sv ss.length (stCells ss)
  nodes : ∀ x ∈ ss, wr.ownsRow w.heap.size 3 1 (.slice x.A x.st.nodes.length x.c) x.st.nodes.length (natVals x.st.nodes)

/-- A goal of the search, as a function value. -/
structure GoalOk (w : World) (size : Nat) (G : Nat → Bool) (fG : FuncId) (capG : Array Value) : Prop where
  run : ∀ args w', (callFunc fG args).run Try.prog w' = .ok (.enter fG args) w'
  call : ∀ w' q, Below w.heap.size w w' → q < size → Calls Try.prog fG (#[.int .i64 (q : Nat)] ++ capG) w' fun e w'' => e = .returned (.bool (G q)) ∧ Below w'.heap.size w' w''

/-- What the closure leaves. -/
def VisPost (w w1 : World) (size : Nat) (gv : Value) (bS bG bP gS : Nat) (sv : Value) (ss : List StV) (S : Nat → Bool) (par : Int) (l : Nat) (fr : List Nat) (w2 : World) : Prop :=
  ∃ sv' ss', FPst w w2 size gv bS bG bP gS sv' ss' (fun n => S n || fr.contains n) ∧ ((fr = [] ∧ ss' = ss) ∨ (fr ≠ [] ∧ ∃ A c, ss' = ss ++ [⟨⟨par, l, fr⟩, A, c⟩])) ∧ KeepB (fun b => b = gS ∨ b = bP ∨ sv.ownBlock = some b) w1 w2

theorem FPst.keep {w w1 wr : World} {size : Nat} {gv : Value} {bS bG bP gS : Nat} {sv : Value} {ss : List StV} {S S' : Nat → Bool} {cs : Array Value} (h : FPst w w1 size gv bS bG bP gS sv ss S) (hk : KeepB (fun b => b = gS) w1 wr)
    (hb : Blk wr gS 4 cs) (hs : SeenAt cs size S') : FPst w wr size gv bS bG bP gS sv ss S' := by
  obtain ⟨cs0, hb0, -⟩ := h.seen
  exact ⟨hk.below h.below h.below.size (fun b hb => by rw [hb]; exact h.geS), h.blkS.keep hk (fun e => h.blkS.ne hb0 (by decide) e), h.blkG.keep hk (fun e => h.blkG.ne hb0 (by decide) e), h.blkP.keep hk (fun e => h.blkP.ne hb0 (by decide) e), ⟨cs, hb, hs⟩, h.geS, h.geP,
    own_keep h.own hk (own_ne h.own hb0 (by decide)), fun x hx => own_keep (h.nodes x hx) hk (own_ne (h.nodes x hx) hb0 (by decide))⟩

theorem cell_three_new (w : World) (x y z : Value) (t : TypeId) : ∀ j u, [x, y, z][j]? = some u → (w.alloc (.cells #[x, y, z] t)).cell? ((⟨w.heap.size, 0, none⟩ : Addr).add j) = some u := by
  intro j u hj
  match j, hj with
  | 0, hj =>
    simp at hj
    subst hj
    simp [Addr.add]
  | 1, hj =>
    simp at hj
    subst hj
    simp [Addr.add]
  | 2, hj =>
    simp at hj
    subst hj
    simp [Addr.add]
theorem infoStep : (Try.prog.info? 77).map (fun i => (i.zero, i.size, i.bytes)) = some (some (.agg #[.int .i64 0, .int .i64 0, .slice none 0 0]), 3, 40) := by kernel_rfl

theorem VisPost.mk {w w1 wr w6 : World} {size : Nat} {gv : Value} {bS bG bP gS : Nat} {sv v6 : Value} {ss : List StV} {S : Nat → Bool} {cs : Array Value} {par : Int} {l : Nat} {fr : List Nat} {A : Option Addr} {c : Nat} {o : Obj} (h : FPst w w1 size gv bS bG bP gS sv ss S) (hk : KeepB (fun b => b = gS) w1 wr)
    (hb : Blk wr gS 4 cs) (hs : SeenAt cs size (fun n => S n || fr.contains n)) (hfr : fr ≠ []) (hfv : wr.ownsRow w1.heap.size 3 1 (.slice A fr.length c) fr.length (natVals fr))
    (hO6 : w6.ownsRow w.heap.size 77 3 v6 (ss.length + 1) (stCells ss ++ [.int .i64 par, .int .i64 (l : Nat), .slice A fr.length c])) (hg6 : (wr.alloc o).grownBy w6 sv.ownBlock) :
    VisPost w w1 size gv bS bG bP gS sv ss S par l fr (w6.setCell ⟨bP, 0, none⟩ v6) := by
  have hr := h.keep hk hb hs
  have hkA : KeepB (fun b => sv.ownBlock = some b) wr w6 := ((KeepB.refl _ wr).alloc o).grown hg6 fun k hk _ => hk
  have hP6 : Blk w6 bP 75 #[sv] := hr.blkP.keep hkA fun e => own_ne hr.own hr.blkP (by decide) bP e rfl
  have hk7 : KeepB (fun b => b = bP) w6 (w6.setCell ⟨bP, 0, none⟩ v6) := (KeepB.refl _ w6).setCell _ _ fun _ => rfl
  have hkB : KeepB (fun b => b = bP ∨ sv.ownBlock = some b) wr (w6.setCell ⟨bP, 0, none⟩ v6) := (hkA.mono fun k h => .inr h).trans (hk7.mono fun k h => .inl h)
  have nB : ∀ {g t cs}, Blk wr g t cs → t ≠ 75 → t ≠ 77 → ¬ (g = bP ∨ sv.ownBlock = some g) := fun hg h1 h2 e => by
    rcases e with e | e
    · exact hg.ne hr.blkP h1 e
    · exact own_ne hr.own hg (Ne.symm h2) _ e rfl
  have nO : ∀ {base e size v n xs}, wr.ownsRow base e size v n xs → e ≠ 75 → e ≠ 77 → ∀ g, v.ownBlock = some g → ¬ (g = bP ∨ sv.ownBlock = some g) := fun ho h1 h2 g hg e => by
    rcases e with e | e
    · exact own_ne ho hr.blkP h1 g hg e
    · exact own_ne_own ho hr.own h2 g g hg e rfl
  obtain ⟨cs', hb', hs'⟩ := hr.seen
  refine ⟨v6, ss ++ [⟨⟨par, l, fr⟩, A, c⟩], ⟨?_, hr.blkS.keep hkB (nB hr.blkS (by decide) (by decide)), hr.blkG.keep hkB (nB hr.blkG (by decide) (by decide)), ?_, ⟨cs', hb'.keep hkB (nB hb' (by decide) (by decide)), hs'⟩, hr.geS, hr.geP, ?_, ?_⟩, .inr ⟨hfr, A, c, rfl⟩, ?_⟩
  · refine hkB.below hr.below hr.below.size fun b e => ?_
    rcases e with e | e
    · rw [e]; exact hr.geP
    · exact own_block hr.own b e
  · have := hP6.set_ 0 v6
    simpa using this
  · rw [List.length_append, stCells_append]
    exact own_keep hO6 hk7 (own_ne hO6 hP6 (by decide))
  · intro x hx
    rcases List.mem_append.1 hx with hx | hx
    · exact own_keep (hr.nodes x hx) hkB (nO (hr.nodes x hx) (by decide) (by decide))
    · rw [List.mem_singleton] at hx
      subst hx
      exact own_base (own_keep hfv hkB (nO hfv (by decide) (by decide))) h.below.size
  · refine (hk.mono fun k h => .inl h).trans ⟨hkB.os, hkB.tape, hkB.output, hkB.size, fun k hk' hne => hkB.block k hk' fun e => hne (.inr e)⟩

set_option maxRecDepth 100000 in
set_option maxHeartbeats 4000000 in
theorem visit_any (w : World) (size : Nat) (G : Nat → Bool) (fG : FuncId) (capG : Array Value) (hG : GoalOk w size G fG capG) (bS bG bP gS : Nat) (sv : Value) (ss : List StV) (S : Nat → Bool) (par : Int) (l : Nat) (nv : Value) (ns : List Nat) (w1 : World)
    (hst : FPst w w1 size (.func (.func fG) #[] capG) bS bG bP gS sv ss S) (hnv : w1.ownsRow 0 3 1 nv ns.length (natVals ns)) (hns : ∀ n ∈ ns, n < size) (hnl : ns.length ≤ 4294967296) (hsl : ss.length ≤ 4294967296) :
    Calls Try.prog 50 #[.int .i64 par, .int .i64 (l : Nat), nv, .pointer (some ⟨bS, 0, none⟩), .pointer (some ⟨bG, 0, none⟩), .pointer (some ⟨bP, 0, none⟩)] w1 fun e w2 => e = .returned (.bool ((frs S ns).any G)) ∧ VisPost w w1 size (.func (.func fG) #[] capG) bS bG bP gS sv ss S par l (frs S ns) w2 := by
  have hcf := hG.run
  obtain ⟨A, c, rfl, hnc, hnc'⟩ := own_slice hnv
  obtain ⟨i0, hi, hz0, hz1, hz2⟩ := info_parts infoInt
  have hneS := hst.blkS
  obtain ⟨cs0, hblk0, hseen0⟩ := hst.seen
  replace hst := hid hst
  replace hnv := hid hnv
  replace hns := hid hns
  replace hblk0 := hid hblk0
  replace hseen0 := hid hseen0
  replace hneS := hid hneS
  go_enter Try.func50, Try.ntmps50
  go_wp2_with fail
  go_loopw [10, 11, 16] (fun fv found iv wr => ∃ (k : Nat) (cs : Array Value), iv = .int .i64 k ∧ k ≤ ns.length ∧ found = .bool ((frs S (ns.take k)).any G) ∧ wr.ownsRow w1.heap.size 3 1 fv (frs S (ns.take k)).length (natVals (frs S (ns.take k))) ∧
      Blk wr gS 4 cs ∧ SeenAt cs size (fun n => S n || (frs S (ns.take k)).contains n) ∧ KeepB (fun b => b = gS) w1 wr) (fun _ _ iv _ => ns.length - (intOf iv).toNat)
  case atStart => exact ⟨0, cs0, rfl, by omega, rfl, World.ownsRow_nil _ _ _ _, hblk0.out, by simpa [frs_nil] using hseen0.out, KeepB.refl _ _⟩
  case round =>
    obtain ⟨k, cs, rfl, hk, rfl, hown, hblk, hseen, hkp⟩ := hrel
    by_cases hlt : k < ns.length
    · have hnvr := own_keep hnv.out hkp (fun g hg e => own_ne hnv.out hblk0.out (by decide) g hg e)
      obtain ⟨gn, cn, hve, -, -, -, -, hcell⟩ := own_shape hnvr (by omega)
      injection hve with hv1 hv2 hv3
      subst hv1
      subst hv3
      have n0 := hcell k _ (show (natVals ns)[k]? = some (.int .i64 (ns[k] : Nat)) from by unfold natVals; simp [hlt])
      have hns1 := hns.out ns[k] (List.getElem_mem hlt)
      have hstep := frs_take S ns hlt
      obtain ⟨n, hnn⟩ : ∃ n, n = ns[k] := ⟨_, rfl⟩
      rw [← hnn] at n0 hns1 hstep
      have hSr := hneS.out.keep hkp (fun e => hneS.out.ne hblk0.out (by decide) e)
      have s0 := hSr.cell 0
      simp only [List.getElem?_toArray, List.getElem?_cons_zero] at s0
      have m0 := hblk.cell n
      rw [hseen.2 n hns1] at m0
      dsimp only at m0
      have z0 := hblk.frozen n
      obtain ⟨fr, hfr⟩ : ∃ fr, fr = frs S (ns.take k) := ⟨_, rfl⟩
      rw [← hfr] at hown hseen m0 hstep ⊢
      have hfl : fr.length ≤ k := by
        have := frs_len S (ns.take k)
        rw [← hfr] at this
        simp at this
        omega
      have i1 : (0 : Int) ≤ (k : Int) := by omega
      have i2 : (k : Int) < (ns.length : Int) := by omega
      have i3 : (0 : Int) ≤ (n : Int) := by omega
      have i4 : (n : Int) < (size : Int) := by omega
      replace hnvr := hid hnvr
      replace hSr := hid hSr
      replace hcell := hid hcell
      replace hnn := hid hnn
      replace hfr := hid hfr
      replace hown := hid hown
      replace hseen := hid hseen
      replace hblk := hid hblk
      replace hstep := hid hstep
      cases hm : (S n || fr.contains n)
      · rw [hm] at m0
        have hst2 : Hid (frs S (ns.take (k + 1)) = fr ++ [n]) := hid (by rw [hstep.out]; unfold frsStep; rw [if_neg (by rw [hm]; simp)])
        have hany : Hid ((fr ++ [n]).any G = (fr.any G || G n)) := hid (by simp)
        replace hm := hid hm
        have hb1 := hst.out.below
        have hseen2 : Hid (SeenAt (cs.setIfInBounds n (.bool true)) size (fun x => S x || (fr ++ [n]).contains x)) := hid (hseen.out.set_ hns1 fun x => by
          simp only [List.contains_eq_mem, List.mem_append, List.mem_singleton, Bool.or_assoc]
          congr 1
          rw [Bool.eq_iff_iff]
          simp)
        have hzr := hkp.size
        have hkp2 : Hid (KeepB (fun b => b = gS) w1 (wr.setCell ⟨gS, n, none⟩ (.bool true))) := hid (hkp.setCell _ _ fun _ => rfl)
        have hblk2 : Hid (Blk (wr.setCell ⟨gS, n, none⟩ (.bool true)) gS 4 (cs.setIfInBounds n (.bool true))) := hid (hblk.out.set_ _ _)
        have hown2 : Hid ((wr.setCell ⟨gS, n, none⟩ (.bool true)).ownsRow w1.heap.size 3 1 _ fr.length (natVals fr)) := hid (ownsRow_setCell_below hown.out (by have := hblk0.out.lt; simpa using this) _)
        cases hg : fr.any G
        · go_wp2_with (at_builtin; refine wpList_append_own_at _ rfl _ _ 40 rfl w1.heap.size 3 i0 (.int .i64 0) 1 8 Try.underlying40 hi hz0 hz1 hz2 rfl (by decide) _ _ _ rfl (hown2.out.alloc _) ⟨wr.heap.size, 0, none⟩ 1 1 [.int .i64 (n : Int)] rfl rfl (by have := cell_one_new (wr.setCell ⟨gS, n, none⟩ (.bool true)) (.int .i64 (n : Int)) 3; simpa using this) (by intro u hu; simp at hu; subst hu; rfl) (by unfold maxLen; omega) (by omega) (by simp; omega) ?_; intro v4 w4 hown4 hgr4 _ hat4; have hkp4 : Hid (KeepB (fun b => b = gS) w1 w4) := hid ((hkp2.out.alloc _).grown hgr4 fun b hb hlt => absurd (own_block hown.out b hb) (by omega)); have hblk4 : Hid (Blk w4 gS 4 (cs.setIfInBounds n (.bool true))) := hid ((hgr4.block gS (hblk2.out.alloc _).lt (fun e => own_ne hown2.out hblk2.out (by decide) gS e.symm rfl)).trans (hblk2.out.alloc _)); have hG4 := hst.out.blkG.keep hkp4.out (fun e => hst.out.blkG.ne hblk0.out (by decide) e); have g0 := hG4.cell 0; simp only [List.getElem?_toArray, List.getElem?_cons_zero] at g0; replace hG4 := hid hG4; replace hown4 := hid hown4; replace hgr4 := hid hgr4; replace hat4 := hid hat4)
          have hb4 := hid (hkp4.out.below hb1 hb1.size fun b hb => by rw [hb]; exact hst.out.geS)
          refine (hG.call w4 n hb4.out hns1).mono ?_
          rintro e w5 ⟨rfl, hb5⟩
          replace hg := hid hg
          have hk5 : Hid (KeepB (fun b => b = gS) w1 w5) := hid (hkp4.out.trans (.of_below hb5))
          have hown5 := hid (own_keep hown4.out (.of_below (K := fun _ => False) hb5) fun _ _ h => h)
          have hblk5 := hid (hblk4.out.below hb5 hblk4.out.lt)
          go_wp2_with fail
          go_roundw
          case rel => exact ⟨k + 1, _, by go_num, by omega, by rw [hst2.out, hany.out, hg.out]; rfl, by rw [hst2.out, List.length_append]; unfold natVals; rw [List.map_append]; exact hown5.out, hblk5.out, by rw [hst2.out]; exact hseen2.out, hk5.out⟩
          case measure => simp [intOf]; omega
        · go_wp2_with (at_builtin; refine wpList_append_own_at _ rfl _ _ 40 rfl w1.heap.size 3 i0 (.int .i64 0) 1 8 Try.underlying40 hi hz0 hz1 hz2 rfl (by decide) _ _ _ rfl (hown2.out.alloc _) ⟨wr.heap.size, 0, none⟩ 1 1 [.int .i64 (n : Int)] rfl rfl (by have := cell_one_new (wr.setCell ⟨gS, n, none⟩ (.bool true)) (.int .i64 (n : Int)) 3; simpa using this) (by intro u hu; simp at hu; subst hu; rfl) (by unfold maxLen; omega) (by omega) (by simp; omega) ?_; intro v4 w4 hown4 hgr4 _ hat4; have hkp4 : Hid (KeepB (fun b => b = gS) w1 w4) := hid ((hkp2.out.alloc _).grown hgr4 fun b hb hlt => absurd (own_block hown.out b hb) (by omega)); have hblk4 : Hid (Blk w4 gS 4 (cs.setIfInBounds n (.bool true))) := hid ((hgr4.block gS (hblk2.out.alloc _).lt (fun e => own_ne hown2.out hblk2.out (by decide) gS e.symm rfl)).trans (hblk2.out.alloc _)); have hG4 := hst.out.blkG.keep hkp4.out (fun e => hst.out.blkG.ne hblk0.out (by decide) e); have g0 := hG4.cell 0; simp only [List.getElem?_toArray, List.getElem?_cons_zero] at g0; replace hG4 := hid hG4; replace hown4 := hid hown4; replace hgr4 := hid hgr4; replace hat4 := hid hat4)
          replace hg := hid hg
          go_roundw
          case rel => exact ⟨k + 1, _, by go_num, by omega, by rw [hst2.out, hany.out, hg.out]; rfl, by rw [hst2.out, List.length_append]; unfold natVals; rw [List.map_append]; exact hown4.out, hblk4.out, by rw [hst2.out]; exact hseen2.out, hkp4.out⟩
          case measure => simp [intOf]; omega
      · rw [hm] at m0
        have hst2 : Hid (frs S (ns.take (k + 1)) = fr) := hid (by rw [hstep.out]; unfold frsStep; rw [if_pos hm])
        replace hm := hid hm
        go_wp2_with fail
        go_roundw
        case rel => exact ⟨k + 1, cs, by go_num, by omega, by rw [hst2.out], by rw [hst2.out]; exact hown.out, hblk.out, by rw [hst2.out]; exact hseen.out, hkp⟩
        case measure => simp [intOf]; omega
    · have hkn : ns.take k = ns := List.take_of_length_le (by omega)
      rw [hkn] at hown hseen ⊢
      obtain ⟨fr, hfr⟩ : ∃ fr, fr = frs S ns := ⟨_, rfl⟩
      rw [← hfr] at hown hseen ⊢
      have hfl : fr.length ≤ ns.length := by rw [hfr]; exact frs_len S ns
      have hPr := hst.out.blkP.keep hkp (fun e => hst.out.blkP.ne hblk0.out (by decide) e)
      have p0 := hPr.cell 0
      simp only [List.getElem?_toArray, List.getElem?_cons_zero] at p0
      have hsr := hid (hst.out.keep hkp hblk hseen)
      replace hkn := hid hkn
      replace hfr := hid hfr
      replace hPr := hid hPr
      obtain ⟨fA, fc, rfl, hfc, hfc'⟩ := own_slice hown
      by_cases hf0 : fr.length = 0
      · have hfe : Hid (fr = []) := hid (by simpa using hf0)
        replace hown := hid hown
        have hn0 : ¬ (0 < fr.length) := by omega
        go_wp2_with fail
        go_ret
        exact ⟨by rw [← hfr.out]; rfl, by rw [← hfr.out]; exact ⟨_, ss, hsr.out, .inl ⟨hfe.out, rfl⟩, hkp.mono fun b h => .inl h⟩⟩
      · have hn0 : 0 < fr.length := by omega
        replace hown := hid hown
        have hzr := hkp.size
        have hbs := hst.out.below.size
        have hfne : Hid (fr ≠ []) := hid fun e => hf0 (by rw [e]; rfl)
        obtain ⟨j0, hj, hj0, hj1, hj2⟩ := info_parts infoStep
        go_wp2_with (at_builtin; refine wpList_append_own_at _ rfl _ _ 75 rfl w.heap.size 77 j0 (.agg #[.int .i64 0, .int .i64 0, .slice none 0 0]) 3 40 Try.underlying75 hj hj0 hj1 hj2 rfl (by decide) _ _ _ rfl (hsr.out.own.alloc _) ⟨wr.heap.size, 0, none⟩ 1 1 [.int .i64 par, .int .i64 (l : Nat), .slice fA fr.length fc] rfl rfl (cell_three_new _ _ _ _ _) (by intro u hu; simp at hu; rcases hu with rfl | rfl | rfl <;> rfl) (by unfold maxLen; omega) (by omega) (by simp; omega) ?_; intro v6 w6 hO6 hgr6 _ _; obtain ⟨A6, c6, rfl, -, -⟩ := own_slice hO6; have hkA : KeepB (fun b => sv.ownBlock = some b) wr w6 := ((KeepB.refl _ wr).alloc _).grown hgr6 fun k hk _ => hk; have hP6 : Blk w6 bP 75 #[sv] := hPr.out.keep hkA fun e => own_ne hsr.out.own hPr.out (by decide) bP e rfl; have q0 := hP6.cell 0; simp only [List.getElem?_toArray, List.getElem?_cons_zero] at q0; have zq := hP6.frozen 0; replace hP6 := hid hP6; replace hkA := hid hkA; replace hO6 := hid hO6; replace hgr6 := hid hgr6)
        go_ret
        exact ⟨by rw [← hfr.out]; rfl, by rw [← hfr.out]; exact VisPost.mk hst.out hkp hblk hseen hfne.out hown.out hO6.out hgr6.out⟩

end Go.Proofs.Ytdkjnemakkppfaa

/- The program's closure: the states that words of hidden letters reach. -/
namespace Go.Proofs.Ytdkjnemakkppfaa
open Go.RowKit Go.BigFrame AG

/-- A list of numbers lies in memory below a block. -/
def NatsAt (w : World) (B : Nat) (A : Option Addr) (ns : List Nat) : Prop := 0 < ns.length → ∃ b o, A = some ⟨b, o, none⟩ ∧ b < B ∧ ∀ i (h : i < ns.length), w.cell? ⟨b, o + i, none⟩ = some (.int .i64 (ns[i] : Nat))
theorem NatsAt.later {w w' : World} {A : Option Addr} {ns : List Nat} (h : NatsAt w w.heap.size A ns) (hb : Below w.heap.size w w') : NatsAt w' w'.heap.size A ns := fun hl => by
  obtain ⟨b, o, h1, h2, h3⟩ := h hl
  exact ⟨b, o, h1, Nat.lt_of_lt_of_le h2 hb.size, fun i hi => by rw [hb.cell (by simpa using h2)]; exact h3 i hi⟩
theorem OwnNats.read {w : World} {B : Nat} {v : Value} {ns : List Nat} (h : OwnNats w B v ns) : ∃ A c, v = .slice A ns.length c ∧ ns.length ≤ c ∧ c ≤ 9223372036854775807 ∧ NatsAt w w.heap.size A ns := by
  by_cases hn : 0 < ns.length
  · obtain ⟨g, cap, hv, h1, h2, h3, h4, h5⟩ := own_nats h hn
    exact ⟨_, cap, hv, h3, h4, fun _ => ⟨g, 0, rfl, h2, fun i hi => by rw [Nat.zero_add]; exact h5 i hi⟩⟩
  · obtain ⟨A, c, hv, h1, h2⟩ := own_slice h
    exact ⟨A, c, hv, h1, h2, fun hl => absurd hl hn⟩


end Go.Proofs.Ytdkjnemakkppfaa

/- The program's TracesUpTo. -/
namespace Go.Proofs.Ytdkjnemakkppfaa
open Go.RowKit Go.BigFrame Go.Maps AG

theorem zeroInt (w : World) : (zeroValue 3).run Try.prog w = .ok (.int .i64 0) w := by kernel_rfl

/-- An entry of a map that is written out: as a store. -/
theorem wpList_insert_own {H : Type} {P : Program} (w : World) {ops : Array Oper} {rest : List Oper} {o : Oper} {a : Act} {Q : Exit → Act → World → Prop}
    (hg : o.guard = none) (m x v : Operand) (t : TypeId) (hop : o.op = Op.insert t m x v)
    (k e : TypeId) (K : Keyed P k) (ht : P.underlying t = some (.map k e)) (R : Value → Option (DataW H × List MemPlace)) (b n : Nat) (D : DataW H)
    (hm : a.eval m = .map (some b)) (hown : w.ownsMap P k R b n D) (hn : n < maxLen) (key val : Value) (kl : Lit) (hx : a.eval x = key) (hv : a.eval v = val) (hkey : keyOf P k key = some kl)
    (d : DataW H) (ps : List MemPlace) (hval : R val = some (d, ps))
    (hK : ∀ w', w'.ownsMap P k R b (n + 1) (D.put kl d) → w.grownBy w' (some b) → wpList P ops Q rest (a.put o.dst undef) w') :
    wpList P ops Q (o :: rest) a w := by
  refine wpList_plain hg fun K' hK' => ?_
  obtain ⟨w', hrun, r1, r2⟩ := hown.update K ht hn hkey hval
  unfold Oper.wp
  simp [execOp, hop, hm, hx, hv, hrun, Result.andThen]
  exact hK' _ _ (hK w' r1 r2)

/-- A map reads as a function: no entry, no number. -/
structure MapFn (D : DataW Unit) (v : Nat → Nat) : Prop where
  isMap : Maps.IsMap D
  at_ : ∀ T : Nat, D.atKey (.int .i64 (T : Int)) (.lit (.int .i64 0)) = .lit (.int .i64 ((v T : Nat) : Int))
  has : ∀ kl, Maps.has D kl = true → ∃ T : Nat, kl = .int .i64 (T : Int) ∧ 0 < v T ∧ T ≠ 0 ∧ T < 65536
  pos : ∀ T : Nat, 0 < v T → Maps.has D (.int .i64 (T : Int)) = true
theorem MapFn.empty : MapFn (.map []) (fun _ => 0) :=
  ⟨Maps.isMap_empty, fun T => Maps.atKey_of_not_has rfl _, fun kl h => (by cases h), fun T h => (by cases h)⟩
theorem key_ne {x T : Nat} (h : x ≠ T) : Lit.int .i64 (x : Int) ≠ Lit.int .i64 (T : Int) := fun e => by
  injection e with _ e
  exact h (by omega)
theorem MapFn.put {D : DataW Unit} {v : Nat → Nat} (h : MapFn D v) {T c : Nat} (hT : T ≠ 0) (hT2 : T < 65536) (hc : 0 < c) :
    MapFn (D.put (.int .i64 (T : Int)) (.lit (.int .i64 ((v T + c : Nat) : Int)))) (fun x => if x = T then v T + c else v x) := by
  refine ⟨h.isMap.put _ _, fun x => ?_, fun kl hk => ?_, fun x hx => ?_⟩
  · by_cases e : x = T
    · subst e
      rw [Maps.atKey_put_same h.isMap (show WideAt.IsKeyLit (Lit.int .i64 (x : Int)) from trivial), if_pos rfl]
    · rw [Maps.atKey_put_other (key_ne e), h.at_ x, if_neg e]
  · by_cases e : kl = .int .i64 (T : Int)
    · exact ⟨T, e, by rw [if_pos rfl]; omega, hT, hT2⟩
    · rw [Maps.has_put_other e] at hk
      obtain ⟨x, h1, h2, h3, h4⟩ := h.has kl hk
      have : x ≠ T := fun e' => e (by rw [h1, e'])
      exact ⟨x, h1, by rw [if_neg this]; exact h2, h3, h4⟩
  · by_cases e : x = T
    · subst e
      exact Maps.has_put_same h.isMap (show WideAt.IsKeyLit (Lit.int .i64 (x : Int)) from trivial) _
    · rw [if_neg e] at hx
      rw [Maps.has_put_other (key_ne e)]
      exact h.pos x hx
theorem MapFn.congr {D : DataW Unit} {v v' : Nat → Nat} (h : MapFn D v) (e : ∀ T, v T = v' T) : MapFn D v' := by
  have : v = v' := funext e
  rw [← this]
  exact h
theorem grown_of_below {w w' : World} (hb : Below w.heap.size w w') : w.grownBy w' none := ⟨hb.os, hb.tape, hb.output, hb.size, fun i hi _ => hb.block i hi⟩

theorem wf64 {a : Int} (h1 : -9223372036854775808 ≤ a) (h2 : a ≤ 9223372036854775807) : (Lit.int .i64 a).wf = true := by
  unfold Lit.wf
  simp [IntKind.min, IntKind.max, IntKind.signed, IntKind.bits]
  omega

end Go.Proofs.Ytdkjnemakkppfaa
