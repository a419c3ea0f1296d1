/- Words for memory: all old blocks but a few are as they were. -/
import Derived.Test.YtbomhfbiaedbiaaDoorBase
import Derived.Maps.AppendAt
namespace AG
open Go Go.RowKit

/-- All old blocks but those of K are as they were. -/
structure KeepB (K : Nat → Prop) (w w' : World) : Prop where
  os : w'.os = w.os
  tape : w'.tape = w.tape
  output : w'.output = w.output
  size : w.heap.size ≤ w'.heap.size
  block : ∀ k, k < w.heap.size → ¬ K k → w'.heap[k]? = w.heap[k]?
theorem KeepB.refl (K : Nat → Prop) (w : World) : KeepB K w w := ⟨rfl, rfl, rfl, Nat.le_refl _, fun _ _ _ => rfl⟩
theorem KeepB.trans {K : Nat → Prop} {a b c : World} (h : KeepB K a b) (k : KeepB K b c) : KeepB K a c :=
  ⟨k.os.trans h.os, k.tape.trans h.tape, k.output.trans h.output, Nat.le_trans h.size k.size, fun i hi hne => (k.block i (Nat.lt_of_lt_of_le hi h.size) hne).trans (h.block i hi hne)⟩
theorem KeepB.mono {K K' : Nat → Prop} {a b : World} (h : KeepB K a b) (hK : ∀ k, K k → K' k) : KeepB K' a b := ⟨h.os, h.tape, h.output, h.size, fun i hi hne => h.block i hi fun hk => hne (hK i hk)⟩
theorem KeepB.of_below {K : Nat → Prop} {a b : World} (h : Below a.heap.size a b) : KeepB K a b := ⟨h.os, h.tape, h.output, h.size, fun i hi _ => h.block i hi⟩
theorem KeepB.below {K : Nat → Prop} {B : Nat} {w a b : World} (hb : Below B w a) (h : KeepB K a b) (hB : B ≤ a.heap.size) (hK : ∀ k, K k → B ≤ k) : Below B w b :=
  hb.trans ⟨h.os, h.tape, h.output, h.size, fun i hi => h.block i (by omega) fun hk => by have := hK i hk; omega⟩
theorem KeepB.of_grown {K : Nat → Prop} {a b : World} {row : Option Nat} (h : a.grownBy b row) (hK : ∀ k, row = some k → k < a.heap.size → K k) : KeepB K a b :=
  ⟨h.os, h.tape, h.output, h.size, fun i hi hne => h.block i hi fun e => hne (hK i e.symm hi)⟩
/-- .. from a world a that began earlier: blocks made since may be written. -/
theorem KeepB.grown {K : Nat → Prop} {w a b : World} {row : Option Nat} (hk : KeepB K w a) (h : a.grownBy b row) (hK : ∀ k, row = some k → k < w.heap.size → K k) : KeepB K w b :=
  ⟨h.os.trans hk.os, h.tape.trans hk.tape, h.output.trans hk.output, Nat.le_trans hk.size h.size, fun i hi hne => (h.block i (Nat.lt_of_lt_of_le hi hk.size) fun e => hne (hK i e.symm hi)).trans (hk.block i hi hne)⟩
theorem KeepB.setCell {K : Nat → Prop} {w a : World} (hk : KeepB K w a) (p : Addr) (v : Value) (hK : p.block < w.heap.size → K p.block) : KeepB K w (a.setCell p v) :=
  ⟨hk.os, hk.tape, hk.output, by simpa using hk.size, fun i hi hne => by
    rw [Below.heap_setCell _ _ _ _ (fun e => hne (by rw [e]; exact hK (by rw [← e]; exact hi)))]
    exact hk.block i hi hne⟩
theorem KeepB.alloc {K : Nat → Prop} {w a : World} (hk : KeepB K w a) (o : Obj) : KeepB K w (a.alloc o) :=
  ⟨hk.os, hk.tape, hk.output, by have := hk.size; simp; omega, fun i hi hne => by
    rw [Below.heap_alloc a o i (Nat.lt_of_lt_of_le hi hk.size)]
    exact hk.block i hi hne⟩

theorem Blk.keep {K : Nat → Prop} {w w' : World} {g : Nat} {t : TypeId} {cs : Array Value} (h : Blk w g t cs) (hk : KeepB K w w') (hg : ¬ K g) : Blk w' g t cs := (hk.block g h.lt hg).trans h
theorem Blk.ne {w : World} {g g' : Nat} {t t' : TypeId} {cs cs' : Array Value} (h : Blk w g t cs) (h' : Blk w g' t' cs') (ht : t ≠ t') : g ≠ g' := fun e => by
  subst e
  have := h.symm.trans h'
  simp at this
  exact ht this.2
theorem own_keep {K : Nat → Prop} {w w' : World} {base : Nat} {e : TypeId} {size : Nat} {v : Value} {n : Nat} {xs : List Value} (h : w.ownsRow base e size v n xs) (hk : KeepB K w w') (hv : ∀ g, v.ownBlock = some g → ¬ K g) : w'.ownsRow base e size v n xs := by
  refine ⟨h.1, ?_⟩
  rcases h.2 with hn | ⟨g, cap, cur, rfl, hb, hgg, rest⟩
  · exact .inl hn
  · refine .inr ⟨g, cap, cur, rfl, hb, ?_, rest⟩
    rw [hk.block g (Array.getElem?_eq_some_iff.1 hgg).1 (hv g rfl)]
    exact hgg
theorem own_base {w : World} {base base' : Nat} {e : TypeId} {size : Nat} {v : Value} {n : Nat} {xs : List Value} (h : w.ownsRow base e size v n xs) (hb : base' ≤ base) : w.ownsRow base' e size v n xs := by
  refine ⟨h.1, ?_⟩
  rcases h.2 with hn | ⟨g, cap, cur, rfl, hg, rest⟩
  · exact .inl hn
  · exact .inr ⟨g, cap, cur, rfl, Nat.le_trans hb hg, rest⟩
theorem own_ne {w : World} {base : Nat} {e : TypeId} {size : Nat} {v : Value} {n : Nat} {xs : List Value} {g : Nat} {t : TypeId} {cs : Array Value} (h : w.ownsRow base e size v n xs) (hb : Blk w g t cs) (ht : e ≠ t) : ∀ k, v.ownBlock = some k → k ≠ g := by
  intro k hk
  rcases h.2 with ⟨rfl, _⟩ | ⟨g', cap, cur, rfl, _, hgg, _⟩
  · cases hk
  · cases hk
    exact Blk.ne (show Blk w g' e cur from hgg) hb ht
theorem own_ne_own {w : World} {base base' : Nat} {e e' : TypeId} {size size' : Nat} {v v' : Value} {n n' : Nat} {xs xs' : List Value} (h : w.ownsRow base e size v n xs) (h' : w.ownsRow base' e' size' v' n' xs') (ht : e ≠ e') : ∀ k k', v.ownBlock = some k → v'.ownBlock = some k' → k ≠ k' := by
  intro k k' hk hk'
  rcases h'.2 with ⟨rfl, _⟩ | ⟨g', cap, cur, rfl, _, hgg, _⟩
  · cases hk'
  · cases hk'
    exact own_ne h (show Blk w g' e' cur from hgg) ht k hk

end AG
