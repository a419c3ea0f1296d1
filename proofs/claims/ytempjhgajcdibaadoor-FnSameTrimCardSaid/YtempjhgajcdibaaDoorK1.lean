/- Lemmas, part 1: several texts in one. -/
import Derived.StillTail
import Derived.Deep.Quiet
import Derived.KernelRfl
import Derived.WalkKit
import Derived.WalkSpells
import Derived.WalkLawsBesides
import Derived.BigQuiet
import Derived.Deep.QuietTactic
import Derived.Test.YtempjhgajcdibaaDoorProg
import Derived.Maps.AppendAt
import Derived.Below
set_option linter.unusedSimpArgs false
set_option linter.unusedVariables false

/- Plain definitions and lemmas: sets of small numbers as integers, edges, systems. No program is named here. -/
namespace AG

/-- Number n is in the set a (bits of an integer, also of a negative one). -/
def Has (a : Int) (n : Nat) : Bool := decide ((a / (2 : Int) ^ n) % 2 = 1)

def alphaOk (a : Int) : Bool := decide (0 ≤ a ∧ a ≤ 63)

structure Ed where
  f : Int
  l : Int
  t : Int
  deriving DecidableEq

structure Sy where
  al : Int
  st : Int
  es : List Ed
  deriving DecidableEq

def edgeLt (a b : Ed) : Bool := if a.f ≠ b.f then decide (a.f < b.f) else if a.l ≠ b.l then decide (a.l < b.l) else decide (a.t < b.t)

def edgeOk (al st : Int) (e : Ed) : Bool := decide (0 ≤ e.f ∧ e.f < st ∧ 0 ≤ e.t ∧ e.t < st ∧ 0 ≤ e.l ∧ e.l < 6) && Has al e.l.toNat

def edgesOkTo (al st : Int) (es : List Ed) (k : Nat) : Prop := ∀ i (h : i < es.length), i < k → edgeOk al st es[i] = true ∧ (∀ j (h' : j < es.length), j + 1 = i → edgeLt es[j] es[i] = true)

instance (al st : Int) (es : List Ed) (k : Nat) : Decidable (edgesOkTo al st es k) := by unfold edgesOkTo; infer_instance

def sysOk (s : Sy) : Bool := decide (alphaOk s.al = true ∧ 1 ≤ s.st ∧ s.st ≤ 16 ∧ edgesOkTo s.al s.st s.es s.es.length)

/-- The program's has: a negative number is in no set. -/
def HasZ (a n : Int) : Bool := decide (0 ≤ n) && Has a n.toNat

theorem edgeOk_split (al st : Int) (e : Ed) : edgeOk al st e = (decide (0 ≤ e.f ∧ e.f < st) && (decide (0 ≤ e.t ∧ e.t < st) && (decide (e.l < 6) && HasZ al e.l))) := by
  unfold edgeOk HasZ
  by_cases h1 : 0 ≤ e.f ∧ e.f < st
  · by_cases h2 : 0 ≤ e.t ∧ e.t < st
    · by_cases h3 : e.l < 6 <;> by_cases h4 : 0 ≤ e.l <;> simp [h1, h2, h3, h4]
    · have : ¬ (0 ≤ e.f ∧ e.f < st ∧ 0 ≤ e.t ∧ e.t < st ∧ 0 ≤ e.l ∧ e.l < 6) := by omega
      rw [decide_eq_false this, decide_eq_false h2]
      simp
  · have : ¬ (0 ≤ e.f ∧ e.f < st ∧ 0 ≤ e.t ∧ e.t < st ∧ 0 ≤ e.l ∧ e.l < 6) := by omega
    rw [decide_eq_false this, decide_eq_false h1]
    simp

def cmpI (a b : Int) : Int := if a < b then -1 else if b < a then 1 else 0
def orI (x y z : Int) : Int := if x ≠ 0 then x else if y ≠ 0 then y else z
def cmpE (a b : Ed) : Int := orI (cmpI a.f b.f) (cmpI a.l b.l) (cmpI a.t b.t)

theorem cmpE_ge (a b : Ed) : decide (0 ≤ cmpE a b) = !edgeLt a b := by
  unfold cmpE orI cmpI edgeLt
  by_cases h1 : a.f < b.f
  · simp [h1]; omega
  · by_cases h2 : b.f < a.f
    · simp [h1, h2]; omega
    · have e : a.f = b.f := by omega
      by_cases h3 : a.l < b.l
      · simp [e, h3]; omega
      · by_cases h4 : b.l < a.l
        · simp [e, h3, h4]; omega
        · have e' : a.l = b.l := by omega
          simp [e, e']
          by_cases h5 : a.t < b.t
          · simp [h5]
          · by_cases h6 : b.t < a.t
            · simp [h5, h6]
            · simp [h5, h6]

/-- Union and intersection of sets of small numbers. -/
def orB (a b : Int) : Int := ((a.toNat ||| b.toNat : Nat) : Int)
def andB (a b : Int) : Int := ((a.toNat &&& b.toNat : Nat) : Int)

def allAl (ss : List Sy) : Int := ss.foldl (fun a s => orB a s.al) 0
def sharedFrom : List Sy → Int → Int → Int
  | [], _, sh => sh
  | s :: ss, al, sh => sharedFrom ss (orB al s.al) (orB sh (andB al s.al))
def sharedAl (ss : List Sy) : Int := sharedFrom ss 0 0
def partsOk (ss : List Sy) : Bool := decide (1 ≤ ss.length ∧ ss.length ≤ 3) && ss.all sysOk
def partsAl (ss : List Sy) : Int := if partsOk ss = true then allAl ss else -1
def partsShared (ss : List Sy) : Int := if partsOk ss = true then sharedAl ss else -1

theorem orB_range {a b : Int} (ha : 0 ≤ a ∧ a ≤ 63) (hb : 0 ≤ b ∧ b ≤ 63) : 0 ≤ orB a b ∧ orB a b ≤ 63 := by
  unfold orB
  have := Nat.or_lt_two_pow (n := 6) (x := a.toNat) (y := b.toNat) (by omega) (by omega)
  omega
theorem andB_range {a b : Int} (hb : 0 ≤ b ∧ b ≤ 63) : 0 ≤ andB a b ∧ andB a b ≤ 63 := by
  unfold andB
  have := Nat.and_lt_two_pow (n := 6) a.toNat (y := b.toNat) (by omega)
  omega
theorem sysOk_alpha {s : Sy} (h : sysOk s = true) : 0 ≤ s.al ∧ s.al ≤ 63 := by
  unfold sysOk alphaOk at h
  simp only [decide_eq_true_eq] at h
  exact h.1
theorem allAl_snoc (ss : List Sy) (s : Sy) : allAl (ss ++ [s]) = orB (allAl ss) s.al := by simp [allAl]
theorem allAl_range (ss : List Sy) (h : ss.all sysOk = true) : 0 ≤ allAl ss ∧ allAl ss ≤ 63 := by
  unfold allAl
  have key : ∀ (l : List Sy) (a : Int), (0 ≤ a ∧ a ≤ 63) → l.all sysOk = true → 0 ≤ l.foldl (fun a s => orB a s.al) a ∧ l.foldl (fun a s => orB a s.al) a ≤ 63 := by
    intro l
    induction l with
    | nil => intro a ha _; exact ha
    | cons s l ih =>
      intro a ha hl
      simp only [List.all_cons, Bool.and_eq_true] at hl
      exact ih _ (orB_range ha (sysOk_alpha hl.1)) hl.2
  exact key ss 0 (by omega) h
theorem take_snoc {α : Type} (l : List α) (k : Nat) (h : k < l.length) : l.take (k + 1) = l.take k ++ [l[k]] := by
  rw [List.take_succ_eq_append_getElem h]
theorem all_take {α : Type} (p : α → Bool) (l : List α) (k : Nat) (h : l.all p = true) : (l.take k).all p = true := by
  rw [List.all_eq_true] at *
  intro x hx
  exact h x (List.mem_of_mem_take hx)

theorem orB_assoc (a b c : Int) : orB (orB a b) c = orB a (orB b c) := by
  unfold orB; simp only [Int.toNat_natCast]; rw [Nat.or_assoc]
theorem andB_orB (a b c : Int) : andB a (orB b c) = orB (andB a b) (andB a c) := by
  unfold orB andB; simp only [Int.toNat_natCast]; rw [Nat.and_or_distrib_left]
theorem andB_comm (a b : Int) : andB a b = andB b a := by
  unfold andB; rw [Nat.and_comm]
theorem andB_zero (a : Int) : andB a 0 = 0 := by unfold andB; simp
theorem orB_zero {a : Int} (h : 0 ≤ a) : orB a 0 = a := by unfold orB; simp; omega

theorem sharedFrom_snoc (s : Sy) (ss : List Sy) : ∀ al sh, sharedFrom (ss ++ [s]) al sh = orB (sharedFrom ss al sh) (andB (ss.foldl (fun a s => orB a s.al) al) s.al) := by
  induction ss with
  | nil => intro al sh; rfl
  | cons t ss ih => intro al sh; exact ih _ _
theorem sharedAl_snoc (ss : List Sy) (s : Sy) : sharedAl (ss ++ [s]) = orB (sharedAl ss) (andB (allAl ss) s.al) := sharedFrom_snoc s ss 0 0
theorem sharedAl_range (ss : List Sy) (h : ss.all sysOk = true) : 0 ≤ sharedAl ss ∧ sharedAl ss ≤ 63 := by
  have key : ∀ n, n ≤ ss.length → 0 ≤ sharedAl (ss.take n) ∧ sharedAl (ss.take n) ≤ 63 := by
    intro n
    induction n with
    | zero => intro _; simp [sharedAl, sharedFrom]
    | succ n ih =>
      intro hn
      rw [take_snoc ss n hn, sharedAl_snoc]
      have hs : sysOk ss[n] = true := List.all_eq_true.1 h _ (List.getElem_mem _)
      exact orB_range (ih (by omega)) (andB_range (sysOk_alpha hs))
  have := key ss.length (Nat.le_refl _)
  rwa [List.take_length] at this

/-- What is left of a budget. -/
def sz1 (n : Nat) (left : Int) : Int := if left - n < 0 then -1 else left - n
def szL : List Nat → Int → Int
  | [], left => left
  | n :: ns, left => if left - n < 0 then -1 else szL ns (left - n)
def szSys (ss : List Sy) (left : Int) : Int := if left - ss.length < 0 then -1 else szL (ss.map fun s => s.es.length) (left - ss.length)

theorem szL_ge (ns : List Nat) : ∀ left, 0 ≤ szL ns left → ∀ n ∈ ns, (n : Int) ≤ left := by
  induction ns with
  | nil => intro left _ n hn; cases hn
  | cons m ns ih =>
    intro left h n hn
    unfold szL at h
    split at h
    · omega
    · cases hn with
      | head => omega
      | tail _ hn => have := ih _ h n hn; omega
theorem szSys_ge {ss : List Sy} {left : Int} (h : 0 ≤ szSys ss left) : (ss.length : Int) ≤ left ∧ ∀ s ∈ ss, (s.es.length : Int) ≤ left := by
  unfold szSys at h
  split at h
  · omega
  · refine ⟨by omega, fun s hs => ?_⟩
    have := szL_ge _ _ h s.es.length (List.mem_map.2 ⟨s, hs, rfl⟩)
    omega

theorem cmpI_range (a b : Int) : -1 ≤ cmpI a b ∧ cmpI a b ≤ 1 := by
  unfold cmpI; split
  · omega
  · split <;> omega

end AG

/- A statement that draws its order: its first n operations may come in any order the edges allow and yield one value each in every world of a class; behind them the others come one by one. -/
namespace AG
open Go
section
variable {P : Program} {ops : Array Oper} {md : Region.Mode} {C : World → Prop} {n : Nat}

/-- f operations of the first n come up, in any order, then L. -/
def HeadC (P : Program) (md : Region.Mode) (ops : Array Oper) (C : World → Prop) (n : Nat) (L : Array Bool → Act → Prop) : Nat → Array Bool → Act → Prop
  | 0, listed, a => L listed a
  | f + 1, listed, a => Region.ready md ops listed ≠ [] ∧ ∀ i, i ∈ Region.ready md ops listed → i < n ∧ qOp P ops C i (HeadC P md ops C n L f (listed.setIfInBounds i true)) a

theorem HeadC.any {g : Nat} {L : Array Bool → Act → Prop} {Q : Exit → Act → World → Prop} (hL : ∀ listed a w, C w → L listed a → wpAny P md ops Q g listed a w) (f : Nat) :
    ∀ (listed : Array Bool) (a : Act) (w : World), C w → HeadC P md ops C n L f listed a → wpAny P md ops Q (f + g) listed a w := by
  induction f with
  | zero => intro listed a w hw h; rw [Nat.zero_add]; exact hL _ _ _ hw h
  | succ f ih =>
    intro listed a w hw h
    have e : f + 1 + g = (f + g) + 1 := by omega
    rw [e]
    refine ⟨fun h0 => absurd h0 h.1, fun i hi => ?_⟩
    exact wpOp_of_qOp hw (fun a' w' hw' h' => ih _ a' w' hw' h') (h.2 i hi).2

/-- The next operation of the text may be taken first. -/
theorem HeadC.first {i : Nat} {oi : Oper} {v : Value} {L : Array Bool → Act → Prop} (hi : ops[i]? = some oi) (hsel : ∀ (j : Nat) (o : Oper) cs b, ops[j]? = some o → o.op ≠ .select cs b)
    (hs : Region.sinkB md ops n = true) (hc : Region.chainB md ops n = true) (hn : n < ops.size) (hin : i < n) (hdone : ∀ listed a, L listed a → ∀ j ∈ Region.ready md ops listed, n ≤ j) (f : Nat) :
    ∀ (listed : Array Bool) (a : Act), HeadInv md ops n listed →
      (∀ j oj, ops[j]? = some oj → j ≠ i → listed.getD j true = false → (∀ e ∈ oj.after, Region.binds md e = true → e.on ≠ i) → oi.apart ops oj = true) →
      i ∈ Region.ready md ops listed → YieldsIn P ops C oi v a → HeadC P md ops C n L f (listed.setIfInBounds i true) (a.put oi.dst v) → HeadC P md ops C n L (f + 1) listed a := by
  induction f with
  | zero =>
    intro listed a inv _ hr hy H
    have hun := (mem_ready.1 hr).1
    refine ⟨fun h => (by rw [h] at hr; cases hr), fun j hj => ?_⟩
    have hjn : j < n := Nat.lt_of_not_le fun h => tail_waits hs hc hn inv _ i rfl hin hun j h hj
    refine ⟨hjn, ?_⟩
    by_cases hji : j = i
    · subst hji; exact hy.qOp hi H
    · have := hdone _ _ H j (ready_mono hj hji)
      omega
  | succ f ih =>
    intro listed a inv hfree hr hy H
    have hun := (mem_ready.1 hr).1
    refine ⟨fun h => (by rw [h] at hr; cases hr), fun j hj => ?_⟩
    have hjn : j < n := Nat.lt_of_not_le fun h => tail_waits hs hc hn inv _ i rfl hin hun j h hj
    refine ⟨hjn, ?_⟩
    by_cases hji : j = i
    · subst hji; exact hy.qOp hi H
    · obtain ⟨hjun, oj, hoj, hall⟩ := mem_ready.1 hj
      have hnot : ∀ e ∈ oj.after, Region.binds md e = true → e.on ≠ i := fun e he hb heq => by
        have h1 := hall e he hb
        rw [heq, getD_both hun] at h1
        cases h1
      have h2 := qOp_put hoj (hfree j oj hoj hji hjun hnot) (fun cs b => hsel i oi cs b hi) (fun cs b => hsel j oj cs b hoj) hy (H.2 j (ready_mono hj hji)).2
      refine qOp_mono (fun a' h3 => ih (listed.setIfInBounds j true) a' (inv.set hj hjn) ?_ (ready_mono hr (Ne.symm hji)) h3.1 ?_) h2
      · intro k ok hk hki hun' hno
        refine hfree k ok hk hki ?_ hno
        by_cases hjk : j = k
        · subst hjk; exact hjun
        · rw [getD_set_ne true hjk] at hun'; exact hun'
      · rw [Array.setIfInBounds_comm _ _ hji]
        exact h3.2

theorem HeadC.lex {g : Nat} {Lq : Act → Prop} (hsel : Region.noSelect ops = true) (hs : Region.sinkB md ops n = true) (hc : Region.chainB md ops n = true) (hn : n < ops.size) (l : List Oper) :
    ∀ (k : Nat) (listed : Array Bool) (a : Act), (∀ j, j < l.length → l[j]? = ops[k + j]?) → k + l.length = n → HeadInv md ops n listed → Region.lexHead md ops g l.length k listed = true →
      wpQuiet P ops C Lq l a → HeadC P md ops C n (fun listed' a' => Region.seqB md ops g n listed' = true ∧ Lq a') l.length listed a := by
  induction l with
  | nil =>
    intro k listed a _ hk _ hB h
    obtain rfl : k = n := by simpa using hk
    exact ⟨by simpa [Region.lexHead] using hB, h⟩
  | cons o l ih =>
    intro k listed a hl hk inv hB h
    have h0 : ops[k]? = some o := by simpa using (hl 0 (by simp)).symm
    simp only [List.length_cons, Region.lexHead, Bool.and_eq_true] at hB
    obtain ⟨⟨hr, hf⟩, hB'⟩ := hB
    simp only [List.length_cons] at hk
    have hkn : k < n := by omega
    have hr' : k ∈ Region.ready md ops listed := by simpa using hr
    have hst : qOp P ops C k (wpQuiet P ops C Lq l) a := by unfold qOp; simp only [h0]; exact h
    obtain ⟨v, hy, hK⟩ := yieldsIn_of_qOp h0 hst
    refine HeadC.first h0 (Region.noSelect_spec hsel) hs hc hn hkn (fun listed' a' hL => seqB_ready hL.1) l.length listed a inv (Region.free_spec h0 hf) hr' hy ?_
    refine ih (k + 1) _ _ (fun j hj => ?_) (by omega) (inv.set hr' hkn) hB' hK
    have := hl (j + 1) (by simp; omega)
    simpa [Nat.add_assoc, Nat.add_comm 1 j] using this

theorem wp_region_quiet_tail {id : Nat} {Q : Exit → Act → World → Prop} {a : Act} {w : World} {l : List Oper} (n : Nat) (hm : P.follows .mixedOrders = true) (hB : Region.lexTailB .any l.toArray n = true) (hC : C { w with drawn := w.drawn + 1 })
    (h : wpQuiet P l.toArray C (fun a' => ∀ w', C w' → wpList P l.toArray Q (l.drop n) a' w') (l.take n) a) : (Code.region id l.toArray true).wp P Q a w := by
  simp only [Region.lexTailB, Bool.and_eq_true, decide_eq_true_eq] at hB
  obtain ⟨⟨⟨⟨hsel, hn⟩, hs⟩, hc⟩, hlex⟩ := hB
  have htl : (l.take n).length = n := by simp; simp at hn; omega
  have hdl : (l.drop n).length = l.toArray.size - n := by simp
  have inv0 : HeadInv .any l.toArray n (Array.replicate l.toArray.size false) :=
    ⟨by simp, fun j oj _ hl => (by rw [getD_replicate_false] at hl; cases hl), fun t _ ht => getD_in (by simpa using ht) (getD_replicate_false _ _)⟩
  have H := HeadC.lex (md := .any) (g := l.toArray.size - n) hsel hs hc hn (l.take n) 0 _ a (fun j hj => by
    have hj' : j < n := by rw [htl] at hj; exact hj
    simp [hj']) (by simpa using htl) inv0 (by rw [htl]; exact hlex) h
  refine wp_region_any hm ?_
  have := HeadC.any (Q := Q) (g := l.toArray.size - n) (fun listed a' w' hw' hL => by
    have := wpAny_of_seq (md := .any) (Q' := Q) (l.drop n) n listed a' w' (fun j => by simp [List.getElem?_drop]) (by rw [hdl]; exact hL.1) (hL.2 w' hw')
    rwa [hdl] at this) _ _ _ _ hC H
  rw [htl, show n + (l.toArray.size - n) = l.toArray.size by omega] at this
  exact this
end
end AG

/- Words for memory that the walks share: a slice that reads as a list of cells, and the rule for a statement that draws its order. -/
namespace AG
open Go Go.RowKit

/-- The slice '.slice A n c' holds the cells xs (size cells an element), below block B. -/
def Reads (w : World) (B size : Nat) (A : Option Addr) (n : Nat) (xs : List Value) : Prop :=
  xs.length = n * size ∧ (0 < n → ∃ b o, A = some ⟨b, o, none⟩ ∧ b < B ∧ ∀ j u, xs[j]? = some u → w.cell? ⟨b, o + j, none⟩ = some u)

/-- Every world that is as w0 below block B, written as a family (what is not so is replaced by w0). -/
noncomputable def Fam (B : Nat) (w0 x : World) : World := open Classical in if Below B w0 x then x else w0
theorem Fam.below (B : Nat) (w0 x : World) : Below B w0 (Fam B w0 x) := by
  unfold Fam
  split
  · assumption
  · exact Below.refl _ _
theorem Fam.of {B : Nat} {w0 w : World} (h : Below B w0 w) : ∃ x, w = Fam B w0 x := ⟨w, by unfold Fam; rw [if_pos h]⟩
theorem Fam.next {B : Nat} {w0 x w : World} (hB : B ≤ w0.heap.size) (h : Below (Fam B w0 x).heap.size (Fam B w0 x) w) : ∃ y, w = Fam B w0 y :=
  Fam.of ((Fam.below B w0 x).trans (h.mono (Nat.le_trans hB (Fam.below B w0 x).size)))
theorem Fam.out {B : Nat} {w0 w : World} (h : ∃ x, w = Fam B w0 x) : Below B w0 w := by
  obtain ⟨x, rfl⟩ := h
  exact Fam.below _ _ _

/-- A statement that draws its order, each of whose operations yields one value in every world that is as w0 below block B, and leaves such a world. -/
theorem wp_region_fam {P : Program} {id : Nat} {Q : Exit → Act → World → Prop} {a : Act} {w : World} {l : List Oper} (B : Nat) (w0 : World) (hm : P.follows .mixedOrders = true)
    (hB : Region.lexB .any l.toArray = true) (hC : Below B w0 w) (h : wpQuiet P l.toArray (fun w' => ∃ x, w' = Fam B w0 x) (fun a' => ∀ w', (∃ x, w' = Fam B w0 x) → Q .normal a' w') l a) : (Code.region id l.toArray true).wp P Q a w :=
  wp_region_quiet (C := fun w' => ∃ x, w' = Fam B w0 x) hm hB (Fam.of hC.drew) (by simpa using h)

/-- The same, the first n operations alone; behind them the others come one by one. -/
theorem wp_region_fam_tail {P : Program} {id : Nat} {Q : Exit → Act → World → Prop} {a : Act} {w : World} {l : List Oper} (B : Nat) (w0 : World) (n : Nat) (hm : P.follows .mixedOrders = true)
    (hB : Region.lexTailB .any l.toArray n = true) (hC : Below B w0 w) (h : wpQuiet P l.toArray (fun w' => ∃ x, w' = Fam B w0 x) (fun a' => ∀ w', (∃ x, w' = Fam B w0 x) → wpList P l.toArray Q (l.drop n) a' w') (l.take n) a) :
    (Code.region id l.toArray true).wp P Q a w :=
  wp_region_quiet_tail (C := fun w' => ∃ x, w' = Fam B w0 x) n hm hB (Fam.of hC.drew) h

def Ed.val (e : Ed) : Value := .agg #[.int .i64 e.f, .int .i64 e.l, .int .i64 e.t]
def Ed.cells (e : Ed) : List Value := [.int .i64 e.f, .int .i64 e.l, .int .i64 e.t]

/-- The slice of edges '.slice A n c' reads as es, below block B. -/
def EdsAt (w : World) (B : Nat) (A : Option Addr) (es : List Ed) : Prop :=
  0 < es.length → ∃ b o, A = some ⟨b, o, none⟩ ∧ b < B ∧ ∀ i (h : i < es.length),
    w.cell? ⟨b, o + i * 3, none⟩ = some (.int .i64 es[i].f) ∧ w.cell? ⟨b, o + i * 3 + 1, none⟩ = some (.int .i64 es[i].l) ∧ w.cell? ⟨b, o + i * 3 + 2, none⟩ = some (.int .i64 es[i].t)

theorem EdsAt.get {w w0 : World} {B B' : Nat} {A : Option Addr} {es : List Ed} (h : EdsAt w B A es) (hb : Below B w w0) (hB : B ≤ B') {k : Nat} (hk : k < es.length) :
    ∃ b o, A = some ⟨b, o, none⟩ ∧ b < B ∧ ∀ i (hi : i < es.length), (∀ w', Below B' w0 w' → w'.cell? ⟨b, o + i * 3, none⟩ = some (.int .i64 es[i].f)) ∧ (∀ w', Below B' w0 w' → w'.cell? ⟨b, o + i * 3 + 1, none⟩ = some (.int .i64 es[i].l)) ∧
      (∀ w', Below B' w0 w' → w'.cell? ⟨b, o + i * 3 + 2, none⟩ = some (.int .i64 es[i].t)) := by
  obtain ⟨b, o, hA, hb', hE⟩ := h (by omega)
  refine ⟨b, o, hA, hb', fun i hi => ⟨fun w' h' => ?_, fun w' h' => ?_, fun w' h' => ?_⟩⟩
  · rw [h'.cell (by simp; omega), hb.cell (by simpa using hb')]; exact (hE i hi).1
  · rw [h'.cell (by simp; omega), hb.cell (by simpa using hb')]; exact (hE i hi).2.1
  · rw [h'.cell (by simp; omega), hb.cell (by simpa using hb')]; exact (hE i hi).2.2

theorem EdsAt.keep {w w' : World} {B : Nat} {A : Option Addr} {es : List Ed} (h : EdsAt w B A es) (hb : Below B w w') : EdsAt w' B A es := fun hl => by
  obtain ⟨b, o, hA, hb', hE⟩ := h hl
  exact ⟨b, o, hA, hb', fun i hi => by rw [hb.cell (by simpa using hb'), hb.cell (by simpa using hb'), hb.cell (by simpa using hb')]; exact hE i hi⟩
theorem EdsAt.more {w : World} {B B' : Nat} {A : Option Addr} {es : List Ed} (h : EdsAt w B A es) (hB : B ≤ B') : EdsAt w B' A es := fun hl => by
  obtain ⟨b, o, hA, hb', hE⟩ := h hl
  exact ⟨b, o, hA, by omega, hE⟩

/-- A new block of cells, the world under a name of its own. -/
theorem boxed (w : World) (cs : Array Value) (T : TypeId) : ∃ w0, w.alloc (.cells cs T) = w0 ∧ w.heap.size + 1 ≤ w0.heap.size ∧ Below w.heap.size w w0 ∧
    ∀ (i : Nat) v, cs[i]? = some v → ∀ w', Below (w.heap.size + 1) w0 w' → w'.cell? ⟨w.heap.size, i, none⟩ = some v :=
  ⟨_, rfl, by simp, (Below.refl _ _).alloc (Nat.le_refl _) _, fun i v hv w' h => by rw [h.cell (by simp), World.cell?_alloc_at _ _ _ _ rfl]; exact hv⟩

theorem boxed3 (w : World) (v0 v1 v2 : Value) (T : TypeId) : ∃ w0, w.alloc (.cells #[v0, v1, v2] T) = w0 ∧ w.heap.size + 1 ≤ w0.heap.size ∧ Below w.heap.size w w0 ∧
    (∀ w', Below (w.heap.size + 1) w0 w' → w'.cell? ⟨w.heap.size, 0, none⟩ = some v0) ∧ (∀ w', Below (w.heap.size + 1) w0 w' → w'.cell? ⟨w.heap.size, 1, none⟩ = some v1) ∧
    (∀ w', Below (w.heap.size + 1) w0 w' → w'.cell? ⟨w.heap.size, 2, none⟩ = some v2) := by
  obtain ⟨w0, h0, h1, h2, h3⟩ := boxed w #[v0, v1, v2] T
  exact ⟨w0, h0, h1, h2, h3 0 v0 rfl, h3 1 v1 rfl, h3 2 v2 rfl⟩
/-- .. and that what was read before is read there too. -/
theorem Below.box {B : Nat} {w0 w w1 : World} (h : Below B w0 w) (hB : B ≤ w.heap.size) (h1 : Below w.heap.size w w1) : Below B w0 w1 := h.trans (h1.mono hB)

theorem boxed2 (w : World) (cs : Array Value) (T : TypeId) (cs' : Array Value) (T' : TypeId) : ∃ w1, (w.alloc (.cells cs T)).alloc (.cells cs' T') = w1 ∧ w.heap.size + 2 ≤ w1.heap.size ∧ Below w.heap.size w w1 ∧
    (∀ (i : Nat) v, cs[i]? = some v → ∀ w', Below (w.heap.size + 2) w1 w' → w'.cell? ⟨w.heap.size, i, none⟩ = some v) ∧
    (∀ (i : Nat) v, cs'[i]? = some v → ∀ w', Below (w.heap.size + 2) w1 w' → w'.cell? ⟨w.heap.size + 1, i, none⟩ = some v) :=
  ⟨_, rfl, by simp, ((Below.refl _ _).alloc (Nat.le_refl _) _).alloc (by simp) _,
    fun i v hv w' h => by rw [h.cell (by simp), World.cell?_alloc_lt (h := by simp), World.cell?_alloc_at _ _ _ _ rfl]; exact hv,
    fun i v hv w' h => by rw [h.cell (by simp), World.cell?_alloc_at _ _ _ _ (by simp)]; exact hv⟩

/-- The value of a system. -/
def Sy.val (s : Sy) (A : Option Addr) (c : Nat) : Value := .agg #[.int .i64 s.al, .int .i64 s.st, .slice A s.es.length c]

/-- The slice of systems '.slice A n c' reads as ss, below block B. -/
def SysAt (w : World) (B : Nat) (A : Option Addr) (ss : List Sy) : Prop :=
  0 < ss.length → ∃ b o, A = some ⟨b, o, none⟩ ∧ b < B ∧ ∀ i (h : i < ss.length),
    w.cell? ⟨b, o + i * 3, none⟩ = some (.int .i64 ss[i].al) ∧ w.cell? ⟨b, o + i * 3 + 1, none⟩ = some (.int .i64 ss[i].st) ∧
      ∃ Ai ci, w.cell? ⟨b, o + i * 3 + 2, none⟩ = some (.slice Ai ss[i].es.length ci) ∧ ss[i].es.length ≤ ci ∧ ci ≤ 9223372036854775807 ∧ EdsAt w B Ai ss[i].es

theorem SysAt.keep {w w' : World} {B : Nat} {A : Option Addr} {ss : List Sy} (h : SysAt w B A ss) (hb : Below B w w') : SysAt w' B A ss := fun hl => by
  obtain ⟨b, o, hA, hb', hE⟩ := h hl
  refine ⟨b, o, hA, hb', fun i hi => ?_⟩
  obtain ⟨h0, h1, Ai, ci, h2, h3, h4, h5⟩ := hE i hi
  rw [hb.cell (by simpa using hb'), hb.cell (by simpa using hb'), hb.cell (by simpa using hb')]
  exact ⟨h0, h1, Ai, ci, h2, h3, h4, h5.keep hb⟩
theorem SysAt.more {w : World} {B B' : Nat} {A : Option Addr} {ss : List Sy} (h : SysAt w B A ss) (hB : B ≤ B') : SysAt w B' A ss := fun hl => by
  obtain ⟨b, o, hA, hb', hE⟩ := h hl
  refine ⟨b, o, hA, by omega, fun i hi => ?_⟩
  obtain ⟨h0, h1, Ai, ci, h2, h3, h4, h5⟩ := hE i hi
  exact ⟨h0, h1, Ai, ci, h2, h3, h4, h5.more hB⟩
/-- The system number k: its three cells in every world that is as w below block B, and its edges. -/
theorem SysAt.get {w : World} {B : Nat} {A : Option Addr} {ss : List Sy} (h : SysAt w B A ss) {k : Nat} (hk : k < ss.length) :
    ∃ b o Ai ci, A = some ⟨b, o, none⟩ ∧ b < B ∧ (∀ w', Below B w w' → w'.cell? ⟨b, o + k * 3, none⟩ = some (.int .i64 ss[k].al)) ∧ (∀ w', Below B w w' → w'.cell? ⟨b, o + k * 3 + 1, none⟩ = some (.int .i64 ss[k].st)) ∧
      (∀ w', Below B w w' → w'.cell? ⟨b, o + k * 3 + 2, none⟩ = some (.slice Ai ss[k].es.length ci)) ∧ ss[k].es.length ≤ ci ∧ ci ≤ 9223372036854775807 ∧ EdsAt w B Ai ss[k].es := by
  obtain ⟨b, o, hA, hb', hE⟩ := h (by omega)
  obtain ⟨h0, h1, Ai, ci, h2, h3, h4, h5⟩ := hE k hk
  exact ⟨b, o, Ai, ci, hA, hb', fun w' hw => by rw [hw.cell (by simpa using hb')]; exact h0, fun w' hw => by rw [hw.cell (by simpa using hb')]; exact h1,
    fun w' hw => by rw [hw.cell (by simpa using hb')]; exact h2, h3, h4, h5⟩

theorem ofInt_i64 (a : Nat) (ha : a < 9223372036854775808) : (BitVec.ofInt 64 (a : Int)).toNat = a := by
  rw [BitVec.ofInt_natCast, BitVec.toNat_ofNat]; exact Nat.mod_eq_of_lt (by omega)
theorem bits_or {a b : Int} (ha : 0 ≤ a ∧ a < 9223372036854775808) (hb : 0 ≤ b ∧ b < 9223372036854775808) : bits .or .i64 a b = orB a b := by
  obtain ⟨a, rfl⟩ := Int.eq_ofNat_of_zero_le ha.1
  obtain ⟨b, rfl⟩ := Int.eq_ofNat_of_zero_le hb.1
  have hx : a ||| b < 2 ^ 63 := Nat.or_lt_two_pow (by omega) (by omega)
  show IntKind.i64.wrap ((BitVec.ofInt 64 (a : Int) ||| BitVec.ofInt 64 (b : Int)).toNat : Int) = _
  rw [BitVec.toNat_or, ofInt_i64 a (by omega), ofInt_i64 b (by omega), IntKind.wrap_i64]
  unfold orB
  simp only [Int.toNat_natCast]
  omega
theorem bits_and {a b : Int} (ha : 0 ≤ a ∧ a < 9223372036854775808) (hb : 0 ≤ b ∧ b < 9223372036854775808) : bits .and .i64 a b = andB a b := by
  obtain ⟨a, rfl⟩ := Int.eq_ofNat_of_zero_le ha.1
  obtain ⟨b, rfl⟩ := Int.eq_ofNat_of_zero_le hb.1
  have hx : a &&& b < 2 ^ 63 := Nat.and_lt_two_pow _ (by omega)
  show IntKind.i64.wrap ((BitVec.ofInt 64 (a : Int) &&& BitVec.ofInt 64 (b : Int)).toNat : Int) = _
  rw [BitVec.toNat_and, ofInt_i64 a (by omega), ofInt_i64 b (by omega), IntKind.wrap_i64]
  unfold andB
  simp only [Int.toNat_natCast]
  omega

/-- Block g is just the cells cs of element type t, none frozen. -/
def Blk (w : World) (g : Nat) (t : TypeId) (cs : Array Value) : Prop := w.heap[g]? = some (.cells cs t (0, 0))
section
variable {w w' : World} {g : Nat} {t : TypeId} {cs : Array Value}
theorem Blk.lt (h : Blk w g t cs) : g < w.heap.size := by
  rcases Nat.lt_or_ge g w.heap.size with hlt | hge
  · exact hlt
  · unfold Blk at h; rw [Array.getElem?_eq_none hge] at h; cases h
theorem Blk.cell (h : Blk w g t cs) (i : Nat) : w.cell? ⟨g, i, none⟩ = cs[i]? := cell_of_row w g i cs t (0, 0) h
theorem Blk.frozen (h : Blk w g t cs) (i : Nat) : w.frozen? ⟨g, i, none⟩ = false := by
  unfold Blk at h
  simp [World.frozen?, h]
theorem Blk.new (w : World) (t : TypeId) (cs : Array Value) : Blk (w.alloc (.cells cs t)) w.heap.size t cs := heap_alloc_new w _
theorem Blk.alloc (h : Blk w g t cs) (o : Obj) : Blk (w.alloc o) g t cs := (Below.heap_alloc w o g h.lt).trans h
theorem Blk.set_ (h : Blk w g t cs) (i : Nat) (u : Value) : Blk (w.setCell ⟨g, i, none⟩ u) g t (cs.setIfInBounds i u) := by
  unfold Blk at h ⊢
  simp [World.setCell, Array.getElem?_modify, h]
theorem Blk.below {B : Nat} (h : Blk w g t cs) (hb : Below B w w') (hg : g < B) : Blk w' g t cs := (hb.block g hg).trans h
end
theorem run_make_rowN {P : Program} (t e : TypeId) (i : TypeInfo) (z : Value) (ht : P.underlying t = some (.slice e)) (hi : P.info? e = some i) (hz : i.zero = some z)
    (kl kc : IntKind) (n c : Nat) (hnc : n ≤ c) (hbytes : i.bytes * c ≤ 281474976710656) (h63 : c ≤ 9223372036854775807) (w : World) :
    (Instr.makeSlice t (.int kl (n : Int)) (.int kc (c : Int))).run P w = .ok (.slice (some ⟨w.heap.size, 0, none⟩) n c) (w.alloc (.cells (madeCells z.cells (c * i.size)) e)) := by
  have hb : (i.bytes : Int) * (c : Int) ≤ 281474976710656 := by
    have h : ((i.bytes * c : Nat) : Int) ≤ 281474976710656 := by omega
    rwa [Int.natCast_mul] at h
  have hr := run_make (P := P) w t e i z ht hi hz kl kc n c (by omega) (by omega) hb (by omega)
  simp only [Int.toNat_natCast] at hr
  exact hr

/-- A slice of edges comes back; a system comes back; a slice of systems comes back. -/
def FreshA (n : Nat) (A : Option Addr) : Prop := ∀ b o, A = some ⟨b, o, none⟩ → n ≤ b
def EdsPost (es : List Ed) (w : World) (e : Ending) (w' : World) : Prop := ∃ A, e = .returned (.slice A es.length es.length) ∧ EdsAt w' w'.heap.size A es ∧ FreshA w.heap.size A ∧ Below w.heap.size w w'
def SyPost (s : Sy) (w : World) (e : Ending) (w' : World) : Prop := ∃ A, e = .returned (s.val A s.es.length) ∧ EdsAt w' w'.heap.size A s.es ∧ FreshA w.heap.size A ∧ Below w.heap.size w w'
theorem EdsAt.setFar {w : World} {n : Nat} {A : Option Addr} {es : List Ed} (h : EdsAt w w.heap.size A es) (hf : FreshA n A) {g i : Nat} (v : Value) (hg : g < n) : EdsAt (w.setCell ⟨g, i, none⟩ v) (w.setCell ⟨g, i, none⟩ v).heap.size A es := fun hl => by
  obtain ⟨b, o, hA, hb', hE⟩ := h hl
  have := hf b o hA
  refine ⟨b, o, hA, by simpa [World.setCell] using hb', fun j hj => ?_⟩
  have hne : (⟨g, i, none⟩ : Addr).block ≠ b := by simp; omega
  have hq : ∀ k, (w.setCell ⟨g, i, none⟩ v).cell? ⟨b, k, none⟩ = w.cell? ⟨b, k, none⟩ := fun k => World.cell?_of_block (Below.heap_setCell _ _ _ _ (Ne.symm hne))
  rw [hq, hq, hq]
  exact hE j hj
def SysPost (ss : List Sy) (w : World) (e : Ending) (w' : World) : Prop := ∃ A, e = .returned (.slice A ss.length ss.length) ∧ SysAt w' w'.heap.size A ss ∧ Below w.heap.size w w'

/-- The cells of the first k edges. -/
def EdsIn (cs : Array Value) (es : List Ed) (k : Nat) : Prop :=
  cs.size = es.length * 3 ∧ ∀ i (h : i < es.length), i < k → cs[i * 3]? = some (.int .i64 es[i].f) ∧ cs[i * 3 + 1]? = some (.int .i64 es[i].l) ∧ cs[i * 3 + 2]? = some (.int .i64 es[i].t)
theorem EdsIn.next {cs : Array Value} {es : List Ed} {k : Nat} (h : EdsIn cs es k) (hk : k < es.length) :
    EdsIn (((cs.setIfInBounds (k * 3) (.int .i64 es[k].f)).setIfInBounds (k * 3 + 1) (.int .i64 es[k].l)).setIfInBounds (k * 3 + 2) (.int .i64 es[k].t)) es (k + 1) := by
  obtain ⟨hs, hc⟩ := h
  refine ⟨by simpa using hs, fun i hi hik => ?_⟩
  by_cases e : i = k
  · subst e
    refine ⟨?_, ?_, ?_⟩
    · rw [Array.getElem?_setIfInBounds_ne (by omega), Array.getElem?_setIfInBounds_ne (by omega), Array.getElem?_setIfInBounds_self_of_lt (by omega)]
    · rw [Array.getElem?_setIfInBounds_ne (by omega), Array.getElem?_setIfInBounds_self_of_lt (by simp; omega)]
    · rw [Array.getElem?_setIfInBounds_self_of_lt (by simp; omega)]
  · obtain ⟨h0, h1, h2⟩ := hc i hi (by omega)
    refine ⟨?_, ?_, ?_⟩
    · rw [Array.getElem?_setIfInBounds_ne (by omega), Array.getElem?_setIfInBounds_ne (by omega), Array.getElem?_setIfInBounds_ne (by omega)]; exact h0
    · rw [Array.getElem?_setIfInBounds_ne (by omega), Array.getElem?_setIfInBounds_ne (by omega), Array.getElem?_setIfInBounds_ne (by omega)]; exact h1
    · rw [Array.getElem?_setIfInBounds_ne (by omega), Array.getElem?_setIfInBounds_ne (by omega), Array.getElem?_setIfInBounds_ne (by omega)]; exact h2
theorem EdsIn.at_ {w : World} {g : Nat} {t : TypeId} {cs : Array Value} {es : List Ed} (hb : Blk w g t cs) (h : EdsIn cs es es.length) : EdsAt w w.heap.size (some ⟨g, 0, none⟩) es := fun _ =>
  ⟨g, 0, rfl, hb.lt, fun i hi => by
    obtain ⟨h0, h1, h2⟩ := h.2 i hi hi
    simp only [Nat.zero_add]
    rw [hb.cell, hb.cell, hb.cell]
    exact ⟨h0, h1, h2⟩⟩

theorem Blk.some_ {w : World} {g : Nat} {t : TypeId} {cs : Array Value} (h : Blk w g t cs) {i : Nat} (hi : i < cs.size) : ∃ v, w.cell? ⟨g, i, none⟩ = some v := ⟨cs[i], by rw [h.cell]; exact Array.getElem?_eq_getElem hi⟩
/-- Three cells of a block of the call's own: they may be written. -/
theorem Blk.three {w w' : World} {g B : Nat} {t : TypeId} {cs : Array Value} (h : Blk w g t cs) (hb : Below B w w') (hg : g < B) {i : Nat} (hi : i + 2 < cs.size) :
    Blk w' g t cs ∧ (∃ v, w'.cell? ⟨g, i, none⟩ = some v) ∧ (∃ v, w'.cell? ⟨g, i + 1, none⟩ = some v) ∧ (∃ v, w'.cell? ⟨g, i + 2, none⟩ = some v) ∧
      w'.frozen? ⟨g, i, none⟩ = false ∧ w'.frozen? ⟨g, i + 1, none⟩ = false ∧ w'.frozen? ⟨g, i + 2, none⟩ = false := by
  have h' := h.below hb hg
  exact ⟨h', h'.some_ (by omega), h'.some_ (by omega), h'.some_ (by omega), h'.frozen _, h'.frozen _, h'.frozen _⟩

/-- The cells of the first k systems in block g; their edges lie in later blocks. -/
def SysIn (w : World) (g : Nat) (cs : Array Value) (ss : List Sy) (k : Nat) : Prop :=
  cs.size = ss.length * 3 ∧ ∀ i (h : i < ss.length), i < k → cs[i * 3]? = some (.int .i64 ss[i].al) ∧ cs[i * 3 + 1]? = some (.int .i64 ss[i].st) ∧
    ∃ Ai ci, cs[i * 3 + 2]? = some (.slice Ai ss[i].es.length ci) ∧ ss[i].es.length ≤ ci ∧ ci ≤ 9223372036854775807 ∧ EdsAt w w.heap.size Ai ss[i].es ∧ FreshA (g + 1) Ai
theorem SysIn.later {w w' : World} {g : Nat} {cs : Array Value} {ss : List Sy} {k : Nat} (h : SysIn w g cs ss k) (hb : Below w.heap.size w w') : SysIn w' g cs ss k :=
  ⟨h.1, fun i hi hik => by
    obtain ⟨h0, h1, Ai, ci, h2, h3, h4, h5, h6⟩ := h.2 i hi hik
    exact ⟨h0, h1, Ai, ci, h2, h3, h4, (h5.keep hb).more hb.size, h6⟩⟩
theorem SysIn.set_ {w : World} {g j : Nat} {cs : Array Value} {ss : List Sy} {k : Nat} (h : SysIn w g cs ss k) (v : Value) : SysIn (w.setCell ⟨g, j, none⟩ v) g cs ss k :=
  ⟨h.1, fun i hi hik => by
    obtain ⟨h0, h1, Ai, ci, h2, h3, h4, h5, h6⟩ := h.2 i hi hik
    exact ⟨h0, h1, Ai, ci, h2, h3, h4, h5.setFar h6 v (Nat.lt_succ_self g), h6⟩⟩
theorem SysIn.next {w : World} {g : Nat} {cs : Array Value} {ss : List Sy} {k : Nat} (h : SysIn w g cs ss k) (hk : k < ss.length) {A : Option Addr} {c : Nat} (hl : ss[k].es.length ≤ c) (hc : c ≤ 9223372036854775807) (hA : EdsAt w w.heap.size A ss[k].es) (hf : FreshA (g + 1) A) :
    SysIn w g (((cs.setIfInBounds (k * 3) (.int .i64 ss[k].al)).setIfInBounds (k * 3 + 1) (.int .i64 ss[k].st)).setIfInBounds (k * 3 + 2) (.slice A ss[k].es.length c)) ss (k + 1) := by
  obtain ⟨hs, hcs⟩ := h
  refine ⟨by simpa using hs, fun i hi hik => ?_⟩
  by_cases e : i = k
  · subst e
    refine ⟨?_, ?_, A, c, ?_, hl, hc, hA, hf⟩
    · rw [Array.getElem?_setIfInBounds_ne (by omega), Array.getElem?_setIfInBounds_ne (by omega), Array.getElem?_setIfInBounds_self_of_lt (by omega)]
    · rw [Array.getElem?_setIfInBounds_ne (by omega), Array.getElem?_setIfInBounds_self_of_lt (by simp; omega)]
    · rw [Array.getElem?_setIfInBounds_self_of_lt (by simp; omega)]
  · obtain ⟨h0, h1, Ai, ci, h2, h3, h4, h5, h6⟩ := hcs i hi (by omega)
    refine ⟨?_, ?_, Ai, ci, ?_, h3, h4, h5, h6⟩
    · rw [Array.getElem?_setIfInBounds_ne (by omega), Array.getElem?_setIfInBounds_ne (by omega), Array.getElem?_setIfInBounds_ne (by omega)]; exact h0
    · rw [Array.getElem?_setIfInBounds_ne (by omega), Array.getElem?_setIfInBounds_ne (by omega), Array.getElem?_setIfInBounds_ne (by omega)]; exact h1
    · rw [Array.getElem?_setIfInBounds_ne (by omega), Array.getElem?_setIfInBounds_ne (by omega), Array.getElem?_setIfInBounds_ne (by omega)]; exact h2
theorem SysIn.at_ {w : World} {g : Nat} {t : TypeId} {cs : Array Value} {ss : List Sy} (hb : Blk w g t cs) (h : SysIn w g cs ss ss.length) : SysAt w w.heap.size (some ⟨g, 0, none⟩) ss := fun _ =>
  ⟨g, 0, rfl, hb.lt, fun i hi => by
    obtain ⟨h0, h1, Ai, ci, h2, h3, h4, h5, _⟩ := h.2 i hi hi
    simp only [Nat.zero_add]
    rw [hb.cell, hb.cell, hb.cell]
    exact ⟨h0, h1, Ai, ci, h2, h3, h4, h5⟩⟩
theorem addr_ne {g b i j : Nat} (h : b ≠ g) : (⟨g, i, none⟩ : Addr) ≠ ⟨b, j, none⟩ := fun e => h (by injection e with e1; exact e1.symm)
/-- Stores into the call's own block do not turn what lies elsewhere: an edges' slice of another block. -/
theorem EdsAt.stored {w : World} {B : Nat} {A : Option Addr} {es : List Ed} (h : EdsAt w B A es) {g i : Nat} (v : Value) (hne : ∀ b o, A = some ⟨b, o, none⟩ → 0 < es.length → b ≠ g) : EdsAt (w.setCell ⟨g, i, none⟩ v) B A es := fun hl => by
  obtain ⟨b, o, hA, hb', hE⟩ := h hl
  have := hne b o hA hl
  refine ⟨b, o, hA, hb', fun j hj => ?_⟩
  rw [World.cell?_setCell_other (h := addr_ne this), World.cell?_setCell_other (h := addr_ne this), World.cell?_setCell_other (h := addr_ne this)]
  exact hE j hj

theorem EdsAt.later {w w' : World} {A : Option Addr} {es : List Ed} (h : EdsAt w w.heap.size A es) (hb : Below w.heap.size w w') : EdsAt w' w'.heap.size A es := (h.keep hb).more hb.size
theorem SysAt.later {w w' : World} {A : Option Addr} {ss : List Sy} (h : SysAt w w.heap.size A ss) (hb : Below w.heap.size w w') : SysAt w' w'.heap.size A ss := (h.keep hb).more hb.size

/-- The cells of a table of moves behind the first k edges; the table, below block B. -/
def MvIn (cs : Array Value) (m : Nat → Nat → Nat) : Prop := cs.size = 96 ∧ ∀ q l, q < 16 → l < 6 → cs[q * 6 + l]? = some (.int .i64 (m q l))
theorem MvIn.set_ {cs : Array Value} {m m' : Nat → Nat → Nat} (h : MvIn cs m) {q0 l0 : Nat} (hq : q0 < 16) (hl : l0 < 6) {v : Int} (hv : v = (m' q0 l0 : Int)) (ho : ∀ q l, ¬ (q0 = q ∧ l0 = l) → m' q l = m q l) : MvIn (cs.setIfInBounds (q0 * 6 + l0) (.int .i64 v)) m' := by
  refine ⟨by simpa using h.1, fun q l h1 h2 => ?_⟩
  by_cases e : q0 = q ∧ l0 = l
  · obtain ⟨rfl, rfl⟩ := e
    rw [Array.getElem?_setIfInBounds_self_of_lt (by rw [h.1]; omega), hv]
  · rw [Array.getElem?_setIfInBounds_ne (by omega), h.2 q l h1 h2, ho q l e]
def MvAt (w : World) (B : Nat) (g : Nat) (m : Nat → Nat → Nat) : Prop := g < B ∧ ∀ q l, q < 16 → l < 6 → w.cell? ⟨g, q * 6 + l, none⟩ = some (.int .i64 (m q l))
theorem MvAt.keep {w w' : World} {B g : Nat} {m : Nat → Nat → Nat} (h : MvAt w B g m) (hb : Below B w w') : MvAt w' B g m := ⟨h.1, fun q l h1 h2 => by rw [hb.cell (by simpa using h.1)]; exact h.2 q l h1 h2⟩
theorem MvAt.later {w w' : World} {g : Nat} {m : Nat → Nat → Nat} (h : MvAt w w.heap.size g m) (hb : Below w.heap.size w w') : MvAt w' w'.heap.size g m := ⟨Nat.lt_of_lt_of_le h.1 hb.size, (h.keep hb).2⟩
def MvPost (m : Nat → Nat → Nat) (w : World) (e : Ending) (w' : World) : Prop := ∃ g, e = .returned (.pointer (some ⟨g, 0, none⟩)) ∧ MvAt w' w'.heap.size g m ∧ Below w.heap.size w w'

/-- A search's result: not below 0 exactly where b. -/
def IdxPost (b : Bool) (w : World) (e : Ending) (w' : World) : Prop := ∃ r : Int, e = .returned (.int .i64 r) ∧ decide (0 ≤ r) = b ∧ Below w.heap.size w w'

theorem hid {p : Prop} (h : p) : Hid p := h

theorem ret_bool {a b : Bool} (h : a = b) : Ending.returned (.bool a) = .returned (.bool b) := by rw [h]
theorem ret_int {k : IntKind} {a b : Int} (h : a = b) : Ending.returned (.int k a) = .returned (.int k b) := by rw [h]

theorem ofInt_and_one (x : Int) : bits .and .i64 x 1 = x % 2 := by
  show IntKind.i64.wrap ((BitVec.ofInt 64 x &&& BitVec.ofInt 64 1).toNat : Int) = _
  have h1 : (BitVec.ofInt 64 x &&& BitVec.ofInt 64 1).toNat = (x % 2).toNat := by
    have e1 : (BitVec.ofInt 64 1).toNat = 2 ^ 1 - 1 := by decide
    rw [BitVec.toNat_and, e1, Nat.and_two_pow_sub_one_eq_mod, BitVec.toNat_ofInt]
    omega
  rw [h1, IntKind.wrap_i64]
  omega

theorem wrap_pow {n : Nat} (h : n ≤ 61) : wrap64 ((2 : Int) ^ n) = ((2 ^ n : Nat) : Int) := by
  have h1 : 2 ^ n ≤ 2 ^ 61 := Nat.pow_le_pow_right (by omega) h
  have e : ((2 : Int) ^ n) = ((2 ^ n : Nat) : Int) := by rw [Int.natCast_pow]; rfl
  rw [e]
  generalize 2 ^ n = m at *
  exact IntWalk.wrap64_in _ ⟨by omega, by omega⟩
theorem bits_orN (a b : Nat) (ha : a < 65536) (hb : b < 65536) : bits .or .i64 (a : Int) (b : Int) = ((a ||| b : Nat) : Int) := by
  have hx : a ||| b < 2 ^ 16 := Nat.or_lt_two_pow (by omega) (by omega)
  show IntKind.i64.wrap ((BitVec.ofInt 64 (a : Int) ||| BitVec.ofInt 64 (b : Int)).toNat : Int) = _
  rw [BitVec.toNat_or, BitVec.ofInt_natCast, BitVec.ofInt_natCast, BitVec.toNat_ofNat, BitVec.toNat_ofNat, Nat.mod_eq_of_lt (by omega), Nat.mod_eq_of_lt (by omega), IntKind.wrap_i64]
  omega

theorem bits_andN (a b : Nat) (ha : a < 65536) (hb : b < 65536) : bits .and .i64 (a : Int) (b : Int) = ((a &&& b : Nat) : Int) := by
  have hx : a &&& b < 2 ^ 16 := Nat.and_lt_two_pow _ (by omega)
  show IntKind.i64.wrap ((BitVec.ofInt 64 (a : Int) &&& BitVec.ofInt 64 (b : Int)).toNat : Int) = _
  rw [BitVec.toNat_and, BitVec.ofInt_natCast, BitVec.ofInt_natCast, BitVec.toNat_ofNat, BitVec.toNat_ofNat, Nat.mod_eq_of_lt (by omega), Nat.mod_eq_of_lt (by omega), IntKind.wrap_i64]
  omega

theorem and_one_has (a : Int) (n : Nat) : (bits .and .i64 (a / (2 : Int) ^ n) 1 == 1) = Has a n := by
  rw [ofInt_and_one]; unfold Has; rw [Bool.eq_iff_iff]; simp

end AG

/- Contracts of the small functions on letters, edges and systems (the reference's). -/
namespace Go.Proofs.YtempjhgajcdibaaDoor
open Go.RowKit AG

set_option maxHeartbeats 400000 in
theorem l1Alphabet_any (a : Int) (w : World) :
    Calls Tryd.prog 126 #[.int .i64 a] w fun e w' => e = .returned (.bool (alphaOk a)) ∧ w = w' := by
  go_enter Tryd.func126, Tryd.ntmps126
  go_wp2
  all_goals go_ret
  all_goals exact ⟨ret_bool (by unfold alphaOk; simp; omega), rfl⟩

set_option maxHeartbeats 400000 in
theorem l1Has_any (a n : Int) (w : World) (h0 : 0 ≤ n) (h1 : n ≤ 63) :
    Calls Tryd.prog 95 #[.int .i64 a, .int .i64 n] w fun e w' => e = .returned (.bool (Has a n.toNat)) ∧ w = w' := by
  go_enter Tryd.func95, Tryd.ntmps95
  go_wp2
  go_ret
  exact ⟨ret_bool (and_one_has _ _), rfl⟩

set_option maxHeartbeats 400000 in
theorem l2Before_any (a b : Ed) (w : World) :
    Calls Tryd.prog 142 #[a.val, b.val] w fun e w' => e = .returned (.bool (edgeLt a b)) ∧ Below w.heap.size w w' := by
  unfold Ed.val
  go_enter Tryd.func142, Tryd.ntmps142
  go_wp2
  all_goals go_ret
  all_goals exact ⟨ret_bool (by unfold edgeLt; simp_all), by (repeat (first | exact Below.refl _ _ | assumption | refine Below.drew ?_ | refine Below.alloc ?_ (by first | omega | (simp; done) | (simp; omega)) _ | refine Below.setCell ?_ (by first | omega | (simp; done) | (simp; omega)) _))⟩

set_option maxHeartbeats 400000 in
theorem l2Edge_any (al st : Int) (a : Ed) (w : World) :
    Calls Tryd.prog 141 #[.int .i64 al, .int .i64 st, a.val] w fun e w' => e = .returned (.bool (edgeOk al st a)) ∧ Below w.heap.size w w' := by
  unfold Ed.val
  go_enter Tryd.func141, Tryd.ntmps141
  go_wp2_with (go_at_call 95; refine (l1Has_any _ _ _ (by omega) (by omega)).mono ?_; rintro e w' ⟨rfl, rfl⟩)
  all_goals go_ret
  all_goals refine ⟨ret_bool (by unfold edgeOk; simp; omega), by (repeat (first | exact Below.refl _ _ | assumption | refine Below.drew ?_ | refine Below.alloc ?_ (by first | omega | (simp; done) | (simp; omega)) _ | refine Below.setCell ?_ (by first | omega | (simp; done) | (simp; omega)) _))⟩

end Go.Proofs.YtempjhgajcdibaaDoor

/- Words for memory: all old blocks but a few are as they were. -/
namespace AG
open Go Go.RowKit

/-- All old blocks but those of K are as they were. -/
structure KeepB (K : Nat → Prop) (w w' : World) : Prop where
  os : w'.os = w.os
  tape : w'.tape = w.tape
  output : w'.output = w.output
  size : w.heap.size ≤ w'.heap.size
  block : ∀ k, k < w.heap.size → ¬ K k → w'.heap[k]? = w.heap[k]?
theorem KeepB.refl (K : Nat → Prop) (w : World) : KeepB K w w := ⟨rfl, rfl, rfl, Nat.le_refl _, fun _ _ _ => rfl⟩
theorem KeepB.trans {K : Nat → Prop} {a b c : World} (h : KeepB K a b) (k : KeepB K b c) : KeepB K a c :=
  ⟨k.os.trans h.os, k.tape.trans h.tape, k.output.trans h.output, Nat.le_trans h.size k.size, fun i hi hne => (k.block i (Nat.lt_of_lt_of_le hi h.size) hne).trans (h.block i hi hne)⟩
theorem KeepB.mono {K K' : Nat → Prop} {a b : World} (h : KeepB K a b) (hK : ∀ k, K k → K' k) : KeepB K' a b := ⟨h.os, h.tape, h.output, h.size, fun i hi hne => h.block i hi fun hk => hne (hK i hk)⟩
theorem KeepB.of_below {K : Nat → Prop} {a b : World} (h : Below a.heap.size a b) : KeepB K a b := ⟨h.os, h.tape, h.output, h.size, fun i hi _ => h.block i hi⟩
theorem KeepB.below {K : Nat → Prop} {B : Nat} {w a b : World} (hb : Below B w a) (h : KeepB K a b) (hB : B ≤ a.heap.size) (hK : ∀ k, K k → B ≤ k) : Below B w b :=
  hb.trans ⟨h.os, h.tape, h.output, h.size, fun i hi => h.block i (by omega) fun hk => by have := hK i hk; omega⟩
theorem KeepB.of_grown {K : Nat → Prop} {a b : World} {row : Option Nat} (h : a.grownBy b row) (hK : ∀ k, row = some k → k < a.heap.size → K k) : KeepB K a b :=
  ⟨h.os, h.tape, h.output, h.size, fun i hi hne => h.block i hi fun e => hne (hK i e.symm hi)⟩
/-- .. from a world a that began earlier: blocks made since may be written. -/
theorem KeepB.grown {K : Nat → Prop} {w a b : World} {row : Option Nat} (hk : KeepB K w a) (h : a.grownBy b row) (hK : ∀ k, row = some k → k < w.heap.size → K k) : KeepB K w b :=
  ⟨h.os.trans hk.os, h.tape.trans hk.tape, h.output.trans hk.output, Nat.le_trans hk.size h.size, fun i hi hne => (h.block i (Nat.lt_of_lt_of_le hi hk.size) fun e => hne (hK i e.symm hi)).trans (hk.block i hi hne)⟩
theorem KeepB.setCell {K : Nat → Prop} {w a : World} (hk : KeepB K w a) (p : Addr) (v : Value) (hK : p.block < w.heap.size → K p.block) : KeepB K w (a.setCell p v) :=
  ⟨hk.os, hk.tape, hk.output, by simpa using hk.size, fun i hi hne => by
    rw [Below.heap_setCell _ _ _ _ (fun e => hne (by rw [e]; exact hK (by rw [← e]; exact hi)))]
    exact hk.block i hi hne⟩
theorem KeepB.alloc {K : Nat → Prop} {w a : World} (hk : KeepB K w a) (o : Obj) : KeepB K w (a.alloc o) :=
  ⟨hk.os, hk.tape, hk.output, by have := hk.size; simp; omega, fun i hi hne => by
    rw [Below.heap_alloc a o i (Nat.lt_of_lt_of_le hi hk.size)]
    exact hk.block i hi hne⟩

theorem Blk.keep {K : Nat → Prop} {w w' : World} {g : Nat} {t : TypeId} {cs : Array Value} (h : Blk w g t cs) (hk : KeepB K w w') (hg : ¬ K g) : Blk w' g t cs := (hk.block g h.lt hg).trans h
theorem Blk.ne {w : World} {g g' : Nat} {t t' : TypeId} {cs cs' : Array Value} (h : Blk w g t cs) (h' : Blk w g' t' cs') (ht : t ≠ t') : g ≠ g' := fun e => by
  subst e
  have := h.symm.trans h'
  simp at this
  exact ht this.2
theorem own_keep {K : Nat → Prop} {w w' : World} {base : Nat} {e : TypeId} {size : Nat} {v : Value} {n : Nat} {xs : List Value} (h : w.ownsRow base e size v n xs) (hk : KeepB K w w') (hv : ∀ g, v.ownBlock = some g → ¬ K g) : w'.ownsRow base e size v n xs := by
  refine ⟨h.1, ?_⟩
  rcases h.2 with hn | ⟨g, cap, cur, rfl, hb, hgg, rest⟩
  · exact .inl hn
  · refine .inr ⟨g, cap, cur, rfl, hb, ?_, rest⟩
    rw [hk.block g (Array.getElem?_eq_some_iff.1 hgg).1 (hv g rfl)]
    exact hgg
theorem own_base {w : World} {base base' : Nat} {e : TypeId} {size : Nat} {v : Value} {n : Nat} {xs : List Value} (h : w.ownsRow base e size v n xs) (hb : base' ≤ base) : w.ownsRow base' e size v n xs := by
  refine ⟨h.1, ?_⟩
  rcases h.2 with hn | ⟨g, cap, cur, rfl, hg, rest⟩
  · exact .inl hn
  · exact .inr ⟨g, cap, cur, rfl, Nat.le_trans hb hg, rest⟩
theorem own_ne {w : World} {base : Nat} {e : TypeId} {size : Nat} {v : Value} {n : Nat} {xs : List Value} {g : Nat} {t : TypeId} {cs : Array Value} (h : w.ownsRow base e size v n xs) (hb : Blk w g t cs) (ht : e ≠ t) : ∀ k, v.ownBlock = some k → k ≠ g := by
  intro k hk
  rcases h.2 with ⟨rfl, _⟩ | ⟨g', cap, cur, rfl, _, hgg, _⟩
  · cases hk
  · cases hk
    exact Blk.ne (show Blk w g' e cur from hgg) hb ht
theorem own_ne_own {w : World} {base base' : Nat} {e e' : TypeId} {size size' : Nat} {v v' : Value} {n n' : Nat} {xs xs' : List Value} (h : w.ownsRow base e size v n xs) (h' : w.ownsRow base' e' size' v' n' xs') (ht : e ≠ e') : ∀ k k', v.ownBlock = some k → v'.ownBlock = some k' → k ≠ k' := by
  intro k k' hk hk'
  rcases h'.2 with ⟨rfl, _⟩ | ⟨g', cap, cur, rfl, _, hgg, _⟩
  · cases hk'
  · cases hk'
    exact own_ne h (show Blk w g' e' cur from hgg) ht k hk

end AG

/- A statement that draws its order: its first n operations read, reckon or make memory (calls that make memory among them); behind them the others come one by one. One walk in the order of the text serves every order. -/
namespace AG
open Go Go.RowKit
section
variable {P : Program} {ops : Array Oper} {md : Region.Mode} {n B : Nat} {w0 : World} {sp : Nat → Value → World → Prop} {nw : Nat → Bool}

/-- A fact that stays whatever memory is made. -/
def Steady (F : World → Prop) : Prop := ∀ w w', Below w.heap.size w w' → F w → F w'

def predsOf (md : Region.Mode) (ops : Array Oper) (j : Nat) : List Nat :=
  match ops[j]? with
  | some o => (o.after.toList.filter (Region.binds md)).map (·.on)
  | none => []
def upset (md : Region.Mode) (ops : Array Oper) : Nat → List Nat → List Nat
  | 0, S => S
  | f + 1, S => upset md ops f ((S ++ S.flatMap (predsOf md ops)).eraseDups)
/-- Operation j waits for operation k, at once or through others. -/
def depB (md : Region.Mode) (ops : Array Oper) (j k : Nat) : Bool := (upset md ops 6 (predsOf md ops j)).contains k
def dstOf (ops : Array Oper) (k : Nat) : Option Tmp := (ops[k]?).bind (·.dst)
def looksOf (ops : Array Oper) (k : Nat) : List Tmp := match ops[k]? with | some o => o.looksAt ops | none => []

def canon (ops : Array Oper) (n : Nat) : Array Bool := ((List.range ops.size).map fun k => decide (k < n)).toArray
def growB (md : Region.Mode) (ops : Array Oper) (n : Nat) : Bool :=
  Region.noSelect ops && (decide (n = ops.size) || (decide (n < ops.size) && (Region.sinkB md ops n && Region.chainB md ops n))) && Region.seqB md ops (ops.size - n) n (canon ops n) &&
  (List.range n).all fun j => (predsOf md ops j).all (fun k => decide (k < j)) && (List.range n).all fun k =>
    match dstOf ops k with
    | none => true
    | some t => (k == j || dstOf ops j != some t) && (!(looksOf ops j).contains t || (predsOf md ops j).contains k)

theorem upset_in {L : Nat → Bool} (hc : ∀ j, L j = true → ∀ k ∈ predsOf md ops j, L k = true) : ∀ (f : Nat) (S : List Nat), (∀ x ∈ S, L x = true) → ∀ x ∈ upset md ops f S, L x = true := by
  intro f
  induction f with
  | zero => intro S h; exact h
  | succ f ih =>
    intro S h
    refine ih _ fun x hx => ?_
    have hx' := List.mem_eraseDups.1 hx
    rcases List.mem_append.1 hx' with h1 | h1
    · exact h x h1
    · obtain ⟨y, hy, hxy⟩ := List.mem_flatMap.1 h1
      exact hc y (h y hy) x hxy

/-- The frame a is the frame a0 but for what the operations of S have left. -/
structure Pt (ops : Array Oper) (n : Nat) (S : Nat → Bool) (v : Nat → Value) (a0 a : Act) : Prop where
  defers : a.defers = a0.defers
  hit : ∀ k t, k < n → S k = true → dstOf ops k = some t → a.tmps[t]? = (a0.tmps[t]?).map fun _ => v k
  miss : ∀ t, (∀ k, k < n → S k = true → dstOf ops k ≠ some t) → a.tmps[t]? = a0.tmps[t]?

def ins (S : Nat → Bool) (j : Nat) : Nat → Bool := fun k => k == j || S k
def upd (v : Nat → Value) (j : Nat) (u : Value) : Nat → Value := fun k => if k = j then u else v k

theorem set_get (xs : Array Value) (t : Nat) (u : Value) : (xs.setIfInBounds t u)[t]? = (xs[t]?).map fun _ => u := by
  rw [Array.getElem?_setIfInBounds]
  by_cases h : t < xs.size
  · simp [h]
  · simp [h]

theorem Pt.put {S : Nat → Bool} {v : Nat → Value} {a0 a : Act} {j : Nat} {oj : Oper} {u : Value} (h : Pt ops n S v a0 a) (hd : ∀ i k t, i < n → k < n → dstOf ops i = some t → dstOf ops k = some t → i = k)
    (hj : j < n) (hS : S j = false) (ho : ops[j]? = some oj) : Pt ops n (ins S j) (upd v j u) a0 (a.put oj.dst u) := by
  have hdj : dstOf ops j = oj.dst := by simp [dstOf, ho]
  have hsk : ∀ k, S k = true → k ≠ j := fun k hk e => by rw [e, hS] at hk; cases hk
  refine ⟨?_, fun k t hk hSk hdk => ?_, fun t hm => ?_⟩
  · cases oj.dst <;> exact h.defers
  · by_cases e : k = j
    · subst e
      have hm := h.miss t fun i hi hSi hdi => hsk i hSi (hd i k t hi hk hdi hdk)
      rw [hdj] at hdk
      simp only [hdk, Act.put, upd, if_true]
      rw [set_get, hm]
    · have hSk' : S k = true := by simpa [ins, e] using hSk
      have hh := h.hit k t hk hSk' hdk
      simp only [upd, if_neg e]
      rw [← hh]
      cases hdd : oj.dst with
      | none => rfl
      | some d =>
        have hne : d ≠ t := fun e' => by subst e'; exact e (hd k j d hk hj hdk (by rw [hdj, hdd]))
        simp only [Act.put]
        rw [Array.getElem?_setIfInBounds_ne hne]
  · have h1 := h.miss t fun k hk hSk => hm k hk (by simp [ins, hSk])
    rw [← h1]
    cases hdd : oj.dst with
    | none => rfl
    | some d =>
      have hne : d ≠ t := fun e' => by subst e'; exact hm j hj (by simp [ins]) (by rw [hdj, hdd])
      simp only [Act.put]
      rw [Array.getElem?_setIfInBounds_ne hne]

theorem Pt.agree {S S' : Nat → Bool} {v v' : Nat → Value} {a0 a a' : Act} (h : Pt ops n S v a0 a) (h' : Pt ops n S' v' a0 a') {t : Nat}
    (ht : ∀ k, k < n → dstOf ops k = some t → S k = S' k ∧ (S k = true → v k = v' k)) : a.tmps[t]? = a'.tmps[t]? := by
  by_cases e : ∃ k, k < n ∧ S k = true ∧ dstOf ops k = some t
  · obtain ⟨k, hk, hS, hd⟩ := e
    obtain ⟨h1, h2⟩ := ht k hk hd
    rw [h.hit k t hk hS hd, h'.hit k t hk (h1 ▸ hS) hd, h2 hS]
  · rw [h.miss t fun k hk hS hd => e ⟨k, hk, hS, hd⟩, h'.miss t fun k hk hS hd => e ⟨k, hk, by rw [(ht k hk hd).1]; exact hS, hd⟩]

theorem look_same {a a' : Act} {o : Oper} (hs : ∀ cs b, o.op ≠ .select cs b) (h : ∀ t ∈ o.looksAt ops, a.tmps[t]? = a'.tmps[t]?) :
    execOp a.eval o = execOp a'.eval o ∧ Region.wanted o (yielded ops a.tmps) = Region.wanted o (yielded ops a'.tmps) := by
  refine ⟨execOp_congr o hs fun x hx => ?_, ?_⟩
  · cases x with
    | tmp t =>
      have := h t (List.mem_append_left _ (List.mem_filterMap.2 ⟨.tmp t, by simpa using hx, rfl⟩))
      simp only [Act.eval, Array.getD_eq_getD_getElem?, this]
    | _ => rfl
  · unfold Region.wanted
    cases hg : o.guard with
    | none => rfl
    | some gw =>
      obtain ⟨g, want⟩ := gw
      have hy : yielded ops a.tmps g = yielded ops a'.tmps g := by
        unfold yielded
        cases ht : (ops[g]?).bind (·.dst) with
        | none => rfl
        | some t =>
          have := h t (by simp [Oper.looksAt, hg, ht])
          simp only [Option.bind_some, this]
      simp only [hy]

/-- The block that a pointer or a slice leads to. -/
def blockOf : Value → Option Nat
  | .pointer (some a) => some a.block
  | .slice (some a) _ _ => some a.block
  | _ => none
/-- What an operation that calls no Go function yields. -/
def fnUpon (Z : Value → World → Prop) : Result Next → Prop
  | .ok (.value u) w' => Z u w'
  | .ok .skip w' => Z undef w'
  | _ => False
/-- What a call of a Go function yields. -/
def callUpon (P : Program) (w : World) (R : Ending → World → Prop) : Result Next → Prop
  | .ok (.enter f args) w' => w' = w ∧ Calls P f args w R
  | _ => False
def FactsAt (md : Region.Mode) (ops : Array Oper) (i : Nat) (Γ : List (Nat × (World → Prop))) (w : World) : Prop := ∀ p ∈ Γ, depB md ops i p.1 = true → p.2 w

/-- The walk in the order of the text; L: the operations that have been carried out already (none, for who walks). -/
def Res (P : Program) (md : Region.Mode) (ops : Array Oper) (B : Nat) (w0 : World) (sp : Nat → Value → World → Prop) (nw : Nat → Bool) (L : Nat → Bool) (val : Nat → Value) (wr : World)
    (Q : List (Nat × (World → Prop)) → Act → Prop) : List Oper → Nat → List (Nat × (World → Prop)) → Act → Prop
  | [], _, Γ, a => Q Γ a
  | o :: rest, i, Γ, a =>
    if Region.wanted o (yielded ops a.tmps) = true then
      (∃ v, nw i = false ∧ (∀ w, Below B w0 w → fnUpon (fun u w' => u = v ∧ w' = w) ((execOp a.eval o).run P w)) ∧ (L i = true → val i = v) ∧ Res P md ops B w0 sp nw L val wr Q rest (i + 1) Γ (a.put o.dst v)) ∨
      (∃ Z : Value → World → Prop, (∀ u, Steady (Z u)) ∧ (∀ w, Below B w0 w → FactsAt md ops i Γ w → fnUpon (fun u w' => (Below w.heap.size w w' ∧ (nw i = true → blockOf u = some w.heap.size ∧ w.heap.size < w'.heap.size)) ∧ Z u w') ((execOp a.eval o).run P w)) ∧ (L i = true → Z (val i) wr) ∧
        ∀ u, (L i = true → u = val i) → (L i = false → ∃ w', Below B w0 w' ∧ Z u w') → Res P md ops B w0 sp nw L val wr Q rest (i + 1) ((i, Z u) :: Γ) (a.put o.dst u)) ∨
      (nw i = false ∧ (∀ u, Steady (sp i u)) ∧ (∀ w, Below B w0 w → FactsAt md ops i Γ w → callUpon P w (fun e w' => ∃ u, e = .returned u ∧ Below w.heap.size w w' ∧ sp i u w') ((execOp a.eval o).run P w)) ∧ (L i = true → sp i (val i) wr) ∧
        ∀ u, (L i = true → u = val i) → (L i = false → ∃ w', Below B w0 w' ∧ sp i u w') → Res P md ops B w0 sp nw L val wr Q rest (i + 1) ((i, sp i u) :: Γ) (a.put o.dst u))
    else nw i = false ∧ (L i = true → val i = undef) ∧ Res P md ops B w0 sp nw L val wr Q rest (i + 1) Γ (a.put o.dst undef)

variable {Q : List (Nat × (World → Prop)) → Act → Prop}

/-- Behind the place of what was carried out last: only the world has moved on. -/
theorem Res.later {L L' : Nat → Bool} {val val' : Nat → Value} {wr w1 : World} (hb : Below wr.heap.size wr w1) : ∀ (l : List Oper) (i : Nat) (Γ : List (Nat × (World → Prop))) (a : Act),
    (∀ k, i ≤ k → L' k = L k ∧ val' k = val k) → Res P md ops B w0 sp nw L val wr Q l i Γ a → Res P md ops B w0 sp nw L' val' w1 Q l i Γ a := by
  intro l
  induction l with
  | nil => intro i Γ a _ h; exact h
  | cons o rest ih =>
    intro i Γ a he h
    obtain ⟨hL, hv⟩ := he i (Nat.le_refl i)
    have he' : ∀ k, i + 1 ≤ k → L' k = L k ∧ val' k = val k := fun k hk => he k (by omega)
    unfold Res at h ⊢
    rw [hL, hv]
    split
    · rename_i hw
      rw [if_pos hw] at h
      rcases h with ⟨v, hnw, h1, h2, h3⟩ | ⟨Z, hs, h1, h2, h3⟩ | ⟨hnw, hs, h1, h2, h3⟩
      · exact .inl ⟨v, hnw, h1, h2, ih _ _ _ he' h3⟩
      · exact .inr (.inl ⟨Z, hs, h1, fun h => hs _ _ _ hb (h2 h), fun u hu hu' => ih _ _ _ he' (h3 u hu hu')⟩)
      · exact .inr (.inr ⟨hnw, hs, h1, fun h => hs _ _ _ hb (h2 h), fun u hu hu' => ih _ _ _ he' (h3 u hu hu')⟩)
    · rename_i hw
      rw [if_neg hw] at h
      exact ⟨h.1, h.2.1, ih _ _ _ he' h.2.2⟩

/-- What the check says. -/
structure GrowOk (md : Region.Mode) (ops : Array Oper) (n : Nat) : Prop where
  sel : Region.noSelect ops = true
  size : n ≤ ops.size
  tail : n = ops.size ∨ (n < ops.size ∧ Region.sinkB md ops n = true ∧ Region.chainB md ops n = true)
  seq : Region.seqB md ops (ops.size - n) n (canon ops n) = true
  back : ∀ j, j < n → ∀ k ∈ predsOf md ops j, k < j
  one : ∀ i k t, i < n → k < n → dstOf ops i = some t → dstOf ops k = some t → i = k
  seen : ∀ j k t, j < n → k < n → dstOf ops k = some t → t ∈ looksOf ops j → k ∈ predsOf md ops j

theorem growB_ok (h : growB md ops n = true) : GrowOk md ops n := by
  unfold growB at h
  simp only [Bool.and_eq_true, Bool.or_eq_true, decide_eq_true_eq] at h
  obtain ⟨⟨⟨h1, h2⟩, h3⟩, h4⟩ := h
  have key : ∀ j, j < n → _ := fun j hj => List.all_eq_true.1 h4 j (List.mem_range.2 hj)
  simp only [Bool.and_eq_true] at key
  refine ⟨h1, by rcases h2 with h2 | h2 <;> omega, by simpa using h2, h3, fun j hj k hk => by simpa using List.all_eq_true.1 (key j hj).1 k hk, fun i k t hi hk hdi hdk => ?_, fun j k t hj hk hd ht => ?_⟩
  · have := List.all_eq_true.1 (key i hi).2 k (List.mem_range.2 hk)
    simp only [hdk, hdi, Bool.and_eq_true, Bool.or_eq_true, beq_iff_eq, bne_self_eq_false, Bool.false_eq_true, or_false] at this
    exact this.1.symm
  · have := List.all_eq_true.1 (key j hj).2 k (List.mem_range.2 hk)
    simp only [hd, Bool.and_eq_true, Bool.or_eq_true] at this
    rcases this.2 with h | h
    · simp [ht] at h
    · simpa using h

/-- The frames of two ways look the same to an operation whose callers have all come up. -/
theorem GrowOk.same {L : Nat → Bool} {val vh : Nat → Value} {a0 ar a : Act} {j : Nat} {oj : Oper} (g : GrowOk md ops n) (hr : Pt ops n L val a0 ar) (hl : Pt ops n (fun k => decide (k < j)) vh a0 a) (hj : j < n)
    (ho : ops[j]? = some oj) (hp : ∀ k ∈ predsOf md ops j, L k = true) (hv : ∀ k, k < j → L k = true → vh k = val k) :
    execOp a.eval oj = execOp ar.eval oj ∧ Region.wanted oj (yielded ops a.tmps) = Region.wanted oj (yielded ops ar.tmps) := by
  refine look_same (Region.noSelect_spec g.sel j oj · · ho) fun t ht => hl.agree hr fun k hk hd => ?_
  have hm := g.seen j k t hj hk hd (by simpa [looksOf, ho] using ht)
  have hlt := g.back j hj k hm
  have hLk := hp k hm
  exact ⟨by simp [hlt, hLk], fun _ => hv k hlt hLk⟩

/-- Some way leads to operation j. -/
theorem Res.reach {L : Nat → Bool} {val : Nat → Value} {wr : World} {a0 : Act} {j : Nat} {oj : Oper} (g : GrowOk md ops n) (hBw : B ≤ w0.heap.size) (hj : j < n) (ho : ops[j]? = some oj) :
    ∀ (l : List Oper) (i : Nat) (Γ : List (Nat × (World → Prop))) (a : Act) (vh : Nat → Value) (wh : World), (∀ m, m < l.length → l[m]? = ops[i + m]?) → i + l.length = n → i ≤ j → Res P md ops B w0 sp nw L val wr Q l i Γ a →
      Pt ops n (fun k => decide (k < i)) vh a0 a → (∀ k, k < i → L k = true → vh k = val k) → (∀ p ∈ Γ, Steady p.2) → (∀ p ∈ Γ, L p.1 = true → p.2 wr) → Below wr.heap.size wr wh → Below B w0 wh → (∀ p ∈ Γ, p.2 wh) →
      ∃ rest Γj aj vj, Res P md ops B w0 sp nw L val wr Q (oj :: rest) j Γj aj ∧ Pt ops n (fun k => decide (k < j)) vj a0 aj ∧ (∀ k, k < j → L k = true → vj k = val k) ∧ (∀ p ∈ Γj, L p.1 = true → p.2 wr) := by
  intro l
  induction l with
  | nil => intro i Γ a vh wh _ hn hij; simp at hn; omega
  | cons o rest ih =>
    intro i Γ a vh wh hl hn hij h hpt hv hst hlr hrh hBh hfh
    have hio : ops[i]? = some o := by simpa using (hl 0 (by simp)).symm
    by_cases e : i = j
    · subst e
      obtain rfl : o = oj := Option.some.inj (hio.symm.trans ho)
      exact ⟨rest, Γ, a, vh, h, hpt, hv, hlr⟩
    · have hlt : i < j := by omega
      have hin : i < n := by omega
      have hl' : ∀ m, m < rest.length → rest[m]? = ops[i + 1 + m]? := fun m hm => by
        have := hl (m + 1) (by simp; omega)
        simpa [Nat.add_assoc, Nat.add_comm 1 m] using this
      have hn' : i + 1 + rest.length = n := by simp at hn; omega
      have hput : ∀ u, Pt ops n (fun k => decide (k < i + 1)) (upd vh i u) a0 (a.put o.dst u) := fun u => by
        have := hpt.put (u := u) g.one hin (by simp) hio
        have e2 : ins (fun k => decide (k < i)) i = fun k => decide (k < i + 1) := by
          funext k; simp only [ins]; rw [Bool.eq_iff_iff]; simp; omega
        rwa [e2] at this
      have hvu : ∀ u, (L i = true → u = val i) → ∀ k, k < i + 1 → L k = true → upd vh i u k = val k := fun u hu k hk hLk => by
        unfold upd
        by_cases e : k = i
        · subst e; rw [if_pos rfl]; exact hu hLk
        · rw [if_neg e]; exact hv k (by omega) hLk
      unfold Res at h
      split at h
      · rcases h with ⟨v, hnw, h1, h2, h3⟩ | ⟨Z, hs, h1, h2, h3⟩ | ⟨hnw, hs, h1, h2, h3⟩
        · exact ih _ _ _ _ wh hl' hn' (by omega) h3 (hput v) (hvu v fun h => (h2 h).symm) hst hlr hrh hBh hfh
        · cases hLi : L i with
          | true =>
            refine ih _ _ _ _ wh hl' hn' (by omega) (h3 (val i) (fun _ => rfl) (fun h => by rw [hLi] at h; cases h)) (hput _) (hvu _ fun _ => rfl) ?_ ?_ hrh hBh ?_
            · exact fun p hp => by rcases List.mem_cons.1 hp with rfl | hp; exact hs _; exact hst p hp
            · exact fun p hp hL => by rcases List.mem_cons.1 hp with rfl | hp; exact h2 hLi; exact hlr p hp hL
            · exact fun p hp => by rcases List.mem_cons.1 hp with rfl | hp; exact hs _ _ _ hrh (h2 hLi); exact hfh p hp
          | false =>
            have hx := h1 wh hBh fun p hp _ => hfh p hp
            have hgo : ∀ u w', Below wh.heap.size wh w' ∧ Z u w' → _ := fun u w' hz =>
              ih (i + 1) ((i, Z u) :: Γ) (a.put o.dst u) (upd vh i u) w' hl' hn' (by omega) (h3 u (fun h => by rw [hLi] at h; cases h) (fun _ => ⟨w', hBh.trans (hz.1.mono (Nat.le_trans hBw hBh.size)), hz.2⟩)) (hput u)
                (hvu u fun h => by rw [hLi] at h; cases h) (fun p hp => by rcases List.mem_cons.1 hp with rfl | hp; exact hs _; exact hst p hp)
                (fun p hp hL => by rcases List.mem_cons.1 hp with rfl | hp; (rw [hLi] at hL; cases hL); exact hlr p hp hL) (hrh.trans (hz.1.mono hrh.size)) (hBh.trans (hz.1.mono (Nat.le_trans hBw hBh.size)))
                (fun p hp => by rcases List.mem_cons.1 hp with rfl | hp; exact hz.2; exact hst p hp _ _ hz.1 (hfh p hp))
            generalize (execOp a.eval o).run P wh = r at hx
            cases r with
            | ok x w' => cases x <;> simp only [fnUpon] at hx <;> exact hgo _ _ ⟨hx.1.1, hx.2⟩
            | halt x w' => exact hx.elim
        · cases hLi : L i with
          | true =>
            refine ih _ _ _ _ wh hl' hn' (by omega) (h3 (val i) (fun _ => rfl) (fun h => by rw [hLi] at h; cases h)) (hput _) (hvu _ fun _ => rfl) ?_ ?_ hrh hBh ?_
            · exact fun p hp => by rcases List.mem_cons.1 hp with rfl | hp; exact hs _; exact hst p hp
            · exact fun p hp hL => by rcases List.mem_cons.1 hp with rfl | hp; exact h2 hLi; exact hlr p hp hL
            · exact fun p hp => by rcases List.mem_cons.1 hp with rfl | hp; exact hs _ _ _ hrh (h2 hLi); exact hfh p hp
          | false =>
            have hx := h1 wh hBh fun p hp _ => hfh p hp
            have hgo : ∀ u w', Below wh.heap.size wh w' ∧ sp i u w' → _ := fun u w' hz =>
              ih (i + 1) ((i, sp i u) :: Γ) (a.put o.dst u) (upd vh i u) w' hl' hn' (by omega) (h3 u (fun h => by rw [hLi] at h; cases h) (fun _ => ⟨w', hBh.trans (hz.1.mono (Nat.le_trans hBw hBh.size)), hz.2⟩)) (hput u)
                (hvu u fun h => by rw [hLi] at h; cases h) (fun p hp => by rcases List.mem_cons.1 hp with rfl | hp; exact hs _; exact hst p hp)
                (fun p hp hL => by rcases List.mem_cons.1 hp with rfl | hp; (rw [hLi] at hL; cases hL); exact hlr p hp hL) (hrh.trans (hz.1.mono hrh.size)) (hBh.trans (hz.1.mono (Nat.le_trans hBw hBh.size)))
                (fun p hp => by rcases List.mem_cons.1 hp with rfl | hp; exact hz.2; exact hst p hp _ _ hz.1 (hfh p hp))
            generalize (execOp a.eval o).run P wh = r at hx
            cases r with
            | ok x w' =>
              cases x <;> simp only [callUpon] at hx
              obtain ⟨_, hc⟩ := hx
              obtain ⟨e', w'', _, ⟨u, _, hz⟩, _⟩ := hc []
              exact hgo u w'' hz
            | halt x w' => exact hx.elim
      · exact ih _ _ _ _ wh hl' hn' (by omega) h.2.2 (hput undef) (hvu undef fun hL => (h.2.1 hL).symm) hst hlr hrh hBh hfh

/-- What operation j, carried out in the frame ar and the world wr, leaves. -/
def Outc (P : Program) (ops : Array Oper) (sp : Nat → Value → World → Prop) (j : Nat) (oj : Oper) (ar : Act) (wr : World) (u : Value) (w1 : World) : Prop :=
  if Region.wanted oj (yielded ops ar.tmps) = true then
    match (execOp ar.eval oj).run P wr with
    | .ok (.value v) w' => v = u ∧ w' = w1
    | .ok .skip w' => undef = u ∧ w' = w1
    | .ok (.enter _ _) _ => sp j u w1
    | _ => False
  else undef = u ∧ wr = w1

theorem Res.mark {L : Nat → Bool} {val : Nat → Value} {wr w1 : World} {a0 ar : Act} {j : Nat} {oj : Oper} {u : Value} (g : GrowOk md ops n) (hj : j < n) (ho : ops[j]? = some oj) (hLj : L j = false)
    (hp : ∀ k ∈ predsOf md ops j, L k = true) (hdep : ∀ k, depB md ops j k = true → L k = true) (hr : Pt ops n L val a0 ar) (hBr : Below B w0 wr) (hb : Below wr.heap.size wr w1) (hB1 : Below B w0 w1) (hout : Outc P ops sp j oj ar wr u w1) :
    ∀ (l : List Oper) (i : Nat) (Γ : List (Nat × (World → Prop))) (a : Act) (vh : Nat → Value), (∀ m, m < l.length → l[m]? = ops[i + m]?) → i + l.length = n → i ≤ j → Res P md ops B w0 sp nw L val wr Q l i Γ a →
      Pt ops n (fun k => decide (k < i)) vh a0 a → (∀ k, k < i → L k = true → vh k = val k) → (∀ p ∈ Γ, L p.1 = true → p.2 wr) → Res P md ops B w0 sp nw (ins L j) (upd val j u) w1 Q l i Γ a := by
  intro l
  induction l with
  | nil => intro i Γ a vh _ hn hij; simp at hn; omega
  | cons o rest ih =>
    intro i Γ a vh hl hn hij h hpt hv hlr
    have hio : ops[i]? = some o := by simpa using (hl 0 (by simp)).symm
    by_cases e : i = j
    · subst e
      obtain rfl : o = oj := Option.some.inj (hio.symm.trans ho)
      obtain ⟨hex, hwt⟩ := g.same hr hpt hj ho hp hv
      have hins : ins L i i = true := by simp [ins]
      have hupd : upd val i u i = u := by simp [upd]
      have hafter : ∀ k, i + 1 ≤ k → ins L i k = L k ∧ upd val i u k = val k := fun k hk => by
        have : k ≠ i := by omega
        simp [ins, upd, this]
      have hF : FactsAt md ops i Γ wr := fun p hp' hd => hlr p hp' (hdep _ hd)
      unfold Res at h ⊢
      rw [hins, hupd]
      unfold Outc at hout
      rw [← hex, ← hwt] at hout
      split
      · rename_i hw
        rw [if_pos hw] at h hout
        rcases h with ⟨v, hnw, h1, h2, h3⟩ | ⟨Z, hs, h1, h2, h3⟩ | ⟨hnw, hs, h1, h2, h3⟩
        · have hx := h1 wr hBr
          have huv : u = v := by
            generalize (execOp a.eval o).run P wr = r at hx hout
            cases r with
            | ok x w' => cases x <;> simp only [fnUpon] at hx <;> simp only at hout <;> rw [← hout.1, hx.1]
            | halt x w' => exact hx.elim
          exact .inl ⟨v, hnw, h1, fun _ => huv, h3.later hb _ _ _ _ hafter⟩
        · have hx := h1 wr hBr hF
          have hz : Z u w1 := by
            generalize (execOp a.eval o).run P wr = r at hx hout
            cases r with
            | ok x w' => cases x <;> simp only [fnUpon] at hx <;> simp only at hout <;> (obtain ⟨rfl, rfl⟩ := hout; exact hx.2)
            | halt x w' => exact hx.elim
          refine .inr (.inl ⟨Z, hs, h1, fun _ => hz, fun u' hu' _ => ?_⟩)
          obtain rfl := hu' rfl
          exact (h3 u' (fun h => by rw [hLj] at h; cases h) (fun _ => ⟨w1, hB1, hz⟩)).later hb _ _ _ _ hafter
        · have hx := h1 wr hBr hF
          have hz : sp i u w1 := by
            generalize (execOp a.eval o).run P wr = r at hx hout
            cases r with
            | ok x w' => cases x <;> simp only [callUpon] at hx; exact hout
            | halt x w' => exact hx.elim
          refine .inr (.inr ⟨hnw, hs, h1, fun _ => hz, fun u' hu' _ => ?_⟩)
          obtain rfl := hu' rfl
          exact (h3 u' (fun h => by rw [hLj] at h; cases h) (fun _ => ⟨w1, hB1, hz⟩)).later hb _ _ _ _ hafter
      · rename_i hw
        rw [if_neg hw] at h hout
        exact ⟨h.1, fun _ => hout.1.symm, h.2.2.later hb _ _ _ _ hafter⟩
    · have hlt : i < j := by omega
      have hin : i < n := by omega
      have hl' : ∀ m, m < rest.length → rest[m]? = ops[i + 1 + m]? := fun m hm => by
        have := hl (m + 1) (by simp; omega)
        simpa [Nat.add_assoc, Nat.add_comm 1 m] using this
      have hn' : i + 1 + rest.length = n := by simp at hn; omega
      have hput : ∀ u, Pt ops n (fun k => decide (k < i + 1)) (upd vh i u) a0 (a.put o.dst u) := fun u => by
        have := hpt.put (u := u) g.one hin (by simp) hio
        have e2 : ins (fun k => decide (k < i)) i = fun k => decide (k < i + 1) := by
          funext k; simp only [ins]; rw [Bool.eq_iff_iff]; simp; omega
        rwa [e2] at this
      have hvu : ∀ u, (L i = true → u = val i) → ∀ k, k < i + 1 → L k = true → upd vh i u k = val k := fun u hu k hk hLk => by
        unfold upd
        by_cases e : k = i
        · subst e; rw [if_pos rfl]; exact hu hLk
        · rw [if_neg e]; exact hv k (by omega) hLk
      have hins : ins L j i = L i := by simp [ins, e]
      have hupd : upd val j u i = val i := by simp [upd, e]
      unfold Res at h ⊢
      rw [hins, hupd]
      split
      · rename_i hw
        rw [if_pos hw] at h
        rcases h with ⟨v, hnw, h1, h2, h3⟩ | ⟨Z, hs, h1, h2, h3⟩ | ⟨hnw, hs, h1, h2, h3⟩
        · exact .inl ⟨v, hnw, h1, h2, ih _ _ _ _ hl' hn' (by omega) h3 (hput v) (hvu v fun h => (h2 h).symm) hlr⟩
        · exact .inr (.inl ⟨Z, hs, h1, fun h => hs _ _ _ hb (h2 h), fun u' hu hu' => ih _ _ _ _ hl' hn' (by omega) (h3 u' hu hu') (hput u') (hvu u' hu) fun p hp hL => by
            rcases List.mem_cons.1 hp with rfl | hp
            · rw [hu hL]; exact h2 hL
            · exact hlr p hp hL⟩)
        · exact .inr (.inr ⟨hnw, hs, h1, fun h => hs _ _ _ hb (h2 h), fun u' hu hu' => ih _ _ _ _ hl' hn' (by omega) (h3 u' hu hu') (hput u') (hvu u' hu) fun p hp hL => by
            rcases List.mem_cons.1 hp with rfl | hp
            · rw [hu hL]; exact h2 hL
            · exact hlr p hp hL⟩)
      · rename_i hw
        rw [if_neg hw] at h
        exact ⟨h.1, h.2.1, ih _ _ _ _ hl' hn' (by omega) h.2.2 (hput undef) (hvu undef fun hL => (h.2.1 hL).symm) hlr⟩

/-- All have come up. -/
theorem Res.over {L : Nat → Bool} {val : Nat → Value} {wr : World} {a0 : Act} (g : GrowOk md ops n) (hL : ∀ k, k < n → L k = true) :
    ∀ (l : List Oper) (i : Nat) (Γ : List (Nat × (World → Prop))) (a : Act) (vh : Nat → Value), (∀ m, m < l.length → l[m]? = ops[i + m]?) → i + l.length = n → Res P md ops B w0 sp nw L val wr Q l i Γ a →
      Pt ops n (fun k => decide (k < i)) vh a0 a → (∀ k, k < i → vh k = val k) → (∀ p ∈ Γ, p.2 wr) → ∃ Γ' a' vh', Q Γ' a' ∧ Pt ops n (fun k => decide (k < n)) vh' a0 a' ∧ (∀ k, k < n → vh' k = val k) ∧ ∀ p ∈ Γ', p.2 wr := by
  intro l
  induction l with
  | nil =>
    intro i Γ a vh _ hn h hpt hv hf
    obtain rfl : i = n := by simpa using hn
    exact ⟨Γ, a, vh, h, hpt, hv, hf⟩
  | cons o rest ih =>
    intro i Γ a vh hl hn h hpt hv hf
    have hio : ops[i]? = some o := by simpa using (hl 0 (by simp)).symm
    have hin : i < n := by simp at hn; omega
    have hLi := hL i hin
    have hl' : ∀ m, m < rest.length → rest[m]? = ops[i + 1 + m]? := fun m hm => by
      have := hl (m + 1) (by simp; omega)
      simpa [Nat.add_assoc, Nat.add_comm 1 m] using this
    have hn' : i + 1 + rest.length = n := by simp at hn; omega
    have hput : ∀ u, Pt ops n (fun k => decide (k < i + 1)) (upd vh i u) a0 (a.put o.dst u) := fun u => by
      have := hpt.put (u := u) g.one hin (by simp) hio
      have e2 : ins (fun k => decide (k < i)) i = fun k => decide (k < i + 1) := by
        funext k; simp only [ins]; rw [Bool.eq_iff_iff]; simp; omega
      rwa [e2] at this
    have hvu : ∀ u, u = val i → ∀ k, k < i + 1 → upd vh i u k = val k := fun u hu k hk => by
      unfold upd
      by_cases e : k = i
      · subst e; rw [if_pos rfl]; exact hu
      · rw [if_neg e]; exact hv k (by omega)
    unfold Res at h
    split at h
    · rcases h with ⟨v, hnw, h1, h2, h3⟩ | ⟨Z, hs, h1, h2, h3⟩ | ⟨hnw, hs, h1, h2, h3⟩
      · exact ih _ _ _ _ hl' hn' h3 (hput v) (hvu v (h2 hLi).symm) hf
      · exact ih _ _ _ _ hl' hn' (h3 (val i) (fun _ => rfl) (fun h => by rw [hLi] at h; cases h)) (hput _) (hvu _ rfl) fun p hp => by
          rcases List.mem_cons.1 hp with rfl | hp
          exact h2 hLi; exact hf p hp
      · exact ih _ _ _ _ hl' hn' (h3 (val i) (fun _ => rfl) (fun h => by rw [hLi] at h; cases h)) (hput _) (hvu _ rfl) fun p hp => by
          rcases List.mem_cons.1 hp with rfl | hp
          exact h2 hLi; exact hf p hp
    · exact ih _ _ _ _ hl' hn' h.2.2 (hput undef) (hvu undef (h.2.1 hLi).symm) hf

/-- One operation comes up. -/
theorem Res.step {Qx : Exit → Act → World → Prop} {L : Nat → Bool} {val : Nat → Value} {wr : World} {a0 ar : Act} {j : Nat} {oj : Oper} {l : List Oper} (g : GrowOk md ops n) (hBw : B ≤ w0.heap.size) (hj : j < n) (ho : ops[j]? = some oj)
    (hLj : L j = false) (hp : ∀ k ∈ predsOf md ops j, L k = true) (hdep : ∀ k, depB md ops j k = true → L k = true) (hr : Pt ops n L val a0 ar) (hBr : Below B w0 wr) (hl : ∀ m, m < l.length → l[m]? = ops[m]?) (hn : l.length = n)
    (h : Res P md ops B w0 sp nw L val wr Q l 0 [] a0) :
    wpOp P ops Qx j (fun a' w' => ∃ u, a' = ar.put oj.dst u ∧ (Below wr.heap.size wr w' ∧ (nw j = true → blockOf u = some wr.heap.size ∧ wr.heap.size < w'.heap.size)) ∧ Below B w0 w' ∧ Res P md ops B w0 sp nw (ins L j) (upd val j u) w' Q l 0 [] a0) ar wr := by
  have pt0 : ∀ v, Pt ops n (fun k => decide (k < 0)) v a0 a0 := fun v => ⟨rfl, fun k t _ hS => by simp at hS, fun _ _ => rfl⟩
  have hl0 : ∀ m, m < l.length → l[m]? = ops[0 + m]? := fun m hm => by rw [Nat.zero_add]; exact hl m hm
  have after : ∀ u w1, Below wr.heap.size wr w1 → (nw j = true → blockOf u = some wr.heap.size ∧ wr.heap.size < w1.heap.size) → Outc P ops sp j oj ar wr u w1 → (∃ u', ar.put oj.dst u = ar.put oj.dst u' ∧ (Below wr.heap.size wr w1 ∧ (nw j = true → blockOf u' = some wr.heap.size ∧ wr.heap.size < w1.heap.size)) ∧ Below B w0 w1 ∧ Res P md ops B w0 sp nw (ins L j) (upd val j u') w1 Q l 0 [] a0) := fun u w1 hb hbl hout => by
    have hB1 : Below B w0 w1 := hBr.trans (hb.mono (Nat.le_trans hBw hBr.size))
    exact ⟨u, rfl, ⟨hb, hbl⟩, hB1, h.mark g hj ho hLj hp hdep hr hBr hb hB1 hout l 0 [] a0 val hl0 (by omega) (Nat.zero_le _) (pt0 _) (fun k hk => by omega) (fun p hp => by cases hp)⟩
  obtain ⟨rest, Γ, a, vh, hres, hpt, hv, hlr⟩ := h.reach (j := j) g hBw hj ho l 0 [] a0 val wr hl0 (by omega) (Nat.zero_le _) (pt0 _) (fun k hk => by omega) (fun p hp => by cases hp) (fun p hp => by cases hp) (Below.refl _ _) hBr (fun p hp => by cases hp)
  obtain ⟨hex, hwt⟩ := g.same hr hpt hj ho hp hv
  have hF : FactsAt md ops j Γ wr := fun p hp' hd => hlr p hp' (hdep _ hd)
  unfold wpOp
  simp only [ho]
  unfold Res at hres
  rw [hex, hwt] at hres
  split
  · rename_i hw
    rw [if_pos hw] at hres
    refine .inl ?_
    unfold Oper.wp
    have hout : ∀ u w1, (match (execOp ar.eval oj).run P wr with | .ok (.value v) w' => v = u ∧ w' = w1 | .ok .skip w' => undef = u ∧ w' = w1 | .ok (.enter _ _) _ => sp j u w1 | _ => False) → Outc P ops sp j oj ar wr u w1 := fun u w1 h => by
      unfold Outc; rw [if_pos hw]; exact h
    rcases hres with ⟨v, hnw, h1, h2, h3⟩ | ⟨Z, hs, h1, h2, h3⟩ | ⟨hnw, hs, h1, h2, h3⟩
    · have hx := h1 wr hBr
      cases hrun : (execOp ar.eval oj).run P wr with
      | ok x w' =>
        rw [hrun] at hx hout
        cases x <;> simp only [fnUpon] at hx <;> simp only [Oper.upon]
        case value v' => exact after _ _ (by rw [hx.2]; exact Below.refl _ _) (fun h => by rw [hnw] at h; cases h) (hout _ _ ⟨rfl, rfl⟩)
        case skip => exact after _ _ (by rw [hx.2]; exact Below.refl _ _) (fun h => by rw [hnw] at h; cases h) (hout _ _ ⟨rfl, rfl⟩)
      | halt x w' => rw [hrun] at hx; exact hx.elim
    · have hx := h1 wr hBr hF
      cases hrun : (execOp ar.eval oj).run P wr with
      | ok x w' =>
        rw [hrun] at hx hout
        cases x <;> simp only [fnUpon] at hx <;> simp only [Oper.upon]
        case value v' => exact after _ _ hx.1.1 hx.1.2 (hout _ _ ⟨rfl, rfl⟩)
        case skip => exact after _ _ hx.1.1 hx.1.2 (hout _ _ ⟨rfl, rfl⟩)
      | halt x w' => rw [hrun] at hx; exact hx.elim
    · have hx := h1 wr hBr hF
      cases hrun : (execOp ar.eval oj).run P wr with
      | ok x w' =>
        rw [hrun] at hx hout
        cases x <;> simp only [callUpon] at hx
        simp only [Oper.upon]
        obtain ⟨rfl, hc⟩ := hx
        exact hc.mono fun e w'' ⟨u, he, hb, hz⟩ => by subst he; exact after u w'' hb (fun h => by rw [hnw] at h; cases h) (hout _ _ hz)
      | halt x w' => rw [hrun] at hx; exact hx.elim
  · rename_i hw
    rw [if_neg hw] at hres
    exact after _ _ (Below.refl _ _) (fun h => by rw [hres.1] at h; cases h) (by unfold Outc; rw [if_neg hw]; exact ⟨rfl, rfl⟩)

theorem count_off : ∀ (n : Nat) (p : Nat → Bool) (j : Nat), j < n → p j = true → (List.range n).countP (fun k => p k && k != j) + 1 = (List.range n).countP p := by
  intro n
  induction n with
  | zero => intro p j hj; omega
  | succ n ih =>
    intro p j hj hp
    rw [List.range_succ, List.countP_append, List.countP_append]
    by_cases e : j = n
    · subst e
      have h1 : (List.range j).countP (fun k => p k && k != j) = (List.range j).countP p := List.countP_congr fun k hk => by
        have : k ≠ j := by have := List.mem_range.1 hk; omega
        simp [this]
      rw [h1]
      simp [hp]
    · have := ih p j (by omega) hp
      have h2 : n ≠ j := fun h => e h.symm
      have h3 : [n].countP (fun k => p k && k != j) = [n].countP p := by simp [List.countP_cons, h2]
      rw [h3]
      omega

theorem least_of {p : Nat → Bool} : ∀ k, p k = true → ∃ m, m ≤ k ∧ p m = true ∧ ∀ i, i < m → p i = false := by
  intro k
  induction k using Nat.strongRecOn with
  | _ k ih =>
    intro hk
    by_cases h : ∃ i, i < k ∧ p i = true
    · obtain ⟨i, hi, hpi⟩ := h
      obtain ⟨m, hm, h1, h2⟩ := ih i hi hpi
      exact ⟨m, by omega, h1, h2⟩
    · exact ⟨k, Nat.le_refl _, hk, fun i hi => by cases hpi : p i; rfl; exact absurd ⟨i, hi, hpi⟩ h⟩

/-- The blocks that the operations nw made are there, and no two are one. -/
def Apart (n : Nat) (nw L : Nat → Bool) (val : Nat → Value) (w : World) : Prop :=
  (∀ i, i < n → L i = true → nw i = true → ∃ b, blockOf (val i) = some b ∧ b < w.heap.size) ∧
    ∀ i j, i < n → j < n → i ≠ j → L i = true → L j = true → nw i = true → nw j = true → blockOf (val i) ≠ blockOf (val j)
theorem Apart.step {L : Nat → Bool} {val : Nat → Value} {w w' : World} {j : Nat} {u : Value} (h : Apart n nw L val w) (hsz : w.heap.size ≤ w'.heap.size) (hb : nw j = true → blockOf u = some w.heap.size ∧ w.heap.size < w'.heap.size) : Apart n nw (ins L j) (upd val j u) w' := by
  refine ⟨fun i hi hL hn => ?_, fun i k hi hk hik hL hLk hn hnk => ?_⟩
  · by_cases e : i = j
    · subst e
      exact ⟨_, by simp [upd]; exact (hb hn).1, (hb hn).2⟩
    · obtain ⟨b, h1, h2⟩ := h.1 i hi (by simpa [ins, e] using hL) hn
      exact ⟨b, by simpa [upd, e] using h1, by omega⟩
  · by_cases e : i = j
    · subst e
      have hki : k ≠ i := fun e => hik e.symm
      obtain ⟨b, h1, h2⟩ := h.1 k hk (by simpa [ins, hki] using hLk) hnk
      rw [show upd val i u i = u from by simp [upd], show upd val i u k = val k from by simp [upd, hki], (hb hn).1, h1]
      intro e
      injection e with e
      omega
    · by_cases e' : k = j
      · subst e'
        obtain ⟨b, h1, h2⟩ := h.1 i hi (by simpa [ins, e] using hL) hn
        rw [show upd val k u k = u from by simp [upd], show upd val k u i = val i from by simp [upd, e], (hb hnk).1, h1]
        intro e
        injection e with e
        omega
      · simp only [upd, if_neg e, if_neg e']
        exact h.2 i k hi hk hik (by simpa [ins, e] using hL) (by simpa [ins, e'] using hLk) hn hnk
/-- .. said of a frame. -/
def ApartAt (ops : Array Oper) (n : Nat) (nw : Nat → Bool) (a : Act) : Prop :=
  ∀ i j ti tj u v, i < n → j < n → i ≠ j → nw i = true → nw j = true → dstOf ops i = some ti → dstOf ops j = some tj → a.tmps[ti]? = some u → a.tmps[tj]? = some v → blockOf u ≠ blockOf v

theorem grow_any {Qx : Exit → Act → World → Prop} {a0 : Act} {l : List Oper} (g : GrowOk md ops n) (hBw : B ≤ w0.heap.size) (hl : ∀ m, m < l.length → l[m]? = ops[m]?) (hn : l.length = n)
    (hQ : ∀ Γ a w, Q Γ a → Below B w0 w → (∀ p ∈ Γ, p.2 w) → ApartAt ops n nw a → wpAny P md ops Qx (ops.size - n) (canon ops n) a w) :
    ∀ (f : Nat) (listed : Array Bool) (ar : Act) (wr : World) (val : Nat → Value), (List.range n).countP (fun k => !listed.getD k false) = f → HeadInv md ops n listed → Pt ops n (fun k => listed.getD k false) val a0 ar → Below B w0 wr → Apart n nw (fun k => listed.getD k false) val wr →
      Res P md ops B w0 sp nw (fun k => listed.getD k false) val wr Q l 0 [] a0 → wpAny P md ops Qx (f + (ops.size - n)) listed ar wr := by
  intro f
  induction f with
  | zero =>
    intro listed ar wr val hc inv hpt hB hap h
    have hall : ∀ k, k < n → listed.getD k false = true := fun k hk => by
      have := List.countP_eq_zero.1 hc k (List.mem_range.2 hk)
      simpa using this
    obtain ⟨Γ, a, vh, hq, hpa, hv, hf⟩ := h.over g hall l 0 [] a0 val (fun m hm => by rw [Nat.zero_add]; exact hl m hm) (by omega) ⟨rfl, fun k t _ hS => by simp at hS, fun _ _ => rfl⟩ (fun k hk => by omega) (fun p hp => by cases hp)
    have hcan : listed = canon ops n := by
      apply Array.ext_getElem?
      intro k
      unfold canon
      by_cases hks : k < ops.size
      · have hks' : k < listed.size := by rw [inv.size]; exact hks
        by_cases hkn : k < n
        · have := hall k hkn
          simp [hks, hks', hkn] at this ⊢
          exact this
        · have := inv.tail k (by omega) hks
          simp [hks, hks', hkn] at this ⊢
          exact this
      · have hks' : ¬ k < listed.size := by rw [inv.size]; exact hks
        simp [hks, hks']
    have hfr : ar = a := by
      have h1 : ar.defers = a.defers := hpt.defers.trans hpa.defers.symm
      have h2 : ar.tmps = a.tmps := Array.ext_getElem? fun t => hpt.agree hpa fun k hk _ => ⟨by simp [hk, hall k hk], fun _ => (hv k hk).symm⟩
      cases ar; cases a; simp_all
    rw [Nat.zero_add, hcan, hfr]
    refine hQ Γ a wr hq hB hf fun i j ti tj u v hi hj hij hni hnj hdi hdj hu hv' => ?_
    have e1 := hpa.hit i ti hi (by simpa using hi) hdi
    have e2 := hpa.hit j tj hj (by simpa using hj) hdj
    rw [hu] at e1
    rw [hv'] at e2
    have e3 : u = val i := by
      cases h0 : a0.tmps[ti]? with
      | none => rw [h0] at e1; cases e1
      | some x => rw [h0] at e1; simp at e1; rw [e1, hv i hi]
    have e4 : v = val j := by
      cases h0 : a0.tmps[tj]? with
      | none => rw [h0] at e2; cases e2
      | some x => rw [h0] at e2; simp at e2; rw [e2, hv j hj]
    rw [e3, e4]
    exact hap.2 i j hi hj hij (hall i hi) (hall j hj) hni hnj
  | succ f ih =>
    intro listed ar wr val hc inv hpt hB hap h
    have hex : ∃ k, k < n ∧ listed.getD k false = false := by
      have : 0 < (List.range n).countP (fun k => !listed.getD k false) := by omega
      obtain ⟨k, hk, hp⟩ := List.countP_pos_iff.1 this
      exact ⟨k, List.mem_range.1 hk, by simpa using hp⟩
    obtain ⟨k0, hk0, hun0⟩ := hex
    obtain ⟨m, hm, hm1, hm2⟩ := least_of (p := fun k => !listed.getD k false) k0 (by simpa using hun0)
    have hmn : m < n := by omega
    have hms : m < listed.size := by rw [inv.size]; have := g.size; omega
    have hun : listed.getD m true = false := getD_in hms (by simpa using hm1)
    have hready : m ∈ Region.ready md ops listed := by
      have hmo : m < ops.size := by have := g.size; omega
      refine mem_ready.2 ⟨hun, ops[m], by simp [hmo], fun e he hb => ?_⟩
      have : e.on < m := g.back m hmn _ (by
        unfold predsOf
        rw [Array.getElem?_eq_getElem hmo]
        exact List.mem_map.2 ⟨e, List.mem_filter.2 ⟨by simpa using he, hb⟩, rfl⟩)
      have := hm2 _ this
      simpa using this
    have e1 : f + 1 + (ops.size - n) = (f + (ops.size - n)) + 1 := by omega
    rw [e1]
    refine ⟨fun h0 => absurd (h0 ▸ hready) (by simp), fun j hj => ?_⟩
    obtain ⟨hju, oj, hoj, hall⟩ := mem_ready.1 hj
    have hjs : j < ops.size := (Array.getElem?_eq_some_iff.1 hoj).1
    have hjn : j < n := by
      rcases g.tail with ht | ⟨ht, hs, hch⟩
      · omega
      · exact Nat.lt_of_not_le fun h => tail_waits hs hch ht inv _ m rfl hmn hun j h hj
    have hp : ∀ k ∈ predsOf md ops j, listed.getD k false = true := fun k hk => by
      unfold predsOf at hk
      rw [hoj] at hk
      obtain ⟨e, he, rfl⟩ := List.mem_map.1 hk
      obtain ⟨he1, he2⟩ := List.mem_filter.1 he
      exact hall e (by simpa using he1) he2
    have hcl : ∀ i, listed.getD i false = true → ∀ k ∈ predsOf md ops i, listed.getD k false = true := fun i hi k hk => by
      unfold predsOf at hk
      cases hoi : ops[i]? with
      | none => rw [hoi] at hk; cases hk
      | some oi =>
        rw [hoi] at hk
        obtain ⟨e, he, rfl⟩ := List.mem_map.1 hk
        obtain ⟨he1, he2⟩ := List.mem_filter.1 he
        exact inv.closed i oi hoi hi e (by simpa using he1) he2
    have hdep : ∀ k, depB md ops j k = true → listed.getD k false = true := fun k hk => by
      unfold depB at hk
      exact upset_in hcl _ _ hp k (by simpa using hk)
    have hset : (fun k => (listed.setIfInBounds j true).getD k false) = ins (fun k => listed.getD k false) j := by
      funext k
      unfold ins
      by_cases e : k = j
      · subst e
        have : k < listed.size := by rw [inv.size]; exact hjs
        simp [this]
      · rw [getD_set_ne false (Ne.symm e)]
        simp [e]
    have hjf : listed.getD j false = false := getD_both hju
    refine wpOp_mono (fun a' w' ⟨u, he, hbl, hB', hres⟩ => ?_) (h.step (Qx := Qx) g hBw hjn hoj hjf hp hdep hpt hB hl hn)
    subst he
    have hpt' := hpt.put (u := u) g.one hjn hjf hoj
    have hap' := hap.step (u := u) (j := j) hbl.1.size hbl.2
    rw [← hset] at hres hpt' hap'
    refine ih _ _ _ _ ?_ (inv.set hj hjn) hpt' hB' hap' hres
    have := count_off n (fun k => !listed.getD k false) j hjn (by simpa using hjf)
    rw [hc] at this
    have e3 : (List.range n).countP (fun k => !(listed.setIfInBounds j true).getD k false) = (List.range n).countP (fun k => (!listed.getD k false) && k != j) := List.countP_congr fun k _ => by
      have := congrFun hset k
      simp only [ins] at this
      rw [this]
      by_cases e : k = j <;> simp [e]
    omega

theorem Res.fresh {val val' : Nat → Value} {wr w1 : World} : ∀ (l : List Oper) (i : Nat) (Γ : List (Nat × (World → Prop))) (a : Act), Res P md ops B w0 sp nw (fun _ => false) val wr Q l i Γ a → Res P md ops B w0 sp nw (fun _ => false) val' w1 Q l i Γ a := by
  intro l
  induction l with
  | nil => intro i Γ a h; exact h
  | cons o rest ih =>
    intro i Γ a h
    unfold Res at h ⊢
    split
    · rename_i hw
      rw [if_pos hw] at h
      rcases h with ⟨v, hnw, h1, h2, h3⟩ | ⟨Z, hs, h1, h2, h3⟩ | ⟨hnw, hs, h1, h2, h3⟩
      · exact .inl ⟨v, hnw, h1, (fun h => by cases h), ih _ _ _ h3⟩
      · exact .inr (.inl ⟨Z, hs, h1, (fun h => by cases h), fun u _ hu' => ih _ _ _ (h3 u (fun h => by cases h) hu')⟩)
      · exact .inr (.inr ⟨hnw, hs, h1, (fun h => by cases h), fun u _ hu' => ih _ _ _ (h3 u (fun h => by cases h) hu')⟩)
    · rename_i hw
      rw [if_neg hw] at h
      exact ⟨h.1, (fun h => by cases h), ih _ _ _ h.2.2⟩

theorem Res.post {Q Q' : List (Nat × (World → Prop)) → Act → Prop} {L : Nat → Bool} {val : Nat → Value} {wr : World} (hQ : ∀ Γ a, Q Γ a → Q' Γ a) : ∀ (l : List Oper) (i : Nat) (Γ : List (Nat × (World → Prop))) (a : Act), Res P md ops B w0 sp nw L val wr Q l i Γ a → Res P md ops B w0 sp nw L val wr Q' l i Γ a := by
  intro l
  induction l with
  | nil => intro i Γ a h; exact hQ _ _ h
  | cons o rest ih =>
    intro i Γ a h
    unfold Res at h ⊢
    split
    · rename_i hw
      rw [if_pos hw] at h
      rcases h with ⟨v, hnw, h1, h2, h3⟩ | ⟨Z, hs, h1, h2, h3⟩ | ⟨hnw, hs, h1, h2, h3⟩
      · exact .inl ⟨v, hnw, h1, h2, ih _ _ _ h3⟩
      · exact .inr (.inl ⟨Z, hs, h1, h2, fun u hu hu' => ih _ _ _ (h3 u hu hu')⟩)
      · exact .inr (.inr ⟨hnw, hs, h1, h2, fun u hu hu' => ih _ _ _ (h3 u hu hu')⟩)
    · rename_i hw
      rw [if_neg hw] at h
      exact ⟨h.1, h.2.1, ih _ _ _ h.2.2⟩

/-- The walk that a prover makes: nothing has been carried out yet. -/
abbrev wpGrow (P : Program) (ops : Array Oper) (B : Nat) (w0 : World) (sp : Nat → Value → World → Prop) (nw : Nat → Bool) (Q : List (Nat × (World → Prop)) → Act → Prop) (l : List Oper) (i : Nat) (Γ : List (Nat × (World → Prop))) (a : Act) : Prop :=
  Res P .any ops B w0 sp nw (fun _ => false) (fun _ => undef) w0 Q l i Γ a

theorem wp_region_grow2 {id : Nat} {Qx : Exit → Act → World → Prop} {a : Act} {w : World} {l : List Oper} (n B : Nat) (w0 : World) (sp : Nat → Value → World → Prop) (nw : Nat → Bool) (hm : P.follows .mixedOrders = true) (hg : growB .any l.toArray n = true)
    (hBw : B ≤ w0.heap.size) (hC : Below B w0 w)
    (h : wpGrow P l.toArray B w0 sp nw (fun Γ a' => ∀ w', Below B w0 w' → (∀ p ∈ Γ, p.2 w') → ApartAt l.toArray n nw a' → wpList P l.toArray Qx (l.drop n) a' w') (l.take n) 0 [] a) : (Code.region id l.toArray true).wp P Qx a w := by
  have g := growB_ok hg
  have hsz : n ≤ l.length := by simpa using g.size
  have htl : (l.take n).length = n := by simp; omega
  have hdl : (l.drop n).length = l.toArray.size - n := by simp
  have inv0 : HeadInv .any l.toArray n (Array.replicate l.toArray.size false) :=
    ⟨by simp, fun j oj _ hl => (by rw [getD_replicate_false] at hl; cases hl), fun t _ ht => getD_in (by simpa using ht) (getD_replicate_false _ _)⟩
  have hrep : (fun k => (Array.replicate l.toArray.size false).getD k false) = fun _ => false := funext fun k => getD_replicate_false _ _
  refine wp_region_any hm ?_
  have := grow_any (Qx := Qx) (P := P) (sp := sp) (nw := nw) (B := B) (w0 := w0) (a0 := a) (l := l.take n) (Q := fun Γ a' => ∀ w', Below B w0 w' → (∀ p ∈ Γ, p.2 w') → ApartAt l.toArray n nw a' → wpList P l.toArray Qx (l.drop n) a' w') g hBw (fun m hm' => by rw [htl] at hm'; simp [hm']) htl (fun Γ a' w' hq hb hf hd => by
    have := wpAny_of_seq (md := .any) (Q' := Qx) (l.drop n) n (canon l.toArray n) a' w' (fun j => by simp [List.getElem?_drop]) (by rw [hdl]; exact g.seq) (hq w' hb hf hd)
    rwa [hdl] at this) n (Array.replicate l.toArray.size false) a { w with drawn := w.drawn + 1 } (fun _ => undef) (by
      rw [List.countP_eq_length.2 (fun k _ => by rw [getD_replicate_false]; rfl)]; simp) inv0 (by rw [hrep]; exact ⟨rfl, fun k t _ hS => by simp at hS, fun _ _ => rfl⟩) (show Below B w0 w.drew from hC.drew) (by rw [hrep]; exact ⟨fun i _ h => (by cases h), fun i j _ _ _ h => (by cases h)⟩) (by
      rw [hrep]
      exact Res.fresh _ _ _ _ h)
  rwa [show n + (l.toArray.size - n) = l.toArray.size by simp; omega] at this

/-- The same where nobody asks which new blocks are apart. -/
theorem wp_region_grow {id : Nat} {Qx : Exit → Act → World → Prop} {a : Act} {w : World} {l : List Oper} (n B : Nat) (w0 : World) (sp : Nat → Value → World → Prop) (hm : P.follows .mixedOrders = true) (hg : growB .any l.toArray n = true)
    (hBw : B ≤ w0.heap.size) (hC : Below B w0 w)
    (h : wpGrow P l.toArray B w0 sp (fun _ => false) (fun Γ a' => ∀ w', Below B w0 w' → (∀ p ∈ Γ, p.2 w') → wpList P l.toArray Qx (l.drop n) a' w') (l.take n) 0 [] a) : (Code.region id l.toArray true).wp P Qx a w :=
  wp_region_grow2 n B w0 sp (fun _ => false) hm hg hBw hC (Res.post (fun _ _ h w' hb hf _ => h w' hb hf) _ _ _ _ h)

section
variable {Q : List (Nat × (World → Prop)) → Act → Prop} {o : Oper} {rest : List Oper} {i : Nat} {Γ : List (Nat × (World → Prop))} {a : Act}
theorem grow_nil (h : Q Γ a) : wpGrow P ops B w0 sp nw Q [] i Γ a := h
theorem grow_skip (hw : Region.wanted o (yielded ops a.tmps) = false) (hnw : nw i = false) (h : wpGrow P ops B w0 sp nw Q rest (i + 1) Γ (a.put o.dst undef)) : wpGrow P ops B w0 sp nw Q (o :: rest) i Γ a := by
  unfold wpGrow Res
  rw [if_neg (by simp [hw])]
  exact ⟨hnw, (fun h => by cases h), h⟩

theorem value_bind {α : Type} (s : Sem α) (g : α → Value) (w w' : World) (f : FuncId) (args : Array Value) : (s >>= fun x => (pure (.value (g x)) : Sem Next)).run P w ≠ .ok (.enter f args) w' := by
  rw [Sem.run_bind]
  cases s.run P w with
  | ok x w1 => simp [Result.andThen, Sem.run_pure]
  | halt x w1 => simp [Result.andThen]

theorem enter_bind {α : Type} {s : Sem α} {g : α → Sem Next} {w w' : World} {f : FuncId} {args : Array Value} (h : (s >>= g).run P w = .ok (.enter f args) w') : ∃ x w1, (g x).run P w1 = .ok (.enter f args) w' := by
  rw [Sem.run_bind] at h
  cases hs : s.run P w with
  | ok x w1 => rw [hs] at h; exact ⟨x, w1, h⟩
  | halt x w1 => rw [hs] at h; simp [Result.andThen] at h

/-- An operation that calls no Go function. -/
def fnOp (o : Oper) : Bool :=
  match o.op with
  | .call c => (match c.callee with | .builtin b => (match b with | .len | .append | .cap | .copy | .min | .max => true | _ => false) | _ => false)
  | .move _ | .assign _ | .pick .. | .alloc _ | .box .. | .build .. | .buildSlice .. | .load .. | .binOp .. | .unOp .. | .convert .. | .makeFunc .. | .makeMap .. | .makeSlice .. | .slice .. | .fieldAddr .. | .field .. | .indexAddr .. | .index .. | .lookup .. | .extract .. | .nilCheck _ => true
  | _ => false

theorem fnOp_run (h : fnOp o = true) (ρ : Operand → Value) (w w' : World) (f : FuncId) (args : Array Value) : (execOp ρ o).run P w ≠ .ok (.enter f args) w' := by
  obtain ⟨dst, op, type, pos, after, guard⟩ := o
  cases op <;> simp only [fnOp] at h <;> (try cases h) <;> simp only [execOp]
  case call c =>
    obtain ⟨callee, args, ats⟩ := c
    cases callee <;> simp only at h <;> (try cases h)
    rename_i b
    cases b <;> simp only at h <;> (try cases h) <;> simp only [resolve, pure_bind, invoke, builtin] <;> exact value_bind _ (fun x => x) _ _ _ _
  case nilCheck x =>
    intro h
    repeat' split at h
    all_goals first
      | (rw [Sem.run_pure] at h; cases h; done)
      | (simp [runtimePanic] at h; done)
      | (obtain ⟨_, _, h⟩ := enter_bind h
         obtain ⟨_, _, h⟩ := enter_bind h
         split at h
         · obtain ⟨_, _, h⟩ := enter_bind h
           rw [Sem.run_pure] at h; cases h
         · rw [Sem.run_pure] at h; cases h)
  all_goals first
    | exact value_bind _ (fun x => x) _ _ _ _
    | exact value_bind _ _ _ _ _ _
    | (intro h; rw [Sem.run_pure] at h; cases h)

theorem grow_quiet (hw : Region.wanted o (yielded ops a.tmps) = true) (hf : fnOp o = true) (hnw : nw i = false)
    (h : ∀ K : Act → Prop, (∀ a, wpGrow P ops B w0 sp nw Q rest (i + 1) Γ a → K a) → o.quiet P a (fun w => ∃ x, w = Fam B w0 x) K) : wpGrow P ops B w0 sp nw Q (o :: rest) i Γ a := by
  obtain ⟨v, h1, h2⟩ := h _ fun _ h => h
  unfold wpGrow Res
  rw [if_pos hw]
  refine .inl ⟨v, hnw, fun w hb => ?_, (fun h => by cases h), h2⟩
  have hq := h1 w (Fam.of hb)
  unfold Oper.quietAt at hq
  cases hr : (execOp a.eval o).run P w with
  | ok x w' =>
    rw [hr] at hq
    cases x <;> simp only [Oper.quietUpon] at hq
    case value u => exact ⟨hq.2, hq.1⟩
    case skip => exact ⟨hq.2.symm, hq.1⟩
    case enter f args => exact absurd hr (fnOp_run hf _ _ _ _ _)
  | halt x w' => rw [hr] at hq; exact hq.elim

/-- An operation that makes a block: its value hangs on the block's number alone. -/
theorem grow_new (hw : Region.wanted o (yielded ops a.tmps) = true) (mk : Nat → Value) (T : TypeId) (cs : Array Value) (hrun : ∀ w, (execOp a.eval o).run P w = .ok (.value (mk w.heap.size)) (w.alloc (.cells cs T)))
    (hmk : ∀ b, blockOf (mk b) = some b) (hBw : B ≤ w0.heap.size)
    (h : ∀ b, B ≤ b → wpGrow P ops B w0 sp nw Q rest (i + 1) ((i, fun w' => ∃ b', mk b = mk b' ∧ B ≤ b' ∧ w'.heap[b']? = some (.cells cs T (0, 0))) :: Γ) (a.put o.dst (mk b))) : wpGrow P ops B w0 sp nw Q (o :: rest) i Γ a := by
  unfold wpGrow Res
  rw [if_pos hw]
  refine .inr (.inl ⟨fun u w' => ∃ b', u = mk b' ∧ B ≤ b' ∧ w'.heap[b']? = some (.cells cs T (0, 0)), fun u w w' hb ⟨b', h1, h2, h3⟩ => ⟨b', h1, h2, ?_⟩, fun w hb _ => ?_, (fun h => by cases h), fun u _ hu => ?_⟩)
  · rw [hb.block b' (by
      rcases Nat.lt_or_ge b' w.heap.size with h | h
      · exact h
      · rw [Array.getElem?_eq_none h] at h3; cases h3), h3]
  · rw [hrun]
    exact ⟨⟨(Below.refl _ _).alloc (Nat.le_refl _) _, fun _ => ⟨hmk _, by simp⟩⟩, w.heap.size, rfl, Nat.le_trans hBw hb.size, heap_alloc_new w _⟩
  · obtain ⟨w', _, b', rfl, h2, _⟩ := hu rfl
    exact h b' h2

/-- A call of a Go function. -/
theorem grow_call (hw : Region.wanted o (yielded ops a.tmps) = true) (hnw : nw i = false) (hs : ∀ u, Steady (sp i u))
    (hc : ∀ w, Below B w0 w → FactsAt .any ops i Γ w → callUpon P w (fun e w' => ∃ u, e = .returned u ∧ Below w.heap.size w w' ∧ sp i u w') ((execOp a.eval o).run P w))
    (h : ∀ u, (∃ w', Below B w0 w' ∧ sp i u w') → wpGrow P ops B w0 sp nw Q rest (i + 1) ((i, sp i u) :: Γ) (a.put o.dst u)) : wpGrow P ops B w0 sp nw Q (o :: rest) i Γ a := by
  unfold wpGrow Res
  rw [if_pos hw]
  exact .inr (.inr ⟨hnw, hs, hc, (fun h => by cases h), fun u _ hu => h u (hu rfl)⟩)
/-- A call of a Go function whose value is known. -/
theorem grow_val (v : Value) (hw : Region.wanted o (yielded ops a.tmps) = true) (hnw : nw i = false) (hsp : sp i = fun u _ => u = v)
    (hc : ∀ w, Below B w0 w → FactsAt .any ops i Γ w → callUpon P w (fun e w' => e = .returned v ∧ Below w.heap.size w w') ((execOp a.eval o).run P w))
    (h : wpGrow P ops B w0 sp nw Q rest (i + 1) ((i, fun _ => v = v) :: Γ) (a.put o.dst v)) : wpGrow P ops B w0 sp nw Q (o :: rest) i Γ a := by
  refine grow_call hw hnw (fun u => by rw [hsp]; exact fun _ _ _ h => h) (fun w hb hf => ?_) fun u ⟨w', _, hu⟩ => ?_
  · have hx := hc w hb hf
    generalize (execOp a.eval o).run P w = r at hx ⊢
    cases r with
    | ok x w' =>
      cases x <;> simp only [callUpon] at hx ⊢
      exact ⟨hx.1, hx.2.mono fun e w'' ⟨he, hb⟩ => ⟨v, he, hb, by rw [hsp]⟩⟩
    | halt x w' => exact hx.elim
  · rw [hsp] at hu
    subst hu
    rw [hsp]
    exact h
end
end
end AG
