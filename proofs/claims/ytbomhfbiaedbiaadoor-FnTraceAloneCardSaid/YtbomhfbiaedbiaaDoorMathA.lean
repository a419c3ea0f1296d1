/- Plain definitions and lemmas: sets of small numbers as integers, edges, systems. No program is named here. -/
namespace AG

/-- Number n is in the set a (bits of an integer, also of a negative one). -/
def Has (a : Int) (n : Nat) : Bool := decide ((a / (2 : Int) ^ n) % 2 = 1)

def alphaOk (a : Int) : Bool := decide (0 ≤ a ∧ a ≤ 63)

structure Ed where
  f : Int
  l : Int
  t : Int
  deriving DecidableEq

structure Sy where
  al : Int
  st : Int
  es : List Ed
  deriving DecidableEq

def edgeLt (a b : Ed) : Bool := if a.f ≠ b.f then decide (a.f < b.f) else if a.l ≠ b.l then decide (a.l < b.l) else decide (a.t < b.t)

def edgeOk (al st : Int) (e : Ed) : Bool := decide (0 ≤ e.f ∧ e.f < st ∧ 0 ≤ e.t ∧ e.t < st ∧ 0 ≤ e.l ∧ e.l < 6) && Has al e.l.toNat

def edgesOkTo (al st : Int) (es : List Ed) (k : Nat) : Prop := ∀ i (h : i < es.length), i < k → edgeOk al st es[i] = true ∧ (∀ j (h' : j < es.length), j + 1 = i → edgeLt es[j] es[i] = true)

instance (al st : Int) (es : List Ed) (k : Nat) : Decidable (edgesOkTo al st es k) := by unfold edgesOkTo; infer_instance

def sysOk (s : Sy) : Bool := decide (alphaOk s.al = true ∧ 1 ≤ s.st ∧ s.st ≤ 16 ∧ edgesOkTo s.al s.st s.es s.es.length)

/-- The program's has: a negative number is in no set. -/
def HasZ (a n : Int) : Bool := decide (0 ≤ n) && Has a n.toNat

theorem edgeOk_split (al st : Int) (e : Ed) : edgeOk al st e = (decide (0 ≤ e.f ∧ e.f < st) && (decide (0 ≤ e.t ∧ e.t < st) && (decide (e.l < 6) && HasZ al e.l))) := by
  unfold edgeOk HasZ
  by_cases h1 : 0 ≤ e.f ∧ e.f < st
  · by_cases h2 : 0 ≤ e.t ∧ e.t < st
    · by_cases h3 : e.l < 6 <;> by_cases h4 : 0 ≤ e.l <;> simp [h1, h2, h3, h4]
    · have : ¬ (0 ≤ e.f ∧ e.f < st ∧ 0 ≤ e.t ∧ e.t < st ∧ 0 ≤ e.l ∧ e.l < 6) := by omega
      rw [decide_eq_false this, decide_eq_false h2]
      simp
  · have : ¬ (0 ≤ e.f ∧ e.f < st ∧ 0 ≤ e.t ∧ e.t < st ∧ 0 ≤ e.l ∧ e.l < 6) := by omega
    rw [decide_eq_false this, decide_eq_false h1]
    simp

def cmpI (a b : Int) : Int := if a < b then -1 else if b < a then 1 else 0
def orI (x y z : Int) : Int := if x ≠ 0 then x else if y ≠ 0 then y else z
def cmpE (a b : Ed) : Int := orI (cmpI a.f b.f) (cmpI a.l b.l) (cmpI a.t b.t)

theorem cmpE_ge (a b : Ed) : decide (0 ≤ cmpE a b) = !edgeLt a b := by
  unfold cmpE orI cmpI edgeLt
  by_cases h1 : a.f < b.f
  · simp [h1]; omega
  · by_cases h2 : b.f < a.f
    · simp [h1, h2]; omega
    · have e : a.f = b.f := by omega
      by_cases h3 : a.l < b.l
      · simp [e, h3]; omega
      · by_cases h4 : b.l < a.l
        · simp [e, h3, h4]; omega
        · have e' : a.l = b.l := by omega
          simp [e, e']
          by_cases h5 : a.t < b.t
          · simp [h5]
          · by_cases h6 : b.t < a.t
            · simp [h5, h6]
            · simp [h5, h6]

/-- Union and intersection of sets of small numbers. -/
def orB (a b : Int) : Int := ((a.toNat ||| b.toNat : Nat) : Int)
def andB (a b : Int) : Int := ((a.toNat &&& b.toNat : Nat) : Int)

def allAl (ss : List Sy) : Int := ss.foldl (fun a s => orB a s.al) 0
def sharedFrom : List Sy → Int → Int → Int
  | [], _, sh => sh
  | s :: ss, al, sh => sharedFrom ss (orB al s.al) (orB sh (andB al s.al))
def sharedAl (ss : List Sy) : Int := sharedFrom ss 0 0
def partsOk (ss : List Sy) : Bool := decide (1 ≤ ss.length ∧ ss.length ≤ 3) && ss.all sysOk
def partsAl (ss : List Sy) : Int := if partsOk ss = true then allAl ss else -1
def partsShared (ss : List Sy) : Int := if partsOk ss = true then sharedAl ss else -1

theorem orB_range {a b : Int} (ha : 0 ≤ a ∧ a ≤ 63) (hb : 0 ≤ b ∧ b ≤ 63) : 0 ≤ orB a b ∧ orB a b ≤ 63 := by
  unfold orB
  have := Nat.or_lt_two_pow (n := 6) (x := a.toNat) (y := b.toNat) (by omega) (by omega)
  omega
theorem andB_range {a b : Int} (hb : 0 ≤ b ∧ b ≤ 63) : 0 ≤ andB a b ∧ andB a b ≤ 63 := by
  unfold andB
  have := Nat.and_lt_two_pow (n := 6) a.toNat (y := b.toNat) (by omega)
  omega
theorem sysOk_alpha {s : Sy} (h : sysOk s = true) : 0 ≤ s.al ∧ s.al ≤ 63 := by
  unfold sysOk alphaOk at h
  simp only [decide_eq_true_eq] at h
  exact h.1
theorem allAl_snoc (ss : List Sy) (s : Sy) : allAl (ss ++ [s]) = orB (allAl ss) s.al := by simp [allAl]
theorem allAl_range (ss : List Sy) (h : ss.all sysOk = true) : 0 ≤ allAl ss ∧ allAl ss ≤ 63 := by
  unfold allAl
  have key : ∀ (l : List Sy) (a : Int), (0 ≤ a ∧ a ≤ 63) → l.all sysOk = true → 0 ≤ l.foldl (fun a s => orB a s.al) a ∧ l.foldl (fun a s => orB a s.al) a ≤ 63 := by
    intro l
    induction l with
    | nil => intro a ha _; exact ha
    | cons s l ih =>
      intro a ha hl
      simp only [List.all_cons, Bool.and_eq_true] at hl
      exact ih _ (orB_range ha (sysOk_alpha hl.1)) hl.2
  exact key ss 0 (by omega) h
theorem take_snoc {α : Type} (l : List α) (k : Nat) (h : k < l.length) : l.take (k + 1) = l.take k ++ [l[k]] := by
  rw [List.take_succ_eq_append_getElem h]
theorem all_take {α : Type} (p : α → Bool) (l : List α) (k : Nat) (h : l.all p = true) : (l.take k).all p = true := by
  rw [List.all_eq_true] at *
  intro x hx
  exact h x (List.mem_of_mem_take hx)

theorem orB_assoc (a b c : Int) : orB (orB a b) c = orB a (orB b c) := by
  unfold orB; simp only [Int.toNat_natCast]; rw [Nat.or_assoc]
theorem andB_orB (a b c : Int) : andB a (orB b c) = orB (andB a b) (andB a c) := by
  unfold orB andB; simp only [Int.toNat_natCast]; rw [Nat.and_or_distrib_left]
theorem andB_comm (a b : Int) : andB a b = andB b a := by
  unfold andB; rw [Nat.and_comm]
theorem andB_zero (a : Int) : andB a 0 = 0 := by unfold andB; simp
theorem orB_zero {a : Int} (h : 0 ≤ a) : orB a 0 = a := by unfold orB; simp; omega

theorem sharedFrom_snoc (s : Sy) (ss : List Sy) : ∀ al sh, sharedFrom (ss ++ [s]) al sh = orB (sharedFrom ss al sh) (andB (ss.foldl (fun a s => orB a s.al) al) s.al) := by
  induction ss with
  | nil => intro al sh; rfl
  | cons t ss ih => intro al sh; exact ih _ _
theorem sharedAl_snoc (ss : List Sy) (s : Sy) : sharedAl (ss ++ [s]) = orB (sharedAl ss) (andB (allAl ss) s.al) := sharedFrom_snoc s ss 0 0
theorem sharedAl_range (ss : List Sy) (h : ss.all sysOk = true) : 0 ≤ sharedAl ss ∧ sharedAl ss ≤ 63 := by
  have key : ∀ n, n ≤ ss.length → 0 ≤ sharedAl (ss.take n) ∧ sharedAl (ss.take n) ≤ 63 := by
    intro n
    induction n with
    | zero => intro _; simp [sharedAl, sharedFrom]
    | succ n ih =>
      intro hn
      rw [take_snoc ss n hn, sharedAl_snoc]
      have hs : sysOk ss[n] = true := List.all_eq_true.1 h _ (List.getElem_mem _)
      exact orB_range (ih (by omega)) (andB_range (sysOk_alpha hs))
  have := key ss.length (Nat.le_refl _)
  rwa [List.take_length] at this

/-- What is left of a budget. -/
def sz1 (n : Nat) (left : Int) : Int := if left - n < 0 then -1 else left - n
def szL : List Nat → Int → Int
  | [], left => left
  | n :: ns, left => if left - n < 0 then -1 else szL ns (left - n)
def szSys (ss : List Sy) (left : Int) : Int := if left - ss.length < 0 then -1 else szL (ss.map fun s => s.es.length) (left - ss.length)

theorem szL_ge (ns : List Nat) : ∀ left, 0 ≤ szL ns left → ∀ n ∈ ns, (n : Int) ≤ left := by
  induction ns with
  | nil => intro left _ n hn; cases hn
  | cons m ns ih =>
    intro left h n hn
    unfold szL at h
    split at h
    · omega
    · cases hn with
      | head => omega
      | tail _ hn => have := ih _ h n hn; omega
theorem szSys_ge {ss : List Sy} {left : Int} (h : 0 ≤ szSys ss left) : (ss.length : Int) ≤ left ∧ ∀ s ∈ ss, (s.es.length : Int) ≤ left := by
  unfold szSys at h
  split at h
  · omega
  · refine ⟨by omega, fun s hs => ?_⟩
    have := szL_ge _ _ h s.es.length (List.mem_map.2 ⟨s, hs, rfl⟩)
    omega

theorem cmpI_range (a b : Int) : -1 ≤ cmpI a b ∧ cmpI a b ≤ 1 := by
  unfold cmpI; split
  · omega
  · split <;> omega

end AG
