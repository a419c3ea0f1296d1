/- Plain: sets of states as numbers; the states that letters of an alphabet lead to; deterministic systems. -/
import Derived.Test.YtbomhfbiaedbiaaDoorMathA
namespace AG

/-- The set of the numbers below n of which p holds, as a number. -/
noncomputable def bitsOf (p : Nat → Prop) : Nat → Nat
  | 0 => 0
  | n + 1 => open Classical in if p n then bitsOf p n ||| 2 ^ n else bitsOf p n

theorem bitsOf_testBit (p : Nat → Prop) (n q : Nat) : (bitsOf p n).testBit q = true ↔ q < n ∧ p q := by
  induction n with
  | zero => simp [bitsOf]
  | succ n ih =>
    unfold bitsOf
    split
    · rename_i h
      rw [Nat.testBit_or, Nat.testBit_two_pow, Bool.or_eq_true, ih, decide_eq_true_eq]
      constructor
      · rintro (⟨h1, h2⟩ | rfl)
        · exact ⟨by omega, h2⟩
        · exact ⟨by omega, h⟩
      · rintro ⟨h1, h2⟩
        by_cases e : n = q
        · exact .inr e
        · exact .inl ⟨by omega, h2⟩
    · rename_i h
      rw [ih]
      constructor
      · rintro ⟨h1, h2⟩; exact ⟨by omega, h2⟩
      · rintro ⟨h1, h2⟩
        by_cases e : q = n
        · subst e; exact absurd h2 h
        · exact ⟨by omega, h2⟩

theorem bitsOf_lt (p : Nat → Prop) (n : Nat) : bitsOf p n < 2 ^ n := by
  refine Nat.lt_pow_two_of_testBit _ fun i hi => ?_
  rw [← Bool.not_eq_true]
  intro h
  have := ((bitsOf_testBit p n i).1 h).1
  omega

theorem Has_nat (S n : Nat) : Has (S : Int) n = S.testBit n := by
  unfold Has
  rw [Nat.testBit_eq_decide_div_mod_eq]
  have : ((S : Int) / (2 : Int) ^ n) % 2 = ((S / 2 ^ n % 2 : Nat) : Int) := by
    rw [Int.natCast_emod, Int.natCast_ediv, Int.natCast_pow]; rfl
  rw [this]
  congr 1
  rw [eq_iff_iff]
  omega

theorem testBit_lt {S n q : Nat} (h : S < 2 ^ n) (hq : S.testBit q = true) : q < n := by
  rcases Nat.lt_or_ge q n with h1 | h1
  · exact h1
  · rw [Nat.testBit_lt_two_pow (Nat.lt_of_lt_of_le h (Nat.pow_le_pow_right (by omega) h1))] at hq
    cases hq

/-- The states to which a letter leads from a set of states. -/
noncomputable def stepSet (s : Sy) (S : Nat) (l : Int) : Nat := bitsOf (fun t => ∃ e ∈ s.es, e.l = l ∧ S.testBit e.f.toNat = true ∧ e.t.toNat = t) 16

/-- q is reached from S along edges whose letters are in the alphabet A. -/
def Rch (s : Sy) (A : Int) (S : Nat) (q : Nat) : Prop :=
  ∀ R : Nat → Prop, (∀ x, S.testBit x = true → R x) → (∀ e ∈ s.es, Has A e.l.toNat = true → R e.f.toNat → R e.t.toNat) → R q

noncomputable def reachSet (s : Sy) (A : Int) (S : Nat) : Nat := bitsOf (Rch s A S) 16

/-- The edges' numbers are in their ranges. -/
def edgesIn (s : Sy) : Prop := ∀ e ∈ s.es, 0 ≤ e.f ∧ e.f < 16 ∧ 0 ≤ e.t ∧ e.t < 16 ∧ 0 ≤ e.l ∧ e.l < 6 ∧ Has s.al e.l.toNat = true ∧ e.f < s.st ∧ e.t < s.st

theorem sysOk_edge {s : Sy} (h : sysOk s = true) {i : Nat} (hi : i < s.es.length) : edgeOk s.al s.st s.es[i] = true := by
  unfold sysOk at h
  rw [decide_eq_true_iff] at h
  exact (h.2.2.2 i hi hi).1
theorem sysOk_st {s : Sy} (h : sysOk s = true) : 1 ≤ s.st ∧ s.st ≤ 16 := by
  unfold sysOk at h
  rw [decide_eq_true_iff] at h
  exact ⟨h.2.1, h.2.2.1⟩
theorem sysOk_lt {s : Sy} (h : sysOk s = true) {i : Nat} (hi : i + 1 < s.es.length) : edgeLt s.es[i] s.es[i + 1] = true := by
  unfold sysOk at h
  rw [decide_eq_true_iff] at h
  exact (h.2.2.2 (i + 1) hi hi).2 i (by omega) rfl
theorem sysOk_in {s : Sy} (h : sysOk s = true) : edgesIn s := by
  intro e he
  obtain ⟨i, hi, rfl⟩ := List.mem_iff_getElem.1 he
  have h1 := sysOk_edge h hi
  have h2 := sysOk_st h
  unfold edgeOk at h1
  rw [Bool.and_eq_true, decide_eq_true_iff] at h1
  obtain ⟨⟨a, b, c, d, e1, f⟩, g⟩ := h1
  exact ⟨a, by omega, c, by omega, e1, f, g, b, d⟩

/-- A set that holds S, is closed, and lies in every such set is the set reached. -/
theorem reach_unique {s : Sy} {A : Int} {S R : Nat} (hR : R < 2 ^ 16) (h0 : ∀ x, S.testBit x = true → R.testBit x = true)
    (h1 : ∀ e ∈ s.es, Has A e.l.toNat = true → R.testBit e.f.toNat = true → R.testBit e.t.toNat = true) (h2 : ∀ x, R.testBit x = true → Rch s A S x) : R = reachSet s A S := by
  refine Nat.eq_of_testBit_eq fun q => ?_
  rw [Bool.eq_iff_iff, reachSet, bitsOf_testBit]
  exact ⟨fun h => ⟨testBit_lt hR h, h2 q h⟩, fun h => h.2 _ h0 h1⟩

theorem Rch.start {s : Sy} {A : Int} {S q : Nat} (h : S.testBit q = true) : Rch s A S q := fun _ h0 _ => h0 q h
theorem Rch.step {s : Sy} {A : Int} {S : Nat} {e : Ed} (he : e ∈ s.es) (hA : Has A e.l.toNat = true) (h : Rch s A S e.f.toNat) : Rch s A S e.t.toNat :=
  fun R h0 h1 => h1 e he hA (h R h0 h1)

/-- All reached states. -/
noncomputable def reachAll (s : Sy) : Nat := reachSet s s.al 1

/-- No two edges with one letter leave a reached state. -/
def detAt (s : Sy) (S : Nat) (k : Nat) : Prop := ∀ i (h : i + 1 < s.es.length), i < k → ¬ (Has (S : Int) s.es[i].f.toNat = true ∧ s.es[i].f = s.es[i + 1].f ∧ s.es[i].l = s.es[i + 1].l)
open Classical in
noncomputable def detB (s : Sy) : Bool := sysOk s && decide (detAt s (reachAll s) s.es.length)

theorem or_pow_lt {S n t : Nat} (h : S < 2 ^ n) (ht : t < n) : S ||| 2 ^ t < 2 ^ n := Nat.or_lt_two_pow h (Nat.pow_lt_pow_right (by omega) ht)
theorem testBit_or_pow (S t q : Nat) : (S ||| 2 ^ t).testBit q = true ↔ S.testBit q = true ∨ t = q := by
  rw [Nat.testBit_or, Nat.testBit_two_pow, Bool.or_eq_true, decide_eq_true_eq]

/-- The states to which the first k edges lead from q with the letter l. -/
noncomputable def mvTo (s : Sy) (k q l : Nat) : Nat := bitsOf (fun t => ∃ i, ∃ (h : i < s.es.length), i < k ∧ s.es[i].f.toNat = q ∧ s.es[i].l.toNat = l ∧ s.es[i].t.toNat = t) 16
noncomputable def mv (s : Sy) (q l : Nat) : Nat := mvTo s s.es.length q l
theorem mvTo_lt (s : Sy) (k q l : Nat) : mvTo s k q l < 65536 := by unfold mvTo; exact bitsOf_lt _ 16
theorem mv_lt (s : Sy) (q l : Nat) : mv s q l < 65536 := mvTo_lt s _ q l
theorem mvTo_zero (s : Sy) (q l : Nat) : mvTo s 0 q l = 0 := by
  refine Nat.eq_of_testBit_eq fun t => ?_
  rw [Nat.zero_testBit, ← Bool.not_eq_true, mvTo, bitsOf_testBit]
  rintro ⟨_, i, _, h, _⟩
  omega
theorem mvTo_hit {s : Sy} (hs : edgesIn s) {k : Nat} (hk : k < s.es.length) : mvTo s (k + 1) s.es[k].f.toNat s.es[k].l.toNat = mvTo s k s.es[k].f.toNat s.es[k].l.toNat ||| 2 ^ s.es[k].t.toNat := by
  refine Nat.eq_of_testBit_eq fun t => ?_
  obtain ⟨a, b, c, d, _⟩ := hs s.es[k] (List.getElem_mem _)
  rw [Bool.eq_iff_iff, testBit_or_pow, mvTo, mvTo, bitsOf_testBit, bitsOf_testBit]
  constructor
  · rintro ⟨h1, i, hi, hik, e1, e2, e3⟩
    by_cases e : i = k
    · subst e; exact .inr e3
    · exact .inl ⟨h1, i, hi, by omega, e1, e2, e3⟩
  · rintro (⟨h1, i, hi, hik, e1, e2, e3⟩ | e)
    · exact ⟨h1, i, hi, by omega, e1, e2, e3⟩
    · exact ⟨by omega, k, hk, by omega, rfl, rfl, e⟩
theorem mvTo_miss {s : Sy} {k q l : Nat} (hk : k < s.es.length) (h : ¬ (s.es[k].f.toNat = q ∧ s.es[k].l.toNat = l)) : mvTo s (k + 1) q l = mvTo s k q l := by
  refine Nat.eq_of_testBit_eq fun t => ?_
  rw [Bool.eq_iff_iff, mvTo, mvTo, bitsOf_testBit, bitsOf_testBit]
  constructor
  · rintro ⟨h1, i, hi, hik, e1, e2, e3⟩
    by_cases e : i = k
    · subst e; exact absurd ⟨e1, e2⟩ h
    · exact ⟨h1, i, hi, by omega, e1, e2, e3⟩
  · rintro ⟨h1, i, hi, hik, e1, e2, e3⟩
    exact ⟨h1, i, hi, by omega, e1, e2, e3⟩
theorem mv_testBit (s : Sy) (q l t : Nat) : (mv s q l).testBit t = true ↔ t < 16 ∧ ∃ e ∈ s.es, e.f.toNat = q ∧ e.l.toNat = l ∧ e.t.toNat = t := by
  rw [mv, mvTo, bitsOf_testBit]
  constructor
  · rintro ⟨h, i, hi, _, h2⟩
    exact ⟨h, s.es[i], List.getElem_mem _, h2⟩
  · rintro ⟨h, e, he, h2⟩
    obtain ⟨i, hi, rfl⟩ := List.mem_iff_getElem.1 he
    exact ⟨h, i, hi, hi, h2⟩

/-- The union of the sets that a table has at the members of S. -/
noncomputable def unionOf (m : Nat → Nat → Nat) (S l : Nat) : Nat := bitsOf (fun t => ∃ q, S.testBit q = true ∧ (m q l).testBit t = true) 16
theorem unionOf_lt (m : Nat → Nat → Nat) (S l : Nat) : unionOf m S l < 65536 := by unfold unionOf; exact bitsOf_lt _ 16
theorem unionOf_mv (s : Sy) (hs : edgesIn s) (S : Nat) (l : Nat) : unionOf (mv s) S l = stepSet s S (l : Int) := by
  refine Nat.eq_of_testBit_eq fun t => ?_
  rw [Bool.eq_iff_iff, unionOf, stepSet, bitsOf_testBit, bitsOf_testBit]
  constructor
  · rintro ⟨h, q, hq, hm⟩
    obtain ⟨_, e, he, h1, h2, h3⟩ := (mv_testBit s q l t).1 hm
    obtain ⟨_, _, _, _, a, _⟩ := hs e he
    exact ⟨h, e, he, by omega, by rw [h1]; exact hq, h3⟩
  · rintro ⟨h, e, he, h1, h2, h3⟩
    exact ⟨h, e.f.toNat, h2, (mv_testBit s _ l t).2 ⟨h, e, he, rfl, by omega, h3⟩⟩

/-- Half way through the members of S: T is left, O gathered. -/
structure Gather (m : Nat → Nat → Nat) (S l T O : Nat) : Prop where
  lt : T < 65536
  olt : O < 65536
  eq : ∀ t, (unionOf m S l).testBit t = true ↔ O.testBit t = true ∨ ∃ q, T.testBit q = true ∧ (m q l).testBit t = true
theorem Gather.start {m : Nat → Nat → Nat} {S l : Nat} (hm : ∀ q, m q l < 65536) (h : S < 65536) : Gather m S l S 0 :=
  ⟨h, by omega, fun t => by
    rw [unionOf, bitsOf_testBit, Nat.zero_testBit]
    constructor
    · rintro ⟨_, h⟩; exact .inr h
    · rintro (h | ⟨q, hq, ht⟩)
      · cases h
      · exact ⟨testBit_lt (n := 16) (hm q) ht, q, hq, ht⟩⟩
theorem Gather.next {m : Nat → Nat → Nat} {S l T O q : Nat} (h : Gather m S l T O) (hm : m q l < 65536) (hq : T.testBit q = true) {T' : Nat} (hT : ∀ j, T'.testBit j = (T.testBit j && decide (j ≠ q))) : Gather m S l T' (O ||| m q l) := by
  refine ⟨?_, Nat.or_lt_two_pow (n := 16) h.olt hm, fun t => ?_⟩
  · refine Nat.lt_pow_two_of_testBit (n := 16) _ fun i hi => ?_
    rw [hT, Nat.testBit_lt_two_pow (Nat.lt_of_lt_of_le h.lt (Nat.pow_le_pow_right (n := 2) (by omega) hi))]
    rfl
  · rw [h.eq, Nat.testBit_or, Bool.or_eq_true]
    constructor
    · rintro (h1 | ⟨r, hr, ht⟩)
      · exact .inl (.inl h1)
      · by_cases e : r = q
        · subst e; exact .inl (.inr ht)
        · exact .inr ⟨r, by rw [hT, hr]; simpa using e, ht⟩
    · rintro ((h1 | h1) | ⟨r, hr, ht⟩)
      · exact .inl h1
      · exact .inr ⟨q, hq, h1⟩
      · rw [hT, Bool.and_eq_true] at hr
        exact .inr ⟨r, hr.1, ht⟩
theorem Gather.done {m : Nat → Nat → Nat} {S l O : Nat} (h : Gather m S l 0 O) : O = unionOf m S l := by
  refine Nat.eq_of_testBit_eq fun t => ?_
  rw [Bool.eq_iff_iff, h.eq]
  simp [Nat.zero_testBit]

/-- Taking the lowest bit away. -/
theorem drop_low {x q m : Nat} (hx : x = 2 ^ q * (2 * m + 1)) : x.testBit q = true ∧ (∀ j, (x &&& (x - 1)).testBit j = (x.testBit j && decide (j ≠ q))) ∧ x &&& (x - 1) < x := by
  have hpos : 0 < 2 ^ q := Nat.two_pow_pos q
  have e1 : x = 2 ^ q * (2 * m + 1) + 0 := by omega
  have e2 : x - 1 = 2 ^ q * (2 * m) + (2 ^ q - 1) := by rw [hx, Nat.mul_add]; omega
  have t1 : ∀ j, x.testBit j = if j < q then false else (2 * m + 1).testBit (j - q) := fun j => by
    rw [e1, Nat.testBit_two_pow_mul_add _ hpos, Nat.zero_testBit]
  have t2 : ∀ j, (x - 1).testBit j = if j < q then (2 ^ q - 1).testBit j else (2 * m).testBit (j - q) := fun j => by
    rw [e2, Nat.testBit_two_pow_mul_add _ (by omega)]
  refine ⟨by rw [t1, if_neg (by omega)]; simp, fun j => ?_, ?_⟩
  · rw [Nat.testBit_and, t1, t2]
    by_cases hj : j < q
    · simp [hj]
    · rw [if_neg hj, if_neg hj]
      by_cases e : j = q
      · subst e; simp
      · obtain ⟨d, rfl⟩ : ∃ d, j = q + 1 + d := ⟨j - q - 1, by omega⟩
        have : q + 1 + d - q = d + 1 := by omega
        rw [this, Nat.testBit_succ, Nat.testBit_succ]
        have a1 : (2 * m + 1) / 2 = m := by omega
        have a2 : 2 * m / 2 = m := by omega
        rw [a1, a2, Bool.and_self]
        simp; omega
  · have := Nat.and_le_right (n := x) (m := x - 1)
    have hx1 : 0 < x := by rw [hx]; exact Nat.mul_pos hpos (by omega)
    omega

theorem lt_or_pow {T t : Nat} (h : T.testBit t = false) : T < T ||| 2 ^ t := by
  have h1 : T ≤ T ||| 2 ^ t := Nat.left_le_or
  rcases Nat.lt_or_ge T (T ||| 2 ^ t) with h2 | h2
  · exact h2
  · have e : T = T ||| 2 ^ t := by omega
    have : T.testBit t = true := by rw [e, testBit_or_pow]; exact .inr rfl
    rw [h] at this
    cases this

/-- A pass over the edges that gathers what is reached: T0 at its start, T behind k edges. -/
structure Pass (s : Sy) (A : Int) (S T0 T : Nat) (k : Nat) (more : Bool) : Prop where
  lt : T < 2 ^ 16
  base : ∀ x, S.testBit x = true → T.testBit x = true
  inside : ∀ x, T.testBit x = true → Rch s A S x
  unmoved : more = false → T = T0 ∧ ∀ i (h : i < s.es.length), i < k → Has A s.es[i].l.toNat = true → T.testBit s.es[i].f.toNat = true → T.testBit s.es[i].t.toNat = true
  moved : more = true → T0 < T
theorem Pass.start {s : Sy} {A : Int} {S T : Nat} (h0 : T < 2 ^ 16) (h1 : ∀ x, S.testBit x = true → T.testBit x = true) (h2 : ∀ x, T.testBit x = true → Rch s A S x) : Pass s A S T T 0 false :=
  ⟨h0, h1, h2, fun _ => ⟨rfl, fun _ _ h => by omega⟩, fun h => by cases h⟩
theorem Pass.skip {s : Sy} {A : Int} {S T0 T k : Nat} {more : Bool} (h : Pass s A S T0 T k more) (hk : k < s.es.length)
    (hn : ¬ (Has A s.es[k].l.toNat = true ∧ T.testBit s.es[k].f.toNat = true ∧ T.testBit s.es[k].t.toNat = false)) : Pass s A S T0 T (k + 1) more :=
  ⟨h.lt, h.base, h.inside, fun hm => ⟨(h.unmoved hm).1, fun i hi hik ha hf => by
    by_cases e : i = k
    · subst e
      rcases hb : T.testBit s.es[i].t.toNat with _ | _
      · exact absurd ⟨ha, hf, hb⟩ hn
      · rfl
    · exact (h.unmoved hm).2 i hi (by omega) ha hf⟩, h.moved⟩
theorem Pass.add {s : Sy} {A : Int} {S T0 T k : Nat} {more : Bool} (hs : edgesIn s) (h : Pass s A S T0 T k more) (hk : k < s.es.length)
    (ha : Has A s.es[k].l.toNat = true) (hf : T.testBit s.es[k].f.toNat = true) (ht : T.testBit s.es[k].t.toNat = false) : Pass s A S T0 (T ||| 2 ^ s.es[k].t.toNat) (k + 1) true := by
  obtain ⟨a, b, c, d, _⟩ := hs s.es[k] (List.getElem_mem _)
  have hlt := lt_or_pow ht
  refine ⟨or_pow_lt h.lt (by omega), fun x hx => by rw [testBit_or_pow]; exact .inl (h.base x hx), fun x hx => ?_, fun hm => (by cases hm), fun _ => ?_⟩
  · rw [testBit_or_pow] at hx
    rcases hx with hx | rfl
    · exact h.inside x hx
    · exact Rch.step (List.getElem_mem hk) ha (h.inside _ hf)
  · cases more with
    | true => have := h.moved rfl; omega
    | false => have := (h.unmoved rfl).1; omega
theorem Pass.done {s : Sy} {A : Int} {S T0 T : Nat} (h : Pass s A S T0 T s.es.length false) : T = reachSet s A S := by
  refine reach_unique h.lt h.base (fun e he ha hf => ?_) h.inside
  obtain ⟨i, hi, rfl⟩ := List.mem_iff_getElem.1 he
  exact (h.unmoved rfl).2 i hi hi ha hf

/-- T and all that the letters ls lead to from T. -/
noncomputable def closeL (m : Nat → Nat → Nat) (T : Nat) (ls : List Nat) : Nat := ls.foldl (fun U l => U ||| unionOf m T l) T
theorem closeL_snoc (m : Nat → Nat → Nat) (T : Nat) (ls : List Nat) (l : Nat) : closeL m T (ls ++ [l]) = closeL m T ls ||| unionOf m T l := by simp [closeL]
theorem closeL_testBit (m : Nat → Nat → Nat) (T : Nat) (ls : List Nat) (t : Nat) : (closeL m T ls).testBit t = true ↔ T.testBit t = true ∨ ∃ l ∈ ls, (unionOf m T l).testBit t = true := by
  have key : ∀ (ls : List Nat) (U : Nat), (ls.foldl (fun U l => U ||| unionOf m T l) U).testBit t = true ↔ U.testBit t = true ∨ ∃ l ∈ ls, (unionOf m T l).testBit t = true := by
    intro ls
    induction ls with
    | nil => intro U; simp
    | cons l ls ih =>
      intro U
      rw [List.foldl_cons, ih, Nat.testBit_or, Bool.or_eq_true]
      simp only [List.mem_cons, exists_eq_or_imp]
      exact or_assoc
  exact key ls T
theorem closeL_lt (m : Nat → Nat → Nat) {T : Nat} (hT : T < 65536) (ls : List Nat) : closeL m T ls < 65536 := by
  have key : ∀ (ls : List Nat) (U : Nat), U < 65536 → ls.foldl (fun U l => U ||| unionOf m T l) U < 65536 := by
    intro ls
    induction ls with
    | nil => intro U h; exact h
    | cons l ls ih => intro U h; exact ih _ (Nat.or_lt_two_pow (n := 16) h (unionOf_lt m T l))
  exact key ls T hT
theorem closeL_ge (m : Nat → Nat → Nat) (T : Nat) (ls : List Nat) : T ≤ closeL m T ls := by
  have key : ∀ (ls : List Nat) (U : Nat), U ≤ ls.foldl (fun U l => U ||| unionOf m T l) U := by
    intro ls
    induction ls with
    | nil => intro U; exact Nat.le_refl _
    | cons l ls ih => intro U; exact Nat.le_trans Nat.left_le_or (ih _)
  exact key ls T
theorem closeL_inside {s : Sy} (hs : edgesIn s) {A : Int} {S T : Nat} {ls : List Nat} (h : ∀ x, T.testBit x = true → Rch s A S x) (hls : ∀ e ∈ s.es, e.l.toNat ∈ ls → Has A e.l.toNat = true) : ∀ x, (closeL (mv s) T ls).testBit x = true → Rch s A S x := by
  intro x hx
  rcases (closeL_testBit _ _ _ _).1 hx with h1 | ⟨l, hl, h1⟩
  · exact h x h1
  · rw [unionOf_mv s hs, stepSet, bitsOf_testBit] at h1
    obtain ⟨_, e, he, e1, e2, e3⟩ := h1
    have h2 : e.l.toNat = l := by omega
    rw [← e3]
    exact Rch.step he (hls e he (by rw [h2]; exact hl)) (h _ e2)
theorem closeL_fix {s : Sy} (hs : edgesIn s) {A : Int} {S T : Nat} {ls : List Nat} (hT : T < 65536) (hfix : closeL (mv s) T ls = T) (hbase : ∀ x, S.testBit x = true → T.testBit x = true) (hin : ∀ x, T.testBit x = true → Rch s A S x)
    (hls : ∀ e ∈ s.es, Has A e.l.toNat = true → e.l.toNat ∈ ls) : T = reachSet s A S := by
  refine reach_unique hT hbase (fun e he hA hf => ?_) hin
  obtain ⟨a, b, c, d, e1, f, _⟩ := hs e he
  rw [← hfix, closeL_testBit]
  refine .inr ⟨e.l.toNat, hls e he hA, ?_⟩
  rw [unionOf_mv s hs, stepSet, bitsOf_testBit]
  exact ⟨by omega, e, he, by omega, hf, rfl⟩
/-- .. the first k letters. -/
noncomputable def closeTo (m : Nat → Nat → Nat) (T k : Nat) : Nat := closeL m T (List.range k)
theorem closeTo_zero (m : Nat → Nat → Nat) (T : Nat) : closeTo m T 0 = T := rfl
theorem closeTo_succ (m : Nat → Nat → Nat) (T k : Nat) : closeTo m T (k + 1) = closeTo m T k ||| unionOf m T k := by unfold closeTo; rw [List.range_succ, closeL_snoc]
theorem reachSet_lt (s : Sy) (A : Int) (S : Nat) : reachSet s A S < 65536 := by unfold reachSet; exact bitsOf_lt _ 16
theorem reachAll_lt (s : Sy) : reachAll s < 65536 := reachSet_lt _ _ _

end AG
