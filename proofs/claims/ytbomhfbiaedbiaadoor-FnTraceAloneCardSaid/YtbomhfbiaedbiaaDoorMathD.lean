/- Plain: one step of a set of states, edge by edge; the letters of an alphabet in order. -/
import Derived.Test.YtbomhfbiaedbiaaDoorMathB
namespace AG

/-- The states to which the first k edges lead from the members of S with the letter l. -/
noncomputable def stTo (s : Sy) (S : Nat) (l : Int) (k : Nat) : Nat := bitsOf (fun t => ∃ i, ∃ (_ : i < s.es.length), i < k ∧ s.es[i].l = l ∧ S.testBit s.es[i].f.toNat = true ∧ s.es[i].t.toNat = t) 16
theorem stTo_lt (s : Sy) (S : Nat) (l : Int) (k : Nat) : stTo s S l k < 65536 := by unfold stTo; exact bitsOf_lt _ 16
theorem stTo_zero (s : Sy) (S : Nat) (l : Int) : stTo s S l 0 = 0 := by
  refine Nat.eq_of_testBit_eq fun t => ?_
  rw [Nat.zero_testBit, ← Bool.not_eq_true, stTo, bitsOf_testBit]
  rintro ⟨_, i, _, h, _⟩
  omega
theorem stTo_hit {s : Sy} (hs : edgesIn s) {S : Nat} {l : Int} {k : Nat} (hk : k < s.es.length) (h1 : s.es[k].l = l) (h2 : S.testBit s.es[k].f.toNat = true) : stTo s S l (k + 1) = stTo s S l k ||| 2 ^ s.es[k].t.toNat := by
  refine Nat.eq_of_testBit_eq fun t => ?_
  obtain ⟨a, b, c, d, _⟩ := hs s.es[k] (List.getElem_mem _)
  rw [Bool.eq_iff_iff, testBit_or_pow, stTo, stTo, bitsOf_testBit, bitsOf_testBit]
  constructor
  · rintro ⟨h1, i, hi, hik, e1, e2, e3⟩
    by_cases e : i = k
    · subst e; exact .inr e3
    · exact .inl ⟨h1, i, hi, by omega, e1, e2, e3⟩
  · rintro (⟨h1, i, hi, hik, e1, e2, e3⟩ | e)
    · exact ⟨h1, i, hi, by omega, e1, e2, e3⟩
    · exact ⟨by omega, k, hk, by omega, h1, h2, e⟩
theorem stTo_miss {s : Sy} {S : Nat} {l : Int} {k : Nat} (hk : k < s.es.length) (h : ¬ (s.es[k].l = l ∧ S.testBit s.es[k].f.toNat = true)) : stTo s S l (k + 1) = stTo s S l k := by
  refine Nat.eq_of_testBit_eq fun t => ?_
  rw [Bool.eq_iff_iff, stTo, stTo, bitsOf_testBit, bitsOf_testBit]
  constructor
  · rintro ⟨h1, i, hi, hik, e1, e2, e3⟩
    by_cases e : i = k
    · subst e; exact absurd ⟨e1, e2⟩ h
    · exact ⟨h1, i, hi, by omega, e1, e2, e3⟩
  · rintro ⟨h1, i, hi, hik, e1, e2, e3⟩
    exact ⟨h1, i, hi, by omega, e1, e2, e3⟩
theorem stTo_all (s : Sy) (S : Nat) (l : Int) : stTo s S l s.es.length = stepSet s S l := by
  refine Nat.eq_of_testBit_eq fun t => ?_
  rw [Bool.eq_iff_iff, stTo, stepSet, bitsOf_testBit, bitsOf_testBit]
  constructor
  · rintro ⟨h, i, hi, _, e1, e2, e3⟩
    exact ⟨h, s.es[i], List.getElem_mem _, e1, e2, e3⟩
  · rintro ⟨h, e, he, e1, e2, e3⟩
    obtain ⟨i, hi, rfl⟩ := List.mem_iff_getElem.1 he
    exact ⟨h, i, hi, hi, e1, e2, e3⟩
theorem stepSet_lt (s : Sy) (S : Nat) (l : Int) : stepSet s S l < 65536 := by unfold stepSet; exact bitsOf_lt _ 16

/-- Two systems that may be compared. -/
def cmpOk (a b : Sy) : Bool := sysOk a && (sysOk b && decide (a.al = b.al))

/-- The letters of an alphabet, in order. -/
def lettersTo (A : Int) (k : Nat) : List Nat := (List.range k).filter fun l => Has A l
def letters (A : Int) : List Nat := lettersTo A 6
theorem lettersTo_zero (A : Int) : lettersTo A 0 = [] := rfl
theorem lettersTo_succ (A : Int) (k : Nat) : lettersTo A (k + 1) = if Has A k then lettersTo A k ++ [k] else lettersTo A k := by
  unfold lettersTo
  rw [List.range_succ, List.filter_append]
  by_cases h : Has A k = true
  · simp [h]
  · simp [h]
theorem lettersTo_len (A : Int) (k : Nat) : (lettersTo A k).length ≤ k := by
  unfold lettersTo
  exact Nat.le_trans (List.length_filter_le _ _) (by simp)
theorem letters_lt {A : Int} {l : Nat} (h : l ∈ letters A) : l < 6 ∧ Has A l = true := by
  unfold letters lettersTo at h
  rw [List.mem_filter, List.mem_range] at h
  exact h
theorem letters_sorted (A : Int) : (letters A).Pairwise (· < ·) := by
  unfold letters lettersTo
  exact List.Pairwise.filter _ List.pairwise_lt_range

end AG
