/- Plain: the members of a set of small numbers as a list. -/
import Derived.Test.YtnchoiljcdicdaaDoorMathD
namespace AG

theorem sorted_ext : ∀ {l1 l2 : List Nat}, l1.Pairwise (· < ·) → l2.Pairwise (· < ·) → (∀ x, x ∈ l1 ↔ x ∈ l2) → l1 = l2
  | [], [], _, _, _ => rfl
  | [], b :: l2, _, _, h => by have := (h b).2 List.mem_cons_self; cases this
  | a :: l1, [], _, _, h => by have := (h a).1 List.mem_cons_self; cases this
  | a :: l1, b :: l2, h1, h2, h => by
    rw [List.pairwise_cons] at h1 h2
    have hab : a = b := by
      have ha := (h a).1 List.mem_cons_self
      have hb := (h b).2 List.mem_cons_self
      rcases List.mem_cons.1 ha with e | ha
      · exact e
      · rcases List.mem_cons.1 hb with e | hb
        · exact e.symm
        · have := h1.1 b hb
          have := h2.1 a ha
          omega
    subst hab
    have : l1 = l2 := sorted_ext h1.2 h2.2 fun x => by
      have hx := h x
      simp only [List.mem_cons] at hx
      constructor
      · intro hm
        rcases hx.1 (.inr hm) with e | e
        · subst e
          exact absurd (h1.1 x hm) (by omega)
        · exact e
      · intro hm
        rcases hx.2 (.inr hm) with e | e
        · subst e
          exact absurd (h2.1 x hm) (by omega)
        · exact e
    rw [this]

/-- The members of a set of states, in order. -/
def memL (S : Nat) : List Nat := (List.range 16).filter fun q => S.testBit q
theorem memL_mem {S q : Nat} : q ∈ memL S ↔ q < 16 ∧ S.testBit q = true := by unfold memL; rw [List.mem_filter, List.mem_range]
theorem memL_sorted (S : Nat) : (memL S).Pairwise (· < ·) := by unfold memL; exact List.Pairwise.filter _ List.pairwise_lt_range
theorem memL_len (S : Nat) : (memL S).length ≤ 16 := Nat.le_trans (List.length_filter_le _ _) (by simp)
theorem memL_zero : memL 0 = [] := by unfold memL; rw [List.filter_eq_nil_iff]; intro x _; simp
theorem memL_low {S q m : Nat} (hS : S < 65536) (h : S = 2 ^ q * (2 * m + 1)) : memL S = q :: memL (S &&& (S - 1)) := by
  obtain ⟨hbit, hbits, _⟩ := drop_low h
  have hq : q < 16 := testBit_lt (n := 16) hS hbit
  have hlow : ∀ j, j < q → S.testBit j = false := fun j hj => by
    have : S = 2 ^ q * (2 * m + 1) + 0 := by omega
    rw [this, Nat.testBit_two_pow_mul_add _ (Nat.two_pow_pos q), if_pos hj, Nat.zero_testBit]
  refine sorted_ext (memL_sorted _) ?_ fun x => ?_
  · rw [List.pairwise_cons]
    refine ⟨fun x hx => ?_, memL_sorted _⟩
    have hx2 := (memL_mem.1 hx).2
    rw [hbits] at hx2
    simp only [Bool.and_eq_true, decide_eq_true_eq] at hx2
    rcases Nat.lt_trichotomy x q with h1 | h1 | h1
    · rw [hlow x h1] at hx2
      cases hx2.1
    · exact absurd h1 hx2.2
    · exact h1
  · rw [List.mem_cons, memL_mem, memL_mem, hbits]
    simp only [Bool.and_eq_true, decide_eq_true_eq]
    constructor
    · rintro ⟨h1, h2⟩
      by_cases e : x = q
      · exact .inl e
      · exact .inr ⟨h1, h2, e⟩
    · rintro (rfl | ⟨h1, h2, _⟩)
      · exact ⟨hq, hbit⟩
      · exact ⟨h1, h2⟩

theorem letters_of_six {A : Int} {l : Nat} (h1 : l < 6) (h2 : Has A l = true) : l ∈ letters A := by
  unfold letters lettersTo
  rw [List.mem_filter, List.mem_range]
  exact ⟨h1, h2⟩
end AG
