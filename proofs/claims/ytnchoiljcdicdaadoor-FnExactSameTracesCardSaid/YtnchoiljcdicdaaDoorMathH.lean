/- Plain: the nodes of a list that have not been seen. -/
import Derived.Test.YtnchoiljcdicdaaDoorMathC
namespace AG

theorem snocInd {P : List Nat → Prop} (h0 : P []) (h1 : ∀ l n, P l → P (l ++ [n])) (l : List Nat) : P l := by
  have key : ∀ r : List Nat, P r.reverse := by
    intro r
    induction r with
    | nil => exact h0
    | cons n r ih => rw [List.reverse_cons]; exact h1 _ _ ih
  have := key l.reverse
  rwa [List.reverse_reverse] at this

def frsStep (S : Nat → Bool) (fr : List Nat) (n : Nat) : List Nat := if (S n || fr.contains n) = true then fr else fr ++ [n]
/-- The nodes of ns that S has not, each once, in order. -/
def frs (S : Nat → Bool) (ns : List Nat) : List Nat := ns.foldl (frsStep S) []
theorem frs_nil (S : Nat → Bool) : frs S [] = [] := rfl
theorem frs_snoc (S : Nat → Bool) (ns : List Nat) (n : Nat) : frs S (ns ++ [n]) = frsStep S (frs S ns) n := by unfold frs; rw [List.foldl_append]; rfl
theorem frs_take (S : Nat → Bool) (ns : List Nat) {k : Nat} (h : k < ns.length) : frs S (ns.take (k + 1)) = frsStep S (frs S (ns.take k)) ns[k] := by
  rw [List.take_succ_eq_append_getElem h, frs_snoc]
theorem frs_mem (S : Nat → Bool) : ∀ (ns : List Nat) (x : Nat), x ∈ frs S ns ↔ x ∈ ns ∧ S x = false := by
  intro ns
  refine snocInd (P := fun ns => ∀ x, x ∈ frs S ns ↔ x ∈ ns ∧ S x = false) ?_ ?_ ns
  · intro x; simp [frs_nil]
  · intro ns n ih x
    rw [frs_snoc]
    unfold frsStep
    by_cases h : (S n || (frs S ns).contains n) = true
    · rw [if_pos h, ih, List.mem_append, List.mem_singleton]
      constructor
      · rintro ⟨a, b⟩; exact ⟨.inl a, b⟩
      · rintro ⟨a | rfl, b⟩
        · exact ⟨a, b⟩
        · simp only [Bool.or_eq_true, b, Bool.false_eq_true, false_or, List.contains_iff_mem] at h
          exact (ih x).1 h
    · rw [if_neg h, List.mem_append, List.mem_singleton, ih, List.mem_append, List.mem_singleton]
      simp only [Bool.or_eq_true, not_or, Bool.not_eq_true] at h
      constructor
      · rintro (⟨a, b⟩ | rfl)
        · exact ⟨.inl a, b⟩
        · exact ⟨.inr rfl, h.1⟩
      · rintro ⟨a | rfl, b⟩
        · exact .inl ⟨a, b⟩
        · exact .inr rfl
theorem frs_len (S : Nat → Bool) (ns : List Nat) : (frs S ns).length ≤ ns.length := by
  refine snocInd (P := fun ns => (frs S ns).length ≤ ns.length) ?_ ?_ ns
  · simp [frs_nil]
  · intro ns n ih
    rw [frs_snoc]
    unfold frsStep
    split
    · simp; omega
    · simp; exact ih
theorem frs_nodup (S : Nat → Bool) (ns : List Nat) : (frs S ns).Nodup := by
  refine snocInd (P := fun ns => (frs S ns).Nodup) ?_ ?_ ns
  · simp [frs_nil]
  · intro ns n ih
    rw [frs_snoc]
    unfold frsStep
    split
    · exact ih
    · rename_i h
      rw [List.nodup_append]
      refine ⟨ih, by simp, fun a ha b hb e => h ?_⟩
      rw [List.mem_singleton] at hb
      subst hb e
      simp [ha]
end AG
