/- Plain: the program's breadth-first search. -/
import Derived.Test.YtnchoiljcdicdaaDoorMathF
import Derived.Test.YtnchoiljcdicdaaDoorMathH
namespace AG

/-- The state of the search. -/
structure SB (I : Nat → Prop) (L : List Nat) (nx : Nat → Nat → List Nat) (G : Nat → Bool) (size : Nat) (ss : List Stp) (ws : List (List Nat)) (S : Nat → Bool) (i k : Nat) : Prop where
  bfs : Bfs I L nx (fun n => G n = true) ss ws i k
  seen : ∀ n, S n = true ↔ ∃ x ∈ ss, n ∈ x.nodes
  small : ∀ x ∈ ss, ∀ n ∈ x.nodes, n < size
  ne : ∀ x ∈ ss, x.nodes ≠ []
  nodup : (ss.flatMap (·.nodes)).Nodup

section
variable {I : Nat → Prop} {L : List Nat} {nx : Nat → Nat → List Nat} {G : Nat → Bool} {size : Nat} {ss : List Stp} {ws : List (List Nat)} {S : Nat → Bool} {i k : Nat}

theorem flat_len : ∀ {ss : List Stp}, (∀ x ∈ ss, x.nodes ≠ []) → ss.length ≤ (ss.flatMap (·.nodes)).length
  | [], _ => Nat.le_refl _
  | x :: ss, h => by
    have h1 := flat_len (ss := ss) fun y hy => h y (List.mem_cons_of_mem _ hy)
    have h2 : 0 < x.nodes.length := List.length_pos_iff.2 (h x List.mem_cons_self)
    rw [List.flatMap_cons, List.length_append, List.length_cons]
    omega
theorem flat_nodup : ∀ {ss : List Stp} {x : Stp}, (ss.flatMap (·.nodes)).Nodup → x ∈ ss → x.nodes.Nodup
  | y :: ss, x, h, hx => by
    rw [List.flatMap_cons, List.nodup_append] at h
    rcases List.mem_cons.1 hx with rfl | hx
    · exact h.1
    · exact flat_nodup h.2.1 hx
theorem SB.bound (h : SB I L nx G size ss ws S i k) : ss.length ≤ size := by
  refine Nat.le_trans (flat_len h.ne) (nodup_bound size _ h.nodup fun x hx => ?_)
  obtain ⟨y, hy, hxy⟩ := List.mem_flatMap.1 hx
  exact h.small y hy x hxy
theorem SB.nodesLen (h : SB I L nx G size ss ws S i k) {x : Stp} (hx : x ∈ ss) : x.nodes.length ≤ size := by
  exact nodup_bound size _ (flat_nodup h.nodup hx) (h.small x hx)

theorem SB.begin {I0 : List Nat} (h0 : I0 ≠ []) (hs : ∀ n ∈ I0, n < size) (hg : (frs (fun _ => false) I0).any G = false) :
    SB (fun n => n ∈ I0) L nx G size [⟨-1, 0, frs (fun _ => false) I0⟩] [[]] (fun n => (frs (fun _ => false) I0).contains n) 0 0 := by
  have hm : ∀ n, n ∈ frs (fun _ => false) I0 ↔ n ∈ I0 := fun n => by rw [frs_mem]; simp
  refine ⟨Bfs.begin hm fun n hn e => ?_, fun n => by simp, fun x hx n hn => ?_, fun x hx e => ?_, by simpa using frs_nodup _ _⟩
  · rw [List.any_eq_false] at hg
    exact hg n hn e
  · rw [List.mem_singleton] at hx
    subst hx
    exact hs n ((hm n).1 hn)
  · rw [List.mem_singleton] at hx
    subst hx
    obtain ⟨a, ha⟩ := List.exists_mem_of_ne_nil _ h0
    have := (hm a).2 ha
    simp only at e
    rw [e] at this
    cases this
/-- The goal is among the first nodes. -/
theorem first_now {I0 : List Nat} (hg : (frs (fun _ => false) I0).any G = true) : FirstW (fun n => n ∈ I0) L nx (fun n => G n = true) [] := by
  rw [List.any_eq_true] at hg
  obtain ⟨n, hn, h⟩ := hg
  exact ⟨⟨n, ((frs_mem _ _ _).1 hn).1, h⟩, fun q m _ _ => rle_nil q⟩

/-- What the nodes of step i reach by letter number k. -/
def reachedL (nx : Nat → Nat → List Nat) (l : Nat) (ns : List Nat) : List Nat := ns.flatMap fun n => nx n l
theorem reachedL_snoc (l : Nat) (ns : List Nat) (n : Nat) : reachedL nx l (ns ++ [n]) = reachedL nx l ns ++ nx n l := by unfold reachedL; rw [List.flatMap_append]; simp
theorem reachedL_mem {l : Nat} {ns : List Nat} {x : Nat} : x ∈ reachedL nx l ns ↔ ∃ n ∈ ns, x ∈ nx n l := by unfold reachedL; rw [List.mem_flatMap]

theorem SB.over (h : SB I L nx G size ss ws S i k) (hk : L.length ≤ k) : SB I L nx G size ss ws S (i + 1) 0 := ⟨h.bfs.over hk, h.seen, h.small, h.ne, h.nodup⟩

theorem SB.old (h : SB I L nx G size ss ws S i k) (hL : L.Pairwise (· < ·)) (hi : i < ss.length) (hk : k < L.length) (hf : frs S (reachedL nx L[k] ss[i].nodes) = []) : SB I L nx G size ss ws S i (k + 1) := by
  refine ⟨h.bfs.stale hL hi hk fun n hn n' hn' => ?_, h.seen, h.small, h.ne, h.nodup⟩
  have hno : ¬ n' ∈ frs S (reachedL nx L[k] ss[i].nodes) := by rw [hf]; simp
  rw [frs_mem] at hno
  have hS : S n' = true := by
    cases hS : S n'
    · exact absurd ⟨reachedL_mem.2 ⟨n, hn, hn'⟩, hS⟩ hno
    · rfl
  obtain ⟨x, hx, hxn⟩ := (h.seen n').1 hS
  obtain ⟨j, hj, rfl⟩ := List.mem_iff_getElem.1 hx
  exact ⟨j, hj, hxn⟩

theorem SB.add (h : SB I L nx G size ss ws S i k) (hL : L.Pairwise (· < ·)) (hi : i < ss.length) (hi' : i < ws.length) (hk : k < L.length) (hnx : ∀ q, q < size → ∀ n ∈ nx q L[k], n < size) {fr : List Nat} (hf : fr = frs S (reachedL nx L[k] ss[i].nodes))
    (hne : fr ≠ []) (hg : fr.any G = false) :
    SB I L nx G size (ss ++ [⟨i, L[k], fr⟩]) (ws ++ [L[k] :: ws[i]]) (fun n => S n || fr.contains n) i (k + 1) := by
  have hm : ∀ n, n ∈ fr ↔ n ∈ reachedL nx L[k] ss[i].nodes ∧ S n = false := fun n => by rw [hf, frs_mem]
  refine ⟨h.bfs.fresh hL hi hi' hk (fun n' hn' => ?_) (fun n hn n' hn' => ?_) (fun n' hn' e => ?_), fun n => ?_, fun x hx n hn => ?_, fun x hx => ?_, ?_⟩
  · exact reachedL_mem.1 ((hm n').1 hn').1
  · cases hS : S n'
    · exact .inl ((hm n').2 ⟨reachedL_mem.2 ⟨n, hn, hn'⟩, hS⟩)
    · obtain ⟨x, hx, hxn⟩ := (h.seen n').1 hS
      obtain ⟨j, hj, rfl⟩ := List.mem_iff_getElem.1 hx
      exact .inr ⟨j, hj, hxn⟩
  · rw [List.any_eq_false] at hg
    exact hg n' hn' e
  · rw [Bool.or_eq_true, h.seen]
    constructor
    · rintro (⟨x, hx, hn⟩ | hn)
      · exact ⟨x, List.mem_append_left _ hx, hn⟩
      · exact ⟨_, List.mem_append_right _ (List.mem_singleton.2 rfl), by simpa using hn⟩
    · rintro ⟨x, hx, hn⟩
      rcases List.mem_append.1 hx with hx | hx
      · exact .inl ⟨x, hx, hn⟩
      · rw [List.mem_singleton] at hx
        subst hx
        exact .inr (by simpa using hn)
  · rcases List.mem_append.1 hx with hx | hx
    · exact h.small x hx n hn
    · rw [List.mem_singleton] at hx
      subst hx
      obtain ⟨q, hq, hnq⟩ := reachedL_mem.1 ((hm n).1 hn).1
      exact hnx q (h.small _ (List.getElem_mem hi) q hq) n hnq
  · rcases List.mem_append.1 hx with hx | hx
    · exact h.ne x hx
    · rw [List.mem_singleton] at hx
      subst hx
      exact hne
  · rw [List.flatMap_append, List.nodup_append]
    refine ⟨h.nodup, by simp only [List.flatMap_cons, List.flatMap_nil, List.append_nil]; rw [hf]; exact frs_nodup _ _, fun a ha b hb e => ?_⟩
    subst e
    simp only [List.flatMap_cons, List.flatMap_nil, List.append_nil] at hb
    obtain ⟨x, hx, hxa⟩ := List.mem_flatMap.1 ha
    have h1 := (h.seen a).2 ⟨x, hx, hxa⟩
    have h2 := ((hm a).1 hb).2
    rw [h1] at h2
    cases h2

theorem SB.found (h : SB I L nx G size ss ws S i k) (hL : L.Pairwise (· < ·)) (hi : i < ss.length) (hi' : i < ws.length) (hk : k < L.length) (hg : (frs S (reachedL nx L[k] ss[i].nodes)).any G = true) :
    FirstW I L nx (fun n => G n = true) (L[k] :: ws[i]) := by
  rw [List.any_eq_true] at hg
  obtain ⟨n', hn', hG⟩ := hg
  obtain ⟨n, hn, hnn⟩ := reachedL_mem.1 ((frs_mem _ _ _).1 hn').1
  exact h.bfs.found hL hi hi' hk hn hnn hG
theorem SB.none (h : SB I L nx G size ss ws S ss.length 0) : ∀ q n, RW I L nx q n → ¬ G n = true := h.bfs.none
end
end AG
