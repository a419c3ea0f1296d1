/- Lemmas, part 1: several texts in one. -/
set_option linter.unusedSimpArgs false
set_option linter.unusedVariables false

/- Plain: words from their last letter on, their order, and a breadth-first search for the first word that leads to a goal. -/
namespace AG

/-- The shortlex order of words that are written from their last letter on. -/
def rlt : List Nat → List Nat → Prop
  | _, [] => False
  | [], _ :: _ => True
  | a :: r, b :: q => rlt r q ∨ (r = q ∧ a < b)

theorem rlt_irrefl : ∀ r, ¬ rlt r r
  | [] => fun h => h
  | _ :: r => fun h => by
    rcases h with h | ⟨_, h⟩
    · exact rlt_irrefl r h
    · omega
theorem rlt_trans : ∀ {r q p : List Nat}, rlt r q → rlt q p → rlt r p
  | _, _, [], _, h => (by simp [rlt] at h)
  | [], _, _ :: _, _, _ => trivial
  | _ :: _, [], _ :: _, h, _ => (by simp [rlt] at h)
  | a :: r, b :: q, c :: p, h, k => by
    rcases h with h | ⟨rfl, h⟩
    · rcases k with k | ⟨rfl, _⟩
      · exact .inl (rlt_trans h k)
      · exact .inl h
    · rcases k with k | ⟨rfl, k⟩
      · exact .inl k
      · exact .inr ⟨rfl, by omega⟩
def rle (r q : List Nat) : Prop := rlt r q ∨ r = q
theorem rle_refl (r : List Nat) : rle r r := .inr rfl
theorem rle_trans {r q p : List Nat} (h : rle r q) (k : rle q p) : rle r p := by
  rcases h with h | rfl
  · rcases k with k | rfl
    · exact .inl (rlt_trans h k)
    · exact .inl h
  · exact k
theorem rle_antisymm {r q : List Nat} (h : rle r q) (k : rle q r) : r = q := by
  rcases h with h | h
  · rcases k with k | k
    · exact absurd (rlt_trans h k) (rlt_irrefl r)
    · exact k.symm
  · exact h
theorem rlt_cons (a : Nat) : ∀ r, rlt r (a :: r)
  | [] => trivial
  | _ :: r => .inl (rlt_cons _ r)
theorem rle_cons {r q : List Nat} (a : Nat) (h : rle r q) : rle (a :: r) (a :: q) := by
  rcases h with h | rfl
  · exact .inl (.inl h)
  · exact .inr rfl
theorem rlt_nil (a : Nat) (r : List Nat) : rlt [] (a :: r) := trivial
theorem rle_nil (r : List Nat) : rle [] r := by
  cases r with
  | nil => exact .inr rfl
  | cons a r => exact .inl trivial

/-- The node n is reached by the word r (written from its last letter on) over the letters L. -/
def RW (I : Nat → Prop) (L : List Nat) (nx : Nat → Nat → List Nat) : List Nat → Nat → Prop
  | [], n => I n
  | l :: r, n => l ∈ L ∧ ∃ m, RW I L nx r m ∧ n ∈ nx m l

/-- r is the first word that leads to a goal. -/
def FirstW (I : Nat → Prop) (L : List Nat) (nx : Nat → Nat → List Nat) (G : Nat → Prop) (r : List Nat) : Prop :=
  (∃ n, RW I L nx r n ∧ G n) ∧ ∀ q n, RW I L nx q n → G n → rle r q
theorem FirstW.unique {I : Nat → Prop} {L : List Nat} {nx : Nat → Nat → List Nat} {G : Nat → Prop} {r q : List Nat} (h : FirstW I L nx G r) (k : FirstW I L nx G q) : r = q := by
  obtain ⟨⟨n, hn, hg⟩, h2⟩ := h
  obtain ⟨⟨m, hm, hg'⟩, k2⟩ := k
  exact rle_antisymm (h2 _ _ hm hg') (k2 _ _ hn hg)

/-- A step of the search: the word that was reached, and the nodes that no earlier word reaches. -/
structure Stp where
  par : Int
  let_ : Nat
  nodes : List Nat

/-- The pair of step j and letter number m is before the pair i, k. -/
def before (i k j m : Nat) : Prop := j < i ∨ (j = i ∧ m < k)

/-- The state of the search: all letters before number k of step i are done. ws: the steps' words. -/
structure Bfs (I : Nat → Prop) (L : List Nat) (nx : Nat → Nat → List Nat) (G : Nat → Prop) (ss : List Stp) (ws : List (List Nat)) (i k : Nat) : Prop where
  len : ws.length = ss.length
  zero : ∀ (h : 0 < ws.length), ws[0] = []
  pos : 0 < ss.length
  root : ∀ (h : 0 < ss.length), ss[0].par = -1
  link : ∀ j (h : j < ss.length) (h' : j < ws.length), 0 < j → ∃ p q, p < j ∧ before i k p q ∧ ss[j].par = (p : Int) ∧ ∃ (hp : p < ws.length) (hq : q < L.length), ss[j].let_ = L[q] ∧ ws[j] = L[q] :: ws[p]
  reach : ∀ j (h : j < ss.length) (h' : j < ws.length), ∀ n ∈ ss[j].nodes, RW I L nx ws[j] n
  incr : ∀ j j' (h : j < ws.length) (h' : j' < ws.length), j < j' → rlt ws[j] ws[j']
  done : ∀ j (h : j < ss.length) (h' : j < ws.length) m (hm : m < L.length), before i k j m → ∀ n ∈ ss[j].nodes, ∀ n' ∈ nx n L[m], ∃ j', ∃ (g : j' < ss.length) (g' : j' < ws.length), n' ∈ ss[j'].nodes ∧ rle ws[j'] (L[m] :: ws[j])
  start : ∀ (h : 0 < ss.length), ∀ n, I n → n ∈ ss[0].nodes
  noGoal : ∀ j (h : j < ss.length), ∀ n ∈ ss[j].nodes, ¬ G n

section
variable {I : Nat → Prop} {L : List Nat} {nx : Nat → Nat → List Nat} {G : Nat → Prop} {ss : List Stp} {ws : List (List Nat)} {i k : Nat}

/-- Whatever a word reaches has been found by a word not behind it, or the word is not before one that is still to come. -/
theorem Bfs.cover (h : Bfs I L nx G ss ws i k) : ∀ r n, RW I L nx r n →
    (∃ j, ∃ (g : j < ss.length) (g' : j < ws.length), n ∈ ss[j].nodes ∧ rle ws[j] r) ∨ (∃ j m, ∃ (_ : j < ss.length) (g' : j < ws.length) (hm : m < L.length), ¬ before i k j m ∧ rle (L[m] :: ws[j]) r) := by
  intro r
  induction r with
  | nil =>
    intro n hn
    have h0 : 0 < ws.length := by rw [h.len]; exact h.pos
    exact .inl ⟨0, h.pos, h0, h.start h.pos n hn, by rw [h.zero h0]; exact rle_refl _⟩
  | cons l r ih =>
    intro n ⟨hl, m, hm, hn⟩
    obtain ⟨q, hq, rfl⟩ := List.mem_iff_getElem.1 hl
    rcases ih m hm with ⟨j, g, g', hj, hr⟩ | ⟨j, m', g, g', hm', hny, hr⟩
    · by_cases hny : before i k j q
      · obtain ⟨j', g2, g2', hn', hr'⟩ := h.done j g g' q hq hny m hj n hn
        exact .inl ⟨j', g2, g2', hn', rle_trans hr' (rle_cons _ hr)⟩
      · exact .inr ⟨j, q, g, g', hq, hny, rle_cons _ hr⟩
    · exact .inr ⟨j, m', g, g', hm', hny, rle_trans hr (.inl (rlt_cons _ _))⟩

theorem Bfs.pairs (h : Bfs I L nx G ss ws i k) (hL : L.Pairwise (· < ·)) {j m j' m' : Nat} (hj : j < ws.length) (hm : m < L.length) (hj' : j' < ws.length) (hm' : m' < L.length) (hlt : before j' m' j m) : rlt (L[m] :: ws[j]) (L[m'] :: ws[j']) := by
  rcases hlt with h1 | ⟨rfl, h1⟩
  · exact .inl (h.incr j j' hj hj' h1)
  · exact .inr ⟨rfl, List.pairwise_iff_getElem.1 hL m m' hm hm' h1⟩

/-- Every step's word is before the one that is in hand. -/
theorem Bfs.front (h : Bfs I L nx G ss ws i k) (hL : L.Pairwise (· < ·)) (hi : i < ws.length) (hk : k < L.length) {j : Nat} (hj : j < ws.length) : rlt ws[j] (L[k] :: ws[i]) := by
  by_cases e : j = 0
  · subst e
    rw [h.zero hj]
    exact rlt_nil _ _
  · obtain ⟨p, q, hpj, hb, _, hp, hq, _, hw⟩ := h.link j (by rw [← h.len]; exact hj) hj (by omega)
    rw [hw]
    exact h.pairs hL hp hq hi hk hb

/-- The search has found a goal: its word is the first one. -/
theorem Bfs.found (h : Bfs I L nx G ss ws i k) (hL : L.Pairwise (· < ·)) (hi : i < ss.length) (hi' : i < ws.length) (hk : k < L.length) {n n' : Nat} (hn : n ∈ ss[i].nodes) (hn' : n' ∈ nx n L[k]) (hg : G n') : FirstW I L nx G (L[k] :: ws[i]) := by
  refine ⟨⟨n', ⟨List.getElem_mem _, n, h.reach i hi hi' n hn, hn'⟩, hg⟩, fun q m hm hgm => ?_⟩
  rcases h.cover q m hm with ⟨j, g, g', hj, _⟩ | ⟨j, m', g, g', hm', hny, hr⟩
  · exact absurd hgm (h.noGoal j g m hj)
  · refine rle_trans ?_ hr
    by_cases e : i = j ∧ k = m'
    · obtain ⟨rfl, rfl⟩ := e
      exact rle_refl _
    · refine .inl (h.pairs hL hi' hk g' hm' ?_)
      unfold before at *
      omega

/-- The search has come to its end without a goal: no word leads to one. -/
theorem Bfs.none (h : Bfs I L nx G ss ws ss.length 0) : ∀ q n, RW I L nx q n → ¬ G n := by
  intro q n hn
  rcases h.cover q n hn with ⟨j, g, g', hj, _⟩ | ⟨j, m, g, g', hm, hny, _⟩
  · exact h.noGoal j g n hj
  · exact absurd (.inl g) hny

/-- On to the next step. -/
theorem Bfs.over (h : Bfs I L nx G ss ws i k) (hk : L.length ≤ k) : Bfs I L nx G ss ws (i + 1) 0 :=
  { len := h.len, zero := h.zero, pos := h.pos, root := h.root, reach := h.reach, incr := h.incr, start := h.start, noGoal := h.noGoal
    link := fun j hj hj' h0 => by
      obtain ⟨p, q, hpj, hb, h1, hp, hq, h2, hw⟩ := h.link j hj hj' h0
      exact ⟨p, q, hpj, by unfold before at *; omega, h1, hp, hq, h2, hw⟩
    done := fun j hj hj' m hm hb => h.done j hj hj' m hm (by unfold before at *; omega) }

/-- A letter that leads to nothing new. -/
theorem Bfs.stale (h : Bfs I L nx G ss ws i k) (hL : L.Pairwise (· < ·)) (hi : i < ss.length) (hk : k < L.length)
    (hold : ∀ n ∈ ss[i].nodes, ∀ n' ∈ nx n L[k], ∃ j', ∃ (_ : j' < ss.length), n' ∈ ss[j'].nodes) : Bfs I L nx G ss ws i (k + 1) :=
  { len := h.len, zero := h.zero, pos := h.pos, root := h.root, reach := h.reach, incr := h.incr, start := h.start, noGoal := h.noGoal
    link := fun j hj hj' h0 => by
      obtain ⟨p, q, hpj, hb, h1, hp, hq, h2, hw⟩ := h.link j hj hj' h0
      exact ⟨p, q, hpj, by unfold before at *; omega, h1, hp, hq, h2, hw⟩
    done := fun j hj hj' m hm hb n hn n' hn' => by
      by_cases e : before i k j m
      · exact h.done j hj hj' m hm e n hn n' hn'
      · obtain ⟨rfl, rfl⟩ : j = i ∧ m = k := by unfold before at *; omega
        obtain ⟨j', g, hj'n⟩ := hold n hn n' hn'
        have g' : j' < ws.length := by rw [h.len]; exact g
        exact ⟨j', g, g', hj'n, .inl (h.front hL hj' hm g')⟩ }

/-- A letter that leads to something new. -/
theorem Bfs.fresh (h : Bfs I L nx G ss ws i k) (hL : L.Pairwise (· < ·)) (hi : i < ss.length) (hi' : i < ws.length) (hk : k < L.length) {fr : List Nat}
    (hfr : ∀ n' ∈ fr, ∃ n ∈ ss[i].nodes, n' ∈ nx n L[k]) (hall : ∀ n ∈ ss[i].nodes, ∀ n' ∈ nx n L[k], n' ∈ fr ∨ ∃ j', ∃ (_ : j' < ss.length), n' ∈ ss[j'].nodes) (hng : ∀ n' ∈ fr, ¬ G n') :
    Bfs I L nx G (ss ++ [⟨i, L[k], fr⟩]) (ws ++ [L[k] :: ws[i]]) i (k + 1) := by
  have hlen := h.len
  have hold : ∀ j (hj : j < ss.length), (ss ++ [(⟨i, L[k], fr⟩ : Stp)])[j]'(by simp; omega) = ss[j] := fun j hj => List.getElem_append_left hj
  have hnew : (ss ++ [(⟨i, L[k], fr⟩ : Stp)])[ss.length]'(by simp) = ⟨i, L[k], fr⟩ := by simp
  have wold : ∀ j (hj : j < ws.length), (ws ++ [L[k] :: ws[i]])[j]'(by simp; omega) = ws[j] := fun j hj => List.getElem_append_left hj
  have wnew : (ws ++ [L[k] :: ws[i]])[ws.length]'(by simp) = L[k] :: ws[i] := by simp
  refine ⟨by simp [hlen], fun h0 => ?_, by simp, fun h0 => ?_, ?_, ?_, ?_, ?_, ?_, ?_⟩
  · have h0' : 0 < ws.length := by rw [hlen]; exact h.pos
    rw [wold 0 h0']; exact h.zero h0'
  · rw [hold 0 h.pos]; exact h.root h.pos
  · intro j hj hj' h0
    by_cases e : j < ss.length
    · have e' : j < ws.length := by omega
      obtain ⟨p, q, hpj, hb, h1, hp, hq, h2, hw⟩ := h.link j e e' h0
      refine ⟨p, q, hpj, by unfold before at *; omega, by rw [hold j e]; exact h1, by simp; omega, hq, by rw [hold j e]; exact h2, ?_⟩
      rw [wold j e', wold p hp]
      exact hw
    · obtain rfl : j = ss.length := by simp at hj; omega
      refine ⟨i, k, hi, .inr ⟨rfl, by omega⟩, by rw [hnew], by simp; omega, hk, by rw [hnew], ?_⟩
      have : (ws ++ [L[k] :: ws[i]])[ss.length] = L[k] :: ws[i] := by simp only [← hlen]; exact wnew
      rw [this, wold i hi']
  · intro j hj hj' n hn
    by_cases e : j < ss.length
    · rw [hold j e] at hn
      rw [wold j (by omega)]
      exact h.reach j e (by omega) n hn
    · obtain rfl : j = ss.length := by simp at hj; omega
      rw [hnew] at hn
      have : (ws ++ [L[k] :: ws[i]])[ss.length] = L[k] :: ws[i] := by simp only [← hlen]; exact wnew
      rw [this]
      obtain ⟨m, hm, hn'⟩ := hfr n hn
      exact ⟨List.getElem_mem _, m, h.reach i hi hi' m hm, hn'⟩
  · intro j j' hj hj' hlt
    by_cases e : j' < ws.length
    · rw [wold j (by omega), wold j' e]
      exact h.incr j j' (by omega) e hlt
    · obtain rfl : j' = ws.length := by simp at hj'; omega
      rw [wnew, wold j hlt]
      exact h.front hL hi' hk hlt
  · intro j hj hj' m hm hb n hn n' hn'
    by_cases e : before i k j m
    · have hjs : j < ss.length := by unfold before at e; omega
      rw [hold j hjs] at hn
      obtain ⟨j2, g, g', h1, h2⟩ := h.done j hjs (by omega) m hm e n hn n' hn'
      refine ⟨j2, by simp; omega, by simp; omega, by rw [hold j2 g]; exact h1, ?_⟩
      rw [wold j2 g', wold j (by omega)]
      exact h2
    · obtain ⟨rfl, rfl⟩ : j = i ∧ m = k := by unfold before at *; omega
      rw [hold j hi] at hn
      rw [wold j hi']
      rcases hall n hn n' hn' with h1 | ⟨j2, g, h1⟩
      · refine ⟨ss.length, by simp, by simp; omega, by rw [hnew]; exact h1, ?_⟩
        have : (ws ++ [L[m] :: ws[j]])[ss.length]'(by simp; omega) = L[m] :: ws[j] := by simp only [← hlen]; exact wnew
        rw [this]
        exact rle_refl _
      · have g' : j2 < ws.length := by omega
        refine ⟨j2, by simp; omega, by simp; omega, by rw [hold j2 g]; exact h1, ?_⟩
        rw [wold j2 g']
        exact .inl (h.front hL hi' hm g')
  · intro h0 n hn
    rw [hold 0 h.pos]
    exact h.start h.pos n hn
  · intro j hj n hn
    by_cases e : j < ss.length
    · rw [hold j e] at hn
      exact h.noGoal j e n hn
    · obtain rfl : j = ss.length := by simp at hj; omega
      rw [hnew] at hn
      exact hng n hn

/-- The beginning. -/
theorem Bfs.begin {fr : List Nat} (hfr : ∀ n, n ∈ fr ↔ I n) (hng : ∀ n ∈ fr, ¬ G n) : Bfs I L nx G [⟨-1, 0, fr⟩] [[]] 0 0 := by
  refine ⟨rfl, fun _ => rfl, by simp, fun _ => rfl, ?_, ?_, ?_, ?_, ?_, ?_⟩
  · intro j hj _ h0; simp at hj; omega
  · intro j hj hj' n hn
    obtain rfl : j = 0 := by simp at hj; omega
    exact (hfr n).1 hn
  · intro j j' _ hj' h; simp at hj'; omega
  · intro j hj _ m _ hb; unfold before at hb; simp at hj; omega
  · intro _ n hn; exact (hfr n).2 hn
  · intro j hj n hn
    obtain rfl : j = 0 := by simp at hj; omega
    exact hng n hn
end

end AG

/- Plain: the nodes of a list that have not been seen. -/
namespace AG

theorem snocInd {P : List Nat → Prop} (h0 : P []) (h1 : ∀ l n, P l → P (l ++ [n])) (l : List Nat) : P l := by
  have key : ∀ r : List Nat, P r.reverse := by
    intro r
    induction r with
    | nil => exact h0
    | cons n r ih => rw [List.reverse_cons]; exact h1 _ _ ih
  have := key l.reverse
  rwa [List.reverse_reverse] at this

def frsStep (S : Nat → Bool) (fr : List Nat) (n : Nat) : List Nat := if (S n || fr.contains n) = true then fr else fr ++ [n]
/-- The nodes of ns that S has not, each once, in order. -/
def frs (S : Nat → Bool) (ns : List Nat) : List Nat := ns.foldl (frsStep S) []
theorem frs_nil (S : Nat → Bool) : frs S [] = [] := rfl
theorem frs_snoc (S : Nat → Bool) (ns : List Nat) (n : Nat) : frs S (ns ++ [n]) = frsStep S (frs S ns) n := by unfold frs; rw [List.foldl_append]; rfl
theorem frs_take (S : Nat → Bool) (ns : List Nat) {k : Nat} (h : k < ns.length) : frs S (ns.take (k + 1)) = frsStep S (frs S (ns.take k)) ns[k] := by
  rw [List.take_succ_eq_append_getElem h, frs_snoc]
theorem frs_mem (S : Nat → Bool) : ∀ (ns : List Nat) (x : Nat), x ∈ frs S ns ↔ x ∈ ns ∧ S x = false := by
  intro ns
  refine snocInd (P := fun ns => ∀ x, x ∈ frs S ns ↔ x ∈ ns ∧ S x = false) ?_ ?_ ns
  · intro x; simp [frs_nil]
  · intro ns n ih x
    rw [frs_snoc]
    unfold frsStep
    by_cases h : (S n || (frs S ns).contains n) = true
    · rw [if_pos h, ih, List.mem_append, List.mem_singleton]
      constructor
      · rintro ⟨a, b⟩; exact ⟨.inl a, b⟩
      · rintro ⟨a | rfl, b⟩
        · exact ⟨a, b⟩
        · simp only [Bool.or_eq_true, b, Bool.false_eq_true, false_or, List.contains_iff_mem] at h
          exact (ih x).1 h
    · rw [if_neg h, List.mem_append, List.mem_singleton, ih, List.mem_append, List.mem_singleton]
      simp only [Bool.or_eq_true, not_or, Bool.not_eq_true] at h
      constructor
      · rintro (⟨a, b⟩ | rfl)
        · exact ⟨.inl a, b⟩
        · exact ⟨.inr rfl, h.1⟩
      · rintro ⟨a | rfl, b⟩
        · exact .inl ⟨a, b⟩
        · exact .inr rfl
theorem frs_len (S : Nat → Bool) (ns : List Nat) : (frs S ns).length ≤ ns.length := by
  refine snocInd (P := fun ns => (frs S ns).length ≤ ns.length) ?_ ?_ ns
  · simp [frs_nil]
  · intro ns n ih
    rw [frs_snoc]
    unfold frsStep
    split
    · simp; omega
    · simp; exact ih
theorem frs_nodup (S : Nat → Bool) (ns : List Nat) : (frs S ns).Nodup := by
  refine snocInd (P := fun ns => (frs S ns).Nodup) ?_ ?_ ns
  · simp [frs_nil]
  · intro ns n ih
    rw [frs_snoc]
    unfold frsStep
    split
    · exact ih
    · rename_i h
      rw [List.nodup_append]
      refine ⟨ih, by simp, fun a ha b hb e => h ?_⟩
      rw [List.mem_singleton] at hb
      subst hb e
      simp [ha]
end AG

/- Plain: what is reached from a start by letters, numbered in the order in which it is met. -/
namespace AG

/-- x at the end of a list that does not have it. -/
def addN (ns : List Nat) (x : Nat) : List Nat := if x ∈ ns then ns else ns ++ [x]
def rowN (nx : Nat → Nat → Nat) (a : Nat) (ns L : List Nat) : List Nat := L.foldl (fun ns l => addN ns (nx a l)) ns
/-- The nodes that are known when i of them have been gone through. -/
def nsAt (nx : Nat → Nat → Nat) (L : List Nat) (n0 : Nat) : Nat → List Nat
  | 0 => [n0]
  | i + 1 => match (nsAt nx L n0 i)[i]? with
    | some a => rowN nx a (nsAt nx L n0 i) L
    | none => nsAt nx L n0 i
def rowOf (nx : Nat → Nat → Nat) (L N : List Nat) (a : Nat) : List Nat := L.map fun l => N.idxOf (nx a l)
theorem addN_pre (ns : List Nat) (x : Nat) : ∃ m, addN ns x = ns ++ m := by
  unfold addN
  split
  · exact ⟨[], by simp⟩
  · exact ⟨[x], rfl⟩
theorem addN_mem (ns : List Nat) (x : Nat) : x ∈ addN ns x := by
  unfold addN
  split
  · assumption
  · simp
theorem rowN_snoc (nx : Nat → Nat → Nat) (a : Nat) (ns L : List Nat) (l : Nat) : rowN nx a ns (L ++ [l]) = addN (rowN nx a ns L) (nx a l) := by
  unfold rowN
  rw [List.foldl_append]
  rfl
theorem rowN_take {nx : Nat → Nat → Nat} {a : Nat} {ns L : List Nat} {k : Nat} (hk : k < L.length) : rowN nx a ns (L.take (k + 1)) = addN (rowN nx a ns (L.take k)) (nx a L[k]) := by
  rw [List.take_succ_eq_append_getElem hk, rowN_snoc]
theorem nsAt_succ {nx : Nat → Nat → Nat} {L : List Nat} {n0 i : Nat} (h : i < (nsAt nx L n0 i).length) : nsAt nx L n0 (i + 1) = rowN nx (nsAt nx L n0 i)[i] (nsAt nx L n0 i) L := by
  rw [nsAt, List.getElem?_eq_getElem h]
theorem idxOf_pre {ns m : List Nat} {x : Nat} (h : x ∈ ns) : (ns ++ m).idxOf x = ns.idxOf x := by
  rw [List.idxOf_append, if_pos h]

/-- The state of the numbering: node i is gone through, k of its letters are done. -/
structure NumSt (nx : Nat → Nat → Nat) (L : List Nat) (n0 i k : Nat) (ns row : List Nat) (a : Nat) : Prop where
  hi : i < (nsAt nx L n0 i).length
  ha : (nsAt nx L n0 i)[i]? = some a
  hk : k ≤ L.length
  hns : ns = rowN nx a (nsAt nx L n0 i) (L.take k)
  hrow : row = (L.take k).map fun l => ns.idxOf (nx a l)
theorem NumSt.start {nx : Nat → Nat → Nat} {L : List Nat} {n0 i a : Nat} (hi : i < (nsAt nx L n0 i).length) (ha : (nsAt nx L n0 i)[i]? = some a) : NumSt nx L n0 i 0 (nsAt nx L n0 i) [] a :=
  ⟨hi, ha, by omega, by simp [rowN], by simp⟩
theorem NumSt.mem {nx : Nat → Nat → Nat} {L : List Nat} {n0 i k a : Nat} {ns row : List Nat} (h : NumSt nx L n0 i k ns row a) {l : Nat} (hl : l ∈ L.take k) : nx a l ∈ ns := by
  rw [h.hns]
  refine snocInd (P := fun M => l ∈ M → nx a l ∈ rowN nx a (nsAt nx L n0 i) M) (fun h => by cases h) (fun M x ih hl => ?_) _ hl
  rw [rowN_snoc]
  rcases List.mem_append.1 hl with hl | hl
  · obtain ⟨m, e⟩ := addN_pre (rowN nx a (nsAt nx L n0 i) M) (nx a x)
    rw [e]
    exact List.mem_append_left _ (ih hl)
  · rw [List.mem_singleton.1 hl]
    exact addN_mem _ _
theorem NumSt.next {nx : Nat → Nat → Nat} {L : List Nat} {n0 i k a : Nat} {ns row : List Nat} (h : NumSt nx L n0 i k ns row a) (hk : k < L.length) :
    NumSt nx L n0 i (k + 1) (addN ns (nx a L[k])) (row ++ [(addN ns (nx a L[k])).idxOf (nx a L[k])]) a := by
  obtain ⟨m, e⟩ := addN_pre ns (nx a L[k])
  refine ⟨h.hi, h.ha, by omega, by rw [rowN_take hk, ← h.hns], ?_⟩
  rw [List.take_succ_eq_append_getElem hk, List.map_append, h.hrow]
  congr 1
  refine List.map_congr_left fun l hl => ?_
  rw [e, idxOf_pre (h.mem hl)]
theorem NumSt.done {nx : Nat → Nat → Nat} {L : List Nat} {n0 i a : Nat} {ns row : List Nat} (h : NumSt nx L n0 i L.length ns row a) : ns = nsAt nx L n0 (i + 1) ∧ row = rowOf nx L (nsAt nx L n0 (i + 1)) a := by
  have e : (nsAt nx L n0 i)[i]'h.hi = a := by have := h.ha; rw [List.getElem?_eq_getElem h.hi] at this; injection this
  have h1 : ns = nsAt nx L n0 (i + 1) := by rw [h.hns, List.take_length, nsAt_succ h.hi, e]
  refine ⟨h1, ?_⟩
  rw [h.hrow, List.take_length, h1]
  rfl
end AG

/- Plain definitions and lemmas: sets of small numbers as integers, edges, systems. No program is named here. -/
namespace AG

/-- Number n is in the set a (bits of an integer, also of a negative one). -/
def Has (a : Int) (n : Nat) : Bool := decide ((a / (2 : Int) ^ n) % 2 = 1)

def alphaOk (a : Int) : Bool := decide (0 ≤ a ∧ a ≤ 63)

structure Ed where
  f : Int
  l : Int
  t : Int
  deriving DecidableEq

structure Sy where
  al : Int
  st : Int
  es : List Ed
  deriving DecidableEq

def edgeLt (a b : Ed) : Bool := if a.f ≠ b.f then decide (a.f < b.f) else if a.l ≠ b.l then decide (a.l < b.l) else decide (a.t < b.t)

def edgeOk (al st : Int) (e : Ed) : Bool := decide (0 ≤ e.f ∧ e.f < st ∧ 0 ≤ e.t ∧ e.t < st ∧ 0 ≤ e.l ∧ e.l < 6) && Has al e.l.toNat

def edgesOkTo (al st : Int) (es : List Ed) (k : Nat) : Prop := ∀ i (h : i < es.length), i < k → edgeOk al st es[i] = true ∧ (∀ j (h' : j < es.length), j + 1 = i → edgeLt es[j] es[i] = true)

instance (al st : Int) (es : List Ed) (k : Nat) : Decidable (edgesOkTo al st es k) := by unfold edgesOkTo; infer_instance

def sysOk (s : Sy) : Bool := decide (alphaOk s.al = true ∧ 1 ≤ s.st ∧ s.st ≤ 16 ∧ edgesOkTo s.al s.st s.es s.es.length)

/-- The program's has: a negative number is in no set. -/
def HasZ (a n : Int) : Bool := decide (0 ≤ n) && Has a n.toNat

theorem edgeOk_split (al st : Int) (e : Ed) : edgeOk al st e = (decide (0 ≤ e.f ∧ e.f < st) && (decide (0 ≤ e.t ∧ e.t < st) && (decide (e.l < 6) && HasZ al e.l))) := by
  unfold edgeOk HasZ
  by_cases h1 : 0 ≤ e.f ∧ e.f < st
  · by_cases h2 : 0 ≤ e.t ∧ e.t < st
    · by_cases h3 : e.l < 6 <;> by_cases h4 : 0 ≤ e.l <;> simp [h1, h2, h3, h4]
    · have : ¬ (0 ≤ e.f ∧ e.f < st ∧ 0 ≤ e.t ∧ e.t < st ∧ 0 ≤ e.l ∧ e.l < 6) := by omega
      rw [decide_eq_false this, decide_eq_false h2]
      simp
  · have : ¬ (0 ≤ e.f ∧ e.f < st ∧ 0 ≤ e.t ∧ e.t < st ∧ 0 ≤ e.l ∧ e.l < 6) := by omega
    rw [decide_eq_false this, decide_eq_false h1]
    simp

def cmpI (a b : Int) : Int := if a < b then -1 else if b < a then 1 else 0
def orI (x y z : Int) : Int := if x ≠ 0 then x else if y ≠ 0 then y else z
def cmpE (a b : Ed) : Int := orI (cmpI a.f b.f) (cmpI a.l b.l) (cmpI a.t b.t)

theorem cmpE_ge (a b : Ed) : decide (0 ≤ cmpE a b) = !edgeLt a b := by
  unfold cmpE orI cmpI edgeLt
  by_cases h1 : a.f < b.f
  · simp [h1]; omega
  · by_cases h2 : b.f < a.f
    · simp [h1, h2]; omega
    · have e : a.f = b.f := by omega
      by_cases h3 : a.l < b.l
      · simp [e, h3]; omega
      · by_cases h4 : b.l < a.l
        · simp [e, h3, h4]; omega
        · have e' : a.l = b.l := by omega
          simp [e, e']
          by_cases h5 : a.t < b.t
          · simp [h5]
          · by_cases h6 : b.t < a.t
            · simp [h5, h6]
            · simp [h5, h6]

theorem sysOk_alpha {s : Sy} (h : sysOk s = true) : 0 ≤ s.al ∧ s.al ≤ 63 := by
  unfold sysOk alphaOk at h
  simp only [decide_eq_true_eq] at h
  exact h.1
end AG

/- Plain: sets of states as numbers; the states that letters of an alphabet lead to; deterministic systems. -/
namespace AG

/-- The set of the numbers below n of which p holds, as a number. -/
noncomputable def bitsOf (p : Nat → Prop) : Nat → Nat
  | 0 => 0
  | n + 1 => open Classical in if p n then bitsOf p n ||| 2 ^ n else bitsOf p n

theorem bitsOf_testBit (p : Nat → Prop) (n q : Nat) : (bitsOf p n).testBit q = true ↔ q < n ∧ p q := by
  induction n with
  | zero => simp [bitsOf]
  | succ n ih =>
    unfold bitsOf
    split
    · rename_i h
      rw [Nat.testBit_or, Nat.testBit_two_pow, Bool.or_eq_true, ih, decide_eq_true_eq]
      constructor
      · rintro (⟨h1, h2⟩ | rfl)
        · exact ⟨by omega, h2⟩
        · exact ⟨by omega, h⟩
      · rintro ⟨h1, h2⟩
        by_cases e : n = q
        · exact .inr e
        · exact .inl ⟨by omega, h2⟩
    · rename_i h
      rw [ih]
      constructor
      · rintro ⟨h1, h2⟩; exact ⟨by omega, h2⟩
      · rintro ⟨h1, h2⟩
        by_cases e : q = n
        · subst e; exact absurd h2 h
        · exact ⟨by omega, h2⟩

theorem bitsOf_lt (p : Nat → Prop) (n : Nat) : bitsOf p n < 2 ^ n := by
  refine Nat.lt_pow_two_of_testBit _ fun i hi => ?_
  rw [← Bool.not_eq_true]
  intro h
  have := ((bitsOf_testBit p n i).1 h).1
  omega

theorem Has_nat (S n : Nat) : Has (S : Int) n = S.testBit n := by
  unfold Has
  rw [Nat.testBit_eq_decide_div_mod_eq]
  have : ((S : Int) / (2 : Int) ^ n) % 2 = ((S / 2 ^ n % 2 : Nat) : Int) := by
    rw [Int.natCast_emod, Int.natCast_ediv, Int.natCast_pow]; rfl
  rw [this]
  congr 1
  rw [eq_iff_iff]
  omega

theorem testBit_lt {S n q : Nat} (h : S < 2 ^ n) (hq : S.testBit q = true) : q < n := by
  rcases Nat.lt_or_ge q n with h1 | h1
  · exact h1
  · rw [Nat.testBit_lt_two_pow (Nat.lt_of_lt_of_le h (Nat.pow_le_pow_right (by omega) h1))] at hq
    cases hq

/-- The states to which a letter leads from a set of states. -/
noncomputable def stepSet (s : Sy) (S : Nat) (l : Int) : Nat := bitsOf (fun t => ∃ e ∈ s.es, e.l = l ∧ S.testBit e.f.toNat = true ∧ e.t.toNat = t) 16

/-- q is reached from S along edges whose letters are in the alphabet A. -/
def Rch (s : Sy) (A : Int) (S : Nat) (q : Nat) : Prop :=
  ∀ R : Nat → Prop, (∀ x, S.testBit x = true → R x) → (∀ e ∈ s.es, Has A e.l.toNat = true → R e.f.toNat → R e.t.toNat) → R q

noncomputable def reachSet (s : Sy) (A : Int) (S : Nat) : Nat := bitsOf (Rch s A S) 16

/-- The edges' numbers are in their ranges. -/
def edgesIn (s : Sy) : Prop := ∀ e ∈ s.es, 0 ≤ e.f ∧ e.f < 16 ∧ 0 ≤ e.t ∧ e.t < 16 ∧ 0 ≤ e.l ∧ e.l < 6 ∧ Has s.al e.l.toNat = true ∧ e.f < s.st ∧ e.t < s.st

theorem sysOk_edge {s : Sy} (h : sysOk s = true) {i : Nat} (hi : i < s.es.length) : edgeOk s.al s.st s.es[i] = true := by
  unfold sysOk at h
  rw [decide_eq_true_iff] at h
  exact (h.2.2.2 i hi hi).1
theorem sysOk_st {s : Sy} (h : sysOk s = true) : 1 ≤ s.st ∧ s.st ≤ 16 := by
  unfold sysOk at h
  rw [decide_eq_true_iff] at h
  exact ⟨h.2.1, h.2.2.1⟩
theorem sysOk_lt {s : Sy} (h : sysOk s = true) {i : Nat} (hi : i + 1 < s.es.length) : edgeLt s.es[i] s.es[i + 1] = true := by
  unfold sysOk at h
  rw [decide_eq_true_iff] at h
  exact (h.2.2.2 (i + 1) hi hi).2 i (by omega) rfl
theorem sysOk_in {s : Sy} (h : sysOk s = true) : edgesIn s := by
  intro e he
  obtain ⟨i, hi, rfl⟩ := List.mem_iff_getElem.1 he
  have h1 := sysOk_edge h hi
  have h2 := sysOk_st h
  unfold edgeOk at h1
  rw [Bool.and_eq_true, decide_eq_true_iff] at h1
  obtain ⟨⟨a, b, c, d, e1, f⟩, g⟩ := h1
  exact ⟨a, by omega, c, by omega, e1, f, g, b, d⟩

/-- A set that holds S, is closed, and lies in every such set is the set reached. -/
theorem reach_unique {s : Sy} {A : Int} {S R : Nat} (hR : R < 2 ^ 16) (h0 : ∀ x, S.testBit x = true → R.testBit x = true)
    (h1 : ∀ e ∈ s.es, Has A e.l.toNat = true → R.testBit e.f.toNat = true → R.testBit e.t.toNat = true) (h2 : ∀ x, R.testBit x = true → Rch s A S x) : R = reachSet s A S := by
  refine Nat.eq_of_testBit_eq fun q => ?_
  rw [Bool.eq_iff_iff, reachSet, bitsOf_testBit]
  exact ⟨fun h => ⟨testBit_lt hR h, h2 q h⟩, fun h => h.2 _ h0 h1⟩

theorem Rch.start {s : Sy} {A : Int} {S q : Nat} (h : S.testBit q = true) : Rch s A S q := fun _ h0 _ => h0 q h
theorem Rch.step {s : Sy} {A : Int} {S : Nat} {e : Ed} (he : e ∈ s.es) (hA : Has A e.l.toNat = true) (h : Rch s A S e.f.toNat) : Rch s A S e.t.toNat :=
  fun R h0 h1 => h1 e he hA (h R h0 h1)

/-- All reached states. -/
noncomputable def reachAll (s : Sy) : Nat := reachSet s s.al 1

/-- No two edges with one letter leave a reached state. -/
def detAt (s : Sy) (S : Nat) (k : Nat) : Prop := ∀ i (h : i + 1 < s.es.length), i < k → ¬ (Has (S : Int) s.es[i].f.toNat = true ∧ s.es[i].f = s.es[i + 1].f ∧ s.es[i].l = s.es[i + 1].l)
open Classical in
noncomputable def detB (s : Sy) : Bool := sysOk s && decide (detAt s (reachAll s) s.es.length)

theorem or_pow_lt {S n t : Nat} (h : S < 2 ^ n) (ht : t < n) : S ||| 2 ^ t < 2 ^ n := Nat.or_lt_two_pow h (Nat.pow_lt_pow_right (by omega) ht)
theorem testBit_or_pow (S t q : Nat) : (S ||| 2 ^ t).testBit q = true ↔ S.testBit q = true ∨ t = q := by
  rw [Nat.testBit_or, Nat.testBit_two_pow, Bool.or_eq_true, decide_eq_true_eq]

/-- The states to which the first k edges lead from q with the letter l. -/
noncomputable def mvTo (s : Sy) (k q l : Nat) : Nat := bitsOf (fun t => ∃ i, ∃ (h : i < s.es.length), i < k ∧ s.es[i].f.toNat = q ∧ s.es[i].l.toNat = l ∧ s.es[i].t.toNat = t) 16
noncomputable def mv (s : Sy) (q l : Nat) : Nat := mvTo s s.es.length q l
theorem mvTo_lt (s : Sy) (k q l : Nat) : mvTo s k q l < 65536 := by unfold mvTo; exact bitsOf_lt _ 16
theorem mv_lt (s : Sy) (q l : Nat) : mv s q l < 65536 := mvTo_lt s _ q l
theorem mvTo_zero (s : Sy) (q l : Nat) : mvTo s 0 q l = 0 := by
  refine Nat.eq_of_testBit_eq fun t => ?_
  rw [Nat.zero_testBit, ← Bool.not_eq_true, mvTo, bitsOf_testBit]
  rintro ⟨_, i, _, h, _⟩
  omega
theorem mvTo_hit {s : Sy} (hs : edgesIn s) {k : Nat} (hk : k < s.es.length) : mvTo s (k + 1) s.es[k].f.toNat s.es[k].l.toNat = mvTo s k s.es[k].f.toNat s.es[k].l.toNat ||| 2 ^ s.es[k].t.toNat := by
  refine Nat.eq_of_testBit_eq fun t => ?_
  obtain ⟨a, b, c, d, _⟩ := hs s.es[k] (List.getElem_mem _)
  rw [Bool.eq_iff_iff, testBit_or_pow, mvTo, mvTo, bitsOf_testBit, bitsOf_testBit]
  constructor
  · rintro ⟨h1, i, hi, hik, e1, e2, e3⟩
    by_cases e : i = k
    · subst e; exact .inr e3
    · exact .inl ⟨h1, i, hi, by omega, e1, e2, e3⟩
  · rintro (⟨h1, i, hi, hik, e1, e2, e3⟩ | e)
    · exact ⟨h1, i, hi, by omega, e1, e2, e3⟩
    · exact ⟨by omega, k, hk, by omega, rfl, rfl, e⟩
theorem mvTo_miss {s : Sy} {k q l : Nat} (hk : k < s.es.length) (h : ¬ (s.es[k].f.toNat = q ∧ s.es[k].l.toNat = l)) : mvTo s (k + 1) q l = mvTo s k q l := by
  refine Nat.eq_of_testBit_eq fun t => ?_
  rw [Bool.eq_iff_iff, mvTo, mvTo, bitsOf_testBit, bitsOf_testBit]
  constructor
  · rintro ⟨h1, i, hi, hik, e1, e2, e3⟩
    by_cases e : i = k
    · subst e; exact absurd ⟨e1, e2⟩ h
    · exact ⟨h1, i, hi, by omega, e1, e2, e3⟩
  · rintro ⟨h1, i, hi, hik, e1, e2, e3⟩
    exact ⟨h1, i, hi, by omega, e1, e2, e3⟩
theorem mv_testBit (s : Sy) (q l t : Nat) : (mv s q l).testBit t = true ↔ t < 16 ∧ ∃ e ∈ s.es, e.f.toNat = q ∧ e.l.toNat = l ∧ e.t.toNat = t := by
  rw [mv, mvTo, bitsOf_testBit]
  constructor
  · rintro ⟨h, i, hi, _, h2⟩
    exact ⟨h, s.es[i], List.getElem_mem _, h2⟩
  · rintro ⟨h, e, he, h2⟩
    obtain ⟨i, hi, rfl⟩ := List.mem_iff_getElem.1 he
    exact ⟨h, i, hi, hi, h2⟩

/-- The union of the sets that a table has at the members of S. -/
noncomputable def unionOf (m : Nat → Nat → Nat) (S l : Nat) : Nat := bitsOf (fun t => ∃ q, S.testBit q = true ∧ (m q l).testBit t = true) 16
theorem unionOf_lt (m : Nat → Nat → Nat) (S l : Nat) : unionOf m S l < 65536 := by unfold unionOf; exact bitsOf_lt _ 16
theorem unionOf_mv (s : Sy) (hs : edgesIn s) (S : Nat) (l : Nat) : unionOf (mv s) S l = stepSet s S (l : Int) := by
  refine Nat.eq_of_testBit_eq fun t => ?_
  rw [Bool.eq_iff_iff, unionOf, stepSet, bitsOf_testBit, bitsOf_testBit]
  constructor
  · rintro ⟨h, q, hq, hm⟩
    obtain ⟨_, e, he, h1, h2, h3⟩ := (mv_testBit s q l t).1 hm
    obtain ⟨_, _, _, _, a, _⟩ := hs e he
    exact ⟨h, e, he, by omega, by rw [h1]; exact hq, h3⟩
  · rintro ⟨h, e, he, h1, h2, h3⟩
    exact ⟨h, e.f.toNat, h2, (mv_testBit s _ l t).2 ⟨h, e, he, rfl, by omega, h3⟩⟩

/-- Half way through the members of S: T is left, O gathered. -/
structure Gather (m : Nat → Nat → Nat) (S l T O : Nat) : Prop where
  lt : T < 65536
  olt : O < 65536
  eq : ∀ t, (unionOf m S l).testBit t = true ↔ O.testBit t = true ∨ ∃ q, T.testBit q = true ∧ (m q l).testBit t = true
theorem Gather.start {m : Nat → Nat → Nat} {S l : Nat} (hm : ∀ q, m q l < 65536) (h : S < 65536) : Gather m S l S 0 :=
  ⟨h, by omega, fun t => by
    rw [unionOf, bitsOf_testBit, Nat.zero_testBit]
    constructor
    · rintro ⟨_, h⟩; exact .inr h
    · rintro (h | ⟨q, hq, ht⟩)
      · cases h
      · exact ⟨testBit_lt (n := 16) (hm q) ht, q, hq, ht⟩⟩
theorem Gather.next {m : Nat → Nat → Nat} {S l T O q : Nat} (h : Gather m S l T O) (hm : m q l < 65536) (hq : T.testBit q = true) {T' : Nat} (hT : ∀ j, T'.testBit j = (T.testBit j && decide (j ≠ q))) : Gather m S l T' (O ||| m q l) := by
  refine ⟨?_, Nat.or_lt_two_pow (n := 16) h.olt hm, fun t => ?_⟩
  · refine Nat.lt_pow_two_of_testBit (n := 16) _ fun i hi => ?_
    rw [hT, Nat.testBit_lt_two_pow (Nat.lt_of_lt_of_le h.lt (Nat.pow_le_pow_right (n := 2) (by omega) hi))]
    rfl
  · rw [h.eq, Nat.testBit_or, Bool.or_eq_true]
    constructor
    · rintro (h1 | ⟨r, hr, ht⟩)
      · exact .inl (.inl h1)
      · by_cases e : r = q
        · subst e; exact .inl (.inr ht)
        · exact .inr ⟨r, by rw [hT, hr]; simpa using e, ht⟩
    · rintro ((h1 | h1) | ⟨r, hr, ht⟩)
      · exact .inl h1
      · exact .inr ⟨q, hq, h1⟩
      · rw [hT, Bool.and_eq_true] at hr
        exact .inr ⟨r, hr.1, ht⟩
theorem Gather.done {m : Nat → Nat → Nat} {S l O : Nat} (h : Gather m S l 0 O) : O = unionOf m S l := by
  refine Nat.eq_of_testBit_eq fun t => ?_
  rw [Bool.eq_iff_iff, h.eq]
  simp [Nat.zero_testBit]

/-- Taking the lowest bit away. -/
theorem drop_low {x q m : Nat} (hx : x = 2 ^ q * (2 * m + 1)) : x.testBit q = true ∧ (∀ j, (x &&& (x - 1)).testBit j = (x.testBit j && decide (j ≠ q))) ∧ x &&& (x - 1) < x := by
  have hpos : 0 < 2 ^ q := Nat.two_pow_pos q
  have e1 : x = 2 ^ q * (2 * m + 1) + 0 := by omega
  have e2 : x - 1 = 2 ^ q * (2 * m) + (2 ^ q - 1) := by rw [hx, Nat.mul_add]; omega
  have t1 : ∀ j, x.testBit j = if j < q then false else (2 * m + 1).testBit (j - q) := fun j => by
    rw [e1, Nat.testBit_two_pow_mul_add _ hpos, Nat.zero_testBit]
  have t2 : ∀ j, (x - 1).testBit j = if j < q then (2 ^ q - 1).testBit j else (2 * m).testBit (j - q) := fun j => by
    rw [e2, Nat.testBit_two_pow_mul_add _ (by omega)]
  refine ⟨by rw [t1, if_neg (by omega)]; simp, fun j => ?_, ?_⟩
  · rw [Nat.testBit_and, t1, t2]
    by_cases hj : j < q
    · simp [hj]
    · rw [if_neg hj, if_neg hj]
      by_cases e : j = q
      · subst e; simp
      · obtain ⟨d, rfl⟩ : ∃ d, j = q + 1 + d := ⟨j - q - 1, by omega⟩
        have : q + 1 + d - q = d + 1 := by omega
        rw [this, Nat.testBit_succ, Nat.testBit_succ]
        have a1 : (2 * m + 1) / 2 = m := by omega
        have a2 : 2 * m / 2 = m := by omega
        rw [a1, a2, Bool.and_self]
        simp; omega
  · have := Nat.and_le_right (n := x) (m := x - 1)
    have hx1 : 0 < x := by rw [hx]; exact Nat.mul_pos hpos (by omega)
    omega

theorem lt_or_pow {T t : Nat} (h : T.testBit t = false) : T < T ||| 2 ^ t := by
  have h1 : T ≤ T ||| 2 ^ t := Nat.left_le_or
  rcases Nat.lt_or_ge T (T ||| 2 ^ t) with h2 | h2
  · exact h2
  · have e : T = T ||| 2 ^ t := by omega
    have : T.testBit t = true := by rw [e, testBit_or_pow]; exact .inr rfl
    rw [h] at this
    cases this

/-- A pass over the edges that gathers what is reached: T0 at its start, T behind k edges. -/
structure Pass (s : Sy) (A : Int) (S T0 T : Nat) (k : Nat) (more : Bool) : Prop where
  lt : T < 2 ^ 16
  base : ∀ x, S.testBit x = true → T.testBit x = true
  inside : ∀ x, T.testBit x = true → Rch s A S x
  unmoved : more = false → T = T0 ∧ ∀ i (h : i < s.es.length), i < k → Has A s.es[i].l.toNat = true → T.testBit s.es[i].f.toNat = true → T.testBit s.es[i].t.toNat = true
  moved : more = true → T0 < T
theorem Pass.start {s : Sy} {A : Int} {S T : Nat} (h0 : T < 2 ^ 16) (h1 : ∀ x, S.testBit x = true → T.testBit x = true) (h2 : ∀ x, T.testBit x = true → Rch s A S x) : Pass s A S T T 0 false :=
  ⟨h0, h1, h2, fun _ => ⟨rfl, fun _ _ h => by omega⟩, fun h => by cases h⟩
theorem Pass.skip {s : Sy} {A : Int} {S T0 T k : Nat} {more : Bool} (h : Pass s A S T0 T k more) (hk : k < s.es.length)
    (hn : ¬ (Has A s.es[k].l.toNat = true ∧ T.testBit s.es[k].f.toNat = true ∧ T.testBit s.es[k].t.toNat = false)) : Pass s A S T0 T (k + 1) more :=
  ⟨h.lt, h.base, h.inside, fun hm => ⟨(h.unmoved hm).1, fun i hi hik ha hf => by
    by_cases e : i = k
    · subst e
      rcases hb : T.testBit s.es[i].t.toNat with _ | _
      · exact absurd ⟨ha, hf, hb⟩ hn
      · rfl
    · exact (h.unmoved hm).2 i hi (by omega) ha hf⟩, h.moved⟩
theorem Pass.add {s : Sy} {A : Int} {S T0 T k : Nat} {more : Bool} (hs : edgesIn s) (h : Pass s A S T0 T k more) (hk : k < s.es.length)
    (ha : Has A s.es[k].l.toNat = true) (hf : T.testBit s.es[k].f.toNat = true) (ht : T.testBit s.es[k].t.toNat = false) : Pass s A S T0 (T ||| 2 ^ s.es[k].t.toNat) (k + 1) true := by
  obtain ⟨a, b, c, d, _⟩ := hs s.es[k] (List.getElem_mem _)
  have hlt := lt_or_pow ht
  refine ⟨or_pow_lt h.lt (by omega), fun x hx => by rw [testBit_or_pow]; exact .inl (h.base x hx), fun x hx => ?_, fun hm => (by cases hm), fun _ => ?_⟩
  · rw [testBit_or_pow] at hx
    rcases hx with hx | rfl
    · exact h.inside x hx
    · exact Rch.step (List.getElem_mem hk) ha (h.inside _ hf)
  · cases more with
    | true => have := h.moved rfl; omega
    | false => have := (h.unmoved rfl).1; omega
theorem Pass.done {s : Sy} {A : Int} {S T0 T : Nat} (h : Pass s A S T0 T s.es.length false) : T = reachSet s A S := by
  refine reach_unique h.lt h.base (fun e he ha hf => ?_) h.inside
  obtain ⟨i, hi, rfl⟩ := List.mem_iff_getElem.1 he
  exact (h.unmoved rfl).2 i hi hi ha hf

end AG

/- Plain: one step of a set of states, edge by edge; the letters of an alphabet in order. -/
namespace AG

/-- The states to which the first k edges lead from the members of S with the letter l. -/
noncomputable def stTo (s : Sy) (S : Nat) (l : Int) (k : Nat) : Nat := bitsOf (fun t => ∃ i, ∃ (_ : i < s.es.length), i < k ∧ s.es[i].l = l ∧ S.testBit s.es[i].f.toNat = true ∧ s.es[i].t.toNat = t) 16
theorem stTo_lt (s : Sy) (S : Nat) (l : Int) (k : Nat) : stTo s S l k < 65536 := by unfold stTo; exact bitsOf_lt _ 16
theorem stTo_zero (s : Sy) (S : Nat) (l : Int) : stTo s S l 0 = 0 := by
  refine Nat.eq_of_testBit_eq fun t => ?_
  rw [Nat.zero_testBit, ← Bool.not_eq_true, stTo, bitsOf_testBit]
  rintro ⟨_, i, _, h, _⟩
  omega
theorem stTo_hit {s : Sy} (hs : edgesIn s) {S : Nat} {l : Int} {k : Nat} (hk : k < s.es.length) (h1 : s.es[k].l = l) (h2 : S.testBit s.es[k].f.toNat = true) : stTo s S l (k + 1) = stTo s S l k ||| 2 ^ s.es[k].t.toNat := by
  refine Nat.eq_of_testBit_eq fun t => ?_
  obtain ⟨a, b, c, d, _⟩ := hs s.es[k] (List.getElem_mem _)
  rw [Bool.eq_iff_iff, testBit_or_pow, stTo, stTo, bitsOf_testBit, bitsOf_testBit]
  constructor
  · rintro ⟨h1, i, hi, hik, e1, e2, e3⟩
    by_cases e : i = k
    · subst e; exact .inr e3
    · exact .inl ⟨h1, i, hi, by omega, e1, e2, e3⟩
  · rintro (⟨h1, i, hi, hik, e1, e2, e3⟩ | e)
    · exact ⟨h1, i, hi, by omega, e1, e2, e3⟩
    · exact ⟨by omega, k, hk, by omega, h1, h2, e⟩
theorem stTo_miss {s : Sy} {S : Nat} {l : Int} {k : Nat} (hk : k < s.es.length) (h : ¬ (s.es[k].l = l ∧ S.testBit s.es[k].f.toNat = true)) : stTo s S l (k + 1) = stTo s S l k := by
  refine Nat.eq_of_testBit_eq fun t => ?_
  rw [Bool.eq_iff_iff, stTo, stTo, bitsOf_testBit, bitsOf_testBit]
  constructor
  · rintro ⟨h1, i, hi, hik, e1, e2, e3⟩
    by_cases e : i = k
    · subst e; exact absurd ⟨e1, e2⟩ h
    · exact ⟨h1, i, hi, by omega, e1, e2, e3⟩
  · rintro ⟨h1, i, hi, hik, e1, e2, e3⟩
    exact ⟨h1, i, hi, by omega, e1, e2, e3⟩
theorem stTo_all (s : Sy) (S : Nat) (l : Int) : stTo s S l s.es.length = stepSet s S l := by
  refine Nat.eq_of_testBit_eq fun t => ?_
  rw [Bool.eq_iff_iff, stTo, stepSet, bitsOf_testBit, bitsOf_testBit]
  constructor
  · rintro ⟨h, i, hi, _, e1, e2, e3⟩
    exact ⟨h, s.es[i], List.getElem_mem _, e1, e2, e3⟩
  · rintro ⟨h, e, he, e1, e2, e3⟩
    obtain ⟨i, hi, rfl⟩ := List.mem_iff_getElem.1 he
    exact ⟨h, i, hi, hi, e1, e2, e3⟩
theorem stepSet_lt (s : Sy) (S : Nat) (l : Int) : stepSet s S l < 65536 := by unfold stepSet; exact bitsOf_lt _ 16

/-- Two systems that may be compared. -/
def cmpOk (a b : Sy) : Bool := sysOk a && (sysOk b && decide (a.al = b.al))

/-- The letters of an alphabet, in order. -/
def lettersTo (A : Int) (k : Nat) : List Nat := (List.range k).filter fun l => Has A l
def letters (A : Int) : List Nat := lettersTo A 6
theorem lettersTo_succ (A : Int) (k : Nat) : lettersTo A (k + 1) = if Has A k then lettersTo A k ++ [k] else lettersTo A k := by
  unfold lettersTo
  rw [List.range_succ, List.filter_append]
  by_cases h : Has A k = true
  · simp [h]
  · simp [h]
theorem lettersTo_len (A : Int) (k : Nat) : (lettersTo A k).length ≤ k := by
  unfold lettersTo
  exact Nat.le_trans (List.length_filter_le _ _) (by simp)
theorem letters_lt {A : Int} {l : Nat} (h : l ∈ letters A) : l < 6 ∧ Has A l = true := by
  unfold letters lettersTo at h
  rw [List.mem_filter, List.mem_range] at h
  exact h
theorem letters_sorted (A : Int) : (letters A).Pairwise (· < ·) := by
  unfold letters lettersTo
  exact List.Pairwise.filter _ List.pairwise_lt_range

end AG

/- Plain: the members of a set of small numbers as a list. -/
namespace AG

theorem sorted_ext : ∀ {l1 l2 : List Nat}, l1.Pairwise (· < ·) → l2.Pairwise (· < ·) → (∀ x, x ∈ l1 ↔ x ∈ l2) → l1 = l2
  | [], [], _, _, _ => rfl
  | [], b :: l2, _, _, h => by have := (h b).2 List.mem_cons_self; cases this
  | a :: l1, [], _, _, h => by have := (h a).1 List.mem_cons_self; cases this
  | a :: l1, b :: l2, h1, h2, h => by
    rw [List.pairwise_cons] at h1 h2
    have hab : a = b := by
      have ha := (h a).1 List.mem_cons_self
      have hb := (h b).2 List.mem_cons_self
      rcases List.mem_cons.1 ha with e | ha
      · exact e
      · rcases List.mem_cons.1 hb with e | hb
        · exact e.symm
        · have := h1.1 b hb
          have := h2.1 a ha
          omega
    subst hab
    have : l1 = l2 := sorted_ext h1.2 h2.2 fun x => by
      have hx := h x
      simp only [List.mem_cons] at hx
      constructor
      · intro hm
        rcases hx.1 (.inr hm) with e | e
        · subst e
          exact absurd (h1.1 x hm) (by omega)
        · exact e
      · intro hm
        rcases hx.2 (.inr hm) with e | e
        · subst e
          exact absurd (h2.1 x hm) (by omega)
        · exact e
    rw [this]

/-- The members of a set of states, in order. -/
def memL (S : Nat) : List Nat := (List.range 16).filter fun q => S.testBit q
theorem memL_mem {S q : Nat} : q ∈ memL S ↔ q < 16 ∧ S.testBit q = true := by unfold memL; rw [List.mem_filter, List.mem_range]
theorem memL_sorted (S : Nat) : (memL S).Pairwise (· < ·) := by unfold memL; exact List.Pairwise.filter _ List.pairwise_lt_range
theorem memL_len (S : Nat) : (memL S).length ≤ 16 := Nat.le_trans (List.length_filter_le _ _) (by simp)
theorem memL_zero : memL 0 = [] := by unfold memL; rw [List.filter_eq_nil_iff]; intro x _; simp
theorem memL_low {S q m : Nat} (hS : S < 65536) (h : S = 2 ^ q * (2 * m + 1)) : memL S = q :: memL (S &&& (S - 1)) := by
  obtain ⟨hbit, hbits, _⟩ := drop_low h
  have hq : q < 16 := testBit_lt (n := 16) hS hbit
  have hlow : ∀ j, j < q → S.testBit j = false := fun j hj => by
    have : S = 2 ^ q * (2 * m + 1) + 0 := by omega
    rw [this, Nat.testBit_two_pow_mul_add _ (Nat.two_pow_pos q), if_pos hj, Nat.zero_testBit]
  refine sorted_ext (memL_sorted _) ?_ fun x => ?_
  · rw [List.pairwise_cons]
    refine ⟨fun x hx => ?_, memL_sorted _⟩
    have hx2 := (memL_mem.1 hx).2
    rw [hbits] at hx2
    simp only [Bool.and_eq_true, decide_eq_true_eq] at hx2
    rcases Nat.lt_trichotomy x q with h1 | h1 | h1
    · rw [hlow x h1] at hx2
      cases hx2.1
    · exact absurd h1 hx2.2
    · exact h1
  · rw [List.mem_cons, memL_mem, memL_mem, hbits]
    simp only [Bool.and_eq_true, decide_eq_true_eq]
    constructor
    · rintro ⟨h1, h2⟩
      by_cases e : x = q
      · exact .inl e
      · exact .inr ⟨h1, h2, e⟩
    · rintro (rfl | ⟨h1, h2, _⟩)
      · exact ⟨hq, hbit⟩
      · exact ⟨h1, h2⟩

end AG

/- Plain: a breadth-first search that looks at its goal when a node is taken up; the reference's search over pairs of sets. -/
namespace AG

section
variable {I : Nat → Prop} {L : List Nat} {nx : Nat → Nat → List Nat} {G : Nat → Prop} {ss : List Stp} {ws : List (List Nat)} {i : Nat}

theorem rle_of_incr (h : ∀ j j' (h : j < ws.length) (h' : j' < ws.length), j < j' → rlt ws[j] ws[j']) {j j' : Nat} (hj : j < ws.length) (hj' : j' < ws.length) (hle : j ≤ j') : rle ws[j] ws[j'] := by
  by_cases e : j = j'
  · subst e; exact .inr rfl
  · exact .inl (h j j' hj hj' (by omega))

/-- The node that is taken up is a goal, none before it was: its word is the first one. -/
theorem Bfs.popped (h : Bfs I L nx (fun _ => False) ss ws i 0) (hi : i < ss.length) (hi' : i < ws.length) (hpre : ∀ j (hj : j < ss.length), j < i → ∀ n ∈ ss[j].nodes, ¬ G n) {n : Nat} (hn : n ∈ ss[i].nodes) (hg : G n) : FirstW I L nx G ws[i] := by
  refine ⟨⟨n, h.reach i hi hi' n hn, hg⟩, fun q m hm hgm => ?_⟩
  rcases h.cover q m hm with ⟨j, g, g', hj, hr⟩ | ⟨j, m', g, g', hm', hny, hr⟩
  · by_cases hji : j < i
    · exact absurd hgm (hpre j g hji m hj)
    · exact rle_trans (rle_of_incr h.incr hi' g' (by omega)) hr
  · have hji : i ≤ j := by unfold before at hny; omega
    exact rle_trans (rle_trans (rle_of_incr h.incr hi' g' hji) (.inl (rlt_cons _ _))) hr

/-- The search has come to its end and no node was a goal. -/
theorem Bfs.nonePopped (h : Bfs I L nx (fun _ => False) ss ws ss.length 0) (hpre : ∀ j (hj : j < ss.length), ∀ n ∈ ss[j].nodes, ¬ G n) : ∀ q n, RW I L nx q n → ¬ G n := by
  intro q n hn
  rcases h.cover q n hn with ⟨j, g, g', hj, _⟩ | ⟨j, m, g, g', hm, hny, _⟩
  · exact hpre j g n hj
  · exact absurd (.inl g) hny
end

/-- A pair of sets as one number. -/
def code (p : Nat × Nat) : Nat := p.1 * 65536 + p.2
theorem code_inj {p q : Nat × Nat} (hp : p.2 < 65536) (hq : q.2 < 65536) (h : code p = code q) : p = q := by
  unfold code at h
  exact Prod.ext (by omega) (by omega)

/-- The pair behind a letter. -/
noncomputable def stepP (a b : Sy) (p : Nat × Nat) (l : Nat) : Nat × Nat := (stepSet a p.1 (l : Int), stepSet b p.2 (l : Int))
/-- The reference's search: its start, its steps, its goal. -/
def pI (n : Nat) : Prop := n = code (1, 1)
noncomputable def pN (a b : Sy) (n l : Nat) : List Nat := if (stepP a b (n / 65536, n % 65536) l).1 = 0 then [] else [code (stepP a b (n / 65536, n % 65536) l)]
def pG (n : Nat) : Prop := n % 65536 = 0
theorem code_parts {p : Nat × Nat} (h : p.2 < 65536) : (code p / 65536, code p % 65536) = p := by
  unfold code
  exact Prod.ext (by show (p.1 * 65536 + p.2) / 65536 = p.1; omega) (by show (p.1 * 65536 + p.2) % 65536 = p.2; omega)

end AG

/- Plain: the reference's search as lists of pairs and words. -/
namespace AG

theorem nodup_bound : ∀ (N : Nat) (l : List Nat), l.Nodup → (∀ x ∈ l, x < N) → l.length ≤ N
  | 0, l, _, h => by
    cases l with
    | nil => exact Nat.le_refl _
    | cons x l => exact absurd (h x List.mem_cons_self) (by omega)
  | N + 1, l, hd, h => by
    by_cases hN : N ∈ l
    · have h1 := nodup_bound N (l.erase N) (hd.erase N) fun x hx => by
        have := (hd.mem_erase_iff).1 hx
        have := h x this.2
        omega
      rw [List.length_erase_of_mem hN] at h1
      omega
    · have := nodup_bound N l hd fun x hx => by
        have h1 := h x hx
        have h2 : x ≠ N := fun e => hN (e ▸ hx)
        omega
      omega

/-- The state of the reference's search. -/
structure PB (a b : Sy) (L : List Nat) (ps : List (Nat × Nat)) (ws : List (List Nat)) (i k : Nat) : Prop where
  bfs : ∃ ss : List Stp, ss.map (·.nodes) = ps.map (fun p => [code p]) ∧ Bfs pI L (pN a b) (fun _ => False) ss ws i k
  small : ∀ p ∈ ps, p.1 < 65536 ∧ p.2 < 65536
  nodup : ps.Nodup

section
variable {a b : Sy} {L : List Nat} {ps : List (Nat × Nat)} {ws : List (List Nat)} {i k : Nat}

theorem nodes_at {ss : List Stp} (h : ss.map (·.nodes) = ps.map (fun p => [code p])) : ss.length = ps.length ∧ ∀ j (hj : j < ss.length) (hj' : j < ps.length), ss[j].nodes = [code ps[j]] := by
  have hl : ss.length = ps.length := by simpa using congrArg List.length h
  refine ⟨hl, fun j hj hj' => ?_⟩
  have := congrArg (·[j]?) h
  simpa [hj, hj'] using this

theorem PB.begin : PB a b L [(1, 1)] [[]] 0 0 :=
  ⟨⟨[⟨-1, 0, [code (1, 1)]⟩], rfl, Bfs.begin (fun n => by simp [pI]) (fun _ _ h => h)⟩, fun p hp => by simp at hp; subst hp; decide, by simp⟩

theorem PB.len (h : PB a b L ps ws i k) : ws.length = ps.length := by
  obtain ⟨ss, hs, hb⟩ := h.bfs
  rw [hb.len, (nodes_at hs).1]

theorem Bfs.wlen {I : Nat → Prop} {L : List Nat} {nx : Nat → Nat → List Nat} {G : Nat → Prop} {ss : List Stp} {ws : List (List Nat)} {i k : Nat} (h : Bfs I L nx G ss ws i k) : ∀ j (hj : j < ws.length), ws[j].length ≤ j := by
  intro j
  induction j using Nat.strongRecOn with
  | _ j ih =>
    intro hj
    by_cases e : j = 0
    · subst e
      rw [h.zero hj]
      exact Nat.le_refl _
    · obtain ⟨p, q, hpj, _, _, hp, _, _, hw⟩ := h.link j (by rw [← h.len]; exact hj) hj (by omega)
      have := ih p hpj hp
      rw [hw, List.length_cons]
      omega
theorem PB.wlen (h : PB a b L ps ws i k) {j : Nat} (hj : j < ws.length) : ws[j].length ≤ j := by
  obtain ⟨ss, _, hb⟩ := h.bfs
  exact hb.wlen j hj

theorem PB.bound (h : PB a b L ps ws i k) : ps.length ≤ 4294967296 := by
  have h1 : (ps.map code).Nodup := by
    refine List.pairwise_map.2 (h.nodup.imp_of_mem fun {x y} hx hy hne he => hne (code_inj (h.small x hx).2 (h.small y hy).2 he))
  have h2 := nodup_bound 4294967296 (ps.map code) h1 fun x hx => by
    obtain ⟨p, hp, rfl⟩ := List.mem_map.1 hx
    have := h.small p hp
    unfold code
    omega
  simpa using h2

theorem PB.over (h : PB a b L ps ws i k) (hk : L.length ≤ k) : PB a b L ps ws (i + 1) 0 := by
  obtain ⟨ss, hs, hb⟩ := h.bfs
  exact ⟨⟨ss, hs, hb.over hk⟩, h.small, h.nodup⟩

theorem PB.skip (h : PB a b L ps ws i k) (hL : L.Pairwise (· < ·)) (hi : i < ps.length) (hk : k < L.length) (hq : (stepP a b ps[i] L[k]).1 = 0 ∨ stepP a b ps[i] L[k] ∈ ps) : PB a b L ps ws i (k + 1) := by
  obtain ⟨ss, hs, hb⟩ := h.bfs
  obtain ⟨hl, hn⟩ := nodes_at hs
  refine ⟨⟨ss, hs, hb.stale hL (by omega) hk fun n hn1 n' hn2 => ?_⟩, h.small, h.nodup⟩
  rw [hn i (by omega) hi, List.mem_singleton] at hn1
  subst hn1
  unfold pN at hn2
  rw [code_parts (h.small _ (List.getElem_mem hi)).2] at hn2
  rcases hq with hq | hq
  · rw [if_pos hq] at hn2
    cases hn2
  · split at hn2
    · cases hn2
    · rw [List.mem_singleton] at hn2
      obtain ⟨j, hj, he⟩ := List.mem_iff_getElem.1 hq
      exact ⟨j, by omega, by rw [hn j (by omega) hj, List.mem_singleton, hn2, he]⟩

theorem PB.add (h : PB a b L ps ws i k) (hL : L.Pairwise (· < ·)) (hi : i < ps.length) (hi' : i < ws.length) (hk : k < L.length) (h0 : (stepP a b ps[i] L[k]).1 ≠ 0) (hq : stepP a b ps[i] L[k] ∉ ps) :
    PB a b L (ps ++ [stepP a b ps[i] L[k]]) (ws ++ [L[k] :: ws[i]]) i (k + 1) := by
  obtain ⟨ss, hs, hb⟩ := h.bfs
  obtain ⟨hl, hn⟩ := nodes_at hs
  have hN : pN a b (code ps[i]) L[k] = [code (stepP a b ps[i] L[k])] := by
    unfold pN
    rw [code_parts (h.small _ (List.getElem_mem hi)).2, if_neg h0]
  refine ⟨⟨ss ++ [⟨i, L[k], [code (stepP a b ps[i] L[k])]⟩], by rw [List.map_append, List.map_append, hs]; rfl, hb.fresh hL (by omega) hi' hk (fun n' hn' => ?_) (fun n hn1 n' hn2 => ?_) (fun _ _ h => h)⟩, fun p hp => ?_, ?_⟩
  · exact ⟨code ps[i], by rw [hn i (by omega) hi]; exact List.mem_singleton.2 rfl, by rw [hN]; exact hn'⟩
  · rw [hn i (by omega) hi, List.mem_singleton] at hn1
    subst hn1
    rw [hN] at hn2
    exact .inl hn2
  · rcases List.mem_append.1 hp with hp | hp
    · exact h.small p hp
    · rw [List.mem_singleton] at hp
      subst hp
      exact ⟨stepSet_lt _ _ _, stepSet_lt _ _ _⟩
  · rw [List.nodup_append]
    refine ⟨h.nodup, by simp, fun x hx y hy e => ?_⟩
    rw [List.mem_singleton] at hy
    subst hy e
    exact hq hx

theorem PB.found (h : PB a b L ps ws i 0) (hi : i < ps.length) (hi' : i < ws.length) (hpre : ∀ j (hj : j < ps.length), j < i → ps[j].2 ≠ 0) (h0 : ps[i].2 = 0) : FirstW pI L (pN a b) pG ws[i] := by
  obtain ⟨ss, hs, hb⟩ := h.bfs
  obtain ⟨hl, hn⟩ := nodes_at hs
  refine hb.popped (by omega) hi' (fun j hj hji n hnj hg => ?_) (n := code ps[i]) (by rw [hn i (by omega) hi]; exact List.mem_singleton.2 rfl) ?_
  · rw [hn j hj (by omega), List.mem_singleton] at hnj
    subst hnj
    have := h.small _ (List.getElem_mem (show j < ps.length by omega))
    refine hpre j (by omega) hji ?_
    unfold pG code at hg
    omega
  · unfold pG code
    omega

theorem PB.none (h : PB a b L ps ws ps.length 0) (hpre : ∀ j (hj : j < ps.length), ps[j].2 ≠ 0) : ∀ q n, RW pI L (pN a b) q n → ¬ pG n := by
  obtain ⟨ss, hs, hb⟩ := h.bfs
  obtain ⟨hl, hn⟩ := nodes_at hs
  rw [← hl] at hb
  refine hb.nonePopped fun j hj n hnj hg => ?_
  rw [hn j hj (by omega), List.mem_singleton] at hnj
  subst hnj
  have := h.small _ (List.getElem_mem (show j < ps.length by omega))
  refine hpre j (by omega) ?_
  unfold pG code at hg
  omega
end

end AG

/- Plain: the program's breadth-first search. -/
namespace AG

/-- The state of the search. -/
structure SB (I : Nat → Prop) (L : List Nat) (nx : Nat → Nat → List Nat) (G : Nat → Bool) (size : Nat) (ss : List Stp) (ws : List (List Nat)) (S : Nat → Bool) (i k : Nat) : Prop where
  bfs : Bfs I L nx (fun n => G n = true) ss ws i k
  seen : ∀ n, S n = true ↔ ∃ x ∈ ss, n ∈ x.nodes
  small : ∀ x ∈ ss, ∀ n ∈ x.nodes, n < size
  ne : ∀ x ∈ ss, x.nodes ≠ []
  nodup : (ss.flatMap (·.nodes)).Nodup

section
variable {I : Nat → Prop} {L : List Nat} {nx : Nat → Nat → List Nat} {G : Nat → Bool} {size : Nat} {ss : List Stp} {ws : List (List Nat)} {S : Nat → Bool} {i k : Nat}

theorem flat_len : ∀ {ss : List Stp}, (∀ x ∈ ss, x.nodes ≠ []) → ss.length ≤ (ss.flatMap (·.nodes)).length
  | [], _ => Nat.le_refl _
  | x :: ss, h => by
    have h1 := flat_len (ss := ss) fun y hy => h y (List.mem_cons_of_mem _ hy)
    have h2 : 0 < x.nodes.length := List.length_pos_iff.2 (h x List.mem_cons_self)
    rw [List.flatMap_cons, List.length_append, List.length_cons]
    omega
theorem flat_nodup : ∀ {ss : List Stp} {x : Stp}, (ss.flatMap (·.nodes)).Nodup → x ∈ ss → x.nodes.Nodup
  | y :: ss, x, h, hx => by
    rw [List.flatMap_cons, List.nodup_append] at h
    rcases List.mem_cons.1 hx with rfl | hx
    · exact h.1
    · exact flat_nodup h.2.1 hx
theorem SB.bound (h : SB I L nx G size ss ws S i k) : ss.length ≤ size := by
  refine Nat.le_trans (flat_len h.ne) (nodup_bound size _ h.nodup fun x hx => ?_)
  obtain ⟨y, hy, hxy⟩ := List.mem_flatMap.1 hx
  exact h.small y hy x hxy
theorem SB.nodesLen (h : SB I L nx G size ss ws S i k) {x : Stp} (hx : x ∈ ss) : x.nodes.length ≤ size := by
  exact nodup_bound size _ (flat_nodup h.nodup hx) (h.small x hx)

theorem SB.begin {I0 : List Nat} (h0 : I0 ≠ []) (hs : ∀ n ∈ I0, n < size) (hg : (frs (fun _ => false) I0).any G = false) :
    SB (fun n => n ∈ I0) L nx G size [⟨-1, 0, frs (fun _ => false) I0⟩] [[]] (fun n => (frs (fun _ => false) I0).contains n) 0 0 := by
  have hm : ∀ n, n ∈ frs (fun _ => false) I0 ↔ n ∈ I0 := fun n => by rw [frs_mem]; simp
  refine ⟨Bfs.begin hm fun n hn e => ?_, fun n => by simp, fun x hx n hn => ?_, fun x hx e => ?_, by simpa using frs_nodup _ _⟩
  · rw [List.any_eq_false] at hg
    exact hg n hn e
  · rw [List.mem_singleton] at hx
    subst hx
    exact hs n ((hm n).1 hn)
  · rw [List.mem_singleton] at hx
    subst hx
    obtain ⟨a, ha⟩ := List.exists_mem_of_ne_nil _ h0
    have := (hm a).2 ha
    simp only at e
    rw [e] at this
    cases this
/-- The goal is among the first nodes. -/
theorem first_now {I0 : List Nat} (hg : (frs (fun _ => false) I0).any G = true) : FirstW (fun n => n ∈ I0) L nx (fun n => G n = true) [] := by
  rw [List.any_eq_true] at hg
  obtain ⟨n, hn, h⟩ := hg
  exact ⟨⟨n, ((frs_mem _ _ _).1 hn).1, h⟩, fun q m _ _ => rle_nil q⟩

/-- What the nodes of step i reach by letter number k. -/
def reachedL (nx : Nat → Nat → List Nat) (l : Nat) (ns : List Nat) : List Nat := ns.flatMap fun n => nx n l
theorem reachedL_snoc (l : Nat) (ns : List Nat) (n : Nat) : reachedL nx l (ns ++ [n]) = reachedL nx l ns ++ nx n l := by unfold reachedL; rw [List.flatMap_append]; simp
theorem reachedL_mem {l : Nat} {ns : List Nat} {x : Nat} : x ∈ reachedL nx l ns ↔ ∃ n ∈ ns, x ∈ nx n l := by unfold reachedL; rw [List.mem_flatMap]

theorem SB.over (h : SB I L nx G size ss ws S i k) (hk : L.length ≤ k) : SB I L nx G size ss ws S (i + 1) 0 := ⟨h.bfs.over hk, h.seen, h.small, h.ne, h.nodup⟩

theorem SB.old (h : SB I L nx G size ss ws S i k) (hL : L.Pairwise (· < ·)) (hi : i < ss.length) (hk : k < L.length) (hf : frs S (reachedL nx L[k] ss[i].nodes) = []) : SB I L nx G size ss ws S i (k + 1) := by
  refine ⟨h.bfs.stale hL hi hk fun n hn n' hn' => ?_, h.seen, h.small, h.ne, h.nodup⟩
  have hno : ¬ n' ∈ frs S (reachedL nx L[k] ss[i].nodes) := by rw [hf]; simp
  rw [frs_mem] at hno
  have hS : S n' = true := by
    cases hS : S n'
    · exact absurd ⟨reachedL_mem.2 ⟨n, hn, hn'⟩, hS⟩ hno
    · rfl
  obtain ⟨x, hx, hxn⟩ := (h.seen n').1 hS
  obtain ⟨j, hj, rfl⟩ := List.mem_iff_getElem.1 hx
  exact ⟨j, hj, hxn⟩

theorem SB.add (h : SB I L nx G size ss ws S i k) (hL : L.Pairwise (· < ·)) (hi : i < ss.length) (hi' : i < ws.length) (hk : k < L.length) (hnx : ∀ q, q < size → ∀ n ∈ nx q L[k], n < size) {fr : List Nat} (hf : fr = frs S (reachedL nx L[k] ss[i].nodes))
    (hne : fr ≠ []) (hg : fr.any G = false) :
    SB I L nx G size (ss ++ [⟨i, L[k], fr⟩]) (ws ++ [L[k] :: ws[i]]) (fun n => S n || fr.contains n) i (k + 1) := by
  have hm : ∀ n, n ∈ fr ↔ n ∈ reachedL nx L[k] ss[i].nodes ∧ S n = false := fun n => by rw [hf, frs_mem]
  refine ⟨h.bfs.fresh hL hi hi' hk (fun n' hn' => ?_) (fun n hn n' hn' => ?_) (fun n' hn' e => ?_), fun n => ?_, fun x hx n hn => ?_, fun x hx => ?_, ?_⟩
  · exact reachedL_mem.1 ((hm n').1 hn').1
  · cases hS : S n'
    · exact .inl ((hm n').2 ⟨reachedL_mem.2 ⟨n, hn, hn'⟩, hS⟩)
    · obtain ⟨x, hx, hxn⟩ := (h.seen n').1 hS
      obtain ⟨j, hj, rfl⟩ := List.mem_iff_getElem.1 hx
      exact .inr ⟨j, hj, hxn⟩
  · rw [List.any_eq_false] at hg
    exact hg n' hn' e
  · rw [Bool.or_eq_true, h.seen]
    constructor
    · rintro (⟨x, hx, hn⟩ | hn)
      · exact ⟨x, List.mem_append_left _ hx, hn⟩
      · exact ⟨_, List.mem_append_right _ (List.mem_singleton.2 rfl), by simpa using hn⟩
    · rintro ⟨x, hx, hn⟩
      rcases List.mem_append.1 hx with hx | hx
      · exact .inl ⟨x, hx, hn⟩
      · rw [List.mem_singleton] at hx
        subst hx
        exact .inr (by simpa using hn)
  · rcases List.mem_append.1 hx with hx | hx
    · exact h.small x hx n hn
    · rw [List.mem_singleton] at hx
      subst hx
      obtain ⟨q, hq, hnq⟩ := reachedL_mem.1 ((hm n).1 hn).1
      exact hnx q (h.small _ (List.getElem_mem hi) q hq) n hnq
  · rcases List.mem_append.1 hx with hx | hx
    · exact h.ne x hx
    · rw [List.mem_singleton] at hx
      subst hx
      exact hne
  · rw [List.flatMap_append, List.nodup_append]
    refine ⟨h.nodup, by simp only [List.flatMap_cons, List.flatMap_nil, List.append_nil]; rw [hf]; exact frs_nodup _ _, fun a ha b hb e => ?_⟩
    subst e
    simp only [List.flatMap_cons, List.flatMap_nil, List.append_nil] at hb
    obtain ⟨x, hx, hxa⟩ := List.mem_flatMap.1 ha
    have h1 := (h.seen a).2 ⟨x, hx, hxa⟩
    have h2 := ((hm a).1 hb).2
    rw [h1] at h2
    cases h2

theorem SB.found (h : SB I L nx G size ss ws S i k) (hL : L.Pairwise (· < ·)) (hi : i < ss.length) (hi' : i < ws.length) (hk : k < L.length) (hg : (frs S (reachedL nx L[k] ss[i].nodes)).any G = true) :
    FirstW I L nx (fun n => G n = true) (L[k] :: ws[i]) := by
  rw [List.any_eq_true] at hg
  obtain ⟨n', hn', hG⟩ := hg
  obtain ⟨n, hn, hnn⟩ := reachedL_mem.1 ((frs_mem _ _ _).1 hn').1
  exact h.bfs.found hL hi hi' hk hn hnn hG
theorem SB.none (h : SB I L nx G size ss ws S ss.length 0) : ∀ q n, RW I L nx q n → ¬ G n = true := h.bfs.none
end
end AG

/- Plain: both searches for a trace outside have one answer. -/
namespace AG

/-- The set of states to which a word leads (its last letter first). -/
noncomputable def setW (s : Sy) : List Nat → Nat
  | [] => 1
  | l :: r => stepSet s (setW s r) (l : Int)

theorem mv_small {s : Sy} (hs : edgesIn s) (q l : Nat) : mv s q l < 2 ^ s.st.toNat := by
  refine Nat.lt_pow_two_of_testBit _ fun i hi => ?_
  rw [← Bool.not_eq_true, mv_testBit]
  rintro ⟨_, e, he, _, _, rfl⟩
  have := hs e he
  omega
theorem unionOf_testBit (m : Nat → Nat → Nat) (S l t : Nat) : (unionOf m S l).testBit t = true ↔ t < 16 ∧ ∃ q, S.testBit q = true ∧ (m q l).testBit t = true := by
  unfold unionOf
  exact bitsOf_testBit _ _ _
theorem unionOf_small {s : Sy} (hs : edgesIn s) (S l : Nat) : unionOf (mv s) S l < 2 ^ s.st.toNat := by
  refine Nat.lt_pow_two_of_testBit _ fun i hi => ?_
  rw [← Bool.not_eq_true, unionOf_testBit]
  rintro ⟨_, q, _, h⟩
  have := testBit_lt (mv_small hs q l) h
  omega
theorem setW_small {s : Sy} (hs : edgesIn s) (h1 : 1 ≤ s.st) : ∀ r, setW s r < 2 ^ s.st.toNat
  | [] => by
    have : 2 ^ 1 ≤ 2 ^ s.st.toNat := Nat.pow_le_pow_right (by omega) (by omega)
    show 1 < _
    omega
  | l :: r => by
    show stepSet s (setW s r) (l : Int) < _
    rw [← unionOf_mv s hs]
    exact unionOf_small hs _ _
theorem setW_lt (s : Sy) : ∀ r, setW s r < 65536
  | [] => by show 1 < _; omega
  | l :: r => stepSet_lt _ _ _
theorem stepSet_zero (s : Sy) (l : Int) : stepSet s 0 l = 0 := by
  refine Nat.eq_of_testBit_eq fun t => ?_
  rw [Nat.zero_testBit, ← Bool.not_eq_true]
  unfold stepSet
  rw [bitsOf_testBit]
  rintro ⟨_, e, _, _, h, _⟩
  simp at h

/-- A word that is a trace of s and none of t. -/
def Outside (s t : Sy) (r : List Nat) : Prop := (∀ l ∈ r, l ∈ letters s.al) ∧ setW s r ≠ 0 ∧ setW t r = 0
def IsOut (s t : Sy) (o : Option (List Nat)) : Prop :=
  if cmpOk s t = true then
    match o with
    | some r => Outside s t r ∧ ∀ q, Outside s t q → rle r q
    | none => ∀ q, ¬ Outside s t q
  else o = none
theorem IsOut.unique {s t : Sy} {o o' : Option (List Nat)} (h : IsOut s t o) (h' : IsOut s t o') : o = o' := by
  unfold IsOut at h h'
  split at h
  · rename_i hc
    rw [if_pos hc] at h'
    cases o with
    | some r =>
      cases o' with
      | some r' => rw [rle_antisymm (h.2 _ h'.1) (h'.2 _ h.1)]
      | none => exact absurd h.1 (h' r)
    | none =>
      cases o' with
      | some r' => exact absurd h'.1 (h r')
      | none => rfl
  · rename_i hc
    rw [if_neg hc] at h'
    rw [h, h']

theorem out_of_first {s t : Sy} {I : Nat → Prop} {L : List Nat} {nx : Nat → Nat → List Nat} {G : Nat → Prop} (hH : ∀ r, (∃ n, RW I L nx r n ∧ G n) ↔ Outside s t r) (hc : cmpOk s t = true) {o : Option (List Nat)}
    (h : match o with | some r => FirstW I L nx G r | none => ∀ q n, RW I L nx q n → ¬ G n) : IsOut s t o := by
  unfold IsOut
  rw [if_pos hc]
  cases o with
  | some r =>
    obtain ⟨h1, h2⟩ := h
    refine ⟨(hH r).1 h1, fun q hq => ?_⟩
    obtain ⟨n, hn, hg⟩ := (hH q).2 hq
    exact h2 q n hn hg
  | none =>
    intro q hq
    obtain ⟨n, hn, hg⟩ := (hH q).2 hq
    exact h q n hn hg

/-- The reference's nodes. -/
theorem spec_nodes {s t : Sy} : ∀ r n, RW pI (letters s.al) (pN s t) r n ↔ (∀ l ∈ r, l ∈ letters s.al) ∧ setW s r ≠ 0 ∧ n = code (setW s r, setW t r) := by
  intro r
  induction r with
  | nil =>
    intro n
    show pI n ↔ _
    unfold pI
    constructor
    · intro h; exact ⟨(fun l hl => by cases hl), (by show (1 : Nat) ≠ 0; decide), h⟩
    · rintro ⟨_, _, h⟩; exact h
  | cons l r ih =>
    intro n
    show (l ∈ letters s.al ∧ ∃ m, RW pI (letters s.al) (pN s t) r m ∧ n ∈ pN s t m l) ↔ _
    constructor
    · rintro ⟨hl, m, hm, hn⟩
      obtain ⟨h1, h2, rfl⟩ := (ih m).1 hm
      unfold pN at hn
      rw [code_parts (setW_lt t r)] at hn
      split at hn
      · cases hn
      · rename_i h0
        rw [List.mem_singleton] at hn
        exact ⟨fun x hx => by rcases List.mem_cons.1 hx with rfl | hx; exact hl; exact h1 x hx, h0, hn⟩
    · rintro ⟨h1, h2, rfl⟩
      have h3 : setW s r ≠ 0 := fun e => h2 (by show stepSet s (setW s r) _ = 0; rw [e, stepSet_zero])
      refine ⟨h1 l List.mem_cons_self, _, (ih _).2 ⟨fun x hx => h1 x (List.mem_cons_of_mem _ hx), h3, rfl⟩, ?_⟩
      unfold pN
      rw [code_parts (setW_lt t r), if_neg (show ¬ (stepP s t (setW s r, setW t r) l).1 = 0 from h2)]
      exact List.mem_singleton.2 rfl
theorem spec_hits {s t : Sy} (r : List Nat) : (∃ n, RW pI (letters s.al) (pN s t) r n ∧ pG n) ↔ Outside s t r := by
  constructor
  · rintro ⟨n, hn, hg⟩
    obtain ⟨h1, h2, rfl⟩ := (spec_nodes r n).1 hn
    refine ⟨h1, h2, ?_⟩
    have := setW_lt t r
    unfold pG code at hg
    omega
  · rintro ⟨h1, h2, h3⟩
    exact ⟨_, (spec_nodes r _).2 ⟨h1, h2, rfl⟩, by unfold pG code; rw [h3]; omega⟩

/-- The program's nodes: a state of s and the set of t. -/
noncomputable def outNx (s t : Sy) (z : Nat) (node l : Nat) : List Nat := (memL (mv s (node / z) l)).map fun q => q * z + unionOf (mv t) (node % z) l
theorem impl_nodes {s t : Sy} (hs : edgesIn s) (ht : edgesIn t) (h1 : 1 ≤ t.st) : ∀ r n, RW (fun n => n ∈ [1]) (letters s.al) (outNx s t (2 ^ t.st.toNat)) r n ↔
    (∀ l ∈ r, l ∈ letters s.al) ∧ ∃ q, (setW s r).testBit q = true ∧ n = q * 2 ^ t.st.toNat + setW t r := by
  intro r
  have hz : 0 < 2 ^ t.st.toNat := Nat.two_pow_pos _
  induction r with
  | nil =>
    intro n
    show n ∈ [1] ↔ _
    rw [List.mem_singleton]
    constructor
    · rintro rfl
      exact ⟨(fun l hl => by cases hl), 0, (by show (1 : Nat).testBit 0 = true; decide), (by show 1 = 0 * _ + 1; omega)⟩
    · rintro ⟨_, q, hq, rfl⟩
      have hq0 : q = 0 := by
        have : (1 : Nat).testBit q = true := hq
        have := testBit_lt (n := 1) (S := 1) (by decide) this
        omega
      subst hq0
      show 0 * _ + 1 = 1
      omega
  | cons l r ih =>
    intro n
    show (l ∈ letters s.al ∧ ∃ m, RW (fun n => n ∈ [1]) (letters s.al) (outNx s t (2 ^ t.st.toNat)) r m ∧ n ∈ outNx s t (2 ^ t.st.toNat) m l) ↔ _
    have hd : ∀ q, (q * 2 ^ t.st.toNat + setW t r) / 2 ^ t.st.toNat = q ∧ (q * 2 ^ t.st.toNat + setW t r) % 2 ^ t.st.toNat = setW t r := fun q => by
      have hlt := setW_small ht h1 r
      constructor
      · rw [Nat.mul_comm, Nat.mul_add_div hz, Nat.div_eq_of_lt hlt]; omega
      · rw [Nat.mul_comm, Nat.mul_add_mod, Nat.mod_eq_of_lt hlt]
    have hS : setW t (l :: r) = unionOf (mv t) (setW t r) l := (unionOf_mv t ht _ _).symm
    have hsS : setW s (l :: r) = unionOf (mv s) (setW s r) l := (unionOf_mv s hs _ _).symm
    constructor
    · rintro ⟨hl, m, hm, hn⟩
      obtain ⟨h2, q, hq, rfl⟩ := (ih m).1 hm
      unfold outNx at hn
      rw [(hd q).1, (hd q).2] at hn
      obtain ⟨q', hq', rfl⟩ := List.mem_map.1 hn
      obtain ⟨h16, hb⟩ := memL_mem.1 hq'
      refine ⟨fun x hx => by rcases List.mem_cons.1 hx with rfl | hx; exact hl; exact h2 x hx, q', ?_, by rw [hS]⟩
      rw [hsS, unionOf_testBit]
      exact ⟨h16, q, hq, hb⟩
    · rintro ⟨h2, q', hq', rfl⟩
      rw [hsS, unionOf_testBit] at hq'
      obtain ⟨h16, q, hq, hb⟩ := hq'
      refine ⟨h2 l List.mem_cons_self, _, (ih _).2 ⟨fun x hx => h2 x (List.mem_cons_of_mem _ hx), q, hq, rfl⟩, ?_⟩
      unfold outNx
      rw [(hd q).1, (hd q).2, hS]
      exact List.mem_map.2 ⟨q', memL_mem.2 ⟨h16, hb⟩, rfl⟩
theorem impl_hits {s t : Sy} (hs : edgesIn s) (ht : edgesIn t) (h1 : 1 ≤ t.st) (r : List Nat) : (∃ n, RW (fun n => n ∈ [1]) (letters s.al) (outNx s t (2 ^ t.st.toNat)) r n ∧ decide (n % 2 ^ t.st.toNat = 0) = true) ↔ Outside s t r := by
  have hlt := setW_small ht h1 r
  constructor
  · rintro ⟨n, hn, hg⟩
    obtain ⟨h2, q, hq, rfl⟩ := (impl_nodes hs ht h1 r n).1 hn
    refine ⟨h2, fun e => ?_, ?_⟩
    · rw [e, Nat.zero_testBit] at hq; cases hq
    · rw [decide_eq_true_eq, Nat.mul_comm, Nat.mul_add_mod, Nat.mod_eq_of_lt hlt] at hg
      exact hg
  · rintro ⟨h2, h3, h4⟩
    obtain ⟨q, hq⟩ := Nat.exists_testBit_of_ne_zero h3
    refine ⟨_, (impl_nodes hs ht h1 r _).2 ⟨h2, q, hq, rfl⟩, ?_⟩
    rw [h4]
    simp
end AG

/- Plain: automata as lists; the automaton of the sets of states to which words lead. -/
namespace AG

structure Au where
  al : Int
  nx : List (List Int)
  ac : List Bool
  deriving DecidableEq

end AG

/- Plain: what the automaton of sets accepts; numberings that are alike. -/
namespace AG

/-- The state to which a letter leads; a letter that the automaton does not have leads nowhere else. -/
def goA (a : Au) (q l : Nat) : Nat := if l ∈ letters a.al then ((a.nx.getD q []).getD ((letters a.al).idxOf l) 0).toNat else q
end AG

/- Plain: a system with only its reached states does the same. -/
namespace AG

theorem edgeLt_iff (a b : Ed) : edgeLt a b = true ↔ a.f < b.f ∨ (a.f = b.f ∧ (a.l < b.l ∨ (a.l = b.l ∧ a.t < b.t))) := by
  unfold edgeLt
  by_cases h1 : a.f = b.f
  · by_cases h2 : a.l = b.l
    · simp [h1, h2]
    · simp [h1, h2]
  · simp [h1]
theorem edgeLt_trans {a b c : Ed} (h : edgeLt a b = true) (k : edgeLt b c = true) : edgeLt a c = true := by
  rw [edgeLt_iff] at h k ⊢
  omega
theorem edges_pairwise {s : Sy} (h : sysOk s = true) : s.es.Pairwise fun a b => edgeLt a b = true := by
  rw [List.pairwise_iff_getElem]
  intro i j hi hj hij
  induction j with
  | zero => omega
  | succ j ih =>
    have h1 := sysOk_lt h (i := j) (by omega)
    by_cases e : i = j
    · subst e; exact h1
    · exact edgeLt_trans (ih (by omega) (by omega)) h1
theorem reach_bit {s : Sy} (q : Nat) : (reachAll s).testBit q = true ↔ q < 16 ∧ Rch s s.al 1 q := by
  unfold reachAll reachSet
  exact bitsOf_testBit _ _ _
theorem reach_zero {s : Sy} : (reachAll s).testBit 0 = true := (reach_bit 0).2 ⟨by omega, Rch.start (by decide)⟩
theorem reach_step {s : Sy} (hs : sysOk s = true) {e : Ed} (he : e ∈ s.es) (h : (reachAll s).testBit e.f.toNat = true) : (reachAll s).testBit e.t.toNat = true := by
  obtain ⟨a, b, c, d, e1, f, g, _⟩ := sysOk_in hs e he
  exact (reach_bit _).2 ⟨by omega, Rch.step he g ((reach_bit _).1 h).2⟩

/-- No two edges from a reached state have one letter. -/
def DetP (s : Sy) : Prop := ∀ a ∈ s.es, ∀ b ∈ s.es, (reachAll s).testBit a.f.toNat = true → a.f = b.f → a.l = b.l → a = b
theorem detAt_iff {s : Sy} (hs : sysOk s = true) : detAt s (reachAll s) s.es.length ↔ DetP s := by
  have hp := List.pairwise_iff_getElem.1 (edges_pairwise hs)
  constructor
  · intro h a ha b hb hr hf hl
    obtain ⟨i, hi, rfl⟩ := List.getElem_of_mem ha
    obtain ⟨j, hj, rfl⟩ := List.getElem_of_mem hb
    have key : ∀ i j (hi : i < s.es.length) (hj : j < s.es.length), i < j → (reachAll s).testBit s.es[i].f.toNat = true → s.es[i].f = s.es[j].f → s.es[i].l = s.es[j].l → False := by
      intro i j hi hj hij hr hf hl
      refine h i (by omega) (by omega) ⟨by rw [Has_nat]; exact hr, ?_⟩
      have h1 := hp i (i + 1) hi (by omega) (by omega)
      by_cases e : i + 1 = j
      · subst e; exact ⟨hf, hl⟩
      · have h2 := hp (i + 1) j (by omega) hj (by omega)
        rw [edgeLt_iff] at h1 h2
        constructor <;> omega
    rcases Nat.lt_trichotomy i j with e | e | e
    · exact (key i j hi hj e hr hf hl).elim
    · subst e; rfl
    · exact (key j i hj hi e (by rw [← hf]; exact hr) hf.symm hl.symm).elim
  · intro h i hi _ ⟨h1, h2, h3⟩
    rw [Has_nat] at h1
    have e := h _ (List.getElem_mem _) _ (List.getElem_mem hi) h1 h2 h3
    have h4 := hp i (i + 1) (by omega) hi (by omega)
    rw [e, edgeLt_iff] at h4
    omega
end AG
