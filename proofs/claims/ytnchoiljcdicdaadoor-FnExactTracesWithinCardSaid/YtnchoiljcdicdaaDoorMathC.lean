/- Plain: words from their last letter on, their order, and a breadth-first search for the first word that leads to a goal. -/
namespace AG

/-- The shortlex order of words that are written from their last letter on. -/
def rlt : List Nat → List Nat → Prop
  | _, [] => False
  | [], _ :: _ => True
  | a :: r, b :: q => rlt r q ∨ (r = q ∧ a < b)

theorem rlt_irrefl : ∀ r, ¬ rlt r r
  | [] => fun h => h
  | _ :: r => fun h => by
    rcases h with h | ⟨_, h⟩
    · exact rlt_irrefl r h
    · omega
theorem rlt_trans : ∀ {r q p : List Nat}, rlt r q → rlt q p → rlt r p
  | _, _, [], _, h => (by simp [rlt] at h)
  | [], _, _ :: _, _, _ => trivial
  | _ :: _, [], _ :: _, h, _ => (by simp [rlt] at h)
  | a :: r, b :: q, c :: p, h, k => by
    rcases h with h | ⟨rfl, h⟩
    · rcases k with k | ⟨rfl, _⟩
      · exact .inl (rlt_trans h k)
      · exact .inl h
    · rcases k with k | ⟨rfl, k⟩
      · exact .inl k
      · exact .inr ⟨rfl, by omega⟩
theorem rlt_total : ∀ r q : List Nat, rlt r q ∨ r = q ∨ rlt q r
  | [], [] => .inr (.inl rfl)
  | [], _ :: _ => .inl trivial
  | _ :: _, [] => .inr (.inr trivial)
  | a :: r, b :: q => by
    rcases rlt_total r q with h | rfl | h
    · exact .inl (.inl h)
    · rcases Nat.lt_trichotomy a b with h | rfl | h
      · exact .inl (.inr ⟨rfl, h⟩)
      · exact .inr (.inl rfl)
      · exact .inr (.inr (.inr ⟨rfl, h⟩))
    · exact .inr (.inr (.inl h))
def rle (r q : List Nat) : Prop := rlt r q ∨ r = q
theorem rle_refl (r : List Nat) : rle r r := .inr rfl
theorem rle_trans {r q p : List Nat} (h : rle r q) (k : rle q p) : rle r p := by
  rcases h with h | rfl
  · rcases k with k | rfl
    · exact .inl (rlt_trans h k)
    · exact .inl h
  · exact k
theorem rle_antisymm {r q : List Nat} (h : rle r q) (k : rle q r) : r = q := by
  rcases h with h | h
  · rcases k with k | k
    · exact absurd (rlt_trans h k) (rlt_irrefl r)
    · exact k.symm
  · exact h
theorem rlt_of_rlt_rle {r q p : List Nat} (h : rlt r q) (k : rle q p) : rlt r p := by
  rcases k with k | rfl
  · exact rlt_trans h k
  · exact h
theorem rlt_cons (a : Nat) : ∀ r, rlt r (a :: r)
  | [] => trivial
  | _ :: r => .inl (rlt_cons _ r)
theorem rle_cons {r q : List Nat} (a : Nat) (h : rle r q) : rle (a :: r) (a :: q) := by
  rcases h with h | rfl
  · exact .inl (.inl h)
  · exact .inr rfl
theorem rlt_nil (a : Nat) (r : List Nat) : rlt [] (a :: r) := trivial
theorem rle_nil (r : List Nat) : rle [] r := by
  cases r with
  | nil => exact .inr rfl
  | cons a r => exact .inl trivial

/-- The node n is reached by the word r (written from its last letter on) over the letters L. -/
def RW (I : Nat → Prop) (L : List Nat) (nx : Nat → Nat → List Nat) : List Nat → Nat → Prop
  | [], n => I n
  | l :: r, n => l ∈ L ∧ ∃ m, RW I L nx r m ∧ n ∈ nx m l

/-- r is the first word that leads to a goal. -/
def FirstW (I : Nat → Prop) (L : List Nat) (nx : Nat → Nat → List Nat) (G : Nat → Prop) (r : List Nat) : Prop :=
  (∃ n, RW I L nx r n ∧ G n) ∧ ∀ q n, RW I L nx q n → G n → rle r q
theorem FirstW.unique {I : Nat → Prop} {L : List Nat} {nx : Nat → Nat → List Nat} {G : Nat → Prop} {r q : List Nat} (h : FirstW I L nx G r) (k : FirstW I L nx G q) : r = q := by
  obtain ⟨⟨n, hn, hg⟩, h2⟩ := h
  obtain ⟨⟨m, hm, hg'⟩, k2⟩ := k
  exact rle_antisymm (h2 _ _ hm hg') (k2 _ _ hn hg)

/-- A step of the search: the word that was reached, and the nodes that no earlier word reaches. -/
structure Stp where
  par : Int
  let_ : Nat
  nodes : List Nat

/-- The pair of step j and letter number m is before the pair i, k. -/
def before (i k j m : Nat) : Prop := j < i ∨ (j = i ∧ m < k)

/-- The state of the search: all letters before number k of step i are done. ws: the steps' words. -/
structure Bfs (I : Nat → Prop) (L : List Nat) (nx : Nat → Nat → List Nat) (G : Nat → Prop) (ss : List Stp) (ws : List (List Nat)) (i k : Nat) : Prop where
  len : ws.length = ss.length
  zero : ∀ (h : 0 < ws.length), ws[0] = []
  pos : 0 < ss.length
  root : ∀ (h : 0 < ss.length), ss[0].par = -1
  link : ∀ j (h : j < ss.length) (h' : j < ws.length), 0 < j → ∃ p q, p < j ∧ before i k p q ∧ ss[j].par = (p : Int) ∧ ∃ (hp : p < ws.length) (hq : q < L.length), ss[j].let_ = L[q] ∧ ws[j] = L[q] :: ws[p]
  reach : ∀ j (h : j < ss.length) (h' : j < ws.length), ∀ n ∈ ss[j].nodes, RW I L nx ws[j] n
  incr : ∀ j j' (h : j < ws.length) (h' : j' < ws.length), j < j' → rlt ws[j] ws[j']
  done : ∀ j (h : j < ss.length) (h' : j < ws.length) m (hm : m < L.length), before i k j m → ∀ n ∈ ss[j].nodes, ∀ n' ∈ nx n L[m], ∃ j', ∃ (g : j' < ss.length) (g' : j' < ws.length), n' ∈ ss[j'].nodes ∧ rle ws[j'] (L[m] :: ws[j])
  start : ∀ (h : 0 < ss.length), ∀ n, I n → n ∈ ss[0].nodes
  noGoal : ∀ j (h : j < ss.length), ∀ n ∈ ss[j].nodes, ¬ G n

section
variable {I : Nat → Prop} {L : List Nat} {nx : Nat → Nat → List Nat} {G : Nat → Prop} {ss : List Stp} {ws : List (List Nat)} {i k : Nat}

/-- Whatever a word reaches has been found by a word not behind it, or the word is not before one that is still to come. -/
theorem Bfs.cover (h : Bfs I L nx G ss ws i k) : ∀ r n, RW I L nx r n →
    (∃ j, ∃ (g : j < ss.length) (g' : j < ws.length), n ∈ ss[j].nodes ∧ rle ws[j] r) ∨ (∃ j m, ∃ (_ : j < ss.length) (g' : j < ws.length) (hm : m < L.length), ¬ before i k j m ∧ rle (L[m] :: ws[j]) r) := by
  intro r
  induction r with
  | nil =>
    intro n hn
    have h0 : 0 < ws.length := by rw [h.len]; exact h.pos
    exact .inl ⟨0, h.pos, h0, h.start h.pos n hn, by rw [h.zero h0]; exact rle_refl _⟩
  | cons l r ih =>
    intro n ⟨hl, m, hm, hn⟩
    obtain ⟨q, hq, rfl⟩ := List.mem_iff_getElem.1 hl
    rcases ih m hm with ⟨j, g, g', hj, hr⟩ | ⟨j, m', g, g', hm', hny, hr⟩
    · by_cases hny : before i k j q
      · obtain ⟨j', g2, g2', hn', hr'⟩ := h.done j g g' q hq hny m hj n hn
        exact .inl ⟨j', g2, g2', hn', rle_trans hr' (rle_cons _ hr)⟩
      · exact .inr ⟨j, q, g, g', hq, hny, rle_cons _ hr⟩
    · exact .inr ⟨j, m', g, g', hm', hny, rle_trans hr (.inl (rlt_cons _ _))⟩

theorem Bfs.pairs (h : Bfs I L nx G ss ws i k) (hL : L.Pairwise (· < ·)) {j m j' m' : Nat} (hj : j < ws.length) (hm : m < L.length) (hj' : j' < ws.length) (hm' : m' < L.length) (hlt : before j' m' j m) : rlt (L[m] :: ws[j]) (L[m'] :: ws[j']) := by
  rcases hlt with h1 | ⟨rfl, h1⟩
  · exact .inl (h.incr j j' hj hj' h1)
  · exact .inr ⟨rfl, List.pairwise_iff_getElem.1 hL m m' hm hm' h1⟩

/-- Every step's word is before the one that is in hand. -/
theorem Bfs.front (h : Bfs I L nx G ss ws i k) (hL : L.Pairwise (· < ·)) (hi : i < ws.length) (hk : k < L.length) {j : Nat} (hj : j < ws.length) : rlt ws[j] (L[k] :: ws[i]) := by
  by_cases e : j = 0
  · subst e
    rw [h.zero hj]
    exact rlt_nil _ _
  · obtain ⟨p, q, hpj, hb, _, hp, hq, _, hw⟩ := h.link j (by rw [← h.len]; exact hj) hj (by omega)
    rw [hw]
    exact h.pairs hL hp hq hi hk hb

/-- The search has found a goal: its word is the first one. -/
theorem Bfs.found (h : Bfs I L nx G ss ws i k) (hL : L.Pairwise (· < ·)) (hi : i < ss.length) (hi' : i < ws.length) (hk : k < L.length) {n n' : Nat} (hn : n ∈ ss[i].nodes) (hn' : n' ∈ nx n L[k]) (hg : G n') : FirstW I L nx G (L[k] :: ws[i]) := by
  refine ⟨⟨n', ⟨List.getElem_mem _, n, h.reach i hi hi' n hn, hn'⟩, hg⟩, fun q m hm hgm => ?_⟩
  rcases h.cover q m hm with ⟨j, g, g', hj, _⟩ | ⟨j, m', g, g', hm', hny, hr⟩
  · exact absurd hgm (h.noGoal j g m hj)
  · refine rle_trans ?_ hr
    by_cases e : i = j ∧ k = m'
    · obtain ⟨rfl, rfl⟩ := e
      exact rle_refl _
    · refine .inl (h.pairs hL hi' hk g' hm' ?_)
      unfold before at *
      omega

/-- The search has come to its end without a goal: no word leads to one. -/
theorem Bfs.none (h : Bfs I L nx G ss ws ss.length 0) : ∀ q n, RW I L nx q n → ¬ G n := by
  intro q n hn
  rcases h.cover q n hn with ⟨j, g, g', hj, _⟩ | ⟨j, m, g, g', hm, hny, _⟩
  · exact h.noGoal j g n hj
  · exact absurd (.inl g) hny

/-- On to the next step. -/
theorem Bfs.over (h : Bfs I L nx G ss ws i k) (hk : L.length ≤ k) : Bfs I L nx G ss ws (i + 1) 0 :=
  { len := h.len, zero := h.zero, pos := h.pos, root := h.root, reach := h.reach, incr := h.incr, start := h.start, noGoal := h.noGoal
    link := fun j hj hj' h0 => by
      obtain ⟨p, q, hpj, hb, h1, hp, hq, h2, hw⟩ := h.link j hj hj' h0
      exact ⟨p, q, hpj, by unfold before at *; omega, h1, hp, hq, h2, hw⟩
    done := fun j hj hj' m hm hb => h.done j hj hj' m hm (by unfold before at *; omega) }

/-- A letter that leads to nothing new. -/
theorem Bfs.stale (h : Bfs I L nx G ss ws i k) (hL : L.Pairwise (· < ·)) (hi : i < ss.length) (hk : k < L.length)
    (hold : ∀ n ∈ ss[i].nodes, ∀ n' ∈ nx n L[k], ∃ j', ∃ (_ : j' < ss.length), n' ∈ ss[j'].nodes) : Bfs I L nx G ss ws i (k + 1) :=
  { len := h.len, zero := h.zero, pos := h.pos, root := h.root, reach := h.reach, incr := h.incr, start := h.start, noGoal := h.noGoal
    link := fun j hj hj' h0 => by
      obtain ⟨p, q, hpj, hb, h1, hp, hq, h2, hw⟩ := h.link j hj hj' h0
      exact ⟨p, q, hpj, by unfold before at *; omega, h1, hp, hq, h2, hw⟩
    done := fun j hj hj' m hm hb n hn n' hn' => by
      by_cases e : before i k j m
      · exact h.done j hj hj' m hm e n hn n' hn'
      · obtain ⟨rfl, rfl⟩ : j = i ∧ m = k := by unfold before at *; omega
        obtain ⟨j', g, hj'n⟩ := hold n hn n' hn'
        have g' : j' < ws.length := by rw [h.len]; exact g
        exact ⟨j', g, g', hj'n, .inl (h.front hL hj' hm g')⟩ }

/-- A letter that leads to something new. -/
theorem Bfs.fresh (h : Bfs I L nx G ss ws i k) (hL : L.Pairwise (· < ·)) (hi : i < ss.length) (hi' : i < ws.length) (hk : k < L.length) {fr : List Nat}
    (hfr : ∀ n' ∈ fr, ∃ n ∈ ss[i].nodes, n' ∈ nx n L[k]) (hall : ∀ n ∈ ss[i].nodes, ∀ n' ∈ nx n L[k], n' ∈ fr ∨ ∃ j', ∃ (_ : j' < ss.length), n' ∈ ss[j'].nodes) (hng : ∀ n' ∈ fr, ¬ G n') :
    Bfs I L nx G (ss ++ [⟨i, L[k], fr⟩]) (ws ++ [L[k] :: ws[i]]) i (k + 1) := by
  have hlen := h.len
  have hold : ∀ j (hj : j < ss.length), (ss ++ [(⟨i, L[k], fr⟩ : Stp)])[j]'(by simp; omega) = ss[j] := fun j hj => List.getElem_append_left hj
  have hnew : (ss ++ [(⟨i, L[k], fr⟩ : Stp)])[ss.length]'(by simp) = ⟨i, L[k], fr⟩ := by simp
  have wold : ∀ j (hj : j < ws.length), (ws ++ [L[k] :: ws[i]])[j]'(by simp; omega) = ws[j] := fun j hj => List.getElem_append_left hj
  have wnew : (ws ++ [L[k] :: ws[i]])[ws.length]'(by simp) = L[k] :: ws[i] := by simp
  refine ⟨by simp [hlen], fun h0 => ?_, by simp, fun h0 => ?_, ?_, ?_, ?_, ?_, ?_, ?_⟩
  · have h0' : 0 < ws.length := by rw [hlen]; exact h.pos
    rw [wold 0 h0']; exact h.zero h0'
  · rw [hold 0 h.pos]; exact h.root h.pos
  · intro j hj hj' h0
    by_cases e : j < ss.length
    · have e' : j < ws.length := by omega
      obtain ⟨p, q, hpj, hb, h1, hp, hq, h2, hw⟩ := h.link j e e' h0
      refine ⟨p, q, hpj, by unfold before at *; omega, by rw [hold j e]; exact h1, by simp; omega, hq, by rw [hold j e]; exact h2, ?_⟩
      rw [wold j e', wold p hp]
      exact hw
    · obtain rfl : j = ss.length := by simp at hj; omega
      refine ⟨i, k, hi, .inr ⟨rfl, by omega⟩, by rw [hnew], by simp; omega, hk, by rw [hnew], ?_⟩
      have : (ws ++ [L[k] :: ws[i]])[ss.length] = L[k] :: ws[i] := by simp only [← hlen]; exact wnew
      rw [this, wold i hi']
  · intro j hj hj' n hn
    by_cases e : j < ss.length
    · rw [hold j e] at hn
      rw [wold j (by omega)]
      exact h.reach j e (by omega) n hn
    · obtain rfl : j = ss.length := by simp at hj; omega
      rw [hnew] at hn
      have : (ws ++ [L[k] :: ws[i]])[ss.length] = L[k] :: ws[i] := by simp only [← hlen]; exact wnew
      rw [this]
      obtain ⟨m, hm, hn'⟩ := hfr n hn
      exact ⟨List.getElem_mem _, m, h.reach i hi hi' m hm, hn'⟩
  · intro j j' hj hj' hlt
    by_cases e : j' < ws.length
    · rw [wold j (by omega), wold j' e]
      exact h.incr j j' (by omega) e hlt
    · obtain rfl : j' = ws.length := by simp at hj'; omega
      rw [wnew, wold j hlt]
      exact h.front hL hi' hk hlt
  · intro j hj hj' m hm hb n hn n' hn'
    by_cases e : before i k j m
    · have hjs : j < ss.length := by unfold before at e; omega
      rw [hold j hjs] at hn
      obtain ⟨j2, g, g', h1, h2⟩ := h.done j hjs (by omega) m hm e n hn n' hn'
      refine ⟨j2, by simp; omega, by simp; omega, by rw [hold j2 g]; exact h1, ?_⟩
      rw [wold j2 g', wold j (by omega)]
      exact h2
    · obtain ⟨rfl, rfl⟩ : j = i ∧ m = k := by unfold before at *; omega
      rw [hold j hi] at hn
      rw [wold j hi']
      rcases hall n hn n' hn' with h1 | ⟨j2, g, h1⟩
      · refine ⟨ss.length, by simp, by simp; omega, by rw [hnew]; exact h1, ?_⟩
        have : (ws ++ [L[m] :: ws[j]])[ss.length]'(by simp; omega) = L[m] :: ws[j] := by simp only [← hlen]; exact wnew
        rw [this]
        exact rle_refl _
      · have g' : j2 < ws.length := by omega
        refine ⟨j2, by simp; omega, by simp; omega, by rw [hold j2 g]; exact h1, ?_⟩
        rw [wold j2 g']
        exact .inl (h.front hL hi' hm g')
  · intro h0 n hn
    rw [hold 0 h.pos]
    exact h.start h.pos n hn
  · intro j hj n hn
    by_cases e : j < ss.length
    · rw [hold j e] at hn
      exact h.noGoal j e n hn
    · obtain rfl : j = ss.length := by simp at hj; omega
      rw [hnew] at hn
      exact hng n hn

/-- The beginning. -/
theorem Bfs.begin {fr : List Nat} (hfr : ∀ n, n ∈ fr ↔ I n) (hng : ∀ n ∈ fr, ¬ G n) : Bfs I L nx G [⟨-1, 0, fr⟩] [[]] 0 0 := by
  refine ⟨rfl, fun _ => rfl, by simp, fun _ => rfl, ?_, ?_, ?_, ?_, ?_, ?_⟩
  · intro j hj _ h0; simp at hj; omega
  · intro j hj hj' n hn
    obtain rfl : j = 0 := by simp at hj; omega
    exact (hfr n).1 hn
  · intro j j' _ hj' h; simp at hj'; omega
  · intro j hj _ m _ hb; unfold before at hb; simp at hj; omega
  · intro _ n hn; exact (hfr n).2 hn
  · intro j hj n hn
    obtain rfl : j = 0 := by simp at hj; omega
    exact hng n hn
end

end AG
