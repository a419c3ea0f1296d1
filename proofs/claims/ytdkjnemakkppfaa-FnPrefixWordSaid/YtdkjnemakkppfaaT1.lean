/- Lemmas, part 1: several texts in one. -/
import Derived.StillTail
import Derived.Deep.Quiet
import Derived.KernelRfl
import Derived.WalkKit
import Derived.WalkSpells
import Derived.WalkLawsBesides
import Derived.BigQuiet
import Derived.Deep.QuietTactic
import Derived.Test.YtdkjnemakkppfaaProg
set_option linter.unusedSimpArgs false
set_option linter.unusedVariables false

/- Plain: words from their last letter on, their order, and a breadth-first search for the first word that leads to a goal. -/
namespace AG

/-- The shortlex order of words that are written from their last letter on. -/
def rlt : List Nat → List Nat → Prop
  | _, [] => False
  | [], _ :: _ => True
  | a :: r, b :: q => rlt r q ∨ (r = q ∧ a < b)

theorem rlt_trans : ∀ {r q p : List Nat}, rlt r q → rlt q p → rlt r p
  | _, _, [], _, h => (by simp [rlt] at h)
  | [], _, _ :: _, _, _ => trivial
  | _ :: _, [], _ :: _, h, _ => (by simp [rlt] at h)
  | a :: r, b :: q, c :: p, h, k => by
    rcases h with h | ⟨rfl, h⟩
    · rcases k with k | ⟨rfl, _⟩
      · exact .inl (rlt_trans h k)
      · exact .inl h
    · rcases k with k | ⟨rfl, k⟩
      · exact .inl k
      · exact .inr ⟨rfl, by omega⟩
def rle (r q : List Nat) : Prop := rlt r q ∨ r = q
theorem rle_refl (r : List Nat) : rle r r := .inr rfl
theorem rle_trans {r q p : List Nat} (h : rle r q) (k : rle q p) : rle r p := by
  rcases h with h | rfl
  · rcases k with k | rfl
    · exact .inl (rlt_trans h k)
    · exact .inl h
  · exact k
theorem rlt_cons (a : Nat) : ∀ r, rlt r (a :: r)
  | [] => trivial
  | _ :: r => .inl (rlt_cons _ r)
theorem rle_cons {r q : List Nat} (a : Nat) (h : rle r q) : rle (a :: r) (a :: q) := by
  rcases h with h | rfl
  · exact .inl (.inl h)
  · exact .inr rfl
theorem rlt_nil (a : Nat) (r : List Nat) : rlt [] (a :: r) := trivial
theorem rle_nil (r : List Nat) : rle [] r := by
  cases r with
  | nil => exact .inr rfl
  | cons a r => exact .inl trivial

/-- The node n is reached by the word r (written from its last letter on) over the letters L. -/
def RW (I : Nat → Prop) (L : List Nat) (nx : Nat → Nat → List Nat) : List Nat → Nat → Prop
  | [], n => I n
  | l :: r, n => l ∈ L ∧ ∃ m, RW I L nx r m ∧ n ∈ nx m l

/-- r is the first word that leads to a goal. -/
def FirstW (I : Nat → Prop) (L : List Nat) (nx : Nat → Nat → List Nat) (G : Nat → Prop) (r : List Nat) : Prop :=
  (∃ n, RW I L nx r n ∧ G n) ∧ ∀ q n, RW I L nx q n → G n → rle r q
/-- A step of the search: the word that was reached, and the nodes that no earlier word reaches. -/
structure Stp where
  par : Int
  let_ : Nat
  nodes : List Nat

/-- The pair of step j and letter number m is before the pair i, k. -/
def before (i k j m : Nat) : Prop := j < i ∨ (j = i ∧ m < k)

/-- The state of the search: all letters before number k of step i are done. ws: the steps' words. -/
structure Bfs (I : Nat → Prop) (L : List Nat) (nx : Nat → Nat → List Nat) (G : Nat → Prop) (ss : List Stp) (ws : List (List Nat)) (i k : Nat) : Prop where
  len : ws.length = ss.length
  zero : ∀ (h : 0 < ws.length), ws[0] = []
  pos : 0 < ss.length
  root : ∀ (h : 0 < ss.length), ss[0].par = -1
  link : ∀ j (h : j < ss.length) (h' : j < ws.length), 0 < j → ∃ p q, p < j ∧ before i k p q ∧ ss[j].par = (p : Int) ∧ ∃ (hp : p < ws.length) (hq : q < L.length), ss[j].let_ = L[q] ∧ ws[j] = L[q] :: ws[p]
  reach : ∀ j (h : j < ss.length) (h' : j < ws.length), ∀ n ∈ ss[j].nodes, RW I L nx ws[j] n
  incr : ∀ j j' (h : j < ws.length) (h' : j' < ws.length), j < j' → rlt ws[j] ws[j']
  done : ∀ j (h : j < ss.length) (h' : j < ws.length) m (hm : m < L.length), before i k j m → ∀ n ∈ ss[j].nodes, ∀ n' ∈ nx n L[m], ∃ j', ∃ (g : j' < ss.length) (g' : j' < ws.length), n' ∈ ss[j'].nodes ∧ rle ws[j'] (L[m] :: ws[j])
  start : ∀ (h : 0 < ss.length), ∀ n, I n → n ∈ ss[0].nodes
  noGoal : ∀ j (h : j < ss.length), ∀ n ∈ ss[j].nodes, ¬ G n

section
variable {I : Nat → Prop} {L : List Nat} {nx : Nat → Nat → List Nat} {G : Nat → Prop} {ss : List Stp} {ws : List (List Nat)} {i k : Nat}

/-- Whatever a word reaches has been found by a word not behind it, or the word is not before one that is still to come. -/
theorem Bfs.cover (h : Bfs I L nx G ss ws i k) : ∀ r n, RW I L nx r n →
    (∃ j, ∃ (g : j < ss.length) (g' : j < ws.length), n ∈ ss[j].nodes ∧ rle ws[j] r) ∨ (∃ j m, ∃ (_ : j < ss.length) (g' : j < ws.length) (hm : m < L.length), ¬ before i k j m ∧ rle (L[m] :: ws[j]) r) := by
  intro r
  induction r with
  | nil =>
    intro n hn
    have h0 : 0 < ws.length := by rw [h.len]; exact h.pos
    exact .inl ⟨0, h.pos, h0, h.start h.pos n hn, by rw [h.zero h0]; exact rle_refl _⟩
  | cons l r ih =>
    intro n ⟨hl, m, hm, hn⟩
    obtain ⟨q, hq, rfl⟩ := List.mem_iff_getElem.1 hl
    rcases ih m hm with ⟨j, g, g', hj, hr⟩ | ⟨j, m', g, g', hm', hny, hr⟩
    · by_cases hny : before i k j q
      · obtain ⟨j', g2, g2', hn', hr'⟩ := h.done j g g' q hq hny m hj n hn
        exact .inl ⟨j', g2, g2', hn', rle_trans hr' (rle_cons _ hr)⟩
      · exact .inr ⟨j, q, g, g', hq, hny, rle_cons _ hr⟩
    · exact .inr ⟨j, m', g, g', hm', hny, rle_trans hr (.inl (rlt_cons _ _))⟩

theorem Bfs.pairs (h : Bfs I L nx G ss ws i k) (hL : L.Pairwise (· < ·)) {j m j' m' : Nat} (hj : j < ws.length) (hm : m < L.length) (hj' : j' < ws.length) (hm' : m' < L.length) (hlt : before j' m' j m) : rlt (L[m] :: ws[j]) (L[m'] :: ws[j']) := by
  rcases hlt with h1 | ⟨rfl, h1⟩
  · exact .inl (h.incr j j' hj hj' h1)
  · exact .inr ⟨rfl, List.pairwise_iff_getElem.1 hL m m' hm hm' h1⟩

/-- Every step's word is before the one that is in hand. -/
theorem Bfs.front (h : Bfs I L nx G ss ws i k) (hL : L.Pairwise (· < ·)) (hi : i < ws.length) (hk : k < L.length) {j : Nat} (hj : j < ws.length) : rlt ws[j] (L[k] :: ws[i]) := by
  by_cases e : j = 0
  · subst e
    rw [h.zero hj]
    exact rlt_nil _ _
  · obtain ⟨p, q, hpj, hb, _, hp, hq, _, hw⟩ := h.link j (by rw [← h.len]; exact hj) hj (by omega)
    rw [hw]
    exact h.pairs hL hp hq hi hk hb

/-- The search has found a goal: its word is the first one. -/
theorem Bfs.found (h : Bfs I L nx G ss ws i k) (hL : L.Pairwise (· < ·)) (hi : i < ss.length) (hi' : i < ws.length) (hk : k < L.length) {n n' : Nat} (hn : n ∈ ss[i].nodes) (hn' : n' ∈ nx n L[k]) (hg : G n') : FirstW I L nx G (L[k] :: ws[i]) := by
  refine ⟨⟨n', ⟨List.getElem_mem _, n, h.reach i hi hi' n hn, hn'⟩, hg⟩, fun q m hm hgm => ?_⟩
  rcases h.cover q m hm with ⟨j, g, g', hj, _⟩ | ⟨j, m', g, g', hm', hny, hr⟩
  · exact absurd hgm (h.noGoal j g m hj)
  · refine rle_trans ?_ hr
    by_cases e : i = j ∧ k = m'
    · obtain ⟨rfl, rfl⟩ := e
      exact rle_refl _
    · refine .inl (h.pairs hL hi' hk g' hm' ?_)
      unfold before at *
      omega

/-- The search has come to its end without a goal: no word leads to one. -/
theorem Bfs.none (h : Bfs I L nx G ss ws ss.length 0) : ∀ q n, RW I L nx q n → ¬ G n := by
  intro q n hn
  rcases h.cover q n hn with ⟨j, g, g', hj, _⟩ | ⟨j, m, g, g', hm, hny, _⟩
  · exact h.noGoal j g n hj
  · exact absurd (.inl g) hny

/-- On to the next step. -/
theorem Bfs.over (h : Bfs I L nx G ss ws i k) (hk : L.length ≤ k) : Bfs I L nx G ss ws (i + 1) 0 :=
  { len := h.len, zero := h.zero, pos := h.pos, root := h.root, reach := h.reach, incr := h.incr, start := h.start, noGoal := h.noGoal
    link := fun j hj hj' h0 => by
      obtain ⟨p, q, hpj, hb, h1, hp, hq, h2, hw⟩ := h.link j hj hj' h0
      exact ⟨p, q, hpj, by unfold before at *; omega, h1, hp, hq, h2, hw⟩
    done := fun j hj hj' m hm hb => h.done j hj hj' m hm (by unfold before at *; omega) }

/-- A letter that leads to nothing new. -/
theorem Bfs.stale (h : Bfs I L nx G ss ws i k) (hL : L.Pairwise (· < ·)) (hi : i < ss.length) (hk : k < L.length)
    (hold : ∀ n ∈ ss[i].nodes, ∀ n' ∈ nx n L[k], ∃ j', ∃ (_ : j' < ss.length), n' ∈ ss[j'].nodes) : Bfs I L nx G ss ws i (k + 1) :=
  { len := h.len, zero := h.zero, pos := h.pos, root := h.root, reach := h.reach, incr := h.incr, start := h.start, noGoal := h.noGoal
    link := fun j hj hj' h0 => by
      obtain ⟨p, q, hpj, hb, h1, hp, hq, h2, hw⟩ := h.link j hj hj' h0
      exact ⟨p, q, hpj, by unfold before at *; omega, h1, hp, hq, h2, hw⟩
    done := fun j hj hj' m hm hb n hn n' hn' => by
      by_cases e : before i k j m
      · exact h.done j hj hj' m hm e n hn n' hn'
      · obtain ⟨rfl, rfl⟩ : j = i ∧ m = k := by unfold before at *; omega
        obtain ⟨j', g, hj'n⟩ := hold n hn n' hn'
        have g' : j' < ws.length := by rw [h.len]; exact g
        exact ⟨j', g, g', hj'n, .inl (h.front hL hj' hm g')⟩ }

/-- A letter that leads to something new. -/
theorem Bfs.fresh (h : Bfs I L nx G ss ws i k) (hL : L.Pairwise (· < ·)) (hi : i < ss.length) (hi' : i < ws.length) (hk : k < L.length) {fr : List Nat}
    (hfr : ∀ n' ∈ fr, ∃ n ∈ ss[i].nodes, n' ∈ nx n L[k]) (hall : ∀ n ∈ ss[i].nodes, ∀ n' ∈ nx n L[k], n' ∈ fr ∨ ∃ j', ∃ (_ : j' < ss.length), n' ∈ ss[j'].nodes) (hng : ∀ n' ∈ fr, ¬ G n') :
    Bfs I L nx G (ss ++ [⟨i, L[k], fr⟩]) (ws ++ [L[k] :: ws[i]]) i (k + 1) := by
  have hlen := h.len
  have hold : ∀ j (hj : j < ss.length), (ss ++ [(⟨i, L[k], fr⟩ : Stp)])[j]'(by simp; omega) = ss[j] := fun j hj => List.getElem_append_left hj
  have hnew : (ss ++ [(⟨i, L[k], fr⟩ : Stp)])[ss.length]'(by simp) = ⟨i, L[k], fr⟩ := by simp
  have wold : ∀ j (hj : j < ws.length), (ws ++ [L[k] :: ws[i]])[j]'(by simp; omega) = ws[j] := fun j hj => List.getElem_append_left hj
  have wnew : (ws ++ [L[k] :: ws[i]])[ws.length]'(by simp) = L[k] :: ws[i] := by simp
  refine ⟨by simp [hlen], fun h0 => ?_, by simp, fun h0 => ?_, ?_, ?_, ?_, ?_, ?_, ?_⟩
  · have h0' : 0 < ws.length := by rw [hlen]; exact h.pos
    rw [wold 0 h0']; exact h.zero h0'
  · rw [hold 0 h.pos]; exact h.root h.pos
  · intro j hj hj' h0
    by_cases e : j < ss.length
    · have e' : j < ws.length := by omega
      obtain ⟨p, q, hpj, hb, h1, hp, hq, h2, hw⟩ := h.link j e e' h0
      refine ⟨p, q, hpj, by unfold before at *; omega, by rw [hold j e]; exact h1, by simp; omega, hq, by rw [hold j e]; exact h2, ?_⟩
      rw [wold j e', wold p hp]
      exact hw
    · obtain rfl : j = ss.length := by simp at hj; omega
      refine ⟨i, k, hi, .inr ⟨rfl, by omega⟩, by rw [hnew], by simp; omega, hk, by rw [hnew], ?_⟩
      have : (ws ++ [L[k] :: ws[i]])[ss.length] = L[k] :: ws[i] := by simp only [← hlen]; exact wnew
      rw [this, wold i hi']
  · intro j hj hj' n hn
    by_cases e : j < ss.length
    · rw [hold j e] at hn
      rw [wold j (by omega)]
      exact h.reach j e (by omega) n hn
    · obtain rfl : j = ss.length := by simp at hj; omega
      rw [hnew] at hn
      have : (ws ++ [L[k] :: ws[i]])[ss.length] = L[k] :: ws[i] := by simp only [← hlen]; exact wnew
      rw [this]
      obtain ⟨m, hm, hn'⟩ := hfr n hn
      exact ⟨List.getElem_mem _, m, h.reach i hi hi' m hm, hn'⟩
  · intro j j' hj hj' hlt
    by_cases e : j' < ws.length
    · rw [wold j (by omega), wold j' e]
      exact h.incr j j' (by omega) e hlt
    · obtain rfl : j' = ws.length := by simp at hj'; omega
      rw [wnew, wold j hlt]
      exact h.front hL hi' hk hlt
  · intro j hj hj' m hm hb n hn n' hn'
    by_cases e : before i k j m
    · have hjs : j < ss.length := by unfold before at e; omega
      rw [hold j hjs] at hn
      obtain ⟨j2, g, g', h1, h2⟩ := h.done j hjs (by omega) m hm e n hn n' hn'
      refine ⟨j2, by simp; omega, by simp; omega, by rw [hold j2 g]; exact h1, ?_⟩
      rw [wold j2 g', wold j (by omega)]
      exact h2
    · obtain ⟨rfl, rfl⟩ : j = i ∧ m = k := by unfold before at *; omega
      rw [hold j hi] at hn
      rw [wold j hi']
      rcases hall n hn n' hn' with h1 | ⟨j2, g, h1⟩
      · refine ⟨ss.length, by simp, by simp; omega, by rw [hnew]; exact h1, ?_⟩
        have : (ws ++ [L[m] :: ws[j]])[ss.length]'(by simp; omega) = L[m] :: ws[j] := by simp only [← hlen]; exact wnew
        rw [this]
        exact rle_refl _
      · have g' : j2 < ws.length := by omega
        refine ⟨j2, by simp; omega, by simp; omega, by rw [hold j2 g]; exact h1, ?_⟩
        rw [wold j2 g']
        exact .inl (h.front hL hi' hm g')
  · intro h0 n hn
    rw [hold 0 h.pos]
    exact h.start h.pos n hn
  · intro j hj n hn
    by_cases e : j < ss.length
    · rw [hold j e] at hn
      exact h.noGoal j e n hn
    · obtain rfl : j = ss.length := by simp at hj; omega
      rw [hnew] at hn
      exact hng n hn

/-- The beginning. -/
theorem Bfs.begin {fr : List Nat} (hfr : ∀ n, n ∈ fr ↔ I n) (hng : ∀ n ∈ fr, ¬ G n) : Bfs I L nx G [⟨-1, 0, fr⟩] [[]] 0 0 := by
  refine ⟨rfl, fun _ => rfl, by simp, fun _ => rfl, ?_, ?_, ?_, ?_, ?_, ?_⟩
  · intro j hj _ h0; simp at hj; omega
  · intro j hj hj' n hn
    obtain rfl : j = 0 := by simp at hj; omega
    exact (hfr n).1 hn
  · intro j j' _ hj' h; simp at hj'; omega
  · intro j hj _ m _ hb; unfold before at hb; simp at hj; omega
  · intro _ n hn; exact (hfr n).2 hn
  · intro j hj n hn
    obtain rfl : j = 0 := by simp at hj; omega
    exact hng n hn
end

end AG

/- Plain: the nodes of a list that have not been seen. -/
namespace AG

theorem snocInd {P : List Nat → Prop} (h0 : P []) (h1 : ∀ l n, P l → P (l ++ [n])) (l : List Nat) : P l := by
  have key : ∀ r : List Nat, P r.reverse := by
    intro r
    induction r with
    | nil => exact h0
    | cons n r ih => rw [List.reverse_cons]; exact h1 _ _ ih
  have := key l.reverse
  rwa [List.reverse_reverse] at this

def frsStep (S : Nat → Bool) (fr : List Nat) (n : Nat) : List Nat := if (S n || fr.contains n) = true then fr else fr ++ [n]
/-- The nodes of ns that S has not, each once, in order. -/
def frs (S : Nat → Bool) (ns : List Nat) : List Nat := ns.foldl (frsStep S) []
theorem frs_nil (S : Nat → Bool) : frs S [] = [] := rfl
theorem frs_snoc (S : Nat → Bool) (ns : List Nat) (n : Nat) : frs S (ns ++ [n]) = frsStep S (frs S ns) n := by unfold frs; rw [List.foldl_append]; rfl
theorem frs_take (S : Nat → Bool) (ns : List Nat) {k : Nat} (h : k < ns.length) : frs S (ns.take (k + 1)) = frsStep S (frs S (ns.take k)) ns[k] := by
  rw [List.take_succ_eq_append_getElem h, frs_snoc]
theorem frs_mem (S : Nat → Bool) : ∀ (ns : List Nat) (x : Nat), x ∈ frs S ns ↔ x ∈ ns ∧ S x = false := by
  intro ns
  refine snocInd (P := fun ns => ∀ x, x ∈ frs S ns ↔ x ∈ ns ∧ S x = false) ?_ ?_ ns
  · intro x; simp [frs_nil]
  · intro ns n ih x
    rw [frs_snoc]
    unfold frsStep
    by_cases h : (S n || (frs S ns).contains n) = true
    · rw [if_pos h, ih, List.mem_append, List.mem_singleton]
      constructor
      · rintro ⟨a, b⟩; exact ⟨.inl a, b⟩
      · rintro ⟨a | rfl, b⟩
        · exact ⟨a, b⟩
        · simp only [Bool.or_eq_true, b, Bool.false_eq_true, false_or, List.contains_iff_mem] at h
          exact (ih x).1 h
    · rw [if_neg h, List.mem_append, List.mem_singleton, ih, List.mem_append, List.mem_singleton]
      simp only [Bool.or_eq_true, not_or, Bool.not_eq_true] at h
      constructor
      · rintro (⟨a, b⟩ | rfl)
        · exact ⟨.inl a, b⟩
        · exact ⟨.inr rfl, h.1⟩
      · rintro ⟨a | rfl, b⟩
        · exact .inl ⟨a, b⟩
        · exact .inr rfl
theorem frs_len (S : Nat → Bool) (ns : List Nat) : (frs S ns).length ≤ ns.length := by
  refine snocInd (P := fun ns => (frs S ns).length ≤ ns.length) ?_ ?_ ns
  · simp [frs_nil]
  · intro ns n ih
    rw [frs_snoc]
    unfold frsStep
    split
    · simp; omega
    · simp; exact ih
theorem frs_nodup (S : Nat → Bool) (ns : List Nat) : (frs S ns).Nodup := by
  refine snocInd (P := fun ns => (frs S ns).Nodup) ?_ ?_ ns
  · simp [frs_nil]
  · intro ns n ih
    rw [frs_snoc]
    unfold frsStep
    split
    · exact ih
    · rename_i h
      rw [List.nodup_append]
      refine ⟨ih, by simp, fun a ha b hb e => h ?_⟩
      rw [List.mem_singleton] at hb
      subst hb e
      simp [ha]
end AG

/- Plain: what is reached from a start by letters, numbered in the order in which it is met. -/
namespace AG

/-- x at the end of a list that does not have it. -/
def addN (ns : List Nat) (x : Nat) : List Nat := if x ∈ ns then ns else ns ++ [x]
def rowN (nx : Nat → Nat → Nat) (a : Nat) (ns L : List Nat) : List Nat := L.foldl (fun ns l => addN ns (nx a l)) ns
/-- The nodes that are known when i of them have been gone through. -/
def nsAt (nx : Nat → Nat → Nat) (L : List Nat) (n0 : Nat) : Nat → List Nat
  | 0 => [n0]
  | i + 1 => match (nsAt nx L n0 i)[i]? with
    | some a => rowN nx a (nsAt nx L n0 i) L
    | none => nsAt nx L n0 i
def rowOf (nx : Nat → Nat → Nat) (L N : List Nat) (a : Nat) : List Nat := L.map fun l => N.idxOf (nx a l)
/-- The nodes and their rows, if there are at most 'lim' nodes. -/
def numRes (nx : Nat → Nat → Nat) (L : List Nat) (n0 lim : Nat) : Option (List Nat × List (List Nat)) :=
  if (nsAt nx L n0 lim).length ≤ lim then some (nsAt nx L n0 lim, (nsAt nx L n0 lim).map (rowOf nx L (nsAt nx L n0 lim))) else none

theorem addN_pre (ns : List Nat) (x : Nat) : ∃ m, addN ns x = ns ++ m := by
  unfold addN
  split
  · exact ⟨[], by simp⟩
  · exact ⟨[x], rfl⟩
theorem addN_mem (ns : List Nat) (x : Nat) : x ∈ addN ns x := by
  unfold addN
  split
  · assumption
  · simp
theorem rowN_snoc (nx : Nat → Nat → Nat) (a : Nat) (ns L : List Nat) (l : Nat) : rowN nx a ns (L ++ [l]) = addN (rowN nx a ns L) (nx a l) := by
  unfold rowN
  rw [List.foldl_append]
  rfl
theorem rowN_pre (nx : Nat → Nat → Nat) (a : Nat) : ∀ (L ns : List Nat), ∃ m, rowN nx a ns L = ns ++ m
  | [], ns => ⟨[], by simp [rowN]⟩
  | l :: L, ns => by
    obtain ⟨m1, h1⟩ := addN_pre ns (nx a l)
    obtain ⟨m2, h2⟩ := rowN_pre nx a L (addN ns (nx a l))
    refine ⟨m1 ++ m2, ?_⟩
    show rowN nx a (addN ns (nx a l)) L = _
    rw [h2, h1, List.append_assoc]
theorem rowN_append (nx : Nat → Nat → Nat) (a : Nat) (ns L M : List Nat) : rowN nx a ns (L ++ M) = rowN nx a (rowN nx a ns L) M := by
  unfold rowN
  rw [List.foldl_append]
theorem rowN_take {nx : Nat → Nat → Nat} {a : Nat} {ns L : List Nat} {k : Nat} (hk : k < L.length) : rowN nx a ns (L.take (k + 1)) = addN (rowN nx a ns (L.take k)) (nx a L[k]) := by
  rw [List.take_succ_eq_append_getElem hk, rowN_snoc]
theorem rowN_rest (nx : Nat → Nat → Nat) (a : Nat) (ns L : List Nat) (k : Nat) : ∃ m, rowN nx a ns L = rowN nx a ns (L.take k) ++ m := by
  have : L = L.take k ++ L.drop k := (List.take_append_drop k L).symm
  rw [this, rowN_append]
  obtain ⟨m, h⟩ := rowN_pre nx a (L.drop k) (rowN nx a ns (L.take k))
  refine ⟨m, ?_⟩
  rw [h]
  congr 1
  rw [List.take_append_drop]

theorem nsAt_zero (nx : Nat → Nat → Nat) (L : List Nat) (n0 : Nat) : nsAt nx L n0 0 = [n0] := rfl
theorem nsAt_succ {nx : Nat → Nat → Nat} {L : List Nat} {n0 i : Nat} (h : i < (nsAt nx L n0 i).length) : nsAt nx L n0 (i + 1) = rowN nx (nsAt nx L n0 i)[i] (nsAt nx L n0 i) L := by
  rw [nsAt, List.getElem?_eq_getElem h]
theorem nsAt_stop {nx : Nat → Nat → Nat} {L : List Nat} {n0 i : Nat} (h : (nsAt nx L n0 i).length ≤ i) : ∀ j, nsAt nx L n0 (i + j) = nsAt nx L n0 i
  | 0 => rfl
  | j + 1 => by
    have ih := nsAt_stop h j
    show nsAt nx L n0 (i + j + 1) = _
    rw [nsAt, List.getElem?_eq_none (by rw [ih]; omega), ih]
theorem nsAt_pre (nx : Nat → Nat → Nat) (L : List Nat) (n0 i : Nat) : ∀ j, ∃ m, nsAt nx L n0 (i + j) = nsAt nx L n0 i ++ m
  | 0 => ⟨[], by simp⟩
  | j + 1 => by
    obtain ⟨m, h⟩ := nsAt_pre nx L n0 i j
    by_cases hl : i + j < (nsAt nx L n0 (i + j)).length
    · obtain ⟨m2, h2⟩ := rowN_pre nx (nsAt nx L n0 (i + j))[i + j] L (nsAt nx L n0 (i + j))
      refine ⟨m ++ m2, ?_⟩
      show nsAt nx L n0 (i + j + 1) = _
      rw [nsAt_succ hl, h2, ← List.append_assoc, ← h]
    · refine ⟨m, ?_⟩
      have := nsAt_stop (nx := nx) (L := L) (n0 := n0) (i := i + j) (by omega) 1
      show nsAt nx L n0 (i + j + 1) = _
      rw [this, h]
theorem idxOf_pre {ns m : List Nat} {x : Nat} (h : x ∈ ns) : (ns ++ m).idxOf x = ns.idxOf x := by
  rw [List.idxOf_append, if_pos h]

/-- The state of the numbering: node i is gone through, k of its letters are done. -/
structure NumSt (nx : Nat → Nat → Nat) (L : List Nat) (n0 i k : Nat) (ns row : List Nat) (a : Nat) : Prop where
  hi : i < (nsAt nx L n0 i).length
  ha : (nsAt nx L n0 i)[i]? = some a
  hk : k ≤ L.length
  hns : ns = rowN nx a (nsAt nx L n0 i) (L.take k)
  hrow : row = (L.take k).map fun l => ns.idxOf (nx a l)
theorem NumSt.start {nx : Nat → Nat → Nat} {L : List Nat} {n0 i a : Nat} (hi : i < (nsAt nx L n0 i).length) (ha : (nsAt nx L n0 i)[i]? = some a) : NumSt nx L n0 i 0 (nsAt nx L n0 i) [] a :=
  ⟨hi, ha, by omega, by simp [rowN], by simp⟩
theorem NumSt.mem {nx : Nat → Nat → Nat} {L : List Nat} {n0 i k a : Nat} {ns row : List Nat} (h : NumSt nx L n0 i k ns row a) {l : Nat} (hl : l ∈ L.take k) : nx a l ∈ ns := by
  rw [h.hns]
  refine snocInd (P := fun M => l ∈ M → nx a l ∈ rowN nx a (nsAt nx L n0 i) M) (fun h => by cases h) (fun M x ih hl => ?_) _ hl
  rw [rowN_snoc]
  rcases List.mem_append.1 hl with hl | hl
  · obtain ⟨m, e⟩ := addN_pre (rowN nx a (nsAt nx L n0 i) M) (nx a x)
    rw [e]
    exact List.mem_append_left _ (ih hl)
  · rw [List.mem_singleton.1 hl]
    exact addN_mem _ _
theorem NumSt.next {nx : Nat → Nat → Nat} {L : List Nat} {n0 i k a : Nat} {ns row : List Nat} (h : NumSt nx L n0 i k ns row a) (hk : k < L.length) :
    NumSt nx L n0 i (k + 1) (addN ns (nx a L[k])) (row ++ [(addN ns (nx a L[k])).idxOf (nx a L[k])]) a := by
  obtain ⟨m, e⟩ := addN_pre ns (nx a L[k])
  refine ⟨h.hi, h.ha, by omega, by rw [rowN_take hk, ← h.hns], ?_⟩
  rw [List.take_succ_eq_append_getElem hk, List.map_append, h.hrow]
  congr 1
  refine List.map_congr_left fun l hl => ?_
  rw [e, idxOf_pre (h.mem hl)]
theorem NumSt.done {nx : Nat → Nat → Nat} {L : List Nat} {n0 i a : Nat} {ns row : List Nat} (h : NumSt nx L n0 i L.length ns row a) : ns = nsAt nx L n0 (i + 1) ∧ row = rowOf nx L (nsAt nx L n0 (i + 1)) a := by
  have e : (nsAt nx L n0 i)[i]'h.hi = a := by have := h.ha; rw [List.getElem?_eq_getElem h.hi] at this; injection this
  have h1 : ns = nsAt nx L n0 (i + 1) := by rw [h.hns, List.take_length, nsAt_succ h.hi, e]
  refine ⟨h1, ?_⟩
  rw [h.hrow, List.take_length, h1]
  rfl
/-- A further node where there are already as many as may be: no result. -/
theorem NumSt.full {nx : Nat → Nat → Nat} {L : List Nat} {n0 i k a lim : Nat} {ns row : List Nat} (h : NumSt nx L n0 i k ns row a) (hk : k < L.length) (hx : nx a L[k] ∉ ns) (hl : lim ≤ ns.length) (hi : i < lim) : numRes nx L n0 lim = none := by
  have e : (nsAt nx L n0 i)[i]'h.hi = a := by have := h.ha; rw [List.getElem?_eq_getElem h.hi] at this; injection this
  obtain ⟨m, hm⟩ := rowN_rest nx a (nsAt nx L n0 i) L (k + 1)
  have h1 : nsAt nx L n0 (i + 1) = addN ns (nx a L[k]) ++ m := by rw [nsAt_succ h.hi, e, hm, rowN_take hk, ← h.hns]
  obtain ⟨m2, hm2⟩ := nsAt_pre nx L n0 (i + 1) (lim - (i + 1))
  rw [show i + 1 + (lim - (i + 1)) = lim from by omega, h1] at hm2
  unfold numRes
  rw [if_neg]
  rw [hm2]
  unfold addN
  rw [if_neg hx]
  simp
  omega
/-- All nodes are gone through. -/
theorem numRes_done {nx : Nat → Nat → Nat} {L : List Nat} {n0 i lim : Nat} (hi : (nsAt nx L n0 i).length = i) (hl : i ≤ lim) : numRes nx L n0 lim = some (nsAt nx L n0 i, (nsAt nx L n0 i).map (rowOf nx L (nsAt nx L n0 i))) := by
  have e : nsAt nx L n0 lim = nsAt nx L n0 i := by
    have := nsAt_stop (nx := nx) (L := L) (n0 := n0) (i := i) (by omega) (lim - i)
    rwa [show i + (lim - i) = lim from by omega] at this
  unfold numRes
  rw [e, if_pos (by omega)]
/-- Every node's row has been made with fewer nodes: its numbers are the same. -/
theorem rowOf_more {nx : Nat → Nat → Nat} {L ns m : List Nat} {a : Nat} (h : ∀ l ∈ L, nx a l ∈ ns) : rowOf nx L (ns ++ m) a = rowOf nx L ns a := by
  unfold rowOf
  exact List.map_congr_left fun l hl => idxOf_pre (h l hl)
theorem nsAt_closed {nx : Nat → Nat → Nat} {L : List Nat} {n0 i : Nat} (h : i < (nsAt nx L n0 i).length) {l : Nat} (hl : l ∈ L) : nx (nsAt nx L n0 i)[i] l ∈ nsAt nx L n0 (i + 1) := by
  have hs := NumSt.start h (List.getElem?_eq_getElem h)
  have : NumSt nx L n0 i L.length (rowN nx (nsAt nx L n0 i)[i] (nsAt nx L n0 i) L) (L.map fun l => (rowN nx (nsAt nx L n0 i)[i] (nsAt nx L n0 i) L).idxOf (nx (nsAt nx L n0 i)[i] l)) (nsAt nx L n0 i)[i] :=
    ⟨h, List.getElem?_eq_getElem h, Nat.le_refl _, by rw [List.take_length], by rw [List.take_length]⟩
  have h2 := this.mem (l := l) (by rw [List.take_length]; exact hl)
  rw [nsAt_succ h]
  exact h2
/-- The rows that have been made for the first i nodes. -/
def rowsTo (nx : Nat → Nat → Nat) (L : List Nat) (n0 : Nat) : Nat → List (List Nat)
  | 0 => []
  | i + 1 => rowsTo nx L n0 i ++ [rowOf nx L (nsAt nx L n0 (i + 1)) ((nsAt nx L n0 i).getD i 0)]
theorem rowsTo_len (nx : Nat → Nat → Nat) (L : List Nat) (n0 : Nat) : ∀ i, (rowsTo nx L n0 i).length = i
  | 0 => rfl
  | i + 1 => by rw [rowsTo, List.length_append, rowsTo_len nx L n0 i]; rfl
theorem rowsTo_all {nx : Nat → Nat → Nat} {L : List Nat} {n0 : Nat} : ∀ i, (∀ j, j < i → j < (nsAt nx L n0 j).length) → rowsTo nx L n0 i = ((nsAt nx L n0 i).take i).map (rowOf nx L (nsAt nx L n0 i))
  | 0, _ => by simp [rowsTo]
  | i + 1, h => by
    have ih := rowsTo_all i fun j hj => h j (by omega)
    have hi := h i (by omega)
    obtain ⟨m, hm⟩ := nsAt_pre nx L n0 i 1
    have ht : (nsAt nx L n0 (i + 1)).take (i + 1) = (nsAt nx L n0 i).take i ++ [(nsAt nx L n0 i)[i]] := by
      rw [hm, List.take_append_of_le_length (by omega), List.take_succ_eq_append_getElem hi]
    have hg : (nsAt nx L n0 i).getD i 0 = (nsAt nx L n0 i)[i] := by rw [List.getD_eq_getElem?_getD, List.getElem?_eq_getElem hi]; rfl
    rw [rowsTo, ih, ht, List.map_append, hg]
    congr 1
    refine List.map_congr_left fun a ha => ?_
    obtain ⟨j, hj, rfl⟩ := List.getElem_of_mem ha
    have hj' : j < i := by rw [List.length_take] at hj; omega
    have hjl := h j (by omega)
    have e1 : ((nsAt nx L n0 i).take i)[j] = (nsAt nx L n0 j)[j] := by
      rw [List.getElem_take]
      obtain ⟨m2, hm2⟩ := nsAt_pre nx L n0 j (i - j)
      have e2 : nsAt nx L n0 i = nsAt nx L n0 j ++ m2 := by rw [← hm2, show j + (i - j) = i from by omega]
      simp only [e2]
      rw [List.getElem_append_left hjl]
    rw [hm, rowOf_more]
    intro l hl
    rw [e1]
    have := nsAt_closed hjl hl
    obtain ⟨m3, hm3⟩ := nsAt_pre nx L n0 (j + 1) (i - (j + 1))
    rw [show j + 1 + (i - (j + 1)) = i from by omega] at hm3
    rw [hm3]
    exact List.mem_append_left _ this

end AG

/- Plain definitions and lemmas: sets of small numbers as integers, edges, systems. No program is named here. -/
namespace AG

/-- Number n is in the set a (bits of an integer, also of a negative one). -/
def Has (a : Int) (n : Nat) : Bool := decide ((a / (2 : Int) ^ n) % 2 = 1)

def alphaOk (a : Int) : Bool := decide (0 ≤ a ∧ a ≤ 63)

structure Ed where
  f : Int
  l : Int
  t : Int
  deriving DecidableEq

structure Sy where
  al : Int
  st : Int
  es : List Ed
  deriving DecidableEq

def edgeLt (a b : Ed) : Bool := if a.f ≠ b.f then decide (a.f < b.f) else if a.l ≠ b.l then decide (a.l < b.l) else decide (a.t < b.t)

def edgeOk (al st : Int) (e : Ed) : Bool := decide (0 ≤ e.f ∧ e.f < st ∧ 0 ≤ e.t ∧ e.t < st ∧ 0 ≤ e.l ∧ e.l < 6) && Has al e.l.toNat

def edgesOkTo (al st : Int) (es : List Ed) (k : Nat) : Prop := ∀ i (h : i < es.length), i < k → edgeOk al st es[i] = true ∧ (∀ j (h' : j < es.length), j + 1 = i → edgeLt es[j] es[i] = true)

instance (al st : Int) (es : List Ed) (k : Nat) : Decidable (edgesOkTo al st es k) := by unfold edgesOkTo; infer_instance

def sysOk (s : Sy) : Bool := decide (alphaOk s.al = true ∧ 1 ≤ s.st ∧ s.st ≤ 16 ∧ edgesOkTo s.al s.st s.es s.es.length)

/-- The program's has: a negative number is in no set. -/
def HasZ (a n : Int) : Bool := decide (0 ≤ n) && Has a n.toNat

end AG

/- Plain: sets of states as numbers; the states that letters of an alphabet lead to; deterministic systems. -/
namespace AG

/-- The set of the numbers below n of which p holds, as a number. -/
noncomputable def bitsOf (p : Nat → Prop) : Nat → Nat
  | 0 => 0
  | n + 1 => open Classical in if p n then bitsOf p n ||| 2 ^ n else bitsOf p n

theorem bitsOf_testBit (p : Nat → Prop) (n q : Nat) : (bitsOf p n).testBit q = true ↔ q < n ∧ p q := by
  induction n with
  | zero => simp [bitsOf]
  | succ n ih =>
    unfold bitsOf
    split
    · rename_i h
      rw [Nat.testBit_or, Nat.testBit_two_pow, Bool.or_eq_true, ih, decide_eq_true_eq]
      constructor
      · rintro (⟨h1, h2⟩ | rfl)
        · exact ⟨by omega, h2⟩
        · exact ⟨by omega, h⟩
      · rintro ⟨h1, h2⟩
        by_cases e : n = q
        · exact .inr e
        · exact .inl ⟨by omega, h2⟩
    · rename_i h
      rw [ih]
      constructor
      · rintro ⟨h1, h2⟩; exact ⟨by omega, h2⟩
      · rintro ⟨h1, h2⟩
        by_cases e : q = n
        · subst e; exact absurd h2 h
        · exact ⟨by omega, h2⟩

theorem bitsOf_lt (p : Nat → Prop) (n : Nat) : bitsOf p n < 2 ^ n := by
  refine Nat.lt_pow_two_of_testBit _ fun i hi => ?_
  rw [← Bool.not_eq_true]
  intro h
  have := ((bitsOf_testBit p n i).1 h).1
  omega

theorem testBit_lt {S n q : Nat} (h : S < 2 ^ n) (hq : S.testBit q = true) : q < n := by
  rcases Nat.lt_or_ge q n with h1 | h1
  · exact h1
  · rw [Nat.testBit_lt_two_pow (Nat.lt_of_lt_of_le h (Nat.pow_le_pow_right (by omega) h1))] at hq
    cases hq

/-- The states to which a letter leads from a set of states. -/
noncomputable def stepSet (s : Sy) (S : Nat) (l : Int) : Nat := bitsOf (fun t => ∃ e ∈ s.es, e.l = l ∧ S.testBit e.f.toNat = true ∧ e.t.toNat = t) 16

/-- q is reached from S along edges whose letters are in the alphabet A. -/
def Rch (s : Sy) (A : Int) (S : Nat) (q : Nat) : Prop :=
  ∀ R : Nat → Prop, (∀ x, S.testBit x = true → R x) → (∀ e ∈ s.es, Has A e.l.toNat = true → R e.f.toNat → R e.t.toNat) → R q

noncomputable def reachSet (s : Sy) (A : Int) (S : Nat) : Nat := bitsOf (Rch s A S) 16

/-- The edges' numbers are in their ranges. -/
def edgesIn (s : Sy) : Prop := ∀ e ∈ s.es, 0 ≤ e.f ∧ e.f < 16 ∧ 0 ≤ e.t ∧ e.t < 16 ∧ 0 ≤ e.l ∧ e.l < 6 ∧ Has s.al e.l.toNat = true ∧ e.f < s.st ∧ e.t < s.st

/-- A set that holds S, is closed, and lies in every such set is the set reached. -/
theorem reach_unique {s : Sy} {A : Int} {S R : Nat} (hR : R < 2 ^ 16) (h0 : ∀ x, S.testBit x = true → R.testBit x = true)
    (h1 : ∀ e ∈ s.es, Has A e.l.toNat = true → R.testBit e.f.toNat = true → R.testBit e.t.toNat = true) (h2 : ∀ x, R.testBit x = true → Rch s A S x) : R = reachSet s A S := by
  refine Nat.eq_of_testBit_eq fun q => ?_
  rw [Bool.eq_iff_iff, reachSet, bitsOf_testBit]
  exact ⟨fun h => ⟨testBit_lt hR h, h2 q h⟩, fun h => h.2 _ h0 h1⟩

theorem Rch.start {s : Sy} {A : Int} {S q : Nat} (h : S.testBit q = true) : Rch s A S q := fun _ h0 _ => h0 q h
theorem Rch.step {s : Sy} {A : Int} {S : Nat} {e : Ed} (he : e ∈ s.es) (hA : Has A e.l.toNat = true) (h : Rch s A S e.f.toNat) : Rch s A S e.t.toNat :=
  fun R h0 h1 => h1 e he hA (h R h0 h1)

theorem or_pow_lt {S n t : Nat} (h : S < 2 ^ n) (ht : t < n) : S ||| 2 ^ t < 2 ^ n := Nat.or_lt_two_pow h (Nat.pow_lt_pow_right (by omega) ht)
theorem testBit_or_pow (S t q : Nat) : (S ||| 2 ^ t).testBit q = true ↔ S.testBit q = true ∨ t = q := by
  rw [Nat.testBit_or, Nat.testBit_two_pow, Bool.or_eq_true, decide_eq_true_eq]

/-- The states to which the first k edges lead from q with the letter l. -/
noncomputable def mvTo (s : Sy) (k q l : Nat) : Nat := bitsOf (fun t => ∃ i, ∃ (h : i < s.es.length), i < k ∧ s.es[i].f.toNat = q ∧ s.es[i].l.toNat = l ∧ s.es[i].t.toNat = t) 16
noncomputable def mv (s : Sy) (q l : Nat) : Nat := mvTo s s.es.length q l
/-- The union of the sets that a table has at the members of S. -/
noncomputable def unionOf (m : Nat → Nat → Nat) (S l : Nat) : Nat := bitsOf (fun t => ∃ q, S.testBit q = true ∧ (m q l).testBit t = true) 16
/-- Half way through the members of S: T is left, O gathered. -/
structure Gather (m : Nat → Nat → Nat) (S l T O : Nat) : Prop where
  lt : T < 65536
  olt : O < 65536
  eq : ∀ t, (unionOf m S l).testBit t = true ↔ O.testBit t = true ∨ ∃ q, T.testBit q = true ∧ (m q l).testBit t = true
theorem Gather.start {m : Nat → Nat → Nat} {S l : Nat} (hm : ∀ q, m q l < 65536) (h : S < 65536) : Gather m S l S 0 :=
  ⟨h, by omega, fun t => by
    rw [unionOf, bitsOf_testBit, Nat.zero_testBit]
    constructor
    · rintro ⟨_, h⟩; exact .inr h
    · rintro (h | ⟨q, hq, ht⟩)
      · cases h
      · exact ⟨testBit_lt (n := 16) (hm q) ht, q, hq, ht⟩⟩
theorem Gather.next {m : Nat → Nat → Nat} {S l T O q : Nat} (h : Gather m S l T O) (hm : m q l < 65536) (hq : T.testBit q = true) {T' : Nat} (hT : ∀ j, T'.testBit j = (T.testBit j && decide (j ≠ q))) : Gather m S l T' (O ||| m q l) := by
  refine ⟨?_, Nat.or_lt_two_pow (n := 16) h.olt hm, fun t => ?_⟩
  · refine Nat.lt_pow_two_of_testBit (n := 16) _ fun i hi => ?_
    rw [hT, Nat.testBit_lt_two_pow (Nat.lt_of_lt_of_le h.lt (Nat.pow_le_pow_right (n := 2) (by omega) hi))]
    rfl
  · rw [h.eq, Nat.testBit_or, Bool.or_eq_true]
    constructor
    · rintro (h1 | ⟨r, hr, ht⟩)
      · exact .inl (.inl h1)
      · by_cases e : r = q
        · subst e; exact .inl (.inr ht)
        · exact .inr ⟨r, by rw [hT, hr]; simpa using e, ht⟩
    · rintro ((h1 | h1) | ⟨r, hr, ht⟩)
      · exact .inl h1
      · exact .inr ⟨q, hq, h1⟩
      · rw [hT, Bool.and_eq_true] at hr
        exact .inr ⟨r, hr.1, ht⟩
theorem Gather.done {m : Nat → Nat → Nat} {S l O : Nat} (h : Gather m S l 0 O) : O = unionOf m S l := by
  refine Nat.eq_of_testBit_eq fun t => ?_
  rw [Bool.eq_iff_iff, h.eq]
  simp [Nat.zero_testBit]

theorem lt_or_pow {T t : Nat} (h : T.testBit t = false) : T < T ||| 2 ^ t := by
  have h1 : T ≤ T ||| 2 ^ t := Nat.left_le_or
  rcases Nat.lt_or_ge T (T ||| 2 ^ t) with h2 | h2
  · exact h2
  · have e : T = T ||| 2 ^ t := by omega
    have : T.testBit t = true := by rw [e, testBit_or_pow]; exact .inr rfl
    rw [h] at this
    cases this

/-- A pass over the edges that gathers what is reached: T0 at its start, T behind k edges. -/
structure Pass (s : Sy) (A : Int) (S T0 T : Nat) (k : Nat) (more : Bool) : Prop where
  lt : T < 2 ^ 16
  base : ∀ x, S.testBit x = true → T.testBit x = true
  inside : ∀ x, T.testBit x = true → Rch s A S x
  unmoved : more = false → T = T0 ∧ ∀ i (h : i < s.es.length), i < k → Has A s.es[i].l.toNat = true → T.testBit s.es[i].f.toNat = true → T.testBit s.es[i].t.toNat = true
  moved : more = true → T0 < T
theorem Pass.start {s : Sy} {A : Int} {S T : Nat} (h0 : T < 2 ^ 16) (h1 : ∀ x, S.testBit x = true → T.testBit x = true) (h2 : ∀ x, T.testBit x = true → Rch s A S x) : Pass s A S T T 0 false :=
  ⟨h0, h1, h2, fun _ => ⟨rfl, fun _ _ h => by omega⟩, fun h => by cases h⟩
theorem Pass.skip {s : Sy} {A : Int} {S T0 T k : Nat} {more : Bool} (h : Pass s A S T0 T k more) (hk : k < s.es.length)
    (hn : ¬ (Has A s.es[k].l.toNat = true ∧ T.testBit s.es[k].f.toNat = true ∧ T.testBit s.es[k].t.toNat = false)) : Pass s A S T0 T (k + 1) more :=
  ⟨h.lt, h.base, h.inside, fun hm => ⟨(h.unmoved hm).1, fun i hi hik ha hf => by
    by_cases e : i = k
    · subst e
      rcases hb : T.testBit s.es[i].t.toNat with _ | _
      · exact absurd ⟨ha, hf, hb⟩ hn
      · rfl
    · exact (h.unmoved hm).2 i hi (by omega) ha hf⟩, h.moved⟩
theorem Pass.add {s : Sy} {A : Int} {S T0 T k : Nat} {more : Bool} (hs : edgesIn s) (h : Pass s A S T0 T k more) (hk : k < s.es.length)
    (ha : Has A s.es[k].l.toNat = true) (hf : T.testBit s.es[k].f.toNat = true) (ht : T.testBit s.es[k].t.toNat = false) : Pass s A S T0 (T ||| 2 ^ s.es[k].t.toNat) (k + 1) true := by
  obtain ⟨a, b, c, d, _⟩ := hs s.es[k] (List.getElem_mem _)
  have hlt := lt_or_pow ht
  refine ⟨or_pow_lt h.lt (by omega), fun x hx => by rw [testBit_or_pow]; exact .inl (h.base x hx), fun x hx => ?_, fun hm => (by cases hm), fun _ => ?_⟩
  · rw [testBit_or_pow] at hx
    rcases hx with hx | rfl
    · exact h.inside x hx
    · exact Rch.step (List.getElem_mem hk) ha (h.inside _ hf)
  · cases more with
    | true => have := h.moved rfl; omega
    | false => have := (h.unmoved rfl).1; omega
theorem Pass.done {s : Sy} {A : Int} {S T0 T : Nat} (h : Pass s A S T0 T s.es.length false) : T = reachSet s A S := by
  refine reach_unique h.lt h.base (fun e he ha hf => ?_) h.inside
  obtain ⟨i, hi, rfl⟩ := List.mem_iff_getElem.1 he
  exact (h.unmoved rfl).2 i hi hi ha hf

end AG

/- Plain: one step of a set of states, edge by edge; the letters of an alphabet in order. -/
namespace AG

theorem stepSet_lt (s : Sy) (S : Nat) (l : Int) : stepSet s S l < 65536 := by unfold stepSet; exact bitsOf_lt _ 16

/-- The letters of an alphabet, in order. -/
def lettersTo (A : Int) (k : Nat) : List Nat := (List.range k).filter fun l => Has A l
def letters (A : Int) : List Nat := lettersTo A 6
theorem lettersTo_succ (A : Int) (k : Nat) : lettersTo A (k + 1) = if Has A k then lettersTo A k ++ [k] else lettersTo A k := by
  unfold lettersTo
  rw [List.range_succ, List.filter_append]
  by_cases h : Has A k = true
  · simp [h]
  · simp [h]
theorem lettersTo_len (A : Int) (k : Nat) : (lettersTo A k).length ≤ k := by
  unfold lettersTo
  exact Nat.le_trans (List.length_filter_le _ _) (by simp)
theorem letters_lt {A : Int} {l : Nat} (h : l ∈ letters A) : l < 6 ∧ Has A l = true := by
  unfold letters lettersTo at h
  rw [List.mem_filter, List.mem_range] at h
  exact h
theorem letters_sorted (A : Int) : (letters A).Pairwise (· < ·) := by
  unfold letters lettersTo
  exact List.Pairwise.filter _ List.pairwise_lt_range

end AG

/- Plain: a breadth-first search that looks at its goal when a node is taken up; the reference's search over pairs of sets. -/
namespace AG

section
variable {I : Nat → Prop} {L : List Nat} {nx : Nat → Nat → List Nat} {G : Nat → Prop} {ss : List Stp} {ws : List (List Nat)} {i : Nat}

theorem rle_of_incr (h : ∀ j j' (h : j < ws.length) (h' : j' < ws.length), j < j' → rlt ws[j] ws[j']) {j j' : Nat} (hj : j < ws.length) (hj' : j' < ws.length) (hle : j ≤ j') : rle ws[j] ws[j'] := by
  by_cases e : j = j'
  · subst e; exact .inr rfl
  · exact .inl (h j j' hj hj' (by omega))

/-- The node that is taken up is a goal, none before it was: its word is the first one. -/
theorem Bfs.popped (h : Bfs I L nx (fun _ => False) ss ws i 0) (hi : i < ss.length) (hi' : i < ws.length) (hpre : ∀ j (hj : j < ss.length), j < i → ∀ n ∈ ss[j].nodes, ¬ G n) {n : Nat} (hn : n ∈ ss[i].nodes) (hg : G n) : FirstW I L nx G ws[i] := by
  refine ⟨⟨n, h.reach i hi hi' n hn, hg⟩, fun q m hm hgm => ?_⟩
  rcases h.cover q m hm with ⟨j, g, g', hj, hr⟩ | ⟨j, m', g, g', hm', hny, hr⟩
  · by_cases hji : j < i
    · exact absurd hgm (hpre j g hji m hj)
    · exact rle_trans (rle_of_incr h.incr hi' g' (by omega)) hr
  · have hji : i ≤ j := by unfold before at hny; omega
    exact rle_trans (rle_trans (rle_of_incr h.incr hi' g' hji) (.inl (rlt_cons _ _))) hr

/-- The search has come to its end and no node was a goal. -/
theorem Bfs.nonePopped (h : Bfs I L nx (fun _ => False) ss ws ss.length 0) (hpre : ∀ j (hj : j < ss.length), ∀ n ∈ ss[j].nodes, ¬ G n) : ∀ q n, RW I L nx q n → ¬ G n := by
  intro q n hn
  rcases h.cover q n hn with ⟨j, g, g', hj, _⟩ | ⟨j, m, g, g', hm, hny, _⟩
  · exact hpre j g n hj
  · exact absurd (.inl g) hny
end

/-- A pair of sets as one number. -/
def code (p : Nat × Nat) : Nat := p.1 * 65536 + p.2
theorem code_inj {p q : Nat × Nat} (hp : p.2 < 65536) (hq : q.2 < 65536) (h : code p = code q) : p = q := by
  unfold code at h
  exact Prod.ext (by omega) (by omega)

/-- The pair behind a letter. -/
noncomputable def stepP (a b : Sy) (p : Nat × Nat) (l : Nat) : Nat × Nat := (stepSet a p.1 (l : Int), stepSet b p.2 (l : Int))
/-- The reference's search: its start, its steps, its goal. -/
def pI (n : Nat) : Prop := n = code (1, 1)
noncomputable def pN (a b : Sy) (n l : Nat) : List Nat := if (stepP a b (n / 65536, n % 65536) l).1 = 0 then [] else [code (stepP a b (n / 65536, n % 65536) l)]
def pG (n : Nat) : Prop := n % 65536 = 0
theorem code_parts {p : Nat × Nat} (h : p.2 < 65536) : (code p / 65536, code p % 65536) = p := by
  unfold code
  exact Prod.ext (by show (p.1 * 65536 + p.2) / 65536 = p.1; omega) (by show (p.1 * 65536 + p.2) % 65536 = p.2; omega)

end AG

/- Plain: the reference's search as lists of pairs and words. -/
namespace AG

theorem nodup_bound : ∀ (N : Nat) (l : List Nat), l.Nodup → (∀ x ∈ l, x < N) → l.length ≤ N
  | 0, l, _, h => by
    cases l with
    | nil => exact Nat.le_refl _
    | cons x l => exact absurd (h x List.mem_cons_self) (by omega)
  | N + 1, l, hd, h => by
    by_cases hN : N ∈ l
    · have h1 := nodup_bound N (l.erase N) (hd.erase N) fun x hx => by
        have := (hd.mem_erase_iff).1 hx
        have := h x this.2
        omega
      rw [List.length_erase_of_mem hN] at h1
      omega
    · have := nodup_bound N l hd fun x hx => by
        have h1 := h x hx
        have h2 : x ≠ N := fun e => hN (e ▸ hx)
        omega
      omega

/-- The state of the reference's search. -/
structure PB (a b : Sy) (L : List Nat) (ps : List (Nat × Nat)) (ws : List (List Nat)) (i k : Nat) : Prop where
  bfs : ∃ ss : List Stp, ss.map (·.nodes) = ps.map (fun p => [code p]) ∧ Bfs pI L (pN a b) (fun _ => False) ss ws i k
  small : ∀ p ∈ ps, p.1 < 65536 ∧ p.2 < 65536
  nodup : ps.Nodup

section
variable {a b : Sy} {L : List Nat} {ps : List (Nat × Nat)} {ws : List (List Nat)} {i k : Nat}

theorem nodes_at {ss : List Stp} (h : ss.map (·.nodes) = ps.map (fun p => [code p])) : ss.length = ps.length ∧ ∀ j (hj : j < ss.length) (hj' : j < ps.length), ss[j].nodes = [code ps[j]] := by
  have hl : ss.length = ps.length := by simpa using congrArg List.length h
  refine ⟨hl, fun j hj hj' => ?_⟩
  have := congrArg (·[j]?) h
  simpa [hj, hj'] using this

theorem PB.begin : PB a b L [(1, 1)] [[]] 0 0 :=
  ⟨⟨[⟨-1, 0, [code (1, 1)]⟩], rfl, Bfs.begin (fun n => by simp [pI]) (fun _ _ h => h)⟩, fun p hp => by simp at hp; subst hp; decide, by simp⟩

theorem PB.len (h : PB a b L ps ws i k) : ws.length = ps.length := by
  obtain ⟨ss, hs, hb⟩ := h.bfs
  rw [hb.len, (nodes_at hs).1]

theorem Bfs.wlen {I : Nat → Prop} {L : List Nat} {nx : Nat → Nat → List Nat} {G : Nat → Prop} {ss : List Stp} {ws : List (List Nat)} {i k : Nat} (h : Bfs I L nx G ss ws i k) : ∀ j (hj : j < ws.length), ws[j].length ≤ j := by
  intro j
  induction j using Nat.strongRecOn with
  | _ j ih =>
    intro hj
    by_cases e : j = 0
    · subst e
      rw [h.zero hj]
      exact Nat.le_refl _
    · obtain ⟨p, q, hpj, _, _, hp, _, _, hw⟩ := h.link j (by rw [← h.len]; exact hj) hj (by omega)
      have := ih p hpj hp
      rw [hw, List.length_cons]
      omega
theorem PB.wlen (h : PB a b L ps ws i k) {j : Nat} (hj : j < ws.length) : ws[j].length ≤ j := by
  obtain ⟨ss, _, hb⟩ := h.bfs
  exact hb.wlen j hj

theorem PB.bound (h : PB a b L ps ws i k) : ps.length ≤ 4294967296 := by
  have h1 : (ps.map code).Nodup := by
    refine List.pairwise_map.2 (h.nodup.imp_of_mem fun {x y} hx hy hne he => hne (code_inj (h.small x hx).2 (h.small y hy).2 he))
  have h2 := nodup_bound 4294967296 (ps.map code) h1 fun x hx => by
    obtain ⟨p, hp, rfl⟩ := List.mem_map.1 hx
    have := h.small p hp
    unfold code
    omega
  simpa using h2

theorem PB.over (h : PB a b L ps ws i k) (hk : L.length ≤ k) : PB a b L ps ws (i + 1) 0 := by
  obtain ⟨ss, hs, hb⟩ := h.bfs
  exact ⟨⟨ss, hs, hb.over hk⟩, h.small, h.nodup⟩

theorem PB.skip (h : PB a b L ps ws i k) (hL : L.Pairwise (· < ·)) (hi : i < ps.length) (hk : k < L.length) (hq : (stepP a b ps[i] L[k]).1 = 0 ∨ stepP a b ps[i] L[k] ∈ ps) : PB a b L ps ws i (k + 1) := by
  obtain ⟨ss, hs, hb⟩ := h.bfs
  obtain ⟨hl, hn⟩ := nodes_at hs
  refine ⟨⟨ss, hs, hb.stale hL (by omega) hk fun n hn1 n' hn2 => ?_⟩, h.small, h.nodup⟩
  rw [hn i (by omega) hi, List.mem_singleton] at hn1
  subst hn1
  unfold pN at hn2
  rw [code_parts (h.small _ (List.getElem_mem hi)).2] at hn2
  rcases hq with hq | hq
  · rw [if_pos hq] at hn2
    cases hn2
  · split at hn2
    · cases hn2
    · rw [List.mem_singleton] at hn2
      obtain ⟨j, hj, he⟩ := List.mem_iff_getElem.1 hq
      exact ⟨j, by omega, by rw [hn j (by omega) hj, List.mem_singleton, hn2, he]⟩

theorem PB.add (h : PB a b L ps ws i k) (hL : L.Pairwise (· < ·)) (hi : i < ps.length) (hi' : i < ws.length) (hk : k < L.length) (h0 : (stepP a b ps[i] L[k]).1 ≠ 0) (hq : stepP a b ps[i] L[k] ∉ ps) :
    PB a b L (ps ++ [stepP a b ps[i] L[k]]) (ws ++ [L[k] :: ws[i]]) i (k + 1) := by
  obtain ⟨ss, hs, hb⟩ := h.bfs
  obtain ⟨hl, hn⟩ := nodes_at hs
  have hN : pN a b (code ps[i]) L[k] = [code (stepP a b ps[i] L[k])] := by
    unfold pN
    rw [code_parts (h.small _ (List.getElem_mem hi)).2, if_neg h0]
  refine ⟨⟨ss ++ [⟨i, L[k], [code (stepP a b ps[i] L[k])]⟩], by rw [List.map_append, List.map_append, hs]; rfl, hb.fresh hL (by omega) hi' hk (fun n' hn' => ?_) (fun n hn1 n' hn2 => ?_) (fun _ _ h => h)⟩, fun p hp => ?_, ?_⟩
  · exact ⟨code ps[i], by rw [hn i (by omega) hi]; exact List.mem_singleton.2 rfl, by rw [hN]; exact hn'⟩
  · rw [hn i (by omega) hi, List.mem_singleton] at hn1
    subst hn1
    rw [hN] at hn2
    exact .inl hn2
  · rcases List.mem_append.1 hp with hp | hp
    · exact h.small p hp
    · rw [List.mem_singleton] at hp
      subst hp
      exact ⟨stepSet_lt _ _ _, stepSet_lt _ _ _⟩
  · rw [List.nodup_append]
    refine ⟨h.nodup, by simp, fun x hx y hy e => ?_⟩
    rw [List.mem_singleton] at hy
    subst hy e
    exact hq hx

theorem PB.found (h : PB a b L ps ws i 0) (hi : i < ps.length) (hi' : i < ws.length) (hpre : ∀ j (hj : j < ps.length), j < i → ps[j].2 ≠ 0) (h0 : ps[i].2 = 0) : FirstW pI L (pN a b) pG ws[i] := by
  obtain ⟨ss, hs, hb⟩ := h.bfs
  obtain ⟨hl, hn⟩ := nodes_at hs
  refine hb.popped (by omega) hi' (fun j hj hji n hnj hg => ?_) (n := code ps[i]) (by rw [hn i (by omega) hi]; exact List.mem_singleton.2 rfl) ?_
  · rw [hn j hj (by omega), List.mem_singleton] at hnj
    subst hnj
    have := h.small _ (List.getElem_mem (show j < ps.length by omega))
    refine hpre j (by omega) hji ?_
    unfold pG code at hg
    omega
  · unfold pG code
    omega

theorem PB.none (h : PB a b L ps ws ps.length 0) (hpre : ∀ j (hj : j < ps.length), ps[j].2 ≠ 0) : ∀ q n, RW pI L (pN a b) q n → ¬ pG n := by
  obtain ⟨ss, hs, hb⟩ := h.bfs
  obtain ⟨hl, hn⟩ := nodes_at hs
  rw [← hl] at hb
  refine hb.nonePopped fun j hj n hnj hg => ?_
  rw [hn j hj (by omega), List.mem_singleton] at hnj
  subst hnj
  have := h.small _ (List.getElem_mem (show j < ps.length by omega))
  refine hpre j (by omega) ?_
  unfold pG code at hg
  omega
end

end AG

/- Plain: the program's breadth-first search. -/
namespace AG

/-- The state of the search. -/
structure SB (I : Nat → Prop) (L : List Nat) (nx : Nat → Nat → List Nat) (G : Nat → Bool) (size : Nat) (ss : List Stp) (ws : List (List Nat)) (S : Nat → Bool) (i k : Nat) : Prop where
  bfs : Bfs I L nx (fun n => G n = true) ss ws i k
  seen : ∀ n, S n = true ↔ ∃ x ∈ ss, n ∈ x.nodes
  small : ∀ x ∈ ss, ∀ n ∈ x.nodes, n < size
  ne : ∀ x ∈ ss, x.nodes ≠ []
  nodup : (ss.flatMap (·.nodes)).Nodup

section
variable {I : Nat → Prop} {L : List Nat} {nx : Nat → Nat → List Nat} {G : Nat → Bool} {size : Nat} {ss : List Stp} {ws : List (List Nat)} {S : Nat → Bool} {i k : Nat}

theorem flat_len : ∀ {ss : List Stp}, (∀ x ∈ ss, x.nodes ≠ []) → ss.length ≤ (ss.flatMap (·.nodes)).length
  | [], _ => Nat.le_refl _
  | x :: ss, h => by
    have h1 := flat_len (ss := ss) fun y hy => h y (List.mem_cons_of_mem _ hy)
    have h2 : 0 < x.nodes.length := List.length_pos_iff.2 (h x List.mem_cons_self)
    rw [List.flatMap_cons, List.length_append, List.length_cons]
    omega
theorem flat_nodup : ∀ {ss : List Stp} {x : Stp}, (ss.flatMap (·.nodes)).Nodup → x ∈ ss → x.nodes.Nodup
  | y :: ss, x, h, hx => by
    rw [List.flatMap_cons, List.nodup_append] at h
    rcases List.mem_cons.1 hx with rfl | hx
    · exact h.1
    · exact flat_nodup h.2.1 hx
theorem SB.bound (h : SB I L nx G size ss ws S i k) : ss.length ≤ size := by
  refine Nat.le_trans (flat_len h.ne) (nodup_bound size _ h.nodup fun x hx => ?_)
  obtain ⟨y, hy, hxy⟩ := List.mem_flatMap.1 hx
  exact h.small y hy x hxy
theorem SB.nodesLen (h : SB I L nx G size ss ws S i k) {x : Stp} (hx : x ∈ ss) : x.nodes.length ≤ size := by
  exact nodup_bound size _ (flat_nodup h.nodup hx) (h.small x hx)

theorem SB.begin {I0 : List Nat} (h0 : I0 ≠ []) (hs : ∀ n ∈ I0, n < size) (hg : (frs (fun _ => false) I0).any G = false) :
    SB (fun n => n ∈ I0) L nx G size [⟨-1, 0, frs (fun _ => false) I0⟩] [[]] (fun n => (frs (fun _ => false) I0).contains n) 0 0 := by
  have hm : ∀ n, n ∈ frs (fun _ => false) I0 ↔ n ∈ I0 := fun n => by rw [frs_mem]; simp
  refine ⟨Bfs.begin hm fun n hn e => ?_, fun n => by simp, fun x hx n hn => ?_, fun x hx e => ?_, by simpa using frs_nodup _ _⟩
  · rw [List.any_eq_false] at hg
    exact hg n hn e
  · rw [List.mem_singleton] at hx
    subst hx
    exact hs n ((hm n).1 hn)
  · rw [List.mem_singleton] at hx
    subst hx
    obtain ⟨a, ha⟩ := List.exists_mem_of_ne_nil _ h0
    have := (hm a).2 ha
    simp only at e
    rw [e] at this
    cases this
/-- The goal is among the first nodes. -/
theorem first_now {I0 : List Nat} (hg : (frs (fun _ => false) I0).any G = true) : FirstW (fun n => n ∈ I0) L nx (fun n => G n = true) [] := by
  rw [List.any_eq_true] at hg
  obtain ⟨n, hn, h⟩ := hg
  exact ⟨⟨n, ((frs_mem _ _ _).1 hn).1, h⟩, fun q m _ _ => rle_nil q⟩

/-- What the nodes of step i reach by letter number k. -/
def reachedL (nx : Nat → Nat → List Nat) (l : Nat) (ns : List Nat) : List Nat := ns.flatMap fun n => nx n l
theorem reachedL_snoc (l : Nat) (ns : List Nat) (n : Nat) : reachedL nx l (ns ++ [n]) = reachedL nx l ns ++ nx n l := by unfold reachedL; rw [List.flatMap_append]; simp
theorem reachedL_mem {l : Nat} {ns : List Nat} {x : Nat} : x ∈ reachedL nx l ns ↔ ∃ n ∈ ns, x ∈ nx n l := by unfold reachedL; rw [List.mem_flatMap]

theorem SB.over (h : SB I L nx G size ss ws S i k) (hk : L.length ≤ k) : SB I L nx G size ss ws S (i + 1) 0 := ⟨h.bfs.over hk, h.seen, h.small, h.ne, h.nodup⟩

theorem SB.old (h : SB I L nx G size ss ws S i k) (hL : L.Pairwise (· < ·)) (hi : i < ss.length) (hk : k < L.length) (hf : frs S (reachedL nx L[k] ss[i].nodes) = []) : SB I L nx G size ss ws S i (k + 1) := by
  refine ⟨h.bfs.stale hL hi hk fun n hn n' hn' => ?_, h.seen, h.small, h.ne, h.nodup⟩
  have hno : ¬ n' ∈ frs S (reachedL nx L[k] ss[i].nodes) := by rw [hf]; simp
  rw [frs_mem] at hno
  have hS : S n' = true := by
    cases hS : S n'
    · exact absurd ⟨reachedL_mem.2 ⟨n, hn, hn'⟩, hS⟩ hno
    · rfl
  obtain ⟨x, hx, hxn⟩ := (h.seen n').1 hS
  obtain ⟨j, hj, rfl⟩ := List.mem_iff_getElem.1 hx
  exact ⟨j, hj, hxn⟩

theorem SB.add (h : SB I L nx G size ss ws S i k) (hL : L.Pairwise (· < ·)) (hi : i < ss.length) (hi' : i < ws.length) (hk : k < L.length) (hnx : ∀ q, q < size → ∀ n ∈ nx q L[k], n < size) {fr : List Nat} (hf : fr = frs S (reachedL nx L[k] ss[i].nodes))
    (hne : fr ≠ []) (hg : fr.any G = false) :
    SB I L nx G size (ss ++ [⟨i, L[k], fr⟩]) (ws ++ [L[k] :: ws[i]]) (fun n => S n || fr.contains n) i (k + 1) := by
  have hm : ∀ n, n ∈ fr ↔ n ∈ reachedL nx L[k] ss[i].nodes ∧ S n = false := fun n => by rw [hf, frs_mem]
  refine ⟨h.bfs.fresh hL hi hi' hk (fun n' hn' => ?_) (fun n hn n' hn' => ?_) (fun n' hn' e => ?_), fun n => ?_, fun x hx n hn => ?_, fun x hx => ?_, ?_⟩
  · exact reachedL_mem.1 ((hm n').1 hn').1
  · cases hS : S n'
    · exact .inl ((hm n').2 ⟨reachedL_mem.2 ⟨n, hn, hn'⟩, hS⟩)
    · obtain ⟨x, hx, hxn⟩ := (h.seen n').1 hS
      obtain ⟨j, hj, rfl⟩ := List.mem_iff_getElem.1 hx
      exact .inr ⟨j, hj, hxn⟩
  · rw [List.any_eq_false] at hg
    exact hg n' hn' e
  · rw [Bool.or_eq_true, h.seen]
    constructor
    · rintro (⟨x, hx, hn⟩ | hn)
      · exact ⟨x, List.mem_append_left _ hx, hn⟩
      · exact ⟨_, List.mem_append_right _ (List.mem_singleton.2 rfl), by simpa using hn⟩
    · rintro ⟨x, hx, hn⟩
      rcases List.mem_append.1 hx with hx | hx
      · exact .inl ⟨x, hx, hn⟩
      · rw [List.mem_singleton] at hx
        subst hx
        exact .inr (by simpa using hn)
  · rcases List.mem_append.1 hx with hx | hx
    · exact h.small x hx n hn
    · rw [List.mem_singleton] at hx
      subst hx
      obtain ⟨q, hq, hnq⟩ := reachedL_mem.1 ((hm n).1 hn).1
      exact hnx q (h.small _ (List.getElem_mem hi) q hq) n hnq
  · rcases List.mem_append.1 hx with hx | hx
    · exact h.ne x hx
    · rw [List.mem_singleton] at hx
      subst hx
      exact hne
  · rw [List.flatMap_append, List.nodup_append]
    refine ⟨h.nodup, by simp only [List.flatMap_cons, List.flatMap_nil, List.append_nil]; rw [hf]; exact frs_nodup _ _, fun a ha b hb e => ?_⟩
    subst e
    simp only [List.flatMap_cons, List.flatMap_nil, List.append_nil] at hb
    obtain ⟨x, hx, hxa⟩ := List.mem_flatMap.1 ha
    have h1 := (h.seen a).2 ⟨x, hx, hxa⟩
    have h2 := ((hm a).1 hb).2
    rw [h1] at h2
    cases h2

theorem SB.found (h : SB I L nx G size ss ws S i k) (hL : L.Pairwise (· < ·)) (hi : i < ss.length) (hi' : i < ws.length) (hk : k < L.length) (hg : (frs S (reachedL nx L[k] ss[i].nodes)).any G = true) :
    FirstW I L nx (fun n => G n = true) (L[k] :: ws[i]) := by
  rw [List.any_eq_true] at hg
  obtain ⟨n', hn', hG⟩ := hg
  obtain ⟨n, hn, hnn⟩ := reachedL_mem.1 ((frs_mem _ _ _).1 hn').1
  exact h.bfs.found hL hi hi' hk hn hnn hG
theorem SB.none (h : SB I L nx G size ss ws S ss.length 0) : ∀ q n, RW I L nx q n → ¬ G n = true := h.bfs.none
end
end AG

/- Plain: automata as lists; the automaton of the sets of states to which words lead. -/
namespace AG

structure Au where
  al : Int
  nx : List (List Int)
  ac : List Bool
  deriving DecidableEq

def auNil : Au := ⟨0, [], []⟩
def toRows (R : List (List Nat)) : List (List Int) := R.map fun r => r.map fun (n : Nat) => (n : Int)
theorem toRows_len (R : List (List Nat)) : (toRows R).length = R.length := by unfold toRows; rw [List.length_map]

theorem numRes_len {nx : Nat → Nat → Nat} {L : List Nat} {n0 lim : Nat} {x : List Nat × List (List Nat)} (h : numRes nx L n0 lim = some x) : x.1.length ≤ lim ∧ x.2.length = x.1.length ∧ (∀ r ∈ x.2, r.length = L.length) := by
  unfold numRes at h
  split at h
  · rename_i hl
    injection h with h
    subst h
    refine ⟨hl, by simp, fun r hr => ?_⟩
    obtain ⟨a, _, rfl⟩ := List.mem_map.1 hr
    unfold rowOf
    rw [List.length_map]
  · cases h
theorem nsAt_all {P : Nat → Prop} {nx : Nat → Nat → Nat} {L : List Nat} {n0 : Nat} (h0 : P n0) (hs : ∀ a, P a → ∀ l ∈ L, P (nx a l)) : ∀ i, ∀ a ∈ nsAt nx L n0 i, P a
  | 0, a, ha => by rw [nsAt_zero] at ha; rw [List.mem_singleton.1 ha]; exact h0
  | i + 1, a, ha => by
    have ih := nsAt_all (nx := nx) (L := L) h0 hs i
    by_cases h : i < (nsAt nx L n0 i).length
    · rw [nsAt_succ h] at ha
      have hb := ih _ (List.getElem_mem h)
      have key : ∀ (M ns : List Nat), (∀ x ∈ ns, P x) → (∀ l ∈ M, l ∈ L) → ∀ x ∈ rowN nx (nsAt nx L n0 i)[i] ns M, P x := by
        intro M
        induction M with
        | nil => intro ns h1 _ x hx; exact h1 x hx
        | cons l M ihM =>
          intro ns h1 h2 x hx
          refine ihM (addN ns (nx (nsAt nx L n0 i)[i] l)) (fun y hy => ?_) (fun y hy => h2 y (List.mem_cons_of_mem _ hy)) x hx
          unfold addN at hy
          split at hy
          · exact h1 y hy
          · rcases List.mem_append.1 hy with hy | hy
            · exact h1 y hy
            · rw [List.mem_singleton.1 hy]
              exact hs _ hb _ (h2 l List.mem_cons_self)
      exact key L _ ih (fun l hl => hl) a ha
    · have := nsAt_stop (nx := nx) (L := L) (n0 := n0) (i := i) (by omega) 1
      rw [this] at ha
      exact ih a ha
theorem nsAt_nodup (nx : Nat → Nat → Nat) (L : List Nat) (n0 : Nat) : ∀ i, (nsAt nx L n0 i).Nodup
  | 0 => by simp [nsAt]
  | i + 1 => by
    have ih := nsAt_nodup nx L n0 i
    by_cases h : i < (nsAt nx L n0 i).length
    · rw [nsAt_succ h]
      have key : ∀ (M ns : List Nat), ns.Nodup → (rowN nx (nsAt nx L n0 i)[i] ns M).Nodup := by
        intro M
        induction M with
        | nil => intro ns h1; exact h1
        | cons l M ihM =>
          intro ns h1
          refine ihM (addN ns (nx (nsAt nx L n0 i)[i] l)) ?_
          unfold addN
          split
          · exact h1
          · rename_i hn
            rw [List.nodup_append]
            exact ⟨h1, by simp, fun a ha b hb e => hn (by rw [List.mem_singleton] at hb; rw [← hb, ← e]; exact ha)⟩
      exact key L _ ih
    · have := nsAt_stop (nx := nx) (L := L) (n0 := n0) (i := i) (by omega) 1
      rw [this]
      exact ih
theorem nsAt_pos (nx : Nat → Nat → Nat) (L : List Nat) (n0 i : Nat) : 0 < (nsAt nx L n0 i).length ∧ (nsAt nx L n0 i)[0]? = some n0 := by
  obtain ⟨m, h⟩ := nsAt_pre nx L n0 0 i
  rw [Nat.zero_add] at h
  rw [h, nsAt_zero]
  simp

end AG

/- Plain: what the automaton of sets accepts; numberings that are alike. -/
namespace AG

def auOk (a : Au) : Bool := decide (alphaOk a.al = true ∧ 1 ≤ a.nx.length ∧ a.nx.length ≤ 12 ∧ a.ac.length = a.nx.length ∧ ∀ r ∈ a.nx, r.length = (letters a.al).length ∧ ∀ q ∈ r, 0 ≤ q ∧ q < (a.nx.length : Int))
/-- The state to which a letter leads; a letter that the automaton does not have leads nowhere else. -/
def goA (a : Au) (q l : Nat) : Nat := if l ∈ letters a.al then ((a.nx.getD q []).getD ((letters a.al).idxOf l) 0).toNat else q
def runA (a : Au) (q : Nat) : List Nat → Nat
  | [] => q
  | l :: r => goA a (runA a q r) l
def accA (a : Au) (r : List Nat) : Bool := a.ac.getD (runA a 0 r) false
theorem numRes_spec {nx : Nat → Nat → Nat} {L : List Nat} {n0 lim : Nat} {x : List Nat × List (List Nat)} (h : numRes nx L n0 lim = some x) :
    x.1 = nsAt nx L n0 lim ∧ x.2 = x.1.map (rowOf nx L x.1) ∧ x.1.Nodup ∧ n0 ∈ x.1 ∧ x.1.idxOf n0 = 0 ∧ (∀ a ∈ x.1, ∀ l ∈ L, nx a l ∈ x.1) := by
  unfold numRes at h
  split at h
  · rename_i hl
    injection h with h
    subst h
    obtain ⟨h1, h2⟩ := nsAt_pos nx L n0 lim
    have h3 : (nsAt nx L n0 lim)[0] = n0 := by rw [List.getElem?_eq_getElem h1] at h2; injection h2
    refine ⟨rfl, rfl, nsAt_nodup _ _ _ _, List.mem_of_getElem? h2, ?_, fun a ha l hl2 => ?_⟩
    · have := (nsAt_nodup nx L n0 lim).idxOf_getElem 0 h1
      rw [h3] at this
      exact this
    · obtain ⟨i, hi, rfl⟩ := List.getElem_of_mem ha
      have hi' : i < (nsAt nx L n0 lim).length := hi
      have hil : i < lim := by omega
      have hii : i < (nsAt nx L n0 i).length := by
        rcases Nat.lt_or_ge i (nsAt nx L n0 i).length with h | h
        · exact h
        · have := nsAt_stop h (lim - i)
          rw [show i + (lim - i) = lim from by omega] at this
          rw [this] at hi'
          omega
      obtain ⟨m, hm⟩ := nsAt_pre nx L n0 i (lim - i)
      rw [show i + (lim - i) = lim from by omega] at hm
      obtain ⟨m2, hm2⟩ := nsAt_pre nx L n0 (i + 1) (lim - (i + 1))
      rw [show i + 1 + (lim - (i + 1)) = lim from by omega] at hm2
      have e : (nsAt nx L n0 lim)[i] = (nsAt nx L n0 i)[i] := by
        simp only [hm]
        rw [List.getElem_append_left hii]
      show nx (nsAt nx L n0 lim)[i] l ∈ nsAt nx L n0 lim
      rw [e, hm2]
      exact List.mem_append_left _ (nsAt_closed hii hl2)
  · cases h

theorem getD_map_of_lt {α β : Type} (f : α → β) (l : List α) (i : Nat) (d : β) (h : i < l.length) : (l.map f).getD i d = f l[i] := by
  rw [List.getD_eq_getElem?_getD, List.getElem?_eq_getElem (by simpa using h), List.getElem_map]
  rfl
end AG

/- A statement that draws its order: its first n operations may come in any order the edges allow and yield one value each in every world of a class; behind them the others come one by one. -/
namespace AG
open Go
section
variable {P : Program} {ops : Array Oper} {md : Region.Mode} {C : World → Prop} {n : Nat}

/-- f operations of the first n come up, in any order, then L. -/
def HeadC (P : Program) (md : Region.Mode) (ops : Array Oper) (C : World → Prop) (n : Nat) (L : Array Bool → Act → Prop) : Nat → Array Bool → Act → Prop
  | 0, listed, a => L listed a
  | f + 1, listed, a => Region.ready md ops listed ≠ [] ∧ ∀ i, i ∈ Region.ready md ops listed → i < n ∧ qOp P ops C i (HeadC P md ops C n L f (listed.setIfInBounds i true)) a

theorem HeadC.any {g : Nat} {L : Array Bool → Act → Prop} {Q : Exit → Act → World → Prop} (hL : ∀ listed a w, C w → L listed a → wpAny P md ops Q g listed a w) (f : Nat) :
    ∀ (listed : Array Bool) (a : Act) (w : World), C w → HeadC P md ops C n L f listed a → wpAny P md ops Q (f + g) listed a w := by
  induction f with
  | zero => intro listed a w hw h; rw [Nat.zero_add]; exact hL _ _ _ hw h
  | succ f ih =>
    intro listed a w hw h
    have e : f + 1 + g = (f + g) + 1 := by omega
    rw [e]
    refine ⟨fun h0 => absurd h0 h.1, fun i hi => ?_⟩
    exact wpOp_of_qOp hw (fun a' w' hw' h' => ih _ a' w' hw' h') (h.2 i hi).2

/-- The next operation of the text may be taken first. -/
theorem HeadC.first {i : Nat} {oi : Oper} {v : Value} {L : Array Bool → Act → Prop} (hi : ops[i]? = some oi) (hsel : ∀ (j : Nat) (o : Oper) cs b, ops[j]? = some o → o.op ≠ .select cs b)
    (hs : Region.sinkB md ops n = true) (hc : Region.chainB md ops n = true) (hn : n < ops.size) (hin : i < n) (hdone : ∀ listed a, L listed a → ∀ j ∈ Region.ready md ops listed, n ≤ j) (f : Nat) :
    ∀ (listed : Array Bool) (a : Act), HeadInv md ops n listed →
      (∀ j oj, ops[j]? = some oj → j ≠ i → listed.getD j true = false → (∀ e ∈ oj.after, Region.binds md e = true → e.on ≠ i) → oi.apart ops oj = true) →
      i ∈ Region.ready md ops listed → YieldsIn P ops C oi v a → HeadC P md ops C n L f (listed.setIfInBounds i true) (a.put oi.dst v) → HeadC P md ops C n L (f + 1) listed a := by
  induction f with
  | zero =>
    intro listed a inv _ hr hy H
    have hun := (mem_ready.1 hr).1
    refine ⟨fun h => (by rw [h] at hr; cases hr), fun j hj => ?_⟩
    have hjn : j < n := Nat.lt_of_not_le fun h => tail_waits hs hc hn inv _ i rfl hin hun j h hj
    refine ⟨hjn, ?_⟩
    by_cases hji : j = i
    · subst hji; exact hy.qOp hi H
    · have := hdone _ _ H j (ready_mono hj hji)
      omega
  | succ f ih =>
    intro listed a inv hfree hr hy H
    have hun := (mem_ready.1 hr).1
    refine ⟨fun h => (by rw [h] at hr; cases hr), fun j hj => ?_⟩
    have hjn : j < n := Nat.lt_of_not_le fun h => tail_waits hs hc hn inv _ i rfl hin hun j h hj
    refine ⟨hjn, ?_⟩
    by_cases hji : j = i
    · subst hji; exact hy.qOp hi H
    · obtain ⟨hjun, oj, hoj, hall⟩ := mem_ready.1 hj
      have hnot : ∀ e ∈ oj.after, Region.binds md e = true → e.on ≠ i := fun e he hb heq => by
        have h1 := hall e he hb
        rw [heq, getD_both hun] at h1
        cases h1
      have h2 := qOp_put hoj (hfree j oj hoj hji hjun hnot) (fun cs b => hsel i oi cs b hi) (fun cs b => hsel j oj cs b hoj) hy (H.2 j (ready_mono hj hji)).2
      refine qOp_mono (fun a' h3 => ih (listed.setIfInBounds j true) a' (inv.set hj hjn) ?_ (ready_mono hr (Ne.symm hji)) h3.1 ?_) h2
      · intro k ok hk hki hun' hno
        refine hfree k ok hk hki ?_ hno
        by_cases hjk : j = k
        · subst hjk; exact hjun
        · rw [getD_set_ne true hjk] at hun'; exact hun'
      · rw [Array.setIfInBounds_comm _ _ hji]
        exact h3.2

theorem HeadC.lex {g : Nat} {Lq : Act → Prop} (hsel : Region.noSelect ops = true) (hs : Region.sinkB md ops n = true) (hc : Region.chainB md ops n = true) (hn : n < ops.size) (l : List Oper) :
    ∀ (k : Nat) (listed : Array Bool) (a : Act), (∀ j, j < l.length → l[j]? = ops[k + j]?) → k + l.length = n → HeadInv md ops n listed → Region.lexHead md ops g l.length k listed = true →
      wpQuiet P ops C Lq l a → HeadC P md ops C n (fun listed' a' => Region.seqB md ops g n listed' = true ∧ Lq a') l.length listed a := by
  induction l with
  | nil =>
    intro k listed a _ hk _ hB h
    obtain rfl : k = n := by simpa using hk
    exact ⟨by simpa [Region.lexHead] using hB, h⟩
  | cons o l ih =>
    intro k listed a hl hk inv hB h
    have h0 : ops[k]? = some o := by simpa using (hl 0 (by simp)).symm
    simp only [List.length_cons, Region.lexHead, Bool.and_eq_true] at hB
    obtain ⟨⟨hr, hf⟩, hB'⟩ := hB
    simp only [List.length_cons] at hk
    have hkn : k < n := by omega
    have hr' : k ∈ Region.ready md ops listed := by simpa using hr
    have hst : qOp P ops C k (wpQuiet P ops C Lq l) a := by unfold qOp; simp only [h0]; exact h
    obtain ⟨v, hy, hK⟩ := yieldsIn_of_qOp h0 hst
    refine HeadC.first h0 (Region.noSelect_spec hsel) hs hc hn hkn (fun listed' a' hL => seqB_ready hL.1) l.length listed a inv (Region.free_spec h0 hf) hr' hy ?_
    refine ih (k + 1) _ _ (fun j hj => ?_) (by omega) (inv.set hr' hkn) hB' hK
    have := hl (j + 1) (by simp; omega)
    simpa [Nat.add_assoc, Nat.add_comm 1 j] using this

theorem wp_region_quiet_tail {id : Nat} {Q : Exit → Act → World → Prop} {a : Act} {w : World} {l : List Oper} (n : Nat) (hm : P.follows .mixedOrders = true) (hB : Region.lexTailB .any l.toArray n = true) (hC : C { w with drawn := w.drawn + 1 })
    (h : wpQuiet P l.toArray C (fun a' => ∀ w', C w' → wpList P l.toArray Q (l.drop n) a' w') (l.take n) a) : (Code.region id l.toArray true).wp P Q a w := by
  simp only [Region.lexTailB, Bool.and_eq_true, decide_eq_true_eq] at hB
  obtain ⟨⟨⟨⟨hsel, hn⟩, hs⟩, hc⟩, hlex⟩ := hB
  have htl : (l.take n).length = n := by simp; simp at hn; omega
  have hdl : (l.drop n).length = l.toArray.size - n := by simp
  have inv0 : HeadInv .any l.toArray n (Array.replicate l.toArray.size false) :=
    ⟨by simp, fun j oj _ hl => (by rw [getD_replicate_false] at hl; cases hl), fun t _ ht => getD_in (by simpa using ht) (getD_replicate_false _ _)⟩
  have H := HeadC.lex (md := .any) (g := l.toArray.size - n) hsel hs hc hn (l.take n) 0 _ a (fun j hj => by
    have hj' : j < n := by rw [htl] at hj; exact hj
    simp [hj']) (by simpa using htl) inv0 (by rw [htl]; exact hlex) h
  refine wp_region_any hm ?_
  have := HeadC.any (Q := Q) (g := l.toArray.size - n) (fun listed a' w' hw' hL => by
    have := wpAny_of_seq (md := .any) (Q' := Q) (l.drop n) n listed a' w' (fun j => by simp [List.getElem?_drop]) (by rw [hdl]; exact hL.1) (hL.2 w' hw')
    rwa [hdl] at this) _ _ _ _ hC H
  rw [htl, show n + (l.toArray.size - n) = l.toArray.size by omega] at this
  exact this
end
end AG

/- Words for memory that the walks share: a slice that reads as a list of cells, and the rule for a statement that draws its order. -/
namespace AG
open Go Go.RowKit

/-- Every world that is as w0 below block B, written as a family (what is not so is replaced by w0). -/
noncomputable def Fam (B : Nat) (w0 x : World) : World := open Classical in if Below B w0 x then x else w0
theorem Fam.below (B : Nat) (w0 x : World) : Below B w0 (Fam B w0 x) := by
  unfold Fam
  split
  · assumption
  · exact Below.refl _ _
theorem Fam.of {B : Nat} {w0 w : World} (h : Below B w0 w) : ∃ x, w = Fam B w0 x := ⟨w, by unfold Fam; rw [if_pos h]⟩
theorem Fam.next {B : Nat} {w0 x w : World} (hB : B ≤ w0.heap.size) (h : Below (Fam B w0 x).heap.size (Fam B w0 x) w) : ∃ y, w = Fam B w0 y :=
  Fam.of ((Fam.below B w0 x).trans (h.mono (Nat.le_trans hB (Fam.below B w0 x).size)))
theorem Fam.out {B : Nat} {w0 w : World} (h : ∃ x, w = Fam B w0 x) : Below B w0 w := by
  obtain ⟨x, rfl⟩ := h
  exact Fam.below _ _ _

/-- A statement that draws its order, each of whose operations yields one value in every world that is as w0 below block B, and leaves such a world. -/
theorem wp_region_fam {P : Program} {id : Nat} {Q : Exit → Act → World → Prop} {a : Act} {w : World} {l : List Oper} (B : Nat) (w0 : World) (hm : P.follows .mixedOrders = true)
    (hB : Region.lexB .any l.toArray = true) (hC : Below B w0 w) (h : wpQuiet P l.toArray (fun w' => ∃ x, w' = Fam B w0 x) (fun a' => ∀ w', (∃ x, w' = Fam B w0 x) → Q .normal a' w') l a) : (Code.region id l.toArray true).wp P Q a w :=
  wp_region_quiet (C := fun w' => ∃ x, w' = Fam B w0 x) hm hB (Fam.of hC.drew) (by simpa using h)

/-- The same, the first n operations alone; behind them the others come one by one. -/
theorem wp_region_fam_tail {P : Program} {id : Nat} {Q : Exit → Act → World → Prop} {a : Act} {w : World} {l : List Oper} (B : Nat) (w0 : World) (n : Nat) (hm : P.follows .mixedOrders = true)
    (hB : Region.lexTailB .any l.toArray n = true) (hC : Below B w0 w) (h : wpQuiet P l.toArray (fun w' => ∃ x, w' = Fam B w0 x) (fun a' => ∀ w', (∃ x, w' = Fam B w0 x) → wpList P l.toArray Q (l.drop n) a' w') (l.take n) a) :
    (Code.region id l.toArray true).wp P Q a w :=
  wp_region_quiet_tail (C := fun w' => ∃ x, w' = Fam B w0 x) n hm hB (Fam.of hC.drew) h

def Ed.val (e : Ed) : Value := .agg #[.int .i64 e.f, .int .i64 e.l, .int .i64 e.t]
def Ed.cells (e : Ed) : List Value := [.int .i64 e.f, .int .i64 e.l, .int .i64 e.t]

/-- The slice of edges '.slice A n c' reads as es, below block B. -/
def EdsAt (w : World) (B : Nat) (A : Option Addr) (es : List Ed) : Prop :=
  0 < es.length → ∃ b o, A = some ⟨b, o, none⟩ ∧ b < B ∧ ∀ i (h : i < es.length),
    w.cell? ⟨b, o + i * 3, none⟩ = some (.int .i64 es[i].f) ∧ w.cell? ⟨b, o + i * 3 + 1, none⟩ = some (.int .i64 es[i].l) ∧ w.cell? ⟨b, o + i * 3 + 2, none⟩ = some (.int .i64 es[i].t)

theorem EdsAt.get {w w0 : World} {B B' : Nat} {A : Option Addr} {es : List Ed} (h : EdsAt w B A es) (hb : Below B w w0) (hB : B ≤ B') {k : Nat} (hk : k < es.length) :
    ∃ b o, A = some ⟨b, o, none⟩ ∧ b < B ∧ ∀ i (hi : i < es.length), (∀ w', Below B' w0 w' → w'.cell? ⟨b, o + i * 3, none⟩ = some (.int .i64 es[i].f)) ∧ (∀ w', Below B' w0 w' → w'.cell? ⟨b, o + i * 3 + 1, none⟩ = some (.int .i64 es[i].l)) ∧
      (∀ w', Below B' w0 w' → w'.cell? ⟨b, o + i * 3 + 2, none⟩ = some (.int .i64 es[i].t)) := by
  obtain ⟨b, o, hA, hb', hE⟩ := h (by omega)
  refine ⟨b, o, hA, hb', fun i hi => ⟨fun w' h' => ?_, fun w' h' => ?_, fun w' h' => ?_⟩⟩
  · rw [h'.cell (by simp; omega), hb.cell (by simpa using hb')]; exact (hE i hi).1
  · rw [h'.cell (by simp; omega), hb.cell (by simpa using hb')]; exact (hE i hi).2.1
  · rw [h'.cell (by simp; omega), hb.cell (by simpa using hb')]; exact (hE i hi).2.2

theorem EdsAt.keep {w w' : World} {B : Nat} {A : Option Addr} {es : List Ed} (h : EdsAt w B A es) (hb : Below B w w') : EdsAt w' B A es := fun hl => by
  obtain ⟨b, o, hA, hb', hE⟩ := h hl
  exact ⟨b, o, hA, hb', fun i hi => by rw [hb.cell (by simpa using hb'), hb.cell (by simpa using hb'), hb.cell (by simpa using hb')]; exact hE i hi⟩
theorem EdsAt.more {w : World} {B B' : Nat} {A : Option Addr} {es : List Ed} (h : EdsAt w B A es) (hB : B ≤ B') : EdsAt w B' A es := fun hl => by
  obtain ⟨b, o, hA, hb', hE⟩ := h hl
  exact ⟨b, o, hA, by omega, hE⟩

/-- A new block of cells, the world under a name of its own. -/
theorem boxed (w : World) (cs : Array Value) (T : TypeId) : ∃ w0, w.alloc (.cells cs T) = w0 ∧ w.heap.size + 1 ≤ w0.heap.size ∧ Below w.heap.size w w0 ∧
    ∀ (i : Nat) v, cs[i]? = some v → ∀ w', Below (w.heap.size + 1) w0 w' → w'.cell? ⟨w.heap.size, i, none⟩ = some v :=
  ⟨_, rfl, by simp, (Below.refl _ _).alloc (Nat.le_refl _) _, fun i v hv w' h => by rw [h.cell (by simp), World.cell?_alloc_at _ _ _ _ rfl]; exact hv⟩

/-- .. and that what was read before is read there too. -/
theorem Below.box {B : Nat} {w0 w w1 : World} (h : Below B w0 w) (hB : B ≤ w.heap.size) (h1 : Below w.heap.size w w1) : Below B w0 w1 := h.trans (h1.mono hB)

theorem boxed2 (w : World) (cs : Array Value) (T : TypeId) (cs' : Array Value) (T' : TypeId) : ∃ w1, (w.alloc (.cells cs T)).alloc (.cells cs' T') = w1 ∧ w.heap.size + 2 ≤ w1.heap.size ∧ Below w.heap.size w w1 ∧
    (∀ (i : Nat) v, cs[i]? = some v → ∀ w', Below (w.heap.size + 2) w1 w' → w'.cell? ⟨w.heap.size, i, none⟩ = some v) ∧
    (∀ (i : Nat) v, cs'[i]? = some v → ∀ w', Below (w.heap.size + 2) w1 w' → w'.cell? ⟨w.heap.size + 1, i, none⟩ = some v) :=
  ⟨_, rfl, by simp, ((Below.refl _ _).alloc (Nat.le_refl _) _).alloc (by simp) _,
    fun i v hv w' h => by rw [h.cell (by simp), World.cell?_alloc_lt (h := by simp), World.cell?_alloc_at _ _ _ _ rfl]; exact hv,
    fun i v hv w' h => by rw [h.cell (by simp), World.cell?_alloc_at _ _ _ _ (by simp)]; exact hv⟩

/-- The value of a system. -/
def Sy.val (s : Sy) (A : Option Addr) (c : Nat) : Value := .agg #[.int .i64 s.al, .int .i64 s.st, .slice A s.es.length c]

/-- The slice of systems '.slice A n c' reads as ss, below block B. -/
def SysAt (w : World) (B : Nat) (A : Option Addr) (ss : List Sy) : Prop :=
  0 < ss.length → ∃ b o, A = some ⟨b, o, none⟩ ∧ b < B ∧ ∀ i (h : i < ss.length),
    w.cell? ⟨b, o + i * 3, none⟩ = some (.int .i64 ss[i].al) ∧ w.cell? ⟨b, o + i * 3 + 1, none⟩ = some (.int .i64 ss[i].st) ∧
      ∃ Ai ci, w.cell? ⟨b, o + i * 3 + 2, none⟩ = some (.slice Ai ss[i].es.length ci) ∧ ss[i].es.length ≤ ci ∧ ci ≤ 9223372036854775807 ∧ EdsAt w B Ai ss[i].es

theorem SysAt.keep {w w' : World} {B : Nat} {A : Option Addr} {ss : List Sy} (h : SysAt w B A ss) (hb : Below B w w') : SysAt w' B A ss := fun hl => by
  obtain ⟨b, o, hA, hb', hE⟩ := h hl
  refine ⟨b, o, hA, hb', fun i hi => ?_⟩
  obtain ⟨h0, h1, Ai, ci, h2, h3, h4, h5⟩ := hE i hi
  rw [hb.cell (by simpa using hb'), hb.cell (by simpa using hb'), hb.cell (by simpa using hb')]
  exact ⟨h0, h1, Ai, ci, h2, h3, h4, h5.keep hb⟩
theorem SysAt.more {w : World} {B B' : Nat} {A : Option Addr} {ss : List Sy} (h : SysAt w B A ss) (hB : B ≤ B') : SysAt w B' A ss := fun hl => by
  obtain ⟨b, o, hA, hb', hE⟩ := h hl
  refine ⟨b, o, hA, by omega, fun i hi => ?_⟩
  obtain ⟨h0, h1, Ai, ci, h2, h3, h4, h5⟩ := hE i hi
  exact ⟨h0, h1, Ai, ci, h2, h3, h4, h5.more hB⟩
/-- The system number k: its three cells in every world that is as w below block B, and its edges. -/
theorem SysAt.get {w : World} {B : Nat} {A : Option Addr} {ss : List Sy} (h : SysAt w B A ss) {k : Nat} (hk : k < ss.length) :
    ∃ b o Ai ci, A = some ⟨b, o, none⟩ ∧ b < B ∧ (∀ w', Below B w w' → w'.cell? ⟨b, o + k * 3, none⟩ = some (.int .i64 ss[k].al)) ∧ (∀ w', Below B w w' → w'.cell? ⟨b, o + k * 3 + 1, none⟩ = some (.int .i64 ss[k].st)) ∧
      (∀ w', Below B w w' → w'.cell? ⟨b, o + k * 3 + 2, none⟩ = some (.slice Ai ss[k].es.length ci)) ∧ ss[k].es.length ≤ ci ∧ ci ≤ 9223372036854775807 ∧ EdsAt w B Ai ss[k].es := by
  obtain ⟨b, o, hA, hb', hE⟩ := h (by omega)
  obtain ⟨h0, h1, Ai, ci, h2, h3, h4, h5⟩ := hE k hk
  exact ⟨b, o, Ai, ci, hA, hb', fun w' hw => by rw [hw.cell (by simpa using hb')]; exact h0, fun w' hw => by rw [hw.cell (by simpa using hb')]; exact h1,
    fun w' hw => by rw [hw.cell (by simpa using hb')]; exact h2, h3, h4, h5⟩

theorem ofInt_i64 (a : Nat) (ha : a < 9223372036854775808) : (BitVec.ofInt 64 (a : Int)).toNat = a := by
  rw [BitVec.ofInt_natCast, BitVec.toNat_ofNat]; exact Nat.mod_eq_of_lt (by omega)
/-- Block g is just the cells cs of element type t, none frozen. -/
def Blk (w : World) (g : Nat) (t : TypeId) (cs : Array Value) : Prop := w.heap[g]? = some (.cells cs t (0, 0))
section
variable {w w' : World} {g : Nat} {t : TypeId} {cs : Array Value}
theorem Blk.lt (h : Blk w g t cs) : g < w.heap.size := by
  rcases Nat.lt_or_ge g w.heap.size with hlt | hge
  · exact hlt
  · unfold Blk at h; rw [Array.getElem?_eq_none hge] at h; cases h
theorem Blk.cell (h : Blk w g t cs) (i : Nat) : w.cell? ⟨g, i, none⟩ = cs[i]? := cell_of_row w g i cs t (0, 0) h
theorem Blk.frozen (h : Blk w g t cs) (i : Nat) : w.frozen? ⟨g, i, none⟩ = false := by
  unfold Blk at h
  simp [World.frozen?, h]
theorem Blk.new (w : World) (t : TypeId) (cs : Array Value) : Blk (w.alloc (.cells cs t)) w.heap.size t cs := heap_alloc_new w _
theorem Blk.alloc (h : Blk w g t cs) (o : Obj) : Blk (w.alloc o) g t cs := (Below.heap_alloc w o g h.lt).trans h
theorem Blk.set_ (h : Blk w g t cs) (i : Nat) (u : Value) : Blk (w.setCell ⟨g, i, none⟩ u) g t (cs.setIfInBounds i u) := by
  unfold Blk at h ⊢
  simp [World.setCell, Array.getElem?_modify, h]
theorem Blk.below {B : Nat} (h : Blk w g t cs) (hb : Below B w w') (hg : g < B) : Blk w' g t cs := (hb.block g hg).trans h
end
theorem run_make_rowN {P : Program} (t e : TypeId) (i : TypeInfo) (z : Value) (ht : P.underlying t = some (.slice e)) (hi : P.info? e = some i) (hz : i.zero = some z)
    (kl kc : IntKind) (n c : Nat) (hnc : n ≤ c) (hbytes : i.bytes * c ≤ 281474976710656) (h63 : c ≤ 9223372036854775807) (w : World) :
    (Instr.makeSlice t (.int kl (n : Int)) (.int kc (c : Int))).run P w = .ok (.slice (some ⟨w.heap.size, 0, none⟩) n c) (w.alloc (.cells (madeCells z.cells (c * i.size)) e)) := by
  have hb : (i.bytes : Int) * (c : Int) ≤ 281474976710656 := by
    have h : ((i.bytes * c : Nat) : Int) ≤ 281474976710656 := by omega
    rwa [Int.natCast_mul] at h
  have hr := run_make (P := P) w t e i z ht hi hz kl kc n c (by omega) (by omega) hb (by omega)
  simp only [Int.toNat_natCast] at hr
  exact hr

/-- A slice of edges comes back; a system comes back; a slice of systems comes back. -/
def FreshA (n : Nat) (A : Option Addr) : Prop := ∀ b o, A = some ⟨b, o, none⟩ → n ≤ b
theorem EdsAt.setFar {w : World} {n : Nat} {A : Option Addr} {es : List Ed} (h : EdsAt w w.heap.size A es) (hf : FreshA n A) {g i : Nat} (v : Value) (hg : g < n) : EdsAt (w.setCell ⟨g, i, none⟩ v) (w.setCell ⟨g, i, none⟩ v).heap.size A es := fun hl => by
  obtain ⟨b, o, hA, hb', hE⟩ := h hl
  have := hf b o hA
  refine ⟨b, o, hA, by simpa [World.setCell] using hb', fun j hj => ?_⟩
  have hne : (⟨g, i, none⟩ : Addr).block ≠ b := by simp; omega
  have hq : ∀ k, (w.setCell ⟨g, i, none⟩ v).cell? ⟨b, k, none⟩ = w.cell? ⟨b, k, none⟩ := fun k => World.cell?_of_block (Below.heap_setCell _ _ _ _ (Ne.symm hne))
  rw [hq, hq, hq]
  exact hE j hj
/-- The cells of the first k edges. -/
def EdsIn (cs : Array Value) (es : List Ed) (k : Nat) : Prop :=
  cs.size = es.length * 3 ∧ ∀ i (h : i < es.length), i < k → cs[i * 3]? = some (.int .i64 es[i].f) ∧ cs[i * 3 + 1]? = some (.int .i64 es[i].l) ∧ cs[i * 3 + 2]? = some (.int .i64 es[i].t)
theorem EdsIn.next {cs : Array Value} {es : List Ed} {k : Nat} (h : EdsIn cs es k) (hk : k < es.length) :
    EdsIn (((cs.setIfInBounds (k * 3) (.int .i64 es[k].f)).setIfInBounds (k * 3 + 1) (.int .i64 es[k].l)).setIfInBounds (k * 3 + 2) (.int .i64 es[k].t)) es (k + 1) := by
  obtain ⟨hs, hc⟩ := h
  refine ⟨by simpa using hs, fun i hi hik => ?_⟩
  by_cases e : i = k
  · subst e
    refine ⟨?_, ?_, ?_⟩
    · rw [Array.getElem?_setIfInBounds_ne (by omega), Array.getElem?_setIfInBounds_ne (by omega), Array.getElem?_setIfInBounds_self_of_lt (by omega)]
    · rw [Array.getElem?_setIfInBounds_ne (by omega), Array.getElem?_setIfInBounds_self_of_lt (by simp; omega)]
    · rw [Array.getElem?_setIfInBounds_self_of_lt (by simp; omega)]
  · obtain ⟨h0, h1, h2⟩ := hc i hi (by omega)
    refine ⟨?_, ?_, ?_⟩
    · rw [Array.getElem?_setIfInBounds_ne (by omega), Array.getElem?_setIfInBounds_ne (by omega), Array.getElem?_setIfInBounds_ne (by omega)]; exact h0
    · rw [Array.getElem?_setIfInBounds_ne (by omega), Array.getElem?_setIfInBounds_ne (by omega), Array.getElem?_setIfInBounds_ne (by omega)]; exact h1
    · rw [Array.getElem?_setIfInBounds_ne (by omega), Array.getElem?_setIfInBounds_ne (by omega), Array.getElem?_setIfInBounds_ne (by omega)]; exact h2
theorem EdsIn.at_ {w : World} {g : Nat} {t : TypeId} {cs : Array Value} {es : List Ed} (hb : Blk w g t cs) (h : EdsIn cs es es.length) : EdsAt w w.heap.size (some ⟨g, 0, none⟩) es := fun _ =>
  ⟨g, 0, rfl, hb.lt, fun i hi => by
    obtain ⟨h0, h1, h2⟩ := h.2 i hi hi
    simp only [Nat.zero_add]
    rw [hb.cell, hb.cell, hb.cell]
    exact ⟨h0, h1, h2⟩⟩

theorem Blk.some_ {w : World} {g : Nat} {t : TypeId} {cs : Array Value} (h : Blk w g t cs) {i : Nat} (hi : i < cs.size) : ∃ v, w.cell? ⟨g, i, none⟩ = some v := ⟨cs[i], by rw [h.cell]; exact Array.getElem?_eq_getElem hi⟩
/-- Three cells of a block of the call's own: they may be written. -/
theorem Blk.three {w w' : World} {g B : Nat} {t : TypeId} {cs : Array Value} (h : Blk w g t cs) (hb : Below B w w') (hg : g < B) {i : Nat} (hi : i + 2 < cs.size) :
    Blk w' g t cs ∧ (∃ v, w'.cell? ⟨g, i, none⟩ = some v) ∧ (∃ v, w'.cell? ⟨g, i + 1, none⟩ = some v) ∧ (∃ v, w'.cell? ⟨g, i + 2, none⟩ = some v) ∧
      w'.frozen? ⟨g, i, none⟩ = false ∧ w'.frozen? ⟨g, i + 1, none⟩ = false ∧ w'.frozen? ⟨g, i + 2, none⟩ = false := by
  have h' := h.below hb hg
  exact ⟨h', h'.some_ (by omega), h'.some_ (by omega), h'.some_ (by omega), h'.frozen _, h'.frozen _, h'.frozen _⟩

/-- The cells of the first k systems in block g; their edges lie in later blocks. -/
def SysIn (w : World) (g : Nat) (cs : Array Value) (ss : List Sy) (k : Nat) : Prop :=
  cs.size = ss.length * 3 ∧ ∀ i (h : i < ss.length), i < k → cs[i * 3]? = some (.int .i64 ss[i].al) ∧ cs[i * 3 + 1]? = some (.int .i64 ss[i].st) ∧
    ∃ Ai ci, cs[i * 3 + 2]? = some (.slice Ai ss[i].es.length ci) ∧ ss[i].es.length ≤ ci ∧ ci ≤ 9223372036854775807 ∧ EdsAt w w.heap.size Ai ss[i].es ∧ FreshA (g + 1) Ai
theorem SysIn.later {w w' : World} {g : Nat} {cs : Array Value} {ss : List Sy} {k : Nat} (h : SysIn w g cs ss k) (hb : Below w.heap.size w w') : SysIn w' g cs ss k :=
  ⟨h.1, fun i hi hik => by
    obtain ⟨h0, h1, Ai, ci, h2, h3, h4, h5, h6⟩ := h.2 i hi hik
    exact ⟨h0, h1, Ai, ci, h2, h3, h4, (h5.keep hb).more hb.size, h6⟩⟩
theorem SysIn.set_ {w : World} {g j : Nat} {cs : Array Value} {ss : List Sy} {k : Nat} (h : SysIn w g cs ss k) (v : Value) : SysIn (w.setCell ⟨g, j, none⟩ v) g cs ss k :=
  ⟨h.1, fun i hi hik => by
    obtain ⟨h0, h1, Ai, ci, h2, h3, h4, h5, h6⟩ := h.2 i hi hik
    exact ⟨h0, h1, Ai, ci, h2, h3, h4, h5.setFar h6 v (Nat.lt_succ_self g), h6⟩⟩
theorem SysIn.next {w : World} {g : Nat} {cs : Array Value} {ss : List Sy} {k : Nat} (h : SysIn w g cs ss k) (hk : k < ss.length) {A : Option Addr} {c : Nat} (hl : ss[k].es.length ≤ c) (hc : c ≤ 9223372036854775807) (hA : EdsAt w w.heap.size A ss[k].es) (hf : FreshA (g + 1) A) :
    SysIn w g (((cs.setIfInBounds (k * 3) (.int .i64 ss[k].al)).setIfInBounds (k * 3 + 1) (.int .i64 ss[k].st)).setIfInBounds (k * 3 + 2) (.slice A ss[k].es.length c)) ss (k + 1) := by
  obtain ⟨hs, hcs⟩ := h
  refine ⟨by simpa using hs, fun i hi hik => ?_⟩
  by_cases e : i = k
  · subst e
    refine ⟨?_, ?_, A, c, ?_, hl, hc, hA, hf⟩
    · rw [Array.getElem?_setIfInBounds_ne (by omega), Array.getElem?_setIfInBounds_ne (by omega), Array.getElem?_setIfInBounds_self_of_lt (by omega)]
    · rw [Array.getElem?_setIfInBounds_ne (by omega), Array.getElem?_setIfInBounds_self_of_lt (by simp; omega)]
    · rw [Array.getElem?_setIfInBounds_self_of_lt (by simp; omega)]
  · obtain ⟨h0, h1, Ai, ci, h2, h3, h4, h5, h6⟩ := hcs i hi (by omega)
    refine ⟨?_, ?_, Ai, ci, ?_, h3, h4, h5, h6⟩
    · rw [Array.getElem?_setIfInBounds_ne (by omega), Array.getElem?_setIfInBounds_ne (by omega), Array.getElem?_setIfInBounds_ne (by omega)]; exact h0
    · rw [Array.getElem?_setIfInBounds_ne (by omega), Array.getElem?_setIfInBounds_ne (by omega), Array.getElem?_setIfInBounds_ne (by omega)]; exact h1
    · rw [Array.getElem?_setIfInBounds_ne (by omega), Array.getElem?_setIfInBounds_ne (by omega), Array.getElem?_setIfInBounds_ne (by omega)]; exact h2
theorem SysIn.at_ {w : World} {g : Nat} {t : TypeId} {cs : Array Value} {ss : List Sy} (hb : Blk w g t cs) (h : SysIn w g cs ss ss.length) : SysAt w w.heap.size (some ⟨g, 0, none⟩) ss := fun _ =>
  ⟨g, 0, rfl, hb.lt, fun i hi => by
    obtain ⟨h0, h1, Ai, ci, h2, h3, h4, h5, _⟩ := h.2 i hi hi
    simp only [Nat.zero_add]
    rw [hb.cell, hb.cell, hb.cell]
    exact ⟨h0, h1, Ai, ci, h2, h3, h4, h5⟩⟩
theorem addr_ne {g b i j : Nat} (h : b ≠ g) : (⟨g, i, none⟩ : Addr) ≠ ⟨b, j, none⟩ := fun e => h (by injection e with e1; exact e1.symm)
/-- Stores into the call's own block do not turn what lies elsewhere: an edges' slice of another block. -/
theorem EdsAt.stored {w : World} {B : Nat} {A : Option Addr} {es : List Ed} (h : EdsAt w B A es) {g i : Nat} (v : Value) (hne : ∀ b o, A = some ⟨b, o, none⟩ → 0 < es.length → b ≠ g) : EdsAt (w.setCell ⟨g, i, none⟩ v) B A es := fun hl => by
  obtain ⟨b, o, hA, hb', hE⟩ := h hl
  have := hne b o hA hl
  refine ⟨b, o, hA, hb', fun j hj => ?_⟩
  rw [World.cell?_setCell_other (h := addr_ne this), World.cell?_setCell_other (h := addr_ne this), World.cell?_setCell_other (h := addr_ne this)]
  exact hE j hj

theorem EdsAt.later {w w' : World} {A : Option Addr} {es : List Ed} (h : EdsAt w w.heap.size A es) (hb : Below w.heap.size w w') : EdsAt w' w'.heap.size A es := (h.keep hb).more hb.size
theorem SysAt.later {w w' : World} {A : Option Addr} {ss : List Sy} (h : SysAt w w.heap.size A ss) (hb : Below w.heap.size w w') : SysAt w' w'.heap.size A ss := (h.keep hb).more hb.size

/-- The cells of a table of moves behind the first k edges; the table, below block B. -/
def MvIn (cs : Array Value) (m : Nat → Nat → Nat) : Prop := cs.size = 96 ∧ ∀ q l, q < 16 → l < 6 → cs[q * 6 + l]? = some (.int .i64 (m q l))
theorem MvIn.set_ {cs : Array Value} {m m' : Nat → Nat → Nat} (h : MvIn cs m) {q0 l0 : Nat} (hq : q0 < 16) (hl : l0 < 6) {v : Int} (hv : v = (m' q0 l0 : Int)) (ho : ∀ q l, ¬ (q0 = q ∧ l0 = l) → m' q l = m q l) : MvIn (cs.setIfInBounds (q0 * 6 + l0) (.int .i64 v)) m' := by
  refine ⟨by simpa using h.1, fun q l h1 h2 => ?_⟩
  by_cases e : q0 = q ∧ l0 = l
  · obtain ⟨rfl, rfl⟩ := e
    rw [Array.getElem?_setIfInBounds_self_of_lt (by rw [h.1]; omega), hv]
  · rw [Array.getElem?_setIfInBounds_ne (by omega), h.2 q l h1 h2, ho q l e]
def MvAt (w : World) (B : Nat) (g : Nat) (m : Nat → Nat → Nat) : Prop := g < B ∧ ∀ q l, q < 16 → l < 6 → w.cell? ⟨g, q * 6 + l, none⟩ = some (.int .i64 (m q l))
theorem MvAt.keep {w w' : World} {B g : Nat} {m : Nat → Nat → Nat} (h : MvAt w B g m) (hb : Below B w w') : MvAt w' B g m := ⟨h.1, fun q l h1 h2 => by rw [hb.cell (by simpa using h.1)]; exact h.2 q l h1 h2⟩
theorem MvAt.later {w w' : World} {g : Nat} {m : Nat → Nat → Nat} (h : MvAt w w.heap.size g m) (hb : Below w.heap.size w w') : MvAt w' w'.heap.size g m := ⟨Nat.lt_of_lt_of_le h.1 hb.size, (h.keep hb).2⟩
theorem hid {p : Prop} (h : p) : Hid p := h

theorem ret_bool {a b : Bool} (h : a = b) : Ending.returned (.bool a) = .returned (.bool b) := by rw [h]
theorem ret_int {k : IntKind} {a b : Int} (h : a = b) : Ending.returned (.int k a) = .returned (.int k b) := by rw [h]

theorem ofInt_and_one (x : Int) : bits .and .i64 x 1 = x % 2 := by
  show IntKind.i64.wrap ((BitVec.ofInt 64 x &&& BitVec.ofInt 64 1).toNat : Int) = _
  have h1 : (BitVec.ofInt 64 x &&& BitVec.ofInt 64 1).toNat = (x % 2).toNat := by
    have e1 : (BitVec.ofInt 64 1).toNat = 2 ^ 1 - 1 := by decide
    rw [BitVec.toNat_and, e1, Nat.and_two_pow_sub_one_eq_mod, BitVec.toNat_ofInt]
    omega
  rw [h1, IntKind.wrap_i64]
  omega

theorem and_one_has (a : Int) (n : Nat) : (bits .and .i64 (a / (2 : Int) ^ n) 1 == 1) = Has a n := by
  rw [ofInt_and_one]; unfold Has; rw [Bool.eq_iff_iff]; simp

end AG

/- Contracts of the small functions on letters, edges and systems (the reference's). -/
namespace Go.Proofs.Ytdkjnemakkppfaa
open Go.RowKit AG

set_option maxHeartbeats 400000 in
theorem l1Alphabet_any (a : Int) (w : World) :
    Calls Try.prog 47 #[.int .i64 a] w fun e w' => e = .returned (.bool (alphaOk a)) ∧ w = w' := by
  go_enter Try.func47, Try.ntmps47
  go_wp2
  all_goals go_ret
  all_goals exact ⟨ret_bool (by unfold alphaOk; simp; omega), rfl⟩

set_option maxHeartbeats 400000 in
theorem l1Has_any (a n : Int) (w : World) (h0 : 0 ≤ n) (h1 : n ≤ 63) :
    Calls Try.prog 52 #[.int .i64 a, .int .i64 n] w fun e w' => e = .returned (.bool (Has a n.toNat)) ∧ w = w' := by
  go_enter Try.func52, Try.ntmps52
  go_wp2
  go_ret
  exact ⟨ret_bool (and_one_has _ _), rfl⟩

end Go.Proofs.Ytdkjnemakkppfaa
