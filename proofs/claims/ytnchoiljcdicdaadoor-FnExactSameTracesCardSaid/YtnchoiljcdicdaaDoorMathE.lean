/- Plain: a breadth-first search that looks at its goal when a node is taken up; the reference's search over pairs of sets. -/
import Derived.Test.YtnchoiljcdicdaaDoorMathC
import Derived.Test.YtnchoiljcdicdaaDoorMathD
namespace AG

section
variable {I : Nat → Prop} {L : List Nat} {nx : Nat → Nat → List Nat} {G : Nat → Prop} {ss : List Stp} {ws : List (List Nat)} {i : Nat}

theorem rle_of_incr (h : ∀ j j' (h : j < ws.length) (h' : j' < ws.length), j < j' → rlt ws[j] ws[j']) {j j' : Nat} (hj : j < ws.length) (hj' : j' < ws.length) (hle : j ≤ j') : rle ws[j] ws[j'] := by
  by_cases e : j = j'
  · subst e; exact .inr rfl
  · exact .inl (h j j' hj hj' (by omega))

/-- The node that is taken up is a goal, none before it was: its word is the first one. -/
theorem Bfs.popped (h : Bfs I L nx (fun _ => False) ss ws i 0) (hi : i < ss.length) (hi' : i < ws.length) (hpre : ∀ j (hj : j < ss.length), j < i → ∀ n ∈ ss[j].nodes, ¬ G n) {n : Nat} (hn : n ∈ ss[i].nodes) (hg : G n) : FirstW I L nx G ws[i] := by
  refine ⟨⟨n, h.reach i hi hi' n hn, hg⟩, fun q m hm hgm => ?_⟩
  rcases h.cover q m hm with ⟨j, g, g', hj, hr⟩ | ⟨j, m', g, g', hm', hny, hr⟩
  · by_cases hji : j < i
    · exact absurd hgm (hpre j g hji m hj)
    · exact rle_trans (rle_of_incr h.incr hi' g' (by omega)) hr
  · have hji : i ≤ j := by unfold before at hny; omega
    exact rle_trans (rle_trans (rle_of_incr h.incr hi' g' hji) (.inl (rlt_cons _ _))) hr

/-- The search has come to its end and no node was a goal. -/
theorem Bfs.nonePopped (h : Bfs I L nx (fun _ => False) ss ws ss.length 0) (hpre : ∀ j (hj : j < ss.length), ∀ n ∈ ss[j].nodes, ¬ G n) : ∀ q n, RW I L nx q n → ¬ G n := by
  intro q n hn
  rcases h.cover q n hn with ⟨j, g, g', hj, _⟩ | ⟨j, m, g, g', hm, hny, _⟩
  · exact hpre j g n hj
  · exact absurd (.inl g) hny
end

/-- A pair of sets as one number. -/
def code (p : Nat × Nat) : Nat := p.1 * 65536 + p.2
theorem code_inj {p q : Nat × Nat} (hp : p.2 < 65536) (hq : q.2 < 65536) (h : code p = code q) : p = q := by
  unfold code at h
  exact Prod.ext (by omega) (by omega)

/-- The pair behind a letter. -/
noncomputable def stepP (a b : Sy) (p : Nat × Nat) (l : Nat) : Nat × Nat := (stepSet a p.1 (l : Int), stepSet b p.2 (l : Int))
/-- The reference's search: its start, its steps, its goal. -/
def pI (n : Nat) : Prop := n = code (1, 1)
noncomputable def pN (a b : Sy) (n l : Nat) : List Nat := if (stepP a b (n / 65536, n % 65536) l).1 = 0 then [] else [code (stepP a b (n / 65536, n % 65536) l)]
def pG (n : Nat) : Prop := n % 65536 = 0
theorem code_parts {p : Nat × Nat} (h : p.2 < 65536) : (code p / 65536, code p % 65536) = p := by
  unfold code
  exact Prod.ext (by show (p.1 * 65536 + p.2) / 65536 = p.1; omega) (by show (p.1 * 65536 + p.2) % 65536 = p.2; omega)

end AG
