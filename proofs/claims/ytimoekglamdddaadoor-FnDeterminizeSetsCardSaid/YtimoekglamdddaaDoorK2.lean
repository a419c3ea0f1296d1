/- Lemmas, part 2: several texts in one. -/
import Derived.Test.YtimoekglamdddaaDoorK1
import Derived.StillTail
import Derived.Deep.Quiet
import Derived.KernelRfl
import Derived.WalkKit
import Derived.WalkSpells
import Derived.WalkLawsBesides
import Derived.BigQuiet
import Derived.Deep.QuietTactic
import Derived.Test.YtimoekglamdddaaDoorProg
set_option linter.unusedSimpArgs false
set_option linter.unusedVariables false

/- Plain: the reference's search as lists of pairs and words. -/
namespace AG

theorem nodup_bound : ∀ (N : Nat) (l : List Nat), l.Nodup → (∀ x ∈ l, x < N) → l.length ≤ N
  | 0, l, _, h => by
    cases l with
    | nil => exact Nat.le_refl _
    | cons x l => exact absurd (h x List.mem_cons_self) (by omega)
  | N + 1, l, hd, h => by
    by_cases hN : N ∈ l
    · have h1 := nodup_bound N (l.erase N) (hd.erase N) fun x hx => by
        have := (hd.mem_erase_iff).1 hx
        have := h x this.2
        omega
      rw [List.length_erase_of_mem hN] at h1
      omega
    · have := nodup_bound N l hd fun x hx => by
        have h1 := h x hx
        have h2 : x ≠ N := fun e => hN (e ▸ hx)
        omega
      omega

/-- The state of the reference's search. -/
structure PB (a b : Sy) (L : List Nat) (ps : List (Nat × Nat)) (ws : List (List Nat)) (i k : Nat) : Prop where
  bfs : ∃ ss : List Stp, ss.map (·.nodes) = ps.map (fun p => [code p]) ∧ Bfs pI L (pN a b) (fun _ => False) ss ws i k
  small : ∀ p ∈ ps, p.1 < 65536 ∧ p.2 < 65536
  nodup : ps.Nodup

section
variable {a b : Sy} {L : List Nat} {ps : List (Nat × Nat)} {ws : List (List Nat)} {i k : Nat}

theorem nodes_at {ss : List Stp} (h : ss.map (·.nodes) = ps.map (fun p => [code p])) : ss.length = ps.length ∧ ∀ j (hj : j < ss.length) (hj' : j < ps.length), ss[j].nodes = [code ps[j]] := by
  have hl : ss.length = ps.length := by simpa using congrArg List.length h
  refine ⟨hl, fun j hj hj' => ?_⟩
  have := congrArg (·[j]?) h
  simpa [hj, hj'] using this

theorem PB.begin : PB a b L [(1, 1)] [[]] 0 0 :=
  ⟨⟨[⟨-1, 0, [code (1, 1)]⟩], rfl, Bfs.begin (fun n => by simp [pI]) (fun _ _ h => h)⟩, fun p hp => by simp at hp; subst hp; decide, by simp⟩

theorem PB.len (h : PB a b L ps ws i k) : ws.length = ps.length := by
  obtain ⟨ss, hs, hb⟩ := h.bfs
  rw [hb.len, (nodes_at hs).1]

theorem Bfs.wlen {I : Nat → Prop} {L : List Nat} {nx : Nat → Nat → List Nat} {G : Nat → Prop} {ss : List Stp} {ws : List (List Nat)} {i k : Nat} (h : Bfs I L nx G ss ws i k) : ∀ j (hj : j < ws.length), ws[j].length ≤ j := by
  intro j
  induction j using Nat.strongRecOn with
  | _ j ih =>
    intro hj
    by_cases e : j = 0
    · subst e
      rw [h.zero hj]
      exact Nat.le_refl _
    · obtain ⟨p, q, hpj, _, _, hp, _, _, hw⟩ := h.link j (by rw [← h.len]; exact hj) hj (by omega)
      have := ih p hpj hp
      rw [hw, List.length_cons]
      omega
theorem PB.wlen (h : PB a b L ps ws i k) {j : Nat} (hj : j < ws.length) : ws[j].length ≤ j := by
  obtain ⟨ss, _, hb⟩ := h.bfs
  exact hb.wlen j hj

theorem PB.bound (h : PB a b L ps ws i k) : ps.length ≤ 4294967296 := by
  have h1 : (ps.map code).Nodup := by
    refine List.pairwise_map.2 (h.nodup.imp_of_mem fun {x y} hx hy hne he => hne (code_inj (h.small x hx).2 (h.small y hy).2 he))
  have h2 := nodup_bound 4294967296 (ps.map code) h1 fun x hx => by
    obtain ⟨p, hp, rfl⟩ := List.mem_map.1 hx
    have := h.small p hp
    unfold code
    omega
  simpa using h2

theorem PB.over (h : PB a b L ps ws i k) (hk : L.length ≤ k) : PB a b L ps ws (i + 1) 0 := by
  obtain ⟨ss, hs, hb⟩ := h.bfs
  exact ⟨⟨ss, hs, hb.over hk⟩, h.small, h.nodup⟩

theorem PB.skip (h : PB a b L ps ws i k) (hL : L.Pairwise (· < ·)) (hi : i < ps.length) (hk : k < L.length) (hq : (stepP a b ps[i] L[k]).1 = 0 ∨ stepP a b ps[i] L[k] ∈ ps) : PB a b L ps ws i (k + 1) := by
  obtain ⟨ss, hs, hb⟩ := h.bfs
  obtain ⟨hl, hn⟩ := nodes_at hs
  refine ⟨⟨ss, hs, hb.stale hL (by omega) hk fun n hn1 n' hn2 => ?_⟩, h.small, h.nodup⟩
  rw [hn i (by omega) hi, List.mem_singleton] at hn1
  subst hn1
  unfold pN at hn2
  rw [code_parts (h.small _ (List.getElem_mem hi)).2] at hn2
  rcases hq with hq | hq
  · rw [if_pos hq] at hn2
    cases hn2
  · split at hn2
    · cases hn2
    · rw [List.mem_singleton] at hn2
      obtain ⟨j, hj, he⟩ := List.mem_iff_getElem.1 hq
      exact ⟨j, by omega, by rw [hn j (by omega) hj, List.mem_singleton, hn2, he]⟩

theorem PB.add (h : PB a b L ps ws i k) (hL : L.Pairwise (· < ·)) (hi : i < ps.length) (hi' : i < ws.length) (hk : k < L.length) (h0 : (stepP a b ps[i] L[k]).1 ≠ 0) (hq : stepP a b ps[i] L[k] ∉ ps) :
    PB a b L (ps ++ [stepP a b ps[i] L[k]]) (ws ++ [L[k] :: ws[i]]) i (k + 1) := by
  obtain ⟨ss, hs, hb⟩ := h.bfs
  obtain ⟨hl, hn⟩ := nodes_at hs
  have hN : pN a b (code ps[i]) L[k] = [code (stepP a b ps[i] L[k])] := by
    unfold pN
    rw [code_parts (h.small _ (List.getElem_mem hi)).2, if_neg h0]
  refine ⟨⟨ss ++ [⟨i, L[k], [code (stepP a b ps[i] L[k])]⟩], by rw [List.map_append, List.map_append, hs]; rfl, hb.fresh hL (by omega) hi' hk (fun n' hn' => ?_) (fun n hn1 n' hn2 => ?_) (fun _ _ h => h)⟩, fun p hp => ?_, ?_⟩
  · exact ⟨code ps[i], by rw [hn i (by omega) hi]; exact List.mem_singleton.2 rfl, by rw [hN]; exact hn'⟩
  · rw [hn i (by omega) hi, List.mem_singleton] at hn1
    subst hn1
    rw [hN] at hn2
    exact .inl hn2
  · rcases List.mem_append.1 hp with hp | hp
    · exact h.small p hp
    · rw [List.mem_singleton] at hp
      subst hp
      exact ⟨stepSet_lt _ _ _, stepSet_lt _ _ _⟩
  · rw [List.nodup_append]
    refine ⟨h.nodup, by simp, fun x hx y hy e => ?_⟩
    rw [List.mem_singleton] at hy
    subst hy e
    exact hq hx

theorem PB.found (h : PB a b L ps ws i 0) (hi : i < ps.length) (hi' : i < ws.length) (hpre : ∀ j (hj : j < ps.length), j < i → ps[j].2 ≠ 0) (h0 : ps[i].2 = 0) : FirstW pI L (pN a b) pG ws[i] := by
  obtain ⟨ss, hs, hb⟩ := h.bfs
  obtain ⟨hl, hn⟩ := nodes_at hs
  refine hb.popped (by omega) hi' (fun j hj hji n hnj hg => ?_) (n := code ps[i]) (by rw [hn i (by omega) hi]; exact List.mem_singleton.2 rfl) ?_
  · rw [hn j hj (by omega), List.mem_singleton] at hnj
    subst hnj
    have := h.small _ (List.getElem_mem (show j < ps.length by omega))
    refine hpre j (by omega) hji ?_
    unfold pG code at hg
    omega
  · unfold pG code
    omega

theorem PB.none (h : PB a b L ps ws ps.length 0) (hpre : ∀ j (hj : j < ps.length), ps[j].2 ≠ 0) : ∀ q n, RW pI L (pN a b) q n → ¬ pG n := by
  obtain ⟨ss, hs, hb⟩ := h.bfs
  obtain ⟨hl, hn⟩ := nodes_at hs
  rw [← hl] at hb
  refine hb.nonePopped fun j hj n hnj hg => ?_
  rw [hn j hj (by omega), List.mem_singleton] at hnj
  subst hnj
  have := h.small _ (List.getElem_mem (show j < ps.length by omega))
  refine hpre j (by omega) ?_
  unfold pG code at hg
  omega
end

end AG

/- Plain: the program's breadth-first search. -/
namespace AG

/-- The state of the search. -/
structure SB (I : Nat → Prop) (L : List Nat) (nx : Nat → Nat → List Nat) (G : Nat → Bool) (size : Nat) (ss : List Stp) (ws : List (List Nat)) (S : Nat → Bool) (i k : Nat) : Prop where
  bfs : Bfs I L nx (fun n => G n = true) ss ws i k
  seen : ∀ n, S n = true ↔ ∃ x ∈ ss, n ∈ x.nodes
  small : ∀ x ∈ ss, ∀ n ∈ x.nodes, n < size
  ne : ∀ x ∈ ss, x.nodes ≠ []
  nodup : (ss.flatMap (·.nodes)).Nodup

section
variable {I : Nat → Prop} {L : List Nat} {nx : Nat → Nat → List Nat} {G : Nat → Bool} {size : Nat} {ss : List Stp} {ws : List (List Nat)} {S : Nat → Bool} {i k : Nat}

theorem flat_len : ∀ {ss : List Stp}, (∀ x ∈ ss, x.nodes ≠ []) → ss.length ≤ (ss.flatMap (·.nodes)).length
  | [], _ => Nat.le_refl _
  | x :: ss, h => by
    have h1 := flat_len (ss := ss) fun y hy => h y (List.mem_cons_of_mem _ hy)
    have h2 : 0 < x.nodes.length := List.length_pos_iff.2 (h x List.mem_cons_self)
    rw [List.flatMap_cons, List.length_append, List.length_cons]
    omega
theorem flat_nodup : ∀ {ss : List Stp} {x : Stp}, (ss.flatMap (·.nodes)).Nodup → x ∈ ss → x.nodes.Nodup
  | y :: ss, x, h, hx => by
    rw [List.flatMap_cons, List.nodup_append] at h
    rcases List.mem_cons.1 hx with rfl | hx
    · exact h.1
    · exact flat_nodup h.2.1 hx
theorem SB.bound (h : SB I L nx G size ss ws S i k) : ss.length ≤ size := by
  refine Nat.le_trans (flat_len h.ne) (nodup_bound size _ h.nodup fun x hx => ?_)
  obtain ⟨y, hy, hxy⟩ := List.mem_flatMap.1 hx
  exact h.small y hy x hxy
theorem SB.nodesLen (h : SB I L nx G size ss ws S i k) {x : Stp} (hx : x ∈ ss) : x.nodes.length ≤ size := by
  exact nodup_bound size _ (flat_nodup h.nodup hx) (h.small x hx)

theorem SB.begin {I0 : List Nat} (h0 : I0 ≠ []) (hs : ∀ n ∈ I0, n < size) (hg : (frs (fun _ => false) I0).any G = false) :
    SB (fun n => n ∈ I0) L nx G size [⟨-1, 0, frs (fun _ => false) I0⟩] [[]] (fun n => (frs (fun _ => false) I0).contains n) 0 0 := by
  have hm : ∀ n, n ∈ frs (fun _ => false) I0 ↔ n ∈ I0 := fun n => by rw [frs_mem]; simp
  refine ⟨Bfs.begin hm fun n hn e => ?_, fun n => by simp, fun x hx n hn => ?_, fun x hx e => ?_, by simpa using frs_nodup _ _⟩
  · rw [List.any_eq_false] at hg
    exact hg n hn e
  · rw [List.mem_singleton] at hx
    subst hx
    exact hs n ((hm n).1 hn)
  · rw [List.mem_singleton] at hx
    subst hx
    obtain ⟨a, ha⟩ := List.exists_mem_of_ne_nil _ h0
    have := (hm a).2 ha
    simp only at e
    rw [e] at this
    cases this
/-- The goal is among the first nodes. -/
theorem first_now {I0 : List Nat} (hg : (frs (fun _ => false) I0).any G = true) : FirstW (fun n => n ∈ I0) L nx (fun n => G n = true) [] := by
  rw [List.any_eq_true] at hg
  obtain ⟨n, hn, h⟩ := hg
  exact ⟨⟨n, ((frs_mem _ _ _).1 hn).1, h⟩, fun q m _ _ => rle_nil q⟩

/-- What the nodes of step i reach by letter number k. -/
def reachedL (nx : Nat → Nat → List Nat) (l : Nat) (ns : List Nat) : List Nat := ns.flatMap fun n => nx n l
theorem reachedL_snoc (l : Nat) (ns : List Nat) (n : Nat) : reachedL nx l (ns ++ [n]) = reachedL nx l ns ++ nx n l := by unfold reachedL; rw [List.flatMap_append]; simp
theorem reachedL_mem {l : Nat} {ns : List Nat} {x : Nat} : x ∈ reachedL nx l ns ↔ ∃ n ∈ ns, x ∈ nx n l := by unfold reachedL; rw [List.mem_flatMap]

theorem SB.over (h : SB I L nx G size ss ws S i k) (hk : L.length ≤ k) : SB I L nx G size ss ws S (i + 1) 0 := ⟨h.bfs.over hk, h.seen, h.small, h.ne, h.nodup⟩

theorem SB.old (h : SB I L nx G size ss ws S i k) (hL : L.Pairwise (· < ·)) (hi : i < ss.length) (hk : k < L.length) (hf : frs S (reachedL nx L[k] ss[i].nodes) = []) : SB I L nx G size ss ws S i (k + 1) := by
  refine ⟨h.bfs.stale hL hi hk fun n hn n' hn' => ?_, h.seen, h.small, h.ne, h.nodup⟩
  have hno : ¬ n' ∈ frs S (reachedL nx L[k] ss[i].nodes) := by rw [hf]; simp
  rw [frs_mem] at hno
  have hS : S n' = true := by
    cases hS : S n'
    · exact absurd ⟨reachedL_mem.2 ⟨n, hn, hn'⟩, hS⟩ hno
    · rfl
  obtain ⟨x, hx, hxn⟩ := (h.seen n').1 hS
  obtain ⟨j, hj, rfl⟩ := List.mem_iff_getElem.1 hx
  exact ⟨j, hj, hxn⟩

theorem SB.add (h : SB I L nx G size ss ws S i k) (hL : L.Pairwise (· < ·)) (hi : i < ss.length) (hi' : i < ws.length) (hk : k < L.length) (hnx : ∀ q, q < size → ∀ n ∈ nx q L[k], n < size) {fr : List Nat} (hf : fr = frs S (reachedL nx L[k] ss[i].nodes))
    (hne : fr ≠ []) (hg : fr.any G = false) :
    SB I L nx G size (ss ++ [⟨i, L[k], fr⟩]) (ws ++ [L[k] :: ws[i]]) (fun n => S n || fr.contains n) i (k + 1) := by
  have hm : ∀ n, n ∈ fr ↔ n ∈ reachedL nx L[k] ss[i].nodes ∧ S n = false := fun n => by rw [hf, frs_mem]
  refine ⟨h.bfs.fresh hL hi hi' hk (fun n' hn' => ?_) (fun n hn n' hn' => ?_) (fun n' hn' e => ?_), fun n => ?_, fun x hx n hn => ?_, fun x hx => ?_, ?_⟩
  · exact reachedL_mem.1 ((hm n').1 hn').1
  · cases hS : S n'
    · exact .inl ((hm n').2 ⟨reachedL_mem.2 ⟨n, hn, hn'⟩, hS⟩)
    · obtain ⟨x, hx, hxn⟩ := (h.seen n').1 hS
      obtain ⟨j, hj, rfl⟩ := List.mem_iff_getElem.1 hx
      exact .inr ⟨j, hj, hxn⟩
  · rw [List.any_eq_false] at hg
    exact hg n' hn' e
  · rw [Bool.or_eq_true, h.seen]
    constructor
    · rintro (⟨x, hx, hn⟩ | hn)
      · exact ⟨x, List.mem_append_left _ hx, hn⟩
      · exact ⟨_, List.mem_append_right _ (List.mem_singleton.2 rfl), by simpa using hn⟩
    · rintro ⟨x, hx, hn⟩
      rcases List.mem_append.1 hx with hx | hx
      · exact .inl ⟨x, hx, hn⟩
      · rw [List.mem_singleton] at hx
        subst hx
        exact .inr (by simpa using hn)
  · rcases List.mem_append.1 hx with hx | hx
    · exact h.small x hx n hn
    · rw [List.mem_singleton] at hx
      subst hx
      obtain ⟨q, hq, hnq⟩ := reachedL_mem.1 ((hm n).1 hn).1
      exact hnx q (h.small _ (List.getElem_mem hi) q hq) n hnq
  · rcases List.mem_append.1 hx with hx | hx
    · exact h.ne x hx
    · rw [List.mem_singleton] at hx
      subst hx
      exact hne
  · rw [List.flatMap_append, List.nodup_append]
    refine ⟨h.nodup, by simp only [List.flatMap_cons, List.flatMap_nil, List.append_nil]; rw [hf]; exact frs_nodup _ _, fun a ha b hb e => ?_⟩
    subst e
    simp only [List.flatMap_cons, List.flatMap_nil, List.append_nil] at hb
    obtain ⟨x, hx, hxa⟩ := List.mem_flatMap.1 ha
    have h1 := (h.seen a).2 ⟨x, hx, hxa⟩
    have h2 := ((hm a).1 hb).2
    rw [h1] at h2
    cases h2

theorem SB.found (h : SB I L nx G size ss ws S i k) (hL : L.Pairwise (· < ·)) (hi : i < ss.length) (hi' : i < ws.length) (hk : k < L.length) (hg : (frs S (reachedL nx L[k] ss[i].nodes)).any G = true) :
    FirstW I L nx (fun n => G n = true) (L[k] :: ws[i]) := by
  rw [List.any_eq_true] at hg
  obtain ⟨n', hn', hG⟩ := hg
  obtain ⟨n, hn, hnn⟩ := reachedL_mem.1 ((frs_mem _ _ _).1 hn').1
  exact h.bfs.found hL hi hi' hk hn hnn hG
theorem SB.none (h : SB I L nx G size ss ws S ss.length 0) : ∀ q n, RW I L nx q n → ¬ G n = true := h.bfs.none
end
end AG

/- Plain: both searches for a trace outside have one answer. -/
namespace AG

/-- The set of states to which a word leads (its last letter first). -/
noncomputable def setW (s : Sy) : List Nat → Nat
  | [] => 1
  | l :: r => stepSet s (setW s r) (l : Int)

theorem mv_small {s : Sy} (hs : edgesIn s) (q l : Nat) : mv s q l < 2 ^ s.st.toNat := by
  refine Nat.lt_pow_two_of_testBit _ fun i hi => ?_
  rw [← Bool.not_eq_true, mv_testBit]
  rintro ⟨_, e, he, _, _, rfl⟩
  have := hs e he
  omega
theorem unionOf_testBit (m : Nat → Nat → Nat) (S l t : Nat) : (unionOf m S l).testBit t = true ↔ t < 16 ∧ ∃ q, S.testBit q = true ∧ (m q l).testBit t = true := by
  unfold unionOf
  exact bitsOf_testBit _ _ _
theorem unionOf_small {s : Sy} (hs : edgesIn s) (S l : Nat) : unionOf (mv s) S l < 2 ^ s.st.toNat := by
  refine Nat.lt_pow_two_of_testBit _ fun i hi => ?_
  rw [← Bool.not_eq_true, unionOf_testBit]
  rintro ⟨_, q, _, h⟩
  have := testBit_lt (mv_small hs q l) h
  omega
theorem setW_small {s : Sy} (hs : edgesIn s) (h1 : 1 ≤ s.st) : ∀ r, setW s r < 2 ^ s.st.toNat
  | [] => by
    have : 2 ^ 1 ≤ 2 ^ s.st.toNat := Nat.pow_le_pow_right (by omega) (by omega)
    show 1 < _
    omega
  | l :: r => by
    show stepSet s (setW s r) (l : Int) < _
    rw [← unionOf_mv s hs]
    exact unionOf_small hs _ _
theorem setW_lt (s : Sy) : ∀ r, setW s r < 65536
  | [] => by show 1 < _; omega
  | l :: r => stepSet_lt _ _ _
theorem stepSet_zero (s : Sy) (l : Int) : stepSet s 0 l = 0 := by
  refine Nat.eq_of_testBit_eq fun t => ?_
  rw [Nat.zero_testBit, ← Bool.not_eq_true]
  unfold stepSet
  rw [bitsOf_testBit]
  rintro ⟨_, e, _, _, h, _⟩
  simp at h

/-- A word that is a trace of s and none of t. -/
def Outside (s t : Sy) (r : List Nat) : Prop := (∀ l ∈ r, l ∈ letters s.al) ∧ setW s r ≠ 0 ∧ setW t r = 0
def IsOut (s t : Sy) (o : Option (List Nat)) : Prop :=
  if cmpOk s t = true then
    match o with
    | some r => Outside s t r ∧ ∀ q, Outside s t q → rle r q
    | none => ∀ q, ¬ Outside s t q
  else o = none
theorem IsOut.unique {s t : Sy} {o o' : Option (List Nat)} (h : IsOut s t o) (h' : IsOut s t o') : o = o' := by
  unfold IsOut at h h'
  split at h
  · rename_i hc
    rw [if_pos hc] at h'
    cases o with
    | some r =>
      cases o' with
      | some r' => rw [rle_antisymm (h.2 _ h'.1) (h'.2 _ h.1)]
      | none => exact absurd h.1 (h' r)
    | none =>
      cases o' with
      | some r' => exact absurd h'.1 (h r')
      | none => rfl
  · rename_i hc
    rw [if_neg hc] at h'
    rw [h, h']

theorem out_of_first {s t : Sy} {I : Nat → Prop} {L : List Nat} {nx : Nat → Nat → List Nat} {G : Nat → Prop} (hH : ∀ r, (∃ n, RW I L nx r n ∧ G n) ↔ Outside s t r) (hc : cmpOk s t = true) {o : Option (List Nat)}
    (h : match o with | some r => FirstW I L nx G r | none => ∀ q n, RW I L nx q n → ¬ G n) : IsOut s t o := by
  unfold IsOut
  rw [if_pos hc]
  cases o with
  | some r =>
    obtain ⟨h1, h2⟩ := h
    refine ⟨(hH r).1 h1, fun q hq => ?_⟩
    obtain ⟨n, hn, hg⟩ := (hH q).2 hq
    exact h2 q n hn hg
  | none =>
    intro q hq
    obtain ⟨n, hn, hg⟩ := (hH q).2 hq
    exact h q n hn hg

/-- The reference's nodes. -/
theorem spec_nodes {s t : Sy} : ∀ r n, RW pI (letters s.al) (pN s t) r n ↔ (∀ l ∈ r, l ∈ letters s.al) ∧ setW s r ≠ 0 ∧ n = code (setW s r, setW t r) := by
  intro r
  induction r with
  | nil =>
    intro n
    show pI n ↔ _
    unfold pI
    constructor
    · intro h; exact ⟨(fun l hl => by cases hl), (by show (1 : Nat) ≠ 0; decide), h⟩
    · rintro ⟨_, _, h⟩; exact h
  | cons l r ih =>
    intro n
    show (l ∈ letters s.al ∧ ∃ m, RW pI (letters s.al) (pN s t) r m ∧ n ∈ pN s t m l) ↔ _
    constructor
    · rintro ⟨hl, m, hm, hn⟩
      obtain ⟨h1, h2, rfl⟩ := (ih m).1 hm
      unfold pN at hn
      rw [code_parts (setW_lt t r)] at hn
      split at hn
      · cases hn
      · rename_i h0
        rw [List.mem_singleton] at hn
        exact ⟨fun x hx => by rcases List.mem_cons.1 hx with rfl | hx; exact hl; exact h1 x hx, h0, hn⟩
    · rintro ⟨h1, h2, rfl⟩
      have h3 : setW s r ≠ 0 := fun e => h2 (by show stepSet s (setW s r) _ = 0; rw [e, stepSet_zero])
      refine ⟨h1 l List.mem_cons_self, _, (ih _).2 ⟨fun x hx => h1 x (List.mem_cons_of_mem _ hx), h3, rfl⟩, ?_⟩
      unfold pN
      rw [code_parts (setW_lt t r), if_neg (show ¬ (stepP s t (setW s r, setW t r) l).1 = 0 from h2)]
      exact List.mem_singleton.2 rfl
theorem spec_hits {s t : Sy} (r : List Nat) : (∃ n, RW pI (letters s.al) (pN s t) r n ∧ pG n) ↔ Outside s t r := by
  constructor
  · rintro ⟨n, hn, hg⟩
    obtain ⟨h1, h2, rfl⟩ := (spec_nodes r n).1 hn
    refine ⟨h1, h2, ?_⟩
    have := setW_lt t r
    unfold pG code at hg
    omega
  · rintro ⟨h1, h2, h3⟩
    exact ⟨_, (spec_nodes r _).2 ⟨h1, h2, rfl⟩, by unfold pG code; rw [h3]; omega⟩

/-- The program's nodes: a state of s and the set of t. -/
noncomputable def outNx (s t : Sy) (z : Nat) (node l : Nat) : List Nat := (memL (mv s (node / z) l)).map fun q => q * z + unionOf (mv t) (node % z) l
theorem impl_nodes {s t : Sy} (hs : edgesIn s) (ht : edgesIn t) (h1 : 1 ≤ t.st) : ∀ r n, RW (fun n => n ∈ [1]) (letters s.al) (outNx s t (2 ^ t.st.toNat)) r n ↔
    (∀ l ∈ r, l ∈ letters s.al) ∧ ∃ q, (setW s r).testBit q = true ∧ n = q * 2 ^ t.st.toNat + setW t r := by
  intro r
  have hz : 0 < 2 ^ t.st.toNat := Nat.two_pow_pos _
  induction r with
  | nil =>
    intro n
    show n ∈ [1] ↔ _
    rw [List.mem_singleton]
    constructor
    · rintro rfl
      exact ⟨(fun l hl => by cases hl), 0, (by show (1 : Nat).testBit 0 = true; decide), (by show 1 = 0 * _ + 1; omega)⟩
    · rintro ⟨_, q, hq, rfl⟩
      have hq0 : q = 0 := by
        have : (1 : Nat).testBit q = true := hq
        have := testBit_lt (n := 1) (S := 1) (by decide) this
        omega
      subst hq0
      show 0 * _ + 1 = 1
      omega
  | cons l r ih =>
    intro n
    show (l ∈ letters s.al ∧ ∃ m, RW (fun n => n ∈ [1]) (letters s.al) (outNx s t (2 ^ t.st.toNat)) r m ∧ n ∈ outNx s t (2 ^ t.st.toNat) m l) ↔ _
    have hd : ∀ q, (q * 2 ^ t.st.toNat + setW t r) / 2 ^ t.st.toNat = q ∧ (q * 2 ^ t.st.toNat + setW t r) % 2 ^ t.st.toNat = setW t r := fun q => by
      have hlt := setW_small ht h1 r
      constructor
      · rw [Nat.mul_comm, Nat.mul_add_div hz, Nat.div_eq_of_lt hlt]; omega
      · rw [Nat.mul_comm, Nat.mul_add_mod, Nat.mod_eq_of_lt hlt]
    have hS : setW t (l :: r) = unionOf (mv t) (setW t r) l := (unionOf_mv t ht _ _).symm
    have hsS : setW s (l :: r) = unionOf (mv s) (setW s r) l := (unionOf_mv s hs _ _).symm
    constructor
    · rintro ⟨hl, m, hm, hn⟩
      obtain ⟨h2, q, hq, rfl⟩ := (ih m).1 hm
      unfold outNx at hn
      rw [(hd q).1, (hd q).2] at hn
      obtain ⟨q', hq', rfl⟩ := List.mem_map.1 hn
      obtain ⟨h16, hb⟩ := memL_mem.1 hq'
      refine ⟨fun x hx => by rcases List.mem_cons.1 hx with rfl | hx; exact hl; exact h2 x hx, q', ?_, by rw [hS]⟩
      rw [hsS, unionOf_testBit]
      exact ⟨h16, q, hq, hb⟩
    · rintro ⟨h2, q', hq', rfl⟩
      rw [hsS, unionOf_testBit] at hq'
      obtain ⟨h16, q, hq, hb⟩ := hq'
      refine ⟨h2 l List.mem_cons_self, _, (ih _).2 ⟨fun x hx => h2 x (List.mem_cons_of_mem _ hx), q, hq, rfl⟩, ?_⟩
      unfold outNx
      rw [(hd q).1, (hd q).2, hS]
      exact List.mem_map.2 ⟨q', memL_mem.2 ⟨h16, hb⟩, rfl⟩
theorem impl_hits {s t : Sy} (hs : edgesIn s) (ht : edgesIn t) (h1 : 1 ≤ t.st) (r : List Nat) : (∃ n, RW (fun n => n ∈ [1]) (letters s.al) (outNx s t (2 ^ t.st.toNat)) r n ∧ decide (n % 2 ^ t.st.toNat = 0) = true) ↔ Outside s t r := by
  have hlt := setW_small ht h1 r
  constructor
  · rintro ⟨n, hn, hg⟩
    obtain ⟨h2, q, hq, rfl⟩ := (impl_nodes hs ht h1 r n).1 hn
    refine ⟨h2, fun e => ?_, ?_⟩
    · rw [e, Nat.zero_testBit] at hq; cases hq
    · rw [decide_eq_true_eq, Nat.mul_comm, Nat.mul_add_mod, Nat.mod_eq_of_lt hlt] at hg
      exact hg
  · rintro ⟨h2, h3, h4⟩
    obtain ⟨q, hq⟩ := Nat.exists_testBit_of_ne_zero h3
    refine ⟨_, (impl_nodes hs ht h1 r _).2 ⟨h2, q, hq, rfl⟩, ?_⟩
    rw [h4]
    simp
end AG

/- Plain: automata as lists; the automaton of the sets of states to which words lead. -/
namespace AG

structure Au where
  al : Int
  nx : List (List Int)
  ac : List Bool
  deriving DecidableEq

def auNil : Au := ⟨0, [], []⟩
def toRows (R : List (List Nat)) : List (List Int) := R.map fun r => r.map fun (n : Nat) => (n : Int)
/-- The letters of a that are not in b. -/
def hidA (a b : Int) : Int := a - andB a b
noncomputable def prNx (s : Sy) (h : Int) (S l : Nat) : Nat := reachSet s h (stepSet s S (l : Int))
noncomputable def prNum (s : Sy) (al : Int) : Option (List Nat × List (List Nat)) := numRes (prNx s (hidA s.al al)) (letters al) (reachSet s (hidA s.al al) 1) 12
def prAu (al : Int) (x : List Nat × List (List Nat)) : Au := ⟨al, toRows x.2, x.1.map fun S => decide (S ≠ 0)⟩
def prOk (s : Sy) (al : Int) : Bool := sysOk s && (alphaOk al && decide (andB s.al al = al))
noncomputable def prOpt (s : Sy) (al : Int) : Option Au := if prOk s al = true then (prNum s al).map (prAu al) else none
noncomputable def prA (s : Sy) (al : Int) : Au := (prOpt s al).getD auNil
noncomputable def prK (s : Sy) (al : Int) : Bool := (prOpt s al).isSome
theorem prA_bad {s : Sy} {al : Int} (h : prOk s al = false) : prA s al = auNil ∧ prK s al = false := by
  unfold prA prK prOpt
  rw [h]
  exact ⟨rfl, rfl⟩
theorem prA_none {s : Sy} {al : Int} (h : prNum s al = none) : prA s al = auNil ∧ prK s al = false := by
  unfold prA prK prOpt
  rw [h]
  split <;> exact ⟨rfl, rfl⟩
theorem prA_some {s : Sy} {al : Int} {x : List Nat × List (List Nat)} (hk : prOk s al = true) (h : prNum s al = some x) : prA s al = prAu al x ∧ prK s al = true := by
  unfold prA prK prOpt
  rw [if_pos hk, h]
  exact ⟨rfl, rfl⟩
theorem toRows_len (R : List (List Nat)) : (toRows R).length = R.length := by unfold toRows; rw [List.length_map]

theorem alphaOk_rng {a : Int} (h : alphaOk a = true) : 0 ≤ a ∧ a ≤ 63 := by unfold alphaOk at h; simpa using h
theorem prOk_parts {s : Sy} {al : Int} (h : prOk s al = true) : sysOk s = true ∧ (0 ≤ al ∧ al ≤ 63) ∧ andB s.al al = al := by
  unfold prOk at h
  simp only [Bool.and_eq_true, decide_eq_true_eq] at h
  exact ⟨h.1, alphaOk_rng h.2.1, h.2.2⟩

theorem numRes_len {nx : Nat → Nat → Nat} {L : List Nat} {n0 lim : Nat} {x : List Nat × List (List Nat)} (h : numRes nx L n0 lim = some x) : x.1.length ≤ lim ∧ x.2.length = x.1.length ∧ (∀ r ∈ x.2, r.length = L.length) := by
  unfold numRes at h
  split at h
  · rename_i hl
    injection h with h
    subst h
    refine ⟨hl, by simp, fun r hr => ?_⟩
    obtain ⟨a, _, rfl⟩ := List.mem_map.1 hr
    unfold rowOf
    rw [List.length_map]
  · cases h
theorem addN_len (ns : List Nat) (x : Nat) : (addN ns x).length ≤ ns.length + 1 := by
  unfold addN
  split
  · omega
  · simp
theorem rowN_len (nx : Nat → Nat → Nat) (a : Nat) : ∀ (L ns : List Nat), (rowN nx a ns L).length ≤ ns.length + L.length
  | [], ns => by simp [rowN]
  | l :: L, ns => by
    have h1 := addN_len ns (nx a l)
    have h2 := rowN_len nx a L (addN ns (nx a l))
    show (rowN nx a (addN ns (nx a l)) L).length ≤ _
    rw [List.length_cons]
    omega
theorem nsAt_len (nx : Nat → Nat → Nat) (L : List Nat) (n0 : Nat) : ∀ i, (nsAt nx L n0 i).length ≤ 1 + i * L.length
  | 0 => by simp [nsAt]
  | i + 1 => by
    have ih := nsAt_len nx L n0 i
    by_cases h : i < (nsAt nx L n0 i).length
    · rw [nsAt_succ h]
      have := rowN_len nx (nsAt nx L n0 i)[i] L (nsAt nx L n0 i)
      rw [Nat.add_mul]
      omega
    · have := nsAt_stop (nx := nx) (L := L) (n0 := n0) (i := i) (by omega) 1
      rw [this, Nat.add_mul]
      omega
theorem nsAt_all {P : Nat → Prop} {nx : Nat → Nat → Nat} {L : List Nat} {n0 : Nat} (h0 : P n0) (hs : ∀ a, P a → ∀ l ∈ L, P (nx a l)) : ∀ i, ∀ a ∈ nsAt nx L n0 i, P a
  | 0, a, ha => by rw [nsAt_zero] at ha; rw [List.mem_singleton.1 ha]; exact h0
  | i + 1, a, ha => by
    have ih := nsAt_all (nx := nx) (L := L) h0 hs i
    by_cases h : i < (nsAt nx L n0 i).length
    · rw [nsAt_succ h] at ha
      have hb := ih _ (List.getElem_mem h)
      have key : ∀ (M ns : List Nat), (∀ x ∈ ns, P x) → (∀ l ∈ M, l ∈ L) → ∀ x ∈ rowN nx (nsAt nx L n0 i)[i] ns M, P x := by
        intro M
        induction M with
        | nil => intro ns h1 _ x hx; exact h1 x hx
        | cons l M ihM =>
          intro ns h1 h2 x hx
          refine ihM (addN ns (nx (nsAt nx L n0 i)[i] l)) (fun y hy => ?_) (fun y hy => h2 y (List.mem_cons_of_mem _ hy)) x hx
          unfold addN at hy
          split at hy
          · exact h1 y hy
          · rcases List.mem_append.1 hy with hy | hy
            · exact h1 y hy
            · rw [List.mem_singleton.1 hy]
              exact hs _ hb _ (h2 l List.mem_cons_self)
      exact key L _ ih (fun l hl => hl) a ha
    · have := nsAt_stop (nx := nx) (L := L) (n0 := n0) (i := i) (by omega) 1
      rw [this] at ha
      exact ih a ha
theorem nsAt_nodup (nx : Nat → Nat → Nat) (L : List Nat) (n0 : Nat) : ∀ i, (nsAt nx L n0 i).Nodup
  | 0 => by simp [nsAt]
  | i + 1 => by
    have ih := nsAt_nodup nx L n0 i
    by_cases h : i < (nsAt nx L n0 i).length
    · rw [nsAt_succ h]
      have key : ∀ (M ns : List Nat), ns.Nodup → (rowN nx (nsAt nx L n0 i)[i] ns M).Nodup := by
        intro M
        induction M with
        | nil => intro ns h1; exact h1
        | cons l M ihM =>
          intro ns h1
          refine ihM (addN ns (nx (nsAt nx L n0 i)[i] l)) ?_
          unfold addN
          split
          · exact h1
          · rename_i hn
            rw [List.nodup_append]
            exact ⟨h1, by simp, fun a ha b hb e => hn (by rw [List.mem_singleton] at hb; rw [← hb, ← e]; exact ha)⟩
      exact key L _ ih
    · have := nsAt_stop (nx := nx) (L := L) (n0 := n0) (i := i) (by omega) 1
      rw [this]
      exact ih
theorem nsAt_pos (nx : Nat → Nat → Nat) (L : List Nat) (n0 i : Nat) : 0 < (nsAt nx L n0 i).length ∧ (nsAt nx L n0 i)[0]? = some n0 := by
  obtain ⟨m, h⟩ := nsAt_pre nx L n0 0 i
  rw [Nat.zero_add] at h
  rw [h, nsAt_zero]
  simp

end AG

/- Plain: what the automaton of sets accepts; numberings that are alike. -/
namespace AG

def auOk (a : Au) : Bool := decide (alphaOk a.al = true ∧ 1 ≤ a.nx.length ∧ a.nx.length ≤ 12 ∧ a.ac.length = a.nx.length ∧ ∀ r ∈ a.nx, r.length = (letters a.al).length ∧ ∀ q ∈ r, 0 ≤ q ∧ q < (a.nx.length : Int))
/-- The state to which a letter leads; a letter that the automaton does not have leads nowhere else. -/
def goA (a : Au) (q l : Nat) : Nat := if l ∈ letters a.al then ((a.nx.getD q []).getD ((letters a.al).idxOf l) 0).toNat else q
def runA (a : Au) (q : Nat) : List Nat → Nat
  | [] => q
  | l :: r => goA a (runA a q r) l
def accA (a : Au) (r : List Nat) : Bool := a.ac.getD (runA a 0 r) false
def dW (nx : Nat → Nat → Nat) (n0 : Nat) : List Nat → Nat
  | [] => n0
  | l :: r => nx (dW nx n0 r) l

theorem numRes_spec {nx : Nat → Nat → Nat} {L : List Nat} {n0 lim : Nat} {x : List Nat × List (List Nat)} (h : numRes nx L n0 lim = some x) :
    x.1 = nsAt nx L n0 lim ∧ x.2 = x.1.map (rowOf nx L x.1) ∧ x.1.Nodup ∧ n0 ∈ x.1 ∧ x.1.idxOf n0 = 0 ∧ (∀ a ∈ x.1, ∀ l ∈ L, nx a l ∈ x.1) := by
  unfold numRes at h
  split at h
  · rename_i hl
    injection h with h
    subst h
    obtain ⟨h1, h2⟩ := nsAt_pos nx L n0 lim
    have h3 : (nsAt nx L n0 lim)[0] = n0 := by rw [List.getElem?_eq_getElem h1] at h2; injection h2
    refine ⟨rfl, rfl, nsAt_nodup _ _ _ _, List.mem_of_getElem? h2, ?_, fun a ha l hl2 => ?_⟩
    · have := (nsAt_nodup nx L n0 lim).idxOf_getElem 0 h1
      rw [h3] at this
      exact this
    · obtain ⟨i, hi, rfl⟩ := List.getElem_of_mem ha
      have hi' : i < (nsAt nx L n0 lim).length := hi
      have hil : i < lim := by omega
      have hii : i < (nsAt nx L n0 i).length := by
        rcases Nat.lt_or_ge i (nsAt nx L n0 i).length with h | h
        · exact h
        · have := nsAt_stop h (lim - i)
          rw [show i + (lim - i) = lim from by omega] at this
          rw [this] at hi'
          omega
      obtain ⟨m, hm⟩ := nsAt_pre nx L n0 i (lim - i)
      rw [show i + (lim - i) = lim from by omega] at hm
      obtain ⟨m2, hm2⟩ := nsAt_pre nx L n0 (i + 1) (lim - (i + 1))
      rw [show i + 1 + (lim - (i + 1)) = lim from by omega] at hm2
      have e : (nsAt nx L n0 lim)[i] = (nsAt nx L n0 i)[i] := by
        simp only [hm]
        rw [List.getElem_append_left hii]
      show nx (nsAt nx L n0 lim)[i] l ∈ nsAt nx L n0 lim
      rw [e, hm2]
      exact List.mem_append_left _ (nsAt_closed hii hl2)
  · cases h

theorem dW_mem {nx : Nat → Nat → Nat} {L : List Nat} {n0 lim : Nat} {x : List Nat × List (List Nat)} (h : numRes nx L n0 lim = some x) : ∀ r : List Nat, (∀ l ∈ r, l ∈ L) → dW nx n0 r ∈ x.1
  | [], _ => (numRes_spec h).2.2.2.1
  | l :: r, hr => (numRes_spec h).2.2.2.2.2 _ (dW_mem h r fun y hy => hr y (List.mem_cons_of_mem _ hy)) l (hr l List.mem_cons_self)

theorem getD_map_of_lt {α β : Type} (f : α → β) (l : List α) (i : Nat) (d : β) (h : i < l.length) : (l.map f).getD i d = f l[i] := by
  rw [List.getD_eq_getElem?_getD, List.getElem?_eq_getElem (by simpa using h), List.getElem_map]
  rfl
theorem goA_pr {s : Sy} {al : Int} {x : List Nat × List (List Nat)} (h : prNum s al = some x) {S l : Nat} (hS : S ∈ x.1) (hl : l ∈ letters al) :
    goA (prAu al x) (x.1.idxOf S) l = x.1.idxOf (prNx s (hidA s.al al) S l) := by
  obtain ⟨_, h2, _⟩ := numRes_spec h
  have hi : x.1.idxOf S < x.1.length := List.idxOf_lt_length_iff.2 hS
  have hk : (letters al).idxOf l < (letters al).length := List.idxOf_lt_length_iff.2 hl
  unfold goA prAu
  dsimp only
  rw [if_pos hl, h2]
  unfold toRows
  rw [List.map_map, getD_map_of_lt _ _ _ _ hi]
  dsimp only [Function.comp]
  rw [List.getElem_idxOf hi]
  unfold rowOf
  rw [List.map_map, getD_map_of_lt _ _ _ _ hk]
  dsimp only [Function.comp]
  rw [List.getElem_idxOf hk]
  exact Int.toNat_natCast _
noncomputable def prW (s : Sy) (al : Int) (r : List Nat) : Nat := dW (prNx s (hidA s.al al)) (reachSet s (hidA s.al al) 1) r
theorem runA_pr {s : Sy} {al : Int} {x : List Nat × List (List Nat)} (h : prNum s al = some x) : ∀ r : List Nat, (∀ l ∈ r, l ∈ letters al) → runA (prAu al x) 0 r = x.1.idxOf (prW s al r)
  | [], _ => by
    show 0 = _
    exact (numRes_spec h).2.2.2.2.1.symm
  | l :: r, hr => by
    have ih := runA_pr h r fun y hy => hr y (List.mem_cons_of_mem _ hy)
    show goA (prAu al x) (runA (prAu al x) 0 r) l = _
    rw [ih]
    exact goA_pr h (dW_mem h r fun y hy => hr y (List.mem_cons_of_mem _ hy)) (hr l List.mem_cons_self)
theorem accA_pr {s : Sy} {al : Int} {x : List Nat × List (List Nat)} (h : prNum s al = some x) {r : List Nat} (hr : ∀ l ∈ r, l ∈ letters al) : accA (prAu al x) r = decide (prW s al r ≠ 0) := by
  unfold accA
  rw [runA_pr h r hr]
  have hm : prW s al r ∈ x.1 := dW_mem h r hr
  have hi : x.1.idxOf (prW s al r) < x.1.length := List.idxOf_lt_length_iff.2 hm
  unfold prAu
  dsimp only
  rw [getD_map_of_lt _ _ _ _ hi, List.getElem_idxOf hi]
theorem auOk_pr {s : Sy} {al : Int} {x : List Nat × List (List Nat)} (ha : 0 ≤ al ∧ al ≤ 63) (h : prNum s al = some x) : auOk (prAu al x) = true := by
  obtain ⟨h1, h2, h3⟩ := numRes_len h
  obtain ⟨_, e2, _, e4, _, e6⟩ := numRes_spec h
  have hp : 0 < x.1.length := List.length_pos_of_mem e4
  unfold auOk prAu
  rw [decide_eq_true_eq]
  dsimp only
  rw [toRows_len, List.length_map]
  refine ⟨by unfold alphaOk; simpa using ha, by omega, by omega, by omega, fun r hr => ?_⟩
  unfold toRows at hr
  obtain ⟨r', hr', rfl⟩ := List.mem_map.1 hr
  refine ⟨by rw [List.length_map]; exact h3 r' hr', fun q hq => ?_⟩
  obtain ⟨n, hn, rfl⟩ := List.mem_map.1 hq
  rw [e2] at hr'
  obtain ⟨a, ha', rfl⟩ := List.mem_map.1 hr'
  unfold rowOf at hn
  obtain ⟨l, hl, rfl⟩ := List.mem_map.1 hn
  have := List.idxOf_lt_length_iff.2 (e6 a ha' l hl)
  omega

/-- Hidden letters of the empty alphabet lead nowhere. -/
theorem reach_none (s : Sy) {S : Nat} (hS : S < 65536) : reachSet s 0 S = S := by
  refine (reach_unique (R := S) hS (fun _ h => h) (fun e _ hA _ => ?_) fun x hx => Rch.start hx).symm
  unfold Has at hA
  simp at hA
theorem andB_self {a : Int} (h : 0 ≤ a) : andB a a = a := by unfold andB; simp; omega
theorem hid_self {a : Int} (h : 0 ≤ a) : hidA a a = 0 := by unfold hidA; rw [andB_self h]; omega
theorem prW_self {s : Sy} (h : 0 ≤ s.al) : ∀ r : List Nat, prW s s.al r = setW s r
  | [] => by
    unfold prW
    rw [hid_self h]
    exact reach_none s (by omega)
  | l :: r => by
    have ih := prW_self h r
    unfold prW at ih ⊢
    rw [hid_self h] at ih ⊢
    show reachSet s 0 (stepSet s (dW (prNx s 0) (reachSet s 0 1) r) (l : Int)) = stepSet s (setW s r) (l : Int)
    rw [ih, reach_none s (stepSet_lt _ _ _)]
theorem prOk_self {s : Sy} (h : sysOk s = true) : prOk s s.al = true := by
  have := sysOk_alpha h
  unfold prOk alphaOk
  rw [h, andB_self this.1]
  simpa using this

/-- Numberings of two sets of nodes that are alike. -/
theorem addN_map {f : Nat → Nat} {ns : List Nat} {x : Nat} (hf : ∀ a ∈ ns, f a = f x → a = x) : addN (ns.map f) (f x) = (addN ns x).map f := by
  unfold addN
  by_cases h : x ∈ ns
  · rw [if_pos h, if_pos (List.mem_map_of_mem h)]
  · rw [if_neg h, if_neg (fun hm => by
      obtain ⟨a, ha, e⟩ := List.mem_map.1 hm
      exact h (hf a ha e ▸ ha)), List.map_append]
    rfl
theorem rowN_map {f : Nat → Nat} {nx nx' : Nat → Nat → Nat} {P : Nat → Prop} {a : Nat} (hinj : ∀ a b, P a → P b → f a = f b → a = b) : ∀ (M ns : List Nat), (∀ y ∈ ns, P y) → (∀ l ∈ M, P (nx a l) ∧ nx' (f a) l = f (nx a l)) → rowN nx' (f a) (ns.map f) M = (rowN nx a ns M).map f
  | [], _, _, _ => rfl
  | l :: M, ns, h1, h2 => by
    obtain ⟨h3, h4⟩ := h2 l List.mem_cons_self
    show rowN nx' (f a) (addN (ns.map f) (nx' (f a) l)) M = _
    rw [h4, addN_map fun y hy e => hinj _ _ (h1 y hy) h3 e]
    refine rowN_map hinj M (addN ns (nx a l)) (fun y hy => ?_) fun y hy => h2 y (List.mem_cons_of_mem _ hy)
    unfold addN at hy
    split at hy
    · exact h1 y hy
    · rcases List.mem_append.1 hy with hy | hy
      · exact h1 y hy
      · rw [List.mem_singleton.1 hy]; exact h3
theorem nsAt_map {f : Nat → Nat} {nx nx' : Nat → Nat → Nat} {P : Nat → Prop} {L : List Nat} {n0 : Nat} (h0 : P n0) (hinj : ∀ a b, P a → P b → f a = f b → a = b) (hs : ∀ a, P a → ∀ l ∈ L, P (nx a l) ∧ nx' (f a) l = f (nx a l)) :
    ∀ i, nsAt nx' L (f n0) i = (nsAt nx L n0 i).map f
  | 0 => rfl
  | i + 1 => by
    have ih := nsAt_map h0 hinj hs i
    have hP := nsAt_all (P := P) (nx := nx) (L := L) h0 (fun a ha l hl => (hs a ha l hl).1) i
    by_cases h : i < (nsAt nx L n0 i).length
    · have h' : i < (nsAt nx' L (f n0) i).length := by rw [ih]; simpa using h
      have e : (nsAt nx' L (f n0) i)[i] = f (nsAt nx L n0 i)[i] := by simp only [ih]; rw [List.getElem_map]
      rw [nsAt_succ h', nsAt_succ h, e, ih]
      exact rowN_map hinj L _ hP (hs _ (hP _ (List.getElem_mem h)))
    · have h' : ¬ i < (nsAt nx' L (f n0) i).length := by rw [ih]; simpa using h
      have e1 := nsAt_stop (nx := nx) (L := L) (n0 := n0) (i := i) (by omega) 1
      have e2 := nsAt_stop (nx := nx') (L := L) (n0 := f n0) (i := i) (by omega) 1
      rw [e1, e2, ih]
theorem idxOf_map {f : Nat → Nat} {x : Nat} : ∀ {ns : List Nat}, (∀ a ∈ ns, f a = f x → a = x) → (ns.map f).idxOf (f x) = ns.idxOf x
  | [], _ => rfl
  | a :: ns, h => by
    rw [List.map_cons, List.idxOf_cons, List.idxOf_cons, idxOf_map fun b hb => h b (List.mem_cons_of_mem _ hb)]
    by_cases e : a = x
    · subst e; simp
    · have : f a ≠ f x := fun e' => e (h a List.mem_cons_self e')
      rw [show (f a == f x) = false from by simpa using this, show (a == x) = false from by simpa using e]
theorem numRes_map {f : Nat → Nat} {nx nx' : Nat → Nat → Nat} {P : Nat → Prop} {L : List Nat} {n0 lim : Nat} (h0 : P n0) (hinj : ∀ a b, P a → P b → f a = f b → a = b) (hs : ∀ a, P a → ∀ l ∈ L, P (nx a l) ∧ nx' (f a) l = f (nx a l)) :
    numRes nx' L (f n0) lim = (numRes nx L n0 lim).map fun x => (x.1.map f, x.2) := by
  have hP := nsAt_all (P := P) (nx := nx) (L := L) h0 (fun a ha l hl => (hs a ha l hl).1) lim
  unfold numRes
  rw [nsAt_map h0 hinj hs, List.length_map]
  split
  · rw [Option.map_some, List.map_map]
    congr 2
    refine List.map_congr_left fun a ha => ?_
    unfold rowOf
    refine List.map_congr_left fun l hl => ?_
    obtain ⟨h1, h2⟩ := hs a (hP a ha) l hl
    rw [h2]
    exact idxOf_map fun b hb e => hinj _ _ (hP b hb) h1 e
  · rfl

end AG

/- A statement that draws its order: its first n operations may come in any order the edges allow and yield one value each in every world of a class; behind them the others come one by one. -/
namespace AG
open Go
section
variable {P : Program} {ops : Array Oper} {md : Region.Mode} {C : World → Prop} {n : Nat}

/-- f operations of the first n come up, in any order, then L. -/
def HeadC (P : Program) (md : Region.Mode) (ops : Array Oper) (C : World → Prop) (n : Nat) (L : Array Bool → Act → Prop) : Nat → Array Bool → Act → Prop
  | 0, listed, a => L listed a
  | f + 1, listed, a => Region.ready md ops listed ≠ [] ∧ ∀ i, i ∈ Region.ready md ops listed → i < n ∧ qOp P ops C i (HeadC P md ops C n L f (listed.setIfInBounds i true)) a

theorem HeadC.any {g : Nat} {L : Array Bool → Act → Prop} {Q : Exit → Act → World → Prop} (hL : ∀ listed a w, C w → L listed a → wpAny P md ops Q g listed a w) (f : Nat) :
    ∀ (listed : Array Bool) (a : Act) (w : World), C w → HeadC P md ops C n L f listed a → wpAny P md ops Q (f + g) listed a w := by
  induction f with
  | zero => intro listed a w hw h; rw [Nat.zero_add]; exact hL _ _ _ hw h
  | succ f ih =>
    intro listed a w hw h
    have e : f + 1 + g = (f + g) + 1 := by omega
    rw [e]
    refine ⟨fun h0 => absurd h0 h.1, fun i hi => ?_⟩
    exact wpOp_of_qOp hw (fun a' w' hw' h' => ih _ a' w' hw' h') (h.2 i hi).2

/-- The next operation of the text may be taken first. -/
theorem HeadC.first {i : Nat} {oi : Oper} {v : Value} {L : Array Bool → Act → Prop} (hi : ops[i]? = some oi) (hsel : ∀ (j : Nat) (o : Oper) cs b, ops[j]? = some o → o.op ≠ .select cs b)
    (hs : Region.sinkB md ops n = true) (hc : Region.chainB md ops n = true) (hn : n < ops.size) (hin : i < n) (hdone : ∀ listed a, L listed a → ∀ j ∈ Region.ready md ops listed, n ≤ j) (f : Nat) :
    ∀ (listed : Array Bool) (a : Act), HeadInv md ops n listed →
      (∀ j oj, ops[j]? = some oj → j ≠ i → listed.getD j true = false → (∀ e ∈ oj.after, Region.binds md e = true → e.on ≠ i) → oi.apart ops oj = true) →
      i ∈ Region.ready md ops listed → YieldsIn P ops C oi v a → HeadC P md ops C n L f (listed.setIfInBounds i true) (a.put oi.dst v) → HeadC P md ops C n L (f + 1) listed a := by
  induction f with
  | zero =>
    intro listed a inv _ hr hy H
    have hun := (mem_ready.1 hr).1
    refine ⟨fun h => (by rw [h] at hr; cases hr), fun j hj => ?_⟩
    have hjn : j < n := Nat.lt_of_not_le fun h => tail_waits hs hc hn inv _ i rfl hin hun j h hj
    refine ⟨hjn, ?_⟩
    by_cases hji : j = i
    · subst hji; exact hy.qOp hi H
    · have := hdone _ _ H j (ready_mono hj hji)
      omega
  | succ f ih =>
    intro listed a inv hfree hr hy H
    have hun := (mem_ready.1 hr).1
    refine ⟨fun h => (by rw [h] at hr; cases hr), fun j hj => ?_⟩
    have hjn : j < n := Nat.lt_of_not_le fun h => tail_waits hs hc hn inv _ i rfl hin hun j h hj
    refine ⟨hjn, ?_⟩
    by_cases hji : j = i
    · subst hji; exact hy.qOp hi H
    · obtain ⟨hjun, oj, hoj, hall⟩ := mem_ready.1 hj
      have hnot : ∀ e ∈ oj.after, Region.binds md e = true → e.on ≠ i := fun e he hb heq => by
        have h1 := hall e he hb
        rw [heq, getD_both hun] at h1
        cases h1
      have h2 := qOp_put hoj (hfree j oj hoj hji hjun hnot) (fun cs b => hsel i oi cs b hi) (fun cs b => hsel j oj cs b hoj) hy (H.2 j (ready_mono hj hji)).2
      refine qOp_mono (fun a' h3 => ih (listed.setIfInBounds j true) a' (inv.set hj hjn) ?_ (ready_mono hr (Ne.symm hji)) h3.1 ?_) h2
      · intro k ok hk hki hun' hno
        refine hfree k ok hk hki ?_ hno
        by_cases hjk : j = k
        · subst hjk; exact hjun
        · rw [getD_set_ne true hjk] at hun'; exact hun'
      · rw [Array.setIfInBounds_comm _ _ hji]
        exact h3.2

theorem HeadC.lex {g : Nat} {Lq : Act → Prop} (hsel : Region.noSelect ops = true) (hs : Region.sinkB md ops n = true) (hc : Region.chainB md ops n = true) (hn : n < ops.size) (l : List Oper) :
    ∀ (k : Nat) (listed : Array Bool) (a : Act), (∀ j, j < l.length → l[j]? = ops[k + j]?) → k + l.length = n → HeadInv md ops n listed → Region.lexHead md ops g l.length k listed = true →
      wpQuiet P ops C Lq l a → HeadC P md ops C n (fun listed' a' => Region.seqB md ops g n listed' = true ∧ Lq a') l.length listed a := by
  induction l with
  | nil =>
    intro k listed a _ hk _ hB h
    obtain rfl : k = n := by simpa using hk
    exact ⟨by simpa [Region.lexHead] using hB, h⟩
  | cons o l ih =>
    intro k listed a hl hk inv hB h
    have h0 : ops[k]? = some o := by simpa using (hl 0 (by simp)).symm
    simp only [List.length_cons, Region.lexHead, Bool.and_eq_true] at hB
    obtain ⟨⟨hr, hf⟩, hB'⟩ := hB
    simp only [List.length_cons] at hk
    have hkn : k < n := by omega
    have hr' : k ∈ Region.ready md ops listed := by simpa using hr
    have hst : qOp P ops C k (wpQuiet P ops C Lq l) a := by unfold qOp; simp only [h0]; exact h
    obtain ⟨v, hy, hK⟩ := yieldsIn_of_qOp h0 hst
    refine HeadC.first h0 (Region.noSelect_spec hsel) hs hc hn hkn (fun listed' a' hL => seqB_ready hL.1) l.length listed a inv (Region.free_spec h0 hf) hr' hy ?_
    refine ih (k + 1) _ _ (fun j hj => ?_) (by omega) (inv.set hr' hkn) hB' hK
    have := hl (j + 1) (by simp; omega)
    simpa [Nat.add_assoc, Nat.add_comm 1 j] using this

theorem wp_region_quiet_tail {id : Nat} {Q : Exit → Act → World → Prop} {a : Act} {w : World} {l : List Oper} (n : Nat) (hm : P.follows .mixedOrders = true) (hB : Region.lexTailB .any l.toArray n = true) (hC : C { w with drawn := w.drawn + 1 })
    (h : wpQuiet P l.toArray C (fun a' => ∀ w', C w' → wpList P l.toArray Q (l.drop n) a' w') (l.take n) a) : (Code.region id l.toArray true).wp P Q a w := by
  simp only [Region.lexTailB, Bool.and_eq_true, decide_eq_true_eq] at hB
  obtain ⟨⟨⟨⟨hsel, hn⟩, hs⟩, hc⟩, hlex⟩ := hB
  have htl : (l.take n).length = n := by simp; simp at hn; omega
  have hdl : (l.drop n).length = l.toArray.size - n := by simp
  have inv0 : HeadInv .any l.toArray n (Array.replicate l.toArray.size false) :=
    ⟨by simp, fun j oj _ hl => (by rw [getD_replicate_false] at hl; cases hl), fun t _ ht => getD_in (by simpa using ht) (getD_replicate_false _ _)⟩
  have H := HeadC.lex (md := .any) (g := l.toArray.size - n) hsel hs hc hn (l.take n) 0 _ a (fun j hj => by
    have hj' : j < n := by rw [htl] at hj; exact hj
    simp [hj']) (by simpa using htl) inv0 (by rw [htl]; exact hlex) h
  refine wp_region_any hm ?_
  have := HeadC.any (Q := Q) (g := l.toArray.size - n) (fun listed a' w' hw' hL => by
    have := wpAny_of_seq (md := .any) (Q' := Q) (l.drop n) n listed a' w' (fun j => by simp [List.getElem?_drop]) (by rw [hdl]; exact hL.1) (hL.2 w' hw')
    rwa [hdl] at this) _ _ _ _ hC H
  rw [htl, show n + (l.toArray.size - n) = l.toArray.size by omega] at this
  exact this
end
end AG

/- Words for memory that the walks share: a slice that reads as a list of cells, and the rule for a statement that draws its order. -/
namespace AG
open Go Go.RowKit

/-- The slice '.slice A n c' holds the cells xs (size cells an element), below block B. -/
def Reads (w : World) (B size : Nat) (A : Option Addr) (n : Nat) (xs : List Value) : Prop :=
  xs.length = n * size ∧ (0 < n → ∃ b o, A = some ⟨b, o, none⟩ ∧ b < B ∧ ∀ j u, xs[j]? = some u → w.cell? ⟨b, o + j, none⟩ = some u)

/-- Every world that is as w0 below block B, written as a family (what is not so is replaced by w0). -/
noncomputable def Fam (B : Nat) (w0 x : World) : World := open Classical in if Below B w0 x then x else w0
theorem Fam.below (B : Nat) (w0 x : World) : Below B w0 (Fam B w0 x) := by
  unfold Fam
  split
  · assumption
  · exact Below.refl _ _
theorem Fam.of {B : Nat} {w0 w : World} (h : Below B w0 w) : ∃ x, w = Fam B w0 x := ⟨w, by unfold Fam; rw [if_pos h]⟩
theorem Fam.next {B : Nat} {w0 x w : World} (hB : B ≤ w0.heap.size) (h : Below (Fam B w0 x).heap.size (Fam B w0 x) w) : ∃ y, w = Fam B w0 y :=
  Fam.of ((Fam.below B w0 x).trans (h.mono (Nat.le_trans hB (Fam.below B w0 x).size)))
theorem Fam.out {B : Nat} {w0 w : World} (h : ∃ x, w = Fam B w0 x) : Below B w0 w := by
  obtain ⟨x, rfl⟩ := h
  exact Fam.below _ _ _

/-- A statement that draws its order, each of whose operations yields one value in every world that is as w0 below block B, and leaves such a world. -/
theorem wp_region_fam {P : Program} {id : Nat} {Q : Exit → Act → World → Prop} {a : Act} {w : World} {l : List Oper} (B : Nat) (w0 : World) (hm : P.follows .mixedOrders = true)
    (hB : Region.lexB .any l.toArray = true) (hC : Below B w0 w) (h : wpQuiet P l.toArray (fun w' => ∃ x, w' = Fam B w0 x) (fun a' => ∀ w', (∃ x, w' = Fam B w0 x) → Q .normal a' w') l a) : (Code.region id l.toArray true).wp P Q a w :=
  wp_region_quiet (C := fun w' => ∃ x, w' = Fam B w0 x) hm hB (Fam.of hC.drew) (by simpa using h)

/-- The same, the first n operations alone; behind them the others come one by one. -/
theorem wp_region_fam_tail {P : Program} {id : Nat} {Q : Exit → Act → World → Prop} {a : Act} {w : World} {l : List Oper} (B : Nat) (w0 : World) (n : Nat) (hm : P.follows .mixedOrders = true)
    (hB : Region.lexTailB .any l.toArray n = true) (hC : Below B w0 w) (h : wpQuiet P l.toArray (fun w' => ∃ x, w' = Fam B w0 x) (fun a' => ∀ w', (∃ x, w' = Fam B w0 x) → wpList P l.toArray Q (l.drop n) a' w') (l.take n) a) :
    (Code.region id l.toArray true).wp P Q a w :=
  wp_region_quiet_tail (C := fun w' => ∃ x, w' = Fam B w0 x) n hm hB (Fam.of hC.drew) h

def Ed.val (e : Ed) : Value := .agg #[.int .i64 e.f, .int .i64 e.l, .int .i64 e.t]
def Ed.cells (e : Ed) : List Value := [.int .i64 e.f, .int .i64 e.l, .int .i64 e.t]

/-- The slice of edges '.slice A n c' reads as es, below block B. -/
def EdsAt (w : World) (B : Nat) (A : Option Addr) (es : List Ed) : Prop :=
  0 < es.length → ∃ b o, A = some ⟨b, o, none⟩ ∧ b < B ∧ ∀ i (h : i < es.length),
    w.cell? ⟨b, o + i * 3, none⟩ = some (.int .i64 es[i].f) ∧ w.cell? ⟨b, o + i * 3 + 1, none⟩ = some (.int .i64 es[i].l) ∧ w.cell? ⟨b, o + i * 3 + 2, none⟩ = some (.int .i64 es[i].t)

theorem EdsAt.get {w w0 : World} {B B' : Nat} {A : Option Addr} {es : List Ed} (h : EdsAt w B A es) (hb : Below B w w0) (hB : B ≤ B') {k : Nat} (hk : k < es.length) :
    ∃ b o, A = some ⟨b, o, none⟩ ∧ b < B ∧ ∀ i (hi : i < es.length), (∀ w', Below B' w0 w' → w'.cell? ⟨b, o + i * 3, none⟩ = some (.int .i64 es[i].f)) ∧ (∀ w', Below B' w0 w' → w'.cell? ⟨b, o + i * 3 + 1, none⟩ = some (.int .i64 es[i].l)) ∧
      (∀ w', Below B' w0 w' → w'.cell? ⟨b, o + i * 3 + 2, none⟩ = some (.int .i64 es[i].t)) := by
  obtain ⟨b, o, hA, hb', hE⟩ := h (by omega)
  refine ⟨b, o, hA, hb', fun i hi => ⟨fun w' h' => ?_, fun w' h' => ?_, fun w' h' => ?_⟩⟩
  · rw [h'.cell (by simp; omega), hb.cell (by simpa using hb')]; exact (hE i hi).1
  · rw [h'.cell (by simp; omega), hb.cell (by simpa using hb')]; exact (hE i hi).2.1
  · rw [h'.cell (by simp; omega), hb.cell (by simpa using hb')]; exact (hE i hi).2.2

theorem EdsAt.keep {w w' : World} {B : Nat} {A : Option Addr} {es : List Ed} (h : EdsAt w B A es) (hb : Below B w w') : EdsAt w' B A es := fun hl => by
  obtain ⟨b, o, hA, hb', hE⟩ := h hl
  exact ⟨b, o, hA, hb', fun i hi => by rw [hb.cell (by simpa using hb'), hb.cell (by simpa using hb'), hb.cell (by simpa using hb')]; exact hE i hi⟩
theorem EdsAt.more {w : World} {B B' : Nat} {A : Option Addr} {es : List Ed} (h : EdsAt w B A es) (hB : B ≤ B') : EdsAt w B' A es := fun hl => by
  obtain ⟨b, o, hA, hb', hE⟩ := h hl
  exact ⟨b, o, hA, by omega, hE⟩

/-- A new block of cells, the world under a name of its own. -/
theorem boxed (w : World) (cs : Array Value) (T : TypeId) : ∃ w0, w.alloc (.cells cs T) = w0 ∧ w.heap.size + 1 ≤ w0.heap.size ∧ Below w.heap.size w w0 ∧
    ∀ (i : Nat) v, cs[i]? = some v → ∀ w', Below (w.heap.size + 1) w0 w' → w'.cell? ⟨w.heap.size, i, none⟩ = some v :=
  ⟨_, rfl, by simp, (Below.refl _ _).alloc (Nat.le_refl _) _, fun i v hv w' h => by rw [h.cell (by simp), World.cell?_alloc_at _ _ _ _ rfl]; exact hv⟩

theorem boxed3 (w : World) (v0 v1 v2 : Value) (T : TypeId) : ∃ w0, w.alloc (.cells #[v0, v1, v2] T) = w0 ∧ w.heap.size + 1 ≤ w0.heap.size ∧ Below w.heap.size w w0 ∧
    (∀ w', Below (w.heap.size + 1) w0 w' → w'.cell? ⟨w.heap.size, 0, none⟩ = some v0) ∧ (∀ w', Below (w.heap.size + 1) w0 w' → w'.cell? ⟨w.heap.size, 1, none⟩ = some v1) ∧
    (∀ w', Below (w.heap.size + 1) w0 w' → w'.cell? ⟨w.heap.size, 2, none⟩ = some v2) := by
  obtain ⟨w0, h0, h1, h2, h3⟩ := boxed w #[v0, v1, v2] T
  exact ⟨w0, h0, h1, h2, h3 0 v0 rfl, h3 1 v1 rfl, h3 2 v2 rfl⟩
/-- .. and that what was read before is read there too. -/
theorem Below.box {B : Nat} {w0 w w1 : World} (h : Below B w0 w) (hB : B ≤ w.heap.size) (h1 : Below w.heap.size w w1) : Below B w0 w1 := h.trans (h1.mono hB)

theorem boxed2 (w : World) (cs : Array Value) (T : TypeId) (cs' : Array Value) (T' : TypeId) : ∃ w1, (w.alloc (.cells cs T)).alloc (.cells cs' T') = w1 ∧ w.heap.size + 2 ≤ w1.heap.size ∧ Below w.heap.size w w1 ∧
    (∀ (i : Nat) v, cs[i]? = some v → ∀ w', Below (w.heap.size + 2) w1 w' → w'.cell? ⟨w.heap.size, i, none⟩ = some v) ∧
    (∀ (i : Nat) v, cs'[i]? = some v → ∀ w', Below (w.heap.size + 2) w1 w' → w'.cell? ⟨w.heap.size + 1, i, none⟩ = some v) :=
  ⟨_, rfl, by simp, ((Below.refl _ _).alloc (Nat.le_refl _) _).alloc (by simp) _,
    fun i v hv w' h => by rw [h.cell (by simp), World.cell?_alloc_lt (h := by simp), World.cell?_alloc_at _ _ _ _ rfl]; exact hv,
    fun i v hv w' h => by rw [h.cell (by simp), World.cell?_alloc_at _ _ _ _ (by simp)]; exact hv⟩

/-- The value of a system. -/
def Sy.val (s : Sy) (A : Option Addr) (c : Nat) : Value := .agg #[.int .i64 s.al, .int .i64 s.st, .slice A s.es.length c]

/-- The slice of systems '.slice A n c' reads as ss, below block B. -/
def SysAt (w : World) (B : Nat) (A : Option Addr) (ss : List Sy) : Prop :=
  0 < ss.length → ∃ b o, A = some ⟨b, o, none⟩ ∧ b < B ∧ ∀ i (h : i < ss.length),
    w.cell? ⟨b, o + i * 3, none⟩ = some (.int .i64 ss[i].al) ∧ w.cell? ⟨b, o + i * 3 + 1, none⟩ = some (.int .i64 ss[i].st) ∧
      ∃ Ai ci, w.cell? ⟨b, o + i * 3 + 2, none⟩ = some (.slice Ai ss[i].es.length ci) ∧ ss[i].es.length ≤ ci ∧ ci ≤ 9223372036854775807 ∧ EdsAt w B Ai ss[i].es

theorem SysAt.keep {w w' : World} {B : Nat} {A : Option Addr} {ss : List Sy} (h : SysAt w B A ss) (hb : Below B w w') : SysAt w' B A ss := fun hl => by
  obtain ⟨b, o, hA, hb', hE⟩ := h hl
  refine ⟨b, o, hA, hb', fun i hi => ?_⟩
  obtain ⟨h0, h1, Ai, ci, h2, h3, h4, h5⟩ := hE i hi
  rw [hb.cell (by simpa using hb'), hb.cell (by simpa using hb'), hb.cell (by simpa using hb')]
  exact ⟨h0, h1, Ai, ci, h2, h3, h4, h5.keep hb⟩
theorem SysAt.more {w : World} {B B' : Nat} {A : Option Addr} {ss : List Sy} (h : SysAt w B A ss) (hB : B ≤ B') : SysAt w B' A ss := fun hl => by
  obtain ⟨b, o, hA, hb', hE⟩ := h hl
  refine ⟨b, o, hA, by omega, fun i hi => ?_⟩
  obtain ⟨h0, h1, Ai, ci, h2, h3, h4, h5⟩ := hE i hi
  exact ⟨h0, h1, Ai, ci, h2, h3, h4, h5.more hB⟩
/-- The system number k: its three cells in every world that is as w below block B, and its edges. -/
theorem SysAt.get {w : World} {B : Nat} {A : Option Addr} {ss : List Sy} (h : SysAt w B A ss) {k : Nat} (hk : k < ss.length) :
    ∃ b o Ai ci, A = some ⟨b, o, none⟩ ∧ b < B ∧ (∀ w', Below B w w' → w'.cell? ⟨b, o + k * 3, none⟩ = some (.int .i64 ss[k].al)) ∧ (∀ w', Below B w w' → w'.cell? ⟨b, o + k * 3 + 1, none⟩ = some (.int .i64 ss[k].st)) ∧
      (∀ w', Below B w w' → w'.cell? ⟨b, o + k * 3 + 2, none⟩ = some (.slice Ai ss[k].es.length ci)) ∧ ss[k].es.length ≤ ci ∧ ci ≤ 9223372036854775807 ∧ EdsAt w B Ai ss[k].es := by
  obtain ⟨b, o, hA, hb', hE⟩ := h (by omega)
  obtain ⟨h0, h1, Ai, ci, h2, h3, h4, h5⟩ := hE k hk
  exact ⟨b, o, Ai, ci, hA, hb', fun w' hw => by rw [hw.cell (by simpa using hb')]; exact h0, fun w' hw => by rw [hw.cell (by simpa using hb')]; exact h1,
    fun w' hw => by rw [hw.cell (by simpa using hb')]; exact h2, h3, h4, h5⟩

theorem ofInt_i64 (a : Nat) (ha : a < 9223372036854775808) : (BitVec.ofInt 64 (a : Int)).toNat = a := by
  rw [BitVec.ofInt_natCast, BitVec.toNat_ofNat]; exact Nat.mod_eq_of_lt (by omega)
theorem bits_or {a b : Int} (ha : 0 ≤ a ∧ a < 9223372036854775808) (hb : 0 ≤ b ∧ b < 9223372036854775808) : bits .or .i64 a b = orB a b := by
  obtain ⟨a, rfl⟩ := Int.eq_ofNat_of_zero_le ha.1
  obtain ⟨b, rfl⟩ := Int.eq_ofNat_of_zero_le hb.1
  have hx : a ||| b < 2 ^ 63 := Nat.or_lt_two_pow (by omega) (by omega)
  show IntKind.i64.wrap ((BitVec.ofInt 64 (a : Int) ||| BitVec.ofInt 64 (b : Int)).toNat : Int) = _
  rw [BitVec.toNat_or, ofInt_i64 a (by omega), ofInt_i64 b (by omega), IntKind.wrap_i64]
  unfold orB
  simp only [Int.toNat_natCast]
  omega
theorem bits_and {a b : Int} (ha : 0 ≤ a ∧ a < 9223372036854775808) (hb : 0 ≤ b ∧ b < 9223372036854775808) : bits .and .i64 a b = andB a b := by
  obtain ⟨a, rfl⟩ := Int.eq_ofNat_of_zero_le ha.1
  obtain ⟨b, rfl⟩ := Int.eq_ofNat_of_zero_le hb.1
  have hx : a &&& b < 2 ^ 63 := Nat.and_lt_two_pow _ (by omega)
  show IntKind.i64.wrap ((BitVec.ofInt 64 (a : Int) &&& BitVec.ofInt 64 (b : Int)).toNat : Int) = _
  rw [BitVec.toNat_and, ofInt_i64 a (by omega), ofInt_i64 b (by omega), IntKind.wrap_i64]
  unfold andB
  simp only [Int.toNat_natCast]
  omega

/-- Block g is just the cells cs of element type t, none frozen. -/
def Blk (w : World) (g : Nat) (t : TypeId) (cs : Array Value) : Prop := w.heap[g]? = some (.cells cs t (0, 0))
section
variable {w w' : World} {g : Nat} {t : TypeId} {cs : Array Value}
theorem Blk.lt (h : Blk w g t cs) : g < w.heap.size := by
  rcases Nat.lt_or_ge g w.heap.size with hlt | hge
  · exact hlt
  · unfold Blk at h; rw [Array.getElem?_eq_none hge] at h; cases h
theorem Blk.cell (h : Blk w g t cs) (i : Nat) : w.cell? ⟨g, i, none⟩ = cs[i]? := cell_of_row w g i cs t (0, 0) h
theorem Blk.frozen (h : Blk w g t cs) (i : Nat) : w.frozen? ⟨g, i, none⟩ = false := by
  unfold Blk at h
  simp [World.frozen?, h]
theorem Blk.new (w : World) (t : TypeId) (cs : Array Value) : Blk (w.alloc (.cells cs t)) w.heap.size t cs := heap_alloc_new w _
theorem Blk.alloc (h : Blk w g t cs) (o : Obj) : Blk (w.alloc o) g t cs := (Below.heap_alloc w o g h.lt).trans h
theorem Blk.set_ (h : Blk w g t cs) (i : Nat) (u : Value) : Blk (w.setCell ⟨g, i, none⟩ u) g t (cs.setIfInBounds i u) := by
  unfold Blk at h ⊢
  simp [World.setCell, Array.getElem?_modify, h]
theorem Blk.below {B : Nat} (h : Blk w g t cs) (hb : Below B w w') (hg : g < B) : Blk w' g t cs := (hb.block g hg).trans h
end
theorem run_make_rowN {P : Program} (t e : TypeId) (i : TypeInfo) (z : Value) (ht : P.underlying t = some (.slice e)) (hi : P.info? e = some i) (hz : i.zero = some z)
    (kl kc : IntKind) (n c : Nat) (hnc : n ≤ c) (hbytes : i.bytes * c ≤ 281474976710656) (h63 : c ≤ 9223372036854775807) (w : World) :
    (Instr.makeSlice t (.int kl (n : Int)) (.int kc (c : Int))).run P w = .ok (.slice (some ⟨w.heap.size, 0, none⟩) n c) (w.alloc (.cells (madeCells z.cells (c * i.size)) e)) := by
  have hb : (i.bytes : Int) * (c : Int) ≤ 281474976710656 := by
    have h : ((i.bytes * c : Nat) : Int) ≤ 281474976710656 := by omega
    rwa [Int.natCast_mul] at h
  have hr := run_make (P := P) w t e i z ht hi hz kl kc n c (by omega) (by omega) hb (by omega)
  simp only [Int.toNat_natCast] at hr
  exact hr

/-- A slice of edges comes back; a system comes back; a slice of systems comes back. -/
def FreshA (n : Nat) (A : Option Addr) : Prop := ∀ b o, A = some ⟨b, o, none⟩ → n ≤ b
def EdsPost (es : List Ed) (w : World) (e : Ending) (w' : World) : Prop := ∃ A, e = .returned (.slice A es.length es.length) ∧ EdsAt w' w'.heap.size A es ∧ FreshA w.heap.size A ∧ Below w.heap.size w w'
def SyPost (s : Sy) (w : World) (e : Ending) (w' : World) : Prop := ∃ A, e = .returned (s.val A s.es.length) ∧ EdsAt w' w'.heap.size A s.es ∧ FreshA w.heap.size A ∧ Below w.heap.size w w'
theorem EdsAt.setFar {w : World} {n : Nat} {A : Option Addr} {es : List Ed} (h : EdsAt w w.heap.size A es) (hf : FreshA n A) {g i : Nat} (v : Value) (hg : g < n) : EdsAt (w.setCell ⟨g, i, none⟩ v) (w.setCell ⟨g, i, none⟩ v).heap.size A es := fun hl => by
  obtain ⟨b, o, hA, hb', hE⟩ := h hl
  have := hf b o hA
  refine ⟨b, o, hA, by simpa [World.setCell] using hb', fun j hj => ?_⟩
  have hne : (⟨g, i, none⟩ : Addr).block ≠ b := by simp; omega
  have hq : ∀ k, (w.setCell ⟨g, i, none⟩ v).cell? ⟨b, k, none⟩ = w.cell? ⟨b, k, none⟩ := fun k => World.cell?_of_block (Below.heap_setCell _ _ _ _ (Ne.symm hne))
  rw [hq, hq, hq]
  exact hE j hj
def SysPost (ss : List Sy) (w : World) (e : Ending) (w' : World) : Prop := ∃ A, e = .returned (.slice A ss.length ss.length) ∧ SysAt w' w'.heap.size A ss ∧ Below w.heap.size w w'

/-- The cells of the first k edges. -/
def EdsIn (cs : Array Value) (es : List Ed) (k : Nat) : Prop :=
  cs.size = es.length * 3 ∧ ∀ i (h : i < es.length), i < k → cs[i * 3]? = some (.int .i64 es[i].f) ∧ cs[i * 3 + 1]? = some (.int .i64 es[i].l) ∧ cs[i * 3 + 2]? = some (.int .i64 es[i].t)
theorem EdsIn.next {cs : Array Value} {es : List Ed} {k : Nat} (h : EdsIn cs es k) (hk : k < es.length) :
    EdsIn (((cs.setIfInBounds (k * 3) (.int .i64 es[k].f)).setIfInBounds (k * 3 + 1) (.int .i64 es[k].l)).setIfInBounds (k * 3 + 2) (.int .i64 es[k].t)) es (k + 1) := by
  obtain ⟨hs, hc⟩ := h
  refine ⟨by simpa using hs, fun i hi hik => ?_⟩
  by_cases e : i = k
  · subst e
    refine ⟨?_, ?_, ?_⟩
    · rw [Array.getElem?_setIfInBounds_ne (by omega), Array.getElem?_setIfInBounds_ne (by omega), Array.getElem?_setIfInBounds_self_of_lt (by omega)]
    · rw [Array.getElem?_setIfInBounds_ne (by omega), Array.getElem?_setIfInBounds_self_of_lt (by simp; omega)]
    · rw [Array.getElem?_setIfInBounds_self_of_lt (by simp; omega)]
  · obtain ⟨h0, h1, h2⟩ := hc i hi (by omega)
    refine ⟨?_, ?_, ?_⟩
    · rw [Array.getElem?_setIfInBounds_ne (by omega), Array.getElem?_setIfInBounds_ne (by omega), Array.getElem?_setIfInBounds_ne (by omega)]; exact h0
    · rw [Array.getElem?_setIfInBounds_ne (by omega), Array.getElem?_setIfInBounds_ne (by omega), Array.getElem?_setIfInBounds_ne (by omega)]; exact h1
    · rw [Array.getElem?_setIfInBounds_ne (by omega), Array.getElem?_setIfInBounds_ne (by omega), Array.getElem?_setIfInBounds_ne (by omega)]; exact h2
theorem EdsIn.at_ {w : World} {g : Nat} {t : TypeId} {cs : Array Value} {es : List Ed} (hb : Blk w g t cs) (h : EdsIn cs es es.length) : EdsAt w w.heap.size (some ⟨g, 0, none⟩) es := fun _ =>
  ⟨g, 0, rfl, hb.lt, fun i hi => by
    obtain ⟨h0, h1, h2⟩ := h.2 i hi hi
    simp only [Nat.zero_add]
    rw [hb.cell, hb.cell, hb.cell]
    exact ⟨h0, h1, h2⟩⟩

theorem Blk.some_ {w : World} {g : Nat} {t : TypeId} {cs : Array Value} (h : Blk w g t cs) {i : Nat} (hi : i < cs.size) : ∃ v, w.cell? ⟨g, i, none⟩ = some v := ⟨cs[i], by rw [h.cell]; exact Array.getElem?_eq_getElem hi⟩
/-- Three cells of a block of the call's own: they may be written. -/
theorem Blk.three {w w' : World} {g B : Nat} {t : TypeId} {cs : Array Value} (h : Blk w g t cs) (hb : Below B w w') (hg : g < B) {i : Nat} (hi : i + 2 < cs.size) :
    Blk w' g t cs ∧ (∃ v, w'.cell? ⟨g, i, none⟩ = some v) ∧ (∃ v, w'.cell? ⟨g, i + 1, none⟩ = some v) ∧ (∃ v, w'.cell? ⟨g, i + 2, none⟩ = some v) ∧
      w'.frozen? ⟨g, i, none⟩ = false ∧ w'.frozen? ⟨g, i + 1, none⟩ = false ∧ w'.frozen? ⟨g, i + 2, none⟩ = false := by
  have h' := h.below hb hg
  exact ⟨h', h'.some_ (by omega), h'.some_ (by omega), h'.some_ (by omega), h'.frozen _, h'.frozen _, h'.frozen _⟩

/-- The cells of the first k systems in block g; their edges lie in later blocks. -/
def SysIn (w : World) (g : Nat) (cs : Array Value) (ss : List Sy) (k : Nat) : Prop :=
  cs.size = ss.length * 3 ∧ ∀ i (h : i < ss.length), i < k → cs[i * 3]? = some (.int .i64 ss[i].al) ∧ cs[i * 3 + 1]? = some (.int .i64 ss[i].st) ∧
    ∃ Ai ci, cs[i * 3 + 2]? = some (.slice Ai ss[i].es.length ci) ∧ ss[i].es.length ≤ ci ∧ ci ≤ 9223372036854775807 ∧ EdsAt w w.heap.size Ai ss[i].es ∧ FreshA (g + 1) Ai
theorem SysIn.later {w w' : World} {g : Nat} {cs : Array Value} {ss : List Sy} {k : Nat} (h : SysIn w g cs ss k) (hb : Below w.heap.size w w') : SysIn w' g cs ss k :=
  ⟨h.1, fun i hi hik => by
    obtain ⟨h0, h1, Ai, ci, h2, h3, h4, h5, h6⟩ := h.2 i hi hik
    exact ⟨h0, h1, Ai, ci, h2, h3, h4, (h5.keep hb).more hb.size, h6⟩⟩
theorem SysIn.set_ {w : World} {g j : Nat} {cs : Array Value} {ss : List Sy} {k : Nat} (h : SysIn w g cs ss k) (v : Value) : SysIn (w.setCell ⟨g, j, none⟩ v) g cs ss k :=
  ⟨h.1, fun i hi hik => by
    obtain ⟨h0, h1, Ai, ci, h2, h3, h4, h5, h6⟩ := h.2 i hi hik
    exact ⟨h0, h1, Ai, ci, h2, h3, h4, h5.setFar h6 v (Nat.lt_succ_self g), h6⟩⟩
theorem SysIn.next {w : World} {g : Nat} {cs : Array Value} {ss : List Sy} {k : Nat} (h : SysIn w g cs ss k) (hk : k < ss.length) {A : Option Addr} {c : Nat} (hl : ss[k].es.length ≤ c) (hc : c ≤ 9223372036854775807) (hA : EdsAt w w.heap.size A ss[k].es) (hf : FreshA (g + 1) A) :
    SysIn w g (((cs.setIfInBounds (k * 3) (.int .i64 ss[k].al)).setIfInBounds (k * 3 + 1) (.int .i64 ss[k].st)).setIfInBounds (k * 3 + 2) (.slice A ss[k].es.length c)) ss (k + 1) := by
  obtain ⟨hs, hcs⟩ := h
  refine ⟨by simpa using hs, fun i hi hik => ?_⟩
  by_cases e : i = k
  · subst e
    refine ⟨?_, ?_, A, c, ?_, hl, hc, hA, hf⟩
    · rw [Array.getElem?_setIfInBounds_ne (by omega), Array.getElem?_setIfInBounds_ne (by omega), Array.getElem?_setIfInBounds_self_of_lt (by omega)]
    · rw [Array.getElem?_setIfInBounds_ne (by omega), Array.getElem?_setIfInBounds_self_of_lt (by simp; omega)]
    · rw [Array.getElem?_setIfInBounds_self_of_lt (by simp; omega)]
  · obtain ⟨h0, h1, Ai, ci, h2, h3, h4, h5, h6⟩ := hcs i hi (by omega)
    refine ⟨?_, ?_, Ai, ci, ?_, h3, h4, h5, h6⟩
    · rw [Array.getElem?_setIfInBounds_ne (by omega), Array.getElem?_setIfInBounds_ne (by omega), Array.getElem?_setIfInBounds_ne (by omega)]; exact h0
    · rw [Array.getElem?_setIfInBounds_ne (by omega), Array.getElem?_setIfInBounds_ne (by omega), Array.getElem?_setIfInBounds_ne (by omega)]; exact h1
    · rw [Array.getElem?_setIfInBounds_ne (by omega), Array.getElem?_setIfInBounds_ne (by omega), Array.getElem?_setIfInBounds_ne (by omega)]; exact h2
theorem SysIn.at_ {w : World} {g : Nat} {t : TypeId} {cs : Array Value} {ss : List Sy} (hb : Blk w g t cs) (h : SysIn w g cs ss ss.length) : SysAt w w.heap.size (some ⟨g, 0, none⟩) ss := fun _ =>
  ⟨g, 0, rfl, hb.lt, fun i hi => by
    obtain ⟨h0, h1, Ai, ci, h2, h3, h4, h5, _⟩ := h.2 i hi hi
    simp only [Nat.zero_add]
    rw [hb.cell, hb.cell, hb.cell]
    exact ⟨h0, h1, Ai, ci, h2, h3, h4, h5⟩⟩
theorem addr_ne {g b i j : Nat} (h : b ≠ g) : (⟨g, i, none⟩ : Addr) ≠ ⟨b, j, none⟩ := fun e => h (by injection e with e1; exact e1.symm)
/-- Stores into the call's own block do not turn what lies elsewhere: an edges' slice of another block. -/
theorem EdsAt.stored {w : World} {B : Nat} {A : Option Addr} {es : List Ed} (h : EdsAt w B A es) {g i : Nat} (v : Value) (hne : ∀ b o, A = some ⟨b, o, none⟩ → 0 < es.length → b ≠ g) : EdsAt (w.setCell ⟨g, i, none⟩ v) B A es := fun hl => by
  obtain ⟨b, o, hA, hb', hE⟩ := h hl
  have := hne b o hA hl
  refine ⟨b, o, hA, hb', fun j hj => ?_⟩
  rw [World.cell?_setCell_other (h := addr_ne this), World.cell?_setCell_other (h := addr_ne this), World.cell?_setCell_other (h := addr_ne this)]
  exact hE j hj

theorem EdsAt.later {w w' : World} {A : Option Addr} {es : List Ed} (h : EdsAt w w.heap.size A es) (hb : Below w.heap.size w w') : EdsAt w' w'.heap.size A es := (h.keep hb).more hb.size
theorem SysAt.later {w w' : World} {A : Option Addr} {ss : List Sy} (h : SysAt w w.heap.size A ss) (hb : Below w.heap.size w w') : SysAt w' w'.heap.size A ss := (h.keep hb).more hb.size

/-- The cells of a table of moves behind the first k edges; the table, below block B. -/
def MvIn (cs : Array Value) (m : Nat → Nat → Nat) : Prop := cs.size = 96 ∧ ∀ q l, q < 16 → l < 6 → cs[q * 6 + l]? = some (.int .i64 (m q l))
theorem MvIn.set_ {cs : Array Value} {m m' : Nat → Nat → Nat} (h : MvIn cs m) {q0 l0 : Nat} (hq : q0 < 16) (hl : l0 < 6) {v : Int} (hv : v = (m' q0 l0 : Int)) (ho : ∀ q l, ¬ (q0 = q ∧ l0 = l) → m' q l = m q l) : MvIn (cs.setIfInBounds (q0 * 6 + l0) (.int .i64 v)) m' := by
  refine ⟨by simpa using h.1, fun q l h1 h2 => ?_⟩
  by_cases e : q0 = q ∧ l0 = l
  · obtain ⟨rfl, rfl⟩ := e
    rw [Array.getElem?_setIfInBounds_self_of_lt (by rw [h.1]; omega), hv]
  · rw [Array.getElem?_setIfInBounds_ne (by omega), h.2 q l h1 h2, ho q l e]
def MvAt (w : World) (B : Nat) (g : Nat) (m : Nat → Nat → Nat) : Prop := g < B ∧ ∀ q l, q < 16 → l < 6 → w.cell? ⟨g, q * 6 + l, none⟩ = some (.int .i64 (m q l))
theorem MvAt.keep {w w' : World} {B g : Nat} {m : Nat → Nat → Nat} (h : MvAt w B g m) (hb : Below B w w') : MvAt w' B g m := ⟨h.1, fun q l h1 h2 => by rw [hb.cell (by simpa using h.1)]; exact h.2 q l h1 h2⟩
theorem MvAt.later {w w' : World} {g : Nat} {m : Nat → Nat → Nat} (h : MvAt w w.heap.size g m) (hb : Below w.heap.size w w') : MvAt w' w'.heap.size g m := ⟨Nat.lt_of_lt_of_le h.1 hb.size, (h.keep hb).2⟩
def MvPost (m : Nat → Nat → Nat) (w : World) (e : Ending) (w' : World) : Prop := ∃ g, e = .returned (.pointer (some ⟨g, 0, none⟩)) ∧ MvAt w' w'.heap.size g m ∧ Below w.heap.size w w'

/-- A search's result: not below 0 exactly where b. -/
def IdxPost (b : Bool) (w : World) (e : Ending) (w' : World) : Prop := ∃ r : Int, e = .returned (.int .i64 r) ∧ decide (0 ≤ r) = b ∧ Below w.heap.size w w'

theorem hid {p : Prop} (h : p) : Hid p := h

theorem ret_bool {a b : Bool} (h : a = b) : Ending.returned (.bool a) = .returned (.bool b) := by rw [h]
theorem ret_int {k : IntKind} {a b : Int} (h : a = b) : Ending.returned (.int k a) = .returned (.int k b) := by rw [h]

theorem ofInt_and_one (x : Int) : bits .and .i64 x 1 = x % 2 := by
  show IntKind.i64.wrap ((BitVec.ofInt 64 x &&& BitVec.ofInt 64 1).toNat : Int) = _
  have h1 : (BitVec.ofInt 64 x &&& BitVec.ofInt 64 1).toNat = (x % 2).toNat := by
    have e1 : (BitVec.ofInt 64 1).toNat = 2 ^ 1 - 1 := by decide
    rw [BitVec.toNat_and, e1, Nat.and_two_pow_sub_one_eq_mod, BitVec.toNat_ofInt]
    omega
  rw [h1, IntKind.wrap_i64]
  omega

theorem wrap_pow {n : Nat} (h : n ≤ 61) : wrap64 ((2 : Int) ^ n) = ((2 ^ n : Nat) : Int) := by
  have h1 : 2 ^ n ≤ 2 ^ 61 := Nat.pow_le_pow_right (by omega) h
  have e : ((2 : Int) ^ n) = ((2 ^ n : Nat) : Int) := by rw [Int.natCast_pow]; rfl
  rw [e]
  generalize 2 ^ n = m at *
  exact IntWalk.wrap64_in _ ⟨by omega, by omega⟩
theorem bits_orN (a b : Nat) (ha : a < 65536) (hb : b < 65536) : bits .or .i64 (a : Int) (b : Int) = ((a ||| b : Nat) : Int) := by
  have hx : a ||| b < 2 ^ 16 := Nat.or_lt_two_pow (by omega) (by omega)
  show IntKind.i64.wrap ((BitVec.ofInt 64 (a : Int) ||| BitVec.ofInt 64 (b : Int)).toNat : Int) = _
  rw [BitVec.toNat_or, BitVec.ofInt_natCast, BitVec.ofInt_natCast, BitVec.toNat_ofNat, BitVec.toNat_ofNat, Nat.mod_eq_of_lt (by omega), Nat.mod_eq_of_lt (by omega), IntKind.wrap_i64]
  omega

theorem bits_andN (a b : Nat) (ha : a < 65536) (hb : b < 65536) : bits .and .i64 (a : Int) (b : Int) = ((a &&& b : Nat) : Int) := by
  have hx : a &&& b < 2 ^ 16 := Nat.and_lt_two_pow _ (by omega)
  show IntKind.i64.wrap ((BitVec.ofInt 64 (a : Int) &&& BitVec.ofInt 64 (b : Int)).toNat : Int) = _
  rw [BitVec.toNat_and, BitVec.ofInt_natCast, BitVec.ofInt_natCast, BitVec.toNat_ofNat, BitVec.toNat_ofNat, Nat.mod_eq_of_lt (by omega), Nat.mod_eq_of_lt (by omega), IntKind.wrap_i64]
  omega

theorem and_one_has (a : Int) (n : Nat) : (bits .and .i64 (a / (2 : Int) ^ n) 1 == 1) = Has a n := by
  rw [ofInt_and_one]; unfold Has; rw [Bool.eq_iff_iff]; simp

end AG

/- Contracts of the small functions on letters, edges and systems (the reference's). -/
namespace Go.Proofs.YtimoekglamdddaaDoor
open Go.RowKit AG

set_option maxHeartbeats 400000 in
theorem l1Alphabet_any (a : Int) (w : World) :
    Calls Tryd.prog 61 #[.int .i64 a] w fun e w' => e = .returned (.bool (alphaOk a)) ∧ w = w' := by
  go_enter Tryd.func61, Tryd.ntmps61
  go_wp2
  all_goals go_ret
  all_goals exact ⟨ret_bool (by unfold alphaOk; simp; omega), rfl⟩

set_option maxHeartbeats 400000 in
theorem l1Has_any (a n : Int) (w : World) (h0 : 0 ≤ n) (h1 : n ≤ 63) :
    Calls Tryd.prog 150 #[.int .i64 a, .int .i64 n] w fun e w' => e = .returned (.bool (Has a n.toNat)) ∧ w = w' := by
  go_enter Tryd.func150, Tryd.ntmps150
  go_wp2
  go_ret
  exact ⟨ret_bool (and_one_has _ _), rfl⟩

set_option maxHeartbeats 400000 in
theorem l2Before_any (a b : Ed) (w : World) :
    Calls Tryd.prog 110 #[a.val, b.val] w fun e w' => e = .returned (.bool (edgeLt a b)) ∧ Below w.heap.size w w' := by
  unfold Ed.val
  go_enter Tryd.func110, Tryd.ntmps110
  go_wp2
  all_goals go_ret
  all_goals exact ⟨ret_bool (by unfold edgeLt; simp_all), by (repeat (first | exact Below.refl _ _ | assumption | refine Below.drew ?_ | refine Below.alloc ?_ (by first | omega | (simp; done) | (simp; omega)) _ | refine Below.setCell ?_ (by first | omega | (simp; done) | (simp; omega)) _))⟩

set_option maxHeartbeats 400000 in
theorem l2Edge_any (al st : Int) (a : Ed) (w : World) :
    Calls Tryd.prog 109 #[.int .i64 al, .int .i64 st, a.val] w fun e w' => e = .returned (.bool (edgeOk al st a)) ∧ Below w.heap.size w w' := by
  unfold Ed.val
  go_enter Tryd.func109, Tryd.ntmps109
  go_wp2_with (go_at_call 150; refine (l1Has_any _ _ _ (by omega) (by omega)).mono ?_; rintro e w' ⟨rfl, rfl⟩)
  all_goals go_ret
  all_goals refine ⟨ret_bool (by unfold edgeOk; simp; omega), by (repeat (first | exact Below.refl _ _ | assumption | refine Below.drew ?_ | refine Below.alloc ?_ (by first | omega | (simp; done) | (simp; omega)) _ | refine Below.setCell ?_ (by first | omega | (simp; done) | (simp; omega)) _))⟩

end Go.Proofs.YtimoekglamdddaaDoor
