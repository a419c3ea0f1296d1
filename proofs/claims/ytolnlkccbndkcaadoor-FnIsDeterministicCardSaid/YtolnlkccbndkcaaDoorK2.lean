/- Lemmas, part 2: several texts in one. -/
import Derived.Test.YtolnlkccbndkcaaDoorK1
set_option linter.unusedSimpArgs false
set_option linter.unusedVariables false

/- Plain: the reference's search as lists of pairs and words. -/
namespace AG

theorem nodup_bound : ∀ (N : Nat) (l : List Nat), l.Nodup → (∀ x ∈ l, x < N) → l.length ≤ N
  | 0, l, _, h => by
    cases l with
    | nil => exact Nat.le_refl _
    | cons x l => exact absurd (h x List.mem_cons_self) (by omega)
  | N + 1, l, hd, h => by
    by_cases hN : N ∈ l
    · have h1 := nodup_bound N (l.erase N) (hd.erase N) fun x hx => by
        have := (hd.mem_erase_iff).1 hx
        have := h x this.2
        omega
      rw [List.length_erase_of_mem hN] at h1
      omega
    · have := nodup_bound N l hd fun x hx => by
        have h1 := h x hx
        have h2 : x ≠ N := fun e => hN (e ▸ hx)
        omega
      omega

/-- The state of the reference's search. -/
structure PB (a b : Sy) (L : List Nat) (ps : List (Nat × Nat)) (ws : List (List Nat)) (i k : Nat) : Prop where
  bfs : ∃ ss : List Stp, ss.map (·.nodes) = ps.map (fun p => [code p]) ∧ Bfs pI L (pN a b) (fun _ => False) ss ws i k
  small : ∀ p ∈ ps, p.1 < 65536 ∧ p.2 < 65536
  nodup : ps.Nodup

section
variable {a b : Sy} {L : List Nat} {ps : List (Nat × Nat)} {ws : List (List Nat)} {i k : Nat}

theorem nodes_at {ss : List Stp} (h : ss.map (·.nodes) = ps.map (fun p => [code p])) : ss.length = ps.length ∧ ∀ j (hj : j < ss.length) (hj' : j < ps.length), ss[j].nodes = [code ps[j]] := by
  have hl : ss.length = ps.length := by simpa using congrArg List.length h
  refine ⟨hl, fun j hj hj' => ?_⟩
  have := congrArg (·[j]?) h
  simpa [hj, hj'] using this

theorem PB.begin : PB a b L [(1, 1)] [[]] 0 0 :=
  ⟨⟨[⟨-1, 0, [code (1, 1)]⟩], rfl, Bfs.begin (fun n => by simp [pI]) (fun _ _ h => h)⟩, fun p hp => by simp at hp; subst hp; decide, by simp⟩

theorem PB.len (h : PB a b L ps ws i k) : ws.length = ps.length := by
  obtain ⟨ss, hs, hb⟩ := h.bfs
  rw [hb.len, (nodes_at hs).1]

theorem Bfs.wlen {I : Nat → Prop} {L : List Nat} {nx : Nat → Nat → List Nat} {G : Nat → Prop} {ss : List Stp} {ws : List (List Nat)} {i k : Nat} (h : Bfs I L nx G ss ws i k) : ∀ j (hj : j < ws.length), ws[j].length ≤ j := by
  intro j
  induction j using Nat.strongRecOn with
  | _ j ih =>
    intro hj
    by_cases e : j = 0
    · subst e
      rw [h.zero hj]
      exact Nat.le_refl _
    · obtain ⟨p, q, hpj, _, _, hp, _, _, hw⟩ := h.link j (by rw [← h.len]; exact hj) hj (by omega)
      have := ih p hpj hp
      rw [hw, List.length_cons]
      omega
theorem PB.wlen (h : PB a b L ps ws i k) {j : Nat} (hj : j < ws.length) : ws[j].length ≤ j := by
  obtain ⟨ss, _, hb⟩ := h.bfs
  exact hb.wlen j hj

theorem PB.bound (h : PB a b L ps ws i k) : ps.length ≤ 4294967296 := by
  have h1 : (ps.map code).Nodup := by
    refine List.pairwise_map.2 (h.nodup.imp_of_mem fun {x y} hx hy hne he => hne (code_inj (h.small x hx).2 (h.small y hy).2 he))
  have h2 := nodup_bound 4294967296 (ps.map code) h1 fun x hx => by
    obtain ⟨p, hp, rfl⟩ := List.mem_map.1 hx
    have := h.small p hp
    unfold code
    omega
  simpa using h2

theorem PB.over (h : PB a b L ps ws i k) (hk : L.length ≤ k) : PB a b L ps ws (i + 1) 0 := by
  obtain ⟨ss, hs, hb⟩ := h.bfs
  exact ⟨⟨ss, hs, hb.over hk⟩, h.small, h.nodup⟩

theorem PB.skip (h : PB a b L ps ws i k) (hL : L.Pairwise (· < ·)) (hi : i < ps.length) (hk : k < L.length) (hq : (stepP a b ps[i] L[k]).1 = 0 ∨ stepP a b ps[i] L[k] ∈ ps) : PB a b L ps ws i (k + 1) := by
  obtain ⟨ss, hs, hb⟩ := h.bfs
  obtain ⟨hl, hn⟩ := nodes_at hs
  refine ⟨⟨ss, hs, hb.stale hL (by omega) hk fun n hn1 n' hn2 => ?_⟩, h.small, h.nodup⟩
  rw [hn i (by omega) hi, List.mem_singleton] at hn1
  subst hn1
  unfold pN at hn2
  rw [code_parts (h.small _ (List.getElem_mem hi)).2] at hn2
  rcases hq with hq | hq
  · rw [if_pos hq] at hn2
    cases hn2
  · split at hn2
    · cases hn2
    · rw [List.mem_singleton] at hn2
      obtain ⟨j, hj, he⟩ := List.mem_iff_getElem.1 hq
      exact ⟨j, by omega, by rw [hn j (by omega) hj, List.mem_singleton, hn2, he]⟩

theorem PB.add (h : PB a b L ps ws i k) (hL : L.Pairwise (· < ·)) (hi : i < ps.length) (hi' : i < ws.length) (hk : k < L.length) (h0 : (stepP a b ps[i] L[k]).1 ≠ 0) (hq : stepP a b ps[i] L[k] ∉ ps) :
    PB a b L (ps ++ [stepP a b ps[i] L[k]]) (ws ++ [L[k] :: ws[i]]) i (k + 1) := by
  obtain ⟨ss, hs, hb⟩ := h.bfs
  obtain ⟨hl, hn⟩ := nodes_at hs
  have hN : pN a b (code ps[i]) L[k] = [code (stepP a b ps[i] L[k])] := by
    unfold pN
    rw [code_parts (h.small _ (List.getElem_mem hi)).2, if_neg h0]
  refine ⟨⟨ss ++ [⟨i, L[k], [code (stepP a b ps[i] L[k])]⟩], by rw [List.map_append, List.map_append, hs]; rfl, hb.fresh hL (by omega) hi' hk (fun n' hn' => ?_) (fun n hn1 n' hn2 => ?_) (fun _ _ h => h)⟩, fun p hp => ?_, ?_⟩
  · exact ⟨code ps[i], by rw [hn i (by omega) hi]; exact List.mem_singleton.2 rfl, by rw [hN]; exact hn'⟩
  · rw [hn i (by omega) hi, List.mem_singleton] at hn1
    subst hn1
    rw [hN] at hn2
    exact .inl hn2
  · rcases List.mem_append.1 hp with hp | hp
    · exact h.small p hp
    · rw [List.mem_singleton] at hp
      subst hp
      exact ⟨stepSet_lt _ _ _, stepSet_lt _ _ _⟩
  · rw [List.nodup_append]
    refine ⟨h.nodup, by simp, fun x hx y hy e => ?_⟩
    rw [List.mem_singleton] at hy
    subst hy e
    exact hq hx

theorem PB.found (h : PB a b L ps ws i 0) (hi : i < ps.length) (hi' : i < ws.length) (hpre : ∀ j (hj : j < ps.length), j < i → ps[j].2 ≠ 0) (h0 : ps[i].2 = 0) : FirstW pI L (pN a b) pG ws[i] := by
  obtain ⟨ss, hs, hb⟩ := h.bfs
  obtain ⟨hl, hn⟩ := nodes_at hs
  refine hb.popped (by omega) hi' (fun j hj hji n hnj hg => ?_) (n := code ps[i]) (by rw [hn i (by omega) hi]; exact List.mem_singleton.2 rfl) ?_
  · rw [hn j hj (by omega), List.mem_singleton] at hnj
    subst hnj
    have := h.small _ (List.getElem_mem (show j < ps.length by omega))
    refine hpre j (by omega) hji ?_
    unfold pG code at hg
    omega
  · unfold pG code
    omega

theorem PB.none (h : PB a b L ps ws ps.length 0) (hpre : ∀ j (hj : j < ps.length), ps[j].2 ≠ 0) : ∀ q n, RW pI L (pN a b) q n → ¬ pG n := by
  obtain ⟨ss, hs, hb⟩ := h.bfs
  obtain ⟨hl, hn⟩ := nodes_at hs
  rw [← hl] at hb
  refine hb.nonePopped fun j hj n hnj hg => ?_
  rw [hn j hj (by omega), List.mem_singleton] at hnj
  subst hnj
  have := h.small _ (List.getElem_mem (show j < ps.length by omega))
  refine hpre j (by omega) ?_
  unfold pG code at hg
  omega
end

end AG

/- Plain: the program's breadth-first search. -/
namespace AG

/-- The state of the search. -/
structure SB (I : Nat → Prop) (L : List Nat) (nx : Nat → Nat → List Nat) (G : Nat → Bool) (size : Nat) (ss : List Stp) (ws : List (List Nat)) (S : Nat → Bool) (i k : Nat) : Prop where
  bfs : Bfs I L nx (fun n => G n = true) ss ws i k
  seen : ∀ n, S n = true ↔ ∃ x ∈ ss, n ∈ x.nodes
  small : ∀ x ∈ ss, ∀ n ∈ x.nodes, n < size
  ne : ∀ x ∈ ss, x.nodes ≠ []
  nodup : (ss.flatMap (·.nodes)).Nodup

section
variable {I : Nat → Prop} {L : List Nat} {nx : Nat → Nat → List Nat} {G : Nat → Bool} {size : Nat} {ss : List Stp} {ws : List (List Nat)} {S : Nat → Bool} {i k : Nat}

theorem flat_len : ∀ {ss : List Stp}, (∀ x ∈ ss, x.nodes ≠ []) → ss.length ≤ (ss.flatMap (·.nodes)).length
  | [], _ => Nat.le_refl _
  | x :: ss, h => by
    have h1 := flat_len (ss := ss) fun y hy => h y (List.mem_cons_of_mem _ hy)
    have h2 : 0 < x.nodes.length := List.length_pos_iff.2 (h x List.mem_cons_self)
    rw [List.flatMap_cons, List.length_append, List.length_cons]
    omega
theorem flat_nodup : ∀ {ss : List Stp} {x : Stp}, (ss.flatMap (·.nodes)).Nodup → x ∈ ss → x.nodes.Nodup
  | y :: ss, x, h, hx => by
    rw [List.flatMap_cons, List.nodup_append] at h
    rcases List.mem_cons.1 hx with rfl | hx
    · exact h.1
    · exact flat_nodup h.2.1 hx
theorem SB.bound (h : SB I L nx G size ss ws S i k) : ss.length ≤ size := by
  refine Nat.le_trans (flat_len h.ne) (nodup_bound size _ h.nodup fun x hx => ?_)
  obtain ⟨y, hy, hxy⟩ := List.mem_flatMap.1 hx
  exact h.small y hy x hxy
theorem SB.nodesLen (h : SB I L nx G size ss ws S i k) {x : Stp} (hx : x ∈ ss) : x.nodes.length ≤ size := by
  exact nodup_bound size _ (flat_nodup h.nodup hx) (h.small x hx)

theorem SB.begin {I0 : List Nat} (h0 : I0 ≠ []) (hs : ∀ n ∈ I0, n < size) (hg : (frs (fun _ => false) I0).any G = false) :
    SB (fun n => n ∈ I0) L nx G size [⟨-1, 0, frs (fun _ => false) I0⟩] [[]] (fun n => (frs (fun _ => false) I0).contains n) 0 0 := by
  have hm : ∀ n, n ∈ frs (fun _ => false) I0 ↔ n ∈ I0 := fun n => by rw [frs_mem]; simp
  refine ⟨Bfs.begin hm fun n hn e => ?_, fun n => by simp, fun x hx n hn => ?_, fun x hx e => ?_, by simpa using frs_nodup _ _⟩
  · rw [List.any_eq_false] at hg
    exact hg n hn e
  · rw [List.mem_singleton] at hx
    subst hx
    exact hs n ((hm n).1 hn)
  · rw [List.mem_singleton] at hx
    subst hx
    obtain ⟨a, ha⟩ := List.exists_mem_of_ne_nil _ h0
    have := (hm a).2 ha
    simp only at e
    rw [e] at this
    cases this
/-- The goal is among the first nodes. -/
theorem first_now {I0 : List Nat} (hg : (frs (fun _ => false) I0).any G = true) : FirstW (fun n => n ∈ I0) L nx (fun n => G n = true) [] := by
  rw [List.any_eq_true] at hg
  obtain ⟨n, hn, h⟩ := hg
  exact ⟨⟨n, ((frs_mem _ _ _).1 hn).1, h⟩, fun q m _ _ => rle_nil q⟩

/-- What the nodes of step i reach by letter number k. -/
def reachedL (nx : Nat → Nat → List Nat) (l : Nat) (ns : List Nat) : List Nat := ns.flatMap fun n => nx n l
theorem reachedL_snoc (l : Nat) (ns : List Nat) (n : Nat) : reachedL nx l (ns ++ [n]) = reachedL nx l ns ++ nx n l := by unfold reachedL; rw [List.flatMap_append]; simp
theorem reachedL_mem {l : Nat} {ns : List Nat} {x : Nat} : x ∈ reachedL nx l ns ↔ ∃ n ∈ ns, x ∈ nx n l := by unfold reachedL; rw [List.mem_flatMap]

theorem SB.over (h : SB I L nx G size ss ws S i k) (hk : L.length ≤ k) : SB I L nx G size ss ws S (i + 1) 0 := ⟨h.bfs.over hk, h.seen, h.small, h.ne, h.nodup⟩

theorem SB.old (h : SB I L nx G size ss ws S i k) (hL : L.Pairwise (· < ·)) (hi : i < ss.length) (hk : k < L.length) (hf : frs S (reachedL nx L[k] ss[i].nodes) = []) : SB I L nx G size ss ws S i (k + 1) := by
  refine ⟨h.bfs.stale hL hi hk fun n hn n' hn' => ?_, h.seen, h.small, h.ne, h.nodup⟩
  have hno : ¬ n' ∈ frs S (reachedL nx L[k] ss[i].nodes) := by rw [hf]; simp
  rw [frs_mem] at hno
  have hS : S n' = true := by
    cases hS : S n'
    · exact absurd ⟨reachedL_mem.2 ⟨n, hn, hn'⟩, hS⟩ hno
    · rfl
  obtain ⟨x, hx, hxn⟩ := (h.seen n').1 hS
  obtain ⟨j, hj, rfl⟩ := List.mem_iff_getElem.1 hx
  exact ⟨j, hj, hxn⟩

theorem SB.add (h : SB I L nx G size ss ws S i k) (hL : L.Pairwise (· < ·)) (hi : i < ss.length) (hi' : i < ws.length) (hk : k < L.length) (hnx : ∀ q, q < size → ∀ n ∈ nx q L[k], n < size) {fr : List Nat} (hf : fr = frs S (reachedL nx L[k] ss[i].nodes))
    (hne : fr ≠ []) (hg : fr.any G = false) :
    SB I L nx G size (ss ++ [⟨i, L[k], fr⟩]) (ws ++ [L[k] :: ws[i]]) (fun n => S n || fr.contains n) i (k + 1) := by
  have hm : ∀ n, n ∈ fr ↔ n ∈ reachedL nx L[k] ss[i].nodes ∧ S n = false := fun n => by rw [hf, frs_mem]
  refine ⟨h.bfs.fresh hL hi hi' hk (fun n' hn' => ?_) (fun n hn n' hn' => ?_) (fun n' hn' e => ?_), fun n => ?_, fun x hx n hn => ?_, fun x hx => ?_, ?_⟩
  · exact reachedL_mem.1 ((hm n').1 hn').1
  · cases hS : S n'
    · exact .inl ((hm n').2 ⟨reachedL_mem.2 ⟨n, hn, hn'⟩, hS⟩)
    · obtain ⟨x, hx, hxn⟩ := (h.seen n').1 hS
      obtain ⟨j, hj, rfl⟩ := List.mem_iff_getElem.1 hx
      exact .inr ⟨j, hj, hxn⟩
  · rw [List.any_eq_false] at hg
    exact hg n' hn' e
  · rw [Bool.or_eq_true, h.seen]
    constructor
    · rintro (⟨x, hx, hn⟩ | hn)
      · exact ⟨x, List.mem_append_left _ hx, hn⟩
      · exact ⟨_, List.mem_append_right _ (List.mem_singleton.2 rfl), by simpa using hn⟩
    · rintro ⟨x, hx, hn⟩
      rcases List.mem_append.1 hx with hx | hx
      · exact .inl ⟨x, hx, hn⟩
      · rw [List.mem_singleton] at hx
        subst hx
        exact .inr (by simpa using hn)
  · rcases List.mem_append.1 hx with hx | hx
    · exact h.small x hx n hn
    · rw [List.mem_singleton] at hx
      subst hx
      obtain ⟨q, hq, hnq⟩ := reachedL_mem.1 ((hm n).1 hn).1
      exact hnx q (h.small _ (List.getElem_mem hi) q hq) n hnq
  · rcases List.mem_append.1 hx with hx | hx
    · exact h.ne x hx
    · rw [List.mem_singleton] at hx
      subst hx
      exact hne
  · rw [List.flatMap_append, List.nodup_append]
    refine ⟨h.nodup, by simp only [List.flatMap_cons, List.flatMap_nil, List.append_nil]; rw [hf]; exact frs_nodup _ _, fun a ha b hb e => ?_⟩
    subst e
    simp only [List.flatMap_cons, List.flatMap_nil, List.append_nil] at hb
    obtain ⟨x, hx, hxa⟩ := List.mem_flatMap.1 ha
    have h1 := (h.seen a).2 ⟨x, hx, hxa⟩
    have h2 := ((hm a).1 hb).2
    rw [h1] at h2
    cases h2

theorem SB.found (h : SB I L nx G size ss ws S i k) (hL : L.Pairwise (· < ·)) (hi : i < ss.length) (hi' : i < ws.length) (hk : k < L.length) (hg : (frs S (reachedL nx L[k] ss[i].nodes)).any G = true) :
    FirstW I L nx (fun n => G n = true) (L[k] :: ws[i]) := by
  rw [List.any_eq_true] at hg
  obtain ⟨n', hn', hG⟩ := hg
  obtain ⟨n, hn, hnn⟩ := reachedL_mem.1 ((frs_mem _ _ _).1 hn').1
  exact h.bfs.found hL hi hi' hk hn hnn hG
theorem SB.none (h : SB I L nx G size ss ws S ss.length 0) : ∀ q n, RW I L nx q n → ¬ G n = true := h.bfs.none
end
end AG

/- Plain: both searches for a trace outside have one answer. -/
namespace AG

/-- The set of states to which a word leads (its last letter first). -/
noncomputable def setW (s : Sy) : List Nat → Nat
  | [] => 1
  | l :: r => stepSet s (setW s r) (l : Int)

theorem mv_small {s : Sy} (hs : edgesIn s) (q l : Nat) : mv s q l < 2 ^ s.st.toNat := by
  refine Nat.lt_pow_two_of_testBit _ fun i hi => ?_
  rw [← Bool.not_eq_true, mv_testBit]
  rintro ⟨_, e, he, _, _, rfl⟩
  have := hs e he
  omega
theorem unionOf_testBit (m : Nat → Nat → Nat) (S l t : Nat) : (unionOf m S l).testBit t = true ↔ t < 16 ∧ ∃ q, S.testBit q = true ∧ (m q l).testBit t = true := by
  unfold unionOf
  exact bitsOf_testBit _ _ _
theorem unionOf_small {s : Sy} (hs : edgesIn s) (S l : Nat) : unionOf (mv s) S l < 2 ^ s.st.toNat := by
  refine Nat.lt_pow_two_of_testBit _ fun i hi => ?_
  rw [← Bool.not_eq_true, unionOf_testBit]
  rintro ⟨_, q, _, h⟩
  have := testBit_lt (mv_small hs q l) h
  omega
theorem setW_small {s : Sy} (hs : edgesIn s) (h1 : 1 ≤ s.st) : ∀ r, setW s r < 2 ^ s.st.toNat
  | [] => by
    have : 2 ^ 1 ≤ 2 ^ s.st.toNat := Nat.pow_le_pow_right (by omega) (by omega)
    show 1 < _
    omega
  | l :: r => by
    show stepSet s (setW s r) (l : Int) < _
    rw [← unionOf_mv s hs]
    exact unionOf_small hs _ _
theorem setW_lt (s : Sy) : ∀ r, setW s r < 65536
  | [] => by show 1 < _; omega
  | l :: r => stepSet_lt _ _ _
theorem stepSet_zero (s : Sy) (l : Int) : stepSet s 0 l = 0 := by
  refine Nat.eq_of_testBit_eq fun t => ?_
  rw [Nat.zero_testBit, ← Bool.not_eq_true]
  unfold stepSet
  rw [bitsOf_testBit]
  rintro ⟨_, e, _, _, h, _⟩
  simp at h

/-- A word that is a trace of s and none of t. -/
def Outside (s t : Sy) (r : List Nat) : Prop := (∀ l ∈ r, l ∈ letters s.al) ∧ setW s r ≠ 0 ∧ setW t r = 0
def IsOut (s t : Sy) (o : Option (List Nat)) : Prop :=
  if cmpOk s t = true then
    match o with
    | some r => Outside s t r ∧ ∀ q, Outside s t q → rle r q
    | none => ∀ q, ¬ Outside s t q
  else o = none
theorem IsOut.unique {s t : Sy} {o o' : Option (List Nat)} (h : IsOut s t o) (h' : IsOut s t o') : o = o' := by
  unfold IsOut at h h'
  split at h
  · rename_i hc
    rw [if_pos hc] at h'
    cases o with
    | some r =>
      cases o' with
      | some r' => rw [rle_antisymm (h.2 _ h'.1) (h'.2 _ h.1)]
      | none => exact absurd h.1 (h' r)
    | none =>
      cases o' with
      | some r' => exact absurd h'.1 (h r')
      | none => rfl
  · rename_i hc
    rw [if_neg hc] at h'
    rw [h, h']

theorem out_of_first {s t : Sy} {I : Nat → Prop} {L : List Nat} {nx : Nat → Nat → List Nat} {G : Nat → Prop} (hH : ∀ r, (∃ n, RW I L nx r n ∧ G n) ↔ Outside s t r) (hc : cmpOk s t = true) {o : Option (List Nat)}
    (h : match o with | some r => FirstW I L nx G r | none => ∀ q n, RW I L nx q n → ¬ G n) : IsOut s t o := by
  unfold IsOut
  rw [if_pos hc]
  cases o with
  | some r =>
    obtain ⟨h1, h2⟩ := h
    refine ⟨(hH r).1 h1, fun q hq => ?_⟩
    obtain ⟨n, hn, hg⟩ := (hH q).2 hq
    exact h2 q n hn hg
  | none =>
    intro q hq
    obtain ⟨n, hn, hg⟩ := (hH q).2 hq
    exact h q n hn hg

/-- The reference's nodes. -/
theorem spec_nodes {s t : Sy} : ∀ r n, RW pI (letters s.al) (pN s t) r n ↔ (∀ l ∈ r, l ∈ letters s.al) ∧ setW s r ≠ 0 ∧ n = code (setW s r, setW t r) := by
  intro r
  induction r with
  | nil =>
    intro n
    show pI n ↔ _
    unfold pI
    constructor
    · intro h; exact ⟨(fun l hl => by cases hl), (by show (1 : Nat) ≠ 0; decide), h⟩
    · rintro ⟨_, _, h⟩; exact h
  | cons l r ih =>
    intro n
    show (l ∈ letters s.al ∧ ∃ m, RW pI (letters s.al) (pN s t) r m ∧ n ∈ pN s t m l) ↔ _
    constructor
    · rintro ⟨hl, m, hm, hn⟩
      obtain ⟨h1, h2, rfl⟩ := (ih m).1 hm
      unfold pN at hn
      rw [code_parts (setW_lt t r)] at hn
      split at hn
      · cases hn
      · rename_i h0
        rw [List.mem_singleton] at hn
        exact ⟨fun x hx => by rcases List.mem_cons.1 hx with rfl | hx; exact hl; exact h1 x hx, h0, hn⟩
    · rintro ⟨h1, h2, rfl⟩
      have h3 : setW s r ≠ 0 := fun e => h2 (by show stepSet s (setW s r) _ = 0; rw [e, stepSet_zero])
      refine ⟨h1 l List.mem_cons_self, _, (ih _).2 ⟨fun x hx => h1 x (List.mem_cons_of_mem _ hx), h3, rfl⟩, ?_⟩
      unfold pN
      rw [code_parts (setW_lt t r), if_neg (show ¬ (stepP s t (setW s r, setW t r) l).1 = 0 from h2)]
      exact List.mem_singleton.2 rfl
theorem spec_hits {s t : Sy} (r : List Nat) : (∃ n, RW pI (letters s.al) (pN s t) r n ∧ pG n) ↔ Outside s t r := by
  constructor
  · rintro ⟨n, hn, hg⟩
    obtain ⟨h1, h2, rfl⟩ := (spec_nodes r n).1 hn
    refine ⟨h1, h2, ?_⟩
    have := setW_lt t r
    unfold pG code at hg
    omega
  · rintro ⟨h1, h2, h3⟩
    exact ⟨_, (spec_nodes r _).2 ⟨h1, h2, rfl⟩, by unfold pG code; rw [h3]; omega⟩

/-- The program's nodes: a state of s and the set of t. -/
noncomputable def outNx (s t : Sy) (z : Nat) (node l : Nat) : List Nat := (memL (mv s (node / z) l)).map fun q => q * z + unionOf (mv t) (node % z) l
theorem impl_nodes {s t : Sy} (hs : edgesIn s) (ht : edgesIn t) (h1 : 1 ≤ t.st) : ∀ r n, RW (fun n => n ∈ [1]) (letters s.al) (outNx s t (2 ^ t.st.toNat)) r n ↔
    (∀ l ∈ r, l ∈ letters s.al) ∧ ∃ q, (setW s r).testBit q = true ∧ n = q * 2 ^ t.st.toNat + setW t r := by
  intro r
  have hz : 0 < 2 ^ t.st.toNat := Nat.two_pow_pos _
  induction r with
  | nil =>
    intro n
    show n ∈ [1] ↔ _
    rw [List.mem_singleton]
    constructor
    · rintro rfl
      exact ⟨(fun l hl => by cases hl), 0, (by show (1 : Nat).testBit 0 = true; decide), (by show 1 = 0 * _ + 1; omega)⟩
    · rintro ⟨_, q, hq, rfl⟩
      have hq0 : q = 0 := by
        have : (1 : Nat).testBit q = true := hq
        have := testBit_lt (n := 1) (S := 1) (by decide) this
        omega
      subst hq0
      show 0 * _ + 1 = 1
      omega
  | cons l r ih =>
    intro n
    show (l ∈ letters s.al ∧ ∃ m, RW (fun n => n ∈ [1]) (letters s.al) (outNx s t (2 ^ t.st.toNat)) r m ∧ n ∈ outNx s t (2 ^ t.st.toNat) m l) ↔ _
    have hd : ∀ q, (q * 2 ^ t.st.toNat + setW t r) / 2 ^ t.st.toNat = q ∧ (q * 2 ^ t.st.toNat + setW t r) % 2 ^ t.st.toNat = setW t r := fun q => by
      have hlt := setW_small ht h1 r
      constructor
      · rw [Nat.mul_comm, Nat.mul_add_div hz, Nat.div_eq_of_lt hlt]; omega
      · rw [Nat.mul_comm, Nat.mul_add_mod, Nat.mod_eq_of_lt hlt]
    have hS : setW t (l :: r) = unionOf (mv t) (setW t r) l := (unionOf_mv t ht _ _).symm
    have hsS : setW s (l :: r) = unionOf (mv s) (setW s r) l := (unionOf_mv s hs _ _).symm
    constructor
    · rintro ⟨hl, m, hm, hn⟩
      obtain ⟨h2, q, hq, rfl⟩ := (ih m).1 hm
      unfold outNx at hn
      rw [(hd q).1, (hd q).2] at hn
      obtain ⟨q', hq', rfl⟩ := List.mem_map.1 hn
      obtain ⟨h16, hb⟩ := memL_mem.1 hq'
      refine ⟨fun x hx => by rcases List.mem_cons.1 hx with rfl | hx; exact hl; exact h2 x hx, q', ?_, by rw [hS]⟩
      rw [hsS, unionOf_testBit]
      exact ⟨h16, q, hq, hb⟩
    · rintro ⟨h2, q', hq', rfl⟩
      rw [hsS, unionOf_testBit] at hq'
      obtain ⟨h16, q, hq, hb⟩ := hq'
      refine ⟨h2 l List.mem_cons_self, _, (ih _).2 ⟨fun x hx => h2 x (List.mem_cons_of_mem _ hx), q, hq, rfl⟩, ?_⟩
      unfold outNx
      rw [(hd q).1, (hd q).2, hS]
      exact List.mem_map.2 ⟨q', memL_mem.2 ⟨h16, hb⟩, rfl⟩
theorem impl_hits {s t : Sy} (hs : edgesIn s) (ht : edgesIn t) (h1 : 1 ≤ t.st) (r : List Nat) : (∃ n, RW (fun n => n ∈ [1]) (letters s.al) (outNx s t (2 ^ t.st.toNat)) r n ∧ decide (n % 2 ^ t.st.toNat = 0) = true) ↔ Outside s t r := by
  have hlt := setW_small ht h1 r
  constructor
  · rintro ⟨n, hn, hg⟩
    obtain ⟨h2, q, hq, rfl⟩ := (impl_nodes hs ht h1 r n).1 hn
    refine ⟨h2, fun e => ?_, ?_⟩
    · rw [e, Nat.zero_testBit] at hq; cases hq
    · rw [decide_eq_true_eq, Nat.mul_comm, Nat.mul_add_mod, Nat.mod_eq_of_lt hlt] at hg
      exact hg
  · rintro ⟨h2, h3, h4⟩
    obtain ⟨q, hq⟩ := Nat.exists_testBit_of_ne_zero h3
    refine ⟨_, (impl_nodes hs ht h1 r _).2 ⟨h2, q, hq, rfl⟩, ?_⟩
    rw [h4]
    simp
end AG

/- Plain: automata as lists; the automaton of the sets of states to which words lead. -/
namespace AG

structure Au where
  al : Int
  nx : List (List Int)
  ac : List Bool
  deriving DecidableEq

def auNil : Au := ⟨0, [], []⟩
def toRows (R : List (List Nat)) : List (List Int) := R.map fun r => r.map fun (n : Nat) => (n : Int)
/-- The letters of a that are not in b. -/
def hidA (a b : Int) : Int := a - andB a b
noncomputable def prNx (s : Sy) (h : Int) (S l : Nat) : Nat := reachSet s h (stepSet s S (l : Int))
noncomputable def prNum (s : Sy) (al : Int) : Option (List Nat × List (List Nat)) := numRes (prNx s (hidA s.al al)) (letters al) (reachSet s (hidA s.al al) 1) 12
def prAu (al : Int) (x : List Nat × List (List Nat)) : Au := ⟨al, toRows x.2, x.1.map fun S => decide (S ≠ 0)⟩
def prOk (s : Sy) (al : Int) : Bool := sysOk s && (alphaOk al && decide (andB s.al al = al))
noncomputable def prOpt (s : Sy) (al : Int) : Option Au := if prOk s al = true then (prNum s al).map (prAu al) else none
noncomputable def prA (s : Sy) (al : Int) : Au := (prOpt s al).getD auNil
noncomputable def prK (s : Sy) (al : Int) : Bool := (prOpt s al).isSome
theorem prA_bad {s : Sy} {al : Int} (h : prOk s al = false) : prA s al = auNil ∧ prK s al = false := by
  unfold prA prK prOpt
  rw [h]
  exact ⟨rfl, rfl⟩
theorem prA_none {s : Sy} {al : Int} (h : prNum s al = none) : prA s al = auNil ∧ prK s al = false := by
  unfold prA prK prOpt
  rw [h]
  split <;> exact ⟨rfl, rfl⟩
theorem prA_some {s : Sy} {al : Int} {x : List Nat × List (List Nat)} (hk : prOk s al = true) (h : prNum s al = some x) : prA s al = prAu al x ∧ prK s al = true := by
  unfold prA prK prOpt
  rw [if_pos hk, h]
  exact ⟨rfl, rfl⟩
theorem toRows_len (R : List (List Nat)) : (toRows R).length = R.length := by unfold toRows; rw [List.length_map]

theorem alphaOk_rng {a : Int} (h : alphaOk a = true) : 0 ≤ a ∧ a ≤ 63 := by unfold alphaOk at h; simpa using h
theorem prOk_parts {s : Sy} {al : Int} (h : prOk s al = true) : sysOk s = true ∧ (0 ≤ al ∧ al ≤ 63) ∧ andB s.al al = al := by
  unfold prOk at h
  simp only [Bool.and_eq_true, decide_eq_true_eq] at h
  exact ⟨h.1, alphaOk_rng h.2.1, h.2.2⟩

theorem numRes_len {nx : Nat → Nat → Nat} {L : List Nat} {n0 lim : Nat} {x : List Nat × List (List Nat)} (h : numRes nx L n0 lim = some x) : x.1.length ≤ lim ∧ x.2.length = x.1.length ∧ (∀ r ∈ x.2, r.length = L.length) := by
  unfold numRes at h
  split at h
  · rename_i hl
    injection h with h
    subst h
    refine ⟨hl, by simp, fun r hr => ?_⟩
    obtain ⟨a, _, rfl⟩ := List.mem_map.1 hr
    unfold rowOf
    rw [List.length_map]
  · cases h
theorem addN_len (ns : List Nat) (x : Nat) : (addN ns x).length ≤ ns.length + 1 := by
  unfold addN
  split
  · omega
  · simp
theorem rowN_len (nx : Nat → Nat → Nat) (a : Nat) : ∀ (L ns : List Nat), (rowN nx a ns L).length ≤ ns.length + L.length
  | [], ns => by simp [rowN]
  | l :: L, ns => by
    have h1 := addN_len ns (nx a l)
    have h2 := rowN_len nx a L (addN ns (nx a l))
    show (rowN nx a (addN ns (nx a l)) L).length ≤ _
    rw [List.length_cons]
    omega
theorem nsAt_len (nx : Nat → Nat → Nat) (L : List Nat) (n0 : Nat) : ∀ i, (nsAt nx L n0 i).length ≤ 1 + i * L.length
  | 0 => by simp [nsAt]
  | i + 1 => by
    have ih := nsAt_len nx L n0 i
    by_cases h : i < (nsAt nx L n0 i).length
    · rw [nsAt_succ h]
      have := rowN_len nx (nsAt nx L n0 i)[i] L (nsAt nx L n0 i)
      rw [Nat.add_mul]
      omega
    · have := nsAt_stop (nx := nx) (L := L) (n0 := n0) (i := i) (by omega) 1
      rw [this, Nat.add_mul]
      omega
theorem nsAt_all {P : Nat → Prop} {nx : Nat → Nat → Nat} {L : List Nat} {n0 : Nat} (h0 : P n0) (hs : ∀ a, P a → ∀ l ∈ L, P (nx a l)) : ∀ i, ∀ a ∈ nsAt nx L n0 i, P a
  | 0, a, ha => by rw [nsAt_zero] at ha; rw [List.mem_singleton.1 ha]; exact h0
  | i + 1, a, ha => by
    have ih := nsAt_all (nx := nx) (L := L) h0 hs i
    by_cases h : i < (nsAt nx L n0 i).length
    · rw [nsAt_succ h] at ha
      have hb := ih _ (List.getElem_mem h)
      have key : ∀ (M ns : List Nat), (∀ x ∈ ns, P x) → (∀ l ∈ M, l ∈ L) → ∀ x ∈ rowN nx (nsAt nx L n0 i)[i] ns M, P x := by
        intro M
        induction M with
        | nil => intro ns h1 _ x hx; exact h1 x hx
        | cons l M ihM =>
          intro ns h1 h2 x hx
          refine ihM (addN ns (nx (nsAt nx L n0 i)[i] l)) (fun y hy => ?_) (fun y hy => h2 y (List.mem_cons_of_mem _ hy)) x hx
          unfold addN at hy
          split at hy
          · exact h1 y hy
          · rcases List.mem_append.1 hy with hy | hy
            · exact h1 y hy
            · rw [List.mem_singleton.1 hy]
              exact hs _ hb _ (h2 l List.mem_cons_self)
      exact key L _ ih (fun l hl => hl) a ha
    · have := nsAt_stop (nx := nx) (L := L) (n0 := n0) (i := i) (by omega) 1
      rw [this] at ha
      exact ih a ha
theorem nsAt_nodup (nx : Nat → Nat → Nat) (L : List Nat) (n0 : Nat) : ∀ i, (nsAt nx L n0 i).Nodup
  | 0 => by simp [nsAt]
  | i + 1 => by
    have ih := nsAt_nodup nx L n0 i
    by_cases h : i < (nsAt nx L n0 i).length
    · rw [nsAt_succ h]
      have key : ∀ (M ns : List Nat), ns.Nodup → (rowN nx (nsAt nx L n0 i)[i] ns M).Nodup := by
        intro M
        induction M with
        | nil => intro ns h1; exact h1
        | cons l M ihM =>
          intro ns h1
          refine ihM (addN ns (nx (nsAt nx L n0 i)[i] l)) ?_
          unfold addN
          split
          · exact h1
          · rename_i hn
            rw [List.nodup_append]
            exact ⟨h1, by simp, fun a ha b hb e => hn (by rw [List.mem_singleton] at hb; rw [← hb, ← e]; exact ha)⟩
      exact key L _ ih
    · have := nsAt_stop (nx := nx) (L := L) (n0 := n0) (i := i) (by omega) 1
      rw [this]
      exact ih
theorem nsAt_pos (nx : Nat → Nat → Nat) (L : List Nat) (n0 i : Nat) : 0 < (nsAt nx L n0 i).length ∧ (nsAt nx L n0 i)[0]? = some n0 := by
  obtain ⟨m, h⟩ := nsAt_pre nx L n0 0 i
  rw [Nat.zero_add] at h
  rw [h, nsAt_zero]
  simp

end AG

/- Plain: what the automaton of sets accepts; numberings that are alike. -/
namespace AG

def auOk (a : Au) : Bool := decide (alphaOk a.al = true ∧ 1 ≤ a.nx.length ∧ a.nx.length ≤ 12 ∧ a.ac.length = a.nx.length ∧ ∀ r ∈ a.nx, r.length = (letters a.al).length ∧ ∀ q ∈ r, 0 ≤ q ∧ q < (a.nx.length : Int))
/-- The state to which a letter leads; a letter that the automaton does not have leads nowhere else. -/
def goA (a : Au) (q l : Nat) : Nat := if l ∈ letters a.al then ((a.nx.getD q []).getD ((letters a.al).idxOf l) 0).toNat else q
def runA (a : Au) (q : Nat) : List Nat → Nat
  | [] => q
  | l :: r => goA a (runA a q r) l
def accA (a : Au) (r : List Nat) : Bool := a.ac.getD (runA a 0 r) false
def dW (nx : Nat → Nat → Nat) (n0 : Nat) : List Nat → Nat
  | [] => n0
  | l :: r => nx (dW nx n0 r) l

theorem numRes_spec {nx : Nat → Nat → Nat} {L : List Nat} {n0 lim : Nat} {x : List Nat × List (List Nat)} (h : numRes nx L n0 lim = some x) :
    x.1 = nsAt nx L n0 lim ∧ x.2 = x.1.map (rowOf nx L x.1) ∧ x.1.Nodup ∧ n0 ∈ x.1 ∧ x.1.idxOf n0 = 0 ∧ (∀ a ∈ x.1, ∀ l ∈ L, nx a l ∈ x.1) := by
  unfold numRes at h
  split at h
  · rename_i hl
    injection h with h
    subst h
    obtain ⟨h1, h2⟩ := nsAt_pos nx L n0 lim
    have h3 : (nsAt nx L n0 lim)[0] = n0 := by rw [List.getElem?_eq_getElem h1] at h2; injection h2
    refine ⟨rfl, rfl, nsAt_nodup _ _ _ _, List.mem_of_getElem? h2, ?_, fun a ha l hl2 => ?_⟩
    · have := (nsAt_nodup nx L n0 lim).idxOf_getElem 0 h1
      rw [h3] at this
      exact this
    · obtain ⟨i, hi, rfl⟩ := List.getElem_of_mem ha
      have hi' : i < (nsAt nx L n0 lim).length := hi
      have hil : i < lim := by omega
      have hii : i < (nsAt nx L n0 i).length := by
        rcases Nat.lt_or_ge i (nsAt nx L n0 i).length with h | h
        · exact h
        · have := nsAt_stop h (lim - i)
          rw [show i + (lim - i) = lim from by omega] at this
          rw [this] at hi'
          omega
      obtain ⟨m, hm⟩ := nsAt_pre nx L n0 i (lim - i)
      rw [show i + (lim - i) = lim from by omega] at hm
      obtain ⟨m2, hm2⟩ := nsAt_pre nx L n0 (i + 1) (lim - (i + 1))
      rw [show i + 1 + (lim - (i + 1)) = lim from by omega] at hm2
      have e : (nsAt nx L n0 lim)[i] = (nsAt nx L n0 i)[i] := by
        simp only [hm]
        rw [List.getElem_append_left hii]
      show nx (nsAt nx L n0 lim)[i] l ∈ nsAt nx L n0 lim
      rw [e, hm2]
      exact List.mem_append_left _ (nsAt_closed hii hl2)
  · cases h

theorem dW_mem {nx : Nat → Nat → Nat} {L : List Nat} {n0 lim : Nat} {x : List Nat × List (List Nat)} (h : numRes nx L n0 lim = some x) : ∀ r : List Nat, (∀ l ∈ r, l ∈ L) → dW nx n0 r ∈ x.1
  | [], _ => (numRes_spec h).2.2.2.1
  | l :: r, hr => (numRes_spec h).2.2.2.2.2 _ (dW_mem h r fun y hy => hr y (List.mem_cons_of_mem _ hy)) l (hr l List.mem_cons_self)

theorem getD_map_of_lt {α β : Type} (f : α → β) (l : List α) (i : Nat) (d : β) (h : i < l.length) : (l.map f).getD i d = f l[i] := by
  rw [List.getD_eq_getElem?_getD, List.getElem?_eq_getElem (by simpa using h), List.getElem_map]
  rfl
theorem goA_pr {s : Sy} {al : Int} {x : List Nat × List (List Nat)} (h : prNum s al = some x) {S l : Nat} (hS : S ∈ x.1) (hl : l ∈ letters al) :
    goA (prAu al x) (x.1.idxOf S) l = x.1.idxOf (prNx s (hidA s.al al) S l) := by
  obtain ⟨_, h2, _⟩ := numRes_spec h
  have hi : x.1.idxOf S < x.1.length := List.idxOf_lt_length_iff.2 hS
  have hk : (letters al).idxOf l < (letters al).length := List.idxOf_lt_length_iff.2 hl
  unfold goA prAu
  dsimp only
  rw [if_pos hl, h2]
  unfold toRows
  rw [List.map_map, getD_map_of_lt _ _ _ _ hi]
  dsimp only [Function.comp]
  rw [List.getElem_idxOf hi]
  unfold rowOf
  rw [List.map_map, getD_map_of_lt _ _ _ _ hk]
  dsimp only [Function.comp]
  rw [List.getElem_idxOf hk]
  exact Int.toNat_natCast _
noncomputable def prW (s : Sy) (al : Int) (r : List Nat) : Nat := dW (prNx s (hidA s.al al)) (reachSet s (hidA s.al al) 1) r
theorem runA_pr {s : Sy} {al : Int} {x : List Nat × List (List Nat)} (h : prNum s al = some x) : ∀ r : List Nat, (∀ l ∈ r, l ∈ letters al) → runA (prAu al x) 0 r = x.1.idxOf (prW s al r)
  | [], _ => by
    show 0 = _
    exact (numRes_spec h).2.2.2.2.1.symm
  | l :: r, hr => by
    have ih := runA_pr h r fun y hy => hr y (List.mem_cons_of_mem _ hy)
    show goA (prAu al x) (runA (prAu al x) 0 r) l = _
    rw [ih]
    exact goA_pr h (dW_mem h r fun y hy => hr y (List.mem_cons_of_mem _ hy)) (hr l List.mem_cons_self)
theorem accA_pr {s : Sy} {al : Int} {x : List Nat × List (List Nat)} (h : prNum s al = some x) {r : List Nat} (hr : ∀ l ∈ r, l ∈ letters al) : accA (prAu al x) r = decide (prW s al r ≠ 0) := by
  unfold accA
  rw [runA_pr h r hr]
  have hm : prW s al r ∈ x.1 := dW_mem h r hr
  have hi : x.1.idxOf (prW s al r) < x.1.length := List.idxOf_lt_length_iff.2 hm
  unfold prAu
  dsimp only
  rw [getD_map_of_lt _ _ _ _ hi, List.getElem_idxOf hi]
theorem auOk_pr {s : Sy} {al : Int} {x : List Nat × List (List Nat)} (ha : 0 ≤ al ∧ al ≤ 63) (h : prNum s al = some x) : auOk (prAu al x) = true := by
  obtain ⟨h1, h2, h3⟩ := numRes_len h
  obtain ⟨_, e2, _, e4, _, e6⟩ := numRes_spec h
  have hp : 0 < x.1.length := List.length_pos_of_mem e4
  unfold auOk prAu
  rw [decide_eq_true_eq]
  dsimp only
  rw [toRows_len, List.length_map]
  refine ⟨by unfold alphaOk; simpa using ha, by omega, by omega, by omega, fun r hr => ?_⟩
  unfold toRows at hr
  obtain ⟨r', hr', rfl⟩ := List.mem_map.1 hr
  refine ⟨by rw [List.length_map]; exact h3 r' hr', fun q hq => ?_⟩
  obtain ⟨n, hn, rfl⟩ := List.mem_map.1 hq
  rw [e2] at hr'
  obtain ⟨a, ha', rfl⟩ := List.mem_map.1 hr'
  unfold rowOf at hn
  obtain ⟨l, hl, rfl⟩ := List.mem_map.1 hn
  have := List.idxOf_lt_length_iff.2 (e6 a ha' l hl)
  omega

/-- Hidden letters of the empty alphabet lead nowhere. -/
theorem reach_none (s : Sy) {S : Nat} (hS : S < 65536) : reachSet s 0 S = S := by
  refine (reach_unique (R := S) hS (fun _ h => h) (fun e _ hA _ => ?_) fun x hx => Rch.start hx).symm
  unfold Has at hA
  simp at hA
theorem andB_self {a : Int} (h : 0 ≤ a) : andB a a = a := by unfold andB; simp; omega
theorem hid_self {a : Int} (h : 0 ≤ a) : hidA a a = 0 := by unfold hidA; rw [andB_self h]; omega
theorem prW_self {s : Sy} (h : 0 ≤ s.al) : ∀ r : List Nat, prW s s.al r = setW s r
  | [] => by
    unfold prW
    rw [hid_self h]
    exact reach_none s (by omega)
  | l :: r => by
    have ih := prW_self h r
    unfold prW at ih ⊢
    rw [hid_self h] at ih ⊢
    show reachSet s 0 (stepSet s (dW (prNx s 0) (reachSet s 0 1) r) (l : Int)) = stepSet s (setW s r) (l : Int)
    rw [ih, reach_none s (stepSet_lt _ _ _)]
theorem prOk_self {s : Sy} (h : sysOk s = true) : prOk s s.al = true := by
  have := sysOk_alpha h
  unfold prOk alphaOk
  rw [h, andB_self this.1]
  simpa using this

/-- Numberings of two sets of nodes that are alike. -/
theorem addN_map {f : Nat → Nat} {ns : List Nat} {x : Nat} (hf : ∀ a ∈ ns, f a = f x → a = x) : addN (ns.map f) (f x) = (addN ns x).map f := by
  unfold addN
  by_cases h : x ∈ ns
  · rw [if_pos h, if_pos (List.mem_map_of_mem h)]
  · rw [if_neg h, if_neg (fun hm => by
      obtain ⟨a, ha, e⟩ := List.mem_map.1 hm
      exact h (hf a ha e ▸ ha)), List.map_append]
    rfl
theorem rowN_map {f : Nat → Nat} {nx nx' : Nat → Nat → Nat} {P : Nat → Prop} {a : Nat} (hinj : ∀ a b, P a → P b → f a = f b → a = b) : ∀ (M ns : List Nat), (∀ y ∈ ns, P y) → (∀ l ∈ M, P (nx a l) ∧ nx' (f a) l = f (nx a l)) → rowN nx' (f a) (ns.map f) M = (rowN nx a ns M).map f
  | [], _, _, _ => rfl
  | l :: M, ns, h1, h2 => by
    obtain ⟨h3, h4⟩ := h2 l List.mem_cons_self
    show rowN nx' (f a) (addN (ns.map f) (nx' (f a) l)) M = _
    rw [h4, addN_map fun y hy e => hinj _ _ (h1 y hy) h3 e]
    refine rowN_map hinj M (addN ns (nx a l)) (fun y hy => ?_) fun y hy => h2 y (List.mem_cons_of_mem _ hy)
    unfold addN at hy
    split at hy
    · exact h1 y hy
    · rcases List.mem_append.1 hy with hy | hy
      · exact h1 y hy
      · rw [List.mem_singleton.1 hy]; exact h3
theorem nsAt_map {f : Nat → Nat} {nx nx' : Nat → Nat → Nat} {P : Nat → Prop} {L : List Nat} {n0 : Nat} (h0 : P n0) (hinj : ∀ a b, P a → P b → f a = f b → a = b) (hs : ∀ a, P a → ∀ l ∈ L, P (nx a l) ∧ nx' (f a) l = f (nx a l)) :
    ∀ i, nsAt nx' L (f n0) i = (nsAt nx L n0 i).map f
  | 0 => rfl
  | i + 1 => by
    have ih := nsAt_map h0 hinj hs i
    have hP := nsAt_all (P := P) (nx := nx) (L := L) h0 (fun a ha l hl => (hs a ha l hl).1) i
    by_cases h : i < (nsAt nx L n0 i).length
    · have h' : i < (nsAt nx' L (f n0) i).length := by rw [ih]; simpa using h
      have e : (nsAt nx' L (f n0) i)[i] = f (nsAt nx L n0 i)[i] := by simp only [ih]; rw [List.getElem_map]
      rw [nsAt_succ h', nsAt_succ h, e, ih]
      exact rowN_map hinj L _ hP (hs _ (hP _ (List.getElem_mem h)))
    · have h' : ¬ i < (nsAt nx' L (f n0) i).length := by rw [ih]; simpa using h
      have e1 := nsAt_stop (nx := nx) (L := L) (n0 := n0) (i := i) (by omega) 1
      have e2 := nsAt_stop (nx := nx') (L := L) (n0 := f n0) (i := i) (by omega) 1
      rw [e1, e2, ih]
theorem idxOf_map {f : Nat → Nat} {x : Nat} : ∀ {ns : List Nat}, (∀ a ∈ ns, f a = f x → a = x) → (ns.map f).idxOf (f x) = ns.idxOf x
  | [], _ => rfl
  | a :: ns, h => by
    rw [List.map_cons, List.idxOf_cons, List.idxOf_cons, idxOf_map fun b hb => h b (List.mem_cons_of_mem _ hb)]
    by_cases e : a = x
    · subst e; simp
    · have : f a ≠ f x := fun e' => e (h a List.mem_cons_self e')
      rw [show (f a == f x) = false from by simpa using this, show (a == x) = false from by simpa using e]
theorem numRes_map {f : Nat → Nat} {nx nx' : Nat → Nat → Nat} {P : Nat → Prop} {L : List Nat} {n0 lim : Nat} (h0 : P n0) (hinj : ∀ a b, P a → P b → f a = f b → a = b) (hs : ∀ a, P a → ∀ l ∈ L, P (nx a l) ∧ nx' (f a) l = f (nx a l)) :
    numRes nx' L (f n0) lim = (numRes nx L n0 lim).map fun x => (x.1.map f, x.2) := by
  have hP := nsAt_all (P := P) (nx := nx) (L := L) h0 (fun a ha l hl => (hs a ha l hl).1) lim
  unfold numRes
  rw [nsAt_map h0 hinj hs, List.length_map]
  split
  · rw [Option.map_some, List.map_map]
    congr 2
    refine List.map_congr_left fun a ha => ?_
    unfold rowOf
    refine List.map_congr_left fun l hl => ?_
    obtain ⟨h1, h2⟩ := hs a (hP a ha) l hl
    rw [h2]
    exact idxOf_map fun b hb e => hinj _ _ (hP b hb) h1 e
  · rfl

end AG

/- Plain: how many bits a small number has. -/
namespace AG

def popE (x : Nat) : Nat := x % 2 + x / 2 % 2 + x / 4 % 2 + x / 8 % 2 + x / 16 % 2 + x / 32 % 2 + x / 64 % 2 + x / 128 % 2 + x / 256 % 2 + x / 512 % 2 + x / 1024 % 2 + x / 2048 % 2 + x / 4096 % 2 + x / 8192 % 2 + x / 16384 % 2 + x / 32768 % 2
/-- The library's steps. -/
def popS (x : Nat) : Nat :=
  let x1 := (x / 2 &&& 6148914691236517205) + (x &&& 6148914691236517205)
  let x2 := (x1 / 4 &&& 3689348814741910323) + (x1 &&& 3689348814741910323)
  let x3 := x2 / 16 + x2 &&& 1085102592571150095
  let x4 := x3 + x3 / 256
  let x5 := x4 + x4 / 65536
  let x6 := x5 + x5 / 4294967296
  x6 &&& 127
theorem pop_all : ∀ a : Fin 256, ∀ b : Fin 256, popE (a.val * 256 + b.val) = popS (a.val * 256 + b.val) := by decide +kernel
theorem pop_steps (x : Nat) (hx : x < 65536) : popE x = popS x := by
  have := pop_all ⟨x / 256, by omega⟩ ⟨x % 256, by omega⟩
  simp only at this
  rwa [show x / 256 * 256 + x % 256 = x from by omega] at this

end AG

/- Plain: ranks in a set, and a system with only some of its states. -/
namespace AG

/-- How many numbers below n are in the set. -/
def rankN (S : Nat) : Nat → Nat
  | 0 => 0
  | n + 1 => rankN S n + if S.testBit n = true then 1 else 0
theorem rankN_le (S : Nat) : ∀ n, rankN S n ≤ n
  | 0 => Nat.le_refl _
  | n + 1 => by
    have := rankN_le S n
    unfold rankN
    split <;> omega
theorem bit_num (x i : Nat) : (if x.testBit i = true then 1 else 0) = x / 2 ^ i % 2 := by
  have h := Nat.testBit_eq_decide_div_mod_eq (x := x) (i := i)
  rw [h]
  by_cases hh : x / 2 ^ i % 2 = 1
  · simp [hh]
  · simp [hh]; omega
theorem popE_rank (x : Nat) : popE x = rankN x 16 := by
  unfold popE
  simp only [rankN, bit_num]
  simp
theorem rank_mask (S n : Nat) : ∀ m, n ≤ m → rankN (S &&& (2 ^ n - 1)) m = rankN S n := by
  have key : ∀ i, (S &&& (2 ^ n - 1)).testBit i = (S.testBit i && decide (i < n)) := fun i => by rw [Nat.testBit_and, Nat.testBit_two_pow_sub_one]
  have low : ∀ m, m ≤ n → rankN (S &&& (2 ^ n - 1)) m = rankN S m := by
    intro m
    induction m with
    | zero => intro _; rfl
    | succ m ih =>
      intro h
      rw [rankN, rankN, ih (by omega), key, decide_eq_true (by omega : m < n), Bool.and_true]
  intro m
  induction m with
  | zero => intro h; exact low 0 (by omega) |>.trans (by rw [show n = 0 from by omega])
  | succ m ih =>
    intro h
    by_cases e : n = m + 1
    · rw [e, ← e]; exact low n (Nat.le_refl _)
    · rw [rankN, ih (by omega), key, decide_eq_false (by omega : ¬ m < n)]
      simp
theorem rank_top {S n : Nat} (hS : S < 2 ^ n) : ∀ m, n ≤ m → rankN S m = rankN S n := by
  intro m h
  have := rank_mask S n m h
  have e : S &&& (2 ^ n - 1) = S := by rw [Nat.and_two_pow_sub_one_eq_mod, Nat.mod_eq_of_lt hS]
  rwa [e] at this

def trimE (R : Nat) (e : Ed) : Ed := ⟨(rankN R e.f.toNat : Nat), e.l, (rankN R e.t.toNat : Nat)⟩
def keptE (R : Nat) (e : Ed) : Bool := R.testBit e.f.toNat && R.testBit e.t.toNat
def trimEs (R : Nat) (es : List Ed) : List Ed := (es.filter (keptE R)).map (trimE R)
/-- A system with only the states of a set, renumbered. -/
def trimSy (s : Sy) (R : Nat) : Sy := ⟨s.al, (rankN R s.st.toNat : Nat), trimEs R s.es⟩
theorem trimEs_hit {R : Nat} {es : List Ed} {k : Nat} (hk : k < es.length) (h : keptE R es[k] = true) : trimEs R (es.take (k + 1)) = trimEs R (es.take k) ++ [trimE R es[k]] := by
  unfold trimEs
  rw [List.take_succ_eq_append_getElem hk, List.filter_append, List.map_append]
  simp [h]
theorem trimEs_miss {R : Nat} {es : List Ed} {k : Nat} (hk : k < es.length) (h : keptE R es[k] = false) : trimEs R (es.take (k + 1)) = trimEs R (es.take k) := by
  unfold trimEs
  rw [List.take_succ_eq_append_getElem hk, List.filter_append, List.map_append]
  simp [h]
theorem trimEs_len (R : Nat) (es : List Ed) : (trimEs R es).length ≤ es.length := by
  unfold trimEs
  rw [List.length_map]
  exact List.length_filter_le _ _

end AG

/- Plain: a system with only its reached states does the same. -/
namespace AG

theorem rank_mono (S : Nat) {a b : Nat} (h : a ≤ b) : rankN S a ≤ rankN S b := by
  induction b with
  | zero => rw [show a = 0 from by omega]; exact Nat.le_refl _
  | succ b ih =>
    by_cases e : a = b + 1
    · rw [e]; exact Nat.le_refl _
    · have := ih (by omega)
      rw [rankN]
      omega
theorem rank_lt {S a b : Nat} (h : a < b) (ha : S.testBit a = true) : rankN S a < rankN S b := by
  have h1 : rankN S (a + 1) = rankN S a + 1 := by rw [rankN, ha]; simp
  have h2 := rank_mono S (show a + 1 ≤ b from h)
  omega
theorem rank_inj {S a b : Nat} (ha : S.testBit a = true) (hb : S.testBit b = true) (h : rankN S a = rankN S b) : a = b := by
  rcases Nat.lt_trichotomy a b with h1 | h1 | h1
  · have := rank_lt h1 ha; omega
  · exact h1
  · have := rank_lt h1 hb; omega

theorem edgeLt_iff (a b : Ed) : edgeLt a b = true ↔ a.f < b.f ∨ (a.f = b.f ∧ (a.l < b.l ∨ (a.l = b.l ∧ a.t < b.t))) := by
  unfold edgeLt
  by_cases h1 : a.f = b.f
  · by_cases h2 : a.l = b.l
    · simp [h1, h2]
    · simp [h1, h2]
  · simp [h1]
theorem edgeLt_trans {a b c : Ed} (h : edgeLt a b = true) (k : edgeLt b c = true) : edgeLt a c = true := by
  rw [edgeLt_iff] at h k ⊢
  omega
theorem edges_pairwise {s : Sy} (h : sysOk s = true) : s.es.Pairwise fun a b => edgeLt a b = true := by
  rw [List.pairwise_iff_getElem]
  intro i j hi hj hij
  induction j with
  | zero => omega
  | succ j ih =>
    have h1 := sysOk_lt h (i := j) (by omega)
    by_cases e : i = j
    · subst e; exact h1
    · exact edgeLt_trans (ih (by omega) (by omega)) h1
theorem sysOk_of {s : Sy} (h1 : alphaOk s.al = true) (h2 : 1 ≤ s.st ∧ s.st ≤ 16) (h3 : ∀ e ∈ s.es, edgeOk s.al s.st e = true) (h4 : s.es.Pairwise fun a b => edgeLt a b = true) : sysOk s = true := by
  unfold sysOk
  refine decide_eq_true ⟨h1, h2.1, h2.2, fun i hi _ => ⟨h3 _ (List.getElem_mem _), fun j hj hji => ?_⟩⟩
  exact List.pairwise_iff_getElem.1 h4 j i hj hi (by omega)

theorem reach_bit {s : Sy} (q : Nat) : (reachAll s).testBit q = true ↔ q < 16 ∧ Rch s s.al 1 q := by
  unfold reachAll reachSet
  exact bitsOf_testBit _ _ _
theorem reach_zero {s : Sy} : (reachAll s).testBit 0 = true := (reach_bit 0).2 ⟨by omega, Rch.start (by decide)⟩
theorem reach_step {s : Sy} (hs : sysOk s = true) {e : Ed} (he : e ∈ s.es) (h : (reachAll s).testBit e.f.toNat = true) : (reachAll s).testBit e.t.toNat = true := by
  obtain ⟨a, b, c, d, e1, f, g, _⟩ := sysOk_in hs e he
  exact (reach_bit _).2 ⟨by omega, Rch.step he g ((reach_bit _).1 h).2⟩

theorem trim_mem {s : Sy} {R : Nat} {e' : Ed} : e' ∈ (trimSy s R).es ↔ ∃ e ∈ s.es, R.testBit e.f.toNat = true ∧ R.testBit e.t.toNat = true ∧ e' = trimE R e := by
  show e' ∈ trimEs R s.es ↔ _
  unfold trimEs
  rw [List.mem_map]
  constructor
  · rintro ⟨e, he, rfl⟩
    rw [List.mem_filter] at he
    unfold keptE at he
    rw [Bool.and_eq_true] at he
    exact ⟨e, he.1, he.2.1, he.2.2, rfl⟩
  · rintro ⟨e, he, h1, h2, rfl⟩
    exact ⟨e, List.mem_filter.2 ⟨he, by unfold keptE; rw [h1, h2]; rfl⟩, rfl⟩

theorem trim_ok {s : Sy} (hs : sysOk s = true) : sysOk (trimSy s (reachAll s)) = true := by
  have hst := sysOk_st hs
  have hin := sysOk_in hs
  refine sysOk_of (by have := hs; unfold sysOk at this; exact (of_decide_eq_true this).1) ?_ (fun e' he' => ?_) ?_
  · show 1 ≤ ((rankN (reachAll s) s.st.toNat : Nat) : Int) ∧ ((rankN (reachAll s) s.st.toNat : Nat) : Int) ≤ 16
    have h1 := rank_lt (S := reachAll s) (a := 0) (b := s.st.toNat) (by omega) reach_zero
    have h2 := rankN_le (reachAll s) s.st.toNat
    omega
  · obtain ⟨e, he, h1, h2, rfl⟩ := trim_mem.1 he'
    obtain ⟨a, b, c, d, e1, f, g, g1, g2⟩ := hin e he
    have r1 := rank_lt (S := reachAll s) (a := e.f.toNat) (b := s.st.toNat) (by omega) h1
    have r2 := rank_lt (S := reachAll s) (a := e.t.toNat) (b := s.st.toNat) (by omega) h2
    unfold edgeOk
    rw [Bool.and_eq_true, decide_eq_true_iff]
    refine ⟨⟨?_, ?_, ?_, ?_, e1, f⟩, g⟩
    · show (0 : Int) ≤ ((rankN (reachAll s) e.f.toNat : Nat) : Int); omega
    · show ((rankN (reachAll s) e.f.toNat : Nat) : Int) < ((rankN (reachAll s) s.st.toNat : Nat) : Int); omega
    · show (0 : Int) ≤ ((rankN (reachAll s) e.t.toNat : Nat) : Int); omega
    · show ((rankN (reachAll s) e.t.toNat : Nat) : Int) < ((rankN (reachAll s) s.st.toNat : Nat) : Int); omega
  · show (trimEs (reachAll s) s.es).Pairwise _
    unfold trimEs
    rw [List.pairwise_map]
    have hp := (edges_pairwise hs).filter (keptE (reachAll s))
    refine hp.imp_of_mem fun {a b} ha hb hlt => ?_
    rw [List.mem_filter] at ha hb
    have ka := ha.2
    have kb := hb.2
    unfold keptE at ka kb
    rw [Bool.and_eq_true] at ka kb
    obtain ⟨a1, a2, a3, a4, _⟩ := hin a ha.1
    obtain ⟨b1, b2, b3, b4, _⟩ := hin b hb.1
    rw [edgeLt_iff] at hlt ⊢
    show ((rankN (reachAll s) a.f.toNat : Nat) : Int) < ((rankN (reachAll s) b.f.toNat : Nat) : Int) ∨ (((rankN (reachAll s) a.f.toNat : Nat) : Int) = ((rankN (reachAll s) b.f.toNat : Nat) : Int) ∧ (a.l < b.l ∨ (a.l = b.l ∧ ((rankN (reachAll s) a.t.toNat : Nat) : Int) < ((rankN (reachAll s) b.t.toNat : Nat) : Int))))
    rcases hlt with h | ⟨h, h'⟩
    · left
      have := rank_lt (S := reachAll s) (a := a.f.toNat) (b := b.f.toNat) (by omega) ka.1
      omega
    · right
      refine ⟨by rw [h], ?_⟩
      rcases h' with h' | ⟨h', h2⟩
      · exact .inl h'
      · refine .inr ⟨h', ?_⟩
        have := rank_lt (S := reachAll s) (a := a.t.toNat) (b := b.t.toNat) (by omega) ka.2
        omega

theorem setW_reach {s : Sy} (hs : sysOk s = true) : ∀ (r : List Nat) (q : Nat), (setW s r).testBit q = true → (reachAll s).testBit q = true
  | [], q, h => by
    have : q = 0 := by
      have := testBit_lt (n := 1) (S := 1) (by decide) h
      omega
    rw [this]
    exact reach_zero
  | l :: r, q, h => by
    have h' : (stepSet s (setW s r) (l : Int)).testBit q = true := h
    unfold stepSet at h'
    rw [bitsOf_testBit] at h'
    obtain ⟨_, e, he, _, hf, rfl⟩ := h'
    exact reach_step hs he (setW_reach hs r _ hf)
/-- The trimmed system's states are the ranks of the system's. -/
theorem setW_trim {s : Sy} (hs : sysOk s = true) : ∀ (r : List Nat) (t' : Nat), (setW (trimSy s (reachAll s)) r).testBit t' = true ↔ ∃ q, (setW s r).testBit q = true ∧ rankN (reachAll s) q = t'
  | [], t' => by
    show (1 : Nat).testBit t' = true ↔ _
    constructor
    · intro h
      have : t' = 0 := by
        have := testBit_lt (n := 1) (S := 1) (by decide) h
        omega
      exact ⟨0, (by show (1 : Nat).testBit 0 = true; decide), by rw [this]; rfl⟩
    · rintro ⟨q, hq, rfl⟩
      have : q = 0 := by
        have := testBit_lt (n := 1) (S := 1) (by decide) hq
        omega
      rw [this]
      show (1 : Nat).testBit 0 = true
      decide
  | l :: r, t' => by
    have ih := setW_trim hs r
    show (stepSet (trimSy s (reachAll s)) (setW (trimSy s (reachAll s)) r) (l : Int)).testBit t' = true ↔ ∃ q, (stepSet s (setW s r) (l : Int)).testBit q = true ∧ _
    unfold stepSet
    rw [bitsOf_testBit]
    constructor
    · rintro ⟨_, e', he', hl, hf, ht⟩
      obtain ⟨e, he, h1, h2, rfl⟩ := trim_mem.1 he'
      have hf' : (setW (trimSy s (reachAll s)) r).testBit (rankN (reachAll s) e.f.toNat) = true := hf
      obtain ⟨q, hq, hr⟩ := (ih _).1 hf'
      have hqf := rank_inj (setW_reach hs r q hq) h1 hr
      subst hqf
      refine ⟨e.t.toNat, ?_, ht⟩
      rw [bitsOf_testBit]
      obtain ⟨a, b, c, d, _⟩ := sysOk_in hs e he
      exact ⟨by omega, e, he, hl, hq, rfl⟩
    · rintro ⟨q, hq, rfl⟩
      rw [bitsOf_testBit] at hq
      obtain ⟨hq16, e, he, hl, hf, rfl⟩ := hq
      have h1 := setW_reach hs r _ hf
      have h2 := reach_step hs he h1
      have h3 := rankN_le (reachAll s) e.t.toNat
      exact ⟨by omega, trimE (reachAll s) e, trim_mem.2 ⟨e, he, h1, h2, rfl⟩, hl, (ih _).2 ⟨_, hf, rfl⟩, rfl⟩
theorem setW_same {s : Sy} (hs : sysOk s = true) (r : List Nat) : setW (trimSy s (reachAll s)) r = 0 ↔ setW s r = 0 := by
  constructor
  · intro h
    refine Nat.eq_of_testBit_eq fun q => ?_
    rw [Nat.zero_testBit, ← Bool.not_eq_true]
    intro hq
    have := (setW_trim hs r _).2 ⟨q, hq, rfl⟩
    rw [h, Nat.zero_testBit] at this
    cases this
  · intro h
    refine Nat.eq_of_testBit_eq fun q => ?_
    rw [Nat.zero_testBit, ← Bool.not_eq_true]
    intro hq
    obtain ⟨p, hp, _⟩ := (setW_trim hs r q).1 hq
    rw [h, Nat.zero_testBit] at hp
    cases hp
theorem reach_trim {s : Sy} (hs : sysOk s = true) {q : Nat} (hq : (reachAll s).testBit q = true) : (reachAll (trimSy s (reachAll s))).testBit (rankN (reachAll s) q) = true := by
  have h := ((reach_bit q).1 hq).2
  have := h (fun q => (reachAll s).testBit q = true ∧ (reachAll (trimSy s (reachAll s))).testBit (rankN (reachAll s) q) = true) (fun x hx => by
    have : x = 0 := by
      have := testBit_lt (n := 1) (S := 1) (by decide) hx
      omega
    rw [this]
    exact ⟨reach_zero, reach_zero⟩) (fun e he _ hf => by
    have h2 := reach_step hs he hf.1
    refine ⟨h2, ?_⟩
    exact reach_step (trim_ok hs) (e := trimE (reachAll s) e) (trim_mem.2 ⟨e, he, hf.1, h2, rfl⟩) hf.2)
  exact this.2

/-- No two edges from a reached state have one letter. -/
def DetP (s : Sy) : Prop := ∀ a ∈ s.es, ∀ b ∈ s.es, (reachAll s).testBit a.f.toNat = true → a.f = b.f → a.l = b.l → a = b
theorem detAt_iff {s : Sy} (hs : sysOk s = true) : detAt s (reachAll s) s.es.length ↔ DetP s := by
  have hp := List.pairwise_iff_getElem.1 (edges_pairwise hs)
  constructor
  · intro h a ha b hb hr hf hl
    obtain ⟨i, hi, rfl⟩ := List.getElem_of_mem ha
    obtain ⟨j, hj, rfl⟩ := List.getElem_of_mem hb
    have key : ∀ i j (hi : i < s.es.length) (hj : j < s.es.length), i < j → (reachAll s).testBit s.es[i].f.toNat = true → s.es[i].f = s.es[j].f → s.es[i].l = s.es[j].l → False := by
      intro i j hi hj hij hr hf hl
      refine h i (by omega) (by omega) ⟨by rw [Has_nat]; exact hr, ?_⟩
      have h1 := hp i (i + 1) hi (by omega) (by omega)
      by_cases e : i + 1 = j
      · subst e; exact ⟨hf, hl⟩
      · have h2 := hp (i + 1) j (by omega) hj (by omega)
        rw [edgeLt_iff] at h1 h2
        constructor <;> omega
    rcases Nat.lt_trichotomy i j with e | e | e
    · exact (key i j hi hj e hr hf hl).elim
    · subst e; rfl
    · exact (key j i hj hi e (by rw [← hf]; exact hr) hf.symm hl.symm).elim
  · intro h i hi _ ⟨h1, h2, h3⟩
    rw [Has_nat] at h1
    have e := h _ (List.getElem_mem _) _ (List.getElem_mem hi) h1 h2 h3
    have h4 := hp i (i + 1) (by omega) hi (by omega)
    rw [e, edgeLt_iff] at h4
    omega
theorem detP_trim {s : Sy} (hs : sysOk s = true) : DetP (trimSy s (reachAll s)) ↔ DetP s := by
  have hin := sysOk_in hs
  constructor
  · intro h a ha b hb hr hf hl
    have hra : (reachAll s).testBit b.f.toNat = true := by rw [← hf]; exact hr
    have ta := reach_step hs ha hr
    have tb := reach_step hs hb hra
    have e := h (trimE (reachAll s) a) (trim_mem.2 ⟨a, ha, hr, ta, rfl⟩) (trimE (reachAll s) b) (trim_mem.2 ⟨b, hb, hra, tb, rfl⟩) (reach_trim hs hr) (by show ((rankN (reachAll s) a.f.toNat : Nat) : Int) = ((rankN (reachAll s) b.f.toNat : Nat) : Int); rw [hf]) hl
    have e2 : ((rankN (reachAll s) a.t.toNat : Nat) : Int) = ((rankN (reachAll s) b.t.toNat : Nat) : Int) := congrArg Ed.t e
    have e3 := rank_inj ta tb (by omega)
    obtain ⟨_, _, a3, _⟩ := hin a ha
    obtain ⟨_, _, b3, _⟩ := hin b hb
    have e4 : a.t = b.t := by omega
    cases a
    cases b
    simp only at hf hl e4
    rw [hf, hl, e4]
  · intro h a' ha' b' hb' _ hf hl
    obtain ⟨a, ha, a1, a2, rfl⟩ := trim_mem.1 ha'
    obtain ⟨b, hb, b1, b2, rfl⟩ := trim_mem.1 hb'
    have hf' : ((rankN (reachAll s) a.f.toNat : Nat) : Int) = ((rankN (reachAll s) b.f.toNat : Nat) : Int) := hf
    have e := rank_inj a1 b1 (by omega)
    obtain ⟨c1, _⟩ := hin a ha
    obtain ⟨d1, _⟩ := hin b hb
    rw [h a ha b hb a1 (by omega) hl]
theorem detB_trim {s : Sy} (hs : sysOk s = true) : detB (trimSy s (reachAll s)) = detB s := by
  have e : detAt (trimSy s (reachAll s)) (reachAll (trimSy s (reachAll s))) (trimSy s (reachAll s)).es.length = detAt s (reachAll s) s.es.length := propext ((detAt_iff (trim_ok hs)).trans ((detP_trim hs).trans (detAt_iff hs).symm))
  unfold detB
  rw [hs, trim_ok hs, Bool.true_and, Bool.true_and]
  exact decide_eq_decide.2 (by rw [e])

end AG
