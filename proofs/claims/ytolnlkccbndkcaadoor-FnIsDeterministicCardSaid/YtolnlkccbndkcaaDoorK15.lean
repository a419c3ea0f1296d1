/- Lemmas, part 15: several texts in one. -/
import Derived.Test.YtolnlkccbndkcaaDoorK7
import Derived.Test.YtolnlkccbndkcaaDoorK2
import Derived.Test.YtolnlkccbndkcaaDoorK5
import Derived.Test.YtolnlkccbndkcaaDoorK6
import Derived.Test.YtolnlkccbndkcaaDoorK12
import Derived.Deep.DeepCutAuto
set_option linter.unusedSimpArgs false
set_option linter.unusedVariables false

/- Plain: the system of an automaton: its accepting states, and the letters that lead from one to another. -/
namespace Go.Proofs.YtolnlkccbndkcaaDoor
open AG

/-- The accepting states below k as a set. -/
def accSet (a : Au) : Nat → Nat
  | 0 => 0
  | k + 1 => if a.ac.getD k false = true then accSet a k ||| 2 ^ k else accSet a k
theorem accSet_lt (a : Au) : ∀ k, accSet a k < 2 ^ k
  | 0 => by simp [accSet]
  | k + 1 => by
    have ih := accSet_lt a k
    have h1 : 2 ^ k < 2 ^ (k + 1) := Nat.pow_lt_pow_right (by omega) (by omega)
    unfold accSet
    split
    · exact or_pow_lt (by omega) (by omega)
    · omega
theorem accSet_bit (a : Au) (j : Nat) : ∀ k, (accSet a k).testBit j = (decide (j < k) && a.ac.getD j false)
  | 0 => by simp [accSet]
  | k + 1 => by
    have ih := accSet_bit a j k
    unfold accSet
    by_cases h : a.ac.getD k false = true
    · rw [if_pos h]
      by_cases e : k = j
      · subst e
        rw [h, decide_eq_true (by omega)]
        exact (testBit_or_pow _ _ _).2 (.inr rfl)
      · rw [Bool.eq_iff_iff, testBit_or_pow, ih]
        simp only [Bool.and_eq_true, decide_eq_true_eq]
        constructor
        · rintro (⟨h1, h2⟩ | h1)
          · exact ⟨by omega, h2⟩
          · exact absurd h1 e
        · rintro ⟨h1, h2⟩
          exact .inl ⟨by omega, h2⟩
    · rw [if_neg h, ih]
      by_cases e : k = j
      · subst e
        rw [Bool.not_eq_true] at h
        rw [h]
        simp
      · have : decide (j < k + 1) = decide (j < k) := by rw [Bool.eq_iff_iff]; simp; omega
        rw [this]
def accS (a : Au) : Nat := accSet a a.nx.length
/-- The edges of a row. -/
def rowEs (L : List Nat) (q : Nat) (row : List Int) : List Ed := (L.zip row).map fun p => ⟨(q : Int), (p.1 : Int), p.2⟩
def fullTo (a : Au) (k : Nat) : List Ed := (List.range k).flatMap fun q => rowEs (letters a.al) q (a.nx.getD q [])
def fullSy (a : Au) : Sy := ⟨a.al, (a.nx.length : Nat), fullTo a a.nx.length⟩
def soOk (a : Au) : Bool := auOk a && a.ac.getD 0 false
def soS (a : Au) : Sy := if soOk a = true then trimSy (fullSy a) (accS a) else ⟨0, 0, []⟩

theorem rowEs_len (L : List Nat) (q : Nat) (row : List Int) : (rowEs L q row).length = min L.length row.length := by unfold rowEs; simp
theorem rowEs_get (L : List Nat) (q : Nat) (row : List Int) {k : Nat} (h1 : k < L.length) (h2 : k < row.length) : (rowEs L q row)[k]'(by rw [rowEs_len]; omega) = ⟨(q : Int), (L[k] : Int), row[k]⟩ := by
  unfold rowEs
  simp
theorem rowEs_take (L : List Nat) (q : Nat) (row : List Int) {k : Nat} (h1 : k < L.length) (h2 : k < row.length) : (rowEs L q row).take (k + 1) = (rowEs L q row).take k ++ [⟨(q : Int), (L[k] : Int), row[k]⟩] := by
  rw [List.take_succ_eq_append_getElem (by rw [rowEs_len]; omega), rowEs_get L q row h1 h2]
theorem fullTo_succ (a : Au) {k : Nat} (h : k < a.nx.length) : fullTo a (k + 1) = fullTo a k ++ rowEs (letters a.al) k a.nx[k] := by
  unfold fullTo
  rw [List.range_succ, List.flatMap_append]
  simp [List.getD_eq_getElem?_getD, List.getElem?_eq_getElem h]
theorem fullTo_zero (a : Au) : fullTo a 0 = [] := rfl
theorem letters_len6 (A : Int) : (letters A).length ≤ 6 := lettersTo_len A 6
theorem fullTo_len (a : Au) : ∀ k, (fullTo a k).length ≤ k * 6
  | 0 => Nat.le_refl _
  | k + 1 => by
    have ih := fullTo_len a k
    have h6 := letters_len6 a.al
    unfold fullTo at ih ⊢
    rw [List.range_succ, List.flatMap_append, List.length_append]
    simp only [List.flatMap_cons, List.flatMap_nil, List.append_nil, rowEs_len]
    omega

theorem row_at {a : Au} (h : auOk a = true) {q : Nat} (hq : q < a.nx.length) : a.nx.getD q [] = a.nx[q] ∧ (a.nx[q]).length = (letters a.al).length ∧ ∀ t ∈ a.nx[q], 0 ≤ t ∧ t < (a.nx.length : Int) := by
  obtain ⟨_, _, _, _, h5⟩ := (auOk_iff a).1 h
  have := h5 _ (List.getElem_mem hq)
  exact ⟨by rw [List.getD_eq_getElem?_getD, List.getElem?_eq_getElem hq]; rfl, this.1, this.2⟩
theorem goA_at {a : Au} (h : auOk a = true) {q i : Nat} (hq : q < a.nx.length) (hi : i < (letters a.al).length) (hi' : i < (a.nx[q]).length) : ((goA a q (letters a.al)[i] : Nat) : Int) = (a.nx[q])[i] := by
  obtain ⟨e1, e2, e3⟩ := row_at h hq
  have hnd : (letters a.al).Nodup := (letters_sorted a.al).imp fun h => by omega
  have hidx : (letters a.al).idxOf (letters a.al)[i] = i := hnd.idxOf_getElem i hi
  unfold goA
  rw [if_pos (List.getElem_mem hi), hidx, e1, List.getD_eq_getElem?_getD, List.getElem?_eq_getElem hi']
  have := (e3 _ (List.getElem_mem hi')).1
  show (((a.nx[q])[i].toNat : Nat) : Int) = _
  omega
/-- The edges of an automaton. -/
theorem fullTo_mem {a : Au} (h : auOk a = true) {e : Ed} : e ∈ fullTo a a.nx.length ↔ ∃ q l, q < a.nx.length ∧ l ∈ letters a.al ∧ e = ⟨(q : Int), (l : Int), (goA a q l : Int)⟩ := by
  unfold fullTo
  rw [List.mem_flatMap]
  constructor
  · rintro ⟨q, hq, he⟩
    rw [List.mem_range] at hq
    obtain ⟨e1, e2, e3⟩ := row_at h hq
    rw [e1] at he
    obtain ⟨i, hi, rfl⟩ := List.getElem_of_mem he
    have hi' := hi
    rw [rowEs_len] at hi'
    refine ⟨q, (letters a.al)[i], hq, List.getElem_mem _, ?_⟩
    rw [rowEs_get _ _ _ (by omega) (by omega), goA_at h hq (by omega) (by omega)]
  · rintro ⟨q, l, hq, hl, rfl⟩
    refine ⟨q, List.mem_range.2 hq, ?_⟩
    obtain ⟨e1, e2, e3⟩ := row_at h hq
    obtain ⟨i, hi, rfl⟩ := List.getElem_of_mem hl
    rw [e1, goA_at h hq hi (by omega), ← rowEs_get (letters a.al) q a.nx[q] hi (by omega)]
    exact List.getElem_mem _
theorem fullSy_in {a : Au} (h : auOk a = true) : edgesIn (fullSy a) := by
  intro e he
  obtain ⟨q, l, hq, hl, rfl⟩ := (fullTo_mem h).1 he
  have h12 := ((auOk_iff a).1 h).2.2.1
  have hg := goA_lt h (q := q) (l := l) hq
  obtain ⟨hl6, hh⟩ := letters_lt hl
  show (0 : Int) ≤ (q : Int) ∧ (q : Int) < 16 ∧ (0 : Int) ≤ ((goA a q l : Nat) : Int) ∧ ((goA a q l : Nat) : Int) < 16 ∧ (0 : Int) ≤ (l : Int) ∧ (l : Int) < 6 ∧ Has a.al (l : Int).toNat = true ∧ (q : Int) < ((a.nx.length : Nat) : Int) ∧ ((goA a q l : Nat) : Int) < ((a.nx.length : Nat) : Int)
  refine ⟨by omega, by omega, by omega, by omega, by omega, by omega, by rw [Int.toNat_natCast]; exact hh, by omega, by omega⟩
theorem fullTo_sorted {a : Au} (h : auOk a = true) : (fullTo a a.nx.length).Pairwise fun x y => edgeLt x y = true := by
  unfold fullTo
  rw [List.pairwise_flatMap]
  constructor
  · intro q hq
    rw [List.mem_range] at hq
    obtain ⟨e1, e2, e3⟩ := row_at h hq
    rw [e1, List.pairwise_iff_getElem]
    intro i j hi hj hij
    have hi' := hi
    have hj' := hj
    rw [rowEs_len] at hi' hj'
    rw [rowEs_get _ _ _ (by omega) (by omega), rowEs_get _ _ _ (by omega) (by omega), edgeLt_iff]
    right
    refine ⟨rfl, .inl ?_⟩
    have := List.pairwise_iff_getElem.1 (letters_sorted a.al) i j (by omega) (by omega) hij
    show ((letters a.al)[i] : Int) < ((letters a.al)[j] : Int)
    omega
  · refine List.pairwise_lt_range.imp fun {p q} hpq x hx y hy => ?_
    unfold rowEs at hx hy
    obtain ⟨u, _, rfl⟩ := List.mem_map.1 hx
    obtain ⟨v, _, rfl⟩ := List.mem_map.1 hy
    rw [edgeLt_iff]
    left
    show (p : Int) < (q : Int)
    omega
theorem trimEs_sorted {R : Nat} {es : List Ed} (hp : es.Pairwise fun x y => edgeLt x y = true) (hin : ∀ e ∈ es, 0 ≤ e.f ∧ 0 ≤ e.t) : (trimEs R es).Pairwise fun x y => edgeLt x y = true := by
  unfold trimEs
  rw [List.pairwise_map]
  refine (hp.filter (keptE R)).imp_of_mem fun {a b} ha hb hlt => ?_
  rw [List.mem_filter] at ha hb
  have ka := ha.2
  have kb := hb.2
  unfold keptE at ka kb
  rw [Bool.and_eq_true] at ka kb
  obtain ⟨a1, a2⟩ := hin a ha.1
  obtain ⟨b1, b2⟩ := hin b hb.1
  rw [edgeLt_iff] at hlt ⊢
  show ((rankN R a.f.toNat : Nat) : Int) < ((rankN R b.f.toNat : Nat) : Int) ∨ (((rankN R a.f.toNat : Nat) : Int) = ((rankN R b.f.toNat : Nat) : Int) ∧ (a.l < b.l ∨ (a.l = b.l ∧ ((rankN R a.t.toNat : Nat) : Int) < ((rankN R b.t.toNat : Nat) : Int))))
  rcases hlt with h | ⟨h, h'⟩
  · left
    have := rank_lt (S := R) (a := a.f.toNat) (b := b.f.toNat) (by omega) ka.1
    omega
  · right
    refine ⟨by rw [h], ?_⟩
    rcases h' with h' | ⟨h', h2⟩
    · exact .inl h'
    · refine .inr ⟨h', ?_⟩
      have := rank_lt (S := R) (a := a.t.toNat) (b := b.t.toNat) (by omega) ka.2
      omega

theorem soOk_iff {a : Au} : soOk a = true ↔ auOk a = true ∧ a.ac.getD 0 false = true := by unfold soOk; rw [Bool.and_eq_true]
theorem soS_eq {a : Au} (h : soOk a = true) : soS a = trimSy (fullSy a) (accS a) := by unfold soS; rw [if_pos h]
theorem soS_bad {a : Au} (h : soOk a = false) : soS a = ⟨0, 0, []⟩ := by unfold soS; rw [h]; rfl
theorem soS_al {a : Au} (h : soOk a = true) : (soS a).al = a.al := by rw [soS_eq h]; rfl
theorem accS_bit {a : Au} (h : auOk a = true) (j : Nat) : (accS a).testBit j = true ↔ j < a.nx.length ∧ a.ac.getD j false = true := by
  unfold accS
  rw [accSet_bit, Bool.and_eq_true, decide_eq_true_eq]
theorem accS_lt {a : Au} (h : auOk a = true) : accS a < 65536 := by
  have h1 := accSet_lt a a.nx.length
  have h12 := ((auOk_iff a).1 h).2.2.1
  have : 2 ^ a.nx.length ≤ 2 ^ 12 := Nat.pow_le_pow_right (by omega) h12
  unfold accS
  omega
theorem soS_mem {a : Au} (h : soOk a = true) {e : Ed} : e ∈ (soS a).es ↔ ∃ q l, q < a.nx.length ∧ l ∈ letters a.al ∧ a.ac.getD q false = true ∧ a.ac.getD (goA a q l) false = true ∧ e = ⟨(rankN (accS a) q : Nat), (l : Nat), (rankN (accS a) (goA a q l) : Nat)⟩ := by
  have hok := (soOk_iff.1 h).1
  rw [soS_eq h, trim_mem]
  constructor
  · rintro ⟨e0, he0, h1, h2, rfl⟩
    obtain ⟨q, l, hq, hl, rfl⟩ := (fullTo_mem hok).1 he0
    exact ⟨q, l, hq, hl, ((accS_bit hok _).1 h1).2, ((accS_bit hok _).1 h2).2, rfl⟩
  · rintro ⟨q, l, hq, hl, h1, h2, rfl⟩
    exact ⟨_, (fullTo_mem hok).2 ⟨q, l, hq, hl, rfl⟩, (accS_bit hok _).2 ⟨hq, h1⟩, (accS_bit hok _).2 ⟨goA_lt hok hq, h2⟩, rfl⟩
theorem soS_ok {a : Au} (h : soOk a = true) : sysOk (soS a) = true := by
  have hok := (soOk_iff.1 h).1
  obtain ⟨h1, h2, h3, -⟩ := (auOk_iff a).1 hok
  have hin := fullSy_in hok
  have hz : (accS a).testBit 0 = true := (accS_bit hok 0).2 ⟨by omega, (soOk_iff.1 h).2⟩
  refine sysOk_of (by rw [soS_al h]; exact h1) ?_ (fun e he => ?_) ?_
  · rw [soS_eq h]
    show 1 ≤ ((rankN (accS a) ((a.nx.length : Nat) : Int).toNat : Nat) : Int) ∧ ((rankN (accS a) ((a.nx.length : Nat) : Int).toNat : Nat) : Int) ≤ 16
    rw [Int.toNat_natCast]
    have h4 := rank_lt (S := accS a) (a := 0) (b := a.nx.length) (by omega) hz
    have h5 := rankN_le (accS a) a.nx.length
    omega
  · obtain ⟨q, l, hq, hl, a1, a2, rfl⟩ := (soS_mem h).1 he
    have hg := goA_lt hok (q := q) (l := l) hq
    have r1 := rank_lt (S := accS a) hq ((accS_bit hok _).2 ⟨hq, a1⟩)
    have r2 := rank_lt (S := accS a) hg ((accS_bit hok _).2 ⟨hg, a2⟩)
    obtain ⟨hl6, hh⟩ := letters_lt hl
    rw [soS_al h]
    have est : (soS a).st = ((rankN (accS a) a.nx.length : Nat) : Int) := by rw [soS_eq h]; rfl
    rw [est]
    unfold edgeOk
    rw [Bool.and_eq_true, decide_eq_true_iff]
    dsimp only
    exact ⟨⟨by omega, by omega, by omega, by omega, by omega, by omega⟩, by rw [Int.toNat_natCast]; exact hh⟩
  · rw [soS_eq h]
    exact trimEs_sorted (fullTo_sorted hok) fun e he => ⟨(hin e he).1, (hin e he).2.2.1⟩

/-- All beginnings of a word (its last letter first) are accepted. -/
def safeA (a : Au) : List Nat → Bool
  | [] => a.ac.getD 0 false
  | l :: r => safeA a r && a.ac.getD (runA a 0 (l :: r)) false
theorem safe_acc {a : Au} : ∀ {r : List Nat}, safeA a r = true → a.ac.getD (runA a 0 r) false = true
  | [], h => h
  | _ :: _, h => by unfold safeA at h; exact (Bool.and_eq_true _ _ ▸ h).2
theorem setW_so {a : Au} (h : soOk a = true) : ∀ r : List Nat, (∀ l ∈ r, l ∈ letters a.al) → setW (soS a) r = if safeA a r = true then 2 ^ rankN (accS a) (runA a 0 r) else 0
  | [], _ => by
    have h0 := (soOk_iff.1 h).2
    show 1 = if a.ac.getD 0 false = true then 2 ^ rankN (accS a) 0 else 0
    rw [if_pos h0]
    rfl
  | l :: r, hr => by
    have hok := (soOk_iff.1 h).1
    have ih := setW_so h r fun x hx => hr x (List.mem_cons_of_mem _ hx)
    have hl := hr l List.mem_cons_self
    have hq := runA_lt hok r
    have hq2 := runA_lt hok (l :: r)
    have h12 := ((auOk_iff a).1 hok).2.2.1
    refine Nat.eq_of_testBit_eq fun t => ?_
    show (stepSet (soS a) (setW (soS a) r) (l : Int)).testBit t = _
    rw [ih, Bool.eq_iff_iff]
    unfold stepSet
    rw [bitsOf_testBit]
    constructor
    · rintro ⟨ht, e, he, e1, e2, e3⟩
      obtain ⟨q', l', hq', hl', a1, a2, rfl⟩ := (soS_mem h).1 he
      by_cases hs : safeA a r = true
      · rw [if_pos hs, Int.toNat_natCast, Nat.testBit_two_pow] at e2
        have e2' : rankN (accS a) (runA a 0 r) = rankN (accS a) q' := by simpa using e2
        have e4 := rank_inj ((accS_bit hok _).2 ⟨hq, safe_acc hs⟩) ((accS_bit hok _).2 ⟨hq', a1⟩) e2'
        have e5 : l' = l := by have : (l' : Int) = (l : Int) := e1; omega
        subst e5
        rw [← e4] at a2 e3
        have hs2 : safeA a (l' :: r) = true := by
          unfold safeA
          rw [hs, Bool.true_and]
          exact a2
        rw [if_pos hs2, Nat.testBit_two_pow, decide_eq_true_eq]
        rw [Int.toNat_natCast] at e3
        exact e3
      · rw [if_neg hs, Nat.zero_testBit] at e2
        cases e2
    · intro ht
      by_cases hs2 : safeA a (l :: r) = true
      · rw [if_pos hs2, Nat.testBit_two_pow, decide_eq_true_eq] at ht
        have hs : safeA a r = true := by unfold safeA at hs2; exact (Bool.and_eq_true _ _ ▸ hs2).1
        have hle := rankN_le (accS a) (runA a 0 (l :: r))
        refine ⟨by omega, _, (soS_mem h).2 ⟨runA a 0 r, l, hq, hl, safe_acc hs, safe_acc hs2, rfl⟩, rfl, ?_, ?_⟩
        · rw [if_pos hs, Int.toNat_natCast, Nat.testBit_two_pow]
          simp
        · rw [Int.toNat_natCast]
          exact ht
      · rw [if_neg hs2, Nat.zero_testBit] at ht
        cases ht
theorem setW_so_ne {a : Au} (h : soOk a = true) {r : List Nat} (hr : ∀ l ∈ r, l ∈ letters a.al) : setW (soS a) r ≠ 0 ↔ safeA a r = true := by
  rw [setW_so h r hr]
  by_cases hs : safeA a r = true
  · rw [if_pos hs]
    exact ⟨fun _ => hs, fun _ => by have := Nat.two_pow_pos (rankN (accS a) (runA a 0 r)); omega⟩
  · rw [if_neg hs]
    exact ⟨fun h => absurd rfl h, fun h => absurd h hs⟩

/-- The automaton of the words of which all beginnings are accepted. -/
def safNx (a : Au) (q : Nat) (row : List Int) : List Int := if a.ac.getD q false = true then row else row.map fun _ => (q : Int)
def safA (a : Au) : Au := ⟨a.al, a.nx.mapIdx (safNx a), a.ac⟩
theorem safNx_len (a : Au) (q : Nat) (row : List Int) : (safNx a q row).length = row.length := by unfold safNx; split <;> simp
theorem safA_len (a : Au) : (safA a).nx.length = a.nx.length := by unfold safA; simp
theorem safA_ok {a : Au} (h : auOk a = true) : auOk (safA a) = true := by
  obtain ⟨h1, h2, h3, h4, h5⟩ := (auOk_iff a).1 h
  refine (auOk_iff _).2 ⟨h1, by rw [safA_len]; exact h2, by rw [safA_len]; exact h3, by rw [safA_len]; exact h4, fun r hr => ?_⟩
  rw [safA_len]
  obtain ⟨i, hi, rfl⟩ := List.getElem_of_mem hr
  have hi' : i < a.nx.length := by rw [safA_len] at hi; exact hi
  have e : (safA a).nx[i] = safNx a i a.nx[i] := by
    show (a.nx.mapIdx (safNx a))[i]'(by simpa using hi') = _
    rw [List.getElem_mapIdx]
  rw [e]
  obtain ⟨g1, g2⟩ := h5 _ (List.getElem_mem hi')
  refine ⟨by rw [safNx_len]; exact g1, fun q hq => ?_⟩
  unfold safNx at hq
  split at hq
  · exact g2 q hq
  · obtain ⟨_, _, rfl⟩ := List.mem_map.1 hq
    omega
theorem goA_saf {a : Au} (h : auOk a = true) {q l : Nat} (hq : q < a.nx.length) (hl : l ∈ letters a.al) : goA (safA a) q l = if a.ac.getD q false = true then goA a q l else q := by
  obtain ⟨i, hi, rfl⟩ := List.getElem_of_mem hl
  obtain ⟨e1, e2, e3⟩ := row_at h hq
  have e : (safA a).nx[q]'(by rw [safA_len]; exact hq) = safNx a q a.nx[q] := by
    show (a.nx.mapIdx (safNx a))[q]'(by simpa using hq) = _
    rw [List.getElem_mapIdx]
  have hlen : i < ((safA a).nx[q]'(by rw [safA_len]; exact hq)).length := by rw [e, safNx_len]; omega
  have h1 := goA_at (safA_ok h) (q := q) (i := i) (by rw [safA_len]; exact hq) hi hlen
  have h2 := goA_at h hq hi (by omega)
  have h3 : ((safA a).nx[q]'(by rw [safA_len]; exact hq))[i]'hlen = (safNx a q a.nx[q])[i]'(by rw [safNx_len]; omega) := by simp only [e]
  rw [h3] at h1
  by_cases hc : a.ac.getD q false = true
  · rw [if_pos hc]
    have : (safNx a q a.nx[q])[i]'(by rw [safNx_len]; omega) = (a.nx[q])[i]'(by omega) := by unfold safNx; simp only [if_pos hc]
    rw [this, ← h2] at h1
    exact Int.ofNat.inj h1
  · rw [if_neg hc]
    have : (safNx a q a.nx[q])[i]'(by rw [safNx_len]; omega) = (q : Int) := by unfold safNx; simp only [if_neg hc, List.getElem_map]
    rw [this] at h1
    exact Int.ofNat.inj h1
theorem run_saf {a : Au} (h : auOk a = true) : ∀ r : List Nat, (∀ l ∈ r, l ∈ letters a.al) → (safeA a r = true → runA (safA a) 0 r = runA a 0 r) ∧ (safeA a r = false → a.ac.getD (runA (safA a) 0 r) false = false) ∧ runA (safA a) 0 r < a.nx.length
  | [], _ => ⟨fun _ => rfl, fun h => h, by have := ((auOk_iff a).1 h).2.1; show 0 < _; omega⟩
  | l :: r, hr => by
    obtain ⟨i1, i2, i3⟩ := run_saf h r fun x hx => hr x (List.mem_cons_of_mem _ hx)
    have hgo : runA (safA a) 0 (l :: r) = if a.ac.getD (runA (safA a) 0 r) false = true then goA a (runA (safA a) 0 r) l else runA (safA a) 0 r := goA_saf h i3 (hr l List.mem_cons_self)
    have hlt : runA (safA a) 0 (l :: r) < a.nx.length := by
      rw [hgo]
      split
      · exact goA_lt h i3
      · exact i3
    refine ⟨fun hs => ?_, fun hs => ?_, hlt⟩
    · have hs1 : safeA a r = true := by unfold safeA at hs; exact (Bool.and_eq_true _ _ ▸ hs).1
      rw [hgo, i1 hs1, if_pos (safe_acc hs1)]
      rfl
    · cases hs1 : safeA a r
      · have := i2 hs1
        rw [hgo, this]
        simpa using this
      · rw [hgo, i1 hs1, if_pos (safe_acc hs1)]
        unfold safeA at hs
        rw [hs1, Bool.true_and] at hs
        exact hs
theorem acc_saf {a : Au} (h : auOk a = true) {r : List Nat} (hr : ∀ l ∈ r, l ∈ letters a.al) : accA (safA a) r = safeA a r := by
  obtain ⟨i1, i2, _⟩ := run_saf h r hr
  show a.ac.getD (runA (safA a) 0 r) false = _
  cases hs : safeA a r
  · exact i2 hs
  · rw [i1 hs]
    exact safe_acc hs

/-- The edges that the program gathers: only those between accepting states, row by row. -/
theorem trimEs_append (R : Nat) (xs ys : List Ed) : trimEs R (xs ++ ys) = trimEs R xs ++ trimEs R ys := by unfold trimEs; rw [List.filter_append, List.map_append]
theorem trimEs_none {R : Nat} {es : List Ed} (h : ∀ e ∈ es, keptE R e = false) : trimEs R es = [] := by
  unfold trimEs
  rw [List.filter_eq_nil_iff.2 fun e he => by rw [h e he]; simp]
  rfl
theorem flat_filter {g : Nat → List Ed} {p : Nat → Bool} {R : Nat} : ∀ (l : List Nat), (∀ x ∈ l, p x = false → trimEs R (g x) = []) → trimEs R ((l.filter p).flatMap g) = trimEs R (l.flatMap g)
  | [], _ => rfl
  | x :: l, h => by
    have ih := flat_filter l fun y hy => h y (List.mem_cons_of_mem _ hy)
    rw [List.flatMap_cons, trimEs_append]
    cases hp : p x
    · rw [List.filter_cons_of_neg (by simp [hp]), ih, h x List.mem_cons_self hp, List.nil_append]
    · rw [List.filter_cons_of_pos hp, List.flatMap_cons, trimEs_append, ih]
theorem memL_range {S n : Nat} (h : S < 2 ^ n) (hn : n ≤ 16) : memL S = (List.range n).filter fun q => S.testBit q := by
  refine sorted_ext (memL_sorted S) (List.Pairwise.filter _ List.pairwise_lt_range) fun x => ?_
  rw [memL_mem, List.mem_filter, List.mem_range]
  constructor
  · rintro ⟨_, h2⟩
    exact ⟨testBit_lt h h2, h2⟩
  · rintro ⟨h1, h2⟩
    exact ⟨by omega, h2⟩
def gotTo (a : Au) (i : Nat) : List Ed := ((memL (accS a)).take i).flatMap fun q => rowEs (letters a.al) q (a.nx.getD q [])
theorem gotTo_zero (a : Au) : gotTo a 0 = [] := rfl
theorem gotTo_succ {a : Au} {i : Nat} (hi : i < (memL (accS a)).length) (hq : (memL (accS a))[i] < a.nx.length) : gotTo a (i + 1) = gotTo a i ++ rowEs (letters a.al) (memL (accS a))[i] a.nx[(memL (accS a))[i]] := by
  unfold gotTo
  rw [List.take_succ_eq_append_getElem hi, List.flatMap_append]
  simp [List.getD_eq_getElem?_getD, List.getElem?_eq_getElem hq]
theorem gotTo_all {a : Au} (h : auOk a = true) : trimEs (accS a) (gotTo a (memL (accS a)).length) = trimEs (accS a) (fullTo a a.nx.length) := by
  have h12 := ((auOk_iff a).1 h).2.2.1
  unfold gotTo fullTo
  rw [List.take_length, memL_range (show accS a < 2 ^ a.nx.length from accSet_lt a _) (by omega)]
  refine flat_filter _ fun q _ hq => trimEs_none fun e he => ?_
  unfold rowEs at he
  obtain ⟨p, _, rfl⟩ := List.mem_map.1 he
  unfold keptE
  dsimp only
  rw [Int.toNat_natCast, hq]
  rfl

end Go.Proofs.YtolnlkccbndkcaaDoor

/- The reference's AutomatonValid and l6Accepting. -/
namespace Go.Proofs.YtolnlkccbndkcaaDoor
open Go.RowKit Go.BigFrame AG

noncomputable def rowOkB (L n : Nat) (r : List Int) : Bool := @decide (rowOk L n r) (Classical.propDecidable _)
theorem rowOkB_iff {L n : Nat} {r : List Int} : rowOkB L n r = true ↔ rowOk L n r := by unfold rowOkB; exact @decide_eq_true_iff _ (Classical.propDecidable _)
theorem rowOkB_no {L n : Nat} {r : List Int} (h : ¬ rowOk L n r) : rowOkB L n r = false := by rw [← Bool.not_eq_true, rowOkB_iff]; exact h
set_option maxRecDepth 100000 in
set_option maxHeartbeats 1000000 in
theorem l3Row_any (r : List Int) (A : Option Addr) (c L n : Nat) (w : World) (hl : r.length ≤ c) (hc : c ≤ 9223372036854775807) (hr : IntsAt w w.heap.size A r) :
    Calls Tryd.prog 143 #[.slice A r.length c, .int .i64 (L : Nat), .int .i64 (n : Nat)] w fun e w' => e = .returned (.bool (rowOkB L n r)) ∧ Below w.heap.size w w' := by
  replace hr := hid hr
  go_enter Tryd.func143, Tryd.ntmps143
  by_cases hrl : r.length = L
  case neg =>
    have hno := hid (rowOkB_no (n := n) (fun h : rowOk L n r => hrl h.1))
    have hq : ((r.length : Int) != (L : Int)) = true := by simp; omega
    replace hrl := hid hrl
    go_wp2
    go_ret
    exact ⟨ret_bool (by rw [hno.out]), Below.refl _ _⟩
  have hq : ((r.length : Int) != (L : Int)) = false := by simp; omega
  replace hrl := hid hrl
  go_wp2
  go_loopw [7] (fun jv wq => ∃ j : Nat, jv = .int .i64 (j : Nat) ∧ j ≤ r.length ∧ (∀ q ∈ r.take j, 0 ≤ q ∧ q < (n : Int)) ∧ wq = w) (fun jv _ => r.length - (intOf jv).toNat)
  case atStart => exact ⟨0, rfl, by omega, by simp, rfl⟩
  case round =>
    obtain ⟨j, rfl, hj, hin, rfl⟩ := hrel
    by_cases hjl : j < r.length
    · obtain ⟨bj, oj, hA, hbj, hcell⟩ := hr.out (by omega)
      subst hA
      have c0 := hcell j hjl
      obtain ⟨q, hq'⟩ : ∃ q, Hid (q = r[j]) := ⟨_, hid rfl⟩
      rw [← hq'.out] at c0
      have hqm : Hid (q ∈ r) := hid (by rw [hq'.out]; exact List.getElem_mem _)
      have k2 : (0 : Int) ≤ (j : Int) ∧ (j : Int) < (r.length : Int) := by omega
      replace hcell := hid hcell
      replace hin := hid hin
      by_cases hqn : 0 ≤ q ∧ q < (n : Int)
      · have hq1 : ¬ (q < 0) := by omega
        have hq2 : ¬ ((n : Int) ≤ q) := by omega
        go_wp2
        go_roundw
        case rel =>
          refine ⟨j + 1, by go_num, by omega, fun y hy => ?_, by first | rfl | trivial⟩
          rw [List.take_succ_eq_append_getElem hjl, List.mem_append, List.mem_singleton, ← hq'.out] at hy
          rcases hy with hy | rfl
          · exact hin.out y hy
          · exact hqn
        case measure => simp [intOf]; omega
      · have hno := hid (rowOkB_no (fun h : rowOk L n r => hqn (h.2 q hqm.out)))
        by_cases hq1 : q < 0
        · go_wp2
          go_ret
          exact ⟨ret_bool (by rw [hno.out]), Below.refl _ _⟩
        · have hq2 : ((n : Int) ≤ q) := by omega
          go_wp2
          go_ret
          exact ⟨ret_bool (by rw [hno.out]), Below.refl _ _⟩
    · rw [List.take_of_length_le (by omega)] at hin
      have hyes := hid (rowOkB_iff.2 (show rowOk L n r from ⟨hrl.out, hin⟩))
      replace hin := hid hin
      go_wp2
      go_ret
      exact ⟨ret_bool (by rw [hyes.out]), Below.refl _ _⟩

set_option maxRecDepth 100000 in
set_option maxHeartbeats 4000000 in
theorem specAutomatonValid_any (a : Au) (A B : Option Addr) (c d : Nat) (w : World) (ha : AuAt w A c B d a) :
    Calls Tryd.prog 77 #[a.val A c B d] w fun e w' => e = .returned (.bool (auOk a)) ∧ Below w.heap.size w w' := by
  obtain ⟨cl, cm, dl, dm, hrows, -⟩ := ha
  unfold AG.Au.val
  obtain ⟨w0, hw0, hz0, hB0, hS⟩ := boxed w #[Value.int IntKind.i64 a.al, Value.slice A a.nx.length c, Value.slice B a.ac.length d] 32
  have hr0 := hid (hrows.later hB0)
  have p0 := hS 0 _ rfl _ (Below.refl _ _)
  have p1 := hS 1 _ rfl _ (Below.refl _ _)
  have p2 := hS 2 _ rfl _ (Below.refl _ _)
  replace hrows := hid hrows
  go_enter Tryd.func77, Tryd.ntmps77
  go_wp2_with fail
  refine (l1Alphabet_any a.al w0).mono ?_
  rintro e w1 ⟨rfl, rfl⟩
  cases hal : alphaOk a.al
  case false =>
    have hno := hid (auOk_no (a := a) (by rw [hal]; simp))
    replace hal := hid hal
    go_wp2
    go_ret
    exact ⟨ret_bool (by rw [hno.out]), hB0⟩
  case true =>
  have hal' := hid hal
  clear hal
  by_cases hn1 : 1 ≤ a.nx.length
  case neg =>
    have hno := hid (auOk_no (a := a) (by omega))
    have ht : ((a.nx.length : Int) < 1) := by omega
    go_wp2
    go_ret
    exact ⟨ret_bool (by rw [hno.out]), hB0⟩
  by_cases hn2 : a.nx.length ≤ 12
  case neg =>
    have hno := hid (auOk_no (a := a) (by omega))
    have ht : ¬ ((a.nx.length : Int) < 1) := by omega
    have ht2 : ((12 : Int) < (a.nx.length : Int)) := by omega
    go_wp2
    go_ret
    exact ⟨ret_bool (by rw [hno.out]), hB0⟩
  have ht : ¬ ((a.nx.length : Int) < 1) := by omega
  have ht2 : ¬ ((12 : Int) < (a.nx.length : Int)) := by omega
  by_cases hn3 : a.ac.length = a.nx.length
  case neg =>
    have hno := hid (auOk_no (a := a) (fun h => hn3 h.2.2.2.1))
    have ht3 : ((a.ac.length : Int) != (a.nx.length : Int)) = true := by simp; omega
    replace hn3 := hid hn3
    go_wp2
    go_ret
    exact ⟨ret_bool (by rw [hno.out]), hB0⟩
  have ht3 : ((a.ac.length : Int) != (a.nx.length : Int)) = false := by simp; omega
  replace hn3 := hid hn3
  obtain ⟨L, hL⟩ : ∃ L, Hid (L = (letters a.al).length) := ⟨_, hid rfl⟩
  have hL6 : L ≤ 6 := by rw [hL.out]; exact lettersTo_len a.al 6
  go_wp2_with fail
  clear p0 p1 p2
  go_loopw [4] (fun iv wr => ∃ i : Nat, iv = .int .i64 (i : Nat) ∧ i ≤ a.nx.length ∧ (∀ r ∈ a.nx.take i, rowOk L a.nx.length r) ∧ Below w0.heap.size w0 wr) (fun iv _ => a.nx.length - (intOf iv).toNat)
  case atStart => exact ⟨0, rfl, by omega, by simp, Below.refl _ _⟩
  case round =>
    obtain ⟨i, rfl, hi, hok, hb⟩ := hrel
    have hBr := hB0.trans (hb.mono hB0.size)
    by_cases hlt : i < a.nx.length
    · obtain ⟨b, o, hA, hbB, hE⟩ := hr0.out (by omega)
      subst hA
      obtain ⟨Ai, ci, e0, h1, h2, h3⟩ := hE i hlt
      rw [← hb.cell (by simpa using hbB)] at e0
      obtain ⟨r, hr⟩ : ∃ r, Hid (r = a.nx[i]) := ⟨_, hid rfl⟩
      rw [← hr.out] at e0 h1 h3
      have hmem : Hid (r ∈ a.nx) := hid (by rw [hr.out]; exact List.getElem_mem _)
      have k1 : (0 : Int) ≤ (i : Int) ∧ (i : Int) < (a.nx.length : Int) := by omega
      have h3' := hid h3
      replace hE := hid hE
      replace hok := hid hok
      clear h3
      have hF : ∀ x, Below (w.heap.size + 1) w0 (Fam wr.heap.size wr x) := fun x => (hb.trans ((Fam.below _ _ x).mono hb.size)).mono hz0
      have y0 := fun x => hS 0 _ rfl _ (hF x)
      have y1 := fun x => hS 1 _ rfl _ (hF x)
      have y2 := fun x => (Fam.below wr.heap.size wr x).cell (World.block_lt_of_cell? _ _ e0) |>.trans e0
      obtain ⟨R, hR⟩ : ∃ R, Hid (R = rowOkB L a.nx.length r) := ⟨_, hid rfl⟩
      have hrd := hid (h3'.out.later hb)
      replace hF := hid hF
      clear e0
      go_wp2_with fail
      refine wp_region_grow 12 wr.heap.size wr (fun i u w' => if i = 7 then OwnNats w' wr.heap.size u (letters a.al) else u = .bool R) (by kernel_rfl) (by kernel_rfl) (Nat.le_refl _) (Below.refl _ _) ?_
      simp only [List.take_succ_cons, List.take_zero, List.drop_succ_cons, List.drop_zero]
      (repeat (refine grow_quiet (by rfl) (by rfl) (by rfl) ?_; intro K hK; go_big_quiet_op; go_big_quiet_on))
      refine grow_call (by rfl) (by rfl) (fun u v v' hb h => ?_) (fun wq hbq _ => ?_) fun u hu => ?_
      · exact own_keep h (.of_below (K := fun _ => False) hb) fun _ _ h => h
      · go_simp
        refine ⟨rfl, (l1Letters_any a.al wq).mono ?_⟩
        rintro e w5 ⟨v, rfl, ho, hb5⟩
        exact ⟨v, rfl, hb5, own_base ho hbq.size⟩
      obtain ⟨wx, hbx, hux⟩ := hu
      obtain ⟨AL, cL, rfl, hcL, hcL'⟩ := own_slice hux
      rw [← hL.out] at hcL ⊢
      clear hux hbx
      simp only [Act.put, List.setIfInBounds_toArray, List.set_cons_zero, List.set_cons_succ]
      (repeat (refine grow_quiet (by rfl) (by rfl) (by rfl) ?_; intro K hK; go_big_quiet_op; go_big_quiet_on))
      refine grow_val (.bool R) (by rfl) (by rfl) rfl (fun wq hbq _ => ?_) ?_
      · have hrq := hid (hrd.out.later hbq)
        go_simp
        refine ⟨rfl, (l3Row_any r Ai ci L a.nx.length wq h1 h2 hrq.out).mono ?_⟩
        rintro e w6 ⟨rfl, hb6⟩
        exact ⟨by rw [hR.out], hb6⟩
      simp only [Act.put, List.setIfInBounds_toArray, List.set_cons_zero, List.set_cons_succ]
      (repeat (refine grow_quiet (by rfl) (by rfl) (by rfl) ?_; intro K hK; go_big_quiet_op; go_big_quiet_on))
      refine grow_nil ?_
      intro w7 hb7 hf
      clear hf y0 y1 y2
      have hb27 := hb.trans (hb7.mono hb.size)
      have hB7 := hB0.trans (hb27.mono hB0.size)
      cases R
      · have hno := hid (auOk_no (a := a) (fun h => by
          have h5 := rowOkB_iff.2 (h.2.2.2.2 r hmem.out)
          rw [← hL.out, ← hR.out] at h5
          cases h5))
        go_wp2_with fail
        go_ret
        exact ⟨ret_bool (by rw [hno.out]), hB7⟩
      · have hro := hid (rowOkB_iff.1 hR.out.symm)
        go_wp2_with fail
        go_roundw
        case rel =>
          refine ⟨i + 1, by go_num, by omega, fun y hy => ?_, hb27⟩
          rw [List.take_succ_eq_append_getElem hlt, List.mem_append, List.mem_singleton, ← hr.out] at hy
          rcases hy with hy | rfl
          · exact hok.out y hy
          · exact hro.out
        case measure => simp [intOf]; omega
    · rw [List.take_of_length_le (by omega)] at hok
      have hyes := hid ((auOk_iff a).2 ⟨hal'.out, hn1, hn2, hn3.out, by rw [← hL.out]; exact hok⟩)
      replace hok := hid hok
      go_wp2
      go_ret
      exact ⟨ret_bool (by rw [hyes.out]), hBr⟩

set_option maxRecDepth 100000 in
set_option maxHeartbeats 1000000 in
theorem l6Accepting_any (a : Au) (A B : Option Addr) (c d : Nat) (w : World) (hn : a.ac.length = a.nx.length) (h12 : a.nx.length ≤ 12) (ha : AuAt w A c B d a) :
    Calls Tryd.prog 80 #[a.val A c B d] w fun e w' => e = .returned (.int .i64 (accS a : Nat)) ∧ Below w.heap.size w w' := by
  obtain ⟨cl, cm, dl, dm, -, hacc⟩ := ha
  unfold AG.Au.val
  obtain ⟨w0, hw0, hz0, hB0, hS⟩ := boxed w #[Value.int IntKind.i64 a.al, Value.slice A a.nx.length c, Value.slice B a.ac.length d] 32
  have ha0 := hid (hacc.later hB0)
  have p2 := hS 2 _ rfl _ (Below.refl _ _)
  replace hacc := hid hacc
  have h12' : a.ac.length ≤ 12 := by omega
  have hfin : Hid (accSet a a.ac.length = accS a) := hid (by unfold accS; rw [hn])
  clear hn
  go_enter Tryd.func80, Tryd.ntmps80
  go_wp2_with fail
  go_loopw [3, 4] (fun sv iv wr => ∃ i : Nat, iv = .int .i64 (i : Nat) ∧ i ≤ a.ac.length ∧ sv = .int .i64 (accSet a i : Nat) ∧ wr = w0) (fun _ iv _ => a.ac.length - (intOf iv).toNat)
  case atStart => exact ⟨0, rfl, by omega, rfl, rfl⟩
  case round =>
    obtain ⟨i, rfl, hi, rfl, rfl⟩ := hrel
    have hlt2 := accSet_lt a i
    by_cases hlt : i < a.ac.length
    · obtain ⟨b, o, hA, hbB, hE⟩ := ha0.out (by omega)
      subst hA
      have c0 := hE i hlt
      have hsucc : Hid (accSet a (i + 1) = if a.ac[i] = true then accSet a i ||| 2 ^ i else accSet a i) := hid (by
        show (if a.ac.getD i false = true then _ else _) = _
        rw [List.getD_eq_getElem?_getD, List.getElem?_eq_getElem hlt]
        rfl)
      obtain ⟨t, ht⟩ : ∃ t, t = a.ac[i] := ⟨_, rfl⟩
      rw [← ht] at c0 hsucc
      have k1 : (0 : Int) ≤ (i : Int) ∧ (i : Int) < (a.ac.length : Int) := by omega
      replace hE := hid hE
      clear ht
      have hpw : 2 ^ i ≤ 2 ^ 12 := Nat.pow_le_pow_right (by omega) (by omega)
      cases t
      · have hs : Hid (accSet a (i + 1) = accSet a i) := hid (by rw [hsucc.out]; simp)
        clear hpw hlt2
        go_wp2_with fail
        go_roundw
        case rel => exact ⟨i + 1, by go_num, by omega, by rw [hs.out], by first | rfl | trivial⟩
        case measure => simp [intOf]; omega
      · have hs : Hid (accSet a (i + 1) = accSet a i ||| 2 ^ i) := hid (by rw [hsucc.out]; simp)
        obtain ⟨S, hSs⟩ : ∃ S, Hid (S = accSet a i) := ⟨_, hid rfl⟩
        rw [← hSs.out] at hlt2 hs ⊢
        obtain ⟨P, hP⟩ : ∃ P, Hid (P = 2 ^ i) := ⟨_, hid rfl⟩
        rw [← hP.out] at hlt2 hs hpw
        have hor := bits_orN S P (by omega) (by omega)
        go_wp2_with (go_at_call 145; refine (l1Bit_any i _ (by omega)).mono ?_; rintro e w' ⟨rfl, rfl⟩; rw [← hP.out])
        go_roundw
        case rel => exact ⟨i + 1, by go_num, by omega, by rw [hs.out], by first | rfl | trivial⟩
        case measure => simp [intOf]; omega
    · obtain rfl : i = a.ac.length := by omega
      go_wp2_with fail
      go_ret
      exact ⟨ret_int (by rw [hfin.out]), hB0⟩

end Go.Proofs.YtolnlkccbndkcaaDoor

/- math/bits.OnesCount on small numbers; the program's rank. -/
namespace Go.Proofs.YtolnlkccbndkcaaDoor
open Go.RowKit Go.BigFrame AG

theorem and_u64 (a b : Nat) (ha : a < 18446744073709551616) (hb : b < 18446744073709551616) : bits .and .u64 (a : Int) (b : Int) = ((a &&& b : Nat) : Int) := by
  have hx : a &&& b < 2 ^ 64 := Nat.and_lt_two_pow _ (by omega)
  show IntKind.u64.wrap ((BitVec.ofInt 64 (a : Int) &&& BitVec.ofInt 64 (b : Int)).toNat : Int) = _
  rw [BitVec.toNat_and, BitVec.ofInt_natCast, BitVec.ofInt_natCast, BitVec.toNat_ofNat, BitVec.toNat_ofNat, Nat.mod_eq_of_lt (by omega), Nat.mod_eq_of_lt (by omega), IntKind.wrap_u64]
  omega
theorem wrap_u64n (a b : Nat) (h : a + b < 18446744073709551616) : IntKind.u64.wrap ((a : Int) + (b : Int)) = ((a + b : Nat) : Int) := by
  rw [IntKind.wrap_u64]
  omega

set_option maxHeartbeats 4000000 in
theorem onesCount64_any (x : Nat) (hx : x < 65536) (w : World) :
    Calls Tryd.prog 178 #[.int .u64 x] w fun e w' => e = .returned (.int .i64 (popE x : Nat)) ∧ w = w' := by
  have hp := hid (pop_steps x hx)
  obtain ⟨a1, ha1⟩ : ∃ a, a = x / 2 &&& 6148914691236517205 := ⟨_, rfl⟩
  obtain ⟨a2, ha2⟩ : ∃ a, a = x &&& 6148914691236517205 := ⟨_, rfl⟩
  have l1 : a1 ≤ x / 2 := by rw [ha1]; exact Nat.and_le_left
  have l2 : a2 ≤ x := by rw [ha2]; exact Nat.and_le_left
  have f1 : bits .and .u64 ((x : Int) / 2) 6148914691236517205 = (a1 : Nat) := by
    have := and_u64 (x / 2) 6148914691236517205 (by omega) (by omega)
    rw [← ha1] at this
    exact this
  have f2 : bits .and .u64 (x : Int) 6148914691236517205 = (a2 : Nat) := by
    have := and_u64 x 6148914691236517205 (by omega) (by omega)
    rw [← ha2] at this
    exact this
  obtain ⟨x1, hx1⟩ : ∃ a, a = a1 + a2 := ⟨_, rfl⟩
  have f3 : IntKind.u64.wrap ((a1 : Int) + (a2 : Int)) = (x1 : Nat) := by rw [wrap_u64n a1 a2 (by omega), hx1]
  obtain ⟨b1, hb1⟩ : ∃ a, a = x1 / 4 &&& 3689348814741910323 := ⟨_, rfl⟩
  obtain ⟨b2, hb2⟩ : ∃ a, a = x1 &&& 3689348814741910323 := ⟨_, rfl⟩
  have m1 : b1 ≤ x1 / 4 := by rw [hb1]; exact Nat.and_le_left
  have m2 : b2 ≤ x1 := by rw [hb2]; exact Nat.and_le_left
  have f4 : bits .and .u64 ((x1 : Int) / 4) 3689348814741910323 = (b1 : Nat) := by
    have := and_u64 (x1 / 4) 3689348814741910323 (by omega) (by omega)
    rw [← hb1] at this
    exact this
  have f5 : bits .and .u64 (x1 : Int) 3689348814741910323 = (b2 : Nat) := by
    have := and_u64 x1 3689348814741910323 (by omega) (by omega)
    rw [← hb2] at this
    exact this
  obtain ⟨x2, hx2⟩ : ∃ a, a = b1 + b2 := ⟨_, rfl⟩
  have f6 : IntKind.u64.wrap ((b1 : Int) + (b2 : Int)) = (x2 : Nat) := by rw [wrap_u64n b1 b2 (by omega), hx2]
  obtain ⟨y, hy⟩ : ∃ a, a = x2 / 16 + x2 := ⟨_, rfl⟩
  have f7 : IntKind.u64.wrap ((x2 : Int) / 16 + (x2 : Int)) = (y : Nat) := by
    have := wrap_u64n (x2 / 16) x2 (by omega)
    rw [← hy] at this
    exact this
  obtain ⟨x3, hx3⟩ : ∃ a, a = y &&& 1085102592571150095 := ⟨_, rfl⟩
  have m3 : x3 ≤ y := by rw [hx3]; exact Nat.and_le_left
  have f8 : bits .and .u64 (y : Int) 1085102592571150095 = (x3 : Nat) := by
    have := and_u64 y 1085102592571150095 (by omega) (by omega)
    rw [← hx3] at this
    exact this
  obtain ⟨x4, hx4⟩ : ∃ a, a = x3 + x3 / 256 := ⟨_, rfl⟩
  have f9 : IntKind.u64.wrap ((x3 : Int) + (x3 : Int) / 256) = (x4 : Nat) := by
    have := wrap_u64n x3 (x3 / 256) (by omega)
    rw [← hx4] at this
    exact this
  obtain ⟨x5, hx5⟩ : ∃ a, a = x4 + x4 / 65536 := ⟨_, rfl⟩
  have f10 : IntKind.u64.wrap ((x4 : Int) + (x4 : Int) / 65536) = (x5 : Nat) := by
    have := wrap_u64n x4 (x4 / 65536) (by omega)
    rw [← hx5] at this
    exact this
  obtain ⟨x6, hx6⟩ : ∃ a, a = x5 + x5 / 4294967296 := ⟨_, rfl⟩
  have f11 : IntKind.u64.wrap ((x5 : Int) + (x5 : Int) / 4294967296) = (x6 : Nat) := by
    have := wrap_u64n x5 (x5 / 4294967296) (by omega)
    rw [← hx6] at this
    exact this
  have f12 : IntKind.i64.wrap (x6 : Int) = (x6 : Int) := IntWalk.i64_in _ (by omega)
  have hfin : popE x = x6 &&& 127 := by rw [hp.out, hx6, hx5, hx4, hx3, hy, hx2, hb1, hb2, hx1, ha1, ha2]; rfl
  have f13 : bits .and .i64 (x6 : Int) 127 = ((popE x : Nat) : Int) := by
    have hx : x6 &&& 127 < 2 ^ 7 := Nat.and_lt_two_pow _ (by omega)
    rw [hfin]
    show IntKind.i64.wrap ((BitVec.ofInt 64 (x6 : Int) &&& BitVec.ofInt 64 ((127 : Nat) : Int)).toNat : Int) = _
    rw [BitVec.toNat_and, BitVec.ofInt_natCast, BitVec.ofInt_natCast, BitVec.toNat_ofNat, BitVec.toNat_ofNat, Nat.mod_eq_of_lt (by omega), Nat.mod_eq_of_lt (by omega), IntKind.wrap_i64]
    omega
  clear hp ha1 ha2 hx1 hb1 hb2 hx2 hy hx3 hx4 hx5 hx6 hfin l1 l2 m1 m2 m3
  go_enter Tryd.func178, Tryd.ntmps178
  go_wp2
  go_ret
  exact ⟨rfl, rfl⟩

set_option maxHeartbeats 1000000 in
theorem onesCount_any (x : Nat) (hx : x < 65536) (w : World) :
    Calls Tryd.prog 147 #[.int .u64 x] w fun e w' => e = .returned (.int .i64 (popE x : Nat)) ∧ w = w' := by
  go_enter Tryd.func147, Tryd.ntmps147
  go_wp2_with (go_at_call 178; refine (onesCount64_any x hx _).mono ?_; rintro e w' ⟨rfl, rfl⟩)
  go_ret
  exact ⟨rfl, rfl⟩

end Go.Proofs.YtolnlkccbndkcaaDoor

/- Ranks: the program's rank, the reference's l2Rank. -/
namespace Go.Proofs.YtolnlkccbndkcaaDoor
open Go.RowKit Go.BigFrame AG

set_option maxHeartbeats 1000000 in
theorem implRank_any (S n : Nat) (w : World) (hS : S < 65536) (hn : n ≤ 16) :
    Calls Tryd.prog 83 #[.int .i64 (S : Nat), .int .i64 (n : Nat)] w fun e w' => e = .returned (.int .i64 (rankN S n : Nat)) ∧ w = w' := by
  have h2 : 2 ^ n ≤ 2 ^ 16 := Nat.pow_le_pow_right (by omega) hn
  have h3 : 0 < 2 ^ n := Nat.two_pow_pos n
  have f1 := wrap_pow (n := n) (by omega)
  obtain ⟨M, hM⟩ : ∃ M, M = 2 ^ n - 1 := ⟨_, rfl⟩
  have f2 : (((2 ^ n : Nat) : Int) - 1) = (M : Int) := by omega
  have f3 := bits_andN S M hS (by omega)
  obtain ⟨X, hX⟩ : ∃ X, X = S &&& M := ⟨_, rfl⟩
  rw [← hX] at f3
  have hXl : X < 65536 := by
    have : X ≤ S := by rw [hX]; exact Nat.and_le_left
    omega
  have hfin : Hid (popE X = rankN S n) := hid (by rw [popE_rank, hX, hM, rank_mask S n 16 hn])
  generalize hP : 2 ^ n = P at *
  clear hM hX
  go_enter Tryd.func83, Tryd.ntmps83
  go_wp2_with (go_at_call 147; refine (onesCount_any X hXl _).mono ?_; rintro e w' ⟨rfl, rfl⟩; rw [hfin.out])
  go_ret
  exact ⟨rfl, rfl⟩

set_option maxHeartbeats 1000000 in
theorem l2Rank_any (S n : Nat) (w : World) (hn : n ≤ 16) :
    Calls Tryd.prog 144 #[.int .i64 (S : Nat), .int .i64 (n : Nat)] w fun e w' => e = .returned (.int .i64 (rankN S n : Nat)) ∧ w = w' := by
  go_enter Tryd.func144, Tryd.ntmps144
  go_wp2_with fail
  go_loopw [5, 6] (fun o i wr => ∃ k : Nat, i = .int .i64 (k : Nat) ∧ k ≤ n ∧ o = .int .i64 (rankN S k : Nat) ∧ w = wr) (fun _ i _ => n - (intOf i).toNat)
  case atStart => exact ⟨0, rfl, by omega, rfl, rfl⟩
  case round =>
    obtain ⟨k, rfl, hk, rfl, rfl⟩ := hrel
    have hle := rankN_le S k
    by_cases hlt : k < n
    · have hnx : Hid (rankN S (k + 1) = rankN S k + if S.testBit k = true then 1 else 0) := hid rfl
      cases hb : S.testBit k
      · have hn2 : Hid (rankN S (k + 1) = rankN S k) := hid (by rw [hnx.out, hb]; simp)
        replace hb := hid hb
        go_wp2_with (go_at_call 106; refine (l1Has_nat S k _ (by omega)).mono ?_; rintro e w' ⟨rfl, rfl⟩; rw [hb.out])
        go_roundw
        case rel => exact ⟨k + 1, by go_num, by omega, by rw [hn2.out], by first | trivial | rfl⟩
        case measure => simp [intOf]; omega
      · have hn2 : Hid (rankN S (k + 1) = rankN S k + 1) := hid (by rw [hnx.out, hb]; simp)
        replace hb := hid hb
        go_wp2_with (go_at_call 106; refine (l1Has_nat S k _ (by omega)).mono ?_; rintro e w' ⟨rfl, rfl⟩; rw [hb.out])
        go_roundw
        case rel => exact ⟨k + 1, by go_num, by omega, by rw [hn2.out]; go_num, by first | trivial | rfl⟩
        case measure => simp [intOf]; omega
    · obtain rfl : k = n := by omega
      go_wp2
      go_ret
      exact ⟨rfl, rfl⟩

end Go.Proofs.YtolnlkccbndkcaaDoor

/- A system with only some of its states: the program's subSystem, the reference's l2Keep. -/
namespace Go.Proofs.YtolnlkccbndkcaaDoor
open Go.RowKit Go.BigFrame AG

/-- The result under way: its own block gs, its edges a row that the call owns. -/
structure SubSt (w0 wr : World) (gs : Nat) (al st : Int) (v : Value) (es : List Ed) : Prop where
  blk : Blk wr gs 25 #[.int .i64 al, .int .i64 st, v]
  own : wr.ownsRow w0.heap.size 81 3 v es.length (edCells es)
  low : w0.heap.size ≤ gs
  keep : Below w0.heap.size w0 wr
theorem SubSt.later {w0 wr w1 : World} {gs : Nat} {al st : Int} {v : Value} {es : List Ed} (h : SubSt w0 wr gs al st v es) (hb : Below wr.heap.size wr w1) : SubSt w0 w1 gs al st v es :=
  ⟨h.blk.below hb h.blk.lt, own_later h.own hb, h.low, h.keep.trans (hb.mono h.keep.size)⟩
theorem SubSt.add {w0 wr w1 : World} {gs gg cap : Nat} {al st : Int} {v : Value} {es : List Ed} {x : Ed} (h : SubSt w0 wr gs al st v es)
    (hown : w1.ownsRow w0.heap.size 81 3 (.slice (some ⟨gg, 0, none⟩) (es.length + 1) cap) (es.length + 1) (edCells es ++ [.int .i64 x.f, .int .i64 x.l, .int .i64 x.t])) (hg : wr.grownBy w1 v.ownBlock) :
    SubSt w0 (w1.setCell ⟨gs, 2, none⟩ (.slice (some ⟨gg, 0, none⟩) (es.length + 1) cap)) gs al st (.slice (some ⟨gg, 0, none⟩) (es.length + 1) cap) (es ++ [x]) := by
  have hne : v.ownBlock ≠ some gs := fun e => own_ne h.own h.blk (by decide) gs e rfl
  have hb1 : Blk w1 gs 25 #[.int .i64 al, .int .i64 st, v] := by
    have := hg.block gs h.blk.lt (Ne.symm hne)
    exact this.trans h.blk
  have hne2 : (Value.slice (some ⟨gg, 0, none⟩) (es.length + 1) cap).ownBlock ≠ some gs := fun e => own_ne hown hb1 (by decide) gs e rfl
  refine ⟨by simpa using hb1.set_ 2 (.slice (some ⟨gg, 0, none⟩) (es.length + 1) cap), ?_, h.low, ?_⟩
  · have e : (es ++ [x]).length = es.length + 1 := by simp
    rw [e, edCells_append]
    exact ownsRow_setCell_other hown hne2 _
  · exact Below.setCell (h.keep.grown hg h.keep.size (fun k hk => (h.own.lt k hk).1)) (by have := h.low; simpa using this) _

theorem has_nat (S n : Nat) (w : World) (h : n < 16) :
    Calls Tryd.prog 98 #[.int .i64 (S : Nat), .int .i64 (n : Nat)] w fun e w' => e = .returned (.bool (S.testBit n)) ∧ w = w' := by
  have := has_any (S : Int) (n : Int) w (by omega)
  have e : HasZ (S : Int) (n : Int) = S.testBit n := by unfold HasZ; rw [Int.toNat_natCast, Has_nat]; simp
  rw [e] at this
  exact this

def SubPost (w : World) (x : Sy) (e : Ending) (w' : World) : Prop := ∃ (A : Option Addr) (c : Nat), e = .returned (x.val A c) ∧ x.es.length ≤ c ∧ c ≤ 9223372036854775807 ∧ EdsAt w' w'.heap.size A x.es ∧ FreshA w.heap.size A ∧ Below w.heap.size w w'

set_option maxRecDepth 100000 in
set_option maxHeartbeats 8000000 in
theorem l2Keep_any (s : Sy) (A : Option Addr) (c R : Nat) (w : World) (hs : edgesIn s) (hst : s.st ≤ 16) (hst0 : 0 ≤ s.st) (hR : R < 2 ^ s.st.toNat) (hL : s.es.length ≤ 1000000) (hl : s.es.length ≤ c) (hc : c ≤ 9223372036854775807) (hr : EdsAt w w.heap.size A s.es) :
    Calls Tryd.prog 79 #[s.val A c, .int .i64 (R : Nat)] w (SubPost w (trimSy s R)) := by
  obtain ⟨i0, hi, hz0, hz1, hz2⟩ := info_parts infoEd
  unfold Sy.val
  have hR16 : R < 65536 := by
    have : 2 ^ s.st.toNat ≤ 2 ^ 16 := Nat.pow_le_pow_right (by omega) (by omega)
    omega
  obtain ⟨n, hn⟩ := Int.eq_ofNat_of_zero_le hst0
  have hn16 : n ≤ 16 := by omega
  have hpop : Hid (popE R = rankN R n) := hid (by rw [popE_rank]; exact rank_top (by rw [hn] at hR; simpa using hR) 16 hn16)
  have htr : Hid (trimSy s R = ⟨s.al, (rankN R n : Nat), trimEs R s.es⟩) := hid (by unfold trimSy; rw [hn]; rfl)
  have hpar := (Blk.new w 25 #[.int .i64 s.al, .int .i64 s.st, .slice A s.es.length c]).alloc (.cells #[.int .i64 0, .int .i64 0, .slice none 0 0] 25)
  have hres := Blk.new (w.alloc (.cells #[.int .i64 s.al, .int .i64 s.st, .slice A s.es.length c] 25)) 25 #[.int .i64 0, .int .i64 0, .slice none 0 0]
  have hb0 : Below w.heap.size w ((w.alloc (.cells #[.int .i64 s.al, .int .i64 s.st, .slice A s.es.length c] 25)).alloc (.cells #[.int .i64 0, .int .i64 0, .slice none 0 0] 25)) := ((Below.refl _ _).alloc (Nat.le_refl _) _).alloc (by simp) _
  have hsz0 : ((w.alloc (.cells #[.int .i64 s.al, .int .i64 s.st, .slice A s.es.length c] 25)).alloc (.cells #[.int .i64 0, .int .i64 0, .slice none 0 0] 25)).heap.size = w.heap.size + 2 := by simp
  simp only [World.size_alloc] at hres
  generalize hw0 : (w.alloc (.cells #[.int .i64 s.al, .int .i64 s.st, .slice A s.es.length c] 25)).alloc (.cells #[.int .i64 0, .int .i64 0, .slice none 0 0] 25) = w0 at hres hb0 hsz0 hpar
  rw [hn] at hpar
  have p0 := hpar.cell 0
  have p1 := hpar.cell 1
  have p2 := hpar.cell 2
  simp only [List.getElem?_toArray, List.getElem?_cons_zero, List.getElem?_cons_succ] at p0 p1 p2
  have q0 := GK.BI.cell p0
  have q1 := GK.BI.cell p1
  have q2 := GK.BI.cell p2
  have hs0 := hid (hr.later hb0)
  replace hr := hid hr
  replace hs := hid hs
  replace hres := hid hres
  have hpar' := hid hpar
  replace hsz0 := hid hsz0
  replace hn := hid hn
  clear p0 p1 p2 hpar
  go_enter Tryd.func79, Tryd.ntmps79
  go_wp2_with fail
  refine GK.wp_region 8 [8] 200 (KeepB fun _ => False) (GK.BI w0) (fun _ u _ => u = .int .i64 ((rankN R n : Nat) : Int)) (by kernel_rfl) (by kernel_rfl) (GK.BI.way w0) (by decide) (Below.refl _ _).drew ?_
  simp only [List.take_succ_cons, List.take_zero]
  (repeat (refine GK.grow_quiet w0 (by rfl) (by rfl) ?_; intro K hK; go_big_quiet_op; go_big_quiet_on))
  refine GK.grow_val (.int .i64 ((rankN R n : Nat) : Int)) (by rfl) rfl (fun m wq hm2 hbq _ => ?_) ?_
  · go_simp
    exact ⟨rfl, (l2Rank_any R n wq hn16).mono fun e w' ⟨h1, h2⟩ => ⟨h1, GK.BI.after hbq (by rw [← h2]; exact Below.refl _ _)⟩⟩
  simp only [Act.put, List.setIfInBounds_toArray, List.set_cons_zero, List.set_cons_succ]
  (repeat (refine GK.grow_quiet w0 (by rfl) (by rfl) ?_; intro K hK; go_big_quiet_op; go_big_quiet_on))
  refine GK.grow_new (K := fun _ => False) (by rfl) _ (fun b => .pointer (some ⟨b, 0, none⟩)) 25 #[.int .i64 0, .int .i64 0, .slice none 0 0] (fun _ => by go_simp) rfl (fun _ _ o h => GK.BI.alloc o h) (fun _ _ h => GK.BI.size h) (fun _ h => h.elim) (fun gs hgs => ?_)
  simp only [Act.put, List.setIfInBounds_toArray, List.set_cons_zero, List.set_cons_succ]
  refine GK.grow_nil ?_
  intro w1 hw1 hf
  simp only [List.filterMap_cons, List.filterMap_nil, List.getElem?_cons_zero, List.getElem?_cons_succ]
  obtain ⟨gs', e1, -, hblk⟩ := hf _ List.mem_cons_self
  cases e1
  replace hw1 : Below w0.heap.size w0 w1 := hw1
  clear hf q0 q1 q2 hw0
  have hblk' : Blk w1 gs 25 #[.int .i64 0, .int .i64 0, .slice none 0 0] := hblk
  have hgl := hblk'.lt
  have c0 := hblk'.cell 0
  have c1 := hblk'.cell 1
  have c2 := hblk'.cell 2
  have f0 := hblk'.frozen 0
  have f1 := hblk'.frozen 1
  have f2 := hblk'.frozen 2
  simp only [List.getElem?_toArray, List.getElem?_cons_zero, List.getElem?_cons_succ] at c0 c1 c2
  have hS1 : Hid (SubSt w0 (((w1.setCell ⟨gs, 0, none⟩ (.int .i64 s.al)).setCell ⟨gs, 1, none⟩ (.int .i64 ((rankN R n : Nat) : Int))).setCell ⟨gs, 2, none⟩ (.slice none 0 0)) gs s.al ((rankN R n : Nat) : Int) (.slice none 0 0) []) := hid
    ⟨by simpa using ((hblk'.set_ 0 (.int .i64 s.al)).set_ 1 (.int .i64 ((rankN R n : Nat) : Int))).set_ 2 (.slice none 0 0), World.ownsRow_nil _ _ _ _, hgs,
      ((hw1.setCell (by simpa using hgs) _).setCell (by simpa using hgs) _).setCell (by simpa using hgs) _⟩
  obtain ⟨w2, hw2⟩ : ∃ w2, ((w1.setCell ⟨gs, 0, none⟩ (.int .i64 s.al)).setCell ⟨gs, 1, none⟩ (.int .i64 ((rankN R n : Nat) : Int))).setCell ⟨gs, 2, none⟩ (.slice none 0 0) = w2 := ⟨_, rfl⟩
  rw [hw2] at hS1
  have hparr := fun (wr : World) (hb : Below w0.heap.size w0 wr) => (hpar'.out.below hb hpar'.out.lt)
  have hpz := hS1.out.keep
  have g0 := (hparr _ hpz).cell 0
  have g1 := (hparr _ hpz).cell 1
  have g2 := (hparr _ hpz).cell 2
  simp only [List.getElem?_toArray, List.getElem?_cons_zero, List.getElem?_cons_succ] at g0 g1 g2
  replace hparr := hid hparr
  replace hblk := hid hblk
  clear hblk' hpz
  go_wp2_with fail
  go_loopw [6] (fun i wr => ∃ (k : Nat) (v : Value), i = .int .i64 (k : Nat) ∧ k ≤ s.es.length ∧ SubSt w0 wr gs s.al ((rankN R n : Nat) : Int) v (trimEs R (s.es.take k))) (fun i _ => s.es.length - (intOf i).toNat)
  case atStart => exact ⟨0, _, rfl, by omega, hS1.out⟩
  case round =>
    clear g0 g1 g2
    obtain ⟨k, v, rfl, hk, hst2⟩ := hrel
    have hbr := hst2.keep
    have g0 := (hparr.out _ hbr).cell 0
    have g1 := (hparr.out _ hbr).cell 1
    have g2 := (hparr.out _ hbr).cell 2
    simp only [List.getElem?_toArray, List.getElem?_cons_zero, List.getElem?_cons_succ] at g0 g1 g2
    have hzr := hbr.size
    have hz00 := hsz0.out
    by_cases hlt : k < s.es.length
    · obtain ⟨b, o, hA, hbb, hE⟩ := hs0.out (by omega)
      subst hA
      obtain ⟨e0, e1, e2⟩ := hE k hlt
      rw [← hbr.cell (by simpa using hbb)] at e0 e1 e2
      obtain ⟨i1, i2, i3, i4, i5, i6, -, -, -⟩ := hs.out s.es[k] (List.getElem_mem _)
      have hhit := trimEs_hit (R := R) hlt
      have hmiss := trimEs_miss (R := R) hlt
      obtain ⟨x, hx⟩ : ∃ x, x = s.es[k] := ⟨_, rfl⟩
      rw [← hx] at e0 e1 e2 i1 i2 i3 i4 i5 i6 hhit hmiss
      obtain ⟨⟨xf, xl, xt⟩, rfl⟩ : ∃ y, y = x := ⟨_, rfl⟩
      simp only at e0 e1 e2 i1 i2 i3 i4 i5 i6
      obtain ⟨f, rfl⟩ := Int.eq_ofNat_of_zero_le i1
      obtain ⟨t, rfl⟩ := Int.eq_ofNat_of_zero_le i3
      have hf16 : f < 16 := by omega
      have ht16 : t < 16 := by omega
      have k1 : (0 : Int) ≤ (k : Int) ∧ (k : Int) < (s.es.length : Int) := by omega
      have hkept : Hid (keptE R ⟨(f : Int), xl, (t : Int)⟩ = (R.testBit f && R.testBit t)) := hid rfl
      have htrim : Hid (trimE R ⟨(f : Int), xl, (t : Int)⟩ = ⟨((rankN R f : Nat) : Int), xl, ((rankN R t : Nat) : Int)⟩) := hid rfl
      have r1 := rankN_le R f
      have r2 := rankN_le R t
      have hnb := Blk.new wr 81 #[.int .i64 (f : Int), .int .i64 xl, .int .i64 (t : Int)]
      have hba : Below wr.heap.size wr (wr.alloc (.cells #[.int .i64 (f : Int), .int .i64 xl, .int .i64 (t : Int)] 81)) := (Below.refl _ _).alloc (Nat.le_refl _) _
      have hbs : wr.heap.size < (wr.alloc (.cells #[.int .i64 (f : Int), .int .i64 xl, .int .i64 (t : Int)] 81)).heap.size := by simp
      generalize hwa : wr.alloc (.cells #[.int .i64 (f : Int), .int .i64 xl, .int .i64 (t : Int)] 81) = wa at hnb hba hbs
      have d0 := hnb.cell 0
      have d1 := hnb.cell 1
      have d2 := hnb.cell 2
      simp only [List.getElem?_toArray, List.getElem?_cons_zero, List.getElem?_cons_succ] at d0 d1 d2
      have hSa := hid (hst2.later hba)
      have hbl := hSa.out.blk.lt
      have hle : (trimEs R (s.es.take k)).length ≤ k := by have := trimEs_len R (s.es.take k); rw [List.length_take] at this; omega
      replace hE := hid hE
      replace hx := hid hx
      replace hhit := hid hhit
      replace hmiss := hid hmiss
      clear hst2
      cases hbf : R.testBit f
      · have hm := hid (hmiss.out (by rw [hkept.out, hbf]; rfl))
        replace hbf := hid hbf
        go_wp2_with (go_at_call 106; refine (l1Has_nat R f _ (by omega)).mono ?_; rintro e w' ⟨rfl, rfl⟩; rw [hbf.out])
        go_roundw
        case rel => exact ⟨k + 1, v, by go_num, by omega, by rw [hm.out]; exact hSa.out⟩
        case measure => simp [intOf]; omega
      · cases hbt : R.testBit t
        · have hm := hid (hmiss.out (by rw [hkept.out, hbf, hbt]; rfl))
          replace hbf := hid hbf
          replace hbt := hid hbt
          go_wp2_with fail
          refine (l1Has_nat R f _ (by omega)).mono ?_
          rintro e w' ⟨rfl, rfl⟩
          rw [hbf.out]
          go_wp2_with fail
          refine (l1Has_nat R t _ (by omega)).mono ?_
          rintro e w' ⟨rfl, rfl⟩
          rw [hbt.out]
          go_wp2_with fail
          go_roundw
          case rel => exact ⟨k + 1, v, by go_num, by omega, by rw [hm.out]; exact hSa.out⟩
          case measure => simp [intOf]; omega
        · have hm := hid (hhit.out (by rw [hkept.out, hbf, hbt]; rfl))
          replace hbf := hid hbf
          replace hbt := hid hbt
          have c2 := hSa.out.blk.cell 2
          simp only [List.getElem?_toArray, List.getElem?_cons_zero, List.getElem?_cons_succ] at c2
          have q0 := GK.BI.cell c2
          have q1 := GK.BI.cell d0
          have q2 := GK.BI.cell d1
          have q3 := GK.BI.cell d2
          obtain ⟨es, hes⟩ : ∃ es, es = trimEs R (s.es.take k) := ⟨_, rfl⟩
          rw [← hes] at hSa hle hm
          replace hes := hid hes
          go_wp2_with fail
          refine (l1Has_nat R f _ (by omega)).mono ?_
          rintro e w' ⟨rfl, rfl⟩
          rw [hbf.out]
          go_wp2_with fail
          refine (l1Has_nat R t _ (by omega)).mono ?_
          rintro e w' ⟨rfl, rfl⟩
          rw [hbt.out]
          go_wp2_with fail
          clear c2 d0 d1 d2
          refine GK.wp_region 14 [14, 15, 16] 200 (KeepB fun _ => False) (GK.BI wa) (fun i u _ => u = .int .i64 (((if i = 5 then rankN R f else rankN R t) : Nat) : Int)) (by kernel_rfl) (by kernel_rfl) (GK.BI.way wa) (by decide) (Below.refl _ _).drew ?_
          simp only [List.take_succ_cons, List.take_zero]
          (repeat (refine GK.grow_quiet wa (by rfl) (by rfl) ?_; intro K hK; go_big_quiet_op; go_big_quiet_on))
          refine GK.grow_val (.int .i64 ((rankN R f : Nat) : Int)) (by rfl) rfl (fun m wq hm2 hbq _ => ?_) ?_
          · go_simp
            exact ⟨rfl, (l2Rank_any R f wq (by omega)).mono fun e w' ⟨h1, h2⟩ => ⟨h1, GK.BI.after hbq (by rw [← h2]; exact Below.refl _ _)⟩⟩
          simp only [Act.put, List.setIfInBounds_toArray, List.set_cons_zero, List.set_cons_succ]
          (repeat (refine GK.grow_quiet wa (by rfl) (by rfl) ?_; intro K hK; go_big_quiet_op; go_big_quiet_on))
          refine GK.grow_val (.int .i64 ((rankN R t : Nat) : Int)) (by rfl) rfl (fun m wq hm2 hbq _ => ?_) ?_
          · go_simp
            exact ⟨rfl, (l2Rank_any R t wq (by omega)).mono fun e w' ⟨h1, h2⟩ => ⟨h1, GK.BI.after hbq (by rw [← h2]; exact Below.refl _ _)⟩⟩
          simp only [Act.put, List.setIfInBounds_toArray, List.set_cons_zero, List.set_cons_succ]
          (repeat (refine GK.grow_quiet wa (by rfl) (by rfl) ?_; intro K hK; go_big_quiet_op; go_big_quiet_on))
          refine GK.grow_new (K := fun _ => False) (by rfl) _ (fun b => .slice (some ⟨b, 0, none⟩) 1 1) 81 #[.int .i64 ((rankN R f : Nat) : Int), .int .i64 xl, .int .i64 ((rankN R t : Nat) : Int)] (fun _ => by go_simp) rfl (fun _ _ o h => GK.BI.alloc o h) (fun _ _ h => GK.BI.size h) (fun _ h => h.elim) (fun bb hbb2 => ?_)
          simp only [Act.put, List.setIfInBounds_toArray, List.set_cons_zero, List.set_cons_succ]
          refine GK.grow_nil ?_
          intro w4 hw4 hf
          obtain ⟨g', hge, hge2, hblk4⟩ := hf _ List.mem_cons_self
          cases hge
          clear hf
          simp only [List.filterMap_cons, List.filterMap_nil, List.getElem?_cons_zero, List.getElem?_cons_succ]
          replace hw4 : Below wa.heap.size wa w4 := hw4
          have hS4 := hid (hSa.out.later hw4)
          have z4 := hw4.size
          have hown4 := hS4.out.own
          have hbl4 := hS4.out.blk.lt
          have ag : v.ownBlock ≠ some gs := fun e => own_ne hS4.out.own hS4.out.blk (by decide) gs e rfl
          have c2 := hS4.out.blk.cell 2
          have f2 := hS4.out.blk.frozen 2
          simp only [List.getElem?_toArray, List.getElem?_cons_zero, List.getElem?_cons_succ] at c2
          clear q0 q1 q2 q3
          refine wpList_append_lies _ (by rfl) _ _ 23 (by rfl) w0.heap.size 81 i0 (.agg #[.int .i64 0, .int .i64 0, .int .i64 0]) 3 24 Tryd.underlying23 hi hz0 hz1 hz2 rfl (by decide) v es.length (edCells es) (by rfl) hown4 ⟨bb, 0, none⟩ 1 1 [.int .i64 ((rankN R f : Nat) : Int), .int .i64 xl, .int .i64 ((rankN R t : Nat) : Int)] (by rfl) (by rfl) (World.news_of_block hblk4) ?c1 (by omega) ?c3 ?c4 ?c5 w4.heap.size rfl ?_
          case c1 => simp [Value.oneCell']
          case c3 => unfold maxLen; omega
          case c4 => omega
          case c5 => have := hS4.out.keep.size; omega
          intro gg cap w5 hown5 hgrow hat hlt5
          have c2' : w5.cell? ⟨gs, 2, none⟩ = some v := by rw [hgrow.cell_far _ (by simpa using hbl4) (Ne.symm ag)]; exact c2
          have f2' : w5.frozen? ⟨gs, 2, none⟩ = false := by rw [hgrow.frozen_far _ (by simpa using hbl4) (Ne.symm ag)]; exact f2
          have hfin := hid (hS4.out.add (x := ⟨((rankN R f : Nat) : Int), xl, ((rankN R t : Nat) : Int)⟩) hown5 hgrow)
          have hz5 := hgrow.size
          clear hown4 hown5 hgrow c2 f2
          go_wp2_with fail
          go_roundw
          case rel => exact ⟨k + 1, _, by go_num, by omega, by rw [hm.out, htrim.out]; exact hfin.out⟩
          case measure => simp [intOf]; omega
    · obtain rfl : k = s.es.length := by omega
      rw [List.take_length] at hst2
      obtain ⟨Av, cv, hve, hv1, hv2⟩ := own_slice hst2.own
      subst hve
      have hrd := OwnEds.read (show OwnEds wr w0.heap.size (.slice Av (trimEs R s.es).length cv) (trimEs R s.es) from hst2.own)
      obtain ⟨A2, c2', hve2, h1, h2, h3, h4⟩ := hrd
      cases hve2
      have c0 := hst2.blk.cell 0
      have c1 := hst2.blk.cell 1
      have c2 := hst2.blk.cell 2
      have hresb := hres.out.below hbr hres.out.lt
      have d0 := hresb.cell 0
      have d1 := hresb.cell 1
      have d2 := hresb.cell 2
      have f0 := hresb.frozen 0
      have f1 := hresb.frozen 1
      have f2 := hresb.frozen 2
      simp only [List.getElem?_toArray, List.getElem?_cons_zero, List.getElem?_cons_succ] at c0 c1 c2 d0 d1 d2
      have hfin : Hid (SubPost w (trimSy s R) (.returned (.agg #[.int .i64 s.al, .int .i64 ((rankN R n : Nat) : Int), .slice Av (trimEs R s.es).length cv])) (((wr.setCell ⟨w.heap.size + 1, 0, none⟩ (.int .i64 s.al)).setCell ⟨w.heap.size + 1, 1, none⟩ (.int .i64 ((rankN R n : Nat) : Int))).setCell ⟨w.heap.size + 1, 2, none⟩ (.slice Av (trimEs R s.es).length cv))) := hid (by
        rw [htr.out]
        have hne : ∀ b o, Av = some ⟨b, o, none⟩ → 0 < (trimEs R s.es).length → b ≠ w.heap.size + 1 := fun b o hA _ => by have := h4 b o hA; omega
        refine ⟨Av, cv, rfl, h1, h2, ?_, fun b o hA => by have := h4 b o hA; omega, ?_⟩
        · simpa [World.setCell] using ((h3.stored _ hne).stored _ hne).stored _ hne
        · exact (((hb0.trans (hbr.mono (by omega))).setCell (by simp) _).setCell (by simp) _).setCell (by simp) _)
      have hvl := hresb.lt
      clear hresb hst2 h3 h4
      go_wp2
      refine bodyPost_ret (v := .agg #[.int .i64 s.al, .int .i64 ((rankN R n : Nat) : Int), .slice Av (trimEs R s.es).length cv]) (by simp [results, Tryd.results79, go_sem, d0, d1, d2]) rfl ?_
      exact hfin.out

set_option maxRecDepth 100000 in
set_option maxHeartbeats 8000000 in
theorem subSystem_any (s : Sy) (A : Option Addr) (c R : Nat) (w : World) (hs : edgesIn s) (hst : s.st ≤ 16) (hst0 : 0 ≤ s.st) (hR : R < 2 ^ s.st.toNat) (hL : s.es.length ≤ 1000000) (hl : s.es.length ≤ c) (hc : c ≤ 9223372036854775807) (hr : EdsAt w w.heap.size A s.es) :
    Calls Tryd.prog 111 #[s.val A c, .int .i64 (R : Nat)] w (SubPost w (trimSy s R)) := by
  obtain ⟨i0, hi, hz0, hz1, hz2⟩ := info_parts infoEd
  unfold Sy.val
  have hR16 : R < 65536 := by
    have : 2 ^ s.st.toNat ≤ 2 ^ 16 := Nat.pow_le_pow_right (by omega) (by omega)
    omega
  obtain ⟨n, hn⟩ := Int.eq_ofNat_of_zero_le hst0
  have hn16 : n ≤ 16 := by omega
  have hpop : Hid (popE R = rankN R n) := hid (by rw [popE_rank]; exact rank_top (by rw [hn] at hR; simpa using hR) 16 hn16)
  have htr : Hid (trimSy s R = ⟨s.al, (rankN R n : Nat), trimEs R s.es⟩) := hid (by unfold trimSy; rw [hn]; rfl)
  have hpar := (Blk.new w 25 #[.int .i64 s.al, .int .i64 s.st, .slice A s.es.length c]).alloc (.cells #[.int .i64 0, .int .i64 0, .slice none 0 0] 25)
  have hres := Blk.new (w.alloc (.cells #[.int .i64 s.al, .int .i64 s.st, .slice A s.es.length c] 25)) 25 #[.int .i64 0, .int .i64 0, .slice none 0 0]
  have hb0 : Below w.heap.size w ((w.alloc (.cells #[.int .i64 s.al, .int .i64 s.st, .slice A s.es.length c] 25)).alloc (.cells #[.int .i64 0, .int .i64 0, .slice none 0 0] 25)) := ((Below.refl _ _).alloc (Nat.le_refl _) _).alloc (by simp) _
  have hsz0 : ((w.alloc (.cells #[.int .i64 s.al, .int .i64 s.st, .slice A s.es.length c] 25)).alloc (.cells #[.int .i64 0, .int .i64 0, .slice none 0 0] 25)).heap.size = w.heap.size + 2 := by simp
  simp only [World.size_alloc] at hres
  generalize hw0 : (w.alloc (.cells #[.int .i64 s.al, .int .i64 s.st, .slice A s.es.length c] 25)).alloc (.cells #[.int .i64 0, .int .i64 0, .slice none 0 0] 25) = w0 at hres hb0 hsz0 hpar
  rw [hn] at hpar
  have p0 := hpar.cell 0
  have p1 := hpar.cell 1
  have p2 := hpar.cell 2
  simp only [List.getElem?_toArray, List.getElem?_cons_zero, List.getElem?_cons_succ] at p0 p1 p2
  have q0 := GK.BI.cell p0
  have q1 := GK.BI.cell p1
  have q2 := GK.BI.cell p2
  have hs0 := hid (hr.later hb0)
  replace hr := hid hr
  replace hs := hid hs
  replace hres := hid hres
  have hpar' := hid hpar
  replace hsz0 := hid hsz0
  replace hn := hid hn
  clear p0 p1 p2 hpar
  go_enter Tryd.func111, Tryd.ntmps111
  go_wp2_with fail
  refine GK.wp_region 7 [7] 200 (KeepB fun _ => False) (GK.BI w0) (fun _ u _ => u = .int .i64 ((rankN R n : Nat) : Int)) (by kernel_rfl) (by kernel_rfl) (GK.BI.way w0) (by decide) (Below.refl _ _).drew ?_
  simp only [List.take_succ_cons, List.take_zero]
  (repeat (refine GK.grow_quiet w0 (by rfl) (by rfl) ?_; intro K hK; go_big_quiet_op; go_big_quiet_on))
  refine GK.grow_val (.int .i64 ((rankN R n : Nat) : Int)) (by rfl) rfl (fun m wq hm2 hbq _ => ?_) ?_
  · go_simp
    exact ⟨rfl, (onesCount_any R hR16 wq).mono fun e w' ⟨h1, h2⟩ => ⟨by rw [h1, hpop.out], GK.BI.after hbq (by rw [← h2]; exact Below.refl _ _)⟩⟩
  simp only [Act.put, List.setIfInBounds_toArray, List.set_cons_zero, List.set_cons_succ]
  (repeat (refine GK.grow_quiet w0 (by rfl) (by rfl) ?_; intro K hK; go_big_quiet_op; go_big_quiet_on))
  refine GK.grow_new (K := fun _ => False) (by rfl) _ (fun b => .pointer (some ⟨b, 0, none⟩)) 25 #[.int .i64 0, .int .i64 0, .slice none 0 0] (fun _ => by go_simp) rfl (fun _ _ o h => GK.BI.alloc o h) (fun _ _ h => GK.BI.size h) (fun _ h => h.elim) (fun gs hgs => ?_)
  simp only [Act.put, List.setIfInBounds_toArray, List.set_cons_zero, List.set_cons_succ]
  refine GK.grow_nil ?_
  intro w1 hw1 hf
  simp only [List.filterMap_cons, List.filterMap_nil, List.getElem?_cons_zero, List.getElem?_cons_succ]
  obtain ⟨gs', e1, -, hblk⟩ := hf _ List.mem_cons_self
  cases e1
  replace hw1 : Below w0.heap.size w0 w1 := hw1
  clear hf q0 q1 q2 hw0
  have hblk' : Blk w1 gs 25 #[.int .i64 0, .int .i64 0, .slice none 0 0] := hblk
  have hgl := hblk'.lt
  have c0 := hblk'.cell 0
  have c1 := hblk'.cell 1
  have c2 := hblk'.cell 2
  have f0 := hblk'.frozen 0
  have f1 := hblk'.frozen 1
  have f2 := hblk'.frozen 2
  simp only [List.getElem?_toArray, List.getElem?_cons_zero, List.getElem?_cons_succ] at c0 c1 c2
  have hS1 : Hid (SubSt w0 (((w1.setCell ⟨gs, 0, none⟩ (.int .i64 s.al)).setCell ⟨gs, 1, none⟩ (.int .i64 ((rankN R n : Nat) : Int))).setCell ⟨gs, 2, none⟩ (.slice none 0 0)) gs s.al ((rankN R n : Nat) : Int) (.slice none 0 0) []) := hid
    ⟨by simpa using ((hblk'.set_ 0 (.int .i64 s.al)).set_ 1 (.int .i64 ((rankN R n : Nat) : Int))).set_ 2 (.slice none 0 0), World.ownsRow_nil _ _ _ _, hgs,
      ((hw1.setCell (by simpa using hgs) _).setCell (by simpa using hgs) _).setCell (by simpa using hgs) _⟩
  obtain ⟨w2, hw2⟩ : ∃ w2, ((w1.setCell ⟨gs, 0, none⟩ (.int .i64 s.al)).setCell ⟨gs, 1, none⟩ (.int .i64 ((rankN R n : Nat) : Int))).setCell ⟨gs, 2, none⟩ (.slice none 0 0) = w2 := ⟨_, rfl⟩
  rw [hw2] at hS1
  have hparr := fun (wr : World) (hb : Below w0.heap.size w0 wr) => (hpar'.out.below hb hpar'.out.lt)
  have hpz := hS1.out.keep
  have g0 := (hparr _ hpz).cell 0
  have g1 := (hparr _ hpz).cell 1
  have g2 := (hparr _ hpz).cell 2
  simp only [List.getElem?_toArray, List.getElem?_cons_zero, List.getElem?_cons_succ] at g0 g1 g2
  replace hparr := hid hparr
  replace hblk := hid hblk
  clear hblk' hpz
  go_wp2_with fail
  go_loopw [17] (fun i wr => ∃ (k : Nat) (v : Value), i = .int .i64 (k : Nat) ∧ k ≤ s.es.length ∧ SubSt w0 wr gs s.al ((rankN R n : Nat) : Int) v (trimEs R (s.es.take k))) (fun i _ => s.es.length - (intOf i).toNat)
  case atStart => exact ⟨0, _, rfl, by omega, hS1.out⟩
  case round =>
    clear g0 g1 g2
    obtain ⟨k, v, rfl, hk, hst2⟩ := hrel
    have hbr := hst2.keep
    have g0 := (hparr.out _ hbr).cell 0
    have g1 := (hparr.out _ hbr).cell 1
    have g2 := (hparr.out _ hbr).cell 2
    simp only [List.getElem?_toArray, List.getElem?_cons_zero, List.getElem?_cons_succ] at g0 g1 g2
    have hzr := hbr.size
    have hz00 := hsz0.out
    by_cases hlt : k < s.es.length
    · obtain ⟨b, o, hA, hbb, hE⟩ := hs0.out (by omega)
      subst hA
      obtain ⟨e0, e1, e2⟩ := hE k hlt
      rw [← hbr.cell (by simpa using hbb)] at e0 e1 e2
      obtain ⟨i1, i2, i3, i4, i5, i6, -, -, -⟩ := hs.out s.es[k] (List.getElem_mem _)
      have hhit := trimEs_hit (R := R) hlt
      have hmiss := trimEs_miss (R := R) hlt
      obtain ⟨x, hx⟩ : ∃ x, x = s.es[k] := ⟨_, rfl⟩
      rw [← hx] at e0 e1 e2 i1 i2 i3 i4 i5 i6 hhit hmiss
      obtain ⟨⟨xf, xl, xt⟩, rfl⟩ : ∃ y, y = x := ⟨_, rfl⟩
      simp only at e0 e1 e2 i1 i2 i3 i4 i5 i6
      obtain ⟨f, rfl⟩ := Int.eq_ofNat_of_zero_le i1
      obtain ⟨t, rfl⟩ := Int.eq_ofNat_of_zero_le i3
      have hf16 : f < 16 := by omega
      have ht16 : t < 16 := by omega
      have k1 : (0 : Int) ≤ (k : Int) ∧ (k : Int) < (s.es.length : Int) := by omega
      have hkept : Hid (keptE R ⟨(f : Int), xl, (t : Int)⟩ = (R.testBit f && R.testBit t)) := hid rfl
      have htrim : Hid (trimE R ⟨(f : Int), xl, (t : Int)⟩ = ⟨((rankN R f : Nat) : Int), xl, ((rankN R t : Nat) : Int)⟩) := hid rfl
      have r1 := rankN_le R f
      have r2 := rankN_le R t
      have hnb := Blk.new wr 81 #[.int .i64 (f : Int), .int .i64 xl, .int .i64 (t : Int)]
      have hba : Below wr.heap.size wr (wr.alloc (.cells #[.int .i64 (f : Int), .int .i64 xl, .int .i64 (t : Int)] 81)) := (Below.refl _ _).alloc (Nat.le_refl _) _
      have hbs : wr.heap.size < (wr.alloc (.cells #[.int .i64 (f : Int), .int .i64 xl, .int .i64 (t : Int)] 81)).heap.size := by simp
      generalize hwa : wr.alloc (.cells #[.int .i64 (f : Int), .int .i64 xl, .int .i64 (t : Int)] 81) = wa at hnb hba hbs
      have d0 := hnb.cell 0
      have d1 := hnb.cell 1
      have d2 := hnb.cell 2
      simp only [List.getElem?_toArray, List.getElem?_cons_zero, List.getElem?_cons_succ] at d0 d1 d2
      have hSa := hid (hst2.later hba)
      have hbl := hSa.out.blk.lt
      have hle : (trimEs R (s.es.take k)).length ≤ k := by have := trimEs_len R (s.es.take k); rw [List.length_take] at this; omega
      replace hE := hid hE
      replace hx := hid hx
      replace hhit := hid hhit
      replace hmiss := hid hmiss
      clear hst2
      cases hbf : R.testBit f
      · have hm := hid (hmiss.out (by rw [hkept.out, hbf]; rfl))
        replace hbf := hid hbf
        go_wp2_with (go_at_call 98; refine (has_nat R f _ hf16).mono ?_; rintro e w' ⟨rfl, rfl⟩; rw [hbf.out])
        go_roundw
        case rel => exact ⟨k + 1, v, by go_num, by omega, by rw [hm.out]; exact hSa.out⟩
        case measure => simp [intOf]; omega
      · cases hbt : R.testBit t
        · have hm := hid (hmiss.out (by rw [hkept.out, hbf, hbt]; rfl))
          replace hbf := hid hbf
          replace hbt := hid hbt
          go_wp2_with fail
          refine (has_nat R f _ hf16).mono ?_
          rintro e w' ⟨rfl, rfl⟩
          rw [hbf.out]
          go_wp2_with fail
          refine (has_nat R t _ ht16).mono ?_
          rintro e w' ⟨rfl, rfl⟩
          rw [hbt.out]
          go_wp2_with fail
          go_roundw
          case rel => exact ⟨k + 1, v, by go_num, by omega, by rw [hm.out]; exact hSa.out⟩
          case measure => simp [intOf]; omega
        · have hm := hid (hhit.out (by rw [hkept.out, hbf, hbt]; rfl))
          replace hbf := hid hbf
          replace hbt := hid hbt
          have c2 := hSa.out.blk.cell 2
          simp only [List.getElem?_toArray, List.getElem?_cons_zero, List.getElem?_cons_succ] at c2
          have q0 := GK.BI.cell c2
          have q1 := GK.BI.cell d0
          have q2 := GK.BI.cell d1
          have q3 := GK.BI.cell d2
          obtain ⟨es, hes⟩ : ∃ es, es = trimEs R (s.es.take k) := ⟨_, rfl⟩
          rw [← hes] at hSa hle hm
          replace hes := hid hes
          go_wp2_with fail
          refine (has_nat R f _ hf16).mono ?_
          rintro e w' ⟨rfl, rfl⟩
          rw [hbf.out]
          go_wp2_with fail
          refine (has_nat R t _ ht16).mono ?_
          rintro e w' ⟨rfl, rfl⟩
          rw [hbt.out]
          go_wp2_with fail
          clear c2 d0 d1 d2
          refine GK.wp_region 14 [14, 15, 16] 200 (KeepB fun _ => False) (GK.BI wa) (fun i u _ => u = .int .i64 (((if i = 5 then rankN R f else rankN R t) : Nat) : Int)) (by kernel_rfl) (by kernel_rfl) (GK.BI.way wa) (by decide) (Below.refl _ _).drew ?_
          simp only [List.take_succ_cons, List.take_zero]
          (repeat (refine GK.grow_quiet wa (by rfl) (by rfl) ?_; intro K hK; go_big_quiet_op; go_big_quiet_on))
          refine GK.grow_val (.int .i64 ((rankN R f : Nat) : Int)) (by rfl) rfl (fun m wq hm2 hbq _ => ?_) ?_
          · go_simp
            exact ⟨rfl, (implRank_any R f wq hR16 (by omega)).mono fun e w' ⟨h1, h2⟩ => ⟨h1, GK.BI.after hbq (by rw [← h2]; exact Below.refl _ _)⟩⟩
          simp only [Act.put, List.setIfInBounds_toArray, List.set_cons_zero, List.set_cons_succ]
          (repeat (refine GK.grow_quiet wa (by rfl) (by rfl) ?_; intro K hK; go_big_quiet_op; go_big_quiet_on))
          refine GK.grow_val (.int .i64 ((rankN R t : Nat) : Int)) (by rfl) rfl (fun m wq hm2 hbq _ => ?_) ?_
          · go_simp
            exact ⟨rfl, (implRank_any R t wq hR16 (by omega)).mono fun e w' ⟨h1, h2⟩ => ⟨h1, GK.BI.after hbq (by rw [← h2]; exact Below.refl _ _)⟩⟩
          simp only [Act.put, List.setIfInBounds_toArray, List.set_cons_zero, List.set_cons_succ]
          (repeat (refine GK.grow_quiet wa (by rfl) (by rfl) ?_; intro K hK; go_big_quiet_op; go_big_quiet_on))
          refine GK.grow_new (K := fun _ => False) (by rfl) _ (fun b => .slice (some ⟨b, 0, none⟩) 1 1) 81 #[.int .i64 ((rankN R f : Nat) : Int), .int .i64 xl, .int .i64 ((rankN R t : Nat) : Int)] (fun _ => by go_simp) rfl (fun _ _ o h => GK.BI.alloc o h) (fun _ _ h => GK.BI.size h) (fun _ h => h.elim) (fun bb hbb2 => ?_)
          simp only [Act.put, List.setIfInBounds_toArray, List.set_cons_zero, List.set_cons_succ]
          refine GK.grow_nil ?_
          intro w4 hw4 hf
          obtain ⟨g', hge, hge2, hblk4⟩ := hf _ List.mem_cons_self
          cases hge
          clear hf
          simp only [List.filterMap_cons, List.filterMap_nil, List.getElem?_cons_zero, List.getElem?_cons_succ]
          replace hw4 : Below wa.heap.size wa w4 := hw4
          have hS4 := hid (hSa.out.later hw4)
          have z4 := hw4.size
          have hown4 := hS4.out.own
          have hbl4 := hS4.out.blk.lt
          have ag : v.ownBlock ≠ some gs := fun e => own_ne hS4.out.own hS4.out.blk (by decide) gs e rfl
          have c2 := hS4.out.blk.cell 2
          have f2 := hS4.out.blk.frozen 2
          simp only [List.getElem?_toArray, List.getElem?_cons_zero, List.getElem?_cons_succ] at c2
          clear q0 q1 q2 q3
          refine wpList_append_lies _ (by rfl) _ _ 23 (by rfl) w0.heap.size 81 i0 (.agg #[.int .i64 0, .int .i64 0, .int .i64 0]) 3 24 Tryd.underlying23 hi hz0 hz1 hz2 rfl (by decide) v es.length (edCells es) (by rfl) hown4 ⟨bb, 0, none⟩ 1 1 [.int .i64 ((rankN R f : Nat) : Int), .int .i64 xl, .int .i64 ((rankN R t : Nat) : Int)] (by rfl) (by rfl) (World.news_of_block hblk4) ?c1 (by omega) ?c3 ?c4 ?c5 w4.heap.size rfl ?_
          case c1 => simp [Value.oneCell']
          case c3 => unfold maxLen; omega
          case c4 => omega
          case c5 => have := hS4.out.keep.size; omega
          intro gg cap w5 hown5 hgrow hat hlt5
          have c2' : w5.cell? ⟨gs, 2, none⟩ = some v := by rw [hgrow.cell_far _ (by simpa using hbl4) (Ne.symm ag)]; exact c2
          have f2' : w5.frozen? ⟨gs, 2, none⟩ = false := by rw [hgrow.frozen_far _ (by simpa using hbl4) (Ne.symm ag)]; exact f2
          have hfin := hid (hS4.out.add (x := ⟨((rankN R f : Nat) : Int), xl, ((rankN R t : Nat) : Int)⟩) hown5 hgrow)
          have hz5 := hgrow.size
          clear hown4 hown5 hgrow c2 f2
          go_wp2_with fail
          go_roundw
          case rel => exact ⟨k + 1, _, by go_num, by omega, by rw [hm.out, htrim.out]; exact hfin.out⟩
          case measure => simp [intOf]; omega
    · obtain rfl : k = s.es.length := by omega
      rw [List.take_length] at hst2
      obtain ⟨Av, cv, hve, hv1, hv2⟩ := own_slice hst2.own
      subst hve
      have hrd := OwnEds.read (show OwnEds wr w0.heap.size (.slice Av (trimEs R s.es).length cv) (trimEs R s.es) from hst2.own)
      obtain ⟨A2, c2', hve2, h1, h2, h3, h4⟩ := hrd
      cases hve2
      have c0 := hst2.blk.cell 0
      have c1 := hst2.blk.cell 1
      have c2 := hst2.blk.cell 2
      have hresb := hres.out.below hbr hres.out.lt
      have d0 := hresb.cell 0
      have d1 := hresb.cell 1
      have d2 := hresb.cell 2
      have f0 := hresb.frozen 0
      have f1 := hresb.frozen 1
      have f2 := hresb.frozen 2
      simp only [List.getElem?_toArray, List.getElem?_cons_zero, List.getElem?_cons_succ] at c0 c1 c2 d0 d1 d2
      have hfin : Hid (SubPost w (trimSy s R) (.returned (.agg #[.int .i64 s.al, .int .i64 ((rankN R n : Nat) : Int), .slice Av (trimEs R s.es).length cv])) (((wr.setCell ⟨w.heap.size + 1, 0, none⟩ (.int .i64 s.al)).setCell ⟨w.heap.size + 1, 1, none⟩ (.int .i64 ((rankN R n : Nat) : Int))).setCell ⟨w.heap.size + 1, 2, none⟩ (.slice Av (trimEs R s.es).length cv))) := hid (by
        rw [htr.out]
        have hne : ∀ b o, Av = some ⟨b, o, none⟩ → 0 < (trimEs R s.es).length → b ≠ w.heap.size + 1 := fun b o hA _ => by have := h4 b o hA; omega
        refine ⟨Av, cv, rfl, h1, h2, ?_, fun b o hA => by have := h4 b o hA; omega, ?_⟩
        · simpa [World.setCell] using ((h3.stored _ hne).stored _ hne).stored _ hne
        · exact (((hb0.trans (hbr.mono (by omega))).setCell (by simp) _).setCell (by simp) _).setCell (by simp) _)
      have hvl := hresb.lt
      clear hresb hst2 h3 h4
      go_wp2
      refine bodyPost_ret (v := .agg #[.int .i64 s.al, .int .i64 ((rankN R n : Nat) : Int), .slice Av (trimEs R s.es).length cv]) (by simp [results, Tryd.results111, go_sem, d0, d1, d2]) rfl ?_
      exact hfin.out

end Go.Proofs.YtolnlkccbndkcaaDoor

/- The reference's SystemOf. -/
namespace Go.Proofs.YtolnlkccbndkcaaDoor
open Go.RowKit Go.BigFrame AG

def SoPost (w : World) (x : Sy) (ok : Bool) (e : Ending) (w' : World) : Prop := ∃ (A : Option Addr) (c : Nat), e = .returned (.tuple #[x.val A c, .bool ok]) ∧ x.es.length ≤ c ∧ c ≤ 9223372036854775807 ∧ EdsAt w' w'.heap.size A x.es ∧ FreshA w.heap.size A ∧ Below w.heap.size w w'
def SoOwn (w : World) (x : Sy) (ok : Bool) (e : Ending) (w' : World) : Prop := ∃ (A : Option Addr) (c : Nat), e = .returned (.tuple #[x.val A c, .bool ok]) ∧ OwnEds w' w.heap.size (.slice A x.es.length c) x.es ∧ Below w.heap.size w w'
theorem SoOwn.read {w : World} {x : Sy} {ok : Bool} {e : Ending} {w' : World} (h : SoOwn w x ok e w') : SoPost w x ok e w' := by
  obtain ⟨A, c, h1, h2, h3⟩ := h
  obtain ⟨A', c', e', k1, k2, k3, k4⟩ := OwnEds.read h2
  cases e'
  exact ⟨A, c, h1, k1, k2, k3, k4, h3⟩

/-- The system under way, and the letters. -/
structure SoSt (w0 wr : World) (gs : Nat) (al st : Int) (v : Value) (es : List Ed) (lv : Value) (L : List Nat) : Prop where
  sub : SubSt w0 wr gs al st v es
  list : OwnNats wr w0.heap.size lv L
theorem SoSt.later {w0 wr w1 : World} {gs : Nat} {al st : Int} {v lv : Value} {es : List Ed} {L : List Nat} (h : SoSt w0 wr gs al st v es lv L) (hb : Below wr.heap.size wr w1) : SoSt w0 w1 gs al st v es lv L := ⟨h.sub.later hb, own_later h.list hb⟩
theorem SoSt.add {w0 wr w1 : World} {gs gg cap : Nat} {al st : Int} {v lv : Value} {es : List Ed} {L : List Nat} {x : Ed} (h : SoSt w0 wr gs al st v es lv L)
    (hown : w1.ownsRow w0.heap.size 81 3 (.slice (some ⟨gg, 0, none⟩) (es.length + 1) cap) (es.length + 1) (edCells es ++ [.int .i64 x.f, .int .i64 x.l, .int .i64 x.t])) (hg : wr.grownBy w1 v.ownBlock) :
    SoSt w0 (w1.setCell ⟨gs, 2, none⟩ (.slice (some ⟨gg, 0, none⟩) (es.length + 1) cap)) gs al st (.slice (some ⟨gg, 0, none⟩) (es.length + 1) cap) (es ++ [x]) lv L := by
  have hbl : wr.grownBy w1 v.ownBlock := hg
  refine ⟨h.sub.add hown hg, ?_⟩
  have k2 : KeepB (fun b => v.ownBlock = some b ∨ b = gs) wr (w1.setCell ⟨gs, 2, none⟩ (.slice (some ⟨gg, 0, none⟩) (es.length + 1) cap)) := ((((KeepB.refl _ wr).grown hg (fun k hk _ => hk)).mono fun _ h => .inl h).setCell _ _ fun _ => .inr rfl)
  exact own_keep h.list k2 fun g hg hk => by
    rcases hk with hk | hk
    · exact own_ne_own h.list h.sub.own (by decide) g g hg hk rfl
    · exact own_ne h.list h.sub.blk (by decide) g hg hk

theorem soS_zero {a : Au} (h : soOk a = false) : soS a = ⟨0, 0, []⟩ := by unfold soS; rw [h]; rfl

set_option maxRecDepth 100000 in
set_option maxHeartbeats 8000000 in
theorem specSystemOf_any (a : Au) (A B : Option Addr) (c d : Nat) (w : World) (ha : AuAt w A c B d a) :
    Calls Tryd.prog 23 #[a.val A c B d] w (SoPost w (soS a) (soOk a)) := by
  obtain ⟨i0, hi, hz0', hz1', hz2'⟩ := info_parts infoEd
  obtain ⟨w0, hw0, hz0, hB0, hS, -⟩ := boxed2 w #[Value.int IntKind.i64 a.al, Value.slice A a.nx.length c, Value.slice B a.ac.length d] 32 #[Value.int IntKind.i64 0, Value.int IntKind.i64 0, Value.slice none 0 0] 25
  have hres : Blk w0 (w.heap.size + 1) 25 #[Value.int IntKind.i64 0, Value.int IntKind.i64 0, Value.slice none 0 0] := by
    rw [← hw0]
    have := Blk.new (w.alloc (.cells #[Value.int IntKind.i64 a.al, Value.slice A a.nx.length c, Value.slice B a.ac.length d] 32)) 25 #[Value.int IntKind.i64 0, Value.int IntKind.i64 0, Value.slice none 0 0]
    simpa using this
  have ha0 := hid (ha.later hB0)
  have p0 := hS 0 _ rfl _ (Below.refl _ _)
  have p1 := hS 1 _ rfl _ (Below.refl _ _)
  have p2 := hS 2 _ rfl _ (Below.refl _ _)
  replace ha := hid ha
  replace hres := hid hres
  unfold AG.Au.val
  go_enter Tryd.func23, Tryd.ntmps23
  go_wp2_with fail
  refine (specAutomatonValid_any a A B c d w0 ha0.out).mono ?_
  rintro e w1 ⟨rfl, hb1⟩
  have hB1 := hB0.trans (hb1.mono hB0.size)
  have hC1 := hb1.mono hz0
  have ha1 := hid (ha0.out.later hb1)
  have hz1 := hb1.size
  have hzero : soOk a = false → ∀ wx, Below w1.heap.size w1 wx → SoPost w (soS a) (soOk a) (.returned (.tuple #[.agg #[.int .i64 0, .int .i64 0, .slice none 0 0], .bool false])) (((wx.setCell ⟨w.heap.size + 1, 0, none⟩ (.int .i64 0)).setCell ⟨w.heap.size + 1, 1, none⟩ (.int .i64 0)).setCell ⟨w.heap.size + 1, 2, none⟩ (.slice none 0 0)) := fun h wx hbx => by
    rw [soS_zero h, h]
    exact ⟨none, 0, rfl, Nat.le_refl _, by omega, fun h => by simp at h, fun b o h => (by cases h), (((hB1.trans (hbx.mono hB1.size)).setCell (by simp) _).setCell (by simp) _).setCell (by simp) _⟩
  have hrb := hres.out.below hb1 hres.out.lt
  have d0 := hrb.cell 0
  have d1 := hrb.cell 1
  have d2 := hrb.cell 2
  have f0 := hrb.frozen 0
  have f1 := hrb.frozen 1
  have f2 := hrb.frozen 2
  have hlt1 := hrb.lt
  simp only [List.getElem?_toArray, List.getElem?_cons_zero, List.getElem?_cons_succ] at d0 d1 d2
  replace hzero := hid hzero
  replace hrb := hid hrb
  clear p0 p1 p2 hw0
  cases hok : auOk a
  · have hno := hid (hzero.out (by unfold soOk; rw [hok]; rfl) w1 (Below.refl _ _))
    replace hok := hid hok
    go_wp2
    refine bodyPost_ret (v := .tuple #[.agg #[.int .i64 0, .int .i64 0, .slice none 0 0], .bool false]) (by simp [results, Tryd.results23, go_sem, d0, d1, d2]) rfl ?_
    exact hno.out
  obtain ⟨-, hn1, hn12, hn3, -⟩ := (auOk_iff a).1 hok
  obtain ⟨bA, oA, hAe, hbA, hEA⟩ := ha1.out.acc (by omega)
  subst hAe
  have hac0 := hEA 0 (by omega)
  rw [Nat.add_zero] at hac0
  have hso : Hid (soOk a = a.ac[0]) := hid (by
    unfold soOk
    rw [hok, Bool.true_and, List.getD_eq_getElem?_getD, List.getElem?_eq_getElem (by omega)]
    rfl)
  obtain ⟨t, ht⟩ : ∃ t, t = a.ac[0] := ⟨_, rfl⟩
  rw [← ht] at hac0 hso
  have hok' := hid hok
  have hn3' := hid hn3
  have hal0 : (0 : Int) < (a.ac.length : Int) := by omega
  have p2 := hS 2 _ rfl _ hC1
  replace hEA := hid hEA
  clear hok hn3 ht
  cases t
  · have hno := hid (hzero.out hso.out w1 (Below.refl _ _))
    go_wp2
    refine bodyPost_ret (v := .tuple #[.agg #[.int .i64 0, .int .i64 0, .slice none 0 0], .bool false]) (by simp [results, Tryd.results23, go_sem, d0, d1, d2]) rfl ?_
    exact hno.out
  have p0 := hS 0 _ rfl _ hC1
  have p1 := hS 1 _ rfl _ hC1
  clear hzero d0 d1 d2 f0 f1 f2
  go_upto_region 4 with fail
  have hblk := Blk.new w1 25 #[.int .i64 a.al, .int .i64 (a.nx.length : Nat), .slice none 0 0]
  obtain ⟨w2, hw2, hz2, hB2', hU⟩ := boxed w1 #[.int .i64 a.al, .int .i64 (a.nx.length : Nat), .slice none 0 0] 25
  rw [hw2]
  rw [hw2] at hblk
  clear hw2
  have hC2 := hC1.trans (hB2'.mono (by omega))
  clear p0 p1 p2
  have p0 := hS 0 _ rfl _ hC2
  replace hblk := hid hblk
  go_wp2_with fail
  refine (l1Letters_any a.al w2).mono ?_
  rintro e w3 ⟨lv, rfl, hown3, hb3⟩
  have hs3 : SoSt w1 w3 w1.heap.size a.al (a.nx.length : Nat) (.slice none 0 0) (fullTo a 0) lv (letters a.al) := ⟨⟨hblk.out.below hb3 hblk.out.lt, World.ownsRow_nil _ _ _ _, Nat.le_refl _, hB2'.trans (hb3.mono (by omega))⟩, own_base hown3 (by omega)⟩
  obtain ⟨AL, cL, rfl, hcL, hcL'⟩ := own_slice hown3
  obtain ⟨L, hL⟩ : ∃ L, Hid (L = letters a.al) := ⟨_, hid rfl⟩
  rw [← hL.out] at hs3 hcL ⊢
  have hL6 : L.length ≤ 6 := by rw [hL.out]; exact letters_len6 a.al
  have hrow : Hid (∀ i (h : i < a.nx.length), (a.nx[i]).length = L.length) := hid fun i h => by rw [hL.out]; exact (row_at hok'.out h).2.1
  clear hown3 p0
  replace hs3 := hid hs3
  have hz12 : w1.heap.size < w2.heap.size := by omega
  have hpar := hid (fun (wr : World) (hb : Below w1.heap.size w1 wr) => And.intro (hS 0 _ rfl _ (hC1.trans (hb.mono (by omega)))) (And.intro (hS 1 _ rfl _ (hC1.trans (hb.mono (by omega)))) (hS 2 _ rfl _ (hC1.trans (hb.mono (by omega))))))
  have p1 := (hpar.out _ hs3.out.sub.keep).2.1
  go_wp2_with fail
  go_loopw [6] (fun iv wr => ∃ (i : Nat) (v : Value), iv = .int .i64 (i : Nat) ∧ i ≤ a.nx.length ∧ SoSt w1 wr w1.heap.size a.al (a.nx.length : Nat) v (fullTo a i) (.slice AL L.length cL) L) (fun iv _ => a.nx.length - (intOf iv).toNat)
  case atStart => exact ⟨0, _, rfl, by omega, hs3.out⟩
  case round =>
    clear p1
    obtain ⟨i, v, rfl, hi', hs⟩ := hrel
    have p1 := (hpar.out _ hs.sub.keep).2.1
    by_cases hlt : i < a.nx.length
    · have hs' := hid hs
      clear hs
      go_wp2_with fail
      obtain ⟨wo, rfl⟩ : ∃ wo : World, wo = wr := ⟨_, rfl⟩
      go_loopw [7] (fun kv wr => ∃ (k : Nat) (v : Value), kv = .int .i64 (k : Nat) ∧ k ≤ L.length ∧ SoSt w1 wr w1.heap.size a.al (a.nx.length : Nat) v (fullTo a i ++ (rowEs L i a.nx[i]).take k) (.slice AL L.length cL) L) (fun kv _ => L.length - (intOf kv).toNat)
      case atStart => exact ⟨0, v, rfl, by omega, by rw [List.take_zero, List.append_nil]; exact hs'.out⟩
      case round =>
        clear p1 hs'
        obtain ⟨k, v, rfl, hk, hs⟩ := hrel
        have p1 := (hpar.out _ hs.sub.keep).2.1
        by_cases hlk : k < L.length
        · obtain ⟨gl, cl, hve, -, -, -, -, hcell⟩ := own_nats hs.list (by omega)
          injection hve with e1 e2 e3
          subst e1
          subst e3
          have l0 := hcell k hlk
          have har := ha1.out.rows.later (show Below w1.heap.size w1 wr from hs.sub.keep)
          obtain ⟨bR, oR, hRe, hbR, hER⟩ := har (by omega)
          subst hRe
          obtain ⟨Ai, ci, r0, h1, h2, h3⟩ := hER i hlt
          have hrl := hrow.out i hlt
          have hek : Hid ((rowEs L i a.nx[i]).take (k + 1) = (rowEs L i a.nx[i]).take k ++ [⟨(i : Int), (L[k] : Int), (a.nx[i])[k]'(by omega)⟩]) := hid (rowEs_take L i a.nx[i] hlk (by omega))
          obtain ⟨r, hr⟩ : ∃ r, r = a.nx[i] := ⟨_, rfl⟩
          simp only [← hr] at r0 h1 h3 hrl hek hs ⊢
          obtain ⟨bi, oi, hie, hbi, hEi⟩ := h3 (by omega)
          subst hie
          have i0c := hEi k (by omega)
          obtain ⟨t, ht⟩ : ∃ t, t = r[k]'(by omega) := ⟨_, rfl⟩
          obtain ⟨l, hll⟩ : ∃ l, l = L[k] := ⟨_, rfl⟩
          rw [← ht] at i0c hek
          rw [← hll] at l0 hek
          have k1 : (0 : Int) ≤ (k : Int) ∧ (k : Int) < (L.length : Int) := by omega
          have k2 : (0 : Int) ≤ (i : Int) ∧ (i : Int) < (a.nx.length : Int) := by omega
          have k3 : (k : Int) < (r.length : Int) := by omega
          obtain ⟨es, hes⟩ : ∃ es, Hid (es = fullTo a i ++ (rowEs L i r).take k) := ⟨_, hid rfl⟩
          have hesl : es.length ≤ 1000 := by
            rw [hes.out, List.length_append, List.length_take]
            have := fullTo_len a i
            omega
          rw [← hes.out] at hs
          have c2 := hs.sub.blk.cell 2
          simp only [List.getElem?_toArray, List.getElem?_cons_zero, List.getElem?_cons_succ] at c2
          have q0 := GK.BI.cell c2
          have q1 := GK.BI.cell l0
          have q2 := GK.BI.cell p1
          have q3 := GK.BI.cell r0
          have q4 := GK.BI.cell i0c
          replace hs := hid hs
          replace hcell := hid hcell
          replace hER := hid hER
          replace hEi := hid hEi
          replace h3 := hid h3
          replace har := hid har
          replace hr := hid hr
          replace ht := hid ht
          replace hll := hid hll
          go_upto_region 11 with fail
          clear c2 l0 p1 r0 i0c
          refine GK.wp_region 17 [17, 18, 19] 200 (KeepB fun _ => False) (GK.BI wr) (fun _ _ _ => True) (by kernel_rfl) (by kernel_rfl) (GK.BI.way wr) (by decide) (Below.refl _ _).drew ?_
          simp only [List.take_succ_cons, List.take_zero]
          (repeat (refine GK.grow_quiet wr (by rfl) (by rfl) ?_; intro K hK; go_big_quiet_op; go_big_quiet_on))
          refine GK.grow_new (K := fun _ => False) (by rfl) _ (fun b => .slice (some ⟨b, 0, none⟩) 1 1) 81 #[.int .i64 (i : Nat), .int .i64 (l : Nat), .int .i64 t] (fun _ => by go_simp) rfl (fun _ _ o h => GK.BI.alloc o h) (fun _ _ h => GK.BI.size h) (fun _ h => h.elim) (fun bb hbb2 => ?_)
          simp only [Act.put, List.setIfInBounds_toArray, List.set_cons_zero, List.set_cons_succ]
          refine GK.grow_nil ?_
          intro w4 hw4 hf
          obtain ⟨g', hge, hge2, hblk4⟩ := hf _ List.mem_cons_self
          cases hge
          clear hf
          simp only [List.filterMap_cons, List.filterMap_nil, List.getElem?_cons_zero, List.getElem?_cons_succ]
          replace hw4 : Below wr.heap.size wr w4 := hw4
          have hS4 := hid (hs.out.later hw4)
          have hown4 := hS4.out.sub.own
          have hbl4 := hS4.out.sub.blk.lt
          have ag : v.ownBlock ≠ some w1.heap.size := fun e => own_ne hS4.out.sub.own hS4.out.sub.blk (by decide) w1.heap.size e rfl
          have c2 := hS4.out.sub.blk.cell 2
          have f2 := hS4.out.sub.blk.frozen 2
          simp only [List.getElem?_toArray, List.getElem?_cons_zero, List.getElem?_cons_succ] at c2
          clear q0 q1 q2 q3 q4
          refine wpList_append_lies _ (by rfl) _ _ 23 (by rfl) w1.heap.size 81 i0 (.agg #[.int .i64 0, .int .i64 0, .int .i64 0]) 3 24 Tryd.underlying23 hi hz0' hz1' hz2' rfl (by decide) v es.length (edCells es) (by rfl) hown4 ⟨bb, 0, none⟩ 1 1 [.int .i64 (i : Nat), .int .i64 (l : Nat), .int .i64 t] (by rfl) (by rfl) (World.news_of_block hblk4) ?c1 (by omega) ?c3 ?c4 ?c5 w4.heap.size rfl ?_
          case c1 => simp [Value.oneCell']
          case c3 => unfold maxLen; omega
          case c4 => omega
          case c5 => have := hS4.out.sub.keep.size; omega
          intro gg cap w5 hown5 hgrow hat hlt5
          have c2' : w5.cell? ⟨w1.heap.size, 2, none⟩ = some v := by rw [hgrow.cell_far _ (by simpa using hbl4) (Ne.symm ag)]; exact c2
          have f2' : w5.frozen? ⟨w1.heap.size, 2, none⟩ = false := by rw [hgrow.frozen_far _ (by simpa using hbl4) (Ne.symm ag)]; exact f2
          have hfin := hid (hS4.out.add (x := ⟨(i : Int), (l : Int), t⟩) hown5 hgrow)
          have hz5 := hgrow.size
          clear hown4 hown5 hgrow c2 f2
          go_wp2_with fail
          go_roundw
          case rel => exact ⟨k + 1, _, by go_num, by omega, by rw [hek.out, ← List.append_assoc, ← hes.out]; exact hfin.out⟩
          case measure => simp [intOf]; omega
        · obtain rfl : k = L.length := by omega
          have hrl := hrow.out i hlt
          have hfin : Hid (fullTo a (i + 1) = fullTo a i ++ (rowEs L i a.nx[i]).take L.length) := hid (by
            rw [fullTo_succ a hlt, hL.out, List.take_of_length_le (by rw [rowEs_len]; omega)])
          replace hs := hid hs
          go_wp2_with fail
          go_roundw
          case rel => exact ⟨i + 1, v, by go_num, by omega, by rw [hfin.out]; exact hs.out⟩
          case measure => simp [intOf]; omega
    · obtain rfl : i = a.nx.length := by omega
      obtain ⟨Av, cv, hve, hv1, hv2⟩ := own_slice hs.sub.own
      subst hve
      obtain ⟨A2, c2', hve2, h1, h2, h3, h4⟩ := OwnEds.read (show OwnEds wr w1.heap.size (.slice Av (fullTo a a.nx.length).length cv) (fullTo a a.nx.length) from hs.sub.own)
      cases hve2
      have hbr := hs.sub.keep
      have hfl := fullTo_len a a.nx.length
      have c0 := hs.sub.blk.cell 0
      have c1 := hs.sub.blk.cell 1
      have c2 := hs.sub.blk.cell 2
      simp only [List.getElem?_toArray, List.getElem?_cons_zero, List.getElem?_cons_succ] at c0 c1 c2
      obtain ⟨p0, p1', p2⟩ := hpar.out _ hbr
      have hzr := hbr.size
      have hin := hid (fullSy_in hok'.out)
      have hR := hid (accSet_lt a a.nx.length)
      have htr : Hid (soS a = trimSy (fullSy a) (accS a)) := hid (soS_eq hso.out)
      have q0 := GK.BI.cell c0
      have q1 := GK.BI.cell c1
      have q2 := GK.BI.cell c2
      have q3 := GK.BI.cell p0
      have q4 := GK.BI.cell p1
      have q5 := GK.BI.cell p2
      have har := hid (ha1.out.later (show Below w1.heap.size w1 wr from hbr))
      have h3' := hid h3
      replace hs := hid hs
      clear h3
      obtain ⟨x, hx⟩ : ∃ x, Hid (x = trimSy (fullSy a) (accS a)) := ⟨_, hid rfl⟩
      go_upto_region 12 with fail
      clear c0 c1 c2 p0 p1 p2 p1'
      refine GK.wp_region 4 [4, 5] 200 (KeepB fun _ => False) (GK.BI wr) (fun i u w' => if i = 2 then u = .int .i64 ((accS a : Nat) : Int) else ∃ (A2 : Option Addr) (c2 : Nat), u = x.val A2 c2 ∧ x.es.length ≤ c2 ∧ c2 ≤ 9223372036854775807 ∧ EdsAt w' w'.heap.size A2 x.es ∧ FreshA wr.heap.size A2) (by kernel_rfl) (by kernel_rfl) (GK.BI.way wr) (by decide) (Below.refl _ _).drew ?_
      simp only [List.take_succ_cons, List.take_zero]
      (repeat (refine GK.grow_quiet wr (by rfl) (by rfl) ?_; intro K hK; go_big_quiet_op; go_big_quiet_on))
      refine GK.grow_val (.int .i64 ((accS a : Nat) : Int)) (by rfl) rfl (fun m wq hm2 hbq _ => ?_) ?_
      · go_simp
        exact ⟨rfl, by
          have hbq' : Below wr.heap.size wr wq := hbq
          exact (l6Accepting_any a A (some ⟨bA, oA, none⟩) c d wq hn3'.out hn12 (har.out.later hbq')).mono fun e w' ⟨h1, h2⟩ => ⟨h1, GK.BI.after hbq h2⟩⟩
      simp only [Act.put, List.setIfInBounds_toArray, List.set_cons_zero, List.set_cons_succ]
      (repeat (refine GK.grow_quiet wr (by rfl) (by rfl) ?_; intro K hK; go_big_quiet_op; go_big_quiet_on))
      refine GK.grow_call (by rfl) (fun u w w' hk h => by
        obtain ⟨A2, c2, h1, h2, h3, h4, h5⟩ := h
        exact ⟨A2, c2, h1, h2, h3, h4.later ⟨hk.os, hk.tape, hk.output, hk.size, fun i hi => hk.block i hi (fun hh => hh)⟩, h5⟩) (fun m wq hm2 hbq hf => ?_) ?_
      · go_simp
        have hbq' : Below wr.heap.size wr wq := hbq
        exact ⟨rfl, (l2Keep_any (fullSy a) Av cv (accS a) wq hin.out (by show ((a.nx.length : Nat) : Int) ≤ 16; omega) (by show (0 : Int) ≤ ((a.nx.length : Nat) : Int); omega) (by show accS a < 2 ^ ((a.nx.length : Nat) : Int).toNat; rw [Int.toNat_natCast]; exact hR.out) (by show (fullTo a a.nx.length).length ≤ 1000000; omega) h1 h2 (h3'.out.later hbq')).mono fun e w' ⟨A2, c2, h1, h2, h3, h4, h5, h6⟩ => ⟨_, h1, GK.BI.after hbq h6, A2, c2, by rw [hx.out], by rw [hx.out]; exact h2, h3, by rw [hx.out]; exact h4, fun b o hA => by have := h5 b o hA; have := hbq'.size; omega⟩⟩
      rintro u ⟨_, _, _, A2, c2, rfl, a1, a2, -, -⟩
      unfold Sy.val
      simp only [Act.put, List.setIfInBounds_toArray, List.set_cons_zero, List.set_cons_succ]
      refine GK.grow_nil ?_
      intro w3' hw3 hf
      simp only [List.filterMap_cons, List.filterMap_nil, List.getElem?_cons_zero, List.getElem?_cons_succ]
      obtain ⟨A3, c3, hve, -, -, h4', h5⟩ := hf _ List.mem_cons_self
      injection hve with hve
      simp at hve
      obtain ⟨rfl, rfl⟩ := hve
      replace hw3 : Below wr.heap.size wr w3' := hw3
      clear hf q0 q1 q2 q3 q4 q5
      have hb13 := hbr.trans (hw3.mono hzr)
      have hrb3 := hrb.out.below hb13 hlt1
      have d0 := hrb3.cell 0
      have d1 := hrb3.cell 1
      have d2 := hrb3.cell 2
      have f0 := hrb3.frozen 0
      have f1 := hrb3.frozen 1
      have f2 := hrb3.frozen 2
      simp only [List.getElem?_toArray, List.getElem?_cons_zero, List.getElem?_cons_succ] at d0 d1 d2
      have hlt3 := hrb3.lt
      have hzw1 := hB1.size
      have hfin : Hid (SoPost w (soS a) (soOk a) (.returned (.tuple #[.agg #[.int .i64 x.al, .int .i64 x.st, .slice A2 x.es.length c2], .bool true])) (((w3'.setCell ⟨w.heap.size + 1, 0, none⟩ (.int .i64 x.al)).setCell ⟨w.heap.size + 1, 1, none⟩ (.int .i64 x.st)).setCell ⟨w.heap.size + 1, 2, none⟩ (.slice A2 x.es.length c2))) := hid (by
        have hne : ∀ b o, A2 = some ⟨b, o, none⟩ → 0 < x.es.length → b ≠ w.heap.size + 1 := fun b o hA _ => by have := h5 b o hA; omega
        rw [htr.out, hso.out, ← hx.out]
        refine ⟨A2, c2, rfl, a1, a2, ?_, fun b o hA => by have := h5 b o hA; omega, ?_⟩
        · simpa [World.setCell] using ((h4'.stored _ hne).stored _ hne).stored _ hne
        · exact (((hB1.trans (hb13.mono hB1.size)).setCell (by simp) _).setCell (by simp) _).setCell (by simp) _)
      clear h4' h5 hrb3
      go_wp2
      refine bodyPost_ret (v := .tuple #[.agg #[.int .i64 x.al, .int .i64 x.st, .slice A2 x.es.length c2], .bool true]) (by simp [results, Tryd.results23, go_sem, d0, d1, d2]) rfl ?_
      exact hfin.out

end Go.Proofs.YtolnlkccbndkcaaDoor
