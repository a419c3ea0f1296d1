/- Plain: both searches for a trace outside have one answer. -/
import Derived.Test.YtnchoiljcdicdaaDoorMathG
import Derived.Test.YtnchoiljcdicdaaDoorMathI
namespace AG

/-- The set of states to which a word leads (its last letter first). -/
noncomputable def setW (s : Sy) : List Nat → Nat
  | [] => 1
  | l :: r => stepSet s (setW s r) (l : Int)

theorem mv_small {s : Sy} (hs : edgesIn s) (q l : Nat) : mv s q l < 2 ^ s.st.toNat := by
  refine Nat.lt_pow_two_of_testBit _ fun i hi => ?_
  rw [← Bool.not_eq_true, mv_testBit]
  rintro ⟨_, e, he, _, _, rfl⟩
  have := hs e he
  omega
theorem unionOf_testBit (m : Nat → Nat → Nat) (S l t : Nat) : (unionOf m S l).testBit t = true ↔ t < 16 ∧ ∃ q, S.testBit q = true ∧ (m q l).testBit t = true := by
  unfold unionOf
  exact bitsOf_testBit _ _ _
theorem unionOf_small {s : Sy} (hs : edgesIn s) (S l : Nat) : unionOf (mv s) S l < 2 ^ s.st.toNat := by
  refine Nat.lt_pow_two_of_testBit _ fun i hi => ?_
  rw [← Bool.not_eq_true, unionOf_testBit]
  rintro ⟨_, q, _, h⟩
  have := testBit_lt (mv_small hs q l) h
  omega
theorem setW_small {s : Sy} (hs : edgesIn s) (h1 : 1 ≤ s.st) : ∀ r, setW s r < 2 ^ s.st.toNat
  | [] => by
    have : 2 ^ 1 ≤ 2 ^ s.st.toNat := Nat.pow_le_pow_right (by omega) (by omega)
    show 1 < _
    omega
  | l :: r => by
    show stepSet s (setW s r) (l : Int) < _
    rw [← unionOf_mv s hs]
    exact unionOf_small hs _ _
theorem setW_lt (s : Sy) : ∀ r, setW s r < 65536
  | [] => by show 1 < _; omega
  | l :: r => stepSet_lt _ _ _
theorem stepSet_zero (s : Sy) (l : Int) : stepSet s 0 l = 0 := by
  refine Nat.eq_of_testBit_eq fun t => ?_
  rw [Nat.zero_testBit, ← Bool.not_eq_true]
  unfold stepSet
  rw [bitsOf_testBit]
  rintro ⟨_, e, _, _, h, _⟩
  simp at h

/-- A word that is a trace of s and none of t. -/
def Outside (s t : Sy) (r : List Nat) : Prop := (∀ l ∈ r, l ∈ letters s.al) ∧ setW s r ≠ 0 ∧ setW t r = 0
def IsOut (s t : Sy) (o : Option (List Nat)) : Prop :=
  if cmpOk s t = true then
    match o with
    | some r => Outside s t r ∧ ∀ q, Outside s t q → rle r q
    | none => ∀ q, ¬ Outside s t q
  else o = none
theorem IsOut.unique {s t : Sy} {o o' : Option (List Nat)} (h : IsOut s t o) (h' : IsOut s t o') : o = o' := by
  unfold IsOut at h h'
  split at h
  · rename_i hc
    rw [if_pos hc] at h'
    cases o with
    | some r =>
      cases o' with
      | some r' => rw [rle_antisymm (h.2 _ h'.1) (h'.2 _ h.1)]
      | none => exact absurd h.1 (h' r)
    | none =>
      cases o' with
      | some r' => exact absurd h'.1 (h r')
      | none => rfl
  · rename_i hc
    rw [if_neg hc] at h'
    rw [h, h']

theorem out_of_first {s t : Sy} {I : Nat → Prop} {L : List Nat} {nx : Nat → Nat → List Nat} {G : Nat → Prop} (hH : ∀ r, (∃ n, RW I L nx r n ∧ G n) ↔ Outside s t r) (hc : cmpOk s t = true) {o : Option (List Nat)}
    (h : match o with | some r => FirstW I L nx G r | none => ∀ q n, RW I L nx q n → ¬ G n) : IsOut s t o := by
  unfold IsOut
  rw [if_pos hc]
  cases o with
  | some r =>
    obtain ⟨h1, h2⟩ := h
    refine ⟨(hH r).1 h1, fun q hq => ?_⟩
    obtain ⟨n, hn, hg⟩ := (hH q).2 hq
    exact h2 q n hn hg
  | none =>
    intro q hq
    obtain ⟨n, hn, hg⟩ := (hH q).2 hq
    exact h q n hn hg

/-- The reference's nodes. -/
theorem spec_nodes {s t : Sy} : ∀ r n, RW pI (letters s.al) (pN s t) r n ↔ (∀ l ∈ r, l ∈ letters s.al) ∧ setW s r ≠ 0 ∧ n = code (setW s r, setW t r) := by
  intro r
  induction r with
  | nil =>
    intro n
    show pI n ↔ _
    unfold pI
    constructor
    · intro h; exact ⟨(fun l hl => by cases hl), (by show (1 : Nat) ≠ 0; decide), h⟩
    · rintro ⟨_, _, h⟩; exact h
  | cons l r ih =>
    intro n
    show (l ∈ letters s.al ∧ ∃ m, RW pI (letters s.al) (pN s t) r m ∧ n ∈ pN s t m l) ↔ _
    constructor
    · rintro ⟨hl, m, hm, hn⟩
      obtain ⟨h1, h2, rfl⟩ := (ih m).1 hm
      unfold pN at hn
      rw [code_parts (setW_lt t r)] at hn
      split at hn
      · cases hn
      · rename_i h0
        rw [List.mem_singleton] at hn
        exact ⟨fun x hx => by rcases List.mem_cons.1 hx with rfl | hx; exact hl; exact h1 x hx, h0, hn⟩
    · rintro ⟨h1, h2, rfl⟩
      have h3 : setW s r ≠ 0 := fun e => h2 (by show stepSet s (setW s r) _ = 0; rw [e, stepSet_zero])
      refine ⟨h1 l List.mem_cons_self, _, (ih _).2 ⟨fun x hx => h1 x (List.mem_cons_of_mem _ hx), h3, rfl⟩, ?_⟩
      unfold pN
      rw [code_parts (setW_lt t r), if_neg (show ¬ (stepP s t (setW s r, setW t r) l).1 = 0 from h2)]
      exact List.mem_singleton.2 rfl
theorem spec_hits {s t : Sy} (r : List Nat) : (∃ n, RW pI (letters s.al) (pN s t) r n ∧ pG n) ↔ Outside s t r := by
  constructor
  · rintro ⟨n, hn, hg⟩
    obtain ⟨h1, h2, rfl⟩ := (spec_nodes r n).1 hn
    refine ⟨h1, h2, ?_⟩
    have := setW_lt t r
    unfold pG code at hg
    omega
  · rintro ⟨h1, h2, h3⟩
    exact ⟨_, (spec_nodes r _).2 ⟨h1, h2, rfl⟩, by unfold pG code; rw [h3]; omega⟩

/-- The program's nodes: a state of s and the set of t. -/
noncomputable def outNx (s t : Sy) (z : Nat) (node l : Nat) : List Nat := (memL (mv s (node / z) l)).map fun q => q * z + unionOf (mv t) (node % z) l
theorem impl_nodes {s t : Sy} (hs : edgesIn s) (ht : edgesIn t) (h1 : 1 ≤ t.st) : ∀ r n, RW (fun n => n ∈ [1]) (letters s.al) (outNx s t (2 ^ t.st.toNat)) r n ↔
    (∀ l ∈ r, l ∈ letters s.al) ∧ ∃ q, (setW s r).testBit q = true ∧ n = q * 2 ^ t.st.toNat + setW t r := by
  intro r
  have hz : 0 < 2 ^ t.st.toNat := Nat.two_pow_pos _
  induction r with
  | nil =>
    intro n
    show n ∈ [1] ↔ _
    rw [List.mem_singleton]
    constructor
    · rintro rfl
      exact ⟨(fun l hl => by cases hl), 0, (by show (1 : Nat).testBit 0 = true; decide), (by show 1 = 0 * _ + 1; omega)⟩
    · rintro ⟨_, q, hq, rfl⟩
      have hq0 : q = 0 := by
        have : (1 : Nat).testBit q = true := hq
        have := testBit_lt (n := 1) (S := 1) (by decide) this
        omega
      subst hq0
      show 0 * _ + 1 = 1
      omega
  | cons l r ih =>
    intro n
    show (l ∈ letters s.al ∧ ∃ m, RW (fun n => n ∈ [1]) (letters s.al) (outNx s t (2 ^ t.st.toNat)) r m ∧ n ∈ outNx s t (2 ^ t.st.toNat) m l) ↔ _
    have hd : ∀ q, (q * 2 ^ t.st.toNat + setW t r) / 2 ^ t.st.toNat = q ∧ (q * 2 ^ t.st.toNat + setW t r) % 2 ^ t.st.toNat = setW t r := fun q => by
      have hlt := setW_small ht h1 r
      constructor
      · rw [Nat.mul_comm, Nat.mul_add_div hz, Nat.div_eq_of_lt hlt]; omega
      · rw [Nat.mul_comm, Nat.mul_add_mod, Nat.mod_eq_of_lt hlt]
    have hS : setW t (l :: r) = unionOf (mv t) (setW t r) l := (unionOf_mv t ht _ _).symm
    have hsS : setW s (l :: r) = unionOf (mv s) (setW s r) l := (unionOf_mv s hs _ _).symm
    constructor
    · rintro ⟨hl, m, hm, hn⟩
      obtain ⟨h2, q, hq, rfl⟩ := (ih m).1 hm
      unfold outNx at hn
      rw [(hd q).1, (hd q).2] at hn
      obtain ⟨q', hq', rfl⟩ := List.mem_map.1 hn
      obtain ⟨h16, hb⟩ := memL_mem.1 hq'
      refine ⟨fun x hx => by rcases List.mem_cons.1 hx with rfl | hx; exact hl; exact h2 x hx, q', ?_, by rw [hS]⟩
      rw [hsS, unionOf_testBit]
      exact ⟨h16, q, hq, hb⟩
    · rintro ⟨h2, q', hq', rfl⟩
      rw [hsS, unionOf_testBit] at hq'
      obtain ⟨h16, q, hq, hb⟩ := hq'
      refine ⟨h2 l List.mem_cons_self, _, (ih _).2 ⟨fun x hx => h2 x (List.mem_cons_of_mem _ hx), q, hq, rfl⟩, ?_⟩
      unfold outNx
      rw [(hd q).1, (hd q).2, hS]
      exact List.mem_map.2 ⟨q', memL_mem.2 ⟨h16, hb⟩, rfl⟩
theorem impl_hits {s t : Sy} (hs : edgesIn s) (ht : edgesIn t) (h1 : 1 ≤ t.st) (r : List Nat) : (∃ n, RW (fun n => n ∈ [1]) (letters s.al) (outNx s t (2 ^ t.st.toNat)) r n ∧ decide (n % 2 ^ t.st.toNat = 0) = true) ↔ Outside s t r := by
  have hlt := setW_small ht h1 r
  constructor
  · rintro ⟨n, hn, hg⟩
    obtain ⟨h2, q, hq, rfl⟩ := (impl_nodes hs ht h1 r n).1 hn
    refine ⟨h2, fun e => ?_, ?_⟩
    · rw [e, Nat.zero_testBit] at hq; cases hq
    · rw [decide_eq_true_eq, Nat.mul_comm, Nat.mul_add_mod, Nat.mod_eq_of_lt hlt] at hg
      exact hg
  · rintro ⟨h2, h3, h4⟩
    obtain ⟨q, hq⟩ := Nat.exists_testBit_of_ne_zero h3
    refine ⟨_, (impl_nodes hs ht h1 r _).2 ⟨h2, q, hq, rfl⟩, ?_⟩
    rw [h4]
    simp
end AG
