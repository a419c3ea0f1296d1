/- Words as bytes: their letters, their alphabets, what is left of them, the states behind them. -/
import Derived.Test.YtbomhfbiaedbiaaDoorMathB
namespace AG

/-- The number of the letter at a place of a word. -/
def lz (w : ByteArray) (i : Nat) : Int := ((w.data.getD i 0).toNat : Int) - 97
def lOk (x : Int) : Bool := decide (0 ≤ x ∧ x < 6)
def wordOk (w : ByteArray) : Bool := decide (w.size ≤ 50000 ∧ ∀ i, i < w.size → lOk (lz w i) = true)
def setTo (w : ByteArray) : Nat → Int
  | 0 => 0
  | k + 1 => orB (setTo w k) ((2 ^ (lz w k).toNat : Nat) : Int)
def ltr (w : ByteArray) (i : Nat) : Int := if lOk (lz w i) = true then lz w i else -1
def within (w : ByteArray) (al : Int) : Bool := decide (alphaOk al = true ∧ w.size ≤ 50000 ∧ ∀ i, i < w.size → HasZ al (ltr w i) = true)
def keptTo (w : ByteArray) (al : Int) : Nat → List UInt8
  | 0 => []
  | k + 1 => if HasZ al (ltr w k) = true then keptTo w al k ++ [w.data.getD k 0] else keptTo w al k
def restr (w : ByteArray) (al : Int) : ByteArray := ⟨(keptTo w al w.size).toArray⟩
noncomputable def runTo (s : Sy) (w : ByteArray) : Nat → Nat
  | 0 => 1
  | k + 1 => stepSet s (runTo s w k) (lz w k)
noncomputable def aft (s : Sy) (w : ByteArray) : Nat := if (sysOk s && within w s.al) = true then runTo s w w.size else 0
noncomputable def hasTr (s : Sy) (w : ByteArray) : Bool := decide (aft s w ≠ 0)
noncomputable def trParts (ss : List Sy) (w : ByteArray) : Bool := decide (partsOk ss = true ∧ within w (allAl ss) = true ∧ ∀ i (h : i < ss.length), hasTr ss[i] (restr w ss[i].al) = true)

theorem lz_range (w : ByteArray) (i : Nat) : -97 ≤ lz w i ∧ lz w i ≤ 158 := by
  unfold lz
  have := (w.data.getD i 0).toNat_lt
  omega

theorem keptTo_len (w : ByteArray) (al : Int) : ∀ k, (keptTo w al k).length ≤ k
  | 0 => by simp [keptTo]
  | k + 1 => by
    have := keptTo_len w al k
    unfold keptTo
    split
    · rw [List.length_append]; simp; omega
    · omega

theorem stepSet_zero (s : Sy) (l : Int) : stepSet s 0 l = 0 := by
  apply Nat.eq_of_testBit_eq
  intro j
  cases h : (stepSet s 0 l).testBit j with
  | false => simp
  | true =>
    unfold stepSet at h
    obtain ⟨_, e, _, _, h0, _⟩ := (bitsOf_testBit _ _ _).1 h
    simp at h0

theorem runTo_zero {s : Sy} {w : ByteArray} {k : Nat} (h : runTo s w k = 0) : ∀ n, runTo s w (k + n) = 0
  | 0 => h
  | n + 1 => by
    have := runTo_zero h n
    show stepSet s (runTo s w (k + n)) (lz w (k + n)) = 0
    rw [this, stepSet_zero]
theorem runTo_done {s : Sy} {w : ByteArray} {k : Nat} (h : runTo s w k = 0) (hk : k ≤ w.size) : runTo s w w.size = 0 := by
  have := runTo_zero h (w.size - k)
  rwa [Nat.add_sub_cancel' hk] at this
theorem runTo_lt (s : Sy) (w : ByteArray) : ∀ k, runTo s w k < 65536
  | 0 => by unfold runTo; omega
  | k + 1 => by unfold runTo stepSet; exact bitsOf_lt _ 16

theorem wordOk_at {w : ByteArray} (h : wordOk w = true) {i : Nat} (hi : i < w.size) : 0 ≤ lz w i ∧ lz w i < 6 := by
  unfold wordOk at h
  have := (of_decide_eq_true h).2 i hi
  unfold lOk at this
  exact of_decide_eq_true this
theorem ltr_ok {w : ByteArray} {i : Nat} (h : 0 ≤ lz w i ∧ lz w i < 6) : ltr w i = lz w i := by
  unfold ltr lOk
  rw [if_pos (decide_eq_true h)]
theorem ltr_bad {w : ByteArray} {i : Nat} (h : ¬ (0 ≤ lz w i ∧ lz w i < 6)) : ltr w i = -1 := by
  unfold ltr lOk
  rw [if_neg (by simpa using h)]
theorem hasZ_neg (al : Int) : HasZ al (-1) = false := by unfold HasZ; simp

theorem pow6_range {x : Int} (h : 0 ≤ x ∧ x < 6) : 0 ≤ ((2 ^ x.toNat : Nat) : Int) ∧ ((2 ^ x.toNat : Nat) : Int) ≤ 63 := by
  obtain ⟨n, rfl⟩ := Int.eq_ofNat_of_zero_le h.1
  have : n < 6 := by omega
  rw [Int.toNat_natCast]
  have h1 : 2 ^ n ≤ 63 := Nat.le_trans (Nat.pow_le_pow_right (n := 2) (by omega) (show n ≤ 5 by omega)) (by decide)
  exact ⟨Int.natCast_nonneg _, Int.ofNat_le.2 h1⟩

theorem setTo_range {w : ByteArray} (h : wordOk w = true) : ∀ k, k ≤ w.size → 0 ≤ setTo w k ∧ setTo w k ≤ 63
  | 0, _ => by unfold setTo; omega
  | k + 1, hk => by
    unfold setTo
    exact orB_range (setTo_range h k (by omega)) (pow6_range (wordOk_at h (by omega)))

theorem setTo_testBit (w : ByteArray) (j : Nat) : ∀ k, (setTo w k).toNat.testBit j = true ↔ ∃ i, i < k ∧ (lz w i).toNat = j
  | 0 => by simp [setTo]
  | k + 1 => by
    unfold setTo orB
    rw [Int.toNat_natCast, Int.toNat_natCast, testBit_or_pow, setTo_testBit w j k]
    constructor
    · rintro (⟨i, hi, e⟩ | e)
      · exact ⟨i, by omega, e⟩
      · exact ⟨k, by omega, e⟩
    · rintro ⟨i, hi, e⟩
      by_cases hk : i = k
      · subst hk; exact .inr e
      · exact .inl ⟨i, by omega, e⟩

theorem within_spec {w : ByteArray} {al : Int} (h : wordOk w = true) (ha : 0 ≤ al ∧ al ≤ 63) : within w al = (andB (setTo w w.size) al == setTo w w.size) := by
  have hr := setTo_range h w.size (Nat.le_refl _)
  have hsz : w.size ≤ 50000 := by unfold wordOk at h; exact (of_decide_eq_true h).1
  have haok : alphaOk al = true := by unfold alphaOk; exact decide_eq_true ha
  obtain ⟨a, rfl⟩ := Int.eq_ofNat_of_zero_le ha.1
  rw [Bool.eq_iff_iff, beq_iff_eq]
  unfold within
  rw [decide_eq_true_iff]
  constructor
  · rintro ⟨-, -, hall⟩
    unfold andB
    rw [Int.toNat_natCast]
    have : (setTo w w.size).toNat &&& a = (setTo w w.size).toNat := by
      apply Nat.eq_of_testBit_eq
      intro j
      rw [Nat.testBit_and]
      cases hj : (setTo w w.size).toNat.testBit j with
      | false => rfl
      | true =>
        obtain ⟨i, hi, e⟩ := (setTo_testBit w j _).1 hj
        have hw := wordOk_at h hi
        have := hall i hi
        rw [ltr_ok hw] at this
        unfold HasZ at this
        rw [Bool.and_eq_true, e, Has_nat] at this
        rw [this.2]
        rfl
    rw [this]
    omega
  · intro he
    refine ⟨haok, hsz, fun i hi => ?_⟩
    have hw := wordOk_at h hi
    rw [ltr_ok hw]
    unfold HasZ
    rw [Bool.and_eq_true]
    refine ⟨decide_eq_true hw.1, ?_⟩
    have hb : (setTo w w.size).toNat.testBit (lz w i).toNat = true := (setTo_testBit w _ _).2 ⟨i, hi, rfl⟩
    unfold andB at he
    rw [Int.toNat_natCast] at he
    have he' : (setTo w w.size).toNat &&& a = (setTo w w.size).toNat := by omega
    rw [← he', Nat.testBit_and, Bool.and_eq_true] at hb
    have h2 := hb.2
    rw [← Has_nat] at h2
    exact h2

theorem within_bad {w : ByteArray} (al : Int) (h : wordOk w = false) : within w al = false := by
  unfold within
  apply decide_eq_false
  rintro ⟨-, hs, hall⟩
  have : wordOk w = true := by
    unfold wordOk
    refine decide_eq_true ⟨hs, fun i hi => ?_⟩
    have := hall i hi
    unfold ltr at this
    cases hl : lOk (lz w i) with
    | true => rfl
    | false =>
      rw [hl, if_neg (by simp), hasZ_neg] at this
      cases this
  rw [this] at h
  cases h
theorem within_word {w : ByteArray} {al : Int} (h : within w al = true) : wordOk w = true := by
  cases hw : wordOk w with
  | true => rfl
  | false => rw [within_bad al hw] at h; cases h
theorem within_alpha {w : ByteArray} {al : Int} (h : within w al = true) : 0 ≤ al ∧ al ≤ 63 := by
  unfold within at h
  have := (of_decide_eq_true h).1
  unfold alphaOk at this
  exact of_decide_eq_true this
theorem within_size {w : ByteArray} {al : Int} (h : within w al = true) : w.size ≤ 50000 := by
  unfold within at h
  exact (of_decide_eq_true h).2.1
end AG
