/- Lemmas, part 3: several texts in one. -/
import Derived.Test.YtolnlkccbndkcaaDoorK1
import Derived.StillTail
import Derived.Deep.Quiet
import Derived.KernelRfl
import Derived.WalkKit
import Derived.WalkSpells
import Derived.WalkLawsBesides
import Derived.BigQuiet
import Derived.Deep.QuietTactic
import Derived.Test.YtolnlkccbndkcaaDoorProg
set_option linter.unusedSimpArgs false
set_option linter.unusedVariables false

/- Words as bytes: their letters, their alphabets, what is left of them, the states behind them. -/
namespace AG

/-- The number of the letter at a place of a word. -/
def lz (w : ByteArray) (i : Nat) : Int := ((w.data.getD i 0).toNat : Int) - 97
def lOk (x : Int) : Bool := decide (0 ≤ x ∧ x < 6)
def wordOk (w : ByteArray) : Bool := decide (w.size ≤ 50000 ∧ ∀ i, i < w.size → lOk (lz w i) = true)
def setTo (w : ByteArray) : Nat → Int
  | 0 => 0
  | k + 1 => orB (setTo w k) ((2 ^ (lz w k).toNat : Nat) : Int)
def ltr (w : ByteArray) (i : Nat) : Int := if lOk (lz w i) = true then lz w i else -1
def within (w : ByteArray) (al : Int) : Bool := decide (alphaOk al = true ∧ w.size ≤ 50000 ∧ ∀ i, i < w.size → HasZ al (ltr w i) = true)
def keptTo (w : ByteArray) (al : Int) : Nat → List UInt8
  | 0 => []
  | k + 1 => if HasZ al (ltr w k) = true then keptTo w al k ++ [w.data.getD k 0] else keptTo w al k
def restr (w : ByteArray) (al : Int) : ByteArray := ⟨(keptTo w al w.size).toArray⟩
noncomputable def runTo (s : Sy) (w : ByteArray) : Nat → Nat
  | 0 => 1
  | k + 1 => stepSet s (runTo s w k) (lz w k)
noncomputable def aft (s : Sy) (w : ByteArray) : Nat := if (sysOk s && within w s.al) = true then runTo s w w.size else 0
noncomputable def hasTr (s : Sy) (w : ByteArray) : Bool := decide (aft s w ≠ 0)
noncomputable def trParts (ss : List Sy) (w : ByteArray) : Bool := decide (partsOk ss = true ∧ within w (allAl ss) = true ∧ ∀ i (h : i < ss.length), hasTr ss[i] (restr w ss[i].al) = true)

theorem lz_range (w : ByteArray) (i : Nat) : -97 ≤ lz w i ∧ lz w i ≤ 158 := by
  unfold lz
  have := (w.data.getD i 0).toNat_lt
  omega

theorem keptTo_len (w : ByteArray) (al : Int) : ∀ k, (keptTo w al k).length ≤ k
  | 0 => by simp [keptTo]
  | k + 1 => by
    have := keptTo_len w al k
    unfold keptTo
    split
    · rw [List.length_append]; simp; omega
    · omega

theorem stepSet_of0 (s : Sy) (l : Int) : stepSet s 0 l = 0 := by
  apply Nat.eq_of_testBit_eq
  intro j
  cases h : (stepSet s 0 l).testBit j with
  | false => simp
  | true =>
    unfold stepSet at h
    obtain ⟨_, e, _, _, h0, _⟩ := (bitsOf_testBit _ _ _).1 h
    simp at h0

theorem runTo_zero {s : Sy} {w : ByteArray} {k : Nat} (h : runTo s w k = 0) : ∀ n, runTo s w (k + n) = 0
  | 0 => h
  | n + 1 => by
    have := runTo_zero h n
    show stepSet s (runTo s w (k + n)) (lz w (k + n)) = 0
    rw [this, stepSet_of0]
theorem runTo_done {s : Sy} {w : ByteArray} {k : Nat} (h : runTo s w k = 0) (hk : k ≤ w.size) : runTo s w w.size = 0 := by
  have := runTo_zero h (w.size - k)
  rwa [Nat.add_sub_cancel' hk] at this
theorem runTo_lt (s : Sy) (w : ByteArray) : ∀ k, runTo s w k < 65536
  | 0 => by unfold runTo; omega
  | k + 1 => by unfold runTo stepSet; exact bitsOf_lt _ 16

theorem wordOk_at {w : ByteArray} (h : wordOk w = true) {i : Nat} (hi : i < w.size) : 0 ≤ lz w i ∧ lz w i < 6 := by
  unfold wordOk at h
  have := (of_decide_eq_true h).2 i hi
  unfold lOk at this
  exact of_decide_eq_true this
theorem ltr_ok {w : ByteArray} {i : Nat} (h : 0 ≤ lz w i ∧ lz w i < 6) : ltr w i = lz w i := by
  unfold ltr lOk
  rw [if_pos (decide_eq_true h)]
theorem ltr_bad {w : ByteArray} {i : Nat} (h : ¬ (0 ≤ lz w i ∧ lz w i < 6)) : ltr w i = -1 := by
  unfold ltr lOk
  rw [if_neg (by simpa using h)]
theorem hasZ_neg (al : Int) : HasZ al (-1) = false := by unfold HasZ; simp

theorem pow6_range {x : Int} (h : 0 ≤ x ∧ x < 6) : 0 ≤ ((2 ^ x.toNat : Nat) : Int) ∧ ((2 ^ x.toNat : Nat) : Int) ≤ 63 := by
  obtain ⟨n, rfl⟩ := Int.eq_ofNat_of_zero_le h.1
  have : n < 6 := by omega
  rw [Int.toNat_natCast]
  have h1 : 2 ^ n ≤ 63 := Nat.le_trans (Nat.pow_le_pow_right (n := 2) (by omega) (show n ≤ 5 by omega)) (by decide)
  exact ⟨Int.natCast_nonneg _, Int.ofNat_le.2 h1⟩

theorem setTo_range {w : ByteArray} (h : wordOk w = true) : ∀ k, k ≤ w.size → 0 ≤ setTo w k ∧ setTo w k ≤ 63
  | 0, _ => by unfold setTo; omega
  | k + 1, hk => by
    unfold setTo
    exact orB_range (setTo_range h k (by omega)) (pow6_range (wordOk_at h (by omega)))

theorem setTo_testBit (w : ByteArray) (j : Nat) : ∀ k, (setTo w k).toNat.testBit j = true ↔ ∃ i, i < k ∧ (lz w i).toNat = j
  | 0 => by simp [setTo]
  | k + 1 => by
    unfold setTo orB
    rw [Int.toNat_natCast, Int.toNat_natCast, testBit_or_pow, setTo_testBit w j k]
    constructor
    · rintro (⟨i, hi, e⟩ | e)
      · exact ⟨i, by omega, e⟩
      · exact ⟨k, by omega, e⟩
    · rintro ⟨i, hi, e⟩
      by_cases hk : i = k
      · subst hk; exact .inr e
      · exact .inl ⟨i, by omega, e⟩

theorem within_spec {w : ByteArray} {al : Int} (h : wordOk w = true) (ha : 0 ≤ al ∧ al ≤ 63) : within w al = (andB (setTo w w.size) al == setTo w w.size) := by
  have hr := setTo_range h w.size (Nat.le_refl _)
  have hsz : w.size ≤ 50000 := by unfold wordOk at h; exact (of_decide_eq_true h).1
  have haok : alphaOk al = true := by unfold alphaOk; exact decide_eq_true ha
  obtain ⟨a, rfl⟩ := Int.eq_ofNat_of_zero_le ha.1
  rw [Bool.eq_iff_iff, beq_iff_eq]
  unfold within
  rw [decide_eq_true_iff]
  constructor
  · rintro ⟨-, -, hall⟩
    unfold andB
    rw [Int.toNat_natCast]
    have : (setTo w w.size).toNat &&& a = (setTo w w.size).toNat := by
      apply Nat.eq_of_testBit_eq
      intro j
      rw [Nat.testBit_and]
      cases hj : (setTo w w.size).toNat.testBit j with
      | false => rfl
      | true =>
        obtain ⟨i, hi, e⟩ := (setTo_testBit w j _).1 hj
        have hw := wordOk_at h hi
        have := hall i hi
        rw [ltr_ok hw] at this
        unfold HasZ at this
        rw [Bool.and_eq_true, e, Has_nat] at this
        rw [this.2]
        rfl
    rw [this]
    omega
  · intro he
    refine ⟨haok, hsz, fun i hi => ?_⟩
    have hw := wordOk_at h hi
    rw [ltr_ok hw]
    unfold HasZ
    rw [Bool.and_eq_true]
    refine ⟨decide_eq_true hw.1, ?_⟩
    have hb : (setTo w w.size).toNat.testBit (lz w i).toNat = true := (setTo_testBit w _ _).2 ⟨i, hi, rfl⟩
    unfold andB at he
    rw [Int.toNat_natCast] at he
    have he' : (setTo w w.size).toNat &&& a = (setTo w w.size).toNat := by omega
    rw [← he', Nat.testBit_and, Bool.and_eq_true] at hb
    have h2 := hb.2
    rw [← Has_nat] at h2
    exact h2

theorem within_bad {w : ByteArray} (al : Int) (h : wordOk w = false) : within w al = false := by
  unfold within
  apply decide_eq_false
  rintro ⟨-, hs, hall⟩
  have : wordOk w = true := by
    unfold wordOk
    refine decide_eq_true ⟨hs, fun i hi => ?_⟩
    have := hall i hi
    unfold ltr at this
    cases hl : lOk (lz w i) with
    | true => rfl
    | false =>
      rw [hl, if_neg (by simp), hasZ_neg] at this
      cases this
  rw [this] at h
  cases h
theorem within_word {w : ByteArray} {al : Int} (h : within w al = true) : wordOk w = true := by
  cases hw : wordOk w with
  | true => rfl
  | false => rw [within_bad al hw] at h; cases h
theorem within_alpha {w : ByteArray} {al : Int} (h : within w al = true) : 0 ≤ al ∧ al ≤ 63 := by
  unfold within at h
  have := (of_decide_eq_true h).1
  unfold alphaOk at this
  exact of_decide_eq_true this
theorem within_size {w : ByteArray} {al : Int} (h : within w al = true) : w.size ≤ 50000 := by
  unfold within at h
  exact (of_decide_eq_true h).2.1
end AG

/- Plain: letters of alphabets of lists of systems. -/
namespace AG

theorem Has_or {a b : Int} (ha : 0 ≤ a) (hb : 0 ≤ b) (c : Nat) : Has (orB a b) c = (Has a c || Has b c) := by
  obtain ⟨a, rfl⟩ := Int.eq_ofNat_of_zero_le ha
  obtain ⟨b, rfl⟩ := Int.eq_ofNat_of_zero_le hb
  unfold orB
  rw [Int.toNat_natCast, Int.toNat_natCast, Has_nat, Has_nat, Has_nat, Nat.testBit_or]
theorem Has_and {a b : Int} (ha : 0 ≤ a) (hb : 0 ≤ b) (c : Nat) : Has (andB a b) c = (Has a c && Has b c) := by
  obtain ⟨a, rfl⟩ := Int.eq_ofNat_of_zero_le ha
  obtain ⟨b, rfl⟩ := Int.eq_ofNat_of_zero_le hb
  unfold andB
  rw [Int.toNat_natCast, Int.toNat_natCast, Has_nat, Has_nat, Has_nat, Nat.testBit_and]
theorem Has_zero (c : Nat) : Has 0 c = false := by
  have := Has_nat 0 c
  rw [Nat.zero_testBit] at this
  exact this

/-- How many of the systems have the letter c. -/
def cntAl (ss : List Sy) (c : Nat) : Nat := ss.countP fun s => Has s.al c
theorem cntAl_snoc (ss : List Sy) (s : Sy) (c : Nat) : cntAl (ss ++ [s]) c = cntAl ss c + if Has s.al c = true then 1 else 0 := by
  unfold cntAl
  rw [List.countP_append]
  simp [List.countP_cons]

theorem Has_all : ∀ (ss : List Sy) (c : Nat), ss.all sysOk = true → Has (allAl ss) c = decide (0 < cntAl ss c) ∧ Has (sharedAl ss) c = decide (1 < cntAl ss c) := by
  intro ss c
  induction hn : ss.length generalizing ss with
  | zero =>
    intro _
    obtain rfl : ss = [] := List.eq_nil_of_length_eq_zero hn
    exact ⟨Has_zero c, Has_zero c⟩
  | succ n ih =>
    intro hall
    have hne : ss ≠ [] := fun e => by rw [e] at hn; cases hn
    obtain ⟨ts, s, rfl⟩ : ∃ ts s, ss = ts ++ [s] := ⟨ss.dropLast, ss.getLast hne, (List.dropLast_concat_getLast hne).symm⟩
    have hts : ts.all sysOk = true := by rw [List.all_append, Bool.and_eq_true] at hall; exact hall.1
    have hs : sysOk s = true := by rw [List.all_append, Bool.and_eq_true] at hall; simpa using hall.2
    obtain ⟨h1, h2⟩ := ih ts (by simpa using hn) hts
    have r1 := allAl_range ts hts
    have r2 := sharedAl_range ts hts
    have r3 := sysOk_alpha hs
    have r4 := andB_range (a := allAl ts) r3
    rw [allAl_snoc, sharedAl_snoc, Has_or (by omega) (by omega), Has_or (by omega) (by omega), Has_and (by omega) (by omega), h1, h2, cntAl_snoc]
    cases hH : Has s.al c
    · simp
    · constructor
      · simp
      · rw [Bool.eq_iff_iff]
        simp
        omega

theorem partsAl_one {s : Sy} (h : sysOk s = true) : partsAl [s] = s.al := by
  have r := sysOk_alpha h
  have : partsOk [s] = true := by simp [partsOk, h]
  unfold partsAl
  rw [if_pos this]
  show orB 0 s.al = s.al
  unfold orB
  simp
  omega

end AG

/- Plain: one part alone. -/
namespace AG

theorem keptTo_all {w : ByteArray} {al : Int} : ∀ k, k ≤ w.size → (∀ i, i < k → HasZ al (ltr w i) = true) → keptTo w al k = w.data.toList.take k
  | 0, _, _ => by simp [keptTo]
  | k + 1, hk, h => by
    have ih := keptTo_all (w := w) (al := al) k (by omega) fun i hi => h i (by omega)
    have hk' : k < w.data.size := by have : w.size = w.data.size := rfl; omega
    rw [keptTo, if_pos (h k (by omega)), ih, List.take_succ_eq_append_getElem (by simpa using hk')]
    have e : w.data.getD k 0 = w.data.toList[k]'(by simpa using hk') := by
      rw [Array.getD_eq_getD_getElem?, Array.getElem?_eq_getElem hk']
      simp
    rw [e]
theorem restr_within {w : ByteArray} {al : Int} (h : within w al = true) : restr w al = w := by
  unfold within at h
  obtain ⟨-, -, h3⟩ := of_decide_eq_true h
  have := keptTo_all (w := w) (al := al) w.size (Nat.le_refl _) h3
  unfold restr
  rw [this]
  have e : w.data.toList.take w.size = w.data.toList := List.take_of_length_le (by simp)
  rw [e]
theorem hasTr_ok {s : Sy} {w : ByteArray} (h : hasTr s w = true) : sysOk s = true ∧ within w s.al = true := by
  unfold hasTr at h
  have h := of_decide_eq_true h
  unfold aft at h
  cases h1 : sysOk s <;> cases h2 : within w s.al <;> simp [h1, h2] at h ⊢
theorem hasTr_bad {s : Sy} (w : ByteArray) (h : sysOk s = false) : hasTr s w = false := by
  cases hb : hasTr s w with
  | false => rfl
  | true => rw [(hasTr_ok hb).1] at h; cases h

theorem allAl_one {s : Sy} (h : sysOk s = true) : allAl [s] = s.al := by
  have r := sysOk_alpha h
  show orB 0 s.al = s.al
  unfold orB
  simp
  omega
theorem allAl_two {s : Sy} (h : sysOk s = true) : allAl [s, s] = s.al := by
  have r := sysOk_alpha h
  have h0 : orB 0 s.al = s.al := allAl_one h
  show orB (orB 0 s.al) s.al = s.al
  rw [h0]
  unfold orB
  rw [Nat.or_self]
  omega
theorem trParts_same {s : Sy} {ss : List Sy} {w : ByteArray} (hs : sysOk s = true) (hp : partsOk ss = true) (ha : allAl ss = s.al) (he : ∀ x ∈ ss, x = s) (hn : 0 < ss.length) : trParts ss w = hasTr s w := by
  unfold trParts
  rw [Bool.eq_iff_iff, decide_eq_true_iff, ha]
  constructor
  · rintro ⟨-, h2, h3⟩
    have := h3 0 hn
    rw [he _ (List.getElem_mem _), restr_within h2] at this
    exact this
  · intro h
    have h2 := (hasTr_ok h).2
    refine ⟨hp, h2, fun i hi => ?_⟩
    rw [he _ (List.getElem_mem _), restr_within h2]
    exact h
theorem trParts_one (s : Sy) (w : ByteArray) : trParts [s] w = hasTr s w := by
  cases hs : sysOk s with
  | true => exact trParts_same hs (by simp [partsOk, hs]) (allAl_one hs) (by simp) (by simp)
  | false =>
    rw [hasTr_bad w hs]
    unfold trParts
    exact decide_eq_false fun h => by have := h.1; simp [partsOk, hs] at this
theorem trParts_two {s : Sy} (hs : sysOk s = true) (w : ByteArray) : trParts [s, s] w = hasTr s w :=
  trParts_same hs (by simp [partsOk, hs]) (allAl_two hs) (by simp) (by simp)

end AG

/- Plain: words as lists: prefixes, restrictions of restrictions, lists of systems in another order, words that are merged. -/
namespace AG

/-- The letter of a byte, -1 if there is none. -/
def bl (b : UInt8) : Int := if lOk ((b.toNat : Int) - 97) = true then (b.toNat : Int) - 97 else -1
def pk (al : Int) (b : UInt8) : Bool := HasZ al (bl b)
theorem pk_at (w : ByteArray) (al : Int) (i : Nat) : HasZ al (ltr w i) = pk al (w.data.getD i 0) := rfl
theorem getD_list {w : ByteArray} {i : Nat} (h : i < w.size) : ∃ h' : i < w.data.toList.length, w.data.getD i 0 = w.data.toList[i]'h' := by
  have hk' : i < w.data.size := h
  refine ⟨by simpa using hk', ?_⟩
  rw [Array.getD_eq_getD_getElem?, Array.getElem?_eq_getElem hk']
  simp
theorem size_list (w : ByteArray) : w.data.toList.length = w.size := by simp
theorem word_ext {a b : ByteArray} (h : a.data.toList = b.data.toList) : a = b := by
  obtain ⟨⟨a⟩⟩ := a
  obtain ⟨⟨b⟩⟩ := b
  cases h
  rfl

theorem keptTo_filter (w : ByteArray) (al : Int) : ∀ k, k ≤ w.size → keptTo w al k = (w.data.toList.take k).filter (pk al)
  | 0, _ => by simp [keptTo]
  | k + 1, hk => by
    have ih := keptTo_filter w al k (by omega)
    obtain ⟨h', e⟩ := getD_list (w := w) (i := k) (by omega)
    rw [keptTo, ih, List.take_succ_eq_append_getElem h', List.filter_append, pk_at, e]
    generalize w.data.toList[k]'h' = b
    cases h : pk al b <;> simp [h]
theorem restr_list (w : ByteArray) (al : Int) : (restr w al).data.toList = w.data.toList.filter (pk al) := by
  have := keptTo_filter w al w.size (Nat.le_refl _)
  unfold restr
  rw [this, List.take_of_length_le (by rw [size_list]; omega)]
theorem within_list (w : ByteArray) (al : Int) : within w al = true ↔ alphaOk al = true ∧ w.size ≤ 50000 ∧ ∀ b ∈ w.data.toList, pk al b = true := by
  unfold within
  rw [decide_eq_true_iff]
  constructor
  · rintro ⟨h1, h2, h3⟩
    refine ⟨h1, h2, fun b hb => ?_⟩
    obtain ⟨i, hi, rfl⟩ := List.getElem_of_mem hb
    have hi' : i < w.size := by rw [size_list] at hi; exact hi
    obtain ⟨h', e⟩ := getD_list hi'
    have := h3 i hi'
    rw [pk_at, e] at this
    exact this
  · rintro ⟨h1, h2, h3⟩
    refine ⟨h1, h2, fun i hi => ?_⟩
    obtain ⟨h', e⟩ := getD_list hi
    rw [pk_at, e]
    exact h3 _ (List.getElem_mem _)

/-- The states behind a list of bytes. -/
noncomputable def runL (s : Sy) (l : List UInt8) : Nat := l.foldl (fun S b => stepSet s S ((b.toNat : Int) - 97)) 1
theorem runTo_list (s : Sy) (w : ByteArray) : ∀ k, k ≤ w.size → runTo s w k = runL s (w.data.toList.take k)
  | 0, _ => rfl
  | k + 1, hk => by
    have ih := runTo_list s w k (by omega)
    obtain ⟨h', e⟩ := getD_list (w := w) (i := k) (by omega)
    rw [List.take_succ_eq_append_getElem h']
    unfold runL at ih ⊢
    rw [List.foldl_append, ← ih]
    show stepSet s (runTo s w k) (lz w k) = stepSet s _ _
    unfold lz
    rw [e]
theorem runTo_all (s : Sy) (w : ByteArray) : runTo s w w.size = runL s w.data.toList := by
  rw [runTo_list s w _ (Nat.le_refl _), List.take_of_length_le (by rw [size_list]; omega)]
theorem foldl_none (s : Sy) : ∀ l : List UInt8, l.foldl (fun S b => stepSet s S ((b.toNat : Int) - 97)) 0 = 0
  | [] => rfl
  | b :: l => by rw [List.foldl_cons, stepSet_of0]; exact foldl_none s l
theorem runL_more {s : Sy} {l : List UInt8} (m : List UInt8) (h : runL s (l ++ m) ≠ 0) : runL s l ≠ 0 := fun e => h (by
  unfold runL at e ⊢
  rw [List.foldl_append, e, foldl_none])

theorem hasTr_list (s : Sy) (w : ByteArray) : hasTr s w = true ↔ sysOk s = true ∧ within w s.al = true ∧ runL s w.data.toList ≠ 0 := by
  constructor
  · intro h
    obtain ⟨h1, h2⟩ := hasTr_ok h
    refine ⟨h1, h2, ?_⟩
    unfold hasTr at h
    have h := of_decide_eq_true h
    unfold aft at h
    rw [h1, h2] at h
    rw [← runTo_all]
    simpa using h
  · rintro ⟨h1, h2, h3⟩
    unfold hasTr aft
    rw [h1, h2, runTo_all]
    exact decide_eq_true (by simpa using h3)
theorem trParts_list (ss : List Sy) (w : ByteArray) : trParts ss w = true ↔ partsOk ss = true ∧ within w (allAl ss) = true ∧ ∀ s ∈ ss, hasTr s (restr w s.al) = true := by
  unfold trParts
  rw [decide_eq_true_iff]
  constructor
  · rintro ⟨h1, h2, h3⟩
    refine ⟨h1, h2, fun s hs => ?_⟩
    obtain ⟨i, hi, rfl⟩ := List.getElem_of_mem hs
    exact h3 i hi
  · rintro ⟨h1, h2, h3⟩
    exact ⟨h1, h2, fun i hi => h3 _ (List.getElem_mem _)⟩

/-- A word begins another. -/
def Pre (x y : ByteArray) : Prop := ∃ m, y.data.toList = x.data.toList ++ m
theorem Pre.within {x y : ByteArray} {al : Int} (h : Pre x y) (hy : AG.within y al = true) : AG.within x al = true := by
  obtain ⟨m, hm⟩ := h
  rw [within_list] at hy ⊢
  have h1 := size_list x
  have h2 := size_list y
  rw [hm, List.length_append] at h2
  refine ⟨hy.1, by have := hy.2.1; omega, fun b hb => hy.2.2 b (by rw [hm]; exact List.mem_append_left _ hb)⟩
theorem Pre.hasTr {x y : ByteArray} {s : Sy} (h : Pre x y) (hy : AG.hasTr s y = true) : AG.hasTr s x = true := by
  rw [hasTr_list] at hy ⊢
  obtain ⟨m, hm⟩ := h
  exact ⟨hy.1, Pre.within ⟨m, hm⟩ hy.2.1, runL_more m (by rw [← hm]; exact hy.2.2)⟩
theorem Pre.restr {x y : ByteArray} (h : Pre x y) (al : Int) : Pre (AG.restr x al) (AG.restr y al) := by
  obtain ⟨m, hm⟩ := h
  exact ⟨m.filter (pk al), by rw [restr_list, restr_list, hm, List.filter_append]⟩
theorem Pre.trParts {x y : ByteArray} {ss : List Sy} (h : Pre x y) (hy : AG.trParts ss y = true) : AG.trParts ss x = true := by
  rw [trParts_list] at hy ⊢
  exact ⟨hy.1, h.within hy.2.1, fun s hs => (h.restr _).hasTr (hy.2.2 s hs)⟩

/-- Alphabets of lists of systems: order counts for nothing, a system's letters are among them. -/
theorem Has_ext {a b : Int} (ha : 0 ≤ a ∧ a ≤ 63) (hb : 0 ≤ b ∧ b ≤ 63) (h : ∀ c, Has a c = Has b c) : a = b := by
  obtain ⟨a, rfl⟩ := Int.eq_ofNat_of_zero_le ha.1
  obtain ⟨b, rfl⟩ := Int.eq_ofNat_of_zero_le hb.1
  have : a = b := Nat.eq_of_testBit_eq fun i => by have := h i; rwa [Has_nat, Has_nat] at this
  rw [this]
theorem allAl_perm {ss ts : List Sy} (h : ss.Perm ts) (hall : ss.all sysOk = true) : allAl ss = allAl ts := by
  have hall' : ts.all sysOk = true := by rw [List.all_eq_true] at hall ⊢; exact fun x hx => hall x (h.mem_iff.2 hx)
  refine Has_ext (allAl_range _ hall) (allAl_range _ hall') fun c => ?_
  rw [(Has_all ss c hall).1, (Has_all ts c hall').1]
  unfold cntAl
  rw [h.countP_eq]
theorem partsOk_perm {ss ts : List Sy} (h : ss.Perm ts) : partsOk ss = partsOk ts := by
  unfold partsOk
  rw [h.length_eq]
  congr 1
  rw [Bool.eq_iff_iff, List.all_eq_true, List.all_eq_true]
  exact ⟨fun k x hx => k x (h.mem_iff.2 hx), fun k x hx => k x (h.mem_iff.1 hx)⟩
theorem partsOk_all {ss : List Sy} (h : partsOk ss = true) : ss.all sysOk = true := by
  unfold partsOk at h
  rw [Bool.and_eq_true] at h
  exact h.2
theorem partsAl_perm {ss ts : List Sy} (h : ss.Perm ts) : partsAl ss = partsAl ts := by
  unfold partsAl
  rw [partsOk_perm h]
  split
  · rename_i hk
    rw [← partsOk_perm h] at hk
    exact allAl_perm h (partsOk_all hk)
  · rfl
theorem trParts_perm {ss ts : List Sy} (h : ss.Perm ts) (w : ByteArray) : trParts ss w = trParts ts w := by
  rw [Bool.eq_iff_iff, trParts_list, trParts_list, partsOk_perm h]
  constructor
  · rintro ⟨h1, h2, h3⟩
    refine ⟨h1, ?_, fun s hs => h3 s (h.mem_iff.2 hs)⟩
    rw [← allAl_perm h (partsOk_all ((partsOk_perm h).trans h1))]
    exact h2
  · rintro ⟨h1, h2, h3⟩
    refine ⟨h1, ?_, fun s hs => h3 s (h.mem_iff.1 hs)⟩
    rw [allAl_perm h (partsOk_all ((partsOk_perm h).trans h1))]
    exact h2

theorem HasZ_sub {al al' x : Int} (h : ∀ c, Has al c = true → Has al' c = true) (hx : HasZ al x = true) : HasZ al' x = true := by
  unfold HasZ at hx ⊢
  rw [Bool.and_eq_true] at hx ⊢
  exact ⟨hx.1, h _ hx.2⟩
theorem Has_part {ss : List Sy} {s : Sy} (hall : ss.all sysOk = true) (hs : s ∈ ss) (c : Nat) (h : Has s.al c = true) : Has (allAl ss) c = true := by
  rw [(Has_all ss c hall).1]
  refine decide_eq_true ?_
  unfold cntAl
  exact List.countP_pos_iff.2 ⟨s, hs, h⟩
theorem restr_restr {w : ByteArray} {al al' : Int} (h : ∀ c, Has al c = true → Has al' c = true) : restr (restr w al') al = restr w al := by
  apply word_ext
  rw [restr_list, restr_list, restr_list, List.filter_filter]
  congr 1
  funext b
  cases hb : pk al b with
  | false => rfl
  | true => rw [show pk al' b = true from HasZ_sub h hb]; rfl
theorem alphaOk_range {a : Int} : alphaOk a = true ↔ 0 ≤ a ∧ a ≤ 63 := by unfold alphaOk; exact decide_eq_true_iff
theorem restr_within_self {w : ByteArray} {al : Int} (ha : 0 ≤ al ∧ al ≤ 63) (hw : w.size ≤ 50000) : within (restr w al) al = true := by
  rw [within_list]
  refine ⟨alphaOk_range.2 ha, ?_, fun b hb => ?_⟩
  · have h1 := size_list (restr w al)
    have h2 := size_list w
    rw [restr_list] at h1
    have := List.length_filter_le (pk al) w.data.toList
    omega
  · rw [restr_list, List.mem_filter] at hb
    exact hb.2
/-- Fewer parts do no less. -/
theorem trParts_tail {s : Sy} {ss : List Sy} {w : ByteArray} (h : trParts (s :: ss) w = true) (hn : ss ≠ []) : partsOk ss = true ∧ trParts ss (restr w (allAl ss)) = true := by
  rw [trParts_list] at h
  obtain ⟨h1, h2, h3⟩ := h
  have hp : partsOk ss = true := by
    unfold partsOk at h1 ⊢
    simp only [List.length_cons, List.all_cons, Bool.and_eq_true, decide_eq_true_eq] at h1 ⊢
    have : 0 < ss.length := List.length_pos_iff.2 hn
    refine ⟨?_, h1.2.2⟩
    have := h1.1
    omega
  have hall := partsOk_all hp
  refine ⟨hp, ?_⟩
  rw [trParts_list]
  refine ⟨hp, restr_within_self (allAl_range _ hall) (within_size h2), fun t ht => ?_⟩
  rw [restr_restr (fun c hc => Has_part hall ht c hc)]
  exact h3 t (List.mem_cons_of_mem _ ht)

end AG

/- A statement that draws its order: its first n operations may come in any order the edges allow and yield one value each in every world of a class; behind them the others come one by one. -/
namespace AG
open Go
section
variable {P : Program} {ops : Array Oper} {md : Region.Mode} {C : World → Prop} {n : Nat}

/-- f operations of the first n come up, in any order, then L. -/
def HeadC (P : Program) (md : Region.Mode) (ops : Array Oper) (C : World → Prop) (n : Nat) (L : Array Bool → Act → Prop) : Nat → Array Bool → Act → Prop
  | 0, listed, a => L listed a
  | f + 1, listed, a => Region.ready md ops listed ≠ [] ∧ ∀ i, i ∈ Region.ready md ops listed → i < n ∧ qOp P ops C i (HeadC P md ops C n L f (listed.setIfInBounds i true)) a

theorem HeadC.any {g : Nat} {L : Array Bool → Act → Prop} {Q : Exit → Act → World → Prop} (hL : ∀ listed a w, C w → L listed a → wpAny P md ops Q g listed a w) (f : Nat) :
    ∀ (listed : Array Bool) (a : Act) (w : World), C w → HeadC P md ops C n L f listed a → wpAny P md ops Q (f + g) listed a w := by
  induction f with
  | zero => intro listed a w hw h; rw [Nat.zero_add]; exact hL _ _ _ hw h
  | succ f ih =>
    intro listed a w hw h
    have e : f + 1 + g = (f + g) + 1 := by omega
    rw [e]
    refine ⟨fun h0 => absurd h0 h.1, fun i hi => ?_⟩
    exact wpOp_of_qOp hw (fun a' w' hw' h' => ih _ a' w' hw' h') (h.2 i hi).2

/-- The next operation of the text may be taken first. -/
theorem HeadC.first {i : Nat} {oi : Oper} {v : Value} {L : Array Bool → Act → Prop} (hi : ops[i]? = some oi) (hsel : ∀ (j : Nat) (o : Oper) cs b, ops[j]? = some o → o.op ≠ .select cs b)
    (hs : Region.sinkB md ops n = true) (hc : Region.chainB md ops n = true) (hn : n < ops.size) (hin : i < n) (hdone : ∀ listed a, L listed a → ∀ j ∈ Region.ready md ops listed, n ≤ j) (f : Nat) :
    ∀ (listed : Array Bool) (a : Act), HeadInv md ops n listed →
      (∀ j oj, ops[j]? = some oj → j ≠ i → listed.getD j true = false → (∀ e ∈ oj.after, Region.binds md e = true → e.on ≠ i) → oi.apart ops oj = true) →
      i ∈ Region.ready md ops listed → YieldsIn P ops C oi v a → HeadC P md ops C n L f (listed.setIfInBounds i true) (a.put oi.dst v) → HeadC P md ops C n L (f + 1) listed a := by
  induction f with
  | zero =>
    intro listed a inv _ hr hy H
    have hun := (mem_ready.1 hr).1
    refine ⟨fun h => (by rw [h] at hr; cases hr), fun j hj => ?_⟩
    have hjn : j < n := Nat.lt_of_not_le fun h => tail_waits hs hc hn inv _ i rfl hin hun j h hj
    refine ⟨hjn, ?_⟩
    by_cases hji : j = i
    · subst hji; exact hy.qOp hi H
    · have := hdone _ _ H j (ready_mono hj hji)
      omega
  | succ f ih =>
    intro listed a inv hfree hr hy H
    have hun := (mem_ready.1 hr).1
    refine ⟨fun h => (by rw [h] at hr; cases hr), fun j hj => ?_⟩
    have hjn : j < n := Nat.lt_of_not_le fun h => tail_waits hs hc hn inv _ i rfl hin hun j h hj
    refine ⟨hjn, ?_⟩
    by_cases hji : j = i
    · subst hji; exact hy.qOp hi H
    · obtain ⟨hjun, oj, hoj, hall⟩ := mem_ready.1 hj
      have hnot : ∀ e ∈ oj.after, Region.binds md e = true → e.on ≠ i := fun e he hb heq => by
        have h1 := hall e he hb
        rw [heq, getD_both hun] at h1
        cases h1
      have h2 := qOp_put hoj (hfree j oj hoj hji hjun hnot) (fun cs b => hsel i oi cs b hi) (fun cs b => hsel j oj cs b hoj) hy (H.2 j (ready_mono hj hji)).2
      refine qOp_mono (fun a' h3 => ih (listed.setIfInBounds j true) a' (inv.set hj hjn) ?_ (ready_mono hr (Ne.symm hji)) h3.1 ?_) h2
      · intro k ok hk hki hun' hno
        refine hfree k ok hk hki ?_ hno
        by_cases hjk : j = k
        · subst hjk; exact hjun
        · rw [getD_set_ne true hjk] at hun'; exact hun'
      · rw [Array.setIfInBounds_comm _ _ hji]
        exact h3.2

theorem HeadC.lex {g : Nat} {Lq : Act → Prop} (hsel : Region.noSelect ops = true) (hs : Region.sinkB md ops n = true) (hc : Region.chainB md ops n = true) (hn : n < ops.size) (l : List Oper) :
    ∀ (k : Nat) (listed : Array Bool) (a : Act), (∀ j, j < l.length → l[j]? = ops[k + j]?) → k + l.length = n → HeadInv md ops n listed → Region.lexHead md ops g l.length k listed = true →
      wpQuiet P ops C Lq l a → HeadC P md ops C n (fun listed' a' => Region.seqB md ops g n listed' = true ∧ Lq a') l.length listed a := by
  induction l with
  | nil =>
    intro k listed a _ hk _ hB h
    obtain rfl : k = n := by simpa using hk
    exact ⟨by simpa [Region.lexHead] using hB, h⟩
  | cons o l ih =>
    intro k listed a hl hk inv hB h
    have h0 : ops[k]? = some o := by simpa using (hl 0 (by simp)).symm
    simp only [List.length_cons, Region.lexHead, Bool.and_eq_true] at hB
    obtain ⟨⟨hr, hf⟩, hB'⟩ := hB
    simp only [List.length_cons] at hk
    have hkn : k < n := by omega
    have hr' : k ∈ Region.ready md ops listed := by simpa using hr
    have hst : qOp P ops C k (wpQuiet P ops C Lq l) a := by unfold qOp; simp only [h0]; exact h
    obtain ⟨v, hy, hK⟩ := yieldsIn_of_qOp h0 hst
    refine HeadC.first h0 (Region.noSelect_spec hsel) hs hc hn hkn (fun listed' a' hL => seqB_ready hL.1) l.length listed a inv (Region.free_spec h0 hf) hr' hy ?_
    refine ih (k + 1) _ _ (fun j hj => ?_) (by omega) (inv.set hr' hkn) hB' hK
    have := hl (j + 1) (by simp; omega)
    simpa [Nat.add_assoc, Nat.add_comm 1 j] using this

theorem wp_region_quiet_tail {id : Nat} {Q : Exit → Act → World → Prop} {a : Act} {w : World} {l : List Oper} (n : Nat) (hm : P.follows .mixedOrders = true) (hB : Region.lexTailB .any l.toArray n = true) (hC : C { w with drawn := w.drawn + 1 })
    (h : wpQuiet P l.toArray C (fun a' => ∀ w', C w' → wpList P l.toArray Q (l.drop n) a' w') (l.take n) a) : (Code.region id l.toArray true).wp P Q a w := by
  simp only [Region.lexTailB, Bool.and_eq_true, decide_eq_true_eq] at hB
  obtain ⟨⟨⟨⟨hsel, hn⟩, hs⟩, hc⟩, hlex⟩ := hB
  have htl : (l.take n).length = n := by simp; simp at hn; omega
  have hdl : (l.drop n).length = l.toArray.size - n := by simp
  have inv0 : HeadInv .any l.toArray n (Array.replicate l.toArray.size false) :=
    ⟨by simp, fun j oj _ hl => (by rw [getD_replicate_false] at hl; cases hl), fun t _ ht => getD_in (by simpa using ht) (getD_replicate_false _ _)⟩
  have H := HeadC.lex (md := .any) (g := l.toArray.size - n) hsel hs hc hn (l.take n) 0 _ a (fun j hj => by
    have hj' : j < n := by rw [htl] at hj; exact hj
    simp [hj']) (by simpa using htl) inv0 (by rw [htl]; exact hlex) h
  refine wp_region_any hm ?_
  have := HeadC.any (Q := Q) (g := l.toArray.size - n) (fun listed a' w' hw' hL => by
    have := wpAny_of_seq (md := .any) (Q' := Q) (l.drop n) n listed a' w' (fun j => by simp [List.getElem?_drop]) (by rw [hdl]; exact hL.1) (hL.2 w' hw')
    rwa [hdl] at this) _ _ _ _ hC H
  rw [htl, show n + (l.toArray.size - n) = l.toArray.size by omega] at this
  exact this
end
end AG

/- Words for memory that the walks share: a slice that reads as a list of cells, and the rule for a statement that draws its order. -/
namespace AG
open Go Go.RowKit

/-- The slice '.slice A n c' holds the cells xs (size cells an element), below block B. -/
def Reads (w : World) (B size : Nat) (A : Option Addr) (n : Nat) (xs : List Value) : Prop :=
  xs.length = n * size ∧ (0 < n → ∃ b o, A = some ⟨b, o, none⟩ ∧ b < B ∧ ∀ j u, xs[j]? = some u → w.cell? ⟨b, o + j, none⟩ = some u)

/-- Every world that is as w0 below block B, written as a family (what is not so is replaced by w0). -/
noncomputable def Fam (B : Nat) (w0 x : World) : World := open Classical in if Below B w0 x then x else w0
theorem Fam.below (B : Nat) (w0 x : World) : Below B w0 (Fam B w0 x) := by
  unfold Fam
  split
  · assumption
  · exact Below.refl _ _
theorem Fam.of {B : Nat} {w0 w : World} (h : Below B w0 w) : ∃ x, w = Fam B w0 x := ⟨w, by unfold Fam; rw [if_pos h]⟩
theorem Fam.next {B : Nat} {w0 x w : World} (hB : B ≤ w0.heap.size) (h : Below (Fam B w0 x).heap.size (Fam B w0 x) w) : ∃ y, w = Fam B w0 y :=
  Fam.of ((Fam.below B w0 x).trans (h.mono (Nat.le_trans hB (Fam.below B w0 x).size)))
theorem Fam.out {B : Nat} {w0 w : World} (h : ∃ x, w = Fam B w0 x) : Below B w0 w := by
  obtain ⟨x, rfl⟩ := h
  exact Fam.below _ _ _

/-- A statement that draws its order, each of whose operations yields one value in every world that is as w0 below block B, and leaves such a world. -/
theorem wp_region_fam {P : Program} {id : Nat} {Q : Exit → Act → World → Prop} {a : Act} {w : World} {l : List Oper} (B : Nat) (w0 : World) (hm : P.follows .mixedOrders = true)
    (hB : Region.lexB .any l.toArray = true) (hC : Below B w0 w) (h : wpQuiet P l.toArray (fun w' => ∃ x, w' = Fam B w0 x) (fun a' => ∀ w', (∃ x, w' = Fam B w0 x) → Q .normal a' w') l a) : (Code.region id l.toArray true).wp P Q a w :=
  wp_region_quiet (C := fun w' => ∃ x, w' = Fam B w0 x) hm hB (Fam.of hC.drew) (by simpa using h)

/-- The same, the first n operations alone; behind them the others come one by one. -/
theorem wp_region_fam_tail {P : Program} {id : Nat} {Q : Exit → Act → World → Prop} {a : Act} {w : World} {l : List Oper} (B : Nat) (w0 : World) (n : Nat) (hm : P.follows .mixedOrders = true)
    (hB : Region.lexTailB .any l.toArray n = true) (hC : Below B w0 w) (h : wpQuiet P l.toArray (fun w' => ∃ x, w' = Fam B w0 x) (fun a' => ∀ w', (∃ x, w' = Fam B w0 x) → wpList P l.toArray Q (l.drop n) a' w') (l.take n) a) :
    (Code.region id l.toArray true).wp P Q a w :=
  wp_region_quiet_tail (C := fun w' => ∃ x, w' = Fam B w0 x) n hm hB (Fam.of hC.drew) h

def Ed.val (e : Ed) : Value := .agg #[.int .i64 e.f, .int .i64 e.l, .int .i64 e.t]
def Ed.cells (e : Ed) : List Value := [.int .i64 e.f, .int .i64 e.l, .int .i64 e.t]

/-- The slice of edges '.slice A n c' reads as es, below block B. -/
def EdsAt (w : World) (B : Nat) (A : Option Addr) (es : List Ed) : Prop :=
  0 < es.length → ∃ b o, A = some ⟨b, o, none⟩ ∧ b < B ∧ ∀ i (h : i < es.length),
    w.cell? ⟨b, o + i * 3, none⟩ = some (.int .i64 es[i].f) ∧ w.cell? ⟨b, o + i * 3 + 1, none⟩ = some (.int .i64 es[i].l) ∧ w.cell? ⟨b, o + i * 3 + 2, none⟩ = some (.int .i64 es[i].t)

theorem EdsAt.get {w w0 : World} {B B' : Nat} {A : Option Addr} {es : List Ed} (h : EdsAt w B A es) (hb : Below B w w0) (hB : B ≤ B') {k : Nat} (hk : k < es.length) :
    ∃ b o, A = some ⟨b, o, none⟩ ∧ b < B ∧ ∀ i (hi : i < es.length), (∀ w', Below B' w0 w' → w'.cell? ⟨b, o + i * 3, none⟩ = some (.int .i64 es[i].f)) ∧ (∀ w', Below B' w0 w' → w'.cell? ⟨b, o + i * 3 + 1, none⟩ = some (.int .i64 es[i].l)) ∧
      (∀ w', Below B' w0 w' → w'.cell? ⟨b, o + i * 3 + 2, none⟩ = some (.int .i64 es[i].t)) := by
  obtain ⟨b, o, hA, hb', hE⟩ := h (by omega)
  refine ⟨b, o, hA, hb', fun i hi => ⟨fun w' h' => ?_, fun w' h' => ?_, fun w' h' => ?_⟩⟩
  · rw [h'.cell (by simp; omega), hb.cell (by simpa using hb')]; exact (hE i hi).1
  · rw [h'.cell (by simp; omega), hb.cell (by simpa using hb')]; exact (hE i hi).2.1
  · rw [h'.cell (by simp; omega), hb.cell (by simpa using hb')]; exact (hE i hi).2.2

theorem EdsAt.keep {w w' : World} {B : Nat} {A : Option Addr} {es : List Ed} (h : EdsAt w B A es) (hb : Below B w w') : EdsAt w' B A es := fun hl => by
  obtain ⟨b, o, hA, hb', hE⟩ := h hl
  exact ⟨b, o, hA, hb', fun i hi => by rw [hb.cell (by simpa using hb'), hb.cell (by simpa using hb'), hb.cell (by simpa using hb')]; exact hE i hi⟩
theorem EdsAt.more {w : World} {B B' : Nat} {A : Option Addr} {es : List Ed} (h : EdsAt w B A es) (hB : B ≤ B') : EdsAt w B' A es := fun hl => by
  obtain ⟨b, o, hA, hb', hE⟩ := h hl
  exact ⟨b, o, hA, by omega, hE⟩

/-- A new block of cells, the world under a name of its own. -/
theorem boxed (w : World) (cs : Array Value) (T : TypeId) : ∃ w0, w.alloc (.cells cs T) = w0 ∧ w.heap.size + 1 ≤ w0.heap.size ∧ Below w.heap.size w w0 ∧
    ∀ (i : Nat) v, cs[i]? = some v → ∀ w', Below (w.heap.size + 1) w0 w' → w'.cell? ⟨w.heap.size, i, none⟩ = some v :=
  ⟨_, rfl, by simp, (Below.refl _ _).alloc (Nat.le_refl _) _, fun i v hv w' h => by rw [h.cell (by simp), World.cell?_alloc_at _ _ _ _ rfl]; exact hv⟩

theorem boxed3 (w : World) (v0 v1 v2 : Value) (T : TypeId) : ∃ w0, w.alloc (.cells #[v0, v1, v2] T) = w0 ∧ w.heap.size + 1 ≤ w0.heap.size ∧ Below w.heap.size w w0 ∧
    (∀ w', Below (w.heap.size + 1) w0 w' → w'.cell? ⟨w.heap.size, 0, none⟩ = some v0) ∧ (∀ w', Below (w.heap.size + 1) w0 w' → w'.cell? ⟨w.heap.size, 1, none⟩ = some v1) ∧
    (∀ w', Below (w.heap.size + 1) w0 w' → w'.cell? ⟨w.heap.size, 2, none⟩ = some v2) := by
  obtain ⟨w0, h0, h1, h2, h3⟩ := boxed w #[v0, v1, v2] T
  exact ⟨w0, h0, h1, h2, h3 0 v0 rfl, h3 1 v1 rfl, h3 2 v2 rfl⟩
/-- .. and that what was read before is read there too. -/
theorem Below.box {B : Nat} {w0 w w1 : World} (h : Below B w0 w) (hB : B ≤ w.heap.size) (h1 : Below w.heap.size w w1) : Below B w0 w1 := h.trans (h1.mono hB)

theorem boxed2 (w : World) (cs : Array Value) (T : TypeId) (cs' : Array Value) (T' : TypeId) : ∃ w1, (w.alloc (.cells cs T)).alloc (.cells cs' T') = w1 ∧ w.heap.size + 2 ≤ w1.heap.size ∧ Below w.heap.size w w1 ∧
    (∀ (i : Nat) v, cs[i]? = some v → ∀ w', Below (w.heap.size + 2) w1 w' → w'.cell? ⟨w.heap.size, i, none⟩ = some v) ∧
    (∀ (i : Nat) v, cs'[i]? = some v → ∀ w', Below (w.heap.size + 2) w1 w' → w'.cell? ⟨w.heap.size + 1, i, none⟩ = some v) :=
  ⟨_, rfl, by simp, ((Below.refl _ _).alloc (Nat.le_refl _) _).alloc (by simp) _,
    fun i v hv w' h => by rw [h.cell (by simp), World.cell?_alloc_lt (h := by simp), World.cell?_alloc_at _ _ _ _ rfl]; exact hv,
    fun i v hv w' h => by rw [h.cell (by simp), World.cell?_alloc_at _ _ _ _ (by simp)]; exact hv⟩

/-- The value of a system. -/
def Sy.val (s : Sy) (A : Option Addr) (c : Nat) : Value := .agg #[.int .i64 s.al, .int .i64 s.st, .slice A s.es.length c]

/-- The slice of systems '.slice A n c' reads as ss, below block B. -/
def SysAt (w : World) (B : Nat) (A : Option Addr) (ss : List Sy) : Prop :=
  0 < ss.length → ∃ b o, A = some ⟨b, o, none⟩ ∧ b < B ∧ ∀ i (h : i < ss.length),
    w.cell? ⟨b, o + i * 3, none⟩ = some (.int .i64 ss[i].al) ∧ w.cell? ⟨b, o + i * 3 + 1, none⟩ = some (.int .i64 ss[i].st) ∧
      ∃ Ai ci, w.cell? ⟨b, o + i * 3 + 2, none⟩ = some (.slice Ai ss[i].es.length ci) ∧ ss[i].es.length ≤ ci ∧ ci ≤ 9223372036854775807 ∧ EdsAt w B Ai ss[i].es

theorem SysAt.keep {w w' : World} {B : Nat} {A : Option Addr} {ss : List Sy} (h : SysAt w B A ss) (hb : Below B w w') : SysAt w' B A ss := fun hl => by
  obtain ⟨b, o, hA, hb', hE⟩ := h hl
  refine ⟨b, o, hA, hb', fun i hi => ?_⟩
  obtain ⟨h0, h1, Ai, ci, h2, h3, h4, h5⟩ := hE i hi
  rw [hb.cell (by simpa using hb'), hb.cell (by simpa using hb'), hb.cell (by simpa using hb')]
  exact ⟨h0, h1, Ai, ci, h2, h3, h4, h5.keep hb⟩
theorem SysAt.more {w : World} {B B' : Nat} {A : Option Addr} {ss : List Sy} (h : SysAt w B A ss) (hB : B ≤ B') : SysAt w B' A ss := fun hl => by
  obtain ⟨b, o, hA, hb', hE⟩ := h hl
  refine ⟨b, o, hA, by omega, fun i hi => ?_⟩
  obtain ⟨h0, h1, Ai, ci, h2, h3, h4, h5⟩ := hE i hi
  exact ⟨h0, h1, Ai, ci, h2, h3, h4, h5.more hB⟩
/-- The system number k: its three cells in every world that is as w below block B, and its edges. -/
theorem SysAt.get {w : World} {B : Nat} {A : Option Addr} {ss : List Sy} (h : SysAt w B A ss) {k : Nat} (hk : k < ss.length) :
    ∃ b o Ai ci, A = some ⟨b, o, none⟩ ∧ b < B ∧ (∀ w', Below B w w' → w'.cell? ⟨b, o + k * 3, none⟩ = some (.int .i64 ss[k].al)) ∧ (∀ w', Below B w w' → w'.cell? ⟨b, o + k * 3 + 1, none⟩ = some (.int .i64 ss[k].st)) ∧
      (∀ w', Below B w w' → w'.cell? ⟨b, o + k * 3 + 2, none⟩ = some (.slice Ai ss[k].es.length ci)) ∧ ss[k].es.length ≤ ci ∧ ci ≤ 9223372036854775807 ∧ EdsAt w B Ai ss[k].es := by
  obtain ⟨b, o, hA, hb', hE⟩ := h (by omega)
  obtain ⟨h0, h1, Ai, ci, h2, h3, h4, h5⟩ := hE k hk
  exact ⟨b, o, Ai, ci, hA, hb', fun w' hw => by rw [hw.cell (by simpa using hb')]; exact h0, fun w' hw => by rw [hw.cell (by simpa using hb')]; exact h1,
    fun w' hw => by rw [hw.cell (by simpa using hb')]; exact h2, h3, h4, h5⟩

theorem ofInt_i64 (a : Nat) (ha : a < 9223372036854775808) : (BitVec.ofInt 64 (a : Int)).toNat = a := by
  rw [BitVec.ofInt_natCast, BitVec.toNat_ofNat]; exact Nat.mod_eq_of_lt (by omega)
theorem bits_or {a b : Int} (ha : 0 ≤ a ∧ a < 9223372036854775808) (hb : 0 ≤ b ∧ b < 9223372036854775808) : bits .or .i64 a b = orB a b := by
  obtain ⟨a, rfl⟩ := Int.eq_ofNat_of_zero_le ha.1
  obtain ⟨b, rfl⟩ := Int.eq_ofNat_of_zero_le hb.1
  have hx : a ||| b < 2 ^ 63 := Nat.or_lt_two_pow (by omega) (by omega)
  show IntKind.i64.wrap ((BitVec.ofInt 64 (a : Int) ||| BitVec.ofInt 64 (b : Int)).toNat : Int) = _
  rw [BitVec.toNat_or, ofInt_i64 a (by omega), ofInt_i64 b (by omega), IntKind.wrap_i64]
  unfold orB
  simp only [Int.toNat_natCast]
  omega
theorem bits_and {a b : Int} (ha : 0 ≤ a ∧ a < 9223372036854775808) (hb : 0 ≤ b ∧ b < 9223372036854775808) : bits .and .i64 a b = andB a b := by
  obtain ⟨a, rfl⟩ := Int.eq_ofNat_of_zero_le ha.1
  obtain ⟨b, rfl⟩ := Int.eq_ofNat_of_zero_le hb.1
  have hx : a &&& b < 2 ^ 63 := Nat.and_lt_two_pow _ (by omega)
  show IntKind.i64.wrap ((BitVec.ofInt 64 (a : Int) &&& BitVec.ofInt 64 (b : Int)).toNat : Int) = _
  rw [BitVec.toNat_and, ofInt_i64 a (by omega), ofInt_i64 b (by omega), IntKind.wrap_i64]
  unfold andB
  simp only [Int.toNat_natCast]
  omega

/-- Block g is just the cells cs of element type t, none frozen. -/
def Blk (w : World) (g : Nat) (t : TypeId) (cs : Array Value) : Prop := w.heap[g]? = some (.cells cs t (0, 0))
section
variable {w w' : World} {g : Nat} {t : TypeId} {cs : Array Value}
theorem Blk.lt (h : Blk w g t cs) : g < w.heap.size := by
  rcases Nat.lt_or_ge g w.heap.size with hlt | hge
  · exact hlt
  · unfold Blk at h; rw [Array.getElem?_eq_none hge] at h; cases h
theorem Blk.cell (h : Blk w g t cs) (i : Nat) : w.cell? ⟨g, i, none⟩ = cs[i]? := cell_of_row w g i cs t (0, 0) h
theorem Blk.frozen (h : Blk w g t cs) (i : Nat) : w.frozen? ⟨g, i, none⟩ = false := by
  unfold Blk at h
  simp [World.frozen?, h]
theorem Blk.new (w : World) (t : TypeId) (cs : Array Value) : Blk (w.alloc (.cells cs t)) w.heap.size t cs := heap_alloc_new w _
theorem Blk.alloc (h : Blk w g t cs) (o : Obj) : Blk (w.alloc o) g t cs := (Below.heap_alloc w o g h.lt).trans h
theorem Blk.set_ (h : Blk w g t cs) (i : Nat) (u : Value) : Blk (w.setCell ⟨g, i, none⟩ u) g t (cs.setIfInBounds i u) := by
  unfold Blk at h ⊢
  simp [World.setCell, Array.getElem?_modify, h]
theorem Blk.below {B : Nat} (h : Blk w g t cs) (hb : Below B w w') (hg : g < B) : Blk w' g t cs := (hb.block g hg).trans h
end
theorem run_make_rowN {P : Program} (t e : TypeId) (i : TypeInfo) (z : Value) (ht : P.underlying t = some (.slice e)) (hi : P.info? e = some i) (hz : i.zero = some z)
    (kl kc : IntKind) (n c : Nat) (hnc : n ≤ c) (hbytes : i.bytes * c ≤ 281474976710656) (h63 : c ≤ 9223372036854775807) (w : World) :
    (Instr.makeSlice t (.int kl (n : Int)) (.int kc (c : Int))).run P w = .ok (.slice (some ⟨w.heap.size, 0, none⟩) n c) (w.alloc (.cells (madeCells z.cells (c * i.size)) e)) := by
  have hb : (i.bytes : Int) * (c : Int) ≤ 281474976710656 := by
    have h : ((i.bytes * c : Nat) : Int) ≤ 281474976710656 := by omega
    rwa [Int.natCast_mul] at h
  have hr := run_make (P := P) w t e i z ht hi hz kl kc n c (by omega) (by omega) hb (by omega)
  simp only [Int.toNat_natCast] at hr
  exact hr

/-- A slice of edges comes back; a system comes back; a slice of systems comes back. -/
def FreshA (n : Nat) (A : Option Addr) : Prop := ∀ b o, A = some ⟨b, o, none⟩ → n ≤ b
def EdsPost (es : List Ed) (w : World) (e : Ending) (w' : World) : Prop := ∃ A, e = .returned (.slice A es.length es.length) ∧ EdsAt w' w'.heap.size A es ∧ FreshA w.heap.size A ∧ Below w.heap.size w w'
def SyPost (s : Sy) (w : World) (e : Ending) (w' : World) : Prop := ∃ A, e = .returned (s.val A s.es.length) ∧ EdsAt w' w'.heap.size A s.es ∧ FreshA w.heap.size A ∧ Below w.heap.size w w'
theorem EdsAt.setFar {w : World} {n : Nat} {A : Option Addr} {es : List Ed} (h : EdsAt w w.heap.size A es) (hf : FreshA n A) {g i : Nat} (v : Value) (hg : g < n) : EdsAt (w.setCell ⟨g, i, none⟩ v) (w.setCell ⟨g, i, none⟩ v).heap.size A es := fun hl => by
  obtain ⟨b, o, hA, hb', hE⟩ := h hl
  have := hf b o hA
  refine ⟨b, o, hA, by simpa [World.setCell] using hb', fun j hj => ?_⟩
  have hne : (⟨g, i, none⟩ : Addr).block ≠ b := by simp; omega
  have hq : ∀ k, (w.setCell ⟨g, i, none⟩ v).cell? ⟨b, k, none⟩ = w.cell? ⟨b, k, none⟩ := fun k => World.cell?_of_block (Below.heap_setCell _ _ _ _ (Ne.symm hne))
  rw [hq, hq, hq]
  exact hE j hj
def SysPost (ss : List Sy) (w : World) (e : Ending) (w' : World) : Prop := ∃ A, e = .returned (.slice A ss.length ss.length) ∧ SysAt w' w'.heap.size A ss ∧ Below w.heap.size w w'

/-- The cells of the first k edges. -/
def EdsIn (cs : Array Value) (es : List Ed) (k : Nat) : Prop :=
  cs.size = es.length * 3 ∧ ∀ i (h : i < es.length), i < k → cs[i * 3]? = some (.int .i64 es[i].f) ∧ cs[i * 3 + 1]? = some (.int .i64 es[i].l) ∧ cs[i * 3 + 2]? = some (.int .i64 es[i].t)
theorem EdsIn.next {cs : Array Value} {es : List Ed} {k : Nat} (h : EdsIn cs es k) (hk : k < es.length) :
    EdsIn (((cs.setIfInBounds (k * 3) (.int .i64 es[k].f)).setIfInBounds (k * 3 + 1) (.int .i64 es[k].l)).setIfInBounds (k * 3 + 2) (.int .i64 es[k].t)) es (k + 1) := by
  obtain ⟨hs, hc⟩ := h
  refine ⟨by simpa using hs, fun i hi hik => ?_⟩
  by_cases e : i = k
  · subst e
    refine ⟨?_, ?_, ?_⟩
    · rw [Array.getElem?_setIfInBounds_ne (by omega), Array.getElem?_setIfInBounds_ne (by omega), Array.getElem?_setIfInBounds_self_of_lt (by omega)]
    · rw [Array.getElem?_setIfInBounds_ne (by omega), Array.getElem?_setIfInBounds_self_of_lt (by simp; omega)]
    · rw [Array.getElem?_setIfInBounds_self_of_lt (by simp; omega)]
  · obtain ⟨h0, h1, h2⟩ := hc i hi (by omega)
    refine ⟨?_, ?_, ?_⟩
    · rw [Array.getElem?_setIfInBounds_ne (by omega), Array.getElem?_setIfInBounds_ne (by omega), Array.getElem?_setIfInBounds_ne (by omega)]; exact h0
    · rw [Array.getElem?_setIfInBounds_ne (by omega), Array.getElem?_setIfInBounds_ne (by omega), Array.getElem?_setIfInBounds_ne (by omega)]; exact h1
    · rw [Array.getElem?_setIfInBounds_ne (by omega), Array.getElem?_setIfInBounds_ne (by omega), Array.getElem?_setIfInBounds_ne (by omega)]; exact h2
theorem EdsIn.at_ {w : World} {g : Nat} {t : TypeId} {cs : Array Value} {es : List Ed} (hb : Blk w g t cs) (h : EdsIn cs es es.length) : EdsAt w w.heap.size (some ⟨g, 0, none⟩) es := fun _ =>
  ⟨g, 0, rfl, hb.lt, fun i hi => by
    obtain ⟨h0, h1, h2⟩ := h.2 i hi hi
    simp only [Nat.zero_add]
    rw [hb.cell, hb.cell, hb.cell]
    exact ⟨h0, h1, h2⟩⟩

theorem Blk.some_ {w : World} {g : Nat} {t : TypeId} {cs : Array Value} (h : Blk w g t cs) {i : Nat} (hi : i < cs.size) : ∃ v, w.cell? ⟨g, i, none⟩ = some v := ⟨cs[i], by rw [h.cell]; exact Array.getElem?_eq_getElem hi⟩
/-- Three cells of a block of the call's own: they may be written. -/
theorem Blk.three {w w' : World} {g B : Nat} {t : TypeId} {cs : Array Value} (h : Blk w g t cs) (hb : Below B w w') (hg : g < B) {i : Nat} (hi : i + 2 < cs.size) :
    Blk w' g t cs ∧ (∃ v, w'.cell? ⟨g, i, none⟩ = some v) ∧ (∃ v, w'.cell? ⟨g, i + 1, none⟩ = some v) ∧ (∃ v, w'.cell? ⟨g, i + 2, none⟩ = some v) ∧
      w'.frozen? ⟨g, i, none⟩ = false ∧ w'.frozen? ⟨g, i + 1, none⟩ = false ∧ w'.frozen? ⟨g, i + 2, none⟩ = false := by
  have h' := h.below hb hg
  exact ⟨h', h'.some_ (by omega), h'.some_ (by omega), h'.some_ (by omega), h'.frozen _, h'.frozen _, h'.frozen _⟩

/-- The cells of the first k systems in block g; their edges lie in later blocks. -/
def SysIn (w : World) (g : Nat) (cs : Array Value) (ss : List Sy) (k : Nat) : Prop :=
  cs.size = ss.length * 3 ∧ ∀ i (h : i < ss.length), i < k → cs[i * 3]? = some (.int .i64 ss[i].al) ∧ cs[i * 3 + 1]? = some (.int .i64 ss[i].st) ∧
    ∃ Ai ci, cs[i * 3 + 2]? = some (.slice Ai ss[i].es.length ci) ∧ ss[i].es.length ≤ ci ∧ ci ≤ 9223372036854775807 ∧ EdsAt w w.heap.size Ai ss[i].es ∧ FreshA (g + 1) Ai
theorem SysIn.later {w w' : World} {g : Nat} {cs : Array Value} {ss : List Sy} {k : Nat} (h : SysIn w g cs ss k) (hb : Below w.heap.size w w') : SysIn w' g cs ss k :=
  ⟨h.1, fun i hi hik => by
    obtain ⟨h0, h1, Ai, ci, h2, h3, h4, h5, h6⟩ := h.2 i hi hik
    exact ⟨h0, h1, Ai, ci, h2, h3, h4, (h5.keep hb).more hb.size, h6⟩⟩
theorem SysIn.set_ {w : World} {g j : Nat} {cs : Array Value} {ss : List Sy} {k : Nat} (h : SysIn w g cs ss k) (v : Value) : SysIn (w.setCell ⟨g, j, none⟩ v) g cs ss k :=
  ⟨h.1, fun i hi hik => by
    obtain ⟨h0, h1, Ai, ci, h2, h3, h4, h5, h6⟩ := h.2 i hi hik
    exact ⟨h0, h1, Ai, ci, h2, h3, h4, h5.setFar h6 v (Nat.lt_succ_self g), h6⟩⟩
theorem SysIn.next {w : World} {g : Nat} {cs : Array Value} {ss : List Sy} {k : Nat} (h : SysIn w g cs ss k) (hk : k < ss.length) {A : Option Addr} {c : Nat} (hl : ss[k].es.length ≤ c) (hc : c ≤ 9223372036854775807) (hA : EdsAt w w.heap.size A ss[k].es) (hf : FreshA (g + 1) A) :
    SysIn w g (((cs.setIfInBounds (k * 3) (.int .i64 ss[k].al)).setIfInBounds (k * 3 + 1) (.int .i64 ss[k].st)).setIfInBounds (k * 3 + 2) (.slice A ss[k].es.length c)) ss (k + 1) := by
  obtain ⟨hs, hcs⟩ := h
  refine ⟨by simpa using hs, fun i hi hik => ?_⟩
  by_cases e : i = k
  · subst e
    refine ⟨?_, ?_, A, c, ?_, hl, hc, hA, hf⟩
    · rw [Array.getElem?_setIfInBounds_ne (by omega), Array.getElem?_setIfInBounds_ne (by omega), Array.getElem?_setIfInBounds_self_of_lt (by omega)]
    · rw [Array.getElem?_setIfInBounds_ne (by omega), Array.getElem?_setIfInBounds_self_of_lt (by simp; omega)]
    · rw [Array.getElem?_setIfInBounds_self_of_lt (by simp; omega)]
  · obtain ⟨h0, h1, Ai, ci, h2, h3, h4, h5, h6⟩ := hcs i hi (by omega)
    refine ⟨?_, ?_, Ai, ci, ?_, h3, h4, h5, h6⟩
    · rw [Array.getElem?_setIfInBounds_ne (by omega), Array.getElem?_setIfInBounds_ne (by omega), Array.getElem?_setIfInBounds_ne (by omega)]; exact h0
    · rw [Array.getElem?_setIfInBounds_ne (by omega), Array.getElem?_setIfInBounds_ne (by omega), Array.getElem?_setIfInBounds_ne (by omega)]; exact h1
    · rw [Array.getElem?_setIfInBounds_ne (by omega), Array.getElem?_setIfInBounds_ne (by omega), Array.getElem?_setIfInBounds_ne (by omega)]; exact h2
theorem SysIn.at_ {w : World} {g : Nat} {t : TypeId} {cs : Array Value} {ss : List Sy} (hb : Blk w g t cs) (h : SysIn w g cs ss ss.length) : SysAt w w.heap.size (some ⟨g, 0, none⟩) ss := fun _ =>
  ⟨g, 0, rfl, hb.lt, fun i hi => by
    obtain ⟨h0, h1, Ai, ci, h2, h3, h4, h5, _⟩ := h.2 i hi hi
    simp only [Nat.zero_add]
    rw [hb.cell, hb.cell, hb.cell]
    exact ⟨h0, h1, Ai, ci, h2, h3, h4, h5⟩⟩
theorem addr_ne {g b i j : Nat} (h : b ≠ g) : (⟨g, i, none⟩ : Addr) ≠ ⟨b, j, none⟩ := fun e => h (by injection e with e1; exact e1.symm)
/-- Stores into the call's own block do not turn what lies elsewhere: an edges' slice of another block. -/
theorem EdsAt.stored {w : World} {B : Nat} {A : Option Addr} {es : List Ed} (h : EdsAt w B A es) {g i : Nat} (v : Value) (hne : ∀ b o, A = some ⟨b, o, none⟩ → 0 < es.length → b ≠ g) : EdsAt (w.setCell ⟨g, i, none⟩ v) B A es := fun hl => by
  obtain ⟨b, o, hA, hb', hE⟩ := h hl
  have := hne b o hA hl
  refine ⟨b, o, hA, hb', fun j hj => ?_⟩
  rw [World.cell?_setCell_other (h := addr_ne this), World.cell?_setCell_other (h := addr_ne this), World.cell?_setCell_other (h := addr_ne this)]
  exact hE j hj

theorem EdsAt.later {w w' : World} {A : Option Addr} {es : List Ed} (h : EdsAt w w.heap.size A es) (hb : Below w.heap.size w w') : EdsAt w' w'.heap.size A es := (h.keep hb).more hb.size
theorem SysAt.later {w w' : World} {A : Option Addr} {ss : List Sy} (h : SysAt w w.heap.size A ss) (hb : Below w.heap.size w w') : SysAt w' w'.heap.size A ss := (h.keep hb).more hb.size

/-- The cells of a table of moves behind the first k edges; the table, below block B. -/
def MvIn (cs : Array Value) (m : Nat → Nat → Nat) : Prop := cs.size = 96 ∧ ∀ q l, q < 16 → l < 6 → cs[q * 6 + l]? = some (.int .i64 (m q l))
theorem MvIn.set_ {cs : Array Value} {m m' : Nat → Nat → Nat} (h : MvIn cs m) {q0 l0 : Nat} (hq : q0 < 16) (hl : l0 < 6) {v : Int} (hv : v = (m' q0 l0 : Int)) (ho : ∀ q l, ¬ (q0 = q ∧ l0 = l) → m' q l = m q l) : MvIn (cs.setIfInBounds (q0 * 6 + l0) (.int .i64 v)) m' := by
  refine ⟨by simpa using h.1, fun q l h1 h2 => ?_⟩
  by_cases e : q0 = q ∧ l0 = l
  · obtain ⟨rfl, rfl⟩ := e
    rw [Array.getElem?_setIfInBounds_self_of_lt (by rw [h.1]; omega), hv]
  · rw [Array.getElem?_setIfInBounds_ne (by omega), h.2 q l h1 h2, ho q l e]
def MvAt (w : World) (B : Nat) (g : Nat) (m : Nat → Nat → Nat) : Prop := g < B ∧ ∀ q l, q < 16 → l < 6 → w.cell? ⟨g, q * 6 + l, none⟩ = some (.int .i64 (m q l))
theorem MvAt.keep {w w' : World} {B g : Nat} {m : Nat → Nat → Nat} (h : MvAt w B g m) (hb : Below B w w') : MvAt w' B g m := ⟨h.1, fun q l h1 h2 => by rw [hb.cell (by simpa using h.1)]; exact h.2 q l h1 h2⟩
theorem MvAt.later {w w' : World} {g : Nat} {m : Nat → Nat → Nat} (h : MvAt w w.heap.size g m) (hb : Below w.heap.size w w') : MvAt w' w'.heap.size g m := ⟨Nat.lt_of_lt_of_le h.1 hb.size, (h.keep hb).2⟩
def MvPost (m : Nat → Nat → Nat) (w : World) (e : Ending) (w' : World) : Prop := ∃ g, e = .returned (.pointer (some ⟨g, 0, none⟩)) ∧ MvAt w' w'.heap.size g m ∧ Below w.heap.size w w'

/-- A search's result: not below 0 exactly where b. -/
def IdxPost (b : Bool) (w : World) (e : Ending) (w' : World) : Prop := ∃ r : Int, e = .returned (.int .i64 r) ∧ decide (0 ≤ r) = b ∧ Below w.heap.size w w'

theorem hid {p : Prop} (h : p) : Hid p := h

theorem ret_bool {a b : Bool} (h : a = b) : Ending.returned (.bool a) = .returned (.bool b) := by rw [h]
theorem ret_int {k : IntKind} {a b : Int} (h : a = b) : Ending.returned (.int k a) = .returned (.int k b) := by rw [h]

theorem ofInt_and_one (x : Int) : bits .and .i64 x 1 = x % 2 := by
  show IntKind.i64.wrap ((BitVec.ofInt 64 x &&& BitVec.ofInt 64 1).toNat : Int) = _
  have h1 : (BitVec.ofInt 64 x &&& BitVec.ofInt 64 1).toNat = (x % 2).toNat := by
    have e1 : (BitVec.ofInt 64 1).toNat = 2 ^ 1 - 1 := by decide
    rw [BitVec.toNat_and, e1, Nat.and_two_pow_sub_one_eq_mod, BitVec.toNat_ofInt]
    omega
  rw [h1, IntKind.wrap_i64]
  omega

theorem wrap_pow {n : Nat} (h : n ≤ 61) : wrap64 ((2 : Int) ^ n) = ((2 ^ n : Nat) : Int) := by
  have h1 : 2 ^ n ≤ 2 ^ 61 := Nat.pow_le_pow_right (by omega) h
  have e : ((2 : Int) ^ n) = ((2 ^ n : Nat) : Int) := by rw [Int.natCast_pow]; rfl
  rw [e]
  generalize 2 ^ n = m at *
  exact IntWalk.wrap64_in _ ⟨by omega, by omega⟩
theorem bits_orN (a b : Nat) (ha : a < 65536) (hb : b < 65536) : bits .or .i64 (a : Int) (b : Int) = ((a ||| b : Nat) : Int) := by
  have hx : a ||| b < 2 ^ 16 := Nat.or_lt_two_pow (by omega) (by omega)
  show IntKind.i64.wrap ((BitVec.ofInt 64 (a : Int) ||| BitVec.ofInt 64 (b : Int)).toNat : Int) = _
  rw [BitVec.toNat_or, BitVec.ofInt_natCast, BitVec.ofInt_natCast, BitVec.toNat_ofNat, BitVec.toNat_ofNat, Nat.mod_eq_of_lt (by omega), Nat.mod_eq_of_lt (by omega), IntKind.wrap_i64]
  omega

theorem bits_andN (a b : Nat) (ha : a < 65536) (hb : b < 65536) : bits .and .i64 (a : Int) (b : Int) = ((a &&& b : Nat) : Int) := by
  have hx : a &&& b < 2 ^ 16 := Nat.and_lt_two_pow _ (by omega)
  show IntKind.i64.wrap ((BitVec.ofInt 64 (a : Int) &&& BitVec.ofInt 64 (b : Int)).toNat : Int) = _
  rw [BitVec.toNat_and, BitVec.ofInt_natCast, BitVec.ofInt_natCast, BitVec.toNat_ofNat, BitVec.toNat_ofNat, Nat.mod_eq_of_lt (by omega), Nat.mod_eq_of_lt (by omega), IntKind.wrap_i64]
  omega

theorem and_one_has (a : Int) (n : Nat) : (bits .and .i64 (a / (2 : Int) ^ n) 1 == 1) = Has a n := by
  rw [ofInt_and_one]; unfold Has; rw [Bool.eq_iff_iff]; simp

end AG

/- Contracts of the small functions on letters, edges and systems (the reference's). -/
namespace Go.Proofs.YtolnlkccbndkcaaDoor
open Go.RowKit AG

set_option maxHeartbeats 400000 in
theorem l1Alphabet_any (a : Int) (w : World) :
    Calls Tryd.prog 118 #[.int .i64 a] w fun e w' => e = .returned (.bool (alphaOk a)) ∧ w = w' := by
  go_enter Tryd.func118, Tryd.ntmps118
  go_wp2
  all_goals go_ret
  all_goals exact ⟨ret_bool (by unfold alphaOk; simp; omega), rfl⟩

set_option maxHeartbeats 400000 in
theorem l1Has_any (a n : Int) (w : World) (h0 : 0 ≤ n) (h1 : n ≤ 63) :
    Calls Tryd.prog 106 #[.int .i64 a, .int .i64 n] w fun e w' => e = .returned (.bool (Has a n.toNat)) ∧ w = w' := by
  go_enter Tryd.func106, Tryd.ntmps106
  go_wp2
  go_ret
  exact ⟨ret_bool (and_one_has _ _), rfl⟩

set_option maxHeartbeats 400000 in
theorem l2Before_any (a b : Ed) (w : World) :
    Calls Tryd.prog 165 #[a.val, b.val] w fun e w' => e = .returned (.bool (edgeLt a b)) ∧ Below w.heap.size w w' := by
  unfold Ed.val
  go_enter Tryd.func165, Tryd.ntmps165
  go_wp2
  all_goals go_ret
  all_goals exact ⟨ret_bool (by unfold edgeLt; simp_all), by (repeat (first | exact Below.refl _ _ | assumption | refine Below.drew ?_ | refine Below.alloc ?_ (by first | omega | (simp; done) | (simp; omega)) _ | refine Below.setCell ?_ (by first | omega | (simp; done) | (simp; omega)) _))⟩

set_option maxHeartbeats 400000 in
theorem l2Edge_any (al st : Int) (a : Ed) (w : World) :
    Calls Tryd.prog 164 #[.int .i64 al, .int .i64 st, a.val] w fun e w' => e = .returned (.bool (edgeOk al st a)) ∧ Below w.heap.size w w' := by
  unfold Ed.val
  go_enter Tryd.func164, Tryd.ntmps164
  go_wp2_with (go_at_call 106; refine (l1Has_any _ _ _ (by omega) (by omega)).mono ?_; rintro e w' ⟨rfl, rfl⟩)
  all_goals go_ret
  all_goals refine ⟨ret_bool (by unfold edgeOk; simp; omega), by (repeat (first | exact Below.refl _ _ | assumption | refine Below.drew ?_ | refine Below.alloc ?_ (by first | omega | (simp; done) | (simp; omega)) _ | refine Below.setCell ?_ (by first | omega | (simp; done) | (simp; omega)) _))⟩

end Go.Proofs.YtolnlkccbndkcaaDoor

/- The reference's l1Letters, l1Text. -/
namespace Go.Proofs.YtolnlkccbndkcaaDoor
open Go.RowKit Go.BigFrame AG

theorem infoInt : (Tryd.prog.info? 3).map (fun i => (i.zero, i.size, i.bytes)) = some (some (.int .i64 0), 1, 8) := by kernel_rfl

/-- The numbers ns, as an owned slice. -/
def OwnNats (w : World) (B : Nat) (v : Value) (ns : List Nat) : Prop := w.ownsRow B 3 1 v ns.length (ns.map fun (n : Nat) => Value.int .i64 (n : Int))

theorem own_block {w : World} {B : Nat} {e : TypeId} {size : Nat} {v : Value} {n : Nat} {xs : List Value} (h : w.ownsRow B e size v n xs) : ∀ k, v.ownBlock = some k → B ≤ k := by
  intro k hk
  obtain ⟨_, ⟨rfl, _⟩ | ⟨g, cap, cur, rfl, hg, _⟩⟩ := h
  · cases hk
  · cases hk
    exact hg

theorem heap_alloc_self (w : World) (o : Obj) : (w.alloc o).heap[w.heap.size]? = some o := by
  unfold World.alloc
  simp

/-- A letter is appended. -/
theorem letters_next {w wr w1 : World} {A : Int} {k : Nat} {v v' : Value} {c : Array Value} {t : TypeId} (hB : w.heap.size ≤ wr.heap.size) (h : Has A k = true) (hown : OwnNats wr w.heap.size v (lettersTo A k)) (hb : Below w.heap.size w wr)
    (hown' : w1.ownsRow w.heap.size 3 1 v' ((lettersTo A k).length + 1) (((lettersTo A k).map fun (n : Nat) => Value.int .i64 (n : Int)) ++ [.int .i64 (k : Int)])) (hg : (wr.alloc (.cells c t)).grownBy w1 v.ownBlock) :
    OwnNats w1 w.heap.size v' (lettersTo A (k + 1)) ∧ Below w.heap.size w w1 := by
  refine ⟨?_, Below.grown (hb.alloc hB _) hg (by simp; omega) (own_block hown)⟩
  unfold OwnNats
  rw [lettersTo_succ, if_pos h, List.length_append, List.map_append]
  exact hown'

set_option maxRecDepth 100000 in
set_option maxHeartbeats 1000000 in
theorem l1Letters_any (A : Int) (w : World) :
    Calls Tryd.prog 78 #[.int .i64 A] w fun e w' => ∃ v, e = .returned v ∧ OwnNats w' w.heap.size v (letters A) ∧ Below w.heap.size w w' := by
  obtain ⟨i0, hi, hz0, hz1, hz2⟩ := info_parts infoInt
  go_enter Tryd.func78, Tryd.ntmps78
  go_wp2_with fail
  go_loopw [3, 4] (fun v i wr => ∃ k : Nat, k ≤ 6 ∧ i = .int .i64 k ∧ OwnNats wr w.heap.size v (lettersTo A k) ∧ Below w.heap.size w wr) (fun _ i _ => 6 - (intOf i).toNat)
  case atStart =>
    refine ⟨0, by omega, rfl, ?_, by (repeat (first | exact Below.refl _ _ | assumption | refine Below.drew ?_ | refine Below.alloc ?_ (by first | omega | (simp; done) | (simp; omega)) _ | refine Below.setCell ?_ (by first | omega | (simp; done) | (simp; omega)) _))⟩
    refine ⟨rfl, .inr ⟨w.heap.size, 0, #[], rfl, Nat.le_refl _, heap_alloc_self _ _, Nat.le_refl _, Nat.zero_le _, rfl, rfl⟩⟩
  case round =>
    obtain ⟨k, hk, rfl, hown, hb⟩ := hrel
    have hz := hb.size
    have hlen := lettersTo_len A k
    by_cases hlt : k < 6
    · cases hH : Has A k
      · replace hH := hid hH
        go_wp2_with (go_at_call 106; refine (l1Has_any A k _ (by omega) (by omega)).mono ?_; rintro e w' ⟨rfl, rfl⟩; rw [Int.toNat_natCast, hH.out])
        refine ⟨⟨k + 1, by omega, by go_num, ?_, hb⟩, by simp [intOf]; omega⟩
        rw [lettersTo_succ, hH.out]
        exact hown
      · replace hH := hid hH
        unfold OwnNats at hown
        go_wp2_with (first
          | (go_at_call 106; refine (l1Has_any A k _ (by omega) (by omega)).mono ?_; rintro e w' ⟨rfl, rfl⟩; rw [Int.toNat_natCast, hH.out])
          | (at_builtin; refine wpList_append_own _ rfl _ _ 62 rfl w.heap.size 3 i0 (.int .i64 0) 1 8 Tryd.underlying62 hi hz0 hz1 hz2 rfl (by decide) _ _ _ rfl (hown.alloc _) ⟨wr.heap.size, 0, none⟩ 1 1 [.int .i64 (k : Int)] rfl rfl ?c1 ?c2 ?c3 ?c4 ?c5 ?_))
        case c1 =>
          intro j u hj
          match j, hj with
          | 0, hj => simp at hj; subst hj; simp [Addr.add]
        case c2 => intro u hu; simp at hu; subst hu; rfl
        case c3 => unfold maxLen; omega
        case c4 => omega
        case c5 => simp; omega
        · intro v' w1 hown' hgrow _
          have R := letters_next hz hH.out hown hb hown' hgrow
          clear hown' hgrow hown hb hlen
          go_wp2
          go_roundw
          case rel => exact ⟨k + 1, by omega, by go_num, R.1, R.2⟩
          case measure => simp [intOf]; omega
    · obtain rfl : k = 6 := by omega
      go_wp2
      go_ret
      exact ⟨_, rfl, hown, hb⟩

end Go.Proofs.YtolnlkccbndkcaaDoor
