/- Lemmas, part 13: several texts in one. -/
import Derived.Test.YtimoekglamdddaaDoorK12
import Derived.Test.YtimoekglamdddaaDoorK2
import Derived.Test.YtimoekglamdddaaDoorK1
import Derived.Test.YtimoekglamdddaaDoorK10
import Derived.Test.YtimoekglamdddaaDoorK4
import Derived.Test.YtimoekglamdddaaDoorK6
import Derived.Test.YtimoekglamdddaaDoorK7
set_option linter.unusedSimpArgs false
set_option linter.unusedVariables false

/- Plain: a system with only its reached states does the same. -/
namespace AG

theorem rank_mono (S : Nat) {a b : Nat} (h : a ≤ b) : rankN S a ≤ rankN S b := by
  induction b with
  | zero => rw [show a = 0 from by omega]; exact Nat.le_refl _
  | succ b ih =>
    by_cases e : a = b + 1
    · rw [e]; exact Nat.le_refl _
    · have := ih (by omega)
      rw [rankN]
      omega
theorem rank_lt {S a b : Nat} (h : a < b) (ha : S.testBit a = true) : rankN S a < rankN S b := by
  have h1 : rankN S (a + 1) = rankN S a + 1 := by rw [rankN, ha]; simp
  have h2 := rank_mono S (show a + 1 ≤ b from h)
  omega
theorem rank_inj {S a b : Nat} (ha : S.testBit a = true) (hb : S.testBit b = true) (h : rankN S a = rankN S b) : a = b := by
  rcases Nat.lt_trichotomy a b with h1 | h1 | h1
  · have := rank_lt h1 ha; omega
  · exact h1
  · have := rank_lt h1 hb; omega

theorem edgeLt_iff (a b : Ed) : edgeLt a b = true ↔ a.f < b.f ∨ (a.f = b.f ∧ (a.l < b.l ∨ (a.l = b.l ∧ a.t < b.t))) := by
  unfold edgeLt
  by_cases h1 : a.f = b.f
  · by_cases h2 : a.l = b.l
    · simp [h1, h2]
    · simp [h1, h2]
  · simp [h1]
theorem edgeLt_trans {a b c : Ed} (h : edgeLt a b = true) (k : edgeLt b c = true) : edgeLt a c = true := by
  rw [edgeLt_iff] at h k ⊢
  omega
theorem edges_pairwise {s : Sy} (h : sysOk s = true) : s.es.Pairwise fun a b => edgeLt a b = true := by
  rw [List.pairwise_iff_getElem]
  intro i j hi hj hij
  induction j with
  | zero => omega
  | succ j ih =>
    have h1 := sysOk_lt h (i := j) (by omega)
    by_cases e : i = j
    · subst e; exact h1
    · exact edgeLt_trans (ih (by omega) (by omega)) h1
theorem sysOk_of {s : Sy} (h1 : alphaOk s.al = true) (h2 : 1 ≤ s.st ∧ s.st ≤ 16) (h3 : ∀ e ∈ s.es, edgeOk s.al s.st e = true) (h4 : s.es.Pairwise fun a b => edgeLt a b = true) : sysOk s = true := by
  unfold sysOk
  refine decide_eq_true ⟨h1, h2.1, h2.2, fun i hi _ => ⟨h3 _ (List.getElem_mem _), fun j hj hji => ?_⟩⟩
  exact List.pairwise_iff_getElem.1 h4 j i hj hi (by omega)

theorem reach_bit {s : Sy} (q : Nat) : (reachAll s).testBit q = true ↔ q < 16 ∧ Rch s s.al 1 q := by
  unfold reachAll reachSet
  exact bitsOf_testBit _ _ _
theorem reach_zero {s : Sy} : (reachAll s).testBit 0 = true := (reach_bit 0).2 ⟨by omega, Rch.start (by decide)⟩
theorem reach_step {s : Sy} (hs : sysOk s = true) {e : Ed} (he : e ∈ s.es) (h : (reachAll s).testBit e.f.toNat = true) : (reachAll s).testBit e.t.toNat = true := by
  obtain ⟨a, b, c, d, e1, f, g, _⟩ := sysOk_in hs e he
  exact (reach_bit _).2 ⟨by omega, Rch.step he g ((reach_bit _).1 h).2⟩

theorem trim_mem {s : Sy} {R : Nat} {e' : Ed} : e' ∈ (trimSy s R).es ↔ ∃ e ∈ s.es, R.testBit e.f.toNat = true ∧ R.testBit e.t.toNat = true ∧ e' = trimE R e := by
  show e' ∈ trimEs R s.es ↔ _
  unfold trimEs
  rw [List.mem_map]
  constructor
  · rintro ⟨e, he, rfl⟩
    rw [List.mem_filter] at he
    unfold keptE at he
    rw [Bool.and_eq_true] at he
    exact ⟨e, he.1, he.2.1, he.2.2, rfl⟩
  · rintro ⟨e, he, h1, h2, rfl⟩
    exact ⟨e, List.mem_filter.2 ⟨he, by unfold keptE; rw [h1, h2]; rfl⟩, rfl⟩

theorem trim_ok {s : Sy} (hs : sysOk s = true) : sysOk (trimSy s (reachAll s)) = true := by
  have hst := sysOk_st hs
  have hin := sysOk_in hs
  refine sysOk_of (by have := hs; unfold sysOk at this; exact (of_decide_eq_true this).1) ?_ (fun e' he' => ?_) ?_
  · show 1 ≤ ((rankN (reachAll s) s.st.toNat : Nat) : Int) ∧ ((rankN (reachAll s) s.st.toNat : Nat) : Int) ≤ 16
    have h1 := rank_lt (S := reachAll s) (a := 0) (b := s.st.toNat) (by omega) reach_zero
    have h2 := rankN_le (reachAll s) s.st.toNat
    omega
  · obtain ⟨e, he, h1, h2, rfl⟩ := trim_mem.1 he'
    obtain ⟨a, b, c, d, e1, f, g, g1, g2⟩ := hin e he
    have r1 := rank_lt (S := reachAll s) (a := e.f.toNat) (b := s.st.toNat) (by omega) h1
    have r2 := rank_lt (S := reachAll s) (a := e.t.toNat) (b := s.st.toNat) (by omega) h2
    unfold edgeOk
    rw [Bool.and_eq_true, decide_eq_true_iff]
    refine ⟨⟨?_, ?_, ?_, ?_, e1, f⟩, g⟩
    · show (0 : Int) ≤ ((rankN (reachAll s) e.f.toNat : Nat) : Int); omega
    · show ((rankN (reachAll s) e.f.toNat : Nat) : Int) < ((rankN (reachAll s) s.st.toNat : Nat) : Int); omega
    · show (0 : Int) ≤ ((rankN (reachAll s) e.t.toNat : Nat) : Int); omega
    · show ((rankN (reachAll s) e.t.toNat : Nat) : Int) < ((rankN (reachAll s) s.st.toNat : Nat) : Int); omega
  · show (trimEs (reachAll s) s.es).Pairwise _
    unfold trimEs
    rw [List.pairwise_map]
    have hp := (edges_pairwise hs).filter (keptE (reachAll s))
    refine hp.imp_of_mem fun {a b} ha hb hlt => ?_
    rw [List.mem_filter] at ha hb
    have ka := ha.2
    have kb := hb.2
    unfold keptE at ka kb
    rw [Bool.and_eq_true] at ka kb
    obtain ⟨a1, a2, a3, a4, _⟩ := hin a ha.1
    obtain ⟨b1, b2, b3, b4, _⟩ := hin b hb.1
    rw [edgeLt_iff] at hlt ⊢
    show ((rankN (reachAll s) a.f.toNat : Nat) : Int) < ((rankN (reachAll s) b.f.toNat : Nat) : Int) ∨ (((rankN (reachAll s) a.f.toNat : Nat) : Int) = ((rankN (reachAll s) b.f.toNat : Nat) : Int) ∧ (a.l < b.l ∨ (a.l = b.l ∧ ((rankN (reachAll s) a.t.toNat : Nat) : Int) < ((rankN (reachAll s) b.t.toNat : Nat) : Int))))
    rcases hlt with h | ⟨h, h'⟩
    · left
      have := rank_lt (S := reachAll s) (a := a.f.toNat) (b := b.f.toNat) (by omega) ka.1
      omega
    · right
      refine ⟨by rw [h], ?_⟩
      rcases h' with h' | ⟨h', h2⟩
      · exact .inl h'
      · refine .inr ⟨h', ?_⟩
        have := rank_lt (S := reachAll s) (a := a.t.toNat) (b := b.t.toNat) (by omega) ka.2
        omega

theorem setW_reach {s : Sy} (hs : sysOk s = true) : ∀ (r : List Nat) (q : Nat), (setW s r).testBit q = true → (reachAll s).testBit q = true
  | [], q, h => by
    have : q = 0 := by
      have := testBit_lt (n := 1) (S := 1) (by decide) h
      omega
    rw [this]
    exact reach_zero
  | l :: r, q, h => by
    have h' : (stepSet s (setW s r) (l : Int)).testBit q = true := h
    unfold stepSet at h'
    rw [bitsOf_testBit] at h'
    obtain ⟨_, e, he, _, hf, rfl⟩ := h'
    exact reach_step hs he (setW_reach hs r _ hf)
/-- The trimmed system's states are the ranks of the system's. -/
theorem setW_trim {s : Sy} (hs : sysOk s = true) : ∀ (r : List Nat) (t' : Nat), (setW (trimSy s (reachAll s)) r).testBit t' = true ↔ ∃ q, (setW s r).testBit q = true ∧ rankN (reachAll s) q = t'
  | [], t' => by
    show (1 : Nat).testBit t' = true ↔ _
    constructor
    · intro h
      have : t' = 0 := by
        have := testBit_lt (n := 1) (S := 1) (by decide) h
        omega
      exact ⟨0, (by show (1 : Nat).testBit 0 = true; decide), by rw [this]; rfl⟩
    · rintro ⟨q, hq, rfl⟩
      have : q = 0 := by
        have := testBit_lt (n := 1) (S := 1) (by decide) hq
        omega
      rw [this]
      show (1 : Nat).testBit 0 = true
      decide
  | l :: r, t' => by
    have ih := setW_trim hs r
    show (stepSet (trimSy s (reachAll s)) (setW (trimSy s (reachAll s)) r) (l : Int)).testBit t' = true ↔ ∃ q, (stepSet s (setW s r) (l : Int)).testBit q = true ∧ _
    unfold stepSet
    rw [bitsOf_testBit]
    constructor
    · rintro ⟨_, e', he', hl, hf, ht⟩
      obtain ⟨e, he, h1, h2, rfl⟩ := trim_mem.1 he'
      have hf' : (setW (trimSy s (reachAll s)) r).testBit (rankN (reachAll s) e.f.toNat) = true := hf
      obtain ⟨q, hq, hr⟩ := (ih _).1 hf'
      have hqf := rank_inj (setW_reach hs r q hq) h1 hr
      subst hqf
      refine ⟨e.t.toNat, ?_, ht⟩
      rw [bitsOf_testBit]
      obtain ⟨a, b, c, d, _⟩ := sysOk_in hs e he
      exact ⟨by omega, e, he, hl, hq, rfl⟩
    · rintro ⟨q, hq, rfl⟩
      rw [bitsOf_testBit] at hq
      obtain ⟨hq16, e, he, hl, hf, rfl⟩ := hq
      have h1 := setW_reach hs r _ hf
      have h2 := reach_step hs he h1
      have h3 := rankN_le (reachAll s) e.t.toNat
      exact ⟨by omega, trimE (reachAll s) e, trim_mem.2 ⟨e, he, h1, h2, rfl⟩, hl, (ih _).2 ⟨_, hf, rfl⟩, rfl⟩
theorem setW_same {s : Sy} (hs : sysOk s = true) (r : List Nat) : setW (trimSy s (reachAll s)) r = 0 ↔ setW s r = 0 := by
  constructor
  · intro h
    refine Nat.eq_of_testBit_eq fun q => ?_
    rw [Nat.zero_testBit, ← Bool.not_eq_true]
    intro hq
    have := (setW_trim hs r _).2 ⟨q, hq, rfl⟩
    rw [h, Nat.zero_testBit] at this
    cases this
  · intro h
    refine Nat.eq_of_testBit_eq fun q => ?_
    rw [Nat.zero_testBit, ← Bool.not_eq_true]
    intro hq
    obtain ⟨p, hp, _⟩ := (setW_trim hs r q).1 hq
    rw [h, Nat.zero_testBit] at hp
    cases hp
theorem reach_trim {s : Sy} (hs : sysOk s = true) {q : Nat} (hq : (reachAll s).testBit q = true) : (reachAll (trimSy s (reachAll s))).testBit (rankN (reachAll s) q) = true := by
  have h := ((reach_bit q).1 hq).2
  have := h (fun q => (reachAll s).testBit q = true ∧ (reachAll (trimSy s (reachAll s))).testBit (rankN (reachAll s) q) = true) (fun x hx => by
    have : x = 0 := by
      have := testBit_lt (n := 1) (S := 1) (by decide) hx
      omega
    rw [this]
    exact ⟨reach_zero, reach_zero⟩) (fun e he _ hf => by
    have h2 := reach_step hs he hf.1
    refine ⟨h2, ?_⟩
    exact reach_step (trim_ok hs) (e := trimE (reachAll s) e) (trim_mem.2 ⟨e, he, hf.1, h2, rfl⟩) hf.2)
  exact this.2

/-- No two edges from a reached state have one letter. -/
def DetP (s : Sy) : Prop := ∀ a ∈ s.es, ∀ b ∈ s.es, (reachAll s).testBit a.f.toNat = true → a.f = b.f → a.l = b.l → a = b
theorem detAt_iff {s : Sy} (hs : sysOk s = true) : detAt s (reachAll s) s.es.length ↔ DetP s := by
  have hp := List.pairwise_iff_getElem.1 (edges_pairwise hs)
  constructor
  · intro h a ha b hb hr hf hl
    obtain ⟨i, hi, rfl⟩ := List.getElem_of_mem ha
    obtain ⟨j, hj, rfl⟩ := List.getElem_of_mem hb
    have key : ∀ i j (hi : i < s.es.length) (hj : j < s.es.length), i < j → (reachAll s).testBit s.es[i].f.toNat = true → s.es[i].f = s.es[j].f → s.es[i].l = s.es[j].l → False := by
      intro i j hi hj hij hr hf hl
      refine h i (by omega) (by omega) ⟨by rw [Has_nat]; exact hr, ?_⟩
      have h1 := hp i (i + 1) hi (by omega) (by omega)
      by_cases e : i + 1 = j
      · subst e; exact ⟨hf, hl⟩
      · have h2 := hp (i + 1) j (by omega) hj (by omega)
        rw [edgeLt_iff] at h1 h2
        constructor <;> omega
    rcases Nat.lt_trichotomy i j with e | e | e
    · exact (key i j hi hj e hr hf hl).elim
    · subst e; rfl
    · exact (key j i hj hi e (by rw [← hf]; exact hr) hf.symm hl.symm).elim
  · intro h i hi _ ⟨h1, h2, h3⟩
    rw [Has_nat] at h1
    have e := h _ (List.getElem_mem _) _ (List.getElem_mem hi) h1 h2 h3
    have h4 := hp i (i + 1) (by omega) hi (by omega)
    rw [e, edgeLt_iff] at h4
    omega
theorem detP_trim {s : Sy} (hs : sysOk s = true) : DetP (trimSy s (reachAll s)) ↔ DetP s := by
  have hin := sysOk_in hs
  constructor
  · intro h a ha b hb hr hf hl
    have hra : (reachAll s).testBit b.f.toNat = true := by rw [← hf]; exact hr
    have ta := reach_step hs ha hr
    have tb := reach_step hs hb hra
    have e := h (trimE (reachAll s) a) (trim_mem.2 ⟨a, ha, hr, ta, rfl⟩) (trimE (reachAll s) b) (trim_mem.2 ⟨b, hb, hra, tb, rfl⟩) (reach_trim hs hr) (by show ((rankN (reachAll s) a.f.toNat : Nat) : Int) = ((rankN (reachAll s) b.f.toNat : Nat) : Int); rw [hf]) hl
    have e2 : ((rankN (reachAll s) a.t.toNat : Nat) : Int) = ((rankN (reachAll s) b.t.toNat : Nat) : Int) := congrArg Ed.t e
    have e3 := rank_inj ta tb (by omega)
    obtain ⟨_, _, a3, _⟩ := hin a ha
    obtain ⟨_, _, b3, _⟩ := hin b hb
    have e4 : a.t = b.t := by omega
    cases a
    cases b
    simp only at hf hl e4
    rw [hf, hl, e4]
  · intro h a' ha' b' hb' _ hf hl
    obtain ⟨a, ha, a1, a2, rfl⟩ := trim_mem.1 ha'
    obtain ⟨b, hb, b1, b2, rfl⟩ := trim_mem.1 hb'
    have hf' : ((rankN (reachAll s) a.f.toNat : Nat) : Int) = ((rankN (reachAll s) b.f.toNat : Nat) : Int) := hf
    have e := rank_inj a1 b1 (by omega)
    obtain ⟨c1, _⟩ := hin a ha
    obtain ⟨d1, _⟩ := hin b hb
    rw [h a ha b hb a1 (by omega) hl]
theorem detB_trim {s : Sy} (hs : sysOk s = true) : detB (trimSy s (reachAll s)) = detB s := by
  have e : detAt (trimSy s (reachAll s)) (reachAll (trimSy s (reachAll s))) (trimSy s (reachAll s)).es.length = detAt s (reachAll s) s.es.length := propext ((detAt_iff (trim_ok hs)).trans ((detP_trim hs).trans (detAt_iff hs).symm))
  unfold detB
  rw [hs, trim_ok hs, Bool.true_and, Bool.true_and]
  exact decide_eq_decide.2 (by rw [e])

end AG

/- Plain: letters of alphabets of lists of systems. -/
namespace AG

theorem Has_or {a b : Int} (ha : 0 ≤ a) (hb : 0 ≤ b) (c : Nat) : Has (orB a b) c = (Has a c || Has b c) := by
  obtain ⟨a, rfl⟩ := Int.eq_ofNat_of_zero_le ha
  obtain ⟨b, rfl⟩ := Int.eq_ofNat_of_zero_le hb
  unfold orB
  rw [Int.toNat_natCast, Int.toNat_natCast, Has_nat, Has_nat, Has_nat, Nat.testBit_or]
theorem Has_and {a b : Int} (ha : 0 ≤ a) (hb : 0 ≤ b) (c : Nat) : Has (andB a b) c = (Has a c && Has b c) := by
  obtain ⟨a, rfl⟩ := Int.eq_ofNat_of_zero_le ha
  obtain ⟨b, rfl⟩ := Int.eq_ofNat_of_zero_le hb
  unfold andB
  rw [Int.toNat_natCast, Int.toNat_natCast, Has_nat, Has_nat, Has_nat, Nat.testBit_and]
theorem Has_zero (c : Nat) : Has 0 c = false := by
  have := Has_nat 0 c
  rw [Nat.zero_testBit] at this
  exact this

/-- How many of the systems have the letter c. -/
def cntAl (ss : List Sy) (c : Nat) : Nat := ss.countP fun s => Has s.al c
theorem cntAl_snoc (ss : List Sy) (s : Sy) (c : Nat) : cntAl (ss ++ [s]) c = cntAl ss c + if Has s.al c = true then 1 else 0 := by
  unfold cntAl
  rw [List.countP_append]
  simp [List.countP_cons]

theorem Has_all : ∀ (ss : List Sy) (c : Nat), ss.all sysOk = true → Has (allAl ss) c = decide (0 < cntAl ss c) ∧ Has (sharedAl ss) c = decide (1 < cntAl ss c) := by
  intro ss c
  induction hn : ss.length generalizing ss with
  | zero =>
    intro _
    obtain rfl : ss = [] := List.eq_nil_of_length_eq_zero hn
    exact ⟨Has_zero c, Has_zero c⟩
  | succ n ih =>
    intro hall
    have hne : ss ≠ [] := fun e => by rw [e] at hn; cases hn
    obtain ⟨ts, s, rfl⟩ : ∃ ts s, ss = ts ++ [s] := ⟨ss.dropLast, ss.getLast hne, (List.dropLast_concat_getLast hne).symm⟩
    have hts : ts.all sysOk = true := by rw [List.all_append, Bool.and_eq_true] at hall; exact hall.1
    have hs : sysOk s = true := by rw [List.all_append, Bool.and_eq_true] at hall; simpa using hall.2
    obtain ⟨h1, h2⟩ := ih ts (by simpa using hn) hts
    have r1 := allAl_range ts hts
    have r2 := sharedAl_range ts hts
    have r3 := sysOk_alpha hs
    have r4 := andB_range (a := allAl ts) r3
    rw [allAl_snoc, sharedAl_snoc, Has_or (by omega) (by omega), Has_or (by omega) (by omega), Has_and (by omega) (by omega), h1, h2, cntAl_snoc]
    cases hH : Has s.al c
    · simp
    · constructor
      · simp
      · rw [Bool.eq_iff_iff]
        simp
        omega

theorem partsAl_one {s : Sy} (h : sysOk s = true) : partsAl [s] = s.al := by
  have r := sysOk_alpha h
  have : partsOk [s] = true := by simp [partsOk, h]
  unfold partsAl
  rw [if_pos this]
  show orB 0 s.al = s.al
  unfold orB
  simp
  omega

end AG

/- Plain: one part alone. -/
namespace AG

theorem keptTo_all {w : ByteArray} {al : Int} : ∀ k, k ≤ w.size → (∀ i, i < k → HasZ al (ltr w i) = true) → keptTo w al k = w.data.toList.take k
  | 0, _, _ => by simp [keptTo]
  | k + 1, hk, h => by
    have ih := keptTo_all (w := w) (al := al) k (by omega) fun i hi => h i (by omega)
    have hk' : k < w.data.size := by have : w.size = w.data.size := rfl; omega
    rw [keptTo, if_pos (h k (by omega)), ih, List.take_succ_eq_append_getElem (by simpa using hk')]
    have e : w.data.getD k 0 = w.data.toList[k]'(by simpa using hk') := by
      rw [Array.getD_eq_getD_getElem?, Array.getElem?_eq_getElem hk']
      simp
    rw [e]
theorem restr_within {w : ByteArray} {al : Int} (h : within w al = true) : restr w al = w := by
  unfold within at h
  obtain ⟨-, -, h3⟩ := of_decide_eq_true h
  have := keptTo_all (w := w) (al := al) w.size (Nat.le_refl _) h3
  unfold restr
  rw [this]
  have e : w.data.toList.take w.size = w.data.toList := List.take_of_length_le (by simp)
  rw [e]
theorem hasTr_ok {s : Sy} {w : ByteArray} (h : hasTr s w = true) : sysOk s = true ∧ within w s.al = true := by
  unfold hasTr at h
  have h := of_decide_eq_true h
  unfold aft at h
  cases h1 : sysOk s <;> cases h2 : within w s.al <;> simp [h1, h2] at h ⊢
theorem hasTr_bad {s : Sy} (w : ByteArray) (h : sysOk s = false) : hasTr s w = false := by
  cases hb : hasTr s w with
  | false => rfl
  | true => rw [(hasTr_ok hb).1] at h; cases h

theorem allAl_one {s : Sy} (h : sysOk s = true) : allAl [s] = s.al := by
  have r := sysOk_alpha h
  show orB 0 s.al = s.al
  unfold orB
  simp
  omega
theorem allAl_two {s : Sy} (h : sysOk s = true) : allAl [s, s] = s.al := by
  have r := sysOk_alpha h
  have h0 : orB 0 s.al = s.al := allAl_one h
  show orB (orB 0 s.al) s.al = s.al
  rw [h0]
  unfold orB
  rw [Nat.or_self]
  omega
theorem trParts_same {s : Sy} {ss : List Sy} {w : ByteArray} (hs : sysOk s = true) (hp : partsOk ss = true) (ha : allAl ss = s.al) (he : ∀ x ∈ ss, x = s) (hn : 0 < ss.length) : trParts ss w = hasTr s w := by
  unfold trParts
  rw [Bool.eq_iff_iff, decide_eq_true_iff, ha]
  constructor
  · rintro ⟨-, h2, h3⟩
    have := h3 0 hn
    rw [he _ (List.getElem_mem _), restr_within h2] at this
    exact this
  · intro h
    have h2 := (hasTr_ok h).2
    refine ⟨hp, h2, fun i hi => ?_⟩
    rw [he _ (List.getElem_mem _), restr_within h2]
    exact h
theorem trParts_one (s : Sy) (w : ByteArray) : trParts [s] w = hasTr s w := by
  cases hs : sysOk s with
  | true => exact trParts_same hs (by simp [partsOk, hs]) (allAl_one hs) (by simp) (by simp)
  | false =>
    rw [hasTr_bad w hs]
    unfold trParts
    exact decide_eq_false fun h => by have := h.1; simp [partsOk, hs] at this
theorem trParts_two {s : Sy} (hs : sysOk s = true) (w : ByteArray) : trParts [s, s] w = hasTr s w :=
  trParts_same hs (by simp [partsOk, hs]) (allAl_two hs) (by simp) (by simp)

end AG

/- Plain: words as lists: prefixes, restrictions of restrictions, lists of systems in another order, words that are merged. -/
namespace AG

/-- The letter of a byte, -1 if there is none. -/
def bl (b : UInt8) : Int := if lOk ((b.toNat : Int) - 97) = true then (b.toNat : Int) - 97 else -1
def pk (al : Int) (b : UInt8) : Bool := HasZ al (bl b)
theorem pk_at (w : ByteArray) (al : Int) (i : Nat) : HasZ al (ltr w i) = pk al (w.data.getD i 0) := rfl
theorem getD_list {w : ByteArray} {i : Nat} (h : i < w.size) : ∃ h' : i < w.data.toList.length, w.data.getD i 0 = w.data.toList[i]'h' := by
  have hk' : i < w.data.size := h
  refine ⟨by simpa using hk', ?_⟩
  rw [Array.getD_eq_getD_getElem?, Array.getElem?_eq_getElem hk']
  simp
theorem size_list (w : ByteArray) : w.data.toList.length = w.size := by simp
theorem word_ext {a b : ByteArray} (h : a.data.toList = b.data.toList) : a = b := by
  obtain ⟨⟨a⟩⟩ := a
  obtain ⟨⟨b⟩⟩ := b
  cases h
  rfl

theorem keptTo_filter (w : ByteArray) (al : Int) : ∀ k, k ≤ w.size → keptTo w al k = (w.data.toList.take k).filter (pk al)
  | 0, _ => by simp [keptTo]
  | k + 1, hk => by
    have ih := keptTo_filter w al k (by omega)
    obtain ⟨h', e⟩ := getD_list (w := w) (i := k) (by omega)
    rw [keptTo, ih, List.take_succ_eq_append_getElem h', List.filter_append, pk_at, e]
    generalize w.data.toList[k]'h' = b
    cases h : pk al b <;> simp [h]
theorem restr_list (w : ByteArray) (al : Int) : (restr w al).data.toList = w.data.toList.filter (pk al) := by
  have := keptTo_filter w al w.size (Nat.le_refl _)
  unfold restr
  rw [this, List.take_of_length_le (by rw [size_list]; omega)]
theorem within_list (w : ByteArray) (al : Int) : within w al = true ↔ alphaOk al = true ∧ w.size ≤ 50000 ∧ ∀ b ∈ w.data.toList, pk al b = true := by
  unfold within
  rw [decide_eq_true_iff]
  constructor
  · rintro ⟨h1, h2, h3⟩
    refine ⟨h1, h2, fun b hb => ?_⟩
    obtain ⟨i, hi, rfl⟩ := List.getElem_of_mem hb
    have hi' : i < w.size := by rw [size_list] at hi; exact hi
    obtain ⟨h', e⟩ := getD_list hi'
    have := h3 i hi'
    rw [pk_at, e] at this
    exact this
  · rintro ⟨h1, h2, h3⟩
    refine ⟨h1, h2, fun i hi => ?_⟩
    obtain ⟨h', e⟩ := getD_list hi
    rw [pk_at, e]
    exact h3 _ (List.getElem_mem _)

/-- The states behind a list of bytes. -/
noncomputable def runL (s : Sy) (l : List UInt8) : Nat := l.foldl (fun S b => stepSet s S ((b.toNat : Int) - 97)) 1
theorem runTo_list (s : Sy) (w : ByteArray) : ∀ k, k ≤ w.size → runTo s w k = runL s (w.data.toList.take k)
  | 0, _ => rfl
  | k + 1, hk => by
    have ih := runTo_list s w k (by omega)
    obtain ⟨h', e⟩ := getD_list (w := w) (i := k) (by omega)
    rw [List.take_succ_eq_append_getElem h']
    unfold runL at ih ⊢
    rw [List.foldl_append, ← ih]
    show stepSet s (runTo s w k) (lz w k) = stepSet s _ _
    unfold lz
    rw [e]
theorem runTo_all (s : Sy) (w : ByteArray) : runTo s w w.size = runL s w.data.toList := by
  rw [runTo_list s w _ (Nat.le_refl _), List.take_of_length_le (by rw [size_list]; omega)]
theorem foldl_none (s : Sy) : ∀ l : List UInt8, l.foldl (fun S b => stepSet s S ((b.toNat : Int) - 97)) 0 = 0
  | [] => rfl
  | b :: l => by rw [List.foldl_cons, stepSet_of0]; exact foldl_none s l
theorem runL_more {s : Sy} {l : List UInt8} (m : List UInt8) (h : runL s (l ++ m) ≠ 0) : runL s l ≠ 0 := fun e => h (by
  unfold runL at e ⊢
  rw [List.foldl_append, e, foldl_none])

theorem hasTr_list (s : Sy) (w : ByteArray) : hasTr s w = true ↔ sysOk s = true ∧ within w s.al = true ∧ runL s w.data.toList ≠ 0 := by
  constructor
  · intro h
    obtain ⟨h1, h2⟩ := hasTr_ok h
    refine ⟨h1, h2, ?_⟩
    unfold hasTr at h
    have h := of_decide_eq_true h
    unfold aft at h
    rw [h1, h2] at h
    rw [← runTo_all]
    simpa using h
  · rintro ⟨h1, h2, h3⟩
    unfold hasTr aft
    rw [h1, h2, runTo_all]
    exact decide_eq_true (by simpa using h3)
theorem trParts_list (ss : List Sy) (w : ByteArray) : trParts ss w = true ↔ partsOk ss = true ∧ within w (allAl ss) = true ∧ ∀ s ∈ ss, hasTr s (restr w s.al) = true := by
  unfold trParts
  rw [decide_eq_true_iff]
  constructor
  · rintro ⟨h1, h2, h3⟩
    refine ⟨h1, h2, fun s hs => ?_⟩
    obtain ⟨i, hi, rfl⟩ := List.getElem_of_mem hs
    exact h3 i hi
  · rintro ⟨h1, h2, h3⟩
    exact ⟨h1, h2, fun i hi => h3 _ (List.getElem_mem _)⟩

/-- A word begins another. -/
def Pre (x y : ByteArray) : Prop := ∃ m, y.data.toList = x.data.toList ++ m
theorem Pre.within {x y : ByteArray} {al : Int} (h : Pre x y) (hy : AG.within y al = true) : AG.within x al = true := by
  obtain ⟨m, hm⟩ := h
  rw [within_list] at hy ⊢
  have h1 := size_list x
  have h2 := size_list y
  rw [hm, List.length_append] at h2
  refine ⟨hy.1, by have := hy.2.1; omega, fun b hb => hy.2.2 b (by rw [hm]; exact List.mem_append_left _ hb)⟩
theorem Pre.hasTr {x y : ByteArray} {s : Sy} (h : Pre x y) (hy : AG.hasTr s y = true) : AG.hasTr s x = true := by
  rw [hasTr_list] at hy ⊢
  obtain ⟨m, hm⟩ := h
  exact ⟨hy.1, Pre.within ⟨m, hm⟩ hy.2.1, runL_more m (by rw [← hm]; exact hy.2.2)⟩
theorem Pre.restr {x y : ByteArray} (h : Pre x y) (al : Int) : Pre (AG.restr x al) (AG.restr y al) := by
  obtain ⟨m, hm⟩ := h
  exact ⟨m.filter (pk al), by rw [restr_list, restr_list, hm, List.filter_append]⟩
theorem Pre.trParts {x y : ByteArray} {ss : List Sy} (h : Pre x y) (hy : AG.trParts ss y = true) : AG.trParts ss x = true := by
  rw [trParts_list] at hy ⊢
  exact ⟨hy.1, h.within hy.2.1, fun s hs => (h.restr _).hasTr (hy.2.2 s hs)⟩

/-- Alphabets of lists of systems: order counts for nothing, a system's letters are among them. -/
theorem Has_ext {a b : Int} (ha : 0 ≤ a ∧ a ≤ 63) (hb : 0 ≤ b ∧ b ≤ 63) (h : ∀ c, Has a c = Has b c) : a = b := by
  obtain ⟨a, rfl⟩ := Int.eq_ofNat_of_zero_le ha.1
  obtain ⟨b, rfl⟩ := Int.eq_ofNat_of_zero_le hb.1
  have : a = b := Nat.eq_of_testBit_eq fun i => by have := h i; rwa [Has_nat, Has_nat] at this
  rw [this]
theorem allAl_perm {ss ts : List Sy} (h : ss.Perm ts) (hall : ss.all sysOk = true) : allAl ss = allAl ts := by
  have hall' : ts.all sysOk = true := by rw [List.all_eq_true] at hall ⊢; exact fun x hx => hall x (h.mem_iff.2 hx)
  refine Has_ext (allAl_range _ hall) (allAl_range _ hall') fun c => ?_
  rw [(Has_all ss c hall).1, (Has_all ts c hall').1]
  unfold cntAl
  rw [h.countP_eq]
theorem partsOk_perm {ss ts : List Sy} (h : ss.Perm ts) : partsOk ss = partsOk ts := by
  unfold partsOk
  rw [h.length_eq]
  congr 1
  rw [Bool.eq_iff_iff, List.all_eq_true, List.all_eq_true]
  exact ⟨fun k x hx => k x (h.mem_iff.2 hx), fun k x hx => k x (h.mem_iff.1 hx)⟩
theorem partsOk_all {ss : List Sy} (h : partsOk ss = true) : ss.all sysOk = true := by
  unfold partsOk at h
  rw [Bool.and_eq_true] at h
  exact h.2
theorem partsAl_perm {ss ts : List Sy} (h : ss.Perm ts) : partsAl ss = partsAl ts := by
  unfold partsAl
  rw [partsOk_perm h]
  split
  · rename_i hk
    rw [← partsOk_perm h] at hk
    exact allAl_perm h (partsOk_all hk)
  · rfl
theorem trParts_perm {ss ts : List Sy} (h : ss.Perm ts) (w : ByteArray) : trParts ss w = trParts ts w := by
  rw [Bool.eq_iff_iff, trParts_list, trParts_list, partsOk_perm h]
  constructor
  · rintro ⟨h1, h2, h3⟩
    refine ⟨h1, ?_, fun s hs => h3 s (h.mem_iff.2 hs)⟩
    rw [← allAl_perm h (partsOk_all ((partsOk_perm h).trans h1))]
    exact h2
  · rintro ⟨h1, h2, h3⟩
    refine ⟨h1, ?_, fun s hs => h3 s (h.mem_iff.1 hs)⟩
    rw [allAl_perm h (partsOk_all ((partsOk_perm h).trans h1))]
    exact h2

theorem HasZ_sub {al al' x : Int} (h : ∀ c, Has al c = true → Has al' c = true) (hx : HasZ al x = true) : HasZ al' x = true := by
  unfold HasZ at hx ⊢
  rw [Bool.and_eq_true] at hx ⊢
  exact ⟨hx.1, h _ hx.2⟩
theorem Has_part {ss : List Sy} {s : Sy} (hall : ss.all sysOk = true) (hs : s ∈ ss) (c : Nat) (h : Has s.al c = true) : Has (allAl ss) c = true := by
  rw [(Has_all ss c hall).1]
  refine decide_eq_true ?_
  unfold cntAl
  exact List.countP_pos_iff.2 ⟨s, hs, h⟩
theorem restr_restr {w : ByteArray} {al al' : Int} (h : ∀ c, Has al c = true → Has al' c = true) : restr (restr w al') al = restr w al := by
  apply word_ext
  rw [restr_list, restr_list, restr_list, List.filter_filter]
  congr 1
  funext b
  cases hb : pk al b with
  | false => rfl
  | true => rw [show pk al' b = true from HasZ_sub h hb]; rfl
theorem alphaOk_range {a : Int} : alphaOk a = true ↔ 0 ≤ a ∧ a ≤ 63 := by unfold alphaOk; exact decide_eq_true_iff
theorem restr_within_self {w : ByteArray} {al : Int} (ha : 0 ≤ al ∧ al ≤ 63) (hw : w.size ≤ 50000) : within (restr w al) al = true := by
  rw [within_list]
  refine ⟨alphaOk_range.2 ha, ?_, fun b hb => ?_⟩
  · have h1 := size_list (restr w al)
    have h2 := size_list w
    rw [restr_list] at h1
    have := List.length_filter_le (pk al) w.data.toList
    omega
  · rw [restr_list, List.mem_filter] at hb
    exact hb.2
/-- Fewer parts do no less. -/
theorem trParts_tail {s : Sy} {ss : List Sy} {w : ByteArray} (h : trParts (s :: ss) w = true) (hn : ss ≠ []) : partsOk ss = true ∧ trParts ss (restr w (allAl ss)) = true := by
  rw [trParts_list] at h
  obtain ⟨h1, h2, h3⟩ := h
  have hp : partsOk ss = true := by
    unfold partsOk at h1 ⊢
    simp only [List.length_cons, List.all_cons, Bool.and_eq_true, decide_eq_true_eq] at h1 ⊢
    have : 0 < ss.length := List.length_pos_iff.2 hn
    refine ⟨?_, h1.2.2⟩
    have := h1.1
    omega
  have hall := partsOk_all hp
  refine ⟨hp, ?_⟩
  rw [trParts_list]
  refine ⟨hp, restr_within_self (allAl_range _ hall) (within_size h2), fun t ht => ?_⟩
  rw [restr_restr (fun c hc => Has_part hall ht c hc)]
  exact h3 t (List.mem_cons_of_mem _ ht)

end AG

/- Plain: the words over some letters in their order, and the first trace outside among them. -/
namespace Go.Proofs.YtimoekglamdddaaDoor
open AG

/-- The n-th word over the letters L, its last letter first. -/
def wAt (L : List Nat) : Nat → List Nat
  | 0 => []
  | n + 1 => L.getD (n % L.length) 0 :: wAt L (n / L.length)
termination_by n => n
decreasing_by exact Nat.lt_succ_of_le (Nat.div_le_self _ _)
theorem wAt_zero (L : List Nat) : wAt L 0 = [] := by rw [wAt]
theorem wAt_succ (L : List Nat) (n : Nat) : wAt L (n + 1) = L.getD (n % L.length) 0 :: wAt L (n / L.length) := by rw [wAt]
theorem wAt_mem {L : List Nat} (hL : 0 < L.length) (n : Nat) : ∀ l ∈ wAt L n, l ∈ L := by
  induction n using Nat.strongRecOn with
  | ind n ih =>
    intro l hl
    cases n with
    | zero => rw [wAt_zero] at hl; cases hl
    | succ n =>
      rw [wAt_succ] at hl
      rcases List.mem_cons.1 hl with rfl | hl
      · have := Nat.mod_lt n hL
        rw [List.getD_eq_getElem?_getD, List.getElem?_eq_getElem this]
        exact List.getElem_mem _
      · exact ih _ (Nat.lt_succ_of_le (Nat.div_le_self _ _)) l hl
theorem wAt_all {L : List Nat} : ∀ r : List Nat, (∀ l ∈ r, l ∈ L) → ∃ j, wAt L j = r
  | [], _ => ⟨0, wAt_zero L⟩
  | l :: r, h => by
    obtain ⟨j, hj⟩ := wAt_all r fun x hx => h x (List.mem_cons_of_mem _ hx)
    obtain ⟨p, hp, rfl⟩ := List.getElem_of_mem (h l List.mem_cons_self)
    refine ⟨L.length * j + p + 1, ?_⟩
    rw [wAt_succ, Nat.mul_add_mod, Nat.mod_eq_of_lt hp, Nat.mul_add_div (by omega), Nat.div_eq_of_lt hp, Nat.add_zero, hj, List.getD_eq_getElem?_getD, List.getElem?_eq_getElem hp]
    rfl
theorem wAt_lt {L : List Nat} (hL : 0 < L.length) (hs : L.Pairwise (· < ·)) (j : Nat) : ∀ i, i < j → rlt (wAt L i) (wAt L j) := by
  induction j using Nat.strongRecOn with
  | ind j ih =>
    intro i hij
    obtain ⟨j, rfl⟩ : ∃ j', j = j' + 1 := ⟨j - 1, by omega⟩
    rw [wAt_succ]
    cases i with
    | zero => rw [wAt_zero]; exact rlt_nil _ _
    | succ i =>
      rw [wAt_succ]
      have hle : i / L.length ≤ j / L.length := Nat.div_le_div_right (by omega)
      by_cases he : i / L.length = j / L.length
      · refine .inr ⟨by rw [he], ?_⟩
        have m1 := Nat.mod_lt i hL
        have m2 := Nat.mod_lt j hL
        have d1 := Nat.div_add_mod i L.length
        have d2 := Nat.div_add_mod j L.length
        rw [he] at d1
        rw [List.getD_eq_getElem?_getD, List.getElem?_eq_getElem m1, List.getD_eq_getElem?_getD, List.getElem?_eq_getElem m2]
        exact List.pairwise_iff_getElem.1 hs _ _ m1 m2 (by omega)
      · exact .inl (ih _ (Nat.lt_succ_of_le (Nat.div_le_self _ _)) _ (by omega))

theorem letters_ok {A : Int} {l : Nat} : l ∈ letters A ↔ l < 6 ∧ Has A l = true := by
  unfold letters lettersTo
  rw [List.mem_filter, List.mem_range]
theorem letB_num {l : Nat} (h : l < 6) : ((letB l).toNat : Int) - 97 = l := by
  unfold letB
  rw [UInt8.toNat_ofNat', Nat.mod_eq_of_lt (by omega)]
  omega
theorem bl_letB {l : Nat} (h : l < 6) : bl (letB l) = l := by
  unfold bl
  rw [letB_num h]
  have : lOk (l : Int) = true := by unfold lOk; exact decide_eq_true (by omega)
  rw [if_pos this]
theorem wordS_list (r : List Nat) : (wordS r).data.toList = r.reverse.map letB := rfl
theorem runL_setW (s : Sy) : ∀ r : List Nat, (∀ l ∈ r, l < 6) → runL s (r.reverse.map letB) = setW s r
  | [], _ => rfl
  | l :: r, h => by
    have ih := runL_setW s r fun x hx => h x (List.mem_cons_of_mem _ hx)
    rw [List.reverse_cons, List.map_append]
    unfold runL at ih ⊢
    rw [List.foldl_append, ih]
    show stepSet s (setW s r) _ = stepSet s (setW s r) _
    rw [letB_num (h l List.mem_cons_self)]
theorem wordS_within {A : Int} {r : List Nat} (hA : alphaOk A = true) (hr : ∀ l ∈ r, l ∈ letters A) (hl : r.length ≤ 50000) : within (wordS r) A = true := by
  rw [within_list]
  refine ⟨hA, by rw [wordS_size]; exact hl, fun b hb => ?_⟩
  rw [wordS_list] at hb
  obtain ⟨l, hl', rfl⟩ := List.mem_map.1 hb
  obtain ⟨h1, h2⟩ := letters_ok.1 (hr l (List.mem_reverse.1 hl'))
  unfold pk HasZ
  rw [bl_letB h1]
  simpa using h2
theorem hasTr_wordS {s : Sy} {r : List Nat} (hs : sysOk s = true) (hr : ∀ l ∈ r, l ∈ letters s.al) (hl : r.length ≤ 50000) : hasTr s (wordS r) = decide (setW s r ≠ 0) := by
  have hA : alphaOk s.al = true := alphaOk_range.2 (sysOk_alpha hs)
  have e := runL_setW s r fun l h => (letters_ok.1 (hr l h)).1
  rw [Bool.eq_iff_iff, hasTr_list, decide_eq_true_iff, wordS_list, e]
  exact ⟨fun h => h.2.2, fun h => ⟨hs, wordS_within hA hr hl, h⟩⟩

/-- The first of the words in order that is a trace outside is the first trace outside. -/
theorem first_at {s t : Sy} {o : Option (List Nat)} (hc : cmpOk s t = true) (ho : IsOut s t o) {i : Nat} (hL : 0 < (letters s.al).length ∨ i = 0) (hi : AG.Outside s t (wAt (letters s.al) i)) (hn : ∀ j, j < i → ¬ AG.Outside s t (wAt (letters s.al) j)) :
    o = some (wAt (letters s.al) i) := by
  unfold IsOut at ho
  rw [if_pos hc] at ho
  cases o with
  | none => exact absurd hi (ho _)
  | some r =>
    obtain ⟨h1, h2⟩ := ho
    have h3 := h2 _ hi
    obtain ⟨j, rfl⟩ := wAt_all r h1.1
    by_cases hlt : j < i
    · exact absurd h1 (hn j hlt)
    · by_cases he : j = i
      · rw [he]
      · by_cases hL0 : 0 < (letters s.al).length
        · have := wAt_lt hL0 (letters_sorted s.al) j i (by omega)
          exact absurd (rlt_of_rlt_rle this h3) (rlt_irrefl _)
        · obtain rfl : i = 0 := by omega
          exfalso
          have : setW t (wAt (letters s.al) 0) = 0 := hi.2.2
          rw [wAt_zero] at this
          exact absurd this (by show (1 : Nat) ≠ 0; decide)
theorem outside_iff {s t : Sy} {r : List Nat} (hc : cmpOk s t = true) (hr : ∀ l ∈ r, l ∈ letters s.al) (hl : r.length ≤ 50000) : AG.Outside s t r ↔ hasTr s (wordS r) = true ∧ hasTr t (wordS r) = false := by
  unfold cmpOk at hc
  simp only [Bool.and_eq_true, decide_eq_true_eq] at hc
  rw [hasTr_wordS hc.1 hr hl, hasTr_wordS hc.2.1 (by rw [← hc.2.2]; exact hr) hl]
  unfold AG.Outside
  simp only [decide_eq_true_eq, decide_eq_false_iff_not]
  constructor
  · rintro ⟨_, h2, h3⟩; exact ⟨h2, fun h => h h3⟩
  · rintro ⟨h2, h3⟩; exact ⟨hr, h2, by omega⟩

end Go.Proofs.YtimoekglamdddaaDoor

/- Plain: projections of systems with more letters; of trimmed systems. -/
namespace AG

theorem Has_63 {l : Nat} (h : l < 6) : Has 63 l = true := by
  have : ∀ l : Fin 6, Has 63 l.val = true := by decide
  exact this ⟨l, h⟩
/-- The system with all letters. -/
def allSy (s : Sy) : Sy := ⟨63, s.st, s.es⟩
theorem allSy_ok {s : Sy} (h : sysOk s = true) : sysOk (allSy s) = true := by
  have hp := edges_pairwise h
  refine sysOk_of (s := allSy s) (show alphaOk 63 = true by decide) (show 1 ≤ s.st ∧ s.st ≤ 16 from sysOk_st h) (fun e (he : e ∈ s.es) => ?_) hp
  show edgeOk 63 s.st e = true
  obtain ⟨i, hi, rfl⟩ := List.getElem_of_mem he
  have h1 := sysOk_edge h hi
  unfold edgeOk at h1 ⊢
  simp only [Bool.and_eq_true, decide_eq_true_eq] at h1 ⊢
  exact ⟨h1.1, Has_63 (by omega)⟩
theorem stepSet_all (s : Sy) (S : Nat) (l : Int) : stepSet (allSy s) S l = stepSet s S l := rfl
/-- Letters that no edge has lead nowhere. -/
theorem reach_unused {s : Sy} {h : Int} (hu : ∀ e ∈ s.es, Has h e.l.toNat = false) {S : Nat} (hS : S < 65536) : reachSet s h S = S := by
  refine (reach_unique (R := S) hS (fun _ h => h) (fun e he hA _ => ?_) fun x hx => Rch.start hx).symm
  rw [hu e he] at hA
  cases hA
theorem hid_all : ∀ a b : Fin 64, ∀ l : Fin 6, Has (hidA (a.val : Int) (b.val : Int)) l.val = (Has (a.val : Int) l.val && !Has (b.val : Int) l.val) := by decide +kernel
theorem Has_hid {a b : Int} (ha : 0 ≤ a ∧ a ≤ 63) (hb : 0 ≤ b ∧ b ≤ 63) {l : Nat} (hl : l < 6) : Has (hidA a b) l = (Has a l && !Has b l) := by
  have := hid_all ⟨a.toNat, by omega⟩ ⟨b.toNat, by omega⟩ ⟨l, hl⟩
  dsimp only at this
  rwa [Int.toNat_of_nonneg ha.1, Int.toNat_of_nonneg hb.1] at this
theorem prNx_all {s : Sy} (h : sysOk s = true) : prNx (allSy s) (hidA 63 s.al) = prNx s (hidA s.al s.al) ∧ reachSet (allSy s) (hidA 63 s.al) 1 = reachSet s (hidA s.al s.al) 1 := by
  have hal := sysOk_alpha h
  have hu : ∀ e ∈ s.es, Has (hidA 63 s.al) e.l.toNat = false := fun e he => by
    have h1 := sysOk_in h e he
    rw [Has_hid (by omega) hal (by omega), h1.2.2.2.2.2.2.1]
    simp
  rw [hid_self hal.1]
  refine ⟨?_, by rw [reach_unused (s := allSy s) hu (by omega), reach_none s (by omega)]⟩
  funext S l
  unfold prNx
  rw [stepSet_all, reach_unused (s := allSy s) hu (stepSet_lt _ _ _), reach_none s (stepSet_lt _ _ _)]
theorem prOk_all {s : Sy} (h : sysOk s = true) : prOk (allSy s) s.al = true := by
  have hal := sysOk_alpha h
  unfold prOk alphaOk
  rw [allSy_ok h]
  have : andB 63 s.al = s.al := by
    have := Nat.and_two_pow_sub_one_eq_mod s.al.toNat 6
    unfold andB
    rw [show (63 : Int).toNat = 2 ^ 6 - 1 from rfl, Nat.and_comm, this]
    omega
  show (true && (decide (0 ≤ s.al ∧ s.al ≤ 63) && decide (andB 63 s.al = s.al))) = true
  rw [this]
  simpa using hal
/-- Unused letters are hidden without effect. -/
theorem pr_all {s : Sy} (h : sysOk s = true) : prA (allSy s) s.al = prA s s.al ∧ prK (allSy s) s.al = prK s s.al := by
  obtain ⟨h1, h2⟩ := prNx_all h
  have : prNum (allSy s) s.al = prNum s s.al := by
    unfold prNum
    rw [show (allSy s).al = 63 from rfl, h1, h2]
  unfold prA prK prOpt
  rw [prOk_all h, prOk_self h, this]
  exact ⟨rfl, rfl⟩

end AG

/- The laws FnProjectAll, FnProjectNone. -/
namespace Go.Proofs.YtimoekglamdddaaDoor
open Go.RowKit Go.BigFrame Go.Maps AG

set_option maxRecDepth 100000 in
set_option maxHeartbeats 16000000 in
theorem FnProjectAll_any (A : Option Addr) (n c : Nat) (w : World) (hn : n ≤ c) (hc : c ≤ 9223372036854775807) (hT : Tab w) (hx : CodeAt w A n) :
    Calls Tryd.prog 5 #[.slice A n c] w fun e w' => e = .returned (.bool true) ∧ Below w.heap.size w w' := by
  replace hT := hid hT
  replace hx := hid hx
  by_cases hlen : 1048576 < n
  · have hgt : (1048576 : Int) < (n : Int) := by omega
    go_enter Tryd.func5, Tryd.ntmps5
    go_wp2
    go_ret
    exact ⟨rfl, Below.refl _ _⟩
  have hgt : ¬ ((1048576 : Int) < (n : Int)) := by omega
  go_enter Tryd.func5, Tryd.ntmps5
  go_wp2_with fail
  have BW_w : Below w.heap.size w w := Below.refl _ _
  refine (drawProjectSystem_any A n c w hn hc hx.out).mono ?_
  rintro e w1 ⟨s, As, cs, al, rfl, a1, a2, a3, a4, -, hb_w1⟩
  unfold Sy.val
  have BW_w1 := BW_w.trans (hb_w1.mono BW_w.size)
  have es := hid a4
  have BEs_w1 : Below w1.heap.size w1 w1 := Below.refl _ _
  clear a4
  obtain ⟨a, ha⟩ : ∃ a, Hid (a = prA s al) := ⟨_, hid rfl⟩
  obtain ⟨ok, hok⟩ : ∃ ok, Hid (ok = prK s al) := ⟨_, hid rfl⟩
  go_upto_region 4 with fail
  obtain ⟨w2, hw_w2, hz_w2, hb_w2, hS_w2⟩ := boxed w1 #[.int .i64 s.al, .int .i64 s.st, .slice As s.es.length cs] 34
  rw [hw_w2]
  clear hw_w2
  have hs0 := fun w' (hb : Below w2.heap.size w2 w') => hS_w2 0 _ rfl w' (hb.mono hz_w2)
  have hs1 := fun w' (hb : Below w2.heap.size w2 w') => hS_w2 1 _ rfl w' (hb.mono hz_w2)
  have hs2 := fun w' (hb : Below w2.heap.size w2 w') => hS_w2 2 _ rfl w' (hb.mono hz_w2)
  replace hs0 := hid hs0
  replace hs1 := hid hs1
  replace hs2 := hid hs2
  clear hS_w2
  have BW_w2 := BW_w1.trans (hb_w2.mono BW_w1.size)
  have BEs_w2 := BEs_w1.trans (hb_w2.mono BEs_w1.size)
  have Bs_w2 : Below w2.heap.size w2 w2 := Below.refl _ _
  have ps0 := hs0.out _ Bs_w2
  have ps1 := hs1.out _ Bs_w2
  have ps2 := hs2.out _ Bs_w2
  go_wp2_with fail
  have hc_a := hid (implProjectSystem_any s As cs al w2 a1 a2 (hT.out.later BW_w2) (es.out.later BEs_w2))
  rw [← ha.out, ← hok.out] at hc_a
  refine hc_a.out.mono ?_
  clear hc_a
  clear ps0 ps1 ps2
  rintro e w3 ⟨hb_w3, v1, v2, xs, rfl, hau⟩
  obtain ⟨Aa, ca, Ba, da, rfl, rfl, ta⟩ := hau.at_
  replace ta := hid ta
  clear hau
  have BW_w3 := BW_w2.trans (hb_w3.mono BW_w2.size)
  have BEs_w3 := BEs_w2.trans (hb_w3.mono BEs_w2.size)
  have Bs_w3 := Bs_w2.trans (hb_w3.mono Bs_w2.size)
  have BTa_w3 : Below w3.heap.size w3 w3 := Below.refl _ _
  go_upto_region 5 with fail
  obtain ⟨w4, hw_w4, hz_w4, hb_w4, hS_w4⟩ := boxed w3 #[.int .i64 a.al, .slice Aa a.nx.length ca, .slice Ba a.ac.length da] 29
  rw [hw_w4]
  clear hw_w4
  have ha0 := fun w' (hb : Below w4.heap.size w4 w') => hS_w4 0 _ rfl w' (hb.mono hz_w4)
  have ha1 := fun w' (hb : Below w4.heap.size w4 w') => hS_w4 1 _ rfl w' (hb.mono hz_w4)
  have ha2 := fun w' (hb : Below w4.heap.size w4 w') => hS_w4 2 _ rfl w' (hb.mono hz_w4)
  replace ha0 := hid ha0
  replace ha1 := hid ha1
  replace ha2 := hid ha2
  clear hS_w4
  have BW_w4 := BW_w3.trans (hb_w4.mono BW_w3.size)
  have BEs_w4 := BEs_w3.trans (hb_w4.mono BEs_w3.size)
  have Bs_w4 := Bs_w3.trans (hb_w4.mono Bs_w3.size)
  have BTa_w4 := BTa_w3.trans (hb_w4.mono BTa_w3.size)
  have Ba_w4 : Below w4.heap.size w4 w4 := Below.refl _ _
  have ps0 := hs0.out _ Bs_w4
  have ps1 := hs1.out _ Bs_w4
  have ps2 := hs2.out _ Bs_w4
  go_wp2_with fail
  have hc_x := hid (specProjectSystem_any s As cs al w4 a1 a2 (es.out.later BEs_w4))
  rw [← ha.out, ← hok.out] at hc_x
  refine hc_x.out.mono ?_
  clear hc_x
  clear ps0 ps1 ps2
  rintro e w5 ⟨hb_w5, v1, v2, xs, rfl, hau⟩
  obtain ⟨Ax, cx, Bx, dx, rfl, rfl, tx⟩ := hau.at_
  replace tx := hid tx
  clear hau
  have BW_w5 := BW_w4.trans (hb_w5.mono BW_w4.size)
  have BEs_w5 := BEs_w4.trans (hb_w5.mono BEs_w4.size)
  have Bs_w5 := Bs_w4.trans (hb_w5.mono Bs_w4.size)
  have BTa_w5 := BTa_w4.trans (hb_w5.mono BTa_w4.size)
  have Ba_w5 := Ba_w4.trans (hb_w5.mono Ba_w4.size)
  have BTx_w5 : Below w5.heap.size w5 w5 := Below.refl _ _
  go_upto_region 6 with fail
  obtain ⟨w6, hw_w6, hz_w6, hb_w6, hS_w6⟩ := boxed w5 #[.int .i64 a.al, .slice Ax a.nx.length cx, .slice Bx a.ac.length dx] 29
  rw [hw_w6]
  clear hw_w6
  have hx0 := fun w' (hb : Below w6.heap.size w6 w') => hS_w6 0 _ rfl w' (hb.mono hz_w6)
  have hx1 := fun w' (hb : Below w6.heap.size w6 w') => hS_w6 1 _ rfl w' (hb.mono hz_w6)
  have hx2 := fun w' (hb : Below w6.heap.size w6 w') => hS_w6 2 _ rfl w' (hb.mono hz_w6)
  replace hx0 := hid hx0
  replace hx1 := hid hx1
  replace hx2 := hid hx2
  clear hS_w6
  have BW_w6 := BW_w5.trans (hb_w6.mono BW_w5.size)
  have BEs_w6 := BEs_w5.trans (hb_w6.mono BEs_w5.size)
  have Bs_w6 := Bs_w5.trans (hb_w6.mono Bs_w5.size)
  have BTa_w6 := BTa_w5.trans (hb_w6.mono BTa_w5.size)
  have Ba_w6 := Ba_w5.trans (hb_w6.mono Ba_w5.size)
  have BTx_w6 := BTx_w5.trans (hb_w6.mono BTx_w5.size)
  have Bx_w6 : Below w6.heap.size w6 w6 := Below.refl _ _
  have pa0 := ha0.out _ Ba_w6
  have pa1 := ha1.out _ Ba_w6
  have pa2 := ha2.out _ Ba_w6
  have px0 := hx0.out _ Bx_w6
  have px1 := hx1.out _ Bx_w6
  have px2 := hx2.out _ Bx_w6
  go_wp2_with fail
  refine (agAutomata_any a a Aa Ba Ax Bx ca da cx dx w6 (ta.out.later BTa_w6) (tx.out.later BTx_w6)).mono ?_
  clear pa0 pa1 pa2 px0 px1 px2
  rintro e w7 ⟨rfl, hb_w7⟩
  have BW_w7 := BW_w6.trans (hb_w7.mono BW_w6.size)
  have BEs_w7 := BEs_w6.trans (hb_w7.mono BEs_w6.size)
  have Bs_w7 := Bs_w6.trans (hb_w7.mono Bs_w6.size)
  have BTa_w7 := BTa_w6.trans (hb_w7.mono BTa_w6.size)
  have Ba_w7 := Ba_w6.trans (hb_w7.mono Ba_w6.size)
  have BTx_w7 := BTx_w6.trans (hb_w7.mono BTx_w6.size)
  have Bx_w7 := Bx_w6.trans (hb_w7.mono Bx_w6.size)
  rw [decide_eq_true rfl]
  obtain ⟨b, hb⟩ : ∃ b, Hid (b = prA s s.al) := ⟨_, hid rfl⟩
  obtain ⟨ko, hko⟩ : ∃ ko, Hid (ko = prK s s.al) := ⟨_, hid rfl⟩
  have ps0 := hs0.out _ Bs_w7
  have ps1 := hs1.out _ Bs_w7
  have ps2 := hs2.out _ Bs_w7
  go_wp2_with fail
  have hc_y := hid (implProjectSystem_any s As cs s.al w7 a1 a2 (hT.out.later BW_w7) (es.out.later BEs_w7))
  rw [← hb.out, ← hko.out] at hc_y
  refine hc_y.out.mono ?_
  clear hc_y
  clear ps0 ps1 ps2
  rintro e w8 ⟨hb_w8, v1, v2, xs, rfl, hau⟩
  obtain ⟨Ay, cy, By, dy, rfl, rfl, ty⟩ := hau.at_
  replace ty := hid ty
  clear hau
  have BW_w8 := BW_w7.trans (hb_w8.mono BW_w7.size)
  have BEs_w8 := BEs_w7.trans (hb_w8.mono BEs_w7.size)
  have Bs_w8 := Bs_w7.trans (hb_w8.mono Bs_w7.size)
  have BTa_w8 := BTa_w7.trans (hb_w8.mono BTa_w7.size)
  have Ba_w8 := Ba_w7.trans (hb_w8.mono Ba_w7.size)
  have BTx_w8 := BTx_w7.trans (hb_w8.mono BTx_w7.size)
  have Bx_w8 := Bx_w7.trans (hb_w8.mono Bx_w7.size)
  have BTy_w8 : Below w8.heap.size w8 w8 := Below.refl _ _
  go_upto_region 9 with fail
  obtain ⟨w9, hw_w9, hz_w9, hb_w9, hS_w9⟩ := boxed w8 #[.int .i64 b.al, .slice Ay b.nx.length cy, .slice By b.ac.length dy] 29
  rw [hw_w9]
  clear hw_w9
  have hy0 := fun w' (hb : Below w9.heap.size w9 w') => hS_w9 0 _ rfl w' (hb.mono hz_w9)
  have hy1 := fun w' (hb : Below w9.heap.size w9 w') => hS_w9 1 _ rfl w' (hb.mono hz_w9)
  have hy2 := fun w' (hb : Below w9.heap.size w9 w') => hS_w9 2 _ rfl w' (hb.mono hz_w9)
  replace hy0 := hid hy0
  replace hy1 := hid hy1
  replace hy2 := hid hy2
  clear hS_w9
  have BW_w9 := BW_w8.trans (hb_w9.mono BW_w8.size)
  have BEs_w9 := BEs_w8.trans (hb_w9.mono BEs_w8.size)
  have Bs_w9 := Bs_w8.trans (hb_w9.mono Bs_w8.size)
  have BTa_w9 := BTa_w8.trans (hb_w9.mono BTa_w8.size)
  have Ba_w9 := Ba_w8.trans (hb_w9.mono Ba_w8.size)
  have BTx_w9 := BTx_w8.trans (hb_w9.mono BTx_w8.size)
  have Bx_w9 := Bx_w8.trans (hb_w9.mono Bx_w8.size)
  have BTy_w9 := BTy_w8.trans (hb_w9.mono BTy_w8.size)
  have By_w9 : Below w9.heap.size w9 w9 := Below.refl _ _
  have ps0 := hs0.out _ Bs_w9
  have ps1 := hs1.out _ Bs_w9
  have ps2 := hs2.out _ Bs_w9
  go_wp2_with fail
  have hc_z := hid (implDeterminize_any s As cs w9 a1 a2 (hT.out.later BW_w9) (es.out.later BEs_w9))
  rw [← hb.out, ← hko.out] at hc_z
  refine hc_z.out.mono ?_
  clear hc_z
  clear ps0 ps1 ps2
  rintro e w10 ⟨hb_w10, v1, v2, xs, rfl, hau⟩
  obtain ⟨Az, cz, Bz, dz, rfl, rfl, tz⟩ := hau.at_
  replace tz := hid tz
  clear hau
  have BW_w10 := BW_w9.trans (hb_w10.mono BW_w9.size)
  have BEs_w10 := BEs_w9.trans (hb_w10.mono BEs_w9.size)
  have Bs_w10 := Bs_w9.trans (hb_w10.mono Bs_w9.size)
  have BTa_w10 := BTa_w9.trans (hb_w10.mono BTa_w9.size)
  have Ba_w10 := Ba_w9.trans (hb_w10.mono Ba_w9.size)
  have BTx_w10 := BTx_w9.trans (hb_w10.mono BTx_w9.size)
  have Bx_w10 := Bx_w9.trans (hb_w10.mono Bx_w9.size)
  have BTy_w10 := BTy_w9.trans (hb_w10.mono BTy_w9.size)
  have By_w10 := By_w9.trans (hb_w10.mono By_w9.size)
  have BTz_w10 : Below w10.heap.size w10 w10 := Below.refl _ _
  go_upto_region 10 with fail
  obtain ⟨w11, hw_w11, hz_w11, hb_w11, hS_w11⟩ := boxed w10 #[.int .i64 b.al, .slice Az b.nx.length cz, .slice Bz b.ac.length dz] 29
  rw [hw_w11]
  clear hw_w11
  have hz0 := fun w' (hb : Below w11.heap.size w11 w') => hS_w11 0 _ rfl w' (hb.mono hz_w11)
  have hz1 := fun w' (hb : Below w11.heap.size w11 w') => hS_w11 1 _ rfl w' (hb.mono hz_w11)
  have hz2 := fun w' (hb : Below w11.heap.size w11 w') => hS_w11 2 _ rfl w' (hb.mono hz_w11)
  replace hz0 := hid hz0
  replace hz1 := hid hz1
  replace hz2 := hid hz2
  clear hS_w11
  have BW_w11 := BW_w10.trans (hb_w11.mono BW_w10.size)
  have BEs_w11 := BEs_w10.trans (hb_w11.mono BEs_w10.size)
  have Bs_w11 := Bs_w10.trans (hb_w11.mono Bs_w10.size)
  have BTa_w11 := BTa_w10.trans (hb_w11.mono BTa_w10.size)
  have Ba_w11 := Ba_w10.trans (hb_w11.mono Ba_w10.size)
  have BTx_w11 := BTx_w10.trans (hb_w11.mono BTx_w10.size)
  have Bx_w11 := Bx_w10.trans (hb_w11.mono Bx_w10.size)
  have BTy_w11 := BTy_w10.trans (hb_w11.mono BTy_w10.size)
  have By_w11 := By_w10.trans (hb_w11.mono By_w10.size)
  have BTz_w11 := BTz_w10.trans (hb_w11.mono BTz_w10.size)
  have Bz_w11 : Below w11.heap.size w11 w11 := Below.refl _ _
  have py0 := hy0.out _ By_w11
  have py1 := hy1.out _ By_w11
  have py2 := hy2.out _ By_w11
  have pz0 := hz0.out _ Bz_w11
  have pz1 := hz1.out _ Bz_w11
  have pz2 := hz2.out _ Bz_w11
  go_wp2_with fail
  refine (agAutomata_any b b Ay By Az Bz cy dy cz dz w11 (ty.out.later BTy_w11) (tz.out.later BTz_w11)).mono ?_
  clear py0 py1 py2 pz0 pz1 pz2
  rintro e w12 ⟨rfl, hb_w12⟩
  have BW_w12 := BW_w11.trans (hb_w12.mono BW_w11.size)
  have BEs_w12 := BEs_w11.trans (hb_w12.mono BEs_w11.size)
  have Bs_w12 := Bs_w11.trans (hb_w12.mono Bs_w11.size)
  have BTa_w12 := BTa_w11.trans (hb_w12.mono BTa_w11.size)
  have Ba_w12 := Ba_w11.trans (hb_w12.mono Ba_w11.size)
  have BTx_w12 := BTx_w11.trans (hb_w12.mono BTx_w11.size)
  have Bx_w12 := Bx_w11.trans (hb_w12.mono Bx_w11.size)
  have BTy_w12 := BTy_w11.trans (hb_w12.mono BTy_w11.size)
  have By_w12 := By_w11.trans (hb_w12.mono By_w11.size)
  have BTz_w12 := BTz_w11.trans (hb_w12.mono BTz_w11.size)
  have Bz_w12 := Bz_w11.trans (hb_w12.mono Bz_w11.size)
  rw [decide_eq_true rfl]
  go_wp2_with fail
  go_ret
  exact ⟨rfl, BW_w12⟩

set_option maxRecDepth 100000 in
set_option maxHeartbeats 16000000 in
theorem FnProjectNone_any (A : Option Addr) (n c : Nat) (w : World) (hn : n ≤ c) (hc : c ≤ 9223372036854775807) (hT : Tab w) (hx : CodeAt w A n) :
    Calls Tryd.prog 6 #[.slice A n c] w fun e w' => e = .returned (.bool true) ∧ Below w.heap.size w w' := by
  replace hT := hid hT
  replace hx := hid hx
  by_cases hlen : 1048576 < n
  · have hgt : (1048576 : Int) < (n : Int) := by omega
    go_enter Tryd.func6, Tryd.ntmps6
    go_wp2
    go_ret
    exact ⟨rfl, Below.refl _ _⟩
  have hgt : ¬ ((1048576 : Int) < (n : Int)) := by omega
  go_enter Tryd.func6, Tryd.ntmps6
  go_wp2_with fail
  have BW_w : Below w.heap.size w w := Below.refl _ _
  refine (drawProjectSystem_any A n c w hn hc hx.out).mono ?_
  rintro e w1 ⟨s, As, cs, al, rfl, a1, a2, a3, a4, -, hb_w1⟩
  unfold Sy.val
  have BW_w1 := BW_w.trans (hb_w1.mono BW_w.size)
  have es := hid a4
  have BEs_w1 : Below w1.heap.size w1 w1 := Below.refl _ _
  clear a4
  obtain ⟨a, ha⟩ : ∃ a, Hid (a = prA s al) := ⟨_, hid rfl⟩
  obtain ⟨ok, hok⟩ : ∃ ok, Hid (ok = prK s al) := ⟨_, hid rfl⟩
  go_upto_region 4 with fail
  obtain ⟨w2, hw_w2, hz_w2, hb_w2, hS_w2⟩ := boxed w1 #[.int .i64 s.al, .int .i64 s.st, .slice As s.es.length cs] 34
  rw [hw_w2]
  clear hw_w2
  have hs0 := fun w' (hb : Below w2.heap.size w2 w') => hS_w2 0 _ rfl w' (hb.mono hz_w2)
  have hs1 := fun w' (hb : Below w2.heap.size w2 w') => hS_w2 1 _ rfl w' (hb.mono hz_w2)
  have hs2 := fun w' (hb : Below w2.heap.size w2 w') => hS_w2 2 _ rfl w' (hb.mono hz_w2)
  replace hs0 := hid hs0
  replace hs1 := hid hs1
  replace hs2 := hid hs2
  clear hS_w2
  have BW_w2 := BW_w1.trans (hb_w2.mono BW_w1.size)
  have BEs_w2 := BEs_w1.trans (hb_w2.mono BEs_w1.size)
  have Bs_w2 : Below w2.heap.size w2 w2 := Below.refl _ _
  have ps0 := hs0.out _ Bs_w2
  have ps1 := hs1.out _ Bs_w2
  have ps2 := hs2.out _ Bs_w2
  go_wp2_with fail
  have hc_a := hid (implProjectSystem_any s As cs al w2 a1 a2 (hT.out.later BW_w2) (es.out.later BEs_w2))
  rw [← ha.out, ← hok.out] at hc_a
  refine hc_a.out.mono ?_
  clear hc_a
  clear ps0 ps1 ps2
  rintro e w3 ⟨hb_w3, v1, v2, xs, rfl, hau⟩
  obtain ⟨Aa, ca, Ba, da, rfl, rfl, ta⟩ := hau.at_
  replace ta := hid ta
  clear hau
  have BW_w3 := BW_w2.trans (hb_w3.mono BW_w2.size)
  have BEs_w3 := BEs_w2.trans (hb_w3.mono BEs_w2.size)
  have Bs_w3 := Bs_w2.trans (hb_w3.mono Bs_w2.size)
  have BTa_w3 : Below w3.heap.size w3 w3 := Below.refl _ _
  go_upto_region 5 with fail
  obtain ⟨w4, hw_w4, hz_w4, hb_w4, hS_w4⟩ := boxed w3 #[.int .i64 a.al, .slice Aa a.nx.length ca, .slice Ba a.ac.length da] 29
  rw [hw_w4]
  clear hw_w4
  have ha0 := fun w' (hb : Below w4.heap.size w4 w') => hS_w4 0 _ rfl w' (hb.mono hz_w4)
  have ha1 := fun w' (hb : Below w4.heap.size w4 w') => hS_w4 1 _ rfl w' (hb.mono hz_w4)
  have ha2 := fun w' (hb : Below w4.heap.size w4 w') => hS_w4 2 _ rfl w' (hb.mono hz_w4)
  replace ha0 := hid ha0
  replace ha1 := hid ha1
  replace ha2 := hid ha2
  clear hS_w4
  have BW_w4 := BW_w3.trans (hb_w4.mono BW_w3.size)
  have BEs_w4 := BEs_w3.trans (hb_w4.mono BEs_w3.size)
  have Bs_w4 := Bs_w3.trans (hb_w4.mono Bs_w3.size)
  have BTa_w4 := BTa_w3.trans (hb_w4.mono BTa_w3.size)
  have Ba_w4 : Below w4.heap.size w4 w4 := Below.refl _ _
  have ps0 := hs0.out _ Bs_w4
  have ps1 := hs1.out _ Bs_w4
  have ps2 := hs2.out _ Bs_w4
  go_wp2_with fail
  have hc_x := hid (specProjectSystem_any s As cs al w4 a1 a2 (es.out.later BEs_w4))
  rw [← ha.out, ← hok.out] at hc_x
  refine hc_x.out.mono ?_
  clear hc_x
  clear ps0 ps1 ps2
  rintro e w5 ⟨hb_w5, v1, v2, xs, rfl, hau⟩
  obtain ⟨Ax, cx, Bx, dx, rfl, rfl, tx⟩ := hau.at_
  replace tx := hid tx
  clear hau
  have BW_w5 := BW_w4.trans (hb_w5.mono BW_w4.size)
  have BEs_w5 := BEs_w4.trans (hb_w5.mono BEs_w4.size)
  have Bs_w5 := Bs_w4.trans (hb_w5.mono Bs_w4.size)
  have BTa_w5 := BTa_w4.trans (hb_w5.mono BTa_w4.size)
  have Ba_w5 := Ba_w4.trans (hb_w5.mono Ba_w4.size)
  have BTx_w5 : Below w5.heap.size w5 w5 := Below.refl _ _
  go_upto_region 6 with fail
  obtain ⟨w6, hw_w6, hz_w6, hb_w6, hS_w6⟩ := boxed w5 #[.int .i64 a.al, .slice Ax a.nx.length cx, .slice Bx a.ac.length dx] 29
  rw [hw_w6]
  clear hw_w6
  have hx0 := fun w' (hb : Below w6.heap.size w6 w') => hS_w6 0 _ rfl w' (hb.mono hz_w6)
  have hx1 := fun w' (hb : Below w6.heap.size w6 w') => hS_w6 1 _ rfl w' (hb.mono hz_w6)
  have hx2 := fun w' (hb : Below w6.heap.size w6 w') => hS_w6 2 _ rfl w' (hb.mono hz_w6)
  replace hx0 := hid hx0
  replace hx1 := hid hx1
  replace hx2 := hid hx2
  clear hS_w6
  have BW_w6 := BW_w5.trans (hb_w6.mono BW_w5.size)
  have BEs_w6 := BEs_w5.trans (hb_w6.mono BEs_w5.size)
  have Bs_w6 := Bs_w5.trans (hb_w6.mono Bs_w5.size)
  have BTa_w6 := BTa_w5.trans (hb_w6.mono BTa_w5.size)
  have Ba_w6 := Ba_w5.trans (hb_w6.mono Ba_w5.size)
  have BTx_w6 := BTx_w5.trans (hb_w6.mono BTx_w5.size)
  have Bx_w6 : Below w6.heap.size w6 w6 := Below.refl _ _
  have pa0 := ha0.out _ Ba_w6
  have pa1 := ha1.out _ Ba_w6
  have pa2 := ha2.out _ Ba_w6
  have px0 := hx0.out _ Bx_w6
  have px1 := hx1.out _ Bx_w6
  have px2 := hx2.out _ Bx_w6
  go_wp2_with fail
  refine (agAutomata_any a a Aa Ba Ax Bx ca da cx dx w6 (ta.out.later BTa_w6) (tx.out.later BTx_w6)).mono ?_
  clear pa0 pa1 pa2 px0 px1 px2
  rintro e w7 ⟨rfl, hb_w7⟩
  have BW_w7 := BW_w6.trans (hb_w7.mono BW_w6.size)
  have BEs_w7 := BEs_w6.trans (hb_w7.mono BEs_w6.size)
  have Bs_w7 := Bs_w6.trans (hb_w7.mono Bs_w6.size)
  have BTa_w7 := BTa_w6.trans (hb_w7.mono BTa_w6.size)
  have Ba_w7 := Ba_w6.trans (hb_w7.mono Ba_w6.size)
  have BTx_w7 := BTx_w6.trans (hb_w7.mono BTx_w6.size)
  have Bx_w7 := Bx_w6.trans (hb_w7.mono Bx_w6.size)
  rw [decide_eq_true rfl]
  have ps0 := hs0.out _ Bs_w7
  have ps1 := hs1.out _ Bs_w7
  have ps2 := hs2.out _ Bs_w7
  go_wp2_with fail
  refine (implSystemValid_any s As cs w7 a1 a2 (es.out.later BEs_w7)).mono ?_
  clear ps0 ps1 ps2
  rintro e w8 ⟨rfl, hb_w8⟩
  have BW_w8 := BW_w7.trans (hb_w8.mono BW_w7.size)
  have BEs_w8 := BEs_w7.trans (hb_w8.mono BEs_w7.size)
  have Bs_w8 := Bs_w7.trans (hb_w8.mono Bs_w7.size)
  have BTa_w8 := BTa_w7.trans (hb_w8.mono BTa_w7.size)
  have Ba_w8 := Ba_w7.trans (hb_w8.mono Ba_w7.size)
  have BTx_w8 := BTx_w7.trans (hb_w8.mono BTx_w7.size)
  have Bx_w8 := Bx_w7.trans (hb_w8.mono Bx_w7.size)
  cases hsk : sysOk s
  case false =>
    have pa0 := ha0.out _ Ba_w8
    have pa1 := ha1.out _ Ba_w8
    have pa2 := ha2.out _ Ba_w8
    have px0 := hx0.out _ Bx_w8
    have px1 := hx1.out _ Bx_w8
    have px2 := hx2.out _ Bx_w8
    go_wp2_with fail
    refine (agAutomata_any a a Aa Ba Ax Bx ca da cx dx w8 (ta.out.later BTa_w8) (tx.out.later BTx_w8)).mono ?_
    clear pa0 pa1 pa2 px0 px1 px2
    rintro e w9 ⟨rfl, hb_w9⟩
    have BW_w9 := BW_w8.trans (hb_w9.mono BW_w8.size)
    have BEs_w9 := BEs_w8.trans (hb_w9.mono BEs_w8.size)
    have Bs_w9 := Bs_w8.trans (hb_w9.mono Bs_w8.size)
    have BTa_w9 := BTa_w8.trans (hb_w9.mono BTa_w8.size)
    have Ba_w9 := Ba_w8.trans (hb_w9.mono Ba_w8.size)
    have BTx_w9 := BTx_w8.trans (hb_w9.mono BTx_w8.size)
    have Bx_w9 := Bx_w8.trans (hb_w9.mono Bx_w8.size)
    rw [decide_eq_true rfl]
    go_wp2_with fail
    go_ret
    exact ⟨rfl, BW_w9⟩
  case true =>
  have hsk' := hid hsk
  clear hsk
  have ps0 := hs0.out _ Bs_w8
  have ps1 := hs1.out _ Bs_w8
  have ps2 := hs2.out _ Bs_w8
  go_wp2_with fail
  have q0 := GK.BI.cell ps0
  have q1 := GK.BI.cell ps1
  have q2 := GK.BI.cell ps2
  clear ps0 ps1 ps2
  obtain ⟨i0, hi, hz0, hz1, hz2⟩ := info_parts infoEd
  have hes := hid (es.out.later BEs_w8)
  refine GK.wp_region 8 [8] 200 (KeepB fun _ => False) (GK.BI w8) (fun _ _ _ => True) (by kernel_rfl) (by kernel_rfl) (GK.BI.way w8) (by decide) (Below.refl _ _).drew ?_
  simp only [List.take_succ_cons, List.take_zero]
  (repeat (refine GK.grow_quiet w8 (by rfl) (by rfl) ?_; intro K hK; go_big_quiet_op; go_big_quiet_on))
  refine GK.grow_new (K := fun _ => False) (by rfl) _ (fun b => .slice (some ⟨b, 0, none⟩) 0 0) 93 #[] (fun _ => by go_simp) rfl (fun _ _ o h => GK.BI.alloc o h) (fun _ _ h => GK.BI.size h) (fun _ h => h.elim) (fun b hb => ?_)
  simp only [Act.put, List.setIfInBounds_toArray, List.set_cons_zero, List.set_cons_succ]
  (repeat (refine GK.grow_quiet w8 (by rfl) (by rfl) ?_; intro K hK; go_big_quiet_op; go_big_quiet_on))
  refine GK.grow_copy (by rfl) _ _ 32 (by rfl) 93 i0 (.agg #[.int .i64 0, .int .i64 0, .int .i64 0]) 3 24 Tryd.underlying32 hi hz0 hz1 hz2 rfl b (by rfl) (fun w hf => ?_) As s.es.length cs (edCells s.es) (by rfl) (edCells_len _) (fun hn => EdsAt.news hes.out hn) (edCells_one _) (by unfold maxLen; omega) (by omega) fun v hv => ?_
  · obtain ⟨b', e1, e2, e3⟩ := hf _ List.mem_cons_self (by kernel_rfl)
    cases e1
    exact ⟨e2, e3⟩
  obtain ⟨At, ct, hve, hct, hct'⟩ : ∃ Av cv, v = .slice Av s.es.length cv ∧ s.es.length ≤ cv ∧ cv ≤ 9223372036854775807 := by obtain ⟨_, _, hv⟩ := hv; exact own_slice hv
  subst hve
  clear hv
  simp only [Act.put, List.setIfInBounds_toArray, List.set_cons_zero, List.set_cons_succ]
  (repeat (refine GK.grow_quiet w8 (by rfl) (by rfl) ?_; intro K hK; go_big_quiet_op; go_big_quiet_on))
  refine GK.grow_new (K := fun _ => False) (by rfl) _ (fun b => .pointer (some ⟨b, 0, none⟩)) 34 #[.int .i64 0, .int .i64 0, .slice none 0 0] (fun _ => by go_simp) rfl (fun _ _ o h => GK.BI.alloc o h) (fun _ _ h => GK.BI.size h) (fun _ h => h.elim) (fun gs hgs => ?_)
  simp only [Act.put, List.setIfInBounds_toArray, List.set_cons_zero, List.set_cons_succ]
  refine GK.grow_nil ?_
  intro w20 hw20 hf
  simp only [List.filterMap_cons, List.filterMap_nil, List.getElem?_cons_zero, List.getElem?_cons_succ]
  obtain ⟨gs', e1, -, hblk⟩ := hf _ List.mem_cons_self
  cases e1
  have hown := hf _ (List.mem_cons_of_mem _ List.mem_cons_self)
  replace hw20 : Below w8.heap.size w8 w20 := hw20
  clear hf q0 q1 q2
  have hblk' : Blk w20 gs 34 #[.int .i64 0, .int .i64 0, .slice none 0 0] := hblk
  have hgl := hblk'.lt
  have c0 := hblk'.cell 0
  have c1 := hblk'.cell 1
  have c2 := hblk'.cell 2
  have f0 := hblk'.frozen 0
  have f1 := hblk'.frozen 1
  have f2 := hblk'.frozen 2
  simp only [List.getElem?_toArray, List.getElem?_cons_zero, List.getElem?_cons_succ] at c0 c1 c2
  have hneO : (Value.slice At s.es.length ct).ownBlock ≠ some gs := fun e => own_ne hown hblk' (by decide) gs e rfl
  obtain ⟨w21, hw21⟩ : ∃ w21, ((w20.setCell ⟨gs, 0, none⟩ (.int .i64 63)).setCell ⟨gs, 1, none⟩ (.int .i64 s.st)).setCell ⟨gs, 2, none⟩ (.slice At s.es.length ct) = w21 := ⟨_, rfl⟩
  have hbk : Blk w21 gs 34 #[.int .i64 63, .int .i64 s.st, .slice At s.es.length ct] := by rw [← hw21]; simpa using ((hblk'.set_ 0 (.int .i64 63)).set_ 1 (.int .i64 s.st)).set_ 2 (.slice At s.es.length ct)
  have hb_w21 : Below w8.heap.size w8 w21 := by rw [← hw21]; exact ((hw20.setCell (by simpa using hgs) _).setCell (by simpa using hgs) _).setCell (by simpa using hgs) _
  have hown1 : OwnEds w21 w8.heap.size (.slice At s.es.length ct) s.es := by rw [← hw21]; exact ownsRow_setCell_other (ownsRow_setCell_other (ownsRow_setCell_other hown hneO _) hneO _) hneO _
  obtain ⟨At', ct', hve, -, -, het, -⟩ := OwnEds.read hown1
  cases hve
  have ht0 : Hid (∀ w', Below w21.heap.size w21 w' → w'.cell? ⟨gs, 0, none⟩ = some (.int .i64 63)) := hid fun w' hb => by rw [(hbk.below hb hbk.lt).cell]; rfl
  have ht1 : Hid (∀ w', Below w21.heap.size w21 w' → w'.cell? ⟨gs, 1, none⟩ = some (.int .i64 s.st)) := hid fun w' hb => by rw [(hbk.below hb hbk.lt).cell]; rfl
  have ht2 : Hid (∀ w', Below w21.heap.size w21 w' → w'.cell? ⟨gs, 2, none⟩ = some (.slice At s.es.length ct)) := hid fun w' hb => by rw [(hbk.below hb hbk.lt).cell]; rfl
  replace hbk := hid hbk
  replace hblk := hid hblk
  replace hblk' := hid hblk'
  clear hown hown1
  go_upto_region 9 with fail
  try rw [hw21]
  clear c0 c1 c2 f0 f1 f2 hw21
  have BW_w21 := BW_w8.trans (hb_w21.mono BW_w8.size)
  have BEs_w21 := BEs_w8.trans (hb_w21.mono BEs_w8.size)
  have Bs_w21 := Bs_w8.trans (hb_w21.mono Bs_w8.size)
  have BTa_w21 := BTa_w8.trans (hb_w21.mono BTa_w8.size)
  have Ba_w21 := Ba_w8.trans (hb_w21.mono Ba_w8.size)
  have BTx_w21 := BTx_w8.trans (hb_w21.mono BTx_w8.size)
  have Bx_w21 := Bx_w8.trans (hb_w21.mono Bx_w8.size)
  have Bt_w21 : Below w21.heap.size w21 w21 := Below.refl _ _
  have et := hid het
  have BEt_w21 : Below w21.heap.size w21 w21 := Below.refl _ _
  clear het
  obtain ⟨b, hb⟩ : ∃ b, Hid (b = prA s s.al) := ⟨_, hid rfl⟩
  obtain ⟨ko, hko⟩ : ∃ ko, Hid (ko = prK s s.al) := ⟨_, hid rfl⟩
  have hb2 : Hid (b = prA (allSy s) s.al) := hid (by rw [(pr_all hsk'.out).1]; exact hb.out)
  have hko2 : Hid (ko = prK (allSy s) s.al) := hid (by rw [(pr_all hsk'.out).2]; exact hko.out)
  have pt0 := ht0.out _ Bt_w21
  have pt1 := ht1.out _ Bt_w21
  have pt2 := ht2.out _ Bt_w21
  have ps0 := hs0.out _ Bs_w21
  have ps1 := hs1.out _ Bs_w21
  have ps2 := hs2.out _ Bs_w21
  go_wp2_with fail
  have hc_y := hid (implProjectSystem_any (allSy s) At ct s.al w21 hct hct' (hT.out.later BW_w21) (et.out.later BEt_w21))
  rw [← hb2.out, ← hko2.out] at hc_y
  refine hc_y.out.mono ?_
  clear hc_y
  clear pt0 pt1 pt2 ps0 ps1 ps2
  rintro e w22 ⟨hb_w22, v1, v2, xs, rfl, hau⟩
  obtain ⟨Ay, cy, By, dy, rfl, rfl, ty⟩ := hau.at_
  replace ty := hid ty
  clear hau
  have BW_w22 := BW_w21.trans (hb_w22.mono BW_w21.size)
  have BEs_w22 := BEs_w21.trans (hb_w22.mono BEs_w21.size)
  have Bs_w22 := Bs_w21.trans (hb_w22.mono Bs_w21.size)
  have BTa_w22 := BTa_w21.trans (hb_w22.mono BTa_w21.size)
  have Ba_w22 := Ba_w21.trans (hb_w22.mono Ba_w21.size)
  have BTx_w22 := BTx_w21.trans (hb_w22.mono BTx_w21.size)
  have Bx_w22 := Bx_w21.trans (hb_w22.mono Bx_w21.size)
  have Bt_w22 := Bt_w21.trans (hb_w22.mono Bt_w21.size)
  have BEt_w22 := BEt_w21.trans (hb_w22.mono BEt_w21.size)
  have BTy_w22 : Below w22.heap.size w22 w22 := Below.refl _ _
  go_upto_region 10 with fail
  obtain ⟨w23, hw_w23, hz_w23, hb_w23, hS_w23⟩ := boxed w22 #[.int .i64 b.al, .slice Ay b.nx.length cy, .slice By b.ac.length dy] 29
  rw [hw_w23]
  clear hw_w23
  have hy0 := fun w' (hb : Below w23.heap.size w23 w') => hS_w23 0 _ rfl w' (hb.mono hz_w23)
  have hy1 := fun w' (hb : Below w23.heap.size w23 w') => hS_w23 1 _ rfl w' (hb.mono hz_w23)
  have hy2 := fun w' (hb : Below w23.heap.size w23 w') => hS_w23 2 _ rfl w' (hb.mono hz_w23)
  replace hy0 := hid hy0
  replace hy1 := hid hy1
  replace hy2 := hid hy2
  clear hS_w23
  have BW_w23 := BW_w22.trans (hb_w23.mono BW_w22.size)
  have BEs_w23 := BEs_w22.trans (hb_w23.mono BEs_w22.size)
  have Bs_w23 := Bs_w22.trans (hb_w23.mono Bs_w22.size)
  have BTa_w23 := BTa_w22.trans (hb_w23.mono BTa_w22.size)
  have Ba_w23 := Ba_w22.trans (hb_w23.mono Ba_w22.size)
  have BTx_w23 := BTx_w22.trans (hb_w23.mono BTx_w22.size)
  have Bx_w23 := Bx_w22.trans (hb_w23.mono Bx_w22.size)
  have Bt_w23 := Bt_w22.trans (hb_w23.mono Bt_w22.size)
  have BEt_w23 := BEt_w22.trans (hb_w23.mono BEt_w22.size)
  have BTy_w23 := BTy_w22.trans (hb_w23.mono BTy_w22.size)
  have By_w23 : Below w23.heap.size w23 w23 := Below.refl _ _
  have ps0 := hs0.out _ Bs_w23
  have ps1 := hs1.out _ Bs_w23
  have ps2 := hs2.out _ Bs_w23
  go_wp2_with fail
  have hc_z := hid (implDeterminize_any s As cs w23 a1 a2 (hT.out.later BW_w23) (es.out.later BEs_w23))
  rw [← hb.out, ← hko.out] at hc_z
  refine hc_z.out.mono ?_
  clear hc_z
  clear ps0 ps1 ps2
  rintro e w24 ⟨hb_w24, v1, v2, xs, rfl, hau⟩
  obtain ⟨Az, cz, Bz, dz, rfl, rfl, tz⟩ := hau.at_
  replace tz := hid tz
  clear hau
  have BW_w24 := BW_w23.trans (hb_w24.mono BW_w23.size)
  have BEs_w24 := BEs_w23.trans (hb_w24.mono BEs_w23.size)
  have Bs_w24 := Bs_w23.trans (hb_w24.mono Bs_w23.size)
  have BTa_w24 := BTa_w23.trans (hb_w24.mono BTa_w23.size)
  have Ba_w24 := Ba_w23.trans (hb_w24.mono Ba_w23.size)
  have BTx_w24 := BTx_w23.trans (hb_w24.mono BTx_w23.size)
  have Bx_w24 := Bx_w23.trans (hb_w24.mono Bx_w23.size)
  have Bt_w24 := Bt_w23.trans (hb_w24.mono Bt_w23.size)
  have BEt_w24 := BEt_w23.trans (hb_w24.mono BEt_w23.size)
  have BTy_w24 := BTy_w23.trans (hb_w24.mono BTy_w23.size)
  have By_w24 := By_w23.trans (hb_w24.mono By_w23.size)
  have BTz_w24 : Below w24.heap.size w24 w24 := Below.refl _ _
  go_upto_region 11 with fail
  obtain ⟨w25, hw_w25, hz_w25, hb_w25, hS_w25⟩ := boxed w24 #[.int .i64 b.al, .slice Az b.nx.length cz, .slice Bz b.ac.length dz] 29
  rw [hw_w25]
  clear hw_w25
  have hz0 := fun w' (hb : Below w25.heap.size w25 w') => hS_w25 0 _ rfl w' (hb.mono hz_w25)
  have hz1 := fun w' (hb : Below w25.heap.size w25 w') => hS_w25 1 _ rfl w' (hb.mono hz_w25)
  have hz2 := fun w' (hb : Below w25.heap.size w25 w') => hS_w25 2 _ rfl w' (hb.mono hz_w25)
  replace hz0 := hid hz0
  replace hz1 := hid hz1
  replace hz2 := hid hz2
  clear hS_w25
  have BW_w25 := BW_w24.trans (hb_w25.mono BW_w24.size)
  have BEs_w25 := BEs_w24.trans (hb_w25.mono BEs_w24.size)
  have Bs_w25 := Bs_w24.trans (hb_w25.mono Bs_w24.size)
  have BTa_w25 := BTa_w24.trans (hb_w25.mono BTa_w24.size)
  have Ba_w25 := Ba_w24.trans (hb_w25.mono Ba_w24.size)
  have BTx_w25 := BTx_w24.trans (hb_w25.mono BTx_w24.size)
  have Bx_w25 := Bx_w24.trans (hb_w25.mono Bx_w24.size)
  have Bt_w25 := Bt_w24.trans (hb_w25.mono Bt_w24.size)
  have BEt_w25 := BEt_w24.trans (hb_w25.mono BEt_w24.size)
  have BTy_w25 := BTy_w24.trans (hb_w25.mono BTy_w24.size)
  have By_w25 := By_w24.trans (hb_w25.mono By_w24.size)
  have BTz_w25 := BTz_w24.trans (hb_w25.mono BTz_w24.size)
  have Bz_w25 : Below w25.heap.size w25 w25 := Below.refl _ _
  have py0 := hy0.out _ By_w25
  have py1 := hy1.out _ By_w25
  have py2 := hy2.out _ By_w25
  have pz0 := hz0.out _ Bz_w25
  have pz1 := hz1.out _ Bz_w25
  have pz2 := hz2.out _ Bz_w25
  go_wp2_with fail
  refine (agAutomata_any b b Ay By Az Bz cy dy cz dz w25 (ty.out.later BTy_w25) (tz.out.later BTz_w25)).mono ?_
  clear py0 py1 py2 pz0 pz1 pz2
  rintro e w26 ⟨rfl, hb_w26⟩
  have BW_w26 := BW_w25.trans (hb_w26.mono BW_w25.size)
  have BEs_w26 := BEs_w25.trans (hb_w26.mono BEs_w25.size)
  have Bs_w26 := Bs_w25.trans (hb_w26.mono Bs_w25.size)
  have BTa_w26 := BTa_w25.trans (hb_w26.mono BTa_w25.size)
  have Ba_w26 := Ba_w25.trans (hb_w26.mono Ba_w25.size)
  have BTx_w26 := BTx_w25.trans (hb_w26.mono BTx_w25.size)
  have Bx_w26 := Bx_w25.trans (hb_w26.mono Bx_w25.size)
  have Bt_w26 := Bt_w25.trans (hb_w26.mono Bt_w25.size)
  have BEt_w26 := BEt_w25.trans (hb_w26.mono BEt_w25.size)
  have BTy_w26 := BTy_w25.trans (hb_w26.mono BTy_w25.size)
  have By_w26 := By_w25.trans (hb_w26.mono By_w25.size)
  have BTz_w26 := BTz_w25.trans (hb_w26.mono BTz_w25.size)
  have Bz_w26 := Bz_w25.trans (hb_w26.mono Bz_w25.size)
  rw [decide_eq_true rfl]
  go_wp2_with fail
  go_ret
  exact ⟨rfl, BW_w26⟩

end Go.Proofs.YtimoekglamdddaaDoor
