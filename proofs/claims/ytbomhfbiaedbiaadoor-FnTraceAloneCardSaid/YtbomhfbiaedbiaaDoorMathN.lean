/- Plain: one part alone. -/
import Derived.Test.YtbomhfbiaedbiaaDoorMathK
import Derived.Test.YtbomhfbiaedbiaaDoorMathM
namespace AG

theorem keptTo_all {w : ByteArray} {al : Int} : ∀ k, k ≤ w.size → (∀ i, i < k → HasZ al (ltr w i) = true) → keptTo w al k = w.data.toList.take k
  | 0, _, _ => by simp [keptTo]
  | k + 1, hk, h => by
    have ih := keptTo_all (w := w) (al := al) k (by omega) fun i hi => h i (by omega)
    have hk' : k < w.data.size := by have : w.size = w.data.size := rfl; omega
    rw [keptTo, if_pos (h k (by omega)), ih, List.take_succ_eq_append_getElem (by simpa using hk')]
    have e : w.data.getD k 0 = w.data.toList[k]'(by simpa using hk') := by
      rw [Array.getD_eq_getD_getElem?, Array.getElem?_eq_getElem hk']
      simp
    rw [e]
theorem restr_within {w : ByteArray} {al : Int} (h : within w al = true) : restr w al = w := by
  unfold within at h
  obtain ⟨-, -, h3⟩ := of_decide_eq_true h
  have := keptTo_all (w := w) (al := al) w.size (Nat.le_refl _) h3
  unfold restr
  rw [this]
  have e : w.data.toList.take w.size = w.data.toList := List.take_of_length_le (by simp)
  rw [e]
theorem hasTr_ok {s : Sy} {w : ByteArray} (h : hasTr s w = true) : sysOk s = true ∧ within w s.al = true := by
  unfold hasTr at h
  have h := of_decide_eq_true h
  unfold aft at h
  cases h1 : sysOk s <;> cases h2 : within w s.al <;> simp [h1, h2] at h ⊢
theorem hasTr_bad {s : Sy} (w : ByteArray) (h : sysOk s = false) : hasTr s w = false := by
  cases hb : hasTr s w with
  | false => rfl
  | true => rw [(hasTr_ok hb).1] at h; cases h

theorem allAl_one {s : Sy} (h : sysOk s = true) : allAl [s] = s.al := by
  have r := sysOk_alpha h
  show orB 0 s.al = s.al
  unfold orB
  simp
  omega
theorem allAl_two {s : Sy} (h : sysOk s = true) : allAl [s, s] = s.al := by
  have r := sysOk_alpha h
  have h0 : orB 0 s.al = s.al := allAl_one h
  show orB (orB 0 s.al) s.al = s.al
  rw [h0]
  unfold orB
  rw [Nat.or_self]
  omega
theorem trParts_same {s : Sy} {ss : List Sy} {w : ByteArray} (hs : sysOk s = true) (hp : partsOk ss = true) (ha : allAl ss = s.al) (he : ∀ x ∈ ss, x = s) (hn : 0 < ss.length) : trParts ss w = hasTr s w := by
  unfold trParts
  rw [Bool.eq_iff_iff, decide_eq_true_iff, ha]
  constructor
  · rintro ⟨-, h2, h3⟩
    have := h3 0 hn
    rw [he _ (List.getElem_mem _), restr_within h2] at this
    exact this
  · intro h
    have h2 := (hasTr_ok h).2
    refine ⟨hp, h2, fun i hi => ?_⟩
    rw [he _ (List.getElem_mem _), restr_within h2]
    exact h
theorem trParts_one (s : Sy) (w : ByteArray) : trParts [s] w = hasTr s w := by
  cases hs : sysOk s with
  | true => exact trParts_same hs (by simp [partsOk, hs]) (allAl_one hs) (by simp) (by simp)
  | false =>
    rw [hasTr_bad w hs]
    unfold trParts
    exact decide_eq_false fun h => by have := h.1; simp [partsOk, hs] at this
theorem trParts_two {s : Sy} (hs : sysOk s = true) (w : ByteArray) : trParts [s, s] w = hasTr s w :=
  trParts_same hs (by simp [partsOk, hs]) (allAl_two hs) (by simp) (by simp)

end AG
