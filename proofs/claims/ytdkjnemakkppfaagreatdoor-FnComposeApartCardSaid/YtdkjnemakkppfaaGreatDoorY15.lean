/- Lemmas, part 15: several texts in one. -/
import Derived.Test.YtdkjnemakkppfaaGreatDoorY7
import Derived.Test.YtdkjnemakkppfaaGreatDoorY4
set_option linter.unusedSimpArgs false
set_option linter.unusedVariables false

/- Plain: a composition seen by one of its systems. -/
namespace Go.Proofs.YtdkjnemakkppfaaGreatDoor
open AG

theorem has_andB {a b : Int} (ha : 0 ≤ a) (hb : 0 ≤ b) (c : Nat) : Has (andB a b) c = (Has a c && Has b c) := by
  obtain ⟨m, rfl⟩ := Int.eq_ofNat_of_zero_le ha
  obtain ⟨n, rfl⟩ := Int.eq_ofNat_of_zero_le hb
  unfold andB
  rw [Int.toNat_natCast, Int.toNat_natCast, Has_nat, Has_nat, Has_nat, Nat.testBit_and]
theorem cm_seen {s t : Sy} (h : cmOk s t = true) (ha : prK (cmX s t) s.al = true) (hb : prK s s.al = true) : cmpAu (prA (cmX s t) s.al) (prA s s.al) = true ∧ ∀ r : List Nat, (∀ l ∈ r, l ∈ letters s.al) → accA (prA (cmX s t) s.al) r = true → accA (prA s s.al) r = true := by
  obtain ⟨h1, h2, h3⟩ := cmOk_parts h
  have hall := all_two h1 h2
  refine ⟨?_, fun r hr => ?_⟩
  · unfold cmpAu
    rw [auOk_prA ha, auOk_prA hb, prA_al ha, prA_al hb, decide_eq_true rfl]
    rfl
  · rw [accA_prA ha hr, accA_prA hb hr, decide_eq_true_iff, decide_eq_true_iff, prW_iff (prK_true ha).1 hr, prW_self (sysOk_alpha h1).1]
    rintro ⟨u, u1, u2, u3⟩
    rw [cmX_ok h] at u3
    have := ((setW_cm_parts hall h3 u).1 u3).2 s List.mem_cons_self
    have e : flt s u = r := u2
    rw [e] at this
    exact this
theorem cm_apart {s t : Sy} (h : cmOk s t = true) (ha : prK (cmX s t) s.al = true) (hb : prK s s.al = true) (hd : andB s.al t.al = 0) : ∀ r : List Nat, (∀ l ∈ r, l ∈ letters s.al) → accA (prA s s.al) r = true → accA (prA (cmX s t) s.al) r = true := by
  obtain ⟨h1, h2, h3⟩ := cmOk_parts h
  have hall := all_two h1 h2
  intro r hr
  rw [accA_prA ha hr, accA_prA hb hr, decide_eq_true_iff, decide_eq_true_iff, prW_iff (prK_true ha).1 hr, prW_self (sysOk_alpha h1).1]
  intro hw
  have hx : ∀ l ∈ r, l ∈ letters (allAl [s, t]) := fun l hl => letters_part hall List.mem_cons_self (hr l hl)
  refine ⟨r, ?_, List.filter_eq_self.2 fun l hl => decide_eq_true (hr l hl), ?_⟩
  · rw [cmX_ok h]
    exact hx
  · rw [cmX_ok h, setW_cm_parts hall h3]
    refine ⟨hx, fun y hy => ?_⟩
    rcases List.mem_cons.1 hy with rfl | hy
    · rw [flt_self hr]
      exact hw
    · rw [List.mem_singleton.1 hy]
      have e : flt t r = [] := by
        unfold flt
        rw [List.filter_eq_nil_iff]
        intro l hl
        rw [decide_eq_true_iff]
        intro hlt
        have k1 := (letters_lt (hr l hl)).2
        have k2 := (letters_lt hlt).2
        have := has_andB (sysOk_alpha h1).1 (sysOk_alpha h2).1 l
        rw [hd, k1, k2] at this
        unfold Has at this
        simp at this
      rw [e]
      show (1 : Nat) ≠ 0
      decide
theorem cm_apart_same {s t : Sy} (h : cmOk s t = true) (ha : prK (cmX s t) s.al = true) (hb : prK s s.al = true) (hd : andB s.al t.al = 0) : sameLB (prA (cmX s t) s.al) (prA s s.al) = true := by
  obtain ⟨k1, k2⟩ := cm_seen h ha hb
  refine sameLB_iff.2 ⟨k1, fun r hr => ?_⟩
  rw [prA_al ha] at hr
  rw [Bool.eq_iff_iff]
  exact ⟨k2 r hr, cm_apart h ha hb hd r hr⟩
theorem cm_seen_none {s t : Sy} (h : cmOk s t = true) (ha : prK (cmX s t) s.al = true) (hb : prK s s.al = true) {o : Option (List Nat)} (ho : FoundP (prA (cmX s t) s.al) (prA s s.al) (fun x y => x && !y) o) : o = none := by
  obtain ⟨k1, k2⟩ := cm_seen h ha hb
  refine (doub_none k1 (ho.1 k1)).2 fun r hr => ?_
  rw [prA_al ha] at hr
  have := k2 r hr
  cases e : accA (prA (cmX s t) s.al) r
  · rfl
  · rw [this e]; rfl

end Go.Proofs.YtdkjnemakkppfaaGreatDoor
