/- Lemmas, part 5: several texts in one. -/
import Derived.Test.YtjhlbeamfngebaaDoorV1
import Derived.Test.YtjhlbeamfngebaaDoorV3
import Derived.Test.YtjhlbeamfngebaaDoorV2
import Derived.Deep.DeepCutAuto
import Derived.WalkKit
import Derived.Test.YtjhlbeamfngebaaDoorV4
import Derived.Deep.Quiet
import Derived.Deep.AppendLies
import Derived.Deep.Upon
import Derived.Deep.AppendSrc
import Derived.Laws.OwnMore
set_option linter.unusedSimpArgs false
set_option linter.unusedVariables false

/- Words as bytes: their letters, their alphabets, what is left of them, the states behind them. -/
namespace AG

def lOk (x : Int) : Bool := decide (0 ≤ x ∧ x < 6)
end AG

/- Plain: words as lists: prefixes, restrictions of restrictions, lists of systems in another order, words that are merged. -/
namespace AG

/-- The letter of a byte, -1 if there is none. -/
def bl (b : UInt8) : Int := if lOk ((b.toNat : Int) - 97) = true then (b.toNat : Int) - 97 else -1
end AG

/- The program's AutomatonValid. -/
namespace Go.Proofs.YtjhlbeamfngebaaDoor
open Go.RowKit Go.BigFrame AG

def rowOk (L n : Nat) (r : List Int) : Prop := r.length = L ∧ ∀ q ∈ r, 0 ≤ q ∧ q < (n : Int)
theorem auOk_iff (a : Au) : auOk a = true ↔ alphaOk a.al = true ∧ 1 ≤ a.nx.length ∧ a.nx.length ≤ 12 ∧ a.ac.length = a.nx.length ∧ ∀ r ∈ a.nx, rowOk (letters a.al).length a.nx.length r := by
  unfold auOk rowOk
  rw [decide_eq_true_eq]
theorem auOk_no {a : Au} (h : ¬ (alphaOk a.al = true ∧ 1 ≤ a.nx.length ∧ a.nx.length ≤ 12 ∧ a.ac.length = a.nx.length ∧ ∀ r ∈ a.nx, rowOk (letters a.al).length a.nx.length r)) : auOk a = false := by
  rw [← Bool.not_eq_true, auOk_iff]
  exact h

set_option maxRecDepth 100000 in
set_option maxHeartbeats 4000000 in
theorem implAutomatonValid_any (a : Au) (A B : Option Addr) (c d : Nat) (w : World) (ha : AuAt w A c B d a) :
    Calls Tryd.prog 50 #[a.val A c B d] w fun e w' => e = .returned (.bool (auOk a)) ∧ Below w.heap.size w w' := by
  obtain ⟨cl, cm, dl, dm, hrows, -⟩ := ha
  unfold AG.Au.val
  obtain ⟨w0, hw0, hz0, hB0, hS⟩ := boxed w #[Value.int IntKind.i64 a.al, Value.slice A a.nx.length c, Value.slice B a.ac.length d] 26
  have hr0 := hid (hrows.later hB0)
  have p0 := hS 0 _ rfl _ (Below.refl _ _)
  have p1 := hS 1 _ rfl _ (Below.refl _ _)
  have p2 := hS 2 _ rfl _ (Below.refl _ _)
  replace hrows := hid hrows
  go_enter Tryd.func50, Tryd.ntmps50
  go_wp2_with fail
  refine (isAlphabet_any a.al w0).mono ?_
  rintro e w1 ⟨rfl, rfl⟩
  cases hal : alphaOk a.al
  case false =>
    have hno := hid (auOk_no (a := a) (by rw [hal]; simp))
    replace hal := hid hal
    go_wp2
    go_ret
    exact ⟨ret_bool (by rw [hno.out]), hB0⟩
  case true =>
  have hal' := hid hal
  clear hal
  by_cases hn1 : 1 ≤ a.nx.length
  case neg =>
    have hno := hid (auOk_no (a := a) (by omega))
    have ht : ((a.nx.length : Int) < 1) := by omega
    go_wp2
    go_ret
    exact ⟨ret_bool (by rw [hno.out]), hB0⟩
  by_cases hn2 : a.nx.length ≤ 12
  case neg =>
    have hno := hid (auOk_no (a := a) (by omega))
    have ht : ¬ ((a.nx.length : Int) < 1) := by omega
    have ht2 : ((12 : Int) < (a.nx.length : Int)) := by omega
    go_wp2
    go_ret
    exact ⟨ret_bool (by rw [hno.out]), hB0⟩
  have ht : ¬ ((a.nx.length : Int) < 1) := by omega
  have ht2 : ¬ ((12 : Int) < (a.nx.length : Int)) := by omega
  by_cases hn3 : a.ac.length = a.nx.length
  case neg =>
    have hno := hid (auOk_no (a := a) (fun h => hn3 h.2.2.2.1))
    have ht3 : ((a.ac.length : Int) != (a.nx.length : Int)) = true := by simp; omega
    replace hn3 := hid hn3
    go_wp2
    go_ret
    exact ⟨ret_bool (by rw [hno.out]), hB0⟩
  have ht3 : ((a.ac.length : Int) != (a.nx.length : Int)) = false := by simp; omega
  replace hn3 := hid hn3
  go_wp2_with fail
  refine (lettersOf_any a.al w0).mono ?_
  rintro e w2 ⟨lv, rfl, hown2, hb2⟩
  obtain ⟨AL, cL, rfl, hcL, hcL'⟩ := own_slice hown2
  have hB2 := hB0.trans (hb2.mono hB0.size)
  have hC2 := hb2.mono hz0
  have hz2 := hb2.size
  have hr2 := hid (hr0.out.later hb2)
  clear p0 p1 p2 hown2
  have p1 := hS 1 _ rfl _ hC2
  obtain ⟨L, hL⟩ : ∃ L, Hid (L = (letters a.al).length) := ⟨_, hid rfl⟩
  rw [← hL.out] at hcL ⊢
  have hL6 : L ≤ 6 := by rw [hL.out]; exact lettersTo_len a.al 6
  go_wp2_with fail
  clear p1
  go_loopw [40] (fun iv wr => ∃ i : Nat, iv = .int .i64 (i : Nat) ∧ i ≤ a.nx.length ∧ (∀ r ∈ a.nx.take i, rowOk L a.nx.length r) ∧ Below w2.heap.size w2 wr) (fun iv _ => a.nx.length - (intOf iv).toNat)
  case atStart => exact ⟨0, rfl, by omega, by simp, Below.refl _ _⟩
  case round =>
    obtain ⟨i, rfl, hi, hok, hb⟩ := hrel
    have hBr := hB2.trans (hb.mono hB2.size)
    by_cases hlt : i < a.nx.length
    · obtain ⟨b, o, hA, hbB, hE⟩ := hr2.out (by omega)
      subst hA
      obtain ⟨Ai, ci, e0, h1, h2, h3⟩ := hE i hlt
      rw [← hb.cell (by simpa using hbB)] at e0
      obtain ⟨r, hr⟩ : ∃ r, Hid (r = a.nx[i]) := ⟨_, hid rfl⟩
      rw [← hr.out] at e0 h1 h3
      have hmem : Hid (r ∈ a.nx) := hid (by rw [hr.out]; exact List.getElem_mem _)
      have k1 : (0 : Int) ≤ (i : Int) ∧ (i : Int) < (a.nx.length : Int) := by omega
      have h3' := hid h3
      replace hE := hid hE
      replace hok := hid hok
      clear h3
      by_cases hrl : r.length = L
      case neg =>
        have hno := hid (auOk_no (a := a) (fun h => hrl (by rw [hL.out]; exact (h.2.2.2.2 r hmem.out).1)))
        have hq : ((r.length : Int) != (L : Int)) = true := by simp; omega
        replace hrl := hid hrl
        go_wp2
        go_ret
        exact ⟨ret_bool (by rw [hno.out]), hBr⟩
      have hq : ((r.length : Int) != (L : Int)) = false := by simp; omega
      replace hrl := hid hrl
      go_wp2_with fail
      go_loopw [50] (fun jv wq => ∃ j : Nat, jv = .int .i64 (j : Nat) ∧ j ≤ r.length ∧ (∀ q ∈ r.take j, 0 ≤ q ∧ q < (a.nx.length : Int)) ∧ Below w2.heap.size w2 wq) (fun jv _ => r.length - (intOf jv).toNat)
      case atStart => exact ⟨0, rfl, by omega, by simp, hb⟩
      case round =>
        obtain ⟨j, rfl, hj, hin, hbq⟩ := hrel
        have hBq := hB2.trans (hbq.mono hB2.size)
        clear e0
        by_cases hjl : j < r.length
        · obtain ⟨bj, oj, hA, hbj, hcell⟩ := h3'.out (by omega)
          subst hA
          have c0 := hcell j hjl
          rw [← hbq.cell (by simpa using hbj)] at c0
          obtain ⟨q, hq'⟩ : ∃ q, Hid (q = r[j]) := ⟨_, hid rfl⟩
          rw [← hq'.out] at c0
          have hqm : Hid (q ∈ r) := hid (by rw [hq'.out]; exact List.getElem_mem _)
          have k2 : (0 : Int) ≤ (j : Int) ∧ (j : Int) < (r.length : Int) := by omega
          have p1 := hS 1 _ rfl _ (hC2.trans (hbq.mono (by omega)))
          replace hcell := hid hcell
          replace hin := hid hin
          by_cases hqn : 0 ≤ q ∧ q < (a.nx.length : Int)
          · have hq1 : ¬ (q < 0) := by omega
            have hq2 : ¬ ((a.nx.length : Int) ≤ q) := by omega
            go_wp2
            go_roundw
            case rel =>
              refine ⟨j + 1, by go_num, by omega, fun y hy => ?_, hbq⟩
              rw [List.take_succ_eq_append_getElem hjl, List.mem_append, List.mem_singleton, ← hq'.out] at hy
              rcases hy with hy | rfl
              · exact hin.out y hy
              · exact hqn
            case measure => simp [intOf]; omega
          · have hno := hid (auOk_no (a := a) (fun h => hqn ((h.2.2.2.2 r hmem.out).2 q hqm.out)))
            by_cases hq1 : q < 0
            · go_wp2
              go_ret
              exact ⟨ret_bool (by rw [hno.out]), hBq⟩
            · have hq2 : ((a.nx.length : Int) ≤ q) := by omega
              go_wp2
              go_ret
              exact ⟨ret_bool (by rw [hno.out]), hBq⟩
        · obtain rfl : j = r.length := by omega
          rw [List.take_length] at hin
          replace hin := hid hin
          go_wp2
          go_roundw
          case rel =>
            refine ⟨i + 1, by go_num, by omega, fun y hy => ?_, hbq⟩
            rw [List.take_succ_eq_append_getElem hlt, List.mem_append, List.mem_singleton, ← hr.out] at hy
            rcases hy with hy | rfl
            · exact hok.out y hy
            · exact ⟨hrl.out, hin.out⟩
          case measure => simp [intOf]; omega
    · rw [List.take_of_length_le (by omega)] at hok
      have hyes := hid ((auOk_iff a).2 ⟨hal'.out, hn1, hn2, hn3.out, by rw [← hL.out]; exact hok⟩)
      replace hok := hid hok
      go_wp2
      go_ret
      exact ⟨ret_bool (by rw [hyes.out]), hBr⟩

end Go.Proofs.YtjhlbeamfngebaaDoor

/- The program's tableOf. -/
namespace Go.Proofs.YtjhlbeamfngebaaDoor
open Go.RowKit Go.BigFrame AG

/-- The table of an automaton: where each letter leads from each of n states. -/
def TabA (w : World) (g n : Nat) (a : Au) : Prop := g < w.heap.size ∧ ∀ q l, q < n → l < 6 → w.cell? ⟨g, q * 6 + l, none⟩ = some (.int .i64 (goA a q l : Nat))
theorem TabA.later {w w' : World} {g n : Nat} {a : Au} (h : TabA w g n a) (hb : Below w.heap.size w w') : TabA w' g n a := ⟨Nat.lt_of_lt_of_le h.1 hb.size, fun q l h1 h2 => by rw [hb.cell (by simpa using h.1)]; exact h.2 q l h1 h2⟩
/-- Every row has as many entries as there are letters, and they are no negative numbers. -/
def tabOk (a : Au) : Prop := ∀ r ∈ a.nx, r.length = (letters a.al).length ∧ ∀ q ∈ r, 0 ≤ q
/-- .. when i letters of the row have been entered. -/
def goK (a : Au) (q i l : Nat) : Int := if l ∈ (letters a.al).take i then (a.nx.getD q []).getD ((letters a.al).idxOf l) 0 else (q : Int)
theorem goK_done {a : Au} (h : tabOk a) {q l : Nat} (hq : q < a.nx.length) : goK a q (letters a.al).length l = ((goA a q l : Nat) : Int) := by
  unfold goK goA
  rw [List.take_length]
  split
  · rename_i hl
    have hg : a.nx.getD q [] = a.nx[q] := by rw [List.getD_eq_getElem?_getD, List.getElem?_eq_getElem hq]; rfl
    obtain ⟨h1, h2⟩ := h a.nx[q] (List.getElem_mem _)
    have hk : (letters a.al).idxOf l < (a.nx[q]).length := by rw [h1]; exact List.idxOf_lt_length_iff.2 hl
    rw [hg]
    have : (a.nx[q]).getD ((letters a.al).idxOf l) 0 = (a.nx[q])[(letters a.al).idxOf l] := by rw [List.getD_eq_getElem?_getD, List.getElem?_eq_getElem hk]; rfl
    rw [this, Int.toNat_of_nonneg (h2 _ (List.getElem_mem _))]
  · rfl
/-- The cells of the table: q rows are done, of the next one those that f says. -/
structure TabSt (cs : Array Value) (n : Nat) (a : Au) (q : Nat) (f : Nat → Option Int) : Prop where
  size : cs.size = n * 6
  rows : ∀ p l, p < q → l < 6 → cs[p * 6 + l]? = some (.int .i64 (goA a p l : Nat))
  row : ∀ l v, l < 6 → f l = some v → cs[q * 6 + l]? = some (.int .i64 v)
theorem TabSt.set_ {cs : Array Value} {n : Nat} {a : Au} {q l : Nat} {f f' : Nat → Option Int} {v : Int} (h : TabSt cs n a q f) (hq : q < n) (hl : l < 6) (hf : ∀ k, k ≠ l → f' k = f k) (hv : f' l = some v) : TabSt (cs.setIfInBounds (q * 6 + l) (.int .i64 v)) n a q f' := by
  refine ⟨by simpa using h.size, fun p k hp hk => ?_, fun k u hk hu => ?_⟩
  · rw [Array.getElem?_setIfInBounds_ne (by omega)]
    exact h.rows p k hp hk
  · by_cases e : k = l
    · subst e
      rw [hv] at hu
      injection hu with hu
      subst hu
      rw [Array.getElem?_setIfInBounds_self_of_lt (by rw [h.size]; omega)]
    · rw [Array.getElem?_setIfInBounds_ne (by omega)]
      exact h.row k u hk (by rw [← hf k e]; exact hu)
theorem TabSt.over {cs : Array Value} {n : Nat} {a : Au} {q : Nat} (h : TabSt cs n a q (fun l => some (goK a q (letters a.al).length l))) (ht : tabOk a) (hq : q < a.nx.length) : TabSt cs n a (q + 1) (fun _ => none) := by
  refine ⟨h.size, fun p l hp hl => ?_, fun l v _ hv => by cases hv⟩
  by_cases e : p = q
  · subst e
    rw [h.row l _ hl rfl, goK_done ht hq]
  · exact h.rows p l (by omega) hl

end Go.Proofs.YtjhlbeamfngebaaDoor

/- The program's StateAfter and AcceptsWord. -/
namespace AG

end AG
namespace Go.Proofs.YtjhlbeamfngebaaDoor
open Go.RowKit Go.BigFrame AG

theorem goA_lt {a : Au} (h : auOk a = true) {q l : Nat} (hq : q < a.nx.length) : goA a q l < a.nx.length := by
  unfold goA
  split
  · rename_i hl
    have hr := ((auOk_iff a).1 h).2.2.2.2 a.nx[q] (List.getElem_mem _)
    have hg : a.nx.getD q [] = a.nx[q] := by rw [List.getD_eq_getElem?_getD, List.getElem?_eq_getElem hq]; rfl
    have hk : (letters a.al).idxOf l < (a.nx[q]).length := by rw [hr.1]; exact List.idxOf_lt_length_iff.2 hl
    have : (a.nx[q]).getD ((letters a.al).idxOf l) 0 = (a.nx[q])[(letters a.al).idxOf l] := by rw [List.getD_eq_getElem?_getD, List.getElem?_eq_getElem hk]; rfl
    rw [hg, this]
    have := hr.2 _ (List.getElem_mem hk)
    omega
  · exact hq
end Go.Proofs.YtjhlbeamfngebaaDoor

/- Plain: the system of an automaton: its accepting states, and the letters that lead from one to another. -/
namespace Go.Proofs.YtjhlbeamfngebaaDoor
open AG

/-- The accepting states below k as a set. -/
def accSet (a : Au) : Nat → Nat
  | 0 => 0
  | k + 1 => if a.ac.getD k false = true then accSet a k ||| 2 ^ k else accSet a k
theorem accSet_lt (a : Au) : ∀ k, accSet a k < 2 ^ k
  | 0 => by simp [accSet]
  | k + 1 => by
    have ih := accSet_lt a k
    have h1 : 2 ^ k < 2 ^ (k + 1) := Nat.pow_lt_pow_right (by omega) (by omega)
    unfold accSet
    split
    · exact or_pow_lt (by omega) (by omega)
    · omega
theorem accSet_bit (a : Au) (j : Nat) : ∀ k, (accSet a k).testBit j = (decide (j < k) && a.ac.getD j false)
  | 0 => by simp [accSet]
  | k + 1 => by
    have ih := accSet_bit a j k
    unfold accSet
    by_cases h : a.ac.getD k false = true
    · rw [if_pos h]
      by_cases e : k = j
      · subst e
        rw [h, decide_eq_true (by omega)]
        exact (testBit_or_pow _ _ _).2 (.inr rfl)
      · rw [Bool.eq_iff_iff, testBit_or_pow, ih]
        simp only [Bool.and_eq_true, decide_eq_true_eq]
        constructor
        · rintro (⟨h1, h2⟩ | h1)
          · exact ⟨by omega, h2⟩
          · exact absurd h1 e
        · rintro ⟨h1, h2⟩
          exact .inl ⟨by omega, h2⟩
    · rw [if_neg h, ih]
      by_cases e : k = j
      · subst e
        rw [Bool.not_eq_true] at h
        rw [h]
        simp
      · have : decide (j < k + 1) = decide (j < k) := by rw [Bool.eq_iff_iff]; simp; omega
        rw [this]
def accS (a : Au) : Nat := accSet a a.nx.length
/-- The edges of a row. -/
def rowEs (L : List Nat) (q : Nat) (row : List Int) : List Ed := (L.zip row).map fun p => ⟨(q : Int), (p.1 : Int), p.2⟩
def fullTo (a : Au) (k : Nat) : List Ed := (List.range k).flatMap fun q => rowEs (letters a.al) q (a.nx.getD q [])
def fullSy (a : Au) : Sy := ⟨a.al, (a.nx.length : Nat), fullTo a a.nx.length⟩
def soOk (a : Au) : Bool := auOk a && a.ac.getD 0 false
def soS (a : Au) : Sy := if soOk a = true then trimSy (fullSy a) (accS a) else ⟨0, 0, []⟩

theorem rowEs_len (L : List Nat) (q : Nat) (row : List Int) : (rowEs L q row).length = min L.length row.length := by unfold rowEs; simp
theorem rowEs_get (L : List Nat) (q : Nat) (row : List Int) {k : Nat} (h1 : k < L.length) (h2 : k < row.length) : (rowEs L q row)[k]'(by rw [rowEs_len]; omega) = ⟨(q : Int), (L[k] : Int), row[k]⟩ := by
  unfold rowEs
  simp
theorem rowEs_take (L : List Nat) (q : Nat) (row : List Int) {k : Nat} (h1 : k < L.length) (h2 : k < row.length) : (rowEs L q row).take (k + 1) = (rowEs L q row).take k ++ [⟨(q : Int), (L[k] : Int), row[k]⟩] := by
  rw [List.take_succ_eq_append_getElem (by rw [rowEs_len]; omega), rowEs_get L q row h1 h2]
theorem fullTo_succ (a : Au) {k : Nat} (h : k < a.nx.length) : fullTo a (k + 1) = fullTo a k ++ rowEs (letters a.al) k a.nx[k] := by
  unfold fullTo
  rw [List.range_succ, List.flatMap_append]
  simp [List.getD_eq_getElem?_getD, List.getElem?_eq_getElem h]
theorem letters_len6 (A : Int) : (letters A).length ≤ 6 := lettersTo_len A 6
theorem fullTo_len (a : Au) : ∀ k, (fullTo a k).length ≤ k * 6
  | 0 => Nat.le_refl _
  | k + 1 => by
    have ih := fullTo_len a k
    have h6 := letters_len6 a.al
    unfold fullTo at ih ⊢
    rw [List.range_succ, List.flatMap_append, List.length_append]
    simp only [List.flatMap_cons, List.flatMap_nil, List.append_nil, rowEs_len]
    omega

theorem row_at {a : Au} (h : auOk a = true) {q : Nat} (hq : q < a.nx.length) : a.nx.getD q [] = a.nx[q] ∧ (a.nx[q]).length = (letters a.al).length ∧ ∀ t ∈ a.nx[q], 0 ≤ t ∧ t < (a.nx.length : Int) := by
  obtain ⟨_, _, _, _, h5⟩ := (auOk_iff a).1 h
  have := h5 _ (List.getElem_mem hq)
  exact ⟨by rw [List.getD_eq_getElem?_getD, List.getElem?_eq_getElem hq]; rfl, this.1, this.2⟩
theorem goA_at {a : Au} (h : auOk a = true) {q i : Nat} (hq : q < a.nx.length) (hi : i < (letters a.al).length) (hi' : i < (a.nx[q]).length) : ((goA a q (letters a.al)[i] : Nat) : Int) = (a.nx[q])[i] := by
  obtain ⟨e1, e2, e3⟩ := row_at h hq
  have hnd : (letters a.al).Nodup := (letters_sorted a.al).imp fun h => by omega
  have hidx : (letters a.al).idxOf (letters a.al)[i] = i := hnd.idxOf_getElem i hi
  unfold goA
  rw [if_pos (List.getElem_mem hi), hidx, e1, List.getD_eq_getElem?_getD, List.getElem?_eq_getElem hi']
  have := (e3 _ (List.getElem_mem hi')).1
  show (((a.nx[q])[i].toNat : Nat) : Int) = _
  omega
/-- The edges of an automaton. -/
theorem fullTo_mem {a : Au} (h : auOk a = true) {e : Ed} : e ∈ fullTo a a.nx.length ↔ ∃ q l, q < a.nx.length ∧ l ∈ letters a.al ∧ e = ⟨(q : Int), (l : Int), (goA a q l : Int)⟩ := by
  unfold fullTo
  rw [List.mem_flatMap]
  constructor
  · rintro ⟨q, hq, he⟩
    rw [List.mem_range] at hq
    obtain ⟨e1, e2, e3⟩ := row_at h hq
    rw [e1] at he
    obtain ⟨i, hi, rfl⟩ := List.getElem_of_mem he
    have hi' := hi
    rw [rowEs_len] at hi'
    refine ⟨q, (letters a.al)[i], hq, List.getElem_mem _, ?_⟩
    rw [rowEs_get _ _ _ (by omega) (by omega), goA_at h hq (by omega) (by omega)]
  · rintro ⟨q, l, hq, hl, rfl⟩
    refine ⟨q, List.mem_range.2 hq, ?_⟩
    obtain ⟨e1, e2, e3⟩ := row_at h hq
    obtain ⟨i, hi, rfl⟩ := List.getElem_of_mem hl
    rw [e1, goA_at h hq hi (by omega), ← rowEs_get (letters a.al) q a.nx[q] hi (by omega)]
    exact List.getElem_mem _
theorem fullSy_in {a : Au} (h : auOk a = true) : edgesIn (fullSy a) := by
  intro e he
  obtain ⟨q, l, hq, hl, rfl⟩ := (fullTo_mem h).1 he
  have h12 := ((auOk_iff a).1 h).2.2.1
  have hg := goA_lt h (q := q) (l := l) hq
  obtain ⟨hl6, hh⟩ := letters_lt hl
  show (0 : Int) ≤ (q : Int) ∧ (q : Int) < 16 ∧ (0 : Int) ≤ ((goA a q l : Nat) : Int) ∧ ((goA a q l : Nat) : Int) < 16 ∧ (0 : Int) ≤ (l : Int) ∧ (l : Int) < 6 ∧ Has a.al (l : Int).toNat = true ∧ (q : Int) < ((a.nx.length : Nat) : Int) ∧ ((goA a q l : Nat) : Int) < ((a.nx.length : Nat) : Int)
  refine ⟨by omega, by omega, by omega, by omega, by omega, by omega, by rw [Int.toNat_natCast]; exact hh, by omega, by omega⟩
theorem soOk_iff {a : Au} : soOk a = true ↔ auOk a = true ∧ a.ac.getD 0 false = true := by unfold soOk; rw [Bool.and_eq_true]
theorem soS_eq {a : Au} (h : soOk a = true) : soS a = trimSy (fullSy a) (accS a) := by unfold soS; rw [if_pos h]
theorem soS_al {a : Au} (h : soOk a = true) : (soS a).al = a.al := by rw [soS_eq h]; rfl
theorem accS_bit {a : Au} (h : auOk a = true) (j : Nat) : (accS a).testBit j = true ↔ j < a.nx.length ∧ a.ac.getD j false = true := by
  unfold accS
  rw [accSet_bit, Bool.and_eq_true, decide_eq_true_eq]
theorem accS_lt {a : Au} (h : auOk a = true) : accS a < 65536 := by
  have h1 := accSet_lt a a.nx.length
  have h12 := ((auOk_iff a).1 h).2.2.1
  have : 2 ^ a.nx.length ≤ 2 ^ 12 := Nat.pow_le_pow_right (by omega) h12
  unfold accS
  omega
/-- The edges that the program gathers: only those between accepting states, row by row. -/
theorem trimEs_append (R : Nat) (xs ys : List Ed) : trimEs R (xs ++ ys) = trimEs R xs ++ trimEs R ys := by unfold trimEs; rw [List.filter_append, List.map_append]
theorem trimEs_none {R : Nat} {es : List Ed} (h : ∀ e ∈ es, keptE R e = false) : trimEs R es = [] := by
  unfold trimEs
  rw [List.filter_eq_nil_iff.2 fun e he => by rw [h e he]; simp]
  rfl
theorem flat_filter {g : Nat → List Ed} {p : Nat → Bool} {R : Nat} : ∀ (l : List Nat), (∀ x ∈ l, p x = false → trimEs R (g x) = []) → trimEs R ((l.filter p).flatMap g) = trimEs R (l.flatMap g)
  | [], _ => rfl
  | x :: l, h => by
    have ih := flat_filter l fun y hy => h y (List.mem_cons_of_mem _ hy)
    rw [List.flatMap_cons, trimEs_append]
    cases hp : p x
    · rw [List.filter_cons_of_neg (by simp [hp]), ih, h x List.mem_cons_self hp, List.nil_append]
    · rw [List.filter_cons_of_pos hp, List.flatMap_cons, trimEs_append, ih]
theorem memL_range {S n : Nat} (h : S < 2 ^ n) (hn : n ≤ 16) : memL S = (List.range n).filter fun q => S.testBit q := by
  refine sorted_ext (memL_sorted S) (List.Pairwise.filter _ List.pairwise_lt_range) fun x => ?_
  rw [memL_mem, List.mem_filter, List.mem_range]
  constructor
  · rintro ⟨_, h2⟩
    exact ⟨testBit_lt h h2, h2⟩
  · rintro ⟨h1, h2⟩
    exact ⟨by omega, h2⟩
def gotTo (a : Au) (i : Nat) : List Ed := ((memL (accS a)).take i).flatMap fun q => rowEs (letters a.al) q (a.nx.getD q [])
theorem gotTo_succ {a : Au} {i : Nat} (hi : i < (memL (accS a)).length) (hq : (memL (accS a))[i] < a.nx.length) : gotTo a (i + 1) = gotTo a i ++ rowEs (letters a.al) (memL (accS a))[i] a.nx[(memL (accS a))[i]] := by
  unfold gotTo
  rw [List.take_succ_eq_append_getElem hi, List.flatMap_append]
  simp [List.getD_eq_getElem?_getD, List.getElem?_eq_getElem hq]
theorem gotTo_all {a : Au} (h : auOk a = true) : trimEs (accS a) (gotTo a (memL (accS a)).length) = trimEs (accS a) (fullTo a a.nx.length) := by
  have h12 := ((auOk_iff a).1 h).2.2.1
  unfold gotTo fullTo
  rw [List.take_length, memL_range (show accS a < 2 ^ a.nx.length from accSet_lt a _) (by omega)]
  refine flat_filter _ fun q _ hq => trimEs_none fun e he => ?_
  unfold rowEs at he
  obtain ⟨p, _, rfl⟩ := List.mem_map.1 he
  unfold keptE
  dsimp only
  rw [Int.toNat_natCast, hq]
  rfl

end Go.Proofs.YtjhlbeamfngebaaDoor

/- The drawing kit's reader: what it is in memory; pick. -/
namespace Go.Proofs.YtjhlbeamfngebaaDoor
open Go.RowKit Go.BigFrame AG

/-- The reader at block R: its bytes are the slice '.slice A n c', its position p. -/
structure RdAt (w : World) (R : Nat) (A : Option Addr) (n c p : Nat) : Prop where
  blk : Blk w R 129 #[.slice A n c, .int .i64 (p : Int)]
  len : n ≤ 2000
  cap : n ≤ c
  top : c ≤ 9223372036854775807
  pos : p ≤ 1125899906842624
  bytes : 0 < n → ∃ b o, A = some ⟨b, o, none⟩ ∧ b < R ∧ ∀ i, i < n → ∃ x : Nat, x < 256 ∧ w.cell? ⟨b, o + i, none⟩ = some (.int .u8 (x : Int))

theorem RdAt.later {w w' : World} {R : Nat} {A : Option Addr} {n c p : Nat} (h : RdAt w R A n c p) (hb : Below w.heap.size w w') : RdAt w' R A n c p :=
  ⟨h.blk.below hb h.blk.lt, h.len, h.cap, h.top, h.pos, fun hn => by
    obtain ⟨b, o, hA, hlt, hx⟩ := h.bytes hn
    have hR := h.blk.lt
    refine ⟨b, o, hA, hlt, fun i hi => ?_⟩
    obtain ⟨x, h1, h2⟩ := hx i hi
    exact ⟨x, h1, by rw [hb.cell (by simp; omega)]; exact h2⟩⟩

theorem RdAt.step {w : World} {R : Nat} {A : Option Addr} {n c p : Nat} {v : Value} (h : RdAt w R A n c p) (hp : p < 1125899906842624) (hv : v = .int .i64 ((p : Int) + 1)) :
    RdAt (w.setCell ⟨R, 1, none⟩ v) R A n c (p + 1) ∧ KeepB (fun b => b = R) w (w.setCell ⟨R, 1, none⟩ v) := by
  subst hv
  refine ⟨⟨?_, h.len, h.cap, h.top, by omega, fun hn => ?_⟩, (KeepB.refl _ w).setCell _ _ (fun _ => rfl)⟩
  · have := h.blk.set_ 1 (.int .i64 ((p : Int) + 1))
    simpa using this
  · obtain ⟨b, o, hA, hlt, hx⟩ := h.bytes hn
    refine ⟨b, o, hA, hlt, fun i hi => ?_⟩
    obtain ⟨x, h1, h2⟩ := hx i hi
    refine ⟨x, h1, ?_⟩
    rw [World.cell?_setCell_other (h := addr_ne (by omega))]
    exact h2

/-- The reader at block R, its position at most P. -/
def RdUp (w : World) (R P : Nat) : Prop := ∃ A n c p, p ≤ P ∧ RdAt w R A n c p
theorem RdUp.more {w : World} {R P P' : Nat} (h : RdUp w R P) (hP : P ≤ P') : RdUp w R P' := by
  obtain ⟨A, n, c, p, h1, h2⟩ := h
  exact ⟨A, n, c, p, by omega, h2⟩
theorem RdUp.later {w w' : World} {R P : Nat} (h : RdUp w R P) (hb : Below w.heap.size w w') : RdUp w' R P := by
  obtain ⟨A, n, c, p, h1, h2⟩ := h
  exact ⟨A, n, c, p, h1, h2.later hb⟩
theorem RdUp.lt {w : World} {R P : Nat} (h : RdUp w R P) : R < w.heap.size := by
  obtain ⟨A, n, c, p, h1, h2⟩ := h
  exact h2.blk.lt
/-- Later blocks may be written. -/
theorem RdUp.keep {K : Nat → Prop} {w w' : World} {R P : Nat} (h : RdUp w R P) (hb : KeepB K w w') (hK : ∀ k, K k → R < k) : RdUp w' R P := by
  obtain ⟨A, n, c, p, h1, h2⟩ := h
  have hR := h2.blk.lt
  refine ⟨A, n, c, p, h1, h2.blk.keep hb (fun hk => by have := hK _ hk; omega), h2.len, h2.cap, h2.top, h2.pos, fun hn => ?_⟩
  obtain ⟨b, o, hA, hlt, hx⟩ := h2.bytes hn
  refine ⟨b, o, hA, hlt, fun i hi => ?_⟩
  obtain ⟨x, g1, g2⟩ := hx i hi
  refine ⟨x, g1, ?_⟩
  have : w'.cell? ⟨b, o + i, none⟩ = w.cell? ⟨b, o + i, none⟩ := by
    unfold World.cell?
    rw [hb.block b (by omega) (fun hk => by have := hK _ hk; omega)]
  rw [this]
  exact g2

end Go.Proofs.YtjhlbeamfngebaaDoor

/- The drawing kit: l19Open, num, of. -/
namespace Go.Proofs.YtjhlbeamfngebaaDoor
open Go.RowKit Go.BigFrame AG

theorem KeepB.cell_ {K : Nat → Prop} {w w' : World} (h : KeepB K w w') {p : Addr} (hb : p.block < w.heap.size) (hK : ¬ K p.block) : w'.cell? p = w.cell? p := by
  unfold World.cell?
  rw [h.block _ hb hK]

end Go.Proofs.YtjhlbeamfngebaaDoor

/- The drawing kit: l19Cut, l2Parse. -/
namespace Go.Proofs.YtjhlbeamfngebaaDoor
open Go.RowKit Go.BigFrame AG

/-- Texts of at most N bytes each, as an owned slice. -/
def OwnStrs (w : World) (B : Nat) (v : Value) (ws : List ByteArray) : Prop := w.ownsRow B 9 1 v ws.length (ws.map Value.string)
structure CutSt (w wr : World) (v : Value) (ws : List ByteArray) (N k : Nat) : Prop where
  own : OwnStrs wr w.heap.size v ws
  len : ws.length ≤ k
  small : ∀ x ∈ ws, x.size ≤ N
  below : Below w.heap.size w wr

theorem CutSt.add {w wr w1 : World} {v v' : Value} {ws : List ByteArray} {N k : Nat} {x : ByteArray} {o : Obj} (h : CutSt w wr v ws N k) (hx : x.size ≤ N) (hown : w1.ownsRow w.heap.size 9 1 v' (ws.length + 1) (ws.map Value.string ++ [.string x])) (hg : (wr.alloc o).grownBy w1 v.ownBlock) :
    CutSt w w1 v' (ws ++ [x]) N (k + 1) := by
  refine ⟨?_, ?_, ?_, ?_⟩
  · have : (ws ++ [x]).length = ws.length + 1 := by simp
    unfold OwnStrs
    rw [this, List.map_append]
    exact hown
  · have := h.len
    simp
    omega
  · intro y hy
    rcases List.mem_append.1 hy with hy | hy
    · exact h.small y hy
    · rw [List.mem_singleton.1 hy]; exact hx
  · exact (h.below.alloc h.below.size o).grown hg (by have := h.below.size; simp; omega) (fun k hk => (World.ownsRow.lt h.own k hk).1)

end Go.Proofs.YtjhlbeamfngebaaDoor

/- The drawing kit: l2Random, l2Small. -/
namespace Go.Proofs.YtjhlbeamfngebaaDoor
open Go.RowKit Go.BigFrame AG

theorem infoEd : (Tryd.prog.info? 77).map (fun i => (i.zero, i.size, i.bytes)) = some (some (.agg #[.int .i64 0, .int .i64 0, .int .i64 0]), 3, 24) := by kernel_rfl

def edCells : List Ed → List Value
  | [] => []
  | e :: es => .int .i64 e.f :: .int .i64 e.l :: .int .i64 e.t :: edCells es
theorem edCells_append : ∀ ps qs : List Ed, edCells (ps ++ qs) = edCells ps ++ edCells qs
  | [], _ => rfl
  | p :: ps, qs => by rw [List.cons_append, edCells, edCells_append ps qs]; rfl
theorem edCells_at : ∀ (ps : List Ed) (i : Nat) (h : i < ps.length), (edCells ps)[i * 3]? = some (.int .i64 ps[i].f) ∧ (edCells ps)[i * 3 + 1]? = some (.int .i64 ps[i].l) ∧ (edCells ps)[i * 3 + 2]? = some (.int .i64 ps[i].t)
  | p :: ps, 0, _ => ⟨rfl, rfl, rfl⟩
  | p :: ps, i + 1, h => by
    have := edCells_at ps i (by simpa using h)
    rw [show (i + 1) * 3 = i * 3 + 1 + 1 + 1 from by omega]
    exact this
/-- The edges es, as an owned slice. -/
def OwnEds (w : World) (B : Nat) (v : Value) (es : List Ed) : Prop := w.ownsRow B 77 3 v es.length (edCells es)
theorem OwnEds.read {w : World} {B : Nat} {v : Value} {es : List Ed} (h : OwnEds w B v es) : ∃ A c, v = .slice A es.length c ∧ es.length ≤ c ∧ c ≤ 9223372036854775807 ∧ EdsAt w w.heap.size A es ∧ FreshA B A := by
  have hlt := World.ownsRow.lt h
  have hcl := fun {g} hg => World.ownsRow.cells h (g := g) hg
  obtain ⟨_, ⟨rfl, h0⟩ | ⟨g, cap, cur, rfl, hg, hw, h1, h2, h3, h4⟩⟩ := h
  · exact ⟨none, 0, by rw [h0], by omega, by omega, fun hl => by omega, fun b o hA => by cases hA⟩
  · refine ⟨_, cap, rfl, h1, h2, fun _ => ⟨g, 0, rfl, (hlt g rfl).2, fun i hi => ?_⟩, fun b o hA => by injection hA with hA; injection hA with hA; omega⟩
    obtain ⟨a1, a2, a3⟩ := edCells_at es i hi
    have b1 := hcl rfl _ _ a1
    have b2 := hcl rfl _ _ a2
    have b3 := hcl rfl _ _ a3
    have hadd : ∀ j, (⟨g, 0, none⟩ : Addr).add j = ⟨g, j, none⟩ := fun j => by unfold Addr.add; split <;> simp_all
    rw [hadd] at b1 b2 b3
    simp only [Nat.zero_add]
    exact ⟨b1, b2, b3⟩

/-- Some system comes back; the reader has moved on to P at most. -/
def SyUp (R P L : Nat) (w : World) (e : Ending) (w' : World) : Prop :=
  ∃ (s : Sy) (A : Option Addr) (c : Nat), e = .returned (s.val A c) ∧ s.es.length ≤ c ∧ c ≤ 9223372036854775807 ∧ s.es.length ≤ L ∧ EdsAt w' w'.heap.size A s.es ∧ FreshA w.heap.size A ∧ RdUp w' R P ∧ KeepB (fun b => b = R) w w'

/-- What l2Random holds in its loops: N rounds at most are behind it. -/
structure RndSt (w wr : World) (R P gs : Nat) (al st : Int) (lv : Value) (ls : List Nat) (N : Nat) (v : Value) (es : List Ed) : Prop where
  len : es.length ≤ N
  blk : Blk wr gs 37 #[.int .i64 al, .int .i64 st, v]
  own : OwnEds wr (gs + 1) v es
  list : OwnNats wr (gs + 1) lv ls
  rd : RdUp wr R (P + N)
  keep : KeepB (fun b => b = R) w wr
  res : Blk wr w.heap.size 37 #[.int .i64 0, .int .i64 0, .slice none 0 0]
theorem RndSt.pick {w wr w1 : World} {R P gs : Nat} {al st : Int} {lv : Value} {ls : List Nat} {N : Nat} {v : Value} {es : List Ed} (h : RndSt w wr R P gs al st lv ls N v es) (hR : R < w.heap.size) (hgs : w.heap.size < gs) (hr : RdUp w1 R (P + N + 1)) (hk : KeepB (fun b => b = R) wr w1) :
    RndSt w w1 R P gs al st lv ls (N + 1) v es :=
  ⟨by have := h.len; omega, h.blk.keep hk (by omega), own_keep h.own hk (fun g hg => by have := (h.own.lt g hg).1; omega), own_keep h.list hk (fun g hg => by have := (World.ownsRow.lt h.list g hg).1; omega), hr, h.keep.trans hk, h.res.keep hk (by omega)⟩
theorem RndSt.later {w wr w1 : World} {R P gs : Nat} {al st : Int} {lv : Value} {ls : List Nat} {N : Nat} {v : Value} {es : List Ed} (h : RndSt w wr R P gs al st lv ls N v es) (hb : Below wr.heap.size wr w1) : RndSt w w1 R P gs al st lv ls N v es :=
  ⟨h.len, h.blk.below hb h.blk.lt, own_later h.own hb, own_later h.list hb, h.rd.later hb, h.keep.trans (KeepB.of_below hb), h.res.below hb h.res.lt⟩
theorem RndSt.begin {w w2 : World} {R P : Nat} {al st : Int} {lv : Value} {ls : List Nat}
    (hr : RdUp w R P) (hown : OwnNats w2 (w.heap.size + 2) lv ls) (hb : Below (w.heap.size + 2) ((w.alloc (.cells #[.int .i64 0, .int .i64 0, .slice none 0 0] 37)).alloc (.cells #[.int .i64 al, .int .i64 st, .slice none 0 0] 37)) w2) :
    RndSt w w2 R P (w.heap.size + 1) al st lv ls 0 (.slice none 0 0) [] := by
  have b1 : Below w.heap.size w w2 := (((Below.refl _ _).alloc (Nat.le_refl _) _).alloc (by simp) _).trans (hb.mono (by omega))
  refine ⟨Nat.le_refl _, ?_, World.ownsRow_nil _ _ _ _, own_base hown (by omega), hr.later b1, KeepB.of_below b1, ?_⟩
  · have := Blk.new (w.alloc (.cells #[.int .i64 0, .int .i64 0, .slice none 0 0] 37)) 37 #[.int .i64 al, .int .i64 st, .slice none 0 0]
    rw [World.size_alloc] at this
    exact this.below hb (by omega)
  · have := (Blk.new w 37 #[.int .i64 0, .int .i64 0, .slice none 0 0]).alloc (.cells #[.int .i64 al, .int .i64 st, .slice none 0 0] 37)
    exact this.below hb (by omega)
theorem RndSt.post {w wr : World} {R P : Nat} {al st : Int} {lv : Value} {ls : List Nat} {N : Nat} {v : Value} {es : List Ed} (h : RndSt w wr R P (w.heap.size + 1) al st lv ls N v es) (hN : N ≤ 1536) (hR : R < w.heap.size) (v1 v2 v3 : Value) :
    SyUp R (P + 1536) 1536 w (.returned (.agg #[.int .i64 al, .int .i64 st, v])) (((wr.setCell ⟨w.heap.size, 0, none⟩ v1).setCell ⟨w.heap.size, 1, none⟩ v2).setCell ⟨w.heap.size, 2, none⟩ v3) := by
  obtain ⟨A, c, hv, h1, h2, h3, h4⟩ := h.own.read
  have hl := h.len
  have hk : KeepB (fun b => b = w.heap.size) wr (((wr.setCell ⟨w.heap.size, 0, none⟩ v1).setCell ⟨w.heap.size, 1, none⟩ v2).setCell ⟨w.heap.size, 2, none⟩ v3) := (((KeepB.refl _ wr).setCell _ _ (by simp)).setCell _ _ (by simp)).setCell _ _ (by simp)
  refine ⟨⟨al, st, es⟩, A, c, by rw [hv]; rfl, h1, h2, by show es.length ≤ 1536; omega, ?_, fun b o hA => by have := h4 b o hA; omega, (h.rd.more (by omega)).keep hk (by omega), ?_⟩
  · have hne : ∀ b o, A = some ⟨b, o, none⟩ → 0 < es.length → b ≠ w.heap.size := fun b o hA _ => by have := h4 b o hA; omega
    simpa [World.setCell] using ((h3.stored v1 hne).stored v2 hne).stored v3 hne
  · exact (((h.keep).setCell _ _ (by simp)).setCell _ _ (by simp)).setCell _ _ (by simp)


end Go.Proofs.YtjhlbeamfngebaaDoor

/- The drawing kit: ParseSystem. -/
namespace Go.Proofs.YtjhlbeamfngebaaDoor
open Go.RowKit Go.BigFrame AG

structure PsSt (w2 wr : World) (al st : Int) (v : Value) (es : List Ed) (k : Nat) : Prop where
  blk : Blk wr w2.heap.size 37 #[.int .i64 al, .int .i64 st, v]
  own : OwnEds wr (w2.heap.size + 1) v es
  len : es.length ≤ k
  below : Below w2.heap.size w2 wr
theorem PsSt.later {w2 wr w1 : World} {al st : Int} {v : Value} {es : List Ed} {k : Nat} (h : PsSt w2 wr al st v es k) (hb : Below wr.heap.size wr w1) : PsSt w2 w1 al st v es k :=
  ⟨h.blk.below hb h.blk.lt, own_later h.own hb, h.len, h.below.trans (hb.mono h.below.size)⟩
theorem PsSt.add {w2 wr w1 : World} {al st : Int} {v v' : Value} {es : List Ed} {k : Nat} {x : Ed} (h : PsSt w2 wr al st v es k)
    (hown : w1.ownsRow (w2.heap.size + 1) 77 3 v' (es.length + 1) (edCells es ++ [.int .i64 x.f, .int .i64 x.l, .int .i64 x.t])) (hg : wr.grownBy w1 v.ownBlock) :
    PsSt w2 (w1.setCell ⟨w2.heap.size, 2, none⟩ v') al st v' (es ++ [x]) (k + 1) := by
  have hv : ∀ k, v.ownBlock = some k → w2.heap.size < k := fun k hk => by have := (h.own.lt k hk).1; omega
  have hv' : ∀ k, v'.ownBlock = some k → w2.heap.size < k := fun k hk => by have := (World.ownsRow.lt hown k hk).1; omega
  have k1 : KeepB (fun b => v.ownBlock = some b) wr w1 := (KeepB.refl _ wr).grown hg (fun k hk _ => hk)
  have hb := h.blk.lt
  refine ⟨?_, ?_, by have := h.len; simp; omega, ?_⟩
  · have := (h.blk.keep k1 (fun hk => by have := hv _ hk; omega)).set_ 2 v'
    simpa using this
  · have e : (es ++ [x]).length = es.length + 1 := by simp
    unfold OwnEds
    rw [e, edCells_append]
    exact ownsRow_setCell_other hown (fun hk => by have := hv' _ hk; simp at this) _
  · exact (h.below.grown hg h.below.size (fun k hk => by have := hv k hk; omega)).setCell (by simp) _

end Go.Proofs.YtjhlbeamfngebaaDoor

/- The drawing kit: l2Wrong. -/
namespace Go.Proofs.YtjhlbeamfngebaaDoor
open Go.RowKit Go.BigFrame AG

/-- Worlds behind m operations of a statement that draws. -/
def RI (w0 : World) (R P : Nat) : Nat → World → Prop := fun m w => KeepB (fun b => b = R) w0 w ∧ RdUp w R (P + m * 10000)
theorem RI.way (w0 : World) (R P : Nat) : AG.Way (KeepB fun b => b = R) (RI w0 R P) := ⟨fun w => KeepB.refl _ w, fun _ _ _ h k => h.trans k, fun m _ h => ⟨h.1, h.2.more (by omega)⟩⟩
theorem RI.begin {w0 : World} {R P : Nat} (h : RdUp w0 R P) : RI w0 R P 0 w0 := ⟨KeepB.refl _ _, h.more (by omega)⟩
theorem RI.drew {w0 : World} {R P : Nat} (h : RdUp w0 R P) : RI w0 R P 0 w0.drew := ⟨⟨rfl, rfl, rfl, Nat.le_refl _, fun _ _ _ => rfl⟩, (h.later ((Below.refl _ _).drew)).more (by omega)⟩
theorem RI.fam {w0 : World} {R P : Nat} (h : RdUp w0 R P) (x : World) : KeepB (fun b => b = R) w0 (GK.FamI (GK.Upto (RI w0 R P) 200) w0 x) := by
  obtain ⟨_, _, h⟩ := GK.FamI.is (J := GK.Upto (RI w0 R P) 200) (w1 := w0) ⟨0, by omega, RI.begin h⟩ x
  exact h.1
theorem RI.cell {w0 : World} {R P b o : Nat} {v : Value} (hr : RdUp w0 R P) (h : w0.cell? ⟨b, o, none⟩ = some v) (hb : b ≠ R) (x : World) : (GK.FamI (GK.Upto (RI w0 R P) 200) w0 x).cell? ⟨b, o, none⟩ = some v := by
  rw [KeepB.cell_ (RI.fam hr x) (World.block_lt_of_cell? _ _ h) hb]
  exact h
theorem RI.alloc {w0 w : World} {R P m : Nat} (o : Obj) (h : RI w0 R P m w) : RI w0 R P (m + 1) (w.alloc o) := ⟨h.1.alloc o, (h.2.later ((Below.refl _ _).alloc (Nat.le_refl _) o)).more (by omega)⟩
theorem RI.call {w0 w w' : World} {R P P' m : Nat} (h : RI w0 R P m w) (hk : KeepB (fun b => b = R) w w') (hr : RdUp w' R P') (hP : P' ≤ P + m * 10000 + 10000) : KeepB (fun b => b = R) w w' ∧ RI w0 R P (m + 1) w' := ⟨hk, h.1.trans hk, hr.more (by omega)⟩
theorem RI.size {w0 w : World} {R P m : Nat} (h : RI w0 R P m w) : w0.heap.size ≤ w.heap.size := h.1.size

/-- A copy of a system that the call may write. -/
structure OutSt (w wr : World) (R P B gs : Nat) (al st : Int) (v : Value) (es : List Ed) (L : Nat) : Prop where
  blk : Blk wr gs 37 #[.int .i64 al, .int .i64 st, v]
  own : OwnEds wr B v es
  len : es.length ≤ L
  rd : RdUp wr R P
  keep : KeepB (fun b => b = R) w wr
  hB : w.heap.size ≤ B
  hgs : B ≤ gs
theorem OutSt.ne {w wr : World} {R P B gs : Nat} {al st : Int} {v : Value} {es : List Ed} {L : Nat} (h : OutSt w wr R P B gs al st v es L) : v.ownBlock ≠ some gs := fun e => own_ne h.own h.blk (by decide) gs e rfl
theorem OutSt.call {w wr w1 : World} {R P P' B gs : Nat} {al st : Int} {v : Value} {es : List Ed} {L : Nat} (h : OutSt w wr R P B gs al st v es L) (hk : KeepB (fun b => b = R) wr w1) (hr : RdUp w1 R P') (hR : R < w.heap.size) : OutSt w w1 R P' B gs al st v es L :=
  ⟨h.blk.keep hk (by have := h.hB; have := h.hgs; omega), own_keep h.own hk (fun g hg => by have := (h.own.lt g hg).1; have := h.hB; omega), h.len, hr, h.keep.trans hk, h.hB, h.hgs⟩
theorem OutSt.later {w wr w1 : World} {R P B gs : Nat} {al st : Int} {v : Value} {es : List Ed} {L : Nat} (h : OutSt w wr R P B gs al st v es L) (hb : Below wr.heap.size wr w1) (hR : R < w.heap.size) : OutSt w w1 R P B gs al st v es L := h.call (KeepB.of_below hb) (h.rd.later hb) hR
theorem OutSt.add {w wr w1 : World} {R P B gs : Nat} {al st : Int} {v v' : Value} {es : List Ed} {L : Nat} {x : Ed} (h : OutSt w wr R P B gs al st v es L) (hR : R < w.heap.size)
    (hown : w1.ownsRow B 77 3 v' (es.length + 1) (edCells es ++ [.int .i64 x.f, .int .i64 x.l, .int .i64 x.t])) (hg : wr.grownBy w1 v.ownBlock) (hat : v'.ownBlock = v.ownBlock ∨ v'.ownBlock = some wr.heap.size) :
    OutSt w (w1.setCell ⟨gs, 2, none⟩ v') R P B gs al st v' (es ++ [x]) (L + 1) := by
  have h1 := h.hB
  have h2 := h.hgs
  have hv : ∀ k, v.ownBlock = some k → B ≤ k ∧ k ≠ gs := fun k hk => ⟨(h.own.lt k hk).1, fun e => h.ne (by rw [hk, e])⟩
  have k1 : KeepB (fun b => v.ownBlock = some b) wr w1 := (KeepB.refl _ wr).grown hg (fun k hk _ => hk)
  have hb := h.blk.lt
  have hne' : v'.ownBlock ≠ some gs := fun e => by
    rcases hat with h3 | h3
    · exact h.ne (by rw [← h3, e])
    · rw [h3] at e; injection e with e; omega
  have k2 : KeepB (fun b => v.ownBlock = some b ∨ b = gs) wr (w1.setCell ⟨gs, 2, none⟩ v') := (k1.mono fun _ h => .inl h).setCell _ _ fun _ => .inr rfl
  refine ⟨?_, ?_, by have := h.len; simp; omega, h.rd.keep k2 ?_, (h.keep.grown hg (fun k hk hlt => by have := (hv k hk).1; omega)).setCell _ _ (fun hlt => by simp at hlt; omega), h1, h2⟩
  · have := (h.blk.keep k1 (fun hk => (hv _ hk).2 rfl)).set_ 2 v'
    simpa using this
  · have e : (es ++ [x]).length = es.length + 1 := by simp
    unfold OwnEds
    rw [e, edCells_append]
    exact ownsRow_setCell_other hown hne' _
  · rintro k (hk | rfl)
    · have := (hv k hk).1; omega
    · omega
theorem OutSt.fin {w wr : World} {R P B gs ρ L : Nat} {al st : Int} {A : Option Addr} {c : Nat} {es : List Ed} (h : OutSt w wr R P B gs al st (.slice A es.length c) es L) (hR : R < w.heap.size) (hρ : w.heap.size ≤ ρ) (hρB : ρ < B) (v1 v2 v3 : Value) :
    SyUp R P L w (.returned (.agg #[.int .i64 al, .int .i64 st, .slice A es.length c])) (((wr.setCell ⟨ρ, 0, none⟩ v1).setCell ⟨ρ, 1, none⟩ v2).setCell ⟨ρ, 2, none⟩ v3) := by
  obtain ⟨A', c', hv, h1, h2, h3, h4⟩ := h.own.read
  cases hv
  have hk : KeepB (fun b => b = ρ) wr (((wr.setCell ⟨ρ, 0, none⟩ v1).setCell ⟨ρ, 1, none⟩ v2).setCell ⟨ρ, 2, none⟩ v3) := (((KeepB.refl _ wr).setCell _ _ (by simp)).setCell _ _ (by simp)).setCell _ _ (by simp)
  have hne : ∀ b o, A = some ⟨b, o, none⟩ → 0 < es.length → b ≠ ρ := fun b o hA _ => by have := h4 b o hA; omega
  refine ⟨⟨al, st, es⟩, A, c, rfl, h1, h2, h.len, ?_, fun b o hA => by have := h4 b o hA; omega, h.rd.keep hk (by omega), ?_⟩
  · simpa [World.setCell] using ((h3.stored v1 hne).stored v2 hne).stored v3 hne
  · exact ((h.keep.setCell _ _ (by simp; omega)).setCell _ _ (by simp; omega)).setCell _ _ (by simp; omega)

theorem OutSt.up {w w0 wr : World} {R P P' B gs : Nat} {al st : Int} {v : Value} {es : List Ed} {L L' : Nat} (h : OutSt w0 wr R P B gs al st v es L) (hb : Below w.heap.size w w0) (hP : P ≤ P') (hL : L ≤ L') : OutSt w wr R P' B gs al st v es L' :=
  ⟨h.blk, h.own, by have := h.len; omega, h.rd.more hP, (KeepB.of_below hb).trans h.keep, Nat.le_trans hb.size h.hB, h.hgs⟩
end Go.Proofs.YtjhlbeamfngebaaDoor

/- The drawing kit: l2Big, l2Any. -/
namespace Go.Proofs.YtjhlbeamfngebaaDoor
open Go.RowKit Go.BigFrame AG

theorem RndSt.call {w wr w1 : World} {R P gs : Nat} {al st : Int} {lv : Value} {ls : List Nat} {N N' : Nat} {v : Value} {es : List Ed} (h : RndSt w wr R P gs al st lv ls N v es) (hR : R < w.heap.size) (hgs : w.heap.size < gs) (hN : N ≤ N') (hr : RdUp w1 R (P + N')) (hk : KeepB (fun b => b = R) wr w1) :
    RndSt w w1 R P gs al st lv ls N' v es :=
  ⟨by have := h.len; omega, h.blk.keep hk (by omega), own_keep h.own hk (fun g hg => by have := (h.own.lt g hg).1; omega), own_keep h.list hk (fun g hg => by have := (World.ownsRow.lt h.list g hg).1; omega), hr, h.keep.trans hk, h.res.keep hk (by omega)⟩
theorem RndSt.more {w wr : World} {R P gs : Nat} {al st : Int} {lv : Value} {ls : List Nat} {N N' : Nat} {v : Value} {es : List Ed} (h : RndSt w wr R P gs al st lv ls N v es) (hN : N ≤ N') : RndSt w wr R P gs al st lv ls N' v es :=
  ⟨by have := h.len; omega, h.blk, h.own, h.list, h.rd.more (by omega), h.keep, h.res⟩
/-- As SyUp, with an edge at least. -/
def SyUp1 (R P L : Nat) (w : World) (e : Ending) (w' : World) : Prop :=
  ∃ (s : Sy) (A : Option Addr) (c : Nat), e = .returned (s.val A c) ∧ s.es.length ≤ c ∧ c ≤ 9223372036854775807 ∧ s.es.length ≤ L ∧ EdsAt w' w'.heap.size A s.es ∧ FreshA w.heap.size A ∧ RdUp w' R P ∧ KeepB (fun b => b = R) w w' ∧ 1 ≤ s.es.length
theorem SyUp1.of {R P L : Nat} {w w' : World} {s : Sy} {A : Option Addr} {c : Nat} (h : SyUp R P L w (.returned (s.val A c)) w') (hn : 1 ≤ s.es.length) : SyUp1 R P L w (.returned (s.val A c)) w' := by
  obtain ⟨s', A', c', e, a1, a2, a3, a4, a5, a6, a7⟩ := h
  have hl : s'.es.length = s.es.length := by
    unfold Sy.val at e
    injection e with e
    injection e with e
    simp at e
    exact e.2.2.2.1.symm
  exact ⟨s', A', c', e, a1, a2, a3, a4, a5, a6, a7, by omega⟩

end Go.Proofs.YtjhlbeamfngebaaDoor

/- Automata under way in memory: rows and marks that are owned; what the drawing functions hand back. -/
namespace Go.Proofs.YtjhlbeamfngebaaDoor
open Go.RowKit Go.BigFrame AG

/-- An automaton under way in the block gs: all old blocks but those of K are as they were. -/
structure AuSt (K : Nat → Prop) (w0 wr : World) (gs : Nat) (v1 v2 : Value) (a : Au) (xs : List RowV) : Prop where
  keep : KeepB K w0 wr
  ge : w0.heap.size ≤ gs
  own : AuOwn wr w0.heap.size v1 v2 a xs
  blk : Blk wr gs 26 #[.int .i64 a.al, v1, v2]
section
variable {K : Nat → Prop} {w0 wr w1 : World} {gs : Nat} {v1 v2 v1' v2' : Value} {a : Au} {xs : List RowV}
theorem AuSt.later (h : AuSt K w0 wr gs v1 v2 a xs) (hb : Below wr.heap.size wr w1) : AuSt K w0 w1 gs v1 v2 a xs :=
  ⟨h.keep.trans (.of_below hb), h.ge, h.own.later hb, h.blk.below hb h.blk.lt⟩
theorem AuSt.len (h : AuSt K w0 wr gs v1 v2 a xs) : xs.length = a.nx.length := by rw [← h.own.eq, List.length_map]
/-- A row is appended to the table. -/
theorem AuSt.row {x : RowV} (h : AuSt K w0 wr gs v1 v2 a xs) (hx : wr.ownsRow w0.heap.size 3 1 x.v x.r.length (intVals x.r)) (hap : ∀ y ∈ xs, ∀ k, y.v.ownBlock = some k → x.v.ownBlock ≠ some k) (hg : wr.grownBy w1 v1.ownBlock)
    (ho : w1.ownsRow w0.heap.size 72 1 v1' (xs.length + 1) (rowVals xs ++ [x.v])) : AuSt K w0 (w1.setCell ⟨gs, 1, none⟩ v1') gs v1' v2 ⟨a.al, a.nx ++ [x.r], a.ac⟩ (xs ++ [x]) := by
  have hkA : KeepB (fun b => v1.ownBlock = some b) wr w1 := (KeepB.refl _ wr).grown hg fun k hk _ => hk
  have hblk1 : Blk w1 gs 26 #[.int .i64 a.al, v1, v2] := h.blk.keep hkA fun e => own_ne h.own.rows.own h.blk (by decide) _ e rfl
  have hkB : KeepB (fun b => b = gs) w1 (w1.setCell ⟨gs, 1, none⟩ v1') := (KeepB.refl _ w1).setCell _ _ fun _ => rfl
  have hrow : ∀ y, y ∈ xs ++ [x] → wr.ownsRow w0.heap.size 3 1 y.v y.r.length (intVals y.r) := fun y hy => by
    rcases List.mem_append.1 hy with hy | hy
    · exact h.own.rows.rows y hy
    · rw [List.mem_singleton.1 hy]; exact hx
  refine ⟨?_, h.ge, ⟨⟨?_, fun y hy => ?_, ?_⟩, by rw [List.map_append, h.own.eq]; rfl, ?_⟩, by simpa using hblk1.set_ 1 v1'⟩
  · exact (h.keep.grown hg fun k hk hlt => by have := (h.own.rows.own.lt k hk).1; omega).setCell _ _ fun hlt => by have := h.ge; simp at hlt; omega
  · have h2 : w1.ownsRow w0.heap.size 72 1 v1' (xs ++ [x]).length (rowVals (xs ++ [x])) := by
      unfold rowVals at ho ⊢
      rw [List.length_append, List.map_append]
      exact ho
    exact own_keep h2 hkB (own_ne h2 hblk1 (by decide))
  · have h1 := own_keep (hrow y hy) hkA fun g hg e => own_ne_own h.own.rows.own (hrow y hy) (by decide) g g e hg rfl
    exact own_keep h1 hkB (own_ne h1 hblk1 (by decide))
  · rw [List.pairwise_append]
    exact ⟨h.own.rows.apart, List.pairwise_singleton _ _, fun y hy z hz k e => by rw [List.mem_singleton.1 hz]; exact hap y hy k e⟩
  · have h3 := own_keep h.own.acc hkA fun g hg e => own_ne_own h.own.acc h.own.rows.own (by decide) g g hg e rfl
    exact own_keep h3 hkB (own_ne h3 hblk1 (by decide))
/-- A truth value is appended. -/
theorem AuSt.put {t : Bool} (h : AuSt K w0 wr gs v1 v2 a xs) (hg : wr.grownBy w1 v2.ownBlock)
    (ho : w1.ownsRow w0.heap.size 4 1 v2' (a.ac.length + 1) (boolVals a.ac ++ [.bool t])) : AuSt K w0 (w1.setCell ⟨gs, 2, none⟩ v2') gs v1 v2' ⟨a.al, a.nx, a.ac ++ [t]⟩ xs := by
  have hkA : KeepB (fun b => v2.ownBlock = some b) wr w1 := (KeepB.refl _ wr).grown hg fun k hk _ => hk
  have hblk1 : Blk w1 gs 26 #[.int .i64 a.al, v1, v2] := h.blk.keep hkA fun e => own_ne h.own.acc h.blk (by decide) _ e rfl
  have hkB : KeepB (fun b => b = gs) w1 (w1.setCell ⟨gs, 2, none⟩ v2') := (KeepB.refl _ w1).setCell _ _ fun _ => rfl
  refine ⟨?_, h.ge, ⟨⟨?_, fun y hy => ?_, h.own.rows.apart⟩, h.own.eq, ?_⟩, by simpa using hblk1.set_ 2 v2'⟩
  · exact (h.keep.grown hg fun k hk hlt => by have := (h.own.acc.lt k hk).1; omega).setCell _ _ fun hlt => by have := h.ge; simp at hlt; omega
  · have h3 := own_keep h.own.rows.own hkA fun g hg e => own_ne_own h.own.rows.own h.own.acc (by decide) g g hg e rfl
    exact own_keep h3 hkB (own_ne h3 hblk1 (by decide))
  · have h1 := own_keep (h.own.rows.rows y hy) hkA fun g hg e => own_ne_own h.own.acc (h.own.rows.rows y hy) (by decide) g g e hg rfl
    exact own_keep h1 hkB (own_ne h1 hblk1 (by decide))
  · have h2 : w1.ownsRow w0.heap.size 4 1 v2' (a.ac ++ [t]).length (boolVals (a.ac ++ [t])) := by
      unfold boolVals at ho ⊢
      rw [List.length_append, List.map_append]
      exact ho
    exact own_keep h2 hkB (own_ne h2 hblk1 (by decide))
end

theorem AuSt.begin {K : Nat → Prop} {w0 : World} (al : Int) {wr : World} (hk : KeepB K w0 wr) (hz : w0.heap.size ≤ wr.heap.size) : AuSt K w0 (wr.alloc (.cells #[.int .i64 al, .slice none 0 0, .slice none 0 0] 26)) wr.heap.size (.slice none 0 0) (.slice none 0 0) ⟨al, [], []⟩ [] :=
  ⟨hk.alloc _, hz, ⟨⟨World.ownsRow_nil _ _ _ _, fun x hx => (by cases hx), List.Pairwise.nil⟩, rfl, World.ownsRow_nil _ _ _ _⟩, Blk.new _ _ _⟩

/-- Some automaton comes back; the reader has moved on to P at most. -/
def AuUp (Q : Au → Prop) (R P : Nat) (w : World) (e : Ending) (w' : World) : Prop :=
  ∃ (a : Au) (v1 v2 : Value) (xs : List RowV), e = .returned (.agg #[.int .i64 a.al, v1, v2]) ∧ Q a ∧ AuOwn w' w.heap.size v1 v2 a xs ∧ RdUp w' R P ∧ KeepB (fun b => b = R) w w'
end Go.Proofs.YtjhlbeamfngebaaDoor
