/- Lemmas, part 14: several texts in one. -/
import Derived.Test.YtimoekglamdddaaDoorK2
import Derived.Test.YtimoekglamdddaaDoorK3
import Derived.Test.YtimoekglamdddaaDoorK4
import Derived.Deep.DeepCutAuto
import Derived.Test.YtimoekglamdddaaDoorK11
import Derived.Test.YtimoekglamdddaaDoorK13
import Derived.Test.YtimoekglamdddaaDoorK5
import Derived.Test.YtimoekglamdddaaDoorK12
import Derived.Test.YtimoekglamdddaaDoorK6
import Derived.Test.YtimoekglamdddaaDoorK7
set_option linter.unusedSimpArgs false
set_option linter.unusedVariables false

/- The program's AutomatonValid. -/
namespace Go.Proofs.YtimoekglamdddaaDoor
open Go.RowKit Go.BigFrame AG

def rowOk (L n : Nat) (r : List Int) : Prop := r.length = L ∧ ∀ q ∈ r, 0 ≤ q ∧ q < (n : Int)
theorem auOk_iff (a : Au) : auOk a = true ↔ alphaOk a.al = true ∧ 1 ≤ a.nx.length ∧ a.nx.length ≤ 12 ∧ a.ac.length = a.nx.length ∧ ∀ r ∈ a.nx, rowOk (letters a.al).length a.nx.length r := by
  unfold auOk rowOk
  rw [decide_eq_true_eq]
theorem auOk_no {a : Au} (h : ¬ (alphaOk a.al = true ∧ 1 ≤ a.nx.length ∧ a.nx.length ≤ 12 ∧ a.ac.length = a.nx.length ∧ ∀ r ∈ a.nx, rowOk (letters a.al).length a.nx.length r)) : auOk a = false := by
  rw [← Bool.not_eq_true, auOk_iff]
  exact h

set_option maxRecDepth 100000 in
set_option maxHeartbeats 4000000 in
theorem implAutomatonValid_any (a : Au) (A B : Option Addr) (c d : Nat) (w : World) (ha : AuAt w A c B d a) :
    Calls Tryd.prog 89 #[a.val A c B d] w fun e w' => e = .returned (.bool (auOk a)) ∧ Below w.heap.size w w' := by
  obtain ⟨cl, cm, dl, dm, hrows, -⟩ := ha
  unfold AG.Au.val
  obtain ⟨w0, hw0, hz0, hB0, hS⟩ := boxed w #[Value.int IntKind.i64 a.al, Value.slice A a.nx.length c, Value.slice B a.ac.length d] 29
  have hr0 := hid (hrows.later hB0)
  have p0 := hS 0 _ rfl _ (Below.refl _ _)
  have p1 := hS 1 _ rfl _ (Below.refl _ _)
  have p2 := hS 2 _ rfl _ (Below.refl _ _)
  replace hrows := hid hrows
  go_enter Tryd.func89, Tryd.ntmps89
  go_wp2_with fail
  refine (isAlphabet_any a.al w0).mono ?_
  rintro e w1 ⟨rfl, rfl⟩
  cases hal : alphaOk a.al
  case false =>
    have hno := hid (auOk_no (a := a) (by rw [hal]; simp))
    replace hal := hid hal
    go_wp2
    go_ret
    exact ⟨ret_bool (by rw [hno.out]), hB0⟩
  case true =>
  have hal' := hid hal
  clear hal
  by_cases hn1 : 1 ≤ a.nx.length
  case neg =>
    have hno := hid (auOk_no (a := a) (by omega))
    have ht : ((a.nx.length : Int) < 1) := by omega
    go_wp2
    go_ret
    exact ⟨ret_bool (by rw [hno.out]), hB0⟩
  by_cases hn2 : a.nx.length ≤ 12
  case neg =>
    have hno := hid (auOk_no (a := a) (by omega))
    have ht : ¬ ((a.nx.length : Int) < 1) := by omega
    have ht2 : ((12 : Int) < (a.nx.length : Int)) := by omega
    go_wp2
    go_ret
    exact ⟨ret_bool (by rw [hno.out]), hB0⟩
  have ht : ¬ ((a.nx.length : Int) < 1) := by omega
  have ht2 : ¬ ((12 : Int) < (a.nx.length : Int)) := by omega
  by_cases hn3 : a.ac.length = a.nx.length
  case neg =>
    have hno := hid (auOk_no (a := a) (fun h => hn3 h.2.2.2.1))
    have ht3 : ((a.ac.length : Int) != (a.nx.length : Int)) = true := by simp; omega
    replace hn3 := hid hn3
    go_wp2
    go_ret
    exact ⟨ret_bool (by rw [hno.out]), hB0⟩
  have ht3 : ((a.ac.length : Int) != (a.nx.length : Int)) = false := by simp; omega
  replace hn3 := hid hn3
  go_wp2_with fail
  refine (lettersOf_any a.al w0).mono ?_
  rintro e w2 ⟨lv, rfl, hown2, hb2⟩
  obtain ⟨AL, cL, rfl, hcL, hcL'⟩ := own_slice hown2
  have hB2 := hB0.trans (hb2.mono hB0.size)
  have hC2 := hb2.mono hz0
  have hz2 := hb2.size
  have hr2 := hid (hr0.out.later hb2)
  clear p0 p1 p2 hown2
  have p1 := hS 1 _ rfl _ hC2
  obtain ⟨L, hL⟩ : ∃ L, Hid (L = (letters a.al).length) := ⟨_, hid rfl⟩
  rw [← hL.out] at hcL ⊢
  have hL6 : L ≤ 6 := by rw [hL.out]; exact lettersTo_len a.al 6
  go_wp2_with fail
  clear p1
  go_loopw [40] (fun iv wr => ∃ i : Nat, iv = .int .i64 (i : Nat) ∧ i ≤ a.nx.length ∧ (∀ r ∈ a.nx.take i, rowOk L a.nx.length r) ∧ Below w2.heap.size w2 wr) (fun iv _ => a.nx.length - (intOf iv).toNat)
  case atStart => exact ⟨0, rfl, by omega, by simp, Below.refl _ _⟩
  case round =>
    obtain ⟨i, rfl, hi, hok, hb⟩ := hrel
    have hBr := hB2.trans (hb.mono hB2.size)
    by_cases hlt : i < a.nx.length
    · obtain ⟨b, o, hA, hbB, hE⟩ := hr2.out (by omega)
      subst hA
      obtain ⟨Ai, ci, e0, h1, h2, h3⟩ := hE i hlt
      rw [← hb.cell (by simpa using hbB)] at e0
      obtain ⟨r, hr⟩ : ∃ r, Hid (r = a.nx[i]) := ⟨_, hid rfl⟩
      rw [← hr.out] at e0 h1 h3
      have hmem : Hid (r ∈ a.nx) := hid (by rw [hr.out]; exact List.getElem_mem _)
      have k1 : (0 : Int) ≤ (i : Int) ∧ (i : Int) < (a.nx.length : Int) := by omega
      have h3' := hid h3
      replace hE := hid hE
      replace hok := hid hok
      clear h3
      by_cases hrl : r.length = L
      case neg =>
        have hno := hid (auOk_no (a := a) (fun h => hrl (by rw [hL.out]; exact (h.2.2.2.2 r hmem.out).1)))
        have hq : ((r.length : Int) != (L : Int)) = true := by simp; omega
        replace hrl := hid hrl
        go_wp2
        go_ret
        exact ⟨ret_bool (by rw [hno.out]), hBr⟩
      have hq : ((r.length : Int) != (L : Int)) = false := by simp; omega
      replace hrl := hid hrl
      go_wp2_with fail
      go_loopw [50] (fun jv wq => ∃ j : Nat, jv = .int .i64 (j : Nat) ∧ j ≤ r.length ∧ (∀ q ∈ r.take j, 0 ≤ q ∧ q < (a.nx.length : Int)) ∧ Below w2.heap.size w2 wq) (fun jv _ => r.length - (intOf jv).toNat)
      case atStart => exact ⟨0, rfl, by omega, by simp, hb⟩
      case round =>
        obtain ⟨j, rfl, hj, hin, hbq⟩ := hrel
        have hBq := hB2.trans (hbq.mono hB2.size)
        clear e0
        by_cases hjl : j < r.length
        · obtain ⟨bj, oj, hA, hbj, hcell⟩ := h3'.out (by omega)
          subst hA
          have c0 := hcell j hjl
          rw [← hbq.cell (by simpa using hbj)] at c0
          obtain ⟨q, hq'⟩ : ∃ q, Hid (q = r[j]) := ⟨_, hid rfl⟩
          rw [← hq'.out] at c0
          have hqm : Hid (q ∈ r) := hid (by rw [hq'.out]; exact List.getElem_mem _)
          have k2 : (0 : Int) ≤ (j : Int) ∧ (j : Int) < (r.length : Int) := by omega
          have p1 := hS 1 _ rfl _ (hC2.trans (hbq.mono (by omega)))
          replace hcell := hid hcell
          replace hin := hid hin
          by_cases hqn : 0 ≤ q ∧ q < (a.nx.length : Int)
          · have hq1 : ¬ (q < 0) := by omega
            have hq2 : ¬ ((a.nx.length : Int) ≤ q) := by omega
            go_wp2
            go_roundw
            case rel =>
              refine ⟨j + 1, by go_num, by omega, fun y hy => ?_, hbq⟩
              rw [List.take_succ_eq_append_getElem hjl, List.mem_append, List.mem_singleton, ← hq'.out] at hy
              rcases hy with hy | rfl
              · exact hin.out y hy
              · exact hqn
            case measure => simp [intOf]; omega
          · have hno := hid (auOk_no (a := a) (fun h => hqn ((h.2.2.2.2 r hmem.out).2 q hqm.out)))
            by_cases hq1 : q < 0
            · go_wp2
              go_ret
              exact ⟨ret_bool (by rw [hno.out]), hBq⟩
            · have hq2 : ((a.nx.length : Int) ≤ q) := by omega
              go_wp2
              go_ret
              exact ⟨ret_bool (by rw [hno.out]), hBq⟩
        · obtain rfl : j = r.length := by omega
          rw [List.take_length] at hin
          replace hin := hid hin
          go_wp2
          go_roundw
          case rel =>
            refine ⟨i + 1, by go_num, by omega, fun y hy => ?_, hbq⟩
            rw [List.take_succ_eq_append_getElem hlt, List.mem_append, List.mem_singleton, ← hr.out] at hy
            rcases hy with hy | rfl
            · exact hok.out y hy
            · exact ⟨hrl.out, hin.out⟩
          case measure => simp [intOf]; omega
    · rw [List.take_of_length_le (by omega)] at hok
      have hyes := hid ((auOk_iff a).2 ⟨hal'.out, hn1, hn2, hn3.out, by rw [← hL.out]; exact hok⟩)
      replace hok := hid hok
      go_wp2
      go_ret
      exact ⟨ret_bool (by rw [hyes.out]), hBr⟩

end Go.Proofs.YtimoekglamdddaaDoor

/- The program's tableOf. -/
namespace Go.Proofs.YtimoekglamdddaaDoor
open Go.RowKit Go.BigFrame AG

/-- The table of an automaton: where each letter leads from each of n states. -/
def TabA (w : World) (g n : Nat) (a : Au) : Prop := g < w.heap.size ∧ ∀ q l, q < n → l < 6 → w.cell? ⟨g, q * 6 + l, none⟩ = some (.int .i64 (goA a q l : Nat))
theorem TabA.later {w w' : World} {g n : Nat} {a : Au} (h : TabA w g n a) (hb : Below w.heap.size w w') : TabA w' g n a := ⟨Nat.lt_of_lt_of_le h.1 hb.size, fun q l h1 h2 => by rw [hb.cell (by simpa using h.1)]; exact h.2 q l h1 h2⟩
/-- Every row has as many entries as there are letters, and they are no negative numbers. -/
def tabOk (a : Au) : Prop := ∀ r ∈ a.nx, r.length = (letters a.al).length ∧ ∀ q ∈ r, 0 ≤ q
theorem tabOk_of {a : Au} (h : auOk a = true) : tabOk a := fun r hr => by
  have := ((auOk_iff a).1 h).2.2.2.2 r hr
  exact ⟨this.1, fun q hq => (this.2 q hq).1⟩
/-- .. when i letters of the row have been entered. -/
def goK (a : Au) (q i l : Nat) : Int := if l ∈ (letters a.al).take i then (a.nx.getD q []).getD ((letters a.al).idxOf l) 0 else (q : Int)
theorem goK_done {a : Au} (h : tabOk a) {q l : Nat} (hq : q < a.nx.length) : goK a q (letters a.al).length l = ((goA a q l : Nat) : Int) := by
  unfold goK goA
  rw [List.take_length]
  split
  · rename_i hl
    have hg : a.nx.getD q [] = a.nx[q] := by rw [List.getD_eq_getElem?_getD, List.getElem?_eq_getElem hq]; rfl
    obtain ⟨h1, h2⟩ := h a.nx[q] (List.getElem_mem _)
    have hk : (letters a.al).idxOf l < (a.nx[q]).length := by rw [h1]; exact List.idxOf_lt_length_iff.2 hl
    rw [hg]
    have : (a.nx[q]).getD ((letters a.al).idxOf l) 0 = (a.nx[q])[(letters a.al).idxOf l] := by rw [List.getD_eq_getElem?_getD, List.getElem?_eq_getElem hk]; rfl
    rw [this, Int.toNat_of_nonneg (h2 _ (List.getElem_mem _))]
  · rfl
theorem goK_next {a : Au} {q i l : Nat} (hi : i < (letters a.al).length) : goK a q (i + 1) l = if l = (letters a.al)[i] then (a.nx.getD q []).getD i 0 else goK a q i l := by
  unfold goK
  rw [List.take_succ_eq_append_getElem hi]
  by_cases e : l = (letters a.al)[i]
  · have hx : (letters a.al).idxOf l = i := by
      rw [e]
      exact (show (letters a.al).Nodup from (letters_sorted a.al).imp fun h => Nat.ne_of_lt h).idxOf_getElem i hi
    rw [if_pos e, if_pos (by rw [e]; exact List.mem_append_right _ (List.mem_singleton.2 rfl)), hx]
  · rw [if_neg e]
    by_cases hm : l ∈ (letters a.al).take i
    · rw [if_pos hm, if_pos (List.mem_append_left _ hm)]
    · rw [if_neg hm, if_neg]
      rw [List.mem_append, List.mem_singleton]
      rintro (h | h)
      · exact hm h
      · exact e h
/-- The cells of the table: q rows are done, of the next one those that f says. -/
structure TabSt (cs : Array Value) (n : Nat) (a : Au) (q : Nat) (f : Nat → Option Int) : Prop where
  size : cs.size = n * 6
  rows : ∀ p l, p < q → l < 6 → cs[p * 6 + l]? = some (.int .i64 (goA a p l : Nat))
  row : ∀ l v, l < 6 → f l = some v → cs[q * 6 + l]? = some (.int .i64 v)
theorem TabSt.set_ {cs : Array Value} {n : Nat} {a : Au} {q l : Nat} {f f' : Nat → Option Int} {v : Int} (h : TabSt cs n a q f) (hq : q < n) (hl : l < 6) (hf : ∀ k, k ≠ l → f' k = f k) (hv : f' l = some v) : TabSt (cs.setIfInBounds (q * 6 + l) (.int .i64 v)) n a q f' := by
  refine ⟨by simpa using h.size, fun p k hp hk => ?_, fun k u hk hu => ?_⟩
  · rw [Array.getElem?_setIfInBounds_ne (by omega)]
    exact h.rows p k hp hk
  · by_cases e : k = l
    · subst e
      rw [hv] at hu
      injection hu with hu
      subst hu
      rw [Array.getElem?_setIfInBounds_self_of_lt (by rw [h.size]; omega)]
    · rw [Array.getElem?_setIfInBounds_ne (by omega)]
      exact h.row k u hk (by rw [← hf k e]; exact hu)
theorem TabSt.over {cs : Array Value} {n : Nat} {a : Au} {q : Nat} (h : TabSt cs n a q (fun l => some (goK a q (letters a.al).length l))) (ht : tabOk a) (hq : q < a.nx.length) : TabSt cs n a (q + 1) (fun _ => none) := by
  refine ⟨h.size, fun p l hp hl => ?_, fun l v _ hv => by cases hv⟩
  by_cases e : p = q
  · subst e
    rw [h.row l _ hl rfl, goK_done ht hq]
  · exact h.rows p l (by omega) hl

theorem infoSix : (Tryd.prog.info? 116).map (fun i => (i.zero, i.size, i.bytes)) = some (some (.agg #[.int .i64 0, .int .i64 0, .int .i64 0, .int .i64 0, .int .i64 0, .int .i64 0]), 6, 48) := by kernel_rfl

set_option maxRecDepth 100000 in
set_option maxHeartbeats 8000000 in
theorem tableOf_any (a : Au) (A B : Option Addr) (c d : Nat) (w : World) (hn : a.nx.length ≤ 4096) (ht : tabOk a) (ha : AuAt w A c B d a) :
    Calls Tryd.prog 132 #[a.val A c B d] w fun e w' => ∃ g, e = .returned (.slice (some ⟨g, 0, none⟩) a.nx.length a.nx.length) ∧ TabA w' g a.nx.length a ∧ Below w.heap.size w w' := by
  obtain ⟨cl, cm, dl, dm, hrows, -⟩ := ha
  unfold AG.Au.val
  obtain ⟨i0, hi, hz0', hz1, hz2⟩ := info_parts infoSix
  have hmk := fun W => run_make_rowN (P := Tryd.prog) 141 116 i0 _ Tryd.underlying141 hi hz0' .i64 .i64 a.nx.length a.nx.length (Nat.le_refl _) (by rw [hz2]; omega) (by omega) W
  rw [hz1] at hmk
  obtain ⟨w0, hw0, hz0, hB0, hS⟩ := boxed w #[Value.int IntKind.i64 a.al, Value.slice A a.nx.length c, Value.slice B a.ac.length d] 29
  have hr0 := hid (hrows.later hB0)
  have p0 := hS 0 _ rfl _ (Below.refl _ _)
  have p1 := hS 1 _ rfl _ (Below.refl _ _)
  replace hrows := hid hrows
  replace ht := hid ht
  clear hz1 hz0' hz2 hi
  go_enter Tryd.func132, Tryd.ntmps132
  go_upto_region 2 with fail
  obtain ⟨w1, hw1⟩ : ∃ w1, w0.alloc (.cells (madeCells #[Value.int IntKind.i64 0, Value.int IntKind.i64 0, Value.int IntKind.i64 0, Value.int IntKind.i64 0, Value.int IntKind.i64 0, Value.int IntKind.i64 0] (a.nx.length * 6)) 116) = w1 := ⟨_, rfl⟩
  have hblk1 : Blk w1 w0.heap.size 116 (madeCells #[Value.int IntKind.i64 0, Value.int IntKind.i64 0, Value.int IntKind.i64 0, Value.int IntKind.i64 0, Value.int IntKind.i64 0, Value.int IntKind.i64 0] (a.nx.length * 6)) := by rw [← hw1]; exact Blk.new _ _ _
  have hB1 : Below w0.heap.size w0 w1 := by rw [← hw1]; exact (Below.refl _ _).alloc (Nat.le_refl _) _
  have hst0 : Hid (TabSt (madeCells #[Value.int IntKind.i64 0, Value.int IntKind.i64 0, Value.int IntKind.i64 0, Value.int IntKind.i64 0, Value.int IntKind.i64 0, Value.int IntKind.i64 0] (a.nx.length * 6)) a.nx.length a 0 fun _ => none) := hid ⟨size_madeCells _ _, fun p l h => by omega, fun l v _ hv => by cases hv⟩
  rw [hw1]
  generalize madeCells #[Value.int IntKind.i64 0, Value.int IntKind.i64 0, Value.int IntKind.i64 0, Value.int IntKind.i64 0, Value.int IntKind.i64 0, Value.int IntKind.i64 0] (a.nx.length * 6) = cs0 at *
  clear p0 p1 hw1 hmk
  have hz1 := hB1.size
  have p0 := hS 0 _ rfl _ (hB1.mono hz0)
  have p1 := hS 1 _ rfl _ (hB1.mono hz0)
  have hw01 := hblk1.lt
  replace hblk1 := hid hblk1
  go_wp2_with fail
  refine (lettersOf_any a.al w1).mono ?_
  rintro e w2 ⟨lv, rfl, hown2, hb2⟩
  obtain ⟨AL, cL, rfl, hcL, hcL'⟩ := own_slice hown2
  have hB2 : Below w0.heap.size w0 w2 := hB1.trans (hb2.mono hz1)
  have hblk2 := hid (hblk1.out.below hb2 hblk1.out.lt)
  have hz2 := hb2.size
  clear p0 p1
  have p0 := hS 0 _ rfl _ (hB2.mono hz0)
  have p1 := hS 1 _ rfl _ (hB2.mono hz0)
  have hr2 := hid (hr0.out.later hB2)
  have hnat := hid hown2
  have hL6 := lettersTo_len a.al 6
  obtain ⟨L, hL⟩ : ∃ L, Hid (L = letters a.al) := ⟨_, hid rfl⟩
  have hL6' : L.length ≤ 6 := by rw [hL.out]; exact hL6
  rw [← hL.out] at hcL hnat ⊢
  clear hown2 hL6
  go_wp2_with fail
  clear p0 p1
  go_loopw [20] (fun iv wr => ∃ (q : Nat) (cs : Array Value), iv = .int .i64 (q : Nat) ∧ q ≤ a.nx.length ∧ Blk wr w0.heap.size 116 cs ∧ TabSt cs a.nx.length a q (fun _ => none) ∧ KeepB (fun b => b = w0.heap.size) w2 wr) (fun iv _ => a.nx.length - (intOf iv).toNat)
  case atStart => exact ⟨0, cs0, rfl, by omega, hblk2.out, hst0.out, KeepB.refl _ _⟩
  case round =>
    obtain ⟨q, cs, rfl, hq, hblk, hst, hkp⟩ := hrel
    by_cases hlt : q < a.nx.length
    · have hBr : Below w0.heap.size w0 wr := KeepB.below hB2 hkp hB2.size fun b e => by omega
      obtain ⟨b, o, hA, hbB, hE⟩ := hr0.out (by omega)
      subst hA
      obtain ⟨Ai, ci, e0, h1, h2, h3⟩ := hE q hlt
      rw [← hBr.cell (by simpa using hbB)] at e0
      obtain ⟨r, hr⟩ : ∃ r, Hid (r = a.nx[q]) := ⟨_, hid rfl⟩
      rw [← hr.out] at e0 h1 h3
      have hrl : Hid (r.length = L.length) := hid (by rw [hr.out, hL.out]; exact (ht.out _ (List.getElem_mem hlt)).1)
      have k1 : (0 : Int) ≤ (q : Int) ∧ (q : Int) < (a.nx.length : Int) := by omega
      have h3' := hid h3
      have hst1 : Hid (TabSt cs a.nx.length a q fun l => if l < 0 then some (q : Int) else none) := hid ⟨hst.size, hst.rows, fun l v _ hv => by simp at hv⟩
      replace hE := hid hE
      replace hst := hid hst
      have hblk' := hid hblk
      have hkp' := hid hkp
      clear h3 hblk hkp
      go_wp2_with fail
      clear e0
      go_loopw [25] (fun jv wq => ∃ (l : Nat) (cs : Array Value), jv = .int .i64 (l : Nat) ∧ l ≤ 6 ∧ Blk wq w0.heap.size 116 cs ∧ TabSt cs a.nx.length a q (fun k => if k < l then some (q : Int) else none) ∧ KeepB (fun b => b = w0.heap.size) w2 wq) (fun jv _ => 6 - (intOf jv).toNat)
      case atStart => exact ⟨0, cs, rfl, by omega, hblk'.out, hst1.out, hkp'.out⟩
      case round =>
        clear hblk' hkp' hst hst1
        obtain ⟨l, cs, rfl, hl, hblk, hst, hkp⟩ := hrel
        have hsz := hst.size
        by_cases hl6 : l < 6
        · obtain ⟨v0, d0⟩ := hblk.some_ (i := q * 6 + l) (by omega)
          have z0 := hblk.frozen (q * 6 + l)
          have k2 : (0 : Int) ≤ (l : Int) ∧ (l : Int) < 6 := by omega
          have hst2 := hid (hst.set_ (l := l) (v := (q : Int)) (f' := fun k => if k < l + 1 then some (q : Int) else none) hlt hl6 (fun k hk => by
            by_cases h : k < l
            · rw [if_pos h, if_pos (by omega)]
            · rw [if_neg h, if_neg (by omega)]) (by rw [if_pos (by omega)]))
          have hb2' := hid (hblk.set_ (q * 6 + l) (.int .i64 (q : Nat)))
          have hk2 := hid (hkp.setCell ⟨w0.heap.size, q * 6 + l, none⟩ (.int .i64 (q : Nat)) fun _ => rfl)
          replace hst := hid hst
          replace hblk := hid hblk
          go_wp2
          go_roundw
          case rel => exact ⟨l + 1, _, by go_num, by omega, hb2'.out, hst2.out, hk2.out⟩
          case measure => simp [intOf]; omega
        · obtain rfl : l = 6 := by omega
          have hst1 : Hid (TabSt cs a.nx.length a q fun l => some (goK a q 0 l)) := hid ⟨hst.size, hst.rows, fun l v hl hv => hst.row l v hl (by rw [if_pos hl]; unfold goK at hv; simpa using hv)⟩
          replace hst := hid hst
          have hblk' := hid hblk
          have hkp' := hid hkp
          clear hblk hkp
          go_wp2_with fail
          go_loopw [37] (fun jv wq => ∃ (j : Nat) (cs : Array Value), jv = .int .i64 (j : Nat) ∧ j ≤ L.length ∧ Blk wq w0.heap.size 116 cs ∧ TabSt cs a.nx.length a q (fun k => some (goK a q j k)) ∧ KeepB (fun b => b = w0.heap.size) w2 wq) (fun jv _ => L.length - (intOf jv).toNat)
          case atStart => exact ⟨0, cs, rfl, by omega, hblk'.out, hst1.out, hkp'.out⟩
          case round =>
            clear hblk' hkp' hst hst1
            obtain ⟨j, cs, rfl, hj, hblk, hst, hkp⟩ := hrel
            have hsz := hst.size
            by_cases hjl : j < L.length
            · have hBq : Below w0.heap.size w0 wr := KeepB.below hB2 hkp hB2.size fun b e => by omega
              have hnr := own_keep hnat.out hkp (fun g hg e => by have := own_block hnat.out g hg; omega)
              obtain ⟨gL, capL, hve, -, hgL, -, -, hcL2⟩ := own_shape hnr (by omega)
              injection hve with e1 e2 e3
              subst e1
              subst e3
              clear e2
              have l0 := hcL2 j _ (show (L.map fun (n : Nat) => Value.int .i64 (n : Int))[j]? = some (.int .i64 (L[j] : Nat)) from by simp [hjl])
              obtain ⟨l, hl⟩ : ∃ l, Hid (l = L[j]) := ⟨_, hid rfl⟩
              rw [← hl.out] at l0
              have hl6 : l < 6 := (letters_lt (A := a.al) (by rw [← hL.out, hl.out]; exact List.getElem_mem _)).1
              obtain ⟨bi, oi, hAi, hbi, hci⟩ := h3'.out (by have := hrl.out; omega)
              subst hAi
              have hjr : j < r.length := by have := hrl.out; omega
              have r0 := hci j hjr
              obtain ⟨x, hx⟩ : ∃ x, Hid (x = r[j]) := ⟨_, hid rfl⟩
              rw [← hx.out, ← hBq.cell (by simpa using hbi)] at r0
              obtain ⟨v0, d0⟩ := hblk.some_ (i := q * 6 + l) (by omega)
              have z0 := hblk.frozen (q * 6 + l)
              have k2 : (0 : Int) ≤ (j : Int) ∧ (j : Int) < (L.length : Int) ∧ (j : Int) < (r.length : Int) := by omega
              have k3 : (0 : Int) ≤ (l : Int) ∧ (l : Int) < 6 := by omega
              have hst2 := hid (hst.set_ (l := l) (v := x) (f' := fun k => some (goK a q (j + 1) k)) hlt hl6 (fun k hk => by
                rw [goK_next (by rw [← hL.out]; exact hjl), if_neg (by
                  have := hl.out
                  simp only [hL.out] at this
                  rw [← this]; exact hk)]) (by
                rw [goK_next (by rw [← hL.out]; exact hjl), if_pos (by
                  have := hl.out
                  simp only [hL.out] at this
                  exact this)]
                rw [List.getD_eq_getElem?_getD (l := a.nx), List.getElem?_eq_getElem hlt]
                show some ((a.nx[q]).getD j 0) = some x
                rw [← hr.out, List.getD_eq_getElem?_getD, List.getElem?_eq_getElem hjr, hx.out]
                rfl))
              have hb2' := hid (hblk.set_ (q * 6 + l) (.int .i64 x))
              have hk2 := hid (hkp.setCell ⟨w0.heap.size, q * 6 + l, none⟩ (.int .i64 x) fun _ => rfl)
              replace hst := hid hst
              replace hblk := hid hblk
              replace hcL2 := hid hcL2
              replace hci := hid hci
              have y0 : ∀ x', (Fam wr.heap.size wr x').cell? ⟨bi, oi + j, none⟩ = some (.int .i64 x) := fun x' => by rw [(Fam.below wr.heap.size wr x').cell (by simp; have := hBq.size; omega)]; exact r0
              have hzq := hBq.size
              have hk3 : Hid (∀ w', Below wr.heap.size wr w' → KeepB (fun b => b = w0.heap.size) w2 w') := hid fun w' hb => hkp.trans (.of_below hb)
              have hblk3 : Hid (∀ w', Below wr.heap.size wr w' → Blk w' w0.heap.size 116 cs) := hid fun w' hb => hblk.out.below hb hblk.out.lt
              clear d0 z0 r0 hb2' hk2
              go_wp2_with fail
              refine wp_region_fam_tail wr.heap.size wr 9 (by kernel_rfl) (by kernel_rfl) (Below.refl _ _) ?_
              simp only [List.take_succ_cons, List.take_zero, List.drop_succ_cons, List.drop_zero]
              (repeat (go_big_quiet_step (fail)))
              refine wpQuiet_nil ?_
              intro w5 hw5
              replace hw5 := Fam.out hw5
              have hblk5 := hblk3.out w5 hw5
              obtain ⟨v5, d5⟩ := hblk5.some_ (i := q * 6 + l) (by omega)
              have z5 := hblk5.frozen (q * 6 + l)
              have hb2' := hid (hblk5.set_ (q * 6 + l) (.int .i64 x))
              have hk2 := hid ((hk3.out w5 hw5).setCell ⟨w0.heap.size, q * 6 + l, none⟩ (.int .i64 x) fun _ => rfl)
              replace hblk5 := hid hblk5
              clear y0
              go_wp2
              go_roundw
              case rel => exact ⟨j + 1, _, by go_num, by omega, hb2'.out, hst2.out, hk2.out⟩
              case measure => simp [intOf]; omega
            · obtain rfl : j = L.length := by omega
              have hst2 : Hid (TabSt cs a.nx.length a (q + 1) fun _ => none) := hid (TabSt.over (by have := hst; rw [hL.out] at this; exact this) ht.out hlt)
              replace hst := hid hst
              replace hblk := hid hblk
              go_wp2
              go_roundw
              case rel => exact ⟨q + 1, cs, by go_num, by omega, hblk.out, hst2.out, hkp⟩
              case measure => simp [intOf]; omega
    · obtain rfl : q = a.nx.length := by omega
      have htab : Hid (TabA wr w0.heap.size a.nx.length a) := hid ⟨hblk.lt, fun p l hp hl => by rw [hblk.cell]; exact hst.rows p l hp hl⟩
      have hBr : Below w.heap.size w wr := hB0.trans ((KeepB.below hB2 hkp hB2.size fun b e => by omega).mono hB0.size)
      replace hst := hid hst
      replace hblk := hid hblk
      go_wp2
      go_ret
      exact ⟨_, rfl, htab.out, hBr⟩

end Go.Proofs.YtimoekglamdddaaDoor

/- The program's StateAfter and AcceptsWord. -/
namespace AG

/-- The state behind the first k letters of a word. -/
def autTo (a : Au) (x : ByteArray) : Nat → Nat
  | 0 => 0
  | k + 1 => goA a (autTo a x k) (lz x k).toNat
def stA (a : Au) (x : ByteArray) : Int := if (auOk a && within x a.al) = true then (autTo a x x.size : Nat) else -1
def accB (a : Au) (x : ByteArray) : Bool := (auOk a && within x a.al) && a.ac.getD (autTo a x x.size) false

end AG
namespace Go.Proofs.YtimoekglamdddaaDoor
open Go.RowKit Go.BigFrame AG

theorem goA_lt {a : Au} (h : auOk a = true) {q l : Nat} (hq : q < a.nx.length) : goA a q l < a.nx.length := by
  unfold goA
  split
  · rename_i hl
    have hr := ((auOk_iff a).1 h).2.2.2.2 a.nx[q] (List.getElem_mem _)
    have hg : a.nx.getD q [] = a.nx[q] := by rw [List.getD_eq_getElem?_getD, List.getElem?_eq_getElem hq]; rfl
    have hk : (letters a.al).idxOf l < (a.nx[q]).length := by rw [hr.1]; exact List.idxOf_lt_length_iff.2 hl
    have : (a.nx[q]).getD ((letters a.al).idxOf l) 0 = (a.nx[q])[(letters a.al).idxOf l] := by rw [List.getD_eq_getElem?_getD, List.getElem?_eq_getElem hk]; rfl
    rw [hg, this]
    have := hr.2 _ (List.getElem_mem hk)
    omega
  · exact hq
theorem autTo_lt {a : Au} (h : auOk a = true) (x : ByteArray) : ∀ k, autTo a x k < a.nx.length
  | 0 => by have := ((auOk_iff a).1 h).2.1; show 0 < _; omega
  | k + 1 => goA_lt h (autTo_lt h x k)

set_option maxRecDepth 100000 in
set_option maxHeartbeats 8000000 in
theorem implStateAfter_any (a : Au) (A B : Option Addr) (c d : Nat) (x : ByteArray) (w : World) (hz : x.size ≤ 9223372036854775807) (ha : AuAt w A c B d a) :
    Calls Tryd.prog 83 #[a.val A c B d, .string x] w fun e w' => e = .returned (.int .i64 (stA a x)) ∧ Below w.heap.size w w' := by
  obtain ⟨w0, hw0, hz0, hB0, hS⟩ := boxed w #[Value.int IntKind.i64 a.al, Value.slice A a.nx.length c, Value.slice B a.ac.length d] 29
  have ha0 := hid (ha.later hB0)
  have p0 := hS 0 _ rfl _ (Below.refl _ _)
  have p1 := hS 1 _ rfl _ (Below.refl _ _)
  have p2 := hS 2 _ rfl _ (Below.refl _ _)
  replace ha := hid ha
  unfold AG.Au.val
  go_enter Tryd.func83, Tryd.ntmps83
  go_wp2_with fail
  refine (implAutomatonValid_any a A B c d w0 ha0.out).mono ?_
  rintro e w1 ⟨rfl, hb1⟩
  have hB1 := hB0.trans (hb1.mono hB0.size)
  have hC1 := hb1.mono hz0
  clear p0 p1 p2
  have p0 := hS 0 _ rfl _ hC1
  have p1 := hS 1 _ rfl _ hC1
  have p2 := hS 2 _ rfl _ hC1
  cases hok : auOk a
  case false =>
    have hno : Hid (stA a x = -1) := hid (by unfold stA; rw [hok]; rfl)
    replace hok := hid hok
    go_wp2
    go_ret
    exact ⟨ret_int (by rw [hno.out]), hB1⟩
  case true =>
  have hok' := hid hok
  clear hok
  go_wp2_with fail
  refine (implWordWithin_any x a.al w1 hz).mono ?_
  rintro e w2 ⟨rfl, rfl⟩
  cases hwi : within x a.al
  case false =>
    have hno : Hid (stA a x = -1) := hid (by unfold stA; rw [hwi]; simp)
    replace hwi := hid hwi
    go_wp2
    go_ret
    exact ⟨ret_int (by rw [hno.out]), hB1⟩
  case true =>
  have hyes : Hid (stA a x = (autTo a x x.size : Nat)) := hid (by unfold stA; rw [hwi, hok'.out]; rfl)
  have hwi' := hid hwi
  have h5 := within_size hwi
  clear hwi
  have hn12 := ((auOk_iff a).1 hok'.out).2.2.1
  go_wp2_with fail
  refine (tableOf_any a A B c d w1 (by omega) (tabOk_of hok'.out) (ha0.out.later hb1)).mono ?_
  rintro e w2 ⟨g, rfl, hg, hb2⟩
  have hB2 := hB1.trans (hb2.mono hB1.size)
  clear p0 p1 p2
  replace hg := hid hg
  go_wp2_with fail
  go_loopw [6, 22] (fun qv iv wr => ∃ k : Nat, qv = .int .i64 (autTo a x k : Nat) ∧ iv = .int .i64 (k : Nat) ∧ k ≤ x.size ∧ Below w2.heap.size w2 wr) (fun _ iv _ => x.size - (intOf iv).toNat)
  case atStart => exact ⟨0, rfl, rfl, by omega, Below.refl _ _⟩
  case round =>
    obtain ⟨k, rfl, rfl, hk, hb⟩ := hrel
    have hBr := hB2.trans (hb.mono hB2.size)
    by_cases hlt : k < x.size
    · have hlr := wordOk_at (within_word hwi'.out) hlt
      have hle := ltr_ok hlr
      obtain ⟨l, hll⟩ := Int.eq_ofNat_of_zero_le hlr.1
      have hl6 : l < 6 := by omega
      have hq := autTo_lt hok'.out x k
      obtain ⟨q, hqq⟩ : ∃ q, Hid (q = autTo a x k) := ⟨_, hid rfl⟩
      have hnx : Hid (autTo a x (k + 1) = goA a q l) := hid (by rw [autTo, hll, ← hqq.out]; rfl)
      have hle2 : Hid (ltr x k = (l : Int)) := hid (by rw [hle, hll])
      rw [← hqq.out] at hq ⊢
      obtain ⟨t, ht⟩ : ∃ t, Hid (t = goA a q l) := ⟨_, hid rfl⟩
      have y0 : ∀ x', (Fam w2.heap.size w2 x').cell? ⟨g, q * 6 + l, none⟩ = some (.int .i64 (t : Nat)) := fun x' => by rw [ht.out]; exact (hg.out.later (Fam.below w2.heap.size w2 x')).2 q l hq hl6
      have k1 : (0 : Int) ≤ (q : Int) ∧ (q : Int) < (a.nx.length : Int) ∧ (0 : Int) ≤ (l : Int) ∧ (l : Int) < 6 := by omega
      replace hll := hid hll
      replace hle := hid hle
      go_wp2_with fail
      refine wp_region_fam w2.heap.size w2 (by kernel_rfl) (by kernel_rfl) hb ?_
      (repeat (go_big_quiet_step ((refine (letterAt_any x k _ hlt).mono ?_; rintro e w3 ⟨rfl, rfl⟩; exact ⟨by rw [hle2.out], _, rfl⟩))))
      refine wpQuiet_nil ?_
      intro w3 hw3
      replace hw3 := Fam.out hw3
      clear y0
      go_wp2
      go_roundw
      case rel => exact ⟨k + 1, by rw [hnx.out, ht.out], by go_num, by omega, hw3⟩
      case measure => simp [intOf]; omega
    · obtain rfl : k = x.size := by omega
      go_wp2
      go_ret
      exact ⟨ret_int (by rw [hyes.out]), hBr⟩

set_option maxRecDepth 100000 in
set_option maxHeartbeats 4000000 in
theorem implAcceptsWord_any (a : Au) (A B : Option Addr) (c d : Nat) (x : ByteArray) (w : World) (hz : x.size ≤ 9223372036854775807) (ha : AuAt w A c B d a) :
    Calls Tryd.prog 31 #[a.val A c B d, .string x] w fun e w' => e = .returned (.bool (accB a x)) ∧ Below w.heap.size w w' := by
  obtain ⟨w0, hw0, hz0, hB0, hS⟩ := boxed w #[Value.int IntKind.i64 a.al, Value.slice A a.nx.length c, Value.slice B a.ac.length d] 29
  have ha0 := hid (ha.later hB0)
  have p0 := hS 0 _ rfl _ (Below.refl _ _)
  have p1 := hS 1 _ rfl _ (Below.refl _ _)
  have p2 := hS 2 _ rfl _ (Below.refl _ _)
  replace ha := hid ha
  unfold AG.Au.val
  go_enter Tryd.func31, Tryd.ntmps31
  go_wp2_with fail
  refine (implStateAfter_any a A B c d x w0 hz ha0.out).mono ?_
  rintro e w1 ⟨rfl, hb1⟩
  have hB1 := hB0.trans (hb1.mono hB0.size)
  have hC1 := hb1.mono hz0
  clear p0 p1 p2
  have p2 := hS 2 _ rfl _ hC1
  cases hk : (auOk a && within x a.al)
  case false =>
    have hs : stA a x = -1 := by unfold stA; rw [hk]; rfl
    have hf : Hid (accB a x = false) := hid (by unfold accB; rw [hk]; rfl)
    rw [hs]
    replace hs := hid hs
    replace hk := hid hk
    go_wp2
    go_ret
    exact ⟨ret_bool (by rw [hf.out]), hB1⟩
  case true =>
    have hs : stA a x = (autTo a x x.size : Nat) := by unfold stA; rw [hk]; rfl
    have hok : auOk a = true := by rw [Bool.and_eq_true] at hk; exact hk.1
    have hq := autTo_lt hok x x.size
    have hn3 := ((auOk_iff a).1 hok).2.2.2.1
    obtain ⟨q, hqq⟩ : ∃ q, Hid (q = autTo a x x.size) := ⟨_, hid rfl⟩
    have hf : Hid (accB a x = a.ac.getD q false) := hid (by unfold accB; rw [hk, ← hqq.out]; rfl)
    rw [hs, ← hqq.out]
    rw [← hqq.out] at hq
    have hq' : q < a.ac.length := by omega
    obtain ⟨b, o, hA, hbB, hE⟩ := (ha0.out.later hb1).acc (by omega)
    subst hA
    have c0 := hE q hq'
    obtain ⟨t, ht⟩ : ∃ t, Hid (t = a.ac[q]) := ⟨_, hid rfl⟩
    rw [← ht.out] at c0
    have hg : Hid (a.ac.getD q false = t) := hid (by rw [List.getD_eq_getElem?_getD, List.getElem?_eq_getElem hq', ht.out]; rfl)
    have k1 : (0 : Int) ≤ (q : Int) ∧ (q : Int) < (a.ac.length : Int) := by omega
    replace hE := hid hE
    replace hs := hid hs
    replace hk := hid hk
    replace hok := hid hok
    replace hn3 := hid hn3
    go_wp2
    go_ret
    exact ⟨ret_bool (by rw [hf.out, hg.out]), hB1⟩

end Go.Proofs.YtimoekglamdddaaDoor

/- Plain: words that the automaton of a projection accepts. -/
namespace Go.Proofs.YtimoekglamdddaaDoor
open AG

theorem autTo_list (a : Au) (w : ByteArray) : ∀ k, k ≤ w.size → autTo a w k = (w.data.toList.take k).foldl (fun q b => goA a q ((b.toNat : Int) - 97).toNat) 0
  | 0, _ => rfl
  | k + 1, hk => by
    have ih := autTo_list a w k (by omega)
    obtain ⟨h', e⟩ := getD_list (w := w) (i := k) (by omega)
    rw [List.take_succ_eq_append_getElem h', List.foldl_append, ← ih]
    show goA a (autTo a w k) (lz w k).toNat = goA a _ _
    unfold lz
    rw [e]
theorem autTo_fold (a : Au) : ∀ r : List Nat, (∀ l ∈ r, l < 6) → (r.reverse.map letB).foldl (fun q b => goA a q ((b.toNat : Int) - 97).toNat) 0 = runA a 0 r
  | [], _ => rfl
  | l :: r, h => by
    have ih := autTo_fold a r fun x hx => h x (List.mem_cons_of_mem _ hx)
    rw [List.reverse_cons, List.map_append, List.foldl_append, ih]
    show goA a (runA a 0 r) _ = goA a (runA a 0 r) l
    rw [letB_num (h l List.mem_cons_self)]
    rfl
theorem autTo_word (a : Au) {r : List Nat} (h : ∀ l ∈ r, l < 6) : autTo a (wordS r) (wordS r).size = runA a 0 r := by
  rw [autTo_list a _ _ (Nat.le_refl _), List.take_of_length_le (by rw [size_list]; omega), wordS_list]
  exact autTo_fold a r h
theorem prK_true {s : Sy} {al : Int} (h : prK s al = true) : prOk s al = true ∧ ∃ x, prNum s al = some x ∧ prA s al = prAu al x := by
  cases hk : prOk s al with
  | false => rw [(prA_bad hk).2] at h; cases h
  | true =>
    cases hn : prNum s al with
    | none => rw [(prA_none hn).2] at h; cases h
    | some x => exact ⟨rfl, x, rfl, (prA_some hk hn).1⟩
theorem accB_pr {s : Sy} {al : Int} (h : prK s al = true) {r : List Nat} (hr : ∀ l ∈ r, l ∈ letters al) (hl : r.length ≤ 50000) : accB (prA s al) (wordS r) = decide (prW s al r ≠ 0) := by
  obtain ⟨hk, x, hn, e⟩ := prK_true h
  obtain ⟨_, hal, _⟩ := prOk_parts hk
  rw [e]
  unfold accB
  rw [autTo_word _ fun l hl => (letters_lt (hr l hl)).1, auOk_pr hal hn]
  have : within (wordS r) (prAu al x).al = true := wordS_within (alphaOk_range.2 hal) hr hl
  rw [this]
  exact accA_pr hn hr
theorem prA_al {s : Sy} {al : Int} (h : prK s al = true) : (prA s al).al = al := by
  obtain ⟨_, x, _, e⟩ := prK_true h
  rw [e]
  rfl
theorem auOk_prA {s : Sy} {al : Int} (h : prK s al = true) : auOk (prA s al) = true := by
  obtain ⟨hk, x, hn, e⟩ := prK_true h
  rw [e]
  exact auOk_pr (prOk_parts hk).2.1 hn
/-- Traces are what the automaton accepts. -/
theorem acc_trace {s : Sy} (h : prK s s.al = true) {r : List Nat} (hr : ∀ l ∈ r, l ∈ letters s.al) (hl : r.length ≤ 50000) : accB (prA s s.al) (wordS r) = decide (setW s r ≠ 0) ∧ hasTr s (wordS r) = decide (setW s r ≠ 0) := by
  obtain ⟨hk, _⟩ := prK_true h
  obtain ⟨hs, _, _⟩ := prOk_parts hk
  rw [accB_pr h hr hl, prW_self (sysOk_alpha hs).1]
  exact ⟨rfl, hasTr_wordS hs hr hl⟩

/-- A word over an alphabet, as a list of letters. -/
theorem word_ex {x : ByteArray} {A : Int} (h : within x A = true) : ∃ r, x = wordS r ∧ (∀ l ∈ r, l ∈ letters A) ∧ r.length ≤ 50000 := by
  obtain ⟨hA, hsz, hall⟩ := (within_list x A).1 h
  have hb : ∀ b ∈ x.data.toList, ∃ l, l ∈ letters A ∧ letB l = b := fun b hb => by
    have h1 := hall b hb
    unfold pk HasZ bl at h1
    simp only [Bool.and_eq_true, decide_eq_true_eq] at h1
    by_cases ho : lOk ((b.toNat : Int) - 97) = true
    · rw [if_pos ho] at h1
      have ho' := ho
      unfold lOk at ho'
      simp only [decide_eq_true_eq] at ho'
      refine ⟨((b.toNat : Int) - 97).toNat, letters_ok.2 ⟨by omega, h1.2⟩, ?_⟩
      unfold letB
      have : 97 + ((b.toNat : Int) - 97).toNat = b.toNat := by omega
      first
        | (rw [this]; exact UInt8.ofNat_toNat)
        | (rw [Nat.add_comm, this]; exact UInt8.ofNat_toNat)
    · rw [if_neg ho] at h1
      omega
  have key : ∀ bs : List UInt8, (∀ b ∈ bs, ∃ l, l ∈ letters A ∧ letB l = b) → ∃ r : List Nat, r.map letB = bs ∧ ∀ l ∈ r, l ∈ letters A := by
    intro bs
    induction bs with
    | nil => intro _; exact ⟨[], rfl, fun l h => (by cases h)⟩
    | cons b bs ih =>
      intro h
      obtain ⟨l, hl, e⟩ := h b List.mem_cons_self
      obtain ⟨r, hr, hm⟩ := ih fun c hc => h c (List.mem_cons_of_mem _ hc)
      refine ⟨l :: r, by rw [List.map_cons, e, hr], fun y hy => ?_⟩
      rcases List.mem_cons.1 hy with rfl | hy
      · exact hl
      · exact hm y hy
  obtain ⟨r, hr, hm⟩ := key _ hb
  refine ⟨r.reverse, word_ext ?_, fun l hl => hm l (List.mem_reverse.1 hl), ?_⟩
  · rw [wordS_list, List.reverse_reverse, hr]
  · have := congrArg List.length hr
    rw [List.length_map, size_list] at this
    rw [List.length_reverse]
    omega

/-- What a word leads to is among what its projection leads to. -/
theorem prW_sub {s : Sy} {al : Int} (hk : prOk s al = true) : ∀ r : List Nat, (∀ l ∈ r, l ∈ letters s.al) → ∀ q, (setW s r).testBit q = true → (prW s al (r.filter fun l => decide (l ∈ letters al))).testBit q = true
  | [], _, q, h => by
    unfold prW
    show (reachSet s (hidA s.al al) 1).testBit q = true
    unfold reachSet
    rw [bitsOf_testBit]
    exact ⟨by have := testBit_lt (n := 16) (show (1 : Nat) < 2 ^ 16 by omega) h; exact this, Rch.start h⟩
  | l :: r, hr, q, h => by
    have ih := prW_sub hk r fun x hx => hr x (List.mem_cons_of_mem _ hx)
    obtain ⟨hs, hal, han⟩ := prOk_parts hk
    have hin := sysOk_in hs
    have hq : (stepSet s (setW s r) (l : Int)).testBit q = true := h
    unfold stepSet at hq
    rw [bitsOf_testBit] at hq
    obtain ⟨hq16, e, he, e1, e2, e3⟩ := hq
    have hf := ih _ e2
    by_cases hl : l ∈ letters al
    · rw [List.filter_cons_of_pos (by simpa using hl)]
      show (reachSet s (hidA s.al al) (stepSet s (prW s al _) (l : Int))).testBit q = true
      unfold reachSet
      rw [bitsOf_testBit]
      refine ⟨hq16, Rch.start ?_⟩
      unfold stepSet
      rw [bitsOf_testBit]
      exact ⟨hq16, e, he, e1, hf, e3⟩
    · rw [List.filter_cons_of_neg (by simpa using hl)]
      have hlet := letters_ok.1 (hr l List.mem_cons_self)
      have hel : e.l.toNat = l := by omega
      have hh : Has (hidA s.al al) e.l.toNat = true := by
        rw [Has_hid (sysOk_alpha hs) hal (by omega), hel, hlet.2]
        have : Has al l = false := by
          rw [← Bool.not_eq_true]
          exact fun h => hl (letters_ok.2 ⟨hlet.1, h⟩)
        rw [this]
        rfl
      have hform : ∃ X, prW s al (r.filter fun l => decide (l ∈ letters al)) = reachSet s (hidA s.al al) X := by
        cases r.filter fun l => decide (l ∈ letters al) with
        | nil => exact ⟨_, rfl⟩
        | cons a b => exact ⟨_, rfl⟩
      obtain ⟨X, hX⟩ := hform
      rw [hX] at hf ⊢
      unfold reachSet at hf ⊢
      rw [bitsOf_testBit] at hf ⊢
      refine ⟨hq16, ?_⟩
      rw [← e3]
      exact Rch.step he hh hf.2
theorem restr_wordS {r : List Nat} (h : ∀ l ∈ r, l < 6) (al : Int) : restr (wordS r) al = wordS (r.filter fun l => decide (l ∈ letters al)) := by
  refine word_ext ?_
  rw [restr_list, wordS_list, wordS_list, List.filter_map, ← List.filter_reverse]
  congr 1
  refine List.filter_congr fun l hl => ?_
  have h6 := h l (List.mem_reverse.1 hl)
  show pk al (letB l) = _
  unfold pk HasZ
  rw [bl_letB h6, Bool.eq_iff_iff]
  simp only [Bool.and_eq_true, decide_eq_true_eq, Int.toNat_natCast]
  rw [letters_ok]
  constructor
  · rintro ⟨_, h⟩; exact ⟨h6, h⟩
  · rintro ⟨_, h⟩; exact ⟨by omega, h⟩
/-- Projections accept restrictions. -/
theorem acc_restr {s : Sy} {al : Int} {x : ByteArray} (h : prK s al = true) (hx : hasTr s x = true) : accB (prA s al) (restr x al) = true := by
  obtain ⟨hk, _⟩ := prK_true h
  obtain ⟨hs, hw⟩ := hasTr_ok hx
  obtain ⟨r, rfl, hr, hl⟩ := word_ex hw
  rw [hasTr_wordS hs hr hl, decide_eq_true_eq] at hx
  rw [restr_wordS (fun l hl => (letters_lt (hr l hl)).1), accB_pr h (fun l hl => by simpa using (List.mem_filter.1 hl).2) (Nat.le_trans (List.length_filter_le _ _) hl), decide_eq_true_eq]
  intro h0
  obtain ⟨q, hq⟩ := Nat.exists_testBit_of_ne_zero hx
  have := prW_sub hk r hr q hq
  rw [h0] at this
  simp at this

end Go.Proofs.YtimoekglamdddaaDoor

/- The program's search: firstPath. -/
namespace Go.Proofs.YtimoekglamdddaaDoor
open Go.RowKit Go.BigFrame AG

/-- The steps of a search, as a function value: it appends to a list the nodes to which a letter leads. -/
structure NextOk (w : World) (size : Nat) (L : List Nat) (nx : Nat → Nat → List Nat) (fN : FuncId) (capN : Array Value) : Prop where
  run : ∀ args w', (callFunc fN args).run Tryd.prog w' = .ok (.enter fN args) w'
  lt : ∀ q, q < size → ∀ l ∈ L, ∀ n ∈ nx q l, n < size
  len : ∀ q, q < size → ∀ l ∈ L, (nx q l).length ≤ 4096
  call : ∀ w' (q l : Nat) (v : Value) (ns : List Nat) (base : Nat), Below w.heap.size w w' → q < size → l ∈ L → ns.length ≤ 4294967296 → w.heap.size ≤ base → base ≤ w'.heap.size → w'.ownsRow base 3 1 v ns.length (natVals ns) →
    Calls Tryd.prog fN (#[.int .i64 (q : Nat), .int .i64 (l : Nat), v] ++ capN) w' fun e w'' => ∃ v', e = .returned v' ∧ w''.ownsRow base 3 1 v' (ns ++ nx q l).length (natVals (ns ++ nx q l)) ∧ KeepB (fun b => v.ownBlock = some b) w' w''

theorem infoBoolF : (Tryd.prog.info? 4).map (fun i => (i.zero, i.size, i.bytes)) = some (some (.bool false), 1, 1) := by kernel_rfl

/-- The search in memory and as plain lists. -/
def SrchAt (w : World) (size : Nat) (G : Nat → Bool) (L : List Nat) (nx : Nat → Nat → List Nat) (I0 : List Nat) (gv : Value) (bS bG bP gS : Nat) (wr : World) (i k : Nat) (sv : Value) (ss : List StV) (ws : List (List Nat)) (S : Nat → Bool) : Prop :=
  FPst w wr size gv bS bG bP gS sv ss S ∧ SB (fun n => n ∈ I0) L nx G size (ss.map (·.st)) ws S i k

theorem PathOk.of {I : Nat → Prop} {L : List Nat} {nx : Nat → Nat → List Nat} {G : Nat → Prop} {ss : List StV} {ws : List (List Nat)} {i k : Nat} (h : Bfs I L nx G (ss.map (·.st)) ws i k) (hL6 : ∀ l ∈ L, l < 6) : PathOk ss ws := by
  refine ⟨by rw [h.len]; simp, h.zero, fun h0 => ?_, fun j hj hj' h0 => ?_⟩
  · have := h.root (by simpa using h0)
    simpa using this
  · obtain ⟨p, q, hpj, _, h1, hp, hq, h2, hw⟩ := h.link j (by simpa using hj) hj' h0
    simp only [List.getElem_map] at h1 h2
    exact ⟨p, hpj, h1, by rw [h2]; exact hL6 _ (List.getElem_mem _), hp, by rw [hw, h2]⟩
theorem PathOk.add {ss : List StV} {ws : List (List Nat)} (h : PathOk ss ws) {i l : Nat} (hi : i < ws.length) (hl : l < 6) (x : StV) (hx : x.st.par = (i : Int)) (hx' : x.st.let_ = l) : PathOk (ss ++ [x]) (ws ++ [l :: ws[i]]) := by
  have hlen := h.len
  have hpos : 0 < ws.length := by omega
  refine ⟨by simp [hlen], fun h0 => ?_, fun h0 => ?_, fun j hj hj' h0 => ?_⟩
  · rw [List.getElem_append_left hpos]; exact h.zero hpos
  · rw [List.getElem_append_left (by omega)]; exact h.root (by omega)
  · by_cases e : j < ws.length
    · obtain ⟨p, hpj, h1, h2, hp, hw⟩ := h.link j (by omega) e h0
      refine ⟨p, hpj, ?_, ?_, by simp; omega, ?_⟩
      · rw [List.getElem_append_left (by omega)]; exact h1
      · rw [List.getElem_append_left (by omega)]; exact h2
      · rw [List.getElem_append_left e, List.getElem_append_left hp, List.getElem_append_left (by omega)]; exact hw
    · obtain rfl : j = ws.length := by simp at hj'; omega
      refine ⟨i, hi, ?_, ?_, by simp; omega, ?_⟩
      · simp [hlen, hx]
      · simp [hlen, hx', hl]
      · rw [List.getElem_append_left hi]
        simp [hlen, hx']

theorem FPst.later {w w1 w2 : World} {size : Nat} {gv : Value} {bS bG bP gS : Nat} {sv : Value} {ss : List StV} {S : Nat → Bool} (h : FPst w w1 size gv bS bG bP gS sv ss S) (hb : Below w1.heap.size w1 w2) : FPst w w2 size gv bS bG bP gS sv ss S := by
  obtain ⟨cs, hc, hs⟩ := h.seen
  have hk : KeepB (fun b => b = gS) w1 w2 := .of_below hb
  exact h.keep hk (hc.below hb hc.lt) hs

theorem reachedL_len {nx : Nat → Nat → List Nat} {l size : Nat} : ∀ {ns : List Nat}, (∀ q ∈ ns, (nx q l).length ≤ 4096) → (reachedL nx l ns).length ≤ ns.length * 4096
  | [], _ => by simp [reachedL]
  | q :: ns, h => by
    have h1 := h q List.mem_cons_self
    have h2 := reachedL_len (size := size) (ns := ns) fun x hx => h x (List.mem_cons_of_mem _ hx)
    unfold reachedL at h2 ⊢
    rw [List.flatMap_cons, List.length_append, List.length_cons]
    omega

/-- What the search hands back: the first word to a goal, or none. -/
def PathPost (I : Nat → Prop) (L : List Nat) (nx : Nat → Nat → List Nat) (G : Nat → Prop) (o : Option (List Nat)) : Prop :=
  match o with
  | some r => FirstW I L nx G r
  | none => ∀ q n, RW I L nx q n → ¬ G n
def pathV (o : Option (List Nat)) : Value := .tuple #[.string (match o with | some r => wordS r | none => ⟨#[]⟩), .bool o.isSome]

theorem seen_start (size : Nat) : SeenAt (madeCells #[.bool false] size) size (fun _ => false) := by
  refine ⟨by simp [madeCells], fun n hn => ?_⟩
  have h1 := toList_madeCells_one (Value.bool false) size
  rw [← Array.getElem?_toList, h1, List.getElem?_replicate, if_pos hn]

theorem fp_start (w : World) (size : Nat) (gv : Value) :
    ∃ w4, (((w.alloc (Obj.cells #[gv] 76)).alloc (Obj.cells (madeCells #[Value.bool false] size) 4)).alloc (Obj.cells #[Value.slice (some ⟨w.heap.size + 1, 0, none⟩) size size] 27)).alloc (Obj.cells #[Value.slice none 0 0] 150) = w4 ∧
      Below w.heap.size w w4 ∧ FPst w w4 size gv (w.heap.size + 1 + 1) w.heap.size (w.heap.size + 1 + 1 + 1) (w.heap.size + 1) (.slice none 0 0) [] (fun _ => false) := by
  refine ⟨_, rfl, by (repeat (first | exact Below.refl _ _ | assumption | refine Below.drew ?_ | refine Below.alloc ?_ (by first | omega | (simp; done) | (simp; omega)) _ | refine Below.setCell ?_ (by first | omega | (simp; done) | (simp; omega)) _)), by (repeat (first | exact Below.refl _ _ | assumption | refine Below.drew ?_ | refine Below.alloc ?_ (by first | omega | (simp; done) | (simp; omega)) _ | refine Below.setCell ?_ (by first | omega | (simp; done) | (simp; omega)) _)), ?_, ?_, ?_, ⟨_, ?_, seen_start size⟩, by omega, by omega, World.ownsRow_nil _ _ _ _, fun x hx => by cases hx⟩
  · have := (Blk.new ((w.alloc (Obj.cells #[gv] 76)).alloc (Obj.cells (madeCells #[Value.bool false] size) 4)) 27 #[Value.slice (some ⟨w.heap.size + 1, 0, none⟩) size size]).alloc (Obj.cells #[Value.slice none 0 0] 150)
    simpa using this
  · exact ((Blk.new w 76 #[gv]).alloc _).alloc _ |>.alloc _
  · have := Blk.new (((w.alloc (Obj.cells #[gv] 76)).alloc (Obj.cells (madeCells #[Value.bool false] size) 4)).alloc (Obj.cells #[Value.slice (some ⟨w.heap.size + 1, 0, none⟩) size size] 27)) 150 #[Value.slice none 0 0]
    simpa using this
  · have := ((Blk.new (w.alloc (Obj.cells #[gv] 76)) 4 (madeCells #[Value.bool false] size)).alloc (Obj.cells #[Value.slice (some ⟨w.heap.size + 1, 0, none⟩) size size] 27)).alloc (Obj.cells #[Value.slice none 0 0] 150)
    simpa using this

set_option maxRecDepth 100000 in
set_option maxHeartbeats 8000000 in
theorem firstPath_any (w : World) (size : Nat) (G : Nat → Bool) (fG : FuncId) (capG : Array Value) (hG : GoalOk w size G fG capG) (L : List Nat) (hL : L.Pairwise (· < ·)) (hL6 : ∀ l ∈ L, l < 6) (nx : Nat → Nat → List Nat) (fN : FuncId) (capN : Array Value) (hN : NextOk w size L nx fN capN)
    (I0 : List Nat) (h0 : I0 ≠ []) (hI : ∀ n ∈ I0, n < size) (hIl : I0.length ≤ 4294967296) (sv lv : Value) (hsv : w.ownsRow 0 3 1 sv I0.length (natVals I0)) (hlv : w.ownsRow 0 3 1 lv L.length (natVals L)) (hsz : size ≤ 1048576) :
    Calls Tryd.prog 107 #[.int .i64 (size : Nat), sv, lv, .func (.func fN) #[] capN, .func (.func fG) #[] capG] w fun e w' => ∃ o, e = .returned (pathV o) ∧ PathPost (fun n => n ∈ I0) L nx (fun n => G n = true) o ∧ Below w.heap.size w w' := by
  obtain ⟨i0, hi, hz0, hz1, hz2⟩ := info_parts infoBoolF
  have hmk := fun W => run_make_rowN (P := Tryd.prog) 27 4 i0 _ Tryd.underlying27 hi hz0 .i64 .i64 size size (Nat.le_refl _) (by rw [hz2]; omega) (by omega) W
  obtain ⟨lA, lc, rfl, hlc, hlc'⟩ := own_slice hlv
  have hLlen : L.length ≤ 6 := by
    have := nodup_bound 6 L (hL.imp fun h => Nat.ne_of_lt h) hL6
    exact this
  replace hsv := hid hsv
  replace hlv := hid hlv
  replace hI := hid hI
  go_enter Tryd.func107, Tryd.ntmps107
  go_wp2_with fail
  obtain ⟨w4, hw4, hb4, hst4⟩ := fp_start w size (.func (.func fG) #[] capG)
  rw [hw4]
  have hz4 : w.heap.size + 1 + 1 + 1 < w4.heap.size := by rw [← hw4]; simp
  clear hw4 hmk
  generalize hbS : w.heap.size + 1 + 1 = bS at *
  generalize hbP : bS + 1 = bP at *
  generalize hgS : w.heap.size + 1 = gS at *
  replace hbS := hid hbS
  replace hbP := hid hbP
  replace hgS := hid hgS
  clear hz4
  have hz4 := hb4.size
  have hsv4 := hid (own_keep hsv.out (.of_below (K := fun _ => False) hb4) fun _ _ h => h)
  replace hst4 := hid hst4
  refine (visit_any w size G fG capG hG bS w.heap.size bP gS (.slice none 0 0) [] (fun _ => false) (-1) 0 sv I0 w4 hst4.out hsv4.out hI.out hIl (by simp)).mono ?_
  rintro e w5 ⟨rfl, sv5, ss5, hst5, hss5, hkp5⟩
  have hb5 : Below w.heap.size w w5 := hst5.below
  obtain ⟨fr0, hfr0⟩ : ∃ fr, fr = frs (fun _ => false) I0 := ⟨_, rfl⟩
  rw [← hfr0] at hst5 hss5 ⊢
  have hf0ne : fr0 ≠ [] := by
    intro e
    obtain ⟨a, ha⟩ := List.exists_mem_of_ne_nil _ h0
    have := (frs_mem (fun _ => false) I0 a).2 ⟨ha, rfl⟩
    rw [← hfr0, e] at this
    cases this
  cases hg0 : fr0.any G
  · obtain ⟨A0, c0, rfl⟩ : ∃ A c, ss5 = [⟨⟨-1, 0, fr0⟩, A, c⟩] := by
      rcases hss5 with ⟨e, _⟩ | ⟨_, A, c, e⟩
      · exact absurd e hf0ne
      · exact ⟨A, c, by simpa using e⟩
    have hSB0 : Hid (SB (fun n => n ∈ I0) L nx G size [⟨-1, 0, fr0⟩] [[]] (fun n => fr0.contains n) 0 0) := hid (by
      rw [hfr0]
      exact SB.begin h0 hI.out (by rw [← hfr0]; exact hg0))
    have hst5' : Hid (FPst w w5 size (.func (.func fG) #[] capG) bS w.heap.size bP gS sv5 [⟨⟨-1, 0, fr0⟩, A0, c0⟩] (fun n => fr0.contains n)) := hid (by simpa using hst5)
    replace hfr0 := hid hfr0
    replace hss5 := hid hss5
    replace hst5 := hid hst5
    replace hf0ne := hid hf0ne
    replace h0 := hid h0
    replace hg0 := hid hg0
    replace hkp5 := hid hkp5
    go_wp2_with (rw [hg0.out])
    go_loopw [15] (fun iv wr => ∃ (i : Nat) (sv : Value) (ss : List StV) (ws : List (List Nat)) (S : Nat → Bool), iv = .int .i64 i ∧ i ≤ ss.length ∧ SrchAt w size G L nx I0 (.func (.func fG) #[] capG) bS w.heap.size bP gS wr i 0 sv ss ws S) (fun iv _ => size + 1 - (intOf iv).toNat)
    case atStart => exact ⟨0, sv5, _, _, _, rfl, by simp, hst5'.out, hSB0.out⟩
    case round =>
      obtain ⟨i, sv, ss, ws, S, rfl, hi, hst, hSB⟩ := hrel
      have hbd := hSB.bound
      have hpos := hSB.bfs.pos
      have hwl := hSB.bfs.len
      simp only [List.length_map] at hbd hpos hwl
      have p0 := hst.blkP.cell 0
      simp only [List.getElem?_toArray, List.getElem?_cons_zero] at p0
      obtain ⟨gv, cv, rfl, hgv, hgv', hcv, hcv', hcell⟩ := own_steps hst.own hpos
      replace hst := hid hst
      replace hSB := hid hSB
      replace hcell := hid hcell
      by_cases hlt : i < ss.length
      · go_wp2_with fail
        go_loopw [35] (fun kv wr => ∃ (k : Nat) (sv : Value) (ss : List StV) (ws : List (List Nat)) (S : Nat → Bool), kv = .int .i64 k ∧ k ≤ L.length ∧ i < ss.length ∧ SrchAt w size G L nx I0 (.func (.func fG) #[] capG) bS w.heap.size bP gS wr i k sv ss ws S) (fun kv _ => L.length - (intOf kv).toNat)
        case atStart => exact ⟨0, _, _, _, _, rfl, by omega, hlt, hst.out, hSB.out⟩
        case round =>
          clear hcell hst hSB p0 hgv hgv' hcv hcv' hbd hpos hwl
          obtain ⟨k, sv, ss, ws, S, rfl, hk, hi', hst, hSB⟩ := hrel
          have hbd := hSB.bound
          have hpos := hSB.bfs.pos
          have hwl := hSB.bfs.len
          simp only [List.length_map] at hbd hpos hwl
          by_cases hkl : k < L.length
          · have hlw := own_keep hlv.out (.of_below (K := fun _ => False) hst.below) fun _ _ h => h
            obtain ⟨gl, cl, hve, -, -, -, -, hlcell⟩ := own_shape hlw (by omega)
            injection hve with hv1 hv2 hv3
            subst hv1
            subst hv3
            have l0 := hlcell k _ (show (natVals L)[k]? = some (.int .i64 (L[k] : Nat)) from by unfold natVals; simp [hkl])
            have hlL : L[k] ∈ L := List.getElem_mem hkl
            obtain ⟨l, hll⟩ : ∃ l, l = L[k] := ⟨_, rfl⟩
            rw [← hll] at l0 hlL
            have p0 := hst.blkP.cell 0
            simp only [List.getElem?_toArray, List.getElem?_cons_zero] at p0
            obtain ⟨gv, cv, rfl, hgv, hgv', hcv, hcv', hcell⟩ := own_steps hst.own hpos
            obtain ⟨-, -, c2⟩ := hcell i hi'
            have hnodes := hst.nodes ss[i] (List.getElem_mem hi')
            have hnsz : ss[i].st.nodes.length ≤ size := hSB.nodesLen (x := ss[i].st) (List.mem_map.2 ⟨_, List.getElem_mem hi', rfl⟩)
            have hnlt : ∀ n ∈ ss[i].st.nodes, n < size := hSB.small ss[i].st (List.mem_map.2 ⟨_, List.getElem_mem hi', rfl⟩)
            obtain ⟨ns, hnse⟩ : ∃ ns, ns = ss[i].st.nodes := ⟨_, rfl⟩
            obtain ⟨nA, hnA⟩ : ∃ nA, nA = ss[i].A := ⟨_, rfl⟩
            obtain ⟨nc, hnc⟩ : ∃ nc, nc = ss[i].c := ⟨_, rfl⟩
            rw [← hnse, ← hnA, ← hnc] at c2 hnodes
            rw [← hnse] at hnsz hnlt
            replace hll := hid hll
            replace hnse := hid hnse
            replace hnA := hid hnA
            replace hnc := hid hnc
            replace hst := hid hst
            replace hSB := hid hSB
            replace hcell := hid hcell
            replace hlcell := hid hlcell
            replace hlw := hid hlw
            replace hnodes := hid hnodes
            replace hnlt := hid hnlt
            have i1 : (0 : Int) ≤ (i : Int) := by omega
            have i2 : (i : Int) < (ss.length : Int) := by omega
            have hrun := hN.run
            obtain ⟨wo, rfl⟩ : ∃ wo : World, wo = wr := ⟨_, rfl⟩
            go_wp2_with fail
            go_loopw [18, 45] (fun rv jv wr2 => ∃ j : Nat, jv = .int .i64 j ∧ j ≤ ns.length ∧ wr2.ownsRow wo.heap.size 3 1 rv (reachedL nx l (ns.take j)).length (natVals (reachedL nx l (ns.take j))) ∧ Below wo.heap.size wo wr2) (fun _ jv _ => ns.length - (intOf jv).toNat)
            case atStart => exact ⟨0, rfl, by omega, World.ownsRow_nil _ _ _ _, Below.refl _ _⟩
            case round =>
              obtain ⟨j, rfl, hj, hown, hbo⟩ := hrel
              by_cases hjl : j < ns.length
              · have hnr := own_keep hnodes.out (.of_below (K := fun _ => False) hbo) fun _ _ h => h
                obtain ⟨gn, cn, hve, -, -, -, -, hncell⟩ := own_shape hnr (by omega)
                injection hve with hv1 hv2 hv3
                subst hv1
                subst hv3
                have n0 := hncell j _ (show (natVals ns)[j]? = some (.int .i64 (ns[j] : Nat)) from by unfold natVals; simp [hjl])
                have hql := hnlt.out ns[j] (List.getElem_mem hjl)
                have htk := reachedL_snoc (nx := nx) l (ns.take j) ns[j]
                rw [← List.take_succ_eq_append_getElem hjl] at htk
                obtain ⟨q, hq⟩ : ∃ q, q = ns[j] := ⟨_, rfl⟩
                rw [← hq] at n0 hql htk
                have hrl : (reachedL nx l (ns.take j)).length ≤ 4294967296 := by
                  refine Nat.le_trans (reachedL_len (size := size) fun x hx => hN.len x (hnlt.out x (List.mem_of_mem_take hx)) l hlL) ?_
                  have : (ns.take j).length ≤ 1048576 := by simp; omega
                  omega
                have hbw := hst.out.below.trans (hbo.mono hst.out.below.size)
                have hz1 := hst.out.below.size
                have hz2 := hbo.size
                replace hnr := hid hnr
                replace hncell := hid hncell
                replace hq := hid hq
                replace htk := hid htk
                replace hown := hid hown
                replace hrl := hid hrl
                go_wp2_with fail
                refine (hN.call _ q l _ _ wo.heap.size hbw hql hlL hrl.out hz1 hz2 hown.out).mono ?_
                rintro e w6 ⟨v6, rfl, hown6, hkp6⟩
                have hb6 : Hid (Below wo.heap.size wo w6) := hid (hkp6.below hbo hz2 fun b hb => own_block hown.out b hb)
                replace hown6 := hid hown6
                replace hkp6 := hid hkp6
                go_wp2_with fail
                go_roundw
                case rel => exact ⟨j + 1, by go_num, by omega, by rw [htk.out]; exact hown6.out, hb6.out⟩
                case measure => simp [intOf]; omega
              · have htk : ns.take j = ns := List.take_of_length_le (by omega)
                rw [htk] at hown
                have hbw := hst.out.below.trans (hbo.mono hst.out.below.size)
                have hst2 := hid (hst.out.later hbo)
                obtain ⟨R, hR⟩ : ∃ R, R = reachedL nx l ns := ⟨_, rfl⟩
                rw [← hR] at hown
                have hRl : R.length ≤ 4294967296 := by
                  rw [hR]
                  refine Nat.le_trans (reachedL_len (size := size) fun x hx => hN.len x (hnlt.out x hx) l hlL) ?_
                  omega
                have hRs : Hid (∀ n ∈ R, n < size) := hid fun n hn => by
                  rw [hR] at hn
                  obtain ⟨q, hq, hnq⟩ := reachedL_mem.1 hn
                  exact hN.lt q (hnlt.out q hq) l hlL n hnq
                replace htk := hid htk
                replace hR := hid hR
                have hown0 := hid (own_base hown (Nat.zero_le _))
                replace hown := hid hown
                go_wp2_with fail
                refine (visit_any w size G fG capG hG bS w.heap.size bP gS _ ss S (i : Int) l _ R wr hst2.out hown0.out hRs.out hRl (by omega)).mono ?_
                rintro e w7 ⟨rfl, sv7, ss7, hst7, hss7, hkp7⟩
                have hwi : i < ws.length := by omega
                obtain ⟨fr, hfr⟩ : ∃ fr, fr = frs S R := ⟨_, rfl⟩
                rw [← hfr] at hst7 hss7 ⊢
                have hil : i < (ss.map (fun x : StV => x.st)).length := by simpa using hi'
                have hfr' : Hid (fr = frs S (reachedL nx (L[k]'hkl) ((ss.map (fun x : StV => x.st))[i]'hil).nodes)) := hid (by
                  rw [hfr, hR.out, hnse.out, hll.out, List.getElem_map])
                replace hil := hid hil
                replace hfr := hid hfr
                replace hkp7 := hid hkp7
                cases hg : fr.any G
                · have hnx : Hid (∃ ws' , SrchAt w size G L nx I0 (.func (.func fG) #[] capG) bS w.heap.size bP gS w7 i (k + 1) sv7 ss7 ws' (fun n => S n || fr.contains n) ∧ i < ss7.length) := hid (by
                    rcases hss7 with ⟨e, rfl⟩ | ⟨hne, A7, c7, rfl⟩
                    · refine ⟨ws, ⟨hst7, ?_⟩, hi'⟩
                      have := hSB.out.old hL hil.out hkl (by rw [← hfr'.out]; exact e)
                      have hS : (fun n => S n || fr.contains n) = S := by funext n; rw [e]; simp
                      rw [hS]
                      exact this
                    · have := hSB.out.add hL hil.out hwi hkl (fun q hq n hn => hN.lt q hq _ (List.getElem_mem hkl) n hn) hfr'.out hne hg
                      refine ⟨ws ++ [l :: ws[i]], ⟨hst7, ?_⟩, by simp; omega⟩
                      rw [List.map_append, hll.out]
                      exact this)
                  replace hst7 := hid hst7
                  replace hss7 := hid hss7
                  replace hg := hid hg
                  go_wp2_with (rw [hg.out])
                  go_roundw
                  case rel =>
                    obtain ⟨ws', h1, h2⟩ := hnx.out
                    exact ⟨k + 1, sv7, ss7, ws', _, by go_num, by omega, h2, h1⟩
                  case measure => simp [intOf]; omega
                · have hF := hid (hSB.out.found hL hil.out hwi hkl (by rw [← hfr'.out]; exact hg))
                  obtain ⟨A7, c7, rfl⟩ : ∃ A c, ss7 = ss ++ [⟨⟨i, l, fr⟩, A, c⟩] := by
                    rcases hss7 with ⟨e, _⟩ | ⟨_, A, c, e⟩
                    · rw [e] at hg; cases hg
                    · exact ⟨A, c, e⟩
                  have hpath := hid (PathOk.add (PathOk.of hSB.out.bfs hL6) hwi (hL6 l hlL) ⟨⟨i, l, fr⟩, A7, c7⟩ rfl rfl)
                  obtain ⟨n, hn⟩ : ∃ n, ss.length = n + 1 := ⟨ss.length - 1, by omega⟩
                  have p7 := hst7.blkP.cell 0
                  simp only [List.getElem?_toArray, List.getElem?_cons_zero] at p7
                  obtain ⟨g7, d7, rfl, hg7, hg7', hd7, hd7', hcell7⟩ := own_steps hst7.own (by simp)
                  have hb7 := hst7.below
                  have hlast : Hid ((ws ++ [l :: ws[i]])[n + 1]'(by simp; omega) = l :: ws[i]) := hid (by
                    have : n + 1 = ws.length := by omega
                    simp [this])
                  have hword : Hid (L[k] :: ws[i] = l :: ws[i]) := hid (by rw [hll.out])
                  replace hst7 := hid hst7
                  replace hss7 := hid hss7
                  replace hg := hid hg
                  have hn' := hid (show (ss ++ [(⟨⟨i, l, fr⟩, A7, c7⟩ : StV)]).length = n + 2 by simp; omega)
                  have hc7 := hid (show ∀ j (hj : j < (ss ++ [(⟨⟨i, l, fr⟩, A7, c7⟩ : StV)]).length), w7.cell? ⟨g7, j * 3, none⟩ = some (.int .i64 (ss ++ [(⟨⟨i, l, fr⟩, A7, c7⟩ : StV)])[j].st.par) ∧ w7.cell? ⟨g7, j * 3 + 1, none⟩ = some (.int .i64 ((ss ++ [(⟨⟨i, l, fr⟩, A7, c7⟩ : StV)])[j].st.let_ : Nat)) from fun j hj => ⟨(hcell7 j hj).1, (hcell7 j hj).2.1⟩)
                  have hls := hid (show (ss ++ [(⟨⟨i, l, fr⟩, A7, c7⟩ : StV)]).length ≤ 4294967296 by simp; omega)
                  have hwl' := hid (show n + 1 < (ws ++ [l :: ws[i]]).length by simp; omega)
                  replace hcell7 := hid hcell7
                  replace hn := hid hn
                  replace hd7 := hid hd7
                  go_wp2_with (rw [hg.out])
                  refine (pathWord_any (ss ++ [⟨⟨i, l, fr⟩, A7, c7⟩]) (ws ++ [l :: ws[i]]) g7 d7 n _ w7 hn'.out hn'.out hls.out hpath.out hwl'.out hd7.out hd7' hg7' hc7.out).mono ?_
                  rintro e w8 ⟨he, hb8⟩
                  rw [hlast.out] at he
                  subst he
                  have hb9 := hb7.trans (hb8.mono hb7.size)
                  go_wp2_with fail
                  go_ret2
                  exact ⟨some (l :: ws[i]), rfl, by rw [← hword.out]; exact hF.out, hb9⟩
          · have hov := hid (show SrchAt w size G L nx I0 (.func (.func fG) #[] capG) bS w.heap.size bP gS wr (i + 1) 0 sv ss ws S from ⟨hst, hSB.over (by omega)⟩)
            replace hst := hid hst
            replace hSB := hid hSB
            go_wp2_with fail
            go_roundw
            case rel => exact ⟨i + 1, sv, ss, ws, S, by go_num, by omega, hov.out⟩
            case measure => simp [intOf]; omega
      · have hN := hid (show ∀ q n, RW (fun n => n ∈ I0) L nx q n → ¬ G n = true from by
          have := hSB.out
          obtain rfl : i = (ss.map (·.st)).length := by simp; omega
          exact this.none)
        have hbf := hst.out.below
        go_wp2
        go_ret2
        exact ⟨none, rfl, hN.out, hbf⟩
  · have hfin := hid (first_now (L := L) (nx := nx) (G := G) (I0 := I0) (by rw [← hfr0]; exact hg0))
    replace hfr0 := hid hfr0
    replace hss5 := hid hss5
    replace hst5 := hid hst5
    replace hf0ne := hid hf0ne
    replace h0 := hid h0
    replace hkp5 := hid hkp5
    go_wp2_with fail
    go_ret2
    exact ⟨some [], rfl, hfin.out, hb5⟩

end Go.Proofs.YtimoekglamdddaaDoor

/- The program's FirstTraceOutside: its closures. -/
namespace Go.Proofs.YtimoekglamdddaaDoor
open Go.RowKit Go.BigFrame AG

theorem tmod_nat (a b : Nat) : Int.tmod (a : Int) (b : Int) = ((a % b : Nat) : Int) := by
  rw [Int.tmod_eq_emod_of_nonneg (by omega)]
  exact (Int.natCast_emod a b).symm
theorem tdiv_nat (a b : Nat) : Int.tdiv (a : Int) (b : Int) = ((a / b : Nat) : Int) := by
  rw [Int.tdiv_eq_ediv_of_nonneg (by omega)]
  exact (Int.natCast_ediv a b).symm

set_option maxRecDepth 100000 in
set_option maxHeartbeats 400000 in
theorem outGoal_any (q z b : Nat) (w : World) (hz : 0 < z) (hz' : z ≤ 65536) (hq : q ≤ 1048576) (hc : w.cell? ⟨b, 0, none⟩ = some (.int .i64 (z : Nat))) :
    Calls Tryd.prog 108 #[.int .i64 (q : Nat), .pointer (some ⟨b, 0, none⟩)] w fun e w' => e = .returned (.bool (decide (q % z = 0))) ∧ Below w.heap.size w w' := by
  go_enter Tryd.func108, Tryd.ntmps108
  go_wp2
  go_ret
  exact ⟨ret_bool (by rw [Bool.eq_iff_iff]; simp; omega), Below.refl _ _⟩

set_option maxRecDepth 100000 in
set_option maxHeartbeats 4000000 in
theorem outNext_any (s t : Sy) (z bN bZ bM gn gm base q l : Nat) (v : Value) (ns : List Nat) (w : World) (hz : 0 < z) (hz' : z ≤ 65536) (hq : q < 16 * z) (hl : l < 6) (hT : Tab w) (hN : w.cell? ⟨bN, 0, none⟩ = some (.pointer (some ⟨gn, 0, none⟩))) (hZ : w.cell? ⟨bZ, 0, none⟩ = some (.int .i64 (z : Nat)))
    (hM : w.cell? ⟨bM, 0, none⟩ = some (.pointer (some ⟨gm, 0, none⟩))) (hm : MvAt w w.heap.size gm (mv s)) (hn : MvAt w w.heap.size gn (mv t)) (hns : ns.length ≤ 4294967296) (hb : base ≤ w.heap.size) (hbZ : bZ < base) (hown : w.ownsRow base 3 1 v ns.length (natVals ns)) :
    Calls Tryd.prog 105 #[.int .i64 (q : Nat), .int .i64 (l : Nat), v, .pointer (some ⟨bN, 0, none⟩), .pointer (some ⟨bZ, 0, none⟩), .pointer (some ⟨bM, 0, none⟩)] w fun e w' =>
      ∃ v', e = .returned v' ∧ w'.ownsRow base 3 1 v' (ns ++ outNx s t z q l).length (natVals (ns ++ outNx s t z q l)) ∧ KeepB (fun b => v.ownBlock = some b) w w' := by
  obtain ⟨i0, hi, hz0, hz1, hz2⟩ := info_parts infoInt
  obtain ⟨X, hX⟩ : ∃ X, X = unionOf (mv t) (q % z) l := ⟨_, rfl⟩
  have hXl : X < 65536 := by rw [hX]; exact unionOf_lt _ _ _
  obtain ⟨M, hM'⟩ : ∃ M, M = mv s (q / z) l := ⟨_, rfl⟩
  have hMl : M < 65536 := by rw [hM']; exact mv_lt _ _ _
  have hrem := tmod_nat q z
  have hquo := tdiv_nat q z
  have hqz : q / z < 16 := Nat.div_lt_of_lt_mul (by rw [Nat.mul_comm]; exact hq)
  have hqm : q % z < 65536 := Nat.lt_of_lt_of_le (Nat.mod_lt q hz) hz'
  have y0 : ∀ x, (Fam w.heap.size w x).cell? ⟨bN, 0, none⟩ = some (.pointer (some ⟨gn, 0, none⟩)) := fun x => by rw [(Fam.below _ _ x).cell (World.block_lt_of_cell? _ _ hN)]; exact hN
  have y1 : ∀ x, (Fam w.heap.size w x).cell? ⟨bZ, 0, none⟩ = some (.int .i64 (z : Nat)) := fun x => by rw [(Fam.below _ _ x).cell (World.block_lt_of_cell? _ _ hZ)]; exact hZ
  have hzn : ((z : Int) == 0) = false := by simp; omega
  have hzi : (0 : Int) < (z : Int) := by omega
  have hqi : (0 : Int) ≤ (q : Int) := by omega
  replace hX := hid hX
  replace hM' := hid hM'
  replace hm := hid hm
  replace hn := hid hn
  replace hT := hid hT
  replace hown := hid hown
  go_enter Tryd.func105, Tryd.ntmps105
  go_wp2_with fail
  refine wp_region_grow 6 w.heap.size w (fun _ u _ => u = .int .i64 (X : Nat)) (by kernel_rfl) (by kernel_rfl) (Nat.le_refl _) (Below.refl _ _) ?_
  simp only [List.take_succ_cons, List.take_zero, List.drop_succ_cons, List.drop_zero]
  (repeat (refine grow_quiet (by rfl) (by rfl) (by rfl) ?_; intro K hK; go_big_quiet_op; go_big_quiet_on))
  refine grow_val (.int .i64 (X : Nat)) (by rfl) (by rfl) rfl (fun wq hbq _ => ?_) ?_
  · go_simp
    refine ⟨rfl, ?_⟩
    rw [← Int.natCast_emod, hX.out]
    exact step_any (mv t) gn (q % z) l wq hl (fun p => mv_lt t p l) hqm (hT.out.later hbq) (hn.out.later hbq)
  simp only [Act.put, List.setIfInBounds_toArray, List.set_cons_zero, List.set_cons_succ]
  refine grow_nil ?_
  intro w1 hb1 hf
  clear hf y0 y1
  have hzb1 := hb1.size
  have y1 : ∀ x, (Fam w1.heap.size w1 x).cell? ⟨bZ, 0, none⟩ = some (.int .i64 (z : Nat)) := fun x => by rw [((hb1.trans ((Fam.below w1.heap.size w1 x).mono hb1.size))).cell (World.block_lt_of_cell? _ _ hZ)]; exact hZ
  have y2 : ∀ x, (Fam w1.heap.size w1 x).cell? ⟨bM, 0, none⟩ = some (.pointer (some ⟨gm, 0, none⟩)) := fun x => by rw [((hb1.trans ((Fam.below w1.heap.size w1 x).mono hb1.size))).cell (World.block_lt_of_cell? _ _ hM)]; exact hM
  have hqn : ((q : Int) / (z : Int)).toNat = q / z := by rw [← Int.natCast_ediv]; exact Int.toNat_natCast _
  have hq16 : ((q : Int) / (z : Int)) < 16 := by rw [← Int.natCast_ediv]; omega
  have hq0 : (0 : Int) ≤ ((q : Int) / (z : Int)) := by rw [← Int.natCast_ediv]; omega
  have hl0 : (0 : Int) ≤ (l : Int) := by omega
  have hl6 : (l : Int) < 6 := by omega
  have y3 : ∀ x, (Fam w1.heap.size w1 x).cell? ⟨gm, q / z * 6 + l, none⟩ = some (.int .i64 (M : Nat)) := fun x => by
    rw [hM'.out]
    exact (hm.out.keep (hb1.trans ((Fam.below w1.heap.size w1 x).mono hb1.size))).2 _ _ hqz hl
  go_wp2_with fail
  refine wp_region_grow 12 w1.heap.size w1 (fun _ u w' => OwnNats w' w.heap.size u (memL M)) (by kernel_rfl) (by kernel_rfl) (Nat.le_refl _) (Below.refl _ _) ?_
  simp only [List.take_succ_cons, List.take_zero, List.drop_succ_cons, List.drop_zero]
  (repeat (refine grow_quiet (by rfl) (by rfl) (by rfl) ?_; intro K hK; go_big_quiet_op; go_big_quiet_on))
  refine grow_call (by rfl) (by rfl) (fun u w w' hb h => ?_) (fun wq hbq _ => ?_) fun u hu => ?_
  · exact own_keep h (.of_below (K := fun _ => False) hb) fun _ _ h => h
  · go_simp
    refine ⟨rfl, (members_any M hMl wq ((hT.out.later hb1).later hbq)).mono ?_⟩
    rintro e w3 ⟨v, rfl, ho, hb3⟩
    exact ⟨v, rfl, hb3, own_base ho (by have := hbq.size; omega)⟩
  obtain ⟨w3', -, ho3'⟩ := hu
  obtain ⟨A3, c3, rfl, hc3, hc3'⟩ := own_slice ho3'
  clear ho3'
  simp only [Act.put, List.setIfInBounds_toArray, List.set_cons_zero, List.set_cons_succ]
  (repeat (refine grow_quiet (by rfl) (by rfl) (by rfl) ?_; intro K hK; go_big_quiet_op; go_big_quiet_on))
  refine grow_nil ?_
  intro w3 hb3 hf
  have ho3 := hf _ List.mem_cons_self
  clear hf
  replace ho3 := hid ho3
  clear y1 y2 y3
  have hB3 : Below w.heap.size w w3 := hb1.trans (hb3.mono hzb1)
  have hz3 := hB3.size
  go_wp2_with fail
  go_loopw [2, 30] (fun ov jv wr => ∃ j : Nat, jv = .int .i64 j ∧ j ≤ (memL M).length ∧ wr.ownsRow base 3 1 ov (ns ++ ((memL M).take j).map fun p => p * z + X).length (natVals (ns ++ ((memL M).take j).map fun p => p * z + X)) ∧ KeepB (fun b => v.ownBlock = some b) w3 wr ∧ (∀ g, ov.ownBlock = some g → v.ownBlock = some g ∨ w3.heap.size ≤ g)) (fun _ jv _ => (memL M).length - (intOf jv).toNat)
  case atStart => exact ⟨0, rfl, by omega, by simpa using own_keep hown.out (.of_below (K := fun _ => False) hB3) (fun _ _ h => h), KeepB.refl _ _, fun g h => .inl h⟩
  case round =>
    obtain ⟨j, rfl, hj, hown2, hkp, hat⟩ := hrel
    have hml := memL_len M
    have hvb : ∀ g, v.ownBlock = some g → base ≤ g ∧ g < w.heap.size := hown.out.lt
    by_cases hjl : j < (memL M).length
    · have hr3 := own_keep ho3.out hkp fun g hg e => by
        have h1 := (hvb g e).2
        have h2 := own_block ho3.out g hg
        omega
      obtain ⟨g3, d3, hve, -, -, -, -, hcell⟩ := own_shape hr3 (by omega)
      injection hve with hv1 hv2 hv3
      subst hv1
      subst hv3
      have n0 := hcell j _ (show ((memL M).map fun (n : Nat) => Value.int .i64 (n : Int))[j]? = some (.int .i64 ((memL M)[j] : Nat)) from by simp [hjl])
      have hp16 := (memL_mem.1 (List.getElem_mem hjl)).1
      have hbZ' := World.block_lt_of_cell? _ _ hZ
      have z0 : wr.cell? ⟨bZ, 0, none⟩ = some (.int .i64 (z : Nat)) := by
        rw [World.cell?_of_block (w := w3) (hkp.block bZ (by have := hB3.size; simp at hbZ'; omega) fun e => by have := (hvb _ e).1; omega), hB3.cell hbZ']
        exact hZ
      have htk : ((memL M).take (j + 1)).map (fun p => p * z + X) = ((memL M).take j).map (fun p => p * z + X) ++ [(memL M)[j] * z + X] := by
        rw [List.take_succ_eq_append_getElem hjl, List.map_append]
        rfl
      obtain ⟨p, hp⟩ : ∃ p, p = (memL M)[j] := ⟨_, rfl⟩
      rw [← hp] at n0 hp16 htk
      have hpz : p * z ≤ 1048576 := Nat.le_trans (Nat.mul_le_mul (show p ≤ 16 by omega) hz') (by omega)
      have hpi : ((p : Int) * (z : Int)) = ((p * z : Nat) : Int) := (Int.natCast_mul p z).symm
      have hpz1 : ((p : Int) * (z : Int)) ≤ 1048576 := by rw [hpi]; omega
      have hpz2 : (0 : Int) ≤ ((p : Int) * (z : Int)) := by rw [hpi]; omega
      have hval : Hid (((p : Int) * (z : Int) + (X : Int)) = ((p * z + X : Nat) : Int)) := hid (by rw [hpi]; omega)
      have hlen : (ns ++ ((memL M).take j).map fun p => p * z + X).length ≤ 4294967312 := by simp; omega
      replace hpi := hid hpi
      replace hp := hid hp
      replace htk := hid htk
      replace hr3 := hid hr3
      replace hcell := hid hcell
      replace hown2 := hid hown2
      replace hat := hid hat
      replace hvb := hid hvb
      have hzr := hkp.size
      go_wp2_with (at_builtin; refine wpList_append_own_at _ rfl _ _ 61 rfl base 3 i0 (.int .i64 0) 1 8 Tryd.underlying61 hi hz0 hz1 hz2 rfl (by decide) _ _ _ rfl (hown2.out.alloc _) ⟨wr.heap.size, 0, none⟩ 1 1 [.int .i64 ((p : Int) * (z : Int) + (X : Int))] rfl rfl (cell_one_new _ _ _) (by intro u hu; simp at hu; subst hu; rfl) (by unfold maxLen; omega) (by omega) (by simp; omega) ?_; intro v5 w5 hO5 hg5 _ hat5; replace hO5 := hid hO5; replace hg5 := hid hg5; replace hat5 := hid hat5)
      go_roundw
      case rel =>
        refine ⟨j + 1, by go_num, by omega, ?_, (hkp.alloc _).grown hg5.out fun g hg hlt => ?_, fun g hg => ?_⟩
        · have h5 := hO5.out
          rw [hval.out] at h5
          rw [htk.out, ← List.append_assoc, List.length_append]
          unfold natVals at h5 ⊢
          rw [List.map_append]
          exact h5
        · rcases hat.out g hg with h | h
          · exact h
          · omega
        · rcases hat5.out with h | h
          · exact hat.out g (h.symm.trans hg)
          · rw [h] at hg
            injection hg with hg
            right
            simp at hg
            omega
      case measure => simp [intOf]; omega
    · have htk : (memL M).take j = memL M := List.take_of_length_le (by omega)
      rw [htk] at hown2
      have hfin : Hid (((memL M).map fun p => p * z + X) = outNx s t z q l) := hid (by unfold outNx; rw [← hX.out, ← hM'.out])
      rw [hfin.out] at hown2
      replace hown2 := hid hown2
      replace hat := hid hat
      replace hvb := hid hvb
      replace htk := hid htk
      have hkf : Hid (KeepB (fun b => v.ownBlock = some b) w wr) := hid ((KeepB.of_below hB3).trans hkp)
      go_wp2
      go_ret
      exact ⟨_, rfl, hown2.out, hkf.out⟩

end Go.Proofs.YtimoekglamdddaaDoor

/- The program's WordAt. -/
namespace Go.Proofs.YtimoekglamdddaaDoor
open Go.RowKit Go.BigFrame AG

set_option maxRecDepth 100000 in
set_option maxHeartbeats 1000000 in
theorem reverseNone_any (w : World) :
    Calls Tryd.prog 82 #[.slice none 0 0] w fun e w' => e = .returned (.tuple #[]) ∧ Below w.heap.size w w' := by
  go_enter Tryd.func82, Tryd.ntmps82
  go_wp2_with fail
  go_loopw [2, 3] (fun iv jv wr => iv = .int .i64 0 ∧ jv = .int .i64 (-1) ∧ Below w.heap.size w wr) (fun _ _ _ => 0)
  case atStart => exact ⟨rfl, rfl, Below.refl _ _⟩
  case round =>
    obtain ⟨rfl, rfl, hb⟩ := hrel
    go_wp2
    go_end0
    exact ⟨rfl, hb⟩

/-- WordAt: the word at a place, or no answer. -/
def WordAtPost (n : Nat) (L : List Nat) (w : World) (e : Ending) (w' : World) : Prop :=
  (e = .returned (.tuple #[.string (wordS (wAt L n)), .bool true]) ∧ (0 < L.length ∨ n = 0) ∧ (wAt L n).length ≤ 7 ∨ e = .returned (.tuple #[.string ⟨#[]⟩, .bool false])) ∧ Below w.heap.size w w'

set_option maxRecDepth 100000 in
set_option maxHeartbeats 4000000 in
theorem implWordAt_any (n : Nat) (al : Int) (w : World) (hal : alphaOk al = true) (hn : n ≤ 100000) :
    Calls Tryd.prog 30 #[.int .i64 n, .int .i64 al] w (WordAtPost n (letters al) w) := by
  obtain ⟨i0, hi, hz0, hz1, hz2⟩ := info_parts infoByte
  replace hal := hid hal
  go_enter Tryd.func30, Tryd.ntmps30
  go_wp2_with (go_at_call 62; refine (isAlphabet_any al _).mono ?_; rintro e w' ⟨rfl, rfl⟩; rw [hal.out])
  refine (lettersOf_any al w).mono ?_
  rintro e w1 ⟨lv, rfl, hown, hb1⟩
  obtain ⟨ls, hls⟩ : ∃ ls, Hid (ls = letters al) := ⟨_, hid rfl⟩
  rw [← hls.out] at hown
  have hl6 : ls.length ≤ 6 := by rw [hls.out]; exact lettersTo_len al 6
  obtain ⟨Al, cl, hvl, hcl, hcl'⟩ := own_slice hown
  subst hvl
  replace hown := hid hown
  have hz1' := hb1.size
  go_wp2_with fail
  go_loopw [0, 7] (fun nv v wr => ∃ (k : Nat) (o : List Nat), nv = .int .i64 k ∧ k ≤ n ∧ o.length ≤ 7 ∧ o ++ wAt ls k = wAt ls n ∧ (∀ l ∈ o, l < 6) ∧ (0 < ls.length ∨ k = n) ∧ (o = [] → v = .slice none 0 0) ∧ wr.ownsRow w1.heap.size 5 1 v o.length (bytesOf o) ∧ Below w1.heap.size w1 wr) (fun nv _ _ => (intOf nv).toNat)
  case atStart => exact ⟨n, [], rfl, Nat.le_refl _, by simp, rfl, (fun l hl => by cases hl), .inr rfl, fun _ => rfl, World.ownsRow_nil _ _ _ _, Below.refl _ _⟩
  case round =>
    obtain ⟨k, o, rfl, hkn, ho7, hoo, ho6, hL, hnil, hob, hb⟩ := hrel
    have hbb := hid (hb1.trans (hb.mono hz1'))
    have hown2 := hid (own_later hown.out hb)
    have hzr := hb.size
    replace ho6 := hid ho6
    replace hL := hid hL
    by_cases hk : 0 < k
    · obtain ⟨p, rfl⟩ : ∃ p, k = p + 1 := ⟨k - 1, by omega⟩
      have hk' : (0 : Int) < ((p + 1 : Nat) : Int) := by omega
      obtain ⟨Ao, co, hvo, hco, hco'⟩ := own_slice hob
      subst hvo
      by_cases hl0 : ls.length = 0
      · have hl0' : ((ls.length : Int) == 0) = true := by simpa using hl0
        replace hob := hid hob
        replace hoo := hid hoo
        replace hnil := hid hnil
        replace hl0 := hid hl0
        go_wp2_with fail
        go_ret2
        exact ⟨.inr rfl, hbb.out⟩
      · have hl0' : ((ls.length : Int) == 0) = false := by rw [beq_eq_false_iff_ne]; omega
        by_cases ho : o.length = 7
        · have ho' : ((o.length : Int) == 7) = true := by rw [beq_iff_eq]; omega
          replace hob := hid hob
          replace hoo := hid hoo
          replace hnil := hid hnil
          replace ho := hid ho
          go_wp2_with fail
          go_ret2
          exact ⟨.inr rfl, hbb.out⟩
        · have ho' : ((o.length : Int) == 7) = false := by rw [beq_eq_false_iff_ne]; omega
          have hlp : 0 < ls.length := by omega
          obtain ⟨d, hd⟩ : ∃ d, d = p % ls.length := ⟨_, rfl⟩
          obtain ⟨q, hq⟩ : ∃ q, q = p / ls.length := ⟨_, rfl⟩
          have hdl : d < ls.length := by rw [hd]; exact Nat.mod_lt _ hlp
          have hqp : q ≤ p := by rw [hq]; exact Nat.div_le_self _ _
          have e1 : (((p + 1 : Nat) : Int) - 1) = (p : Int) := by omega
          have e2 : Int.tmod (p : Int) (ls.length : Int) = (d : Int) := by rw [hd]; exact tmod_nat p ls.length
          have e3 : Int.tdiv (p : Int) (ls.length : Int) = (q : Int) := by rw [hq]; exact tdiv_nat p ls.length
          obtain ⟨g, cap, hve, hg1, hg2, -, -, hLs⟩ := own_nats hown2.out (by omega)
          cases hve
          have l0 := hLs d hdl
          obtain ⟨l, hl⟩ : ∃ l : Nat, l = ls[d] := ⟨_, rfl⟩
          have hlt6 : l < 6 := by
            have := letters_lt (A := al) (l := l) (by rw [← hls.out, hl]; exact List.getElem_mem _)
            exact this.1
          rw [← hl] at l0
          have i1 : (0 : Int) ≤ (d : Int) ∧ (d : Int) < (ls.length : Int) := by omega
          have hoo2 : Hid ((o ++ [l]) ++ wAt ls q = wAt ls n) := hid (by
            rw [← hoo, wAt_succ, ← hd, ← hq, List.getD_eq_getElem?_getD, List.getElem?_eq_getElem hdl, hl]
            simp)
          have hlen : o.length < 7 := by omega
          replace hl := hid hl
          replace hLs := hid hLs
          replace hd := hid hd
          replace hq := hid hq
          replace hoo := hid hoo
          replace hnil := hid hnil
          replace ho := hid ho
          replace hl0 := hid hl0
          go_wp2_with (first
            | (go_at_call 81; refine (letterByte_any l hlt6 _).mono ?_; rintro e w' ⟨rfl, rfl⟩)
            | (at_builtin; refine wpList_append_own _ rfl _ _ 43 rfl w1.heap.size 5 i0 (.int .u8 0) 1 1 Tryd.underlying43 hi hz0 hz1 hz2 rfl (by decide) _ _ _ rfl (hob.alloc _) ⟨wr.heap.size, 0, none⟩ 1 1 [.int .u8 (97 + l : Nat)] rfl rfl (cell_one_new _ _ _) (by intro u hu; simp at hu; subst hu; rfl) (by unfold maxLen; omega) (by omega) (by simp; omega) ?_; intro v' w9 hown' hgrow hnil'; have hB9 := hid (Below.grown (hb.alloc hzr _) hgrow (by simp; omega) (own_block hob))))
          have hO9 : Hid (w9.ownsRow w1.heap.size 5 1 v' (o ++ [l]).length (bytesOf (o ++ [l]))) := hid (by
            unfold bytesOf at hown' ⊢
            rw [List.length_append, List.map_append]
            exact hown')
          clear hown' hgrow hob hb hnil'
          go_roundw
          case rel => exact ⟨q, o ++ [l], rfl, by omega, by rw [List.length_append]; simp; omega, hoo2.out, (fun x hx => by rcases List.mem_append.1 hx with h | h; exact ho6.out x h; rw [List.mem_singleton.1 h]; exact hlt6), .inl hlp, (fun e => by simp at e), hO9.out, hB9.out⟩
          case measure => simp [intOf]; omega
    · obtain rfl : k = 0 := by omega
      rw [wAt_zero, List.append_nil] at hoo
      have hLL : 0 < (letters al).length ∨ n = 0 := by
        rw [← hls.out]
        rcases hL.out with h | h
        · exact .inl h
        · exact .inr h.symm
      have hfin : Hid ((wAt (letters al) n).length ≤ 7) := hid (by rw [← hls.out, ← hoo]; exact ho7)
      have hww : Hid (wordS (wAt (letters al) n) = wordS o) := hid (by rw [← hls.out, ← hoo])
      replace hLL := hid hLL
      replace hk := hid hk
      replace hoo := hid hoo
      by_cases hoe : o = []
      · have hv := hnil hoe
        subst hv
        subst hoe
        replace hob := hid hob
        replace hnil := hid hnil
        go_wp2_with fail
        refine (reverseNone_any wr).mono ?_
        rintro e w2 ⟨rfl, hb2⟩
        have hB2 := hid (hbb.out.trans (hb2.mono hbb.out.size))
        have kc : (convert 43 9 (.slice none 0 0)).run Tryd.prog w2 = .ok (.string ⟨#[]⟩) w2 := conv_own (l := []) (World.ownsRow_nil w2 0 _ _)
        go_wp2
        go_ret2
        exact ⟨.inl ⟨by rw [hww.out]; rfl, hLL.out, hfin.out⟩, hB2.out⟩
      · have hpos : 0 < o.length := List.length_pos_iff.2 hoe
        obtain ⟨gb, cap, cur, rfl, hgb, hcap, hcap', hblk, hsz, hcur⟩ := own_blk hob hpos
        have hblk' := hid hblk
        have hcs : Hid (∀ i (h : i < (o.map (97 + ·)).length), cur[i]? = some (.int .u8 ((o.map (97 + ·))[i] : Nat))) := hid fun i h => by
          have hi : i < o.length := by simpa using h
          rw [hcur i (by unfold bytesOf; simpa using hi)]
          unfold bytesOf
          simp
        replace hcur := hid hcur
        replace hblk := hid hblk
        replace hob := hid hob
        replace hnil := hid hnil
        replace hoe := hid hoe
        go_wp2_with fail
        refine (reverseBytes_any gb o.length cap (o.map (97 + ·)) cur wr (by simp) hcap hcap' hblk'.out hsz hcs.out).mono ?_
        rintro e w2 ⟨rfl, hg2, cs2, hblk2, hsz2, hcs2⟩
        have hBr : Below w1.heap.size w1 w2 := hb.grown hg2 hb.size (fun k hk => by cases hk; exact hgb)
        have hB2 := hid (hb1.trans (hBr.mono hz1'))
        have kc : (convert 43 9 (.slice (some ⟨gb, 0, none⟩) o.length cap)).run Tryd.prog w2 = .ok (.string (wordS o)) w2 := by
          have := run_convert_bytes_back (P := Tryd.prog) w2 43 9 5 ⟨gb, 0, none⟩ cap (o.reverse.map letB) Tryd.underlying43 Tryd.underlying5 Tryd.underlying9 (fun j hj => by
            have hj' : j < o.length := by simpa using hj
            have e1 := hcs2 j (by simpa using hj')
            have hadd : (⟨gb, 0, none⟩ : Addr).add j = ⟨gb, j, none⟩ := by unfold Addr.add; split <;> simp_all
            rw [hadd, hblk2.cell, e1]
            have h6' : o.reverse[j]'(by simpa using hj') < 6 := ho6.out _ (List.mem_reverse.1 (List.getElem_mem _))
            simp only [List.getElem_map, List.map_reverse, List.getElem_reverse] at h6' ⊢
            unfold letB
            rw [UInt8.toNat_ofNat']
            have := h6'
            simp only [List.length_map] at *
            rw [Nat.mod_eq_of_lt (by omega)])
          simpa [wordS] using this
        replace hcs2 := hid hcs2
        replace hblk2 := hid hblk2
        replace hg2 := hid hg2
        clear hb hBr
        go_wp2
        go_ret2
        exact ⟨.inl ⟨by rw [hww.out]; rfl, hLL.out, hfin.out⟩, hB2.out⟩

end Go.Proofs.YtimoekglamdddaaDoor

/- The law FnDeterminize. -/
namespace Go.Proofs.YtimoekglamdddaaDoor
open Go.RowKit Go.BigFrame Go.Maps AG

set_option maxRecDepth 100000 in
set_option maxHeartbeats 16000000 in
theorem FnDeterminize_any (A : Option Addr) (n c : Nat) (w : World) (hn : n ≤ c) (hc : c ≤ 9223372036854775807) (hT : Tab w) (hx : CodeAt w A n) :
    Calls Tryd.prog 7 #[.slice A n c] w fun e w' => e = .returned (.bool true) ∧ Below w.heap.size w w' := by
  replace hT := hid hT
  replace hx := hid hx
  by_cases hlen : 1048576 < n
  · have hgt : (1048576 : Int) < (n : Int) := by omega
    go_enter Tryd.func7, Tryd.ntmps7
    go_wp2
    go_ret
    exact ⟨rfl, Below.refl _ _⟩
  have hgt : ¬ ((1048576 : Int) < (n : Int)) := by omega
  go_enter Tryd.func7, Tryd.ntmps7
  go_wp2_with fail
  have BW_w : Below w.heap.size w w := Below.refl _ _
  refine (drawDeterminize_any A n c w hn hc hx.out).mono ?_
  rintro e w1 ⟨s, As, cs, rfl, a1, a2, a3, a4, -, hb_w1⟩
  unfold Sy.val
  have BW_w1 := BW_w.trans (hb_w1.mono BW_w.size)
  have es := hid a4
  have BEs_w1 : Below w1.heap.size w1 w1 := Below.refl _ _
  clear a4
  obtain ⟨a, ha⟩ : ∃ a, Hid (a = prA s s.al) := ⟨_, hid rfl⟩
  obtain ⟨ok, hok⟩ : ∃ ok, Hid (ok = prK s s.al) := ⟨_, hid rfl⟩
  go_upto_region 4 with fail
  obtain ⟨w2, hw_w2, hz_w2, hb_w2, hS_w2⟩ := boxed w1 #[.int .i64 s.al, .int .i64 s.st, .slice As s.es.length cs] 34
  rw [hw_w2]
  clear hw_w2
  have hs0 := fun w' (hb : Below w2.heap.size w2 w') => hS_w2 0 _ rfl w' (hb.mono hz_w2)
  have hs1 := fun w' (hb : Below w2.heap.size w2 w') => hS_w2 1 _ rfl w' (hb.mono hz_w2)
  have hs2 := fun w' (hb : Below w2.heap.size w2 w') => hS_w2 2 _ rfl w' (hb.mono hz_w2)
  replace hs0 := hid hs0
  replace hs1 := hid hs1
  replace hs2 := hid hs2
  clear hS_w2
  have BW_w2 := BW_w1.trans (hb_w2.mono BW_w1.size)
  have BEs_w2 := BEs_w1.trans (hb_w2.mono BEs_w1.size)
  have Bs_w2 : Below w2.heap.size w2 w2 := Below.refl _ _
  have ps0 := hs0.out _ Bs_w2
  have ps1 := hs1.out _ Bs_w2
  have ps2 := hs2.out _ Bs_w2
  go_wp2_with fail
  have hc_a := hid (implDeterminize_any s As cs w2 a1 a2 (hT.out.later BW_w2) (es.out.later BEs_w2))
  rw [← ha.out, ← hok.out] at hc_a
  refine hc_a.out.mono ?_
  clear hc_a
  clear ps0 ps1 ps2
  rintro e w3 ⟨hb_w3, v1, v2, xs, rfl, hau⟩
  obtain ⟨Aa, ca, Ba, da, rfl, rfl, ta⟩ := hau.at_
  replace ta := hid ta
  clear hau
  have BW_w3 := BW_w2.trans (hb_w3.mono BW_w2.size)
  have BEs_w3 := BEs_w2.trans (hb_w3.mono BEs_w2.size)
  have Bs_w3 := Bs_w2.trans (hb_w3.mono Bs_w2.size)
  have BTa_w3 : Below w3.heap.size w3 w3 := Below.refl _ _
  go_upto_region 5 with fail
  obtain ⟨w4, hw_w4, hz_w4, hb_w4, hS_w4⟩ := boxed w3 #[.int .i64 a.al, .slice Aa a.nx.length ca, .slice Ba a.ac.length da] 29
  rw [hw_w4]
  clear hw_w4
  have ha0 := fun w' (hb : Below w4.heap.size w4 w') => hS_w4 0 _ rfl w' (hb.mono hz_w4)
  have ha1 := fun w' (hb : Below w4.heap.size w4 w') => hS_w4 1 _ rfl w' (hb.mono hz_w4)
  have ha2 := fun w' (hb : Below w4.heap.size w4 w') => hS_w4 2 _ rfl w' (hb.mono hz_w4)
  replace ha0 := hid ha0
  replace ha1 := hid ha1
  replace ha2 := hid ha2
  clear hS_w4
  have BW_w4 := BW_w3.trans (hb_w4.mono BW_w3.size)
  have BEs_w4 := BEs_w3.trans (hb_w4.mono BEs_w3.size)
  have Bs_w4 := Bs_w3.trans (hb_w4.mono Bs_w3.size)
  have BTa_w4 := BTa_w3.trans (hb_w4.mono BTa_w3.size)
  have Ba_w4 : Below w4.heap.size w4 w4 := Below.refl _ _
  have ps0 := hs0.out _ Bs_w4
  have ps1 := hs1.out _ Bs_w4
  have ps2 := hs2.out _ Bs_w4
  go_wp2_with fail
  have hc_x := hid (specDeterminize_any s As cs w4 a1 a2 (es.out.later BEs_w4))
  rw [← ha.out, ← hok.out] at hc_x
  refine hc_x.out.mono ?_
  clear hc_x
  clear ps0 ps1 ps2
  rintro e w5 ⟨hb_w5, v1, v2, xs, rfl, hau⟩
  obtain ⟨Ax, cx, Bx, dx, rfl, rfl, tx⟩ := hau.at_
  replace tx := hid tx
  clear hau
  have BW_w5 := BW_w4.trans (hb_w5.mono BW_w4.size)
  have BEs_w5 := BEs_w4.trans (hb_w5.mono BEs_w4.size)
  have Bs_w5 := Bs_w4.trans (hb_w5.mono Bs_w4.size)
  have BTa_w5 := BTa_w4.trans (hb_w5.mono BTa_w4.size)
  have Ba_w5 := Ba_w4.trans (hb_w5.mono Ba_w4.size)
  have BTx_w5 : Below w5.heap.size w5 w5 := Below.refl _ _
  go_upto_region 6 with fail
  obtain ⟨w6, hw_w6, hz_w6, hb_w6, hS_w6⟩ := boxed w5 #[.int .i64 a.al, .slice Ax a.nx.length cx, .slice Bx a.ac.length dx] 29
  rw [hw_w6]
  clear hw_w6
  have hx0 := fun w' (hb : Below w6.heap.size w6 w') => hS_w6 0 _ rfl w' (hb.mono hz_w6)
  have hx1 := fun w' (hb : Below w6.heap.size w6 w') => hS_w6 1 _ rfl w' (hb.mono hz_w6)
  have hx2 := fun w' (hb : Below w6.heap.size w6 w') => hS_w6 2 _ rfl w' (hb.mono hz_w6)
  replace hx0 := hid hx0
  replace hx1 := hid hx1
  replace hx2 := hid hx2
  clear hS_w6
  have BW_w6 := BW_w5.trans (hb_w6.mono BW_w5.size)
  have BEs_w6 := BEs_w5.trans (hb_w6.mono BEs_w5.size)
  have Bs_w6 := Bs_w5.trans (hb_w6.mono Bs_w5.size)
  have BTa_w6 := BTa_w5.trans (hb_w6.mono BTa_w5.size)
  have Ba_w6 := Ba_w5.trans (hb_w6.mono Ba_w5.size)
  have BTx_w6 := BTx_w5.trans (hb_w6.mono BTx_w5.size)
  have Bx_w6 : Below w6.heap.size w6 w6 := Below.refl _ _
  have pa0 := ha0.out _ Ba_w6
  have pa1 := ha1.out _ Ba_w6
  have pa2 := ha2.out _ Ba_w6
  have px0 := hx0.out _ Bx_w6
  have px1 := hx1.out _ Bx_w6
  have px2 := hx2.out _ Bx_w6
  go_wp2_with fail
  refine (agAutomata_any a a Aa Ba Ax Bx ca da cx dx w6 (ta.out.later BTa_w6) (tx.out.later BTx_w6)).mono ?_
  clear pa0 pa1 pa2 px0 px1 px2
  rintro e w7 ⟨rfl, hb_w7⟩
  have BW_w7 := BW_w6.trans (hb_w7.mono BW_w6.size)
  have BEs_w7 := BEs_w6.trans (hb_w7.mono BEs_w6.size)
  have Bs_w7 := Bs_w6.trans (hb_w7.mono Bs_w6.size)
  have BTa_w7 := BTa_w6.trans (hb_w7.mono BTa_w6.size)
  have Ba_w7 := Ba_w6.trans (hb_w7.mono Ba_w6.size)
  have BTx_w7 := BTx_w6.trans (hb_w7.mono BTx_w6.size)
  have Bx_w7 := Bx_w6.trans (hb_w7.mono Bx_w6.size)
  rw [decide_eq_true rfl]
  cases hokc : ok
  case false =>
    rw [hokc] at hok
    have pa0 := ha0.out _ Ba_w7
    have pa1 := ha1.out _ Ba_w7
    have pa2 := ha2.out _ Ba_w7
    have px0 := hx0.out _ Bx_w7
    have px1 := hx1.out _ Bx_w7
    have px2 := hx2.out _ Bx_w7
    go_wp2_with fail
    refine (agAutomata_any a a Aa Ba Ax Bx ca da cx dx w7 (ta.out.later BTa_w7) (tx.out.later BTx_w7)).mono ?_
    clear pa0 pa1 pa2 px0 px1 px2
    rintro e w8 ⟨rfl, hb_w8⟩
    have BW_w8 := BW_w7.trans (hb_w8.mono BW_w7.size)
    have BEs_w8 := BEs_w7.trans (hb_w8.mono BEs_w7.size)
    have Bs_w8 := Bs_w7.trans (hb_w8.mono Bs_w7.size)
    have BTa_w8 := BTa_w7.trans (hb_w8.mono BTa_w7.size)
    have Ba_w8 := Ba_w7.trans (hb_w8.mono Ba_w7.size)
    have BTx_w8 := BTx_w7.trans (hb_w8.mono BTx_w7.size)
    have Bx_w8 := Bx_w7.trans (hb_w8.mono Bx_w7.size)
    rw [decide_eq_true rfl]
    go_wp2_with fail
    go_ret
    exact ⟨rfl, BW_w8⟩
  case true =>
  have hpk : Hid (prK s s.al = true) := hid (by rw [← hok.out, hokc])
  have haal : a.al = s.al := by rw [ha.out]; exact prA_al hpk.out
  have heqb : (a.al == s.al) = true := by simpa using haal
  replace haal := hid haal
  have hsok : Hid (sysOk s = true) := hid (prOk_parts (prK_true hpk.out).1).1
  subst hokc
  go_wp2_with fail
  go_loopw [8] (fun iv wr => ∃ i : Nat, iv = .int .i64 (i : Nat) ∧ i ≤ 40 ∧ Below w7.heap.size w7 wr) (fun iv _ => 40 - (intOf iv).toNat)
  case atStart => exact ⟨0, rfl, by omega, Below.refl _ _⟩
  case round =>
    obtain ⟨i, rfl, hi, hb_wr⟩ := hrel
    have BW_wr := BW_w7.trans (hb_wr.mono BW_w7.size)
    have BEs_wr := BEs_w7.trans (hb_wr.mono BEs_w7.size)
    have Bs_wr := Bs_w7.trans (hb_wr.mono Bs_w7.size)
    have BTa_wr := BTa_w7.trans (hb_wr.mono BTa_w7.size)
    have Ba_wr := Ba_w7.trans (hb_wr.mono Ba_w7.size)
    have BTx_wr := BTx_w7.trans (hb_wr.mono BTx_w7.size)
    have Bx_wr := Bx_w7.trans (hb_wr.mono Bx_w7.size)
    by_cases hlt : i < 40
    case neg =>
      obtain rfl : i = 40 := by omega
      have pa0 := ha0.out _ Ba_wr
      have pa1 := ha1.out _ Ba_wr
      have pa2 := ha2.out _ Ba_wr
      have ps0 := hs0.out _ Bs_wr
      have ps1 := hs1.out _ Bs_wr
      have ps2 := hs2.out _ Bs_wr
      go_wp2
      go_ret
      exact ⟨by first | rfl | (rw [heqb]), BW_wr⟩
    have ps0 := hs0.out _ Bs_wr
    have ps1 := hs1.out _ Bs_wr
    have ps2 := hs2.out _ Bs_wr
    go_wp2_with fail
    refine (implWordAt_any i s.al wr (alphaOk_range.2 (sysOk_alpha hsok.out)) (by omega)).mono ?_
    clear ps0 ps1 ps2
    rintro e w9 ⟨hres, hb_w9⟩
    have BW_w9 := BW_wr.trans (hb_w9.mono BW_wr.size)
    have BEs_w9 := BEs_wr.trans (hb_w9.mono BEs_wr.size)
    have Bs_w9 := Bs_wr.trans (hb_w9.mono Bs_wr.size)
    have BTa_w9 := BTa_wr.trans (hb_w9.mono BTa_wr.size)
    have Ba_w9 := Ba_wr.trans (hb_w9.mono Ba_wr.size)
    have BTx_w9 := BTx_wr.trans (hb_w9.mono BTx_wr.size)
    have Bx_w9 := Bx_wr.trans (hb_w9.mono Bx_wr.size)
    rcases hres with ⟨rfl, hLL, hlen⟩ | rfl
    case inr =>
      have pa0 := ha0.out _ Ba_w9
      have pa1 := ha1.out _ Ba_w9
      have pa2 := ha2.out _ Ba_w9
      have ps0 := hs0.out _ Bs_w9
      have ps1 := hs1.out _ Bs_w9
      have ps2 := hs2.out _ Bs_w9
      go_wp2
      go_ret
      exact ⟨by first | rfl | (rw [heqb]), BW_w9⟩
    obtain ⟨r, hr⟩ : ∃ r, Hid (r = wAt (letters s.al) i) := ⟨_, hid rfl⟩
    rw [← hr.out] at hlen ⊢
    have hrl : Hid (∀ l ∈ r, l ∈ letters s.al) := hid (by
      rw [hr.out]
      rcases hLL with h | h
      · exact wAt_mem h i
      · rw [h, wAt_zero]
        intro l hl
        cases hl)
    have hac := hid (acc_trace hpk.out hrl.out (by omega))
    obtain ⟨v, hv⟩ : ∃ v, Hid (v = decide (setW s r ≠ 0)) := ⟨_, hid rfl⟩
    rw [← hv.out] at hac
    have hzr : (wordS r).size ≤ 9223372036854775807 := by rw [wordS_size]; omega
    have hvv : (v != v) = false := by simp
    replace hLL := hid hLL
    replace hlen := hid hlen
    have ya0 := fun x => ha0.out _ (Ba_w9.trans ((Fam.below w9.heap.size w9 x).mono Ba_w9.size))
    have ya1 := fun x => ha1.out _ (Ba_w9.trans ((Fam.below w9.heap.size w9 x).mono Ba_w9.size))
    have ya2 := fun x => ha2.out _ (Ba_w9.trans ((Fam.below w9.heap.size w9 x).mono Ba_w9.size))
    have ys0 := fun x => hs0.out _ (Bs_w9.trans ((Fam.below w9.heap.size w9 x).mono Bs_w9.size))
    have ys1 := fun x => hs1.out _ (Bs_w9.trans ((Fam.below w9.heap.size w9 x).mono Bs_w9.size))
    have ys2 := fun x => hs2.out _ (Bs_w9.trans ((Fam.below w9.heap.size w9 x).mono Bs_w9.size))
    have hTc := hid (hT.out.later BW_w9)
    have hac2 := hid (ta.out.later BTa_w9)
    have hes := hid (es.out.later BEs_w9)
    go_wp2_with fail
    refine wp_region_grow 7 w9.heap.size w9 (fun _ u _ => u = .bool v) (by kernel_rfl) (by kernel_rfl) (Nat.le_refl _) (Below.refl _ _) ?_
    simp only [List.take_succ_cons, List.take_zero, List.drop_succ_cons, List.drop_zero]
    (repeat (refine grow_quiet (by rfl) (by rfl) (by rfl) ?_; intro K hK; go_big_quiet_op; go_big_quiet_on))
    refine grow_val (.bool v) (by rfl) (by rfl) rfl (fun wq hbq _ => ?_) ?_
    · go_simp
      refine ⟨rfl, (implAcceptsWord_any a Aa Ba ca da (wordS r) wq hzr (hac2.out.later hbq)).mono ?_⟩
      rintro e w3 ⟨rfl, hb3⟩
      exact ⟨by rw [ha.out, hac.out.1], hb3⟩
    simp only [Act.put, List.setIfInBounds_toArray, List.set_cons_zero, List.set_cons_succ]
    (repeat (refine grow_quiet (by rfl) (by rfl) (by rfl) ?_; intro K hK; go_big_quiet_op; go_big_quiet_on))
    refine grow_val (.bool v) (by rfl) (by rfl) rfl (fun wq hbq _ => ?_) ?_
    · go_simp
      refine ⟨rfl, (implHasTrace_any s As cs (wordS r) wq hzr a1 a2 (hTc.out.later hbq) (hes.out.later hbq)).mono ?_⟩
      rintro e w3 ⟨rfl, hb3⟩
      exact ⟨by rw [hac.out.2], hb3⟩
    simp only [Act.put, List.setIfInBounds_toArray, List.set_cons_zero, List.set_cons_succ]
    (repeat (refine grow_quiet (by rfl) (by rfl) (by rfl) ?_; intro K hK; go_big_quiet_op; go_big_quiet_on))
    refine grow_nil ?_
    intro w40 hb_w40 hf
    clear hf ya0 ya1 ya2 ys0 ys1 ys2
    have BW_w40 := BW_w9.trans (hb_w40.mono BW_w9.size)
    have BEs_w40 := BEs_w9.trans (hb_w40.mono BEs_w9.size)
    have Bs_w40 := Bs_w9.trans (hb_w40.mono Bs_w9.size)
    have BTa_w40 := BTa_w9.trans (hb_w40.mono BTa_w9.size)
    have Ba_w40 := Ba_w9.trans (hb_w40.mono Ba_w9.size)
    have BTx_w40 := BTx_w9.trans (hb_w40.mono BTx_w9.size)
    have Bx_w40 := Bx_w9.trans (hb_w40.mono Bx_w9.size)
    have hfin := hid (hb_wr.trans ((hb_w9.trans (hb_w40.mono hb_w9.size)).mono hb_wr.size))
    go_wp2_with fail
    go_roundw
    case rel => exact ⟨i + 1, by go_num, by omega, hfin.out⟩
    case measure => simp [intOf]; omega

end Go.Proofs.YtimoekglamdddaaDoor
