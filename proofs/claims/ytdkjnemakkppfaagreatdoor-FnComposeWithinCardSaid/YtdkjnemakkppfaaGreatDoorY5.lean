/- Lemmas, part 5: several texts in one. -/
import Derived.Test.YtdkjnemakkppfaaGreatDoorY4
import Derived.Test.YtdkjnemakkppfaaGreatDoorY1
import Derived.Test.YtdkjnemakkppfaaGreatDoorY2
import Derived.Deep.DeepCutAuto
import Derived.WalkKit
import Derived.Test.YtdkjnemakkppfaaGreatDoorY3
set_option linter.unusedSimpArgs false
set_option linter.unusedVariables false

/- Plain: words as lists: prefixes, restrictions of restrictions, lists of systems in another order, words that are merged. -/
namespace AG

/-- The letter of a byte, -1 if there is none. -/
def bl (b : UInt8) : Int := if lOk ((b.toNat : Int) - 97) = true then (b.toNat : Int) - 97 else -1
def pk (al : Int) (b : UInt8) : Bool := HasZ al (bl b)
theorem pk_at (w : ByteArray) (al : Int) (i : Nat) : HasZ al (ltr w i) = pk al (w.data.getD i 0) := rfl
theorem getD_list {w : ByteArray} {i : Nat} (h : i < w.size) : ∃ h' : i < w.data.toList.length, w.data.getD i 0 = w.data.toList[i]'h' := by
  have hk' : i < w.data.size := h
  refine ⟨by simpa using hk', ?_⟩
  rw [Array.getD_eq_getD_getElem?, Array.getElem?_eq_getElem hk']
  simp
theorem size_list (w : ByteArray) : w.data.toList.length = w.size := by simp
theorem word_ext {a b : ByteArray} (h : a.data.toList = b.data.toList) : a = b := by
  obtain ⟨⟨a⟩⟩ := a
  obtain ⟨⟨b⟩⟩ := b
  cases h
  rfl

theorem keptTo_filter (w : ByteArray) (al : Int) : ∀ k, k ≤ w.size → keptTo w al k = (w.data.toList.take k).filter (pk al)
  | 0, _ => by simp [keptTo]
  | k + 1, hk => by
    have ih := keptTo_filter w al k (by omega)
    obtain ⟨h', e⟩ := getD_list (w := w) (i := k) (by omega)
    rw [keptTo, ih, List.take_succ_eq_append_getElem h', List.filter_append, pk_at, e]
    generalize w.data.toList[k]'h' = b
    cases h : pk al b <;> simp [h]
theorem restr_list (w : ByteArray) (al : Int) : (restr w al).data.toList = w.data.toList.filter (pk al) := by
  have := keptTo_filter w al w.size (Nat.le_refl _)
  unfold restr
  rw [this, List.take_of_length_le (by rw [size_list]; omega)]
theorem within_list (w : ByteArray) (al : Int) : within w al = true ↔ alphaOk al = true ∧ w.size ≤ 50000 ∧ ∀ b ∈ w.data.toList, pk al b = true := by
  unfold within
  rw [decide_eq_true_iff]
  constructor
  · rintro ⟨h1, h2, h3⟩
    refine ⟨h1, h2, fun b hb => ?_⟩
    obtain ⟨i, hi, rfl⟩ := List.getElem_of_mem hb
    have hi' : i < w.size := by rw [size_list] at hi; exact hi
    obtain ⟨h', e⟩ := getD_list hi'
    have := h3 i hi'
    rw [pk_at, e] at this
    exact this
  · rintro ⟨h1, h2, h3⟩
    refine ⟨h1, h2, fun i hi => ?_⟩
    obtain ⟨h', e⟩ := getD_list hi
    rw [pk_at, e]
    exact h3 _ (List.getElem_mem _)

/-- The states behind a list of bytes. -/
noncomputable def runL (s : Sy) (l : List UInt8) : Nat := l.foldl (fun S b => stepSet s S ((b.toNat : Int) - 97)) 1
theorem runTo_list (s : Sy) (w : ByteArray) : ∀ k, k ≤ w.size → runTo s w k = runL s (w.data.toList.take k)
  | 0, _ => rfl
  | k + 1, hk => by
    have ih := runTo_list s w k (by omega)
    obtain ⟨h', e⟩ := getD_list (w := w) (i := k) (by omega)
    rw [List.take_succ_eq_append_getElem h']
    unfold runL at ih ⊢
    rw [List.foldl_append, ← ih]
    show stepSet s (runTo s w k) (lz w k) = stepSet s _ _
    unfold lz
    rw [e]
theorem runTo_all (s : Sy) (w : ByteArray) : runTo s w w.size = runL s w.data.toList := by
  rw [runTo_list s w _ (Nat.le_refl _), List.take_of_length_le (by rw [size_list]; omega)]
theorem foldl_none (s : Sy) : ∀ l : List UInt8, l.foldl (fun S b => stepSet s S ((b.toNat : Int) - 97)) 0 = 0
  | [] => rfl
  | b :: l => by rw [List.foldl_cons, stepSet_of0]; exact foldl_none s l
theorem runL_more {s : Sy} {l : List UInt8} (m : List UInt8) (h : runL s (l ++ m) ≠ 0) : runL s l ≠ 0 := fun e => h (by
  unfold runL at e ⊢
  rw [List.foldl_append, e, foldl_none])

theorem hasTr_list (s : Sy) (w : ByteArray) : hasTr s w = true ↔ sysOk s = true ∧ within w s.al = true ∧ runL s w.data.toList ≠ 0 := by
  constructor
  · intro h
    obtain ⟨h1, h2⟩ := hasTr_ok h
    refine ⟨h1, h2, ?_⟩
    unfold hasTr at h
    have h := of_decide_eq_true h
    unfold aft at h
    rw [h1, h2] at h
    rw [← runTo_all]
    simpa using h
  · rintro ⟨h1, h2, h3⟩
    unfold hasTr aft
    rw [h1, h2, runTo_all]
    exact decide_eq_true (by simpa using h3)
theorem trParts_list (ss : List Sy) (w : ByteArray) : trParts ss w = true ↔ partsOk ss = true ∧ within w (allAl ss) = true ∧ ∀ s ∈ ss, hasTr s (restr w s.al) = true := by
  unfold trParts
  rw [decide_eq_true_iff]
  constructor
  · rintro ⟨h1, h2, h3⟩
    refine ⟨h1, h2, fun s hs => ?_⟩
    obtain ⟨i, hi, rfl⟩ := List.getElem_of_mem hs
    exact h3 i hi
  · rintro ⟨h1, h2, h3⟩
    exact ⟨h1, h2, fun i hi => h3 _ (List.getElem_mem _)⟩

/-- A word begins another. -/
def Pre (x y : ByteArray) : Prop := ∃ m, y.data.toList = x.data.toList ++ m
theorem Pre.within {x y : ByteArray} {al : Int} (h : Pre x y) (hy : AG.within y al = true) : AG.within x al = true := by
  obtain ⟨m, hm⟩ := h
  rw [within_list] at hy ⊢
  have h1 := size_list x
  have h2 := size_list y
  rw [hm, List.length_append] at h2
  refine ⟨hy.1, by have := hy.2.1; omega, fun b hb => hy.2.2 b (by rw [hm]; exact List.mem_append_left _ hb)⟩
theorem Pre.hasTr {x y : ByteArray} {s : Sy} (h : Pre x y) (hy : AG.hasTr s y = true) : AG.hasTr s x = true := by
  rw [hasTr_list] at hy ⊢
  obtain ⟨m, hm⟩ := h
  exact ⟨hy.1, Pre.within ⟨m, hm⟩ hy.2.1, runL_more m (by rw [← hm]; exact hy.2.2)⟩
theorem Pre.restr {x y : ByteArray} (h : Pre x y) (al : Int) : Pre (AG.restr x al) (AG.restr y al) := by
  obtain ⟨m, hm⟩ := h
  exact ⟨m.filter (pk al), by rw [restr_list, restr_list, hm, List.filter_append]⟩
theorem Pre.trParts {x y : ByteArray} {ss : List Sy} (h : Pre x y) (hy : AG.trParts ss y = true) : AG.trParts ss x = true := by
  rw [trParts_list] at hy ⊢
  exact ⟨hy.1, h.within hy.2.1, fun s hs => (h.restr _).hasTr (hy.2.2 s hs)⟩

/-- Alphabets of lists of systems: order counts for nothing, a system's letters are among them. -/
theorem Has_ext {a b : Int} (ha : 0 ≤ a ∧ a ≤ 63) (hb : 0 ≤ b ∧ b ≤ 63) (h : ∀ c, Has a c = Has b c) : a = b := by
  obtain ⟨a, rfl⟩ := Int.eq_ofNat_of_zero_le ha.1
  obtain ⟨b, rfl⟩ := Int.eq_ofNat_of_zero_le hb.1
  have : a = b := Nat.eq_of_testBit_eq fun i => by have := h i; rwa [Has_nat, Has_nat] at this
  rw [this]
theorem allAl_perm {ss ts : List Sy} (h : ss.Perm ts) (hall : ss.all sysOk = true) : allAl ss = allAl ts := by
  have hall' : ts.all sysOk = true := by rw [List.all_eq_true] at hall ⊢; exact fun x hx => hall x (h.mem_iff.2 hx)
  refine Has_ext (allAl_range _ hall) (allAl_range _ hall') fun c => ?_
  rw [(Has_all ss c hall).1, (Has_all ts c hall').1]
  unfold cntAl
  rw [h.countP_eq]
theorem partsOk_all {ss : List Sy} (h : partsOk ss = true) : ss.all sysOk = true := by
  unfold partsOk at h
  rw [Bool.and_eq_true] at h
  exact h.2
theorem Has_part {ss : List Sy} {s : Sy} (hall : ss.all sysOk = true) (hs : s ∈ ss) (c : Nat) (h : Has s.al c = true) : Has (allAl ss) c = true := by
  rw [(Has_all ss c hall).1]
  refine decide_eq_true ?_
  unfold cntAl
  exact List.countP_pos_iff.2 ⟨s, hs, h⟩
theorem alphaOk_range {a : Int} : alphaOk a = true ↔ 0 ≤ a ∧ a ≤ 63 := by unfold alphaOk; exact decide_eq_true_iff
end AG

/- Plain: the words over some letters in their order, and the first trace outside among them. -/
namespace Go.Proofs.YtdkjnemakkppfaaGreatDoor
open AG

/-- The n-th word over the letters L, its last letter first. -/
def wAt (L : List Nat) : Nat → List Nat
  | 0 => []
  | n + 1 => L.getD (n % L.length) 0 :: wAt L (n / L.length)
termination_by n => n
decreasing_by exact Nat.lt_succ_of_le (Nat.div_le_self _ _)
theorem wAt_zero (L : List Nat) : wAt L 0 = [] := by rw [wAt]
theorem wAt_succ (L : List Nat) (n : Nat) : wAt L (n + 1) = L.getD (n % L.length) 0 :: wAt L (n / L.length) := by rw [wAt]
theorem wAt_mem {L : List Nat} (hL : 0 < L.length) (n : Nat) : ∀ l ∈ wAt L n, l ∈ L := by
  induction n using Nat.strongRecOn with
  | ind n ih =>
    intro l hl
    cases n with
    | zero => rw [wAt_zero] at hl; cases hl
    | succ n =>
      rw [wAt_succ] at hl
      rcases List.mem_cons.1 hl with rfl | hl
      · have := Nat.mod_lt n hL
        rw [List.getD_eq_getElem?_getD, List.getElem?_eq_getElem this]
        exact List.getElem_mem _
      · exact ih _ (Nat.lt_succ_of_le (Nat.div_le_self _ _)) l hl
theorem letters_ok {A : Int} {l : Nat} : l ∈ letters A ↔ l < 6 ∧ Has A l = true := by
  unfold letters lettersTo
  rw [List.mem_filter, List.mem_range]
theorem letB_num {l : Nat} (h : l < 6) : ((letB l).toNat : Int) - 97 = l := by
  unfold letB
  rw [UInt8.toNat_ofNat', Nat.mod_eq_of_lt (by omega)]
  omega
theorem bl_letB {l : Nat} (h : l < 6) : bl (letB l) = l := by
  unfold bl
  rw [letB_num h]
  have : lOk (l : Int) = true := by unfold lOk; exact decide_eq_true (by omega)
  rw [if_pos this]
theorem wordS_list (r : List Nat) : (wordS r).data.toList = r.reverse.map letB := rfl
theorem runL_setW (s : Sy) : ∀ r : List Nat, (∀ l ∈ r, l < 6) → runL s (r.reverse.map letB) = setW s r
  | [], _ => rfl
  | l :: r, h => by
    have ih := runL_setW s r fun x hx => h x (List.mem_cons_of_mem _ hx)
    rw [List.reverse_cons, List.map_append]
    unfold runL at ih ⊢
    rw [List.foldl_append, ih]
    show stepSet s (setW s r) _ = stepSet s (setW s r) _
    rw [letB_num (h l List.mem_cons_self)]
theorem wordS_within {A : Int} {r : List Nat} (hA : alphaOk A = true) (hr : ∀ l ∈ r, l ∈ letters A) (hl : r.length ≤ 50000) : within (wordS r) A = true := by
  rw [within_list]
  refine ⟨hA, by rw [wordS_size]; exact hl, fun b hb => ?_⟩
  rw [wordS_list] at hb
  obtain ⟨l, hl', rfl⟩ := List.mem_map.1 hb
  obtain ⟨h1, h2⟩ := letters_ok.1 (hr l (List.mem_reverse.1 hl'))
  unfold pk HasZ
  rw [bl_letB h1]
  simpa using h2
theorem hasTr_wordS {s : Sy} {r : List Nat} (hs : sysOk s = true) (hr : ∀ l ∈ r, l ∈ letters s.al) (hl : r.length ≤ 50000) : hasTr s (wordS r) = decide (setW s r ≠ 0) := by
  have hA : alphaOk s.al = true := alphaOk_range.2 (sysOk_alpha hs)
  have e := runL_setW s r fun l h => (letters_ok.1 (hr l h)).1
  rw [Bool.eq_iff_iff, hasTr_list, decide_eq_true_iff, wordS_list, e]
  exact ⟨fun h => h.2.2, fun h => ⟨hs, wordS_within hA hr hl, h⟩⟩

end Go.Proofs.YtdkjnemakkppfaaGreatDoor

/- Plain: projections of systems with more letters; of trimmed systems. -/
namespace AG

theorem hid_all : ∀ a b : Fin 64, ∀ l : Fin 6, Has (hidA (a.val : Int) (b.val : Int)) l.val = (Has (a.val : Int) l.val && !Has (b.val : Int) l.val) := by decide +kernel
theorem Has_hid {a b : Int} (ha : 0 ≤ a ∧ a ≤ 63) (hb : 0 ≤ b ∧ b ≤ 63) {l : Nat} (hl : l < 6) : Has (hidA a b) l = (Has a l && !Has b l) := by
  have := hid_all ⟨a.toNat, by omega⟩ ⟨b.toNat, by omega⟩ ⟨l, hl⟩
  dsimp only at this
  rwa [Int.toNat_of_nonneg ha.1, Int.toNat_of_nonneg hb.1] at this
end AG

/- The program's AutomatonValid. -/
namespace Go.Proofs.YtdkjnemakkppfaaGreatDoor
open Go.RowKit Go.BigFrame AG

def rowOk (L n : Nat) (r : List Int) : Prop := r.length = L ∧ ∀ q ∈ r, 0 ≤ q ∧ q < (n : Int)
theorem auOk_iff (a : Au) : auOk a = true ↔ alphaOk a.al = true ∧ 1 ≤ a.nx.length ∧ a.nx.length ≤ 12 ∧ a.ac.length = a.nx.length ∧ ∀ r ∈ a.nx, rowOk (letters a.al).length a.nx.length r := by
  unfold auOk rowOk
  rw [decide_eq_true_eq]
theorem auOk_no {a : Au} (h : ¬ (alphaOk a.al = true ∧ 1 ≤ a.nx.length ∧ a.nx.length ≤ 12 ∧ a.ac.length = a.nx.length ∧ ∀ r ∈ a.nx, rowOk (letters a.al).length a.nx.length r)) : auOk a = false := by
  rw [← Bool.not_eq_true, auOk_iff]
  exact h

set_option maxRecDepth 100000 in
set_option maxHeartbeats 4000000 in
theorem implAutomatonValid_any (a : Au) (A B : Option Addr) (c d : Nat) (w : World) (ha : AuAt w A c B d a) :
    Calls Tryz.prog 81 #[a.val A c B d] w fun e w' => e = .returned (.bool (auOk a)) ∧ Below w.heap.size w w' := by
  obtain ⟨cl, cm, dl, dm, hrows, -⟩ := ha
  unfold AG.Au.val
  obtain ⟨w0, hw0, hz0, hB0, hS⟩ := boxed w #[Value.int IntKind.i64 a.al, Value.slice A a.nx.length c, Value.slice B a.ac.length d] 41
  have hr0 := hid (hrows.later hB0)
  have p0 := hS 0 _ rfl _ (Below.refl _ _)
  have p1 := hS 1 _ rfl _ (Below.refl _ _)
  have p2 := hS 2 _ rfl _ (Below.refl _ _)
  replace hrows := hid hrows
  go_enter Tryz.func81, Tryz.ntmps81
  go_wp2_with fail
  refine (isAlphabet_any a.al w0).mono ?_
  rintro e w1 ⟨rfl, rfl⟩
  cases hal : alphaOk a.al
  case false =>
    have hno := hid (auOk_no (a := a) (by rw [hal]; simp))
    replace hal := hid hal
    go_wp2
    go_ret
    exact ⟨ret_bool (by rw [hno.out]), hB0⟩
  case true =>
  have hal' := hid hal
  clear hal
  by_cases hn1 : 1 ≤ a.nx.length
  case neg =>
    have hno := hid (auOk_no (a := a) (by omega))
    have ht : ((a.nx.length : Int) < 1) := by omega
    go_wp2
    go_ret
    exact ⟨ret_bool (by rw [hno.out]), hB0⟩
  by_cases hn2 : a.nx.length ≤ 12
  case neg =>
    have hno := hid (auOk_no (a := a) (by omega))
    have ht : ¬ ((a.nx.length : Int) < 1) := by omega
    have ht2 : ((12 : Int) < (a.nx.length : Int)) := by omega
    go_wp2
    go_ret
    exact ⟨ret_bool (by rw [hno.out]), hB0⟩
  have ht : ¬ ((a.nx.length : Int) < 1) := by omega
  have ht2 : ¬ ((12 : Int) < (a.nx.length : Int)) := by omega
  by_cases hn3 : a.ac.length = a.nx.length
  case neg =>
    have hno := hid (auOk_no (a := a) (fun h => hn3 h.2.2.2.1))
    have ht3 : ((a.ac.length : Int) != (a.nx.length : Int)) = true := by simp; omega
    replace hn3 := hid hn3
    go_wp2
    go_ret
    exact ⟨ret_bool (by rw [hno.out]), hB0⟩
  have ht3 : ((a.ac.length : Int) != (a.nx.length : Int)) = false := by simp; omega
  replace hn3 := hid hn3
  go_wp2_with fail
  refine (lettersOf_any a.al w0).mono ?_
  rintro e w2 ⟨lv, rfl, hown2, hb2⟩
  obtain ⟨AL, cL, rfl, hcL, hcL'⟩ := own_slice hown2
  have hB2 := hB0.trans (hb2.mono hB0.size)
  have hC2 := hb2.mono hz0
  have hz2 := hb2.size
  have hr2 := hid (hr0.out.later hb2)
  clear p0 p1 p2 hown2
  have p1 := hS 1 _ rfl _ hC2
  obtain ⟨L, hL⟩ : ∃ L, Hid (L = (letters a.al).length) := ⟨_, hid rfl⟩
  rw [← hL.out] at hcL ⊢
  have hL6 : L ≤ 6 := by rw [hL.out]; exact lettersTo_len a.al 6
  go_wp2_with fail
  clear p1
  go_loopw [40] (fun iv wr => ∃ i : Nat, iv = .int .i64 (i : Nat) ∧ i ≤ a.nx.length ∧ (∀ r ∈ a.nx.take i, rowOk L a.nx.length r) ∧ Below w2.heap.size w2 wr) (fun iv _ => a.nx.length - (intOf iv).toNat)
  case atStart => exact ⟨0, rfl, by omega, by simp, Below.refl _ _⟩
  case round =>
    obtain ⟨i, rfl, hi, hok, hb⟩ := hrel
    have hBr := hB2.trans (hb.mono hB2.size)
    by_cases hlt : i < a.nx.length
    · obtain ⟨b, o, hA, hbB, hE⟩ := hr2.out (by omega)
      subst hA
      obtain ⟨Ai, ci, e0, h1, h2, h3⟩ := hE i hlt
      rw [← hb.cell (by simpa using hbB)] at e0
      obtain ⟨r, hr⟩ : ∃ r, Hid (r = a.nx[i]) := ⟨_, hid rfl⟩
      rw [← hr.out] at e0 h1 h3
      have hmem : Hid (r ∈ a.nx) := hid (by rw [hr.out]; exact List.getElem_mem _)
      have k1 : (0 : Int) ≤ (i : Int) ∧ (i : Int) < (a.nx.length : Int) := by omega
      have h3' := hid h3
      replace hE := hid hE
      replace hok := hid hok
      clear h3
      by_cases hrl : r.length = L
      case neg =>
        have hno := hid (auOk_no (a := a) (fun h => hrl (by rw [hL.out]; exact (h.2.2.2.2 r hmem.out).1)))
        have hq : ((r.length : Int) != (L : Int)) = true := by simp; omega
        replace hrl := hid hrl
        go_wp2
        go_ret
        exact ⟨ret_bool (by rw [hno.out]), hBr⟩
      have hq : ((r.length : Int) != (L : Int)) = false := by simp; omega
      replace hrl := hid hrl
      go_wp2_with fail
      go_loopw [50] (fun jv wq => ∃ j : Nat, jv = .int .i64 (j : Nat) ∧ j ≤ r.length ∧ (∀ q ∈ r.take j, 0 ≤ q ∧ q < (a.nx.length : Int)) ∧ Below w2.heap.size w2 wq) (fun jv _ => r.length - (intOf jv).toNat)
      case atStart => exact ⟨0, rfl, by omega, by simp, hb⟩
      case round =>
        obtain ⟨j, rfl, hj, hin, hbq⟩ := hrel
        have hBq := hB2.trans (hbq.mono hB2.size)
        clear e0
        by_cases hjl : j < r.length
        · obtain ⟨bj, oj, hA, hbj, hcell⟩ := h3'.out (by omega)
          subst hA
          have c0 := hcell j hjl
          rw [← hbq.cell (by simpa using hbj)] at c0
          obtain ⟨q, hq'⟩ : ∃ q, Hid (q = r[j]) := ⟨_, hid rfl⟩
          rw [← hq'.out] at c0
          have hqm : Hid (q ∈ r) := hid (by rw [hq'.out]; exact List.getElem_mem _)
          have k2 : (0 : Int) ≤ (j : Int) ∧ (j : Int) < (r.length : Int) := by omega
          have p1 := hS 1 _ rfl _ (hC2.trans (hbq.mono (by omega)))
          replace hcell := hid hcell
          replace hin := hid hin
          by_cases hqn : 0 ≤ q ∧ q < (a.nx.length : Int)
          · have hq1 : ¬ (q < 0) := by omega
            have hq2 : ¬ ((a.nx.length : Int) ≤ q) := by omega
            go_wp2
            go_roundw
            case rel =>
              refine ⟨j + 1, by go_num, by omega, fun y hy => ?_, hbq⟩
              rw [List.take_succ_eq_append_getElem hjl, List.mem_append, List.mem_singleton, ← hq'.out] at hy
              rcases hy with hy | rfl
              · exact hin.out y hy
              · exact hqn
            case measure => simp [intOf]; omega
          · have hno := hid (auOk_no (a := a) (fun h => hqn ((h.2.2.2.2 r hmem.out).2 q hqm.out)))
            by_cases hq1 : q < 0
            · go_wp2
              go_ret
              exact ⟨ret_bool (by rw [hno.out]), hBq⟩
            · have hq2 : ((a.nx.length : Int) ≤ q) := by omega
              go_wp2
              go_ret
              exact ⟨ret_bool (by rw [hno.out]), hBq⟩
        · obtain rfl : j = r.length := by omega
          rw [List.take_length] at hin
          replace hin := hid hin
          go_wp2
          go_roundw
          case rel =>
            refine ⟨i + 1, by go_num, by omega, fun y hy => ?_, hbq⟩
            rw [List.take_succ_eq_append_getElem hlt, List.mem_append, List.mem_singleton, ← hr.out] at hy
            rcases hy with hy | rfl
            · exact hok.out y hy
            · exact ⟨hrl.out, hin.out⟩
          case measure => simp [intOf]; omega
    · rw [List.take_of_length_le (by omega)] at hok
      have hyes := hid ((auOk_iff a).2 ⟨hal'.out, hn1, hn2, hn3.out, by rw [← hL.out]; exact hok⟩)
      replace hok := hid hok
      go_wp2
      go_ret
      exact ⟨ret_bool (by rw [hyes.out]), hBr⟩

end Go.Proofs.YtdkjnemakkppfaaGreatDoor

/- The program's tableOf. -/
namespace Go.Proofs.YtdkjnemakkppfaaGreatDoor
open Go.RowKit Go.BigFrame AG

/-- The table of an automaton: where each letter leads from each of n states. -/
def TabA (w : World) (g n : Nat) (a : Au) : Prop := g < w.heap.size ∧ ∀ q l, q < n → l < 6 → w.cell? ⟨g, q * 6 + l, none⟩ = some (.int .i64 (goA a q l : Nat))
theorem TabA.later {w w' : World} {g n : Nat} {a : Au} (h : TabA w g n a) (hb : Below w.heap.size w w') : TabA w' g n a := ⟨Nat.lt_of_lt_of_le h.1 hb.size, fun q l h1 h2 => by rw [hb.cell (by simpa using h.1)]; exact h.2 q l h1 h2⟩
/-- Every row has as many entries as there are letters, and they are no negative numbers. -/
def tabOk (a : Au) : Prop := ∀ r ∈ a.nx, r.length = (letters a.al).length ∧ ∀ q ∈ r, 0 ≤ q
theorem tabOk_of {a : Au} (h : auOk a = true) : tabOk a := fun r hr => by
  have := ((auOk_iff a).1 h).2.2.2.2 r hr
  exact ⟨this.1, fun q hq => (this.2 q hq).1⟩
/-- .. when i letters of the row have been entered. -/
def goK (a : Au) (q i l : Nat) : Int := if l ∈ (letters a.al).take i then (a.nx.getD q []).getD ((letters a.al).idxOf l) 0 else (q : Int)
theorem goK_done {a : Au} (h : tabOk a) {q l : Nat} (hq : q < a.nx.length) : goK a q (letters a.al).length l = ((goA a q l : Nat) : Int) := by
  unfold goK goA
  rw [List.take_length]
  split
  · rename_i hl
    have hg : a.nx.getD q [] = a.nx[q] := by rw [List.getD_eq_getElem?_getD, List.getElem?_eq_getElem hq]; rfl
    obtain ⟨h1, h2⟩ := h a.nx[q] (List.getElem_mem _)
    have hk : (letters a.al).idxOf l < (a.nx[q]).length := by rw [h1]; exact List.idxOf_lt_length_iff.2 hl
    rw [hg]
    have : (a.nx[q]).getD ((letters a.al).idxOf l) 0 = (a.nx[q])[(letters a.al).idxOf l] := by rw [List.getD_eq_getElem?_getD, List.getElem?_eq_getElem hk]; rfl
    rw [this, Int.toNat_of_nonneg (h2 _ (List.getElem_mem _))]
  · rfl
theorem goK_next {a : Au} {q i l : Nat} (hi : i < (letters a.al).length) : goK a q (i + 1) l = if l = (letters a.al)[i] then (a.nx.getD q []).getD i 0 else goK a q i l := by
  unfold goK
  rw [List.take_succ_eq_append_getElem hi]
  by_cases e : l = (letters a.al)[i]
  · have hx : (letters a.al).idxOf l = i := by
      rw [e]
      exact (show (letters a.al).Nodup from (letters_sorted a.al).imp fun h => Nat.ne_of_lt h).idxOf_getElem i hi
    rw [if_pos e, if_pos (by rw [e]; exact List.mem_append_right _ (List.mem_singleton.2 rfl)), hx]
  · rw [if_neg e]
    by_cases hm : l ∈ (letters a.al).take i
    · rw [if_pos hm, if_pos (List.mem_append_left _ hm)]
    · rw [if_neg hm, if_neg]
      rw [List.mem_append, List.mem_singleton]
      rintro (h | h)
      · exact hm h
      · exact e h
/-- The cells of the table: q rows are done, of the next one those that f says. -/
structure TabSt (cs : Array Value) (n : Nat) (a : Au) (q : Nat) (f : Nat → Option Int) : Prop where
  size : cs.size = n * 6
  rows : ∀ p l, p < q → l < 6 → cs[p * 6 + l]? = some (.int .i64 (goA a p l : Nat))
  row : ∀ l v, l < 6 → f l = some v → cs[q * 6 + l]? = some (.int .i64 v)
theorem TabSt.set_ {cs : Array Value} {n : Nat} {a : Au} {q l : Nat} {f f' : Nat → Option Int} {v : Int} (h : TabSt cs n a q f) (hq : q < n) (hl : l < 6) (hf : ∀ k, k ≠ l → f' k = f k) (hv : f' l = some v) : TabSt (cs.setIfInBounds (q * 6 + l) (.int .i64 v)) n a q f' := by
  refine ⟨by simpa using h.size, fun p k hp hk => ?_, fun k u hk hu => ?_⟩
  · rw [Array.getElem?_setIfInBounds_ne (by omega)]
    exact h.rows p k hp hk
  · by_cases e : k = l
    · subst e
      rw [hv] at hu
      injection hu with hu
      subst hu
      rw [Array.getElem?_setIfInBounds_self_of_lt (by rw [h.size]; omega)]
    · rw [Array.getElem?_setIfInBounds_ne (by omega)]
      exact h.row k u hk (by rw [← hf k e]; exact hu)
theorem TabSt.over {cs : Array Value} {n : Nat} {a : Au} {q : Nat} (h : TabSt cs n a q (fun l => some (goK a q (letters a.al).length l))) (ht : tabOk a) (hq : q < a.nx.length) : TabSt cs n a (q + 1) (fun _ => none) := by
  refine ⟨h.size, fun p l hp hl => ?_, fun l v _ hv => by cases hv⟩
  by_cases e : p = q
  · subst e
    rw [h.row l _ hl rfl, goK_done ht hq]
  · exact h.rows p l (by omega) hl

theorem infoSix : (Tryz.prog.info? 105).map (fun i => (i.zero, i.size, i.bytes)) = some (some (.agg #[.int .i64 0, .int .i64 0, .int .i64 0, .int .i64 0, .int .i64 0, .int .i64 0]), 6, 48) := by kernel_rfl

set_option maxRecDepth 100000 in
set_option maxHeartbeats 8000000 in
theorem tableOf_any (a : Au) (A B : Option Addr) (c d : Nat) (w : World) (hn : a.nx.length ≤ 4096) (ht : tabOk a) (ha : AuAt w A c B d a) :
    Calls Tryz.prog 82 #[a.val A c B d] w fun e w' => ∃ g, e = .returned (.slice (some ⟨g, 0, none⟩) a.nx.length a.nx.length) ∧ TabA w' g a.nx.length a ∧ Below w.heap.size w w' := by
  obtain ⟨cl, cm, dl, dm, hrows, -⟩ := ha
  unfold AG.Au.val
  obtain ⟨i0, hi, hz0', hz1, hz2⟩ := info_parts infoSix
  have hmk := fun W => run_make_rowN (P := Tryz.prog) 103 105 i0 _ Tryz.underlying103 hi hz0' .i64 .i64 a.nx.length a.nx.length (Nat.le_refl _) (by rw [hz2]; omega) (by omega) W
  rw [hz1] at hmk
  obtain ⟨w0, hw0, hz0, hB0, hS⟩ := boxed w #[Value.int IntKind.i64 a.al, Value.slice A a.nx.length c, Value.slice B a.ac.length d] 41
  have hr0 := hid (hrows.later hB0)
  have p0 := hS 0 _ rfl _ (Below.refl _ _)
  have p1 := hS 1 _ rfl _ (Below.refl _ _)
  replace hrows := hid hrows
  replace ht := hid ht
  clear hz1 hz0' hz2 hi
  go_enter Tryz.func82, Tryz.ntmps82
  go_upto_region 2 with fail
  obtain ⟨w1, hw1⟩ : ∃ w1, w0.alloc (.cells (madeCells #[Value.int IntKind.i64 0, Value.int IntKind.i64 0, Value.int IntKind.i64 0, Value.int IntKind.i64 0, Value.int IntKind.i64 0, Value.int IntKind.i64 0] (a.nx.length * 6)) 105) = w1 := ⟨_, rfl⟩
  have hblk1 : Blk w1 w0.heap.size 105 (madeCells #[Value.int IntKind.i64 0, Value.int IntKind.i64 0, Value.int IntKind.i64 0, Value.int IntKind.i64 0, Value.int IntKind.i64 0, Value.int IntKind.i64 0] (a.nx.length * 6)) := by rw [← hw1]; exact Blk.new _ _ _
  have hB1 : Below w0.heap.size w0 w1 := by rw [← hw1]; exact (Below.refl _ _).alloc (Nat.le_refl _) _
  have hst0 : Hid (TabSt (madeCells #[Value.int IntKind.i64 0, Value.int IntKind.i64 0, Value.int IntKind.i64 0, Value.int IntKind.i64 0, Value.int IntKind.i64 0, Value.int IntKind.i64 0] (a.nx.length * 6)) a.nx.length a 0 fun _ => none) := hid ⟨size_madeCells _ _, fun p l h => by omega, fun l v _ hv => by cases hv⟩
  rw [hw1]
  generalize madeCells #[Value.int IntKind.i64 0, Value.int IntKind.i64 0, Value.int IntKind.i64 0, Value.int IntKind.i64 0, Value.int IntKind.i64 0, Value.int IntKind.i64 0] (a.nx.length * 6) = cs0 at *
  clear p0 p1 hw1 hmk
  have hz1 := hB1.size
  have p0 := hS 0 _ rfl _ (hB1.mono hz0)
  have p1 := hS 1 _ rfl _ (hB1.mono hz0)
  have hw01 := hblk1.lt
  replace hblk1 := hid hblk1
  go_wp2_with fail
  refine (lettersOf_any a.al w1).mono ?_
  rintro e w2 ⟨lv, rfl, hown2, hb2⟩
  obtain ⟨AL, cL, rfl, hcL, hcL'⟩ := own_slice hown2
  have hB2 : Below w0.heap.size w0 w2 := hB1.trans (hb2.mono hz1)
  have hblk2 := hid (hblk1.out.below hb2 hblk1.out.lt)
  have hz2 := hb2.size
  clear p0 p1
  have p0 := hS 0 _ rfl _ (hB2.mono hz0)
  have p1 := hS 1 _ rfl _ (hB2.mono hz0)
  have hr2 := hid (hr0.out.later hB2)
  have hnat := hid hown2
  have hL6 := lettersTo_len a.al 6
  obtain ⟨L, hL⟩ : ∃ L, Hid (L = letters a.al) := ⟨_, hid rfl⟩
  have hL6' : L.length ≤ 6 := by rw [hL.out]; exact hL6
  rw [← hL.out] at hcL hnat ⊢
  clear hown2 hL6
  go_wp2_with fail
  clear p0 p1
  go_loopw [20] (fun iv wr => ∃ (q : Nat) (cs : Array Value), iv = .int .i64 (q : Nat) ∧ q ≤ a.nx.length ∧ Blk wr w0.heap.size 105 cs ∧ TabSt cs a.nx.length a q (fun _ => none) ∧ KeepB (fun b => b = w0.heap.size) w2 wr) (fun iv _ => a.nx.length - (intOf iv).toNat)
  case atStart => exact ⟨0, cs0, rfl, by omega, hblk2.out, hst0.out, KeepB.refl _ _⟩
  case round =>
    obtain ⟨q, cs, rfl, hq, hblk, hst, hkp⟩ := hrel
    by_cases hlt : q < a.nx.length
    · have hBr : Below w0.heap.size w0 wr := KeepB.below hB2 hkp hB2.size fun b e => by omega
      obtain ⟨b, o, hA, hbB, hE⟩ := hr0.out (by omega)
      subst hA
      obtain ⟨Ai, ci, e0, h1, h2, h3⟩ := hE q hlt
      rw [← hBr.cell (by simpa using hbB)] at e0
      obtain ⟨r, hr⟩ : ∃ r, Hid (r = a.nx[q]) := ⟨_, hid rfl⟩
      rw [← hr.out] at e0 h1 h3
      have hrl : Hid (r.length = L.length) := hid (by rw [hr.out, hL.out]; exact (ht.out _ (List.getElem_mem hlt)).1)
      have k1 : (0 : Int) ≤ (q : Int) ∧ (q : Int) < (a.nx.length : Int) := by omega
      have h3' := hid h3
      have hst1 : Hid (TabSt cs a.nx.length a q fun l => if l < 0 then some (q : Int) else none) := hid ⟨hst.size, hst.rows, fun l v _ hv => by simp at hv⟩
      replace hE := hid hE
      replace hst := hid hst
      have hblk' := hid hblk
      have hkp' := hid hkp
      clear h3 hblk hkp
      go_wp2_with fail
      clear e0
      go_loopw [25] (fun jv wq => ∃ (l : Nat) (cs : Array Value), jv = .int .i64 (l : Nat) ∧ l ≤ 6 ∧ Blk wq w0.heap.size 105 cs ∧ TabSt cs a.nx.length a q (fun k => if k < l then some (q : Int) else none) ∧ KeepB (fun b => b = w0.heap.size) w2 wq) (fun jv _ => 6 - (intOf jv).toNat)
      case atStart => exact ⟨0, cs, rfl, by omega, hblk'.out, hst1.out, hkp'.out⟩
      case round =>
        clear hblk' hkp' hst hst1
        obtain ⟨l, cs, rfl, hl, hblk, hst, hkp⟩ := hrel
        have hsz := hst.size
        by_cases hl6 : l < 6
        · obtain ⟨v0, d0⟩ := hblk.some_ (i := q * 6 + l) (by omega)
          have z0 := hblk.frozen (q * 6 + l)
          have k2 : (0 : Int) ≤ (l : Int) ∧ (l : Int) < 6 := by omega
          have hst2 := hid (hst.set_ (l := l) (v := (q : Int)) (f' := fun k => if k < l + 1 then some (q : Int) else none) hlt hl6 (fun k hk => by
            by_cases h : k < l
            · rw [if_pos h, if_pos (by omega)]
            · rw [if_neg h, if_neg (by omega)]) (by rw [if_pos (by omega)]))
          have hb2' := hid (hblk.set_ (q * 6 + l) (.int .i64 (q : Nat)))
          have hk2 := hid (hkp.setCell ⟨w0.heap.size, q * 6 + l, none⟩ (.int .i64 (q : Nat)) fun _ => rfl)
          replace hst := hid hst
          replace hblk := hid hblk
          go_wp2
          go_roundw
          case rel => exact ⟨l + 1, _, by go_num, by omega, hb2'.out, hst2.out, hk2.out⟩
          case measure => simp [intOf]; omega
        · obtain rfl : l = 6 := by omega
          have hst1 : Hid (TabSt cs a.nx.length a q fun l => some (goK a q 0 l)) := hid ⟨hst.size, hst.rows, fun l v hl hv => hst.row l v hl (by rw [if_pos hl]; unfold goK at hv; simpa using hv)⟩
          replace hst := hid hst
          have hblk' := hid hblk
          have hkp' := hid hkp
          clear hblk hkp
          go_wp2_with fail
          go_loopw [37] (fun jv wq => ∃ (j : Nat) (cs : Array Value), jv = .int .i64 (j : Nat) ∧ j ≤ L.length ∧ Blk wq w0.heap.size 105 cs ∧ TabSt cs a.nx.length a q (fun k => some (goK a q j k)) ∧ KeepB (fun b => b = w0.heap.size) w2 wq) (fun jv _ => L.length - (intOf jv).toNat)
          case atStart => exact ⟨0, cs, rfl, by omega, hblk'.out, hst1.out, hkp'.out⟩
          case round =>
            clear hblk' hkp' hst hst1
            obtain ⟨j, cs, rfl, hj, hblk, hst, hkp⟩ := hrel
            have hsz := hst.size
            by_cases hjl : j < L.length
            · have hBq : Below w0.heap.size w0 wr := KeepB.below hB2 hkp hB2.size fun b e => by omega
              have hnr := own_keep hnat.out hkp (fun g hg e => by have := own_block hnat.out g hg; omega)
              obtain ⟨gL, capL, hve, -, hgL, -, -, hcL2⟩ := own_shape hnr (by omega)
              injection hve with e1 e2 e3
              subst e1
              subst e3
              clear e2
              have l0 := hcL2 j _ (show (L.map fun (n : Nat) => Value.int .i64 (n : Int))[j]? = some (.int .i64 (L[j] : Nat)) from by simp [hjl])
              obtain ⟨l, hl⟩ : ∃ l, Hid (l = L[j]) := ⟨_, hid rfl⟩
              rw [← hl.out] at l0
              have hl6 : l < 6 := (letters_lt (A := a.al) (by rw [← hL.out, hl.out]; exact List.getElem_mem _)).1
              obtain ⟨bi, oi, hAi, hbi, hci⟩ := h3'.out (by have := hrl.out; omega)
              subst hAi
              have hjr : j < r.length := by have := hrl.out; omega
              have r0 := hci j hjr
              obtain ⟨x, hx⟩ : ∃ x, Hid (x = r[j]) := ⟨_, hid rfl⟩
              rw [← hx.out, ← hBq.cell (by simpa using hbi)] at r0
              obtain ⟨v0, d0⟩ := hblk.some_ (i := q * 6 + l) (by omega)
              have z0 := hblk.frozen (q * 6 + l)
              have k2 : (0 : Int) ≤ (j : Int) ∧ (j : Int) < (L.length : Int) ∧ (j : Int) < (r.length : Int) := by omega
              have k3 : (0 : Int) ≤ (l : Int) ∧ (l : Int) < 6 := by omega
              have hst2 := hid (hst.set_ (l := l) (v := x) (f' := fun k => some (goK a q (j + 1) k)) hlt hl6 (fun k hk => by
                rw [goK_next (by rw [← hL.out]; exact hjl), if_neg (by
                  have := hl.out
                  simp only [hL.out] at this
                  rw [← this]; exact hk)]) (by
                rw [goK_next (by rw [← hL.out]; exact hjl), if_pos (by
                  have := hl.out
                  simp only [hL.out] at this
                  exact this)]
                rw [List.getD_eq_getElem?_getD (l := a.nx), List.getElem?_eq_getElem hlt]
                show some ((a.nx[q]).getD j 0) = some x
                rw [← hr.out, List.getD_eq_getElem?_getD, List.getElem?_eq_getElem hjr, hx.out]
                rfl))
              have hb2' := hid (hblk.set_ (q * 6 + l) (.int .i64 x))
              have hk2 := hid (hkp.setCell ⟨w0.heap.size, q * 6 + l, none⟩ (.int .i64 x) fun _ => rfl)
              replace hst := hid hst
              replace hblk := hid hblk
              replace hcL2 := hid hcL2
              replace hci := hid hci
              have y0 : ∀ x', (Fam wr.heap.size wr x').cell? ⟨bi, oi + j, none⟩ = some (.int .i64 x) := fun x' => by rw [(Fam.below wr.heap.size wr x').cell (by simp; have := hBq.size; omega)]; exact r0
              have hzq := hBq.size
              have hk3 : Hid (∀ w', Below wr.heap.size wr w' → KeepB (fun b => b = w0.heap.size) w2 w') := hid fun w' hb => hkp.trans (.of_below hb)
              have hblk3 : Hid (∀ w', Below wr.heap.size wr w' → Blk w' w0.heap.size 105 cs) := hid fun w' hb => hblk.out.below hb hblk.out.lt
              clear d0 z0 r0 hb2' hk2
              go_wp2_with fail
              refine wp_region_fam_tail wr.heap.size wr 9 (by kernel_rfl) (by kernel_rfl) (Below.refl _ _) ?_
              simp only [List.take_succ_cons, List.take_zero, List.drop_succ_cons, List.drop_zero]
              (repeat (go_big_quiet_step (fail)))
              refine wpQuiet_nil ?_
              intro w5 hw5
              replace hw5 := Fam.out hw5
              have hblk5 := hblk3.out w5 hw5
              obtain ⟨v5, d5⟩ := hblk5.some_ (i := q * 6 + l) (by omega)
              have z5 := hblk5.frozen (q * 6 + l)
              have hb2' := hid (hblk5.set_ (q * 6 + l) (.int .i64 x))
              have hk2 := hid ((hk3.out w5 hw5).setCell ⟨w0.heap.size, q * 6 + l, none⟩ (.int .i64 x) fun _ => rfl)
              replace hblk5 := hid hblk5
              clear y0
              go_wp2
              go_roundw
              case rel => exact ⟨j + 1, _, by go_num, by omega, hb2'.out, hst2.out, hk2.out⟩
              case measure => simp [intOf]; omega
            · obtain rfl : j = L.length := by omega
              have hst2 : Hid (TabSt cs a.nx.length a (q + 1) fun _ => none) := hid (TabSt.over (by have := hst; rw [hL.out] at this; exact this) ht.out hlt)
              replace hst := hid hst
              replace hblk := hid hblk
              go_wp2
              go_roundw
              case rel => exact ⟨q + 1, cs, by go_num, by omega, hblk.out, hst2.out, hkp⟩
              case measure => simp [intOf]; omega
    · obtain rfl : q = a.nx.length := by omega
      have htab : Hid (TabA wr w0.heap.size a.nx.length a) := hid ⟨hblk.lt, fun p l hp hl => by rw [hblk.cell]; exact hst.rows p l hp hl⟩
      have hBr : Below w.heap.size w wr := hB0.trans ((KeepB.below hB2 hkp hB2.size fun b e => by omega).mono hB0.size)
      replace hst := hid hst
      replace hblk := hid hblk
      go_wp2
      go_ret
      exact ⟨_, rfl, htab.out, hBr⟩

end Go.Proofs.YtdkjnemakkppfaaGreatDoor

/- Letters of words: the reference's l1At, the program's letterAt. -/
namespace Go.Proofs.YtdkjnemakkppfaaGreatDoor
open Go.RowKit Go.BigFrame AG

theorem byte_at (s : ByteArray) (i : Nat) (h : i < s.size) : ((s[i]'h).toNat : Int) = lz s i + 97 := by
  unfold lz
  have : s.data.getD i 0 = s[i]'h := by
    rw [Array.getD_eq_getD_getElem?, Array.getElem?_eq_getElem (by simpa using h)]
    rfl
  rw [this]
  omega

set_option maxHeartbeats 400000 in
theorem l1At_any (s : ByteArray) (i : Nat) (w : World) (h : i < s.size) :
    Calls Tryz.prog 152 #[.string s, .int .i64 i] w fun e w' => e = .returned (.int .i64 (lz s i)) ∧ w = w' := by
  have hb := byte_at s i h
  have hr := lz_range s i
  have h0 : (0 : Int) ≤ (i : Int) ∧ (i : Int) < (s.size : Int) := by omega
  go_enter Tryz.func152, Tryz.ntmps152
  go_wp2
  go_ret
  exact ⟨rfl, rfl⟩

set_option maxHeartbeats 400000 in
theorem letterAt_any (s : ByteArray) (i : Nat) (w : World) (h : i < s.size) :
    Calls Tryz.prog 100 #[.string s, .int .i64 i] w fun e w' => e = .returned (.int .i64 (ltr s i)) ∧ w = w' := by
  have hb := byte_at s i h
  have hr := lz_range s i
  have h0 : (0 : Int) ≤ (i : Int) ∧ (i : Int) < (s.size : Int) := by omega
  have hfin : Hid (ltr s i = if lz s i < 0 then -1 else if 6 ≤ lz s i then -1 else lz s i) := hid (by
    split
    · exact ltr_bad (by omega)
    · split
      · exact ltr_bad (by omega)
      · exact ltr_ok (by omega))
  by_cases hlo : lz s i < 0
  · go_enter Tryz.func100, Tryz.ntmps100
    go_wp2
    go_ret
    exact ⟨ret_int (by rw [hfin.out]; (repeat split) <;> first | rfl | omega), rfl⟩
  · by_cases hhi : 6 ≤ lz s i
    all_goals
      go_enter Tryz.func100, Tryz.ntmps100
      go_wp2
      go_ret
    · exact ⟨ret_int (by rw [hfin.out]; (repeat split) <;> first | rfl | omega), rfl⟩
    · exact ⟨ret_int (by rw [hfin.out]; (repeat split) <;> first | rfl | omega), rfl⟩

end Go.Proofs.YtdkjnemakkppfaaGreatDoor

/- Words: the reference's WordValid, AlphabetOf, WordWithin; the program's WordWithin. -/
namespace Go.Proofs.YtdkjnemakkppfaaGreatDoor
open Go.RowKit Go.BigFrame AG

set_option maxRecDepth 100000 in
set_option maxHeartbeats 1000000 in
theorem implWordWithin_any (s : ByteArray) (al : Int) (w : World) (hz : s.size ≤ 9223372036854775807) :
    Calls Tryz.prog 57 #[.string s, .int .i64 al] w fun e w' => e = .returned (.bool (within s al)) ∧ w = w' := by
  cases hal : alphaOk al
  · have hfin : Hid (within s al = false) := hid (by unfold within; exact decide_eq_false (fun h => by rw [hal] at h; cases h.1))
    replace hal := hid hal
    go_enter Tryz.func57, Tryz.ntmps57
    go_wp2_with (go_at_call 52; refine (isAlphabet_any al _).mono ?_; rintro e w' ⟨rfl, rfl⟩; rw [hal.out])
    go_ret
    exact ⟨ret_bool (by rw [hfin.out]), rfl⟩
  · have hal2 := hid hal
    replace hal := hid hal
    by_cases hs : s.size ≤ 50000
    · go_enter Tryz.func57, Tryz.ntmps57
      go_wp2_with (go_at_call 52; refine (isAlphabet_any al _).mono ?_; rintro e w' ⟨rfl, rfl⟩; rw [hal.out])
      go_loopw [16] (fun i wr => ∃ k : Nat, i = .int .i64 k ∧ k ≤ s.size ∧ (∀ j, j < k → HasZ al (ltr s j) = true) ∧ w = wr) (fun i _ => s.size - (intOf i).toNat)
      case atStart => exact ⟨0, rfl, by omega, fun j h => by omega, rfl⟩
      case round =>
        obtain ⟨k, rfl, hk, hall, rfl⟩ := hrel
        replace hall := hid hall
        by_cases hlt : k < s.size
        · have h63 : ltr s k ≤ 63 := by unfold ltr lOk; split; rename_i h; have := of_decide_eq_true h; omega; omega
          cases hh : HasZ al (ltr s k)
          · have hfin : Hid (within s al = false) := hid (by unfold within; exact decide_eq_false (fun h => by have := h.2.2 k hlt; rw [hh] at this; cases this))
            replace hh := hid hh
            go_wp2_with (first
              | (go_at_call 100; refine (letterAt_any s k _ hlt).mono ?_; rintro e w' ⟨rfl, rfl⟩)
              | (go_at_call 73; refine (has_any al _ _ h63).mono ?_; rintro e w' ⟨rfl, rfl⟩; rw [hh.out]))
            go_ret
            exact ⟨ret_bool (by rw [hfin.out]), rfl⟩
          · replace hh := hid hh
            go_wp2_with (first
              | (go_at_call 100; refine (letterAt_any s k _ hlt).mono ?_; rintro e w' ⟨rfl, rfl⟩)
              | (go_at_call 73; refine (has_any al _ _ h63).mono ?_; rintro e w' ⟨rfl, rfl⟩; rw [hh.out]))
            go_roundw
            case rel => exact ⟨k + 1, by go_num, by omega, fun j hj => by by_cases e : j = k; exact e ▸ hh.out; exact hall.out j (by omega), by first | trivial | rfl⟩
            case measure => simp [intOf]; omega
        · go_wp2
          go_ret
          exact ⟨ret_bool (by unfold within; exact (decide_eq_true ⟨hal2.out, hs, fun i hi => hall.out i (by omega)⟩).symm), rfl⟩
    · have hfin : Hid (within s al = false) := hid (by unfold within; exact decide_eq_false (fun h => hs h.2.1))
      go_enter Tryz.func57, Tryz.ntmps57
      go_wp2_with (go_at_call 52; refine (isAlphabet_any al _).mono ?_; rintro e w' ⟨rfl, rfl⟩; rw [hal.out])
      go_ret
      exact ⟨ret_bool (by rw [hfin.out]), rfl⟩

end Go.Proofs.YtdkjnemakkppfaaGreatDoor

/- The program's StateAfter and AcceptsWord. -/
namespace AG

end AG
namespace Go.Proofs.YtdkjnemakkppfaaGreatDoor
open Go.RowKit Go.BigFrame AG

theorem goA_lt {a : Au} (h : auOk a = true) {q l : Nat} (hq : q < a.nx.length) : goA a q l < a.nx.length := by
  unfold goA
  split
  · rename_i hl
    have hr := ((auOk_iff a).1 h).2.2.2.2 a.nx[q] (List.getElem_mem _)
    have hg : a.nx.getD q [] = a.nx[q] := by rw [List.getD_eq_getElem?_getD, List.getElem?_eq_getElem hq]; rfl
    have hk : (letters a.al).idxOf l < (a.nx[q]).length := by rw [hr.1]; exact List.idxOf_lt_length_iff.2 hl
    have : (a.nx[q]).getD ((letters a.al).idxOf l) 0 = (a.nx[q])[(letters a.al).idxOf l] := by rw [List.getD_eq_getElem?_getD, List.getElem?_eq_getElem hk]; rfl
    rw [hg, this]
    have := hr.2 _ (List.getElem_mem hk)
    omega
  · exact hq
end Go.Proofs.YtdkjnemakkppfaaGreatDoor

/- Plain: words that the automaton of a projection accepts. -/
namespace Go.Proofs.YtdkjnemakkppfaaGreatDoor
open AG

theorem prK_true {s : Sy} {al : Int} (h : prK s al = true) : prOk s al = true ∧ ∃ x, prNum s al = some x ∧ prA s al = prAu al x := by
  cases hk : prOk s al with
  | false => rw [(prA_bad hk).2] at h; cases h
  | true =>
    cases hn : prNum s al with
    | none => rw [(prA_none hn).2] at h; cases h
    | some x => exact ⟨rfl, x, rfl, (prA_some hk hn).1⟩
theorem prA_al {s : Sy} {al : Int} (h : prK s al = true) : (prA s al).al = al := by
  obtain ⟨_, x, _, e⟩ := prK_true h
  rw [e]
  rfl
theorem auOk_prA {s : Sy} {al : Int} (h : prK s al = true) : auOk (prA s al) = true := by
  obtain ⟨hk, x, hn, e⟩ := prK_true h
  rw [e]
  exact auOk_pr (prOk_parts hk).2.1 hn
/-- A word over an alphabet, as a list of letters. -/
theorem word_ex {x : ByteArray} {A : Int} (h : within x A = true) : ∃ r, x = wordS r ∧ (∀ l ∈ r, l ∈ letters A) ∧ r.length ≤ 50000 := by
  obtain ⟨hA, hsz, hall⟩ := (within_list x A).1 h
  have hb : ∀ b ∈ x.data.toList, ∃ l, l ∈ letters A ∧ letB l = b := fun b hb => by
    have h1 := hall b hb
    unfold pk HasZ bl at h1
    simp only [Bool.and_eq_true, decide_eq_true_eq] at h1
    by_cases ho : lOk ((b.toNat : Int) - 97) = true
    · rw [if_pos ho] at h1
      have ho' := ho
      unfold lOk at ho'
      simp only [decide_eq_true_eq] at ho'
      refine ⟨((b.toNat : Int) - 97).toNat, letters_ok.2 ⟨by omega, h1.2⟩, ?_⟩
      unfold letB
      have : 97 + ((b.toNat : Int) - 97).toNat = b.toNat := by omega
      first
        | (rw [this]; exact UInt8.ofNat_toNat)
        | (rw [Nat.add_comm, this]; exact UInt8.ofNat_toNat)
    · rw [if_neg ho] at h1
      omega
  have key : ∀ bs : List UInt8, (∀ b ∈ bs, ∃ l, l ∈ letters A ∧ letB l = b) → ∃ r : List Nat, r.map letB = bs ∧ ∀ l ∈ r, l ∈ letters A := by
    intro bs
    induction bs with
    | nil => intro _; exact ⟨[], rfl, fun l h => (by cases h)⟩
    | cons b bs ih =>
      intro h
      obtain ⟨l, hl, e⟩ := h b List.mem_cons_self
      obtain ⟨r, hr, hm⟩ := ih fun c hc => h c (List.mem_cons_of_mem _ hc)
      refine ⟨l :: r, by rw [List.map_cons, e, hr], fun y hy => ?_⟩
      rcases List.mem_cons.1 hy with rfl | hy
      · exact hl
      · exact hm y hy
  obtain ⟨r, hr, hm⟩ := key _ hb
  refine ⟨r.reverse, word_ext ?_, fun l hl => hm l (List.mem_reverse.1 hl), ?_⟩
  · rw [wordS_list, List.reverse_reverse, hr]
  · have := congrArg List.length hr
    rw [List.length_map, size_list] at this
    rw [List.length_reverse]
    omega

/-- What a word leads to is among what its projection leads to. -/
theorem prW_sub {s : Sy} {al : Int} (hk : prOk s al = true) : ∀ r : List Nat, (∀ l ∈ r, l ∈ letters s.al) → ∀ q, (setW s r).testBit q = true → (prW s al (r.filter fun l => decide (l ∈ letters al))).testBit q = true
  | [], _, q, h => by
    unfold prW
    show (reachSet s (hidA s.al al) 1).testBit q = true
    unfold reachSet
    rw [bitsOf_testBit]
    exact ⟨by have := testBit_lt (n := 16) (show (1 : Nat) < 2 ^ 16 by omega) h; exact this, Rch.start h⟩
  | l :: r, hr, q, h => by
    have ih := prW_sub hk r fun x hx => hr x (List.mem_cons_of_mem _ hx)
    obtain ⟨hs, hal, han⟩ := prOk_parts hk
    have hin := sysOk_in hs
    have hq : (stepSet s (setW s r) (l : Int)).testBit q = true := h
    unfold stepSet at hq
    rw [bitsOf_testBit] at hq
    obtain ⟨hq16, e, he, e1, e2, e3⟩ := hq
    have hf := ih _ e2
    by_cases hl : l ∈ letters al
    · rw [List.filter_cons_of_pos (by simpa using hl)]
      show (reachSet s (hidA s.al al) (stepSet s (prW s al _) (l : Int))).testBit q = true
      unfold reachSet
      rw [bitsOf_testBit]
      refine ⟨hq16, Rch.start ?_⟩
      unfold stepSet
      rw [bitsOf_testBit]
      exact ⟨hq16, e, he, e1, hf, e3⟩
    · rw [List.filter_cons_of_neg (by simpa using hl)]
      have hlet := letters_ok.1 (hr l List.mem_cons_self)
      have hel : e.l.toNat = l := by omega
      have hh : Has (hidA s.al al) e.l.toNat = true := by
        rw [Has_hid (sysOk_alpha hs) hal (by omega), hel, hlet.2]
        have : Has al l = false := by
          rw [← Bool.not_eq_true]
          exact fun h => hl (letters_ok.2 ⟨hlet.1, h⟩)
        rw [this]
        rfl
      have hform : ∃ X, prW s al (r.filter fun l => decide (l ∈ letters al)) = reachSet s (hidA s.al al) X := by
        cases r.filter fun l => decide (l ∈ letters al) with
        | nil => exact ⟨_, rfl⟩
        | cons a b => exact ⟨_, rfl⟩
      obtain ⟨X, hX⟩ := hform
      rw [hX] at hf ⊢
      unfold reachSet at hf ⊢
      rw [bitsOf_testBit] at hf ⊢
      refine ⟨hq16, ?_⟩
      rw [← e3]
      exact Rch.step he hh hf.2
theorem restr_wordS {r : List Nat} (h : ∀ l ∈ r, l < 6) (al : Int) : restr (wordS r) al = wordS (r.filter fun l => decide (l ∈ letters al)) := by
  refine word_ext ?_
  rw [restr_list, wordS_list, wordS_list, List.filter_map, ← List.filter_reverse]
  congr 1
  refine List.filter_congr fun l hl => ?_
  have h6 := h l (List.mem_reverse.1 hl)
  show pk al (letB l) = _
  unfold pk HasZ
  rw [bl_letB h6, Bool.eq_iff_iff]
  simp only [Bool.and_eq_true, decide_eq_true_eq, Int.toNat_natCast]
  rw [letters_ok]
  constructor
  · rintro ⟨_, h⟩; exact ⟨h6, h⟩
  · rintro ⟨_, h⟩; exact ⟨by omega, h⟩
end Go.Proofs.YtdkjnemakkppfaaGreatDoor

/- Plain: how many words an automaton accepts. -/
namespace Go.Proofs.YtdkjnemakkppfaaGreatDoor
open AG

theorem runA_lt {a : Au} (h : auOk a = true) : ∀ r : List Nat, runA a 0 r < a.nx.length
  | [] => by have := ((auOk_iff a).1 h).2.1; show 0 < _; omega
  | l :: r => goA_lt h (runA_lt h r)
end Go.Proofs.YtdkjnemakkppfaaGreatDoor

/- The program's search: firstPath. -/
namespace Go.Proofs.YtdkjnemakkppfaaGreatDoor
open Go.RowKit Go.BigFrame AG

/-- The steps of a search, as a function value: it appends to a list the nodes to which a letter leads. -/
structure NextOk (w : World) (size : Nat) (L : List Nat) (nx : Nat → Nat → List Nat) (fN : FuncId) (capN : Array Value) : Prop where
  run : ∀ args w', (callFunc fN args).run Tryz.prog w' = .ok (.enter fN args) w'
  lt : ∀ q, q < size → ∀ l ∈ L, ∀ n ∈ nx q l, n < size
  len : ∀ q, q < size → ∀ l ∈ L, (nx q l).length ≤ 4096
  call : ∀ w' (q l : Nat) (v : Value) (ns : List Nat) (base : Nat), Below w.heap.size w w' → q < size → l ∈ L → ns.length ≤ 4294967296 → w.heap.size ≤ base → base ≤ w'.heap.size → w'.ownsRow base 3 1 v ns.length (natVals ns) →
    Calls Tryz.prog fN (#[.int .i64 (q : Nat), .int .i64 (l : Nat), v] ++ capN) w' fun e w'' => ∃ v', e = .returned v' ∧ w''.ownsRow base 3 1 v' (ns ++ nx q l).length (natVals (ns ++ nx q l)) ∧ KeepB (fun b => v.ownBlock = some b) w' w''

theorem infoBoolF : (Tryz.prog.info? 4).map (fun i => (i.zero, i.size, i.bytes)) = some (some (.bool false), 1, 1) := by kernel_rfl

/-- The search in memory and as plain lists. -/
def SrchAt (w : World) (size : Nat) (G : Nat → Bool) (L : List Nat) (nx : Nat → Nat → List Nat) (I0 : List Nat) (gv : Value) (bS bG bP gS : Nat) (wr : World) (i k : Nat) (sv : Value) (ss : List StV) (ws : List (List Nat)) (S : Nat → Bool) : Prop :=
  FPst w wr size gv bS bG bP gS sv ss S ∧ SB (fun n => n ∈ I0) L nx G size (ss.map (·.st)) ws S i k

theorem PathOk.of {I : Nat → Prop} {L : List Nat} {nx : Nat → Nat → List Nat} {G : Nat → Prop} {ss : List StV} {ws : List (List Nat)} {i k : Nat} (h : Bfs I L nx G (ss.map (·.st)) ws i k) (hL6 : ∀ l ∈ L, l < 6) : PathOk ss ws := by
  refine ⟨by rw [h.len]; simp, h.zero, fun h0 => ?_, fun j hj hj' h0 => ?_⟩
  · have := h.root (by simpa using h0)
    simpa using this
  · obtain ⟨p, q, hpj, _, h1, hp, hq, h2, hw⟩ := h.link j (by simpa using hj) hj' h0
    simp only [List.getElem_map] at h1 h2
    exact ⟨p, hpj, h1, by rw [h2]; exact hL6 _ (List.getElem_mem _), hp, by rw [hw, h2]⟩
theorem PathOk.add {ss : List StV} {ws : List (List Nat)} (h : PathOk ss ws) {i l : Nat} (hi : i < ws.length) (hl : l < 6) (x : StV) (hx : x.st.par = (i : Int)) (hx' : x.st.let_ = l) : PathOk (ss ++ [x]) (ws ++ [l :: ws[i]]) := by
  have hlen := h.len
  have hpos : 0 < ws.length := by omega
  refine ⟨by simp [hlen], fun h0 => ?_, fun h0 => ?_, fun j hj hj' h0 => ?_⟩
  · rw [List.getElem_append_left hpos]; exact h.zero hpos
  · rw [List.getElem_append_left (by omega)]; exact h.root (by omega)
  · by_cases e : j < ws.length
    · obtain ⟨p, hpj, h1, h2, hp, hw⟩ := h.link j (by omega) e h0
      refine ⟨p, hpj, ?_, ?_, by simp; omega, ?_⟩
      · rw [List.getElem_append_left (by omega)]; exact h1
      · rw [List.getElem_append_left (by omega)]; exact h2
      · rw [List.getElem_append_left e, List.getElem_append_left hp, List.getElem_append_left (by omega)]; exact hw
    · obtain rfl : j = ws.length := by simp at hj'; omega
      refine ⟨i, hi, ?_, ?_, by simp; omega, ?_⟩
      · simp [hlen, hx]
      · simp [hlen, hx', hl]
      · rw [List.getElem_append_left hi]
        simp [hlen, hx']

theorem FPst.later {w w1 w2 : World} {size : Nat} {gv : Value} {bS bG bP gS : Nat} {sv : Value} {ss : List StV} {S : Nat → Bool} (h : FPst w w1 size gv bS bG bP gS sv ss S) (hb : Below w1.heap.size w1 w2) : FPst w w2 size gv bS bG bP gS sv ss S := by
  obtain ⟨cs, hc, hs⟩ := h.seen
  have hk : KeepB (fun b => b = gS) w1 w2 := .of_below hb
  exact h.keep hk (hc.below hb hc.lt) hs

theorem reachedL_len {nx : Nat → Nat → List Nat} {l size : Nat} : ∀ {ns : List Nat}, (∀ q ∈ ns, (nx q l).length ≤ 4096) → (reachedL nx l ns).length ≤ ns.length * 4096
  | [], _ => by simp [reachedL]
  | q :: ns, h => by
    have h1 := h q List.mem_cons_self
    have h2 := reachedL_len (size := size) (ns := ns) fun x hx => h x (List.mem_cons_of_mem _ hx)
    unfold reachedL at h2 ⊢
    rw [List.flatMap_cons, List.length_append, List.length_cons]
    omega

/-- What the search hands back: the first word to a goal, or none. -/
def PathPost (I : Nat → Prop) (L : List Nat) (nx : Nat → Nat → List Nat) (G : Nat → Prop) (o : Option (List Nat)) : Prop :=
  match o with
  | some r => FirstW I L nx G r
  | none => ∀ q n, RW I L nx q n → ¬ G n
def pathV (o : Option (List Nat)) : Value := .tuple #[.string (match o with | some r => wordS r | none => ⟨#[]⟩), .bool o.isSome]

theorem seen_start (size : Nat) : SeenAt (madeCells #[.bool false] size) size (fun _ => false) := by
  refine ⟨by simp [madeCells], fun n hn => ?_⟩
  have h1 := toList_madeCells_one (Value.bool false) size
  rw [← Array.getElem?_toList, h1, List.getElem?_replicate, if_pos hn]

theorem fp_start (w : World) (size : Nat) (gv : Value) :
    ∃ w4, (((w.alloc (Obj.cells #[gv] 79)).alloc (Obj.cells (madeCells #[Value.bool false] size) 4)).alloc (Obj.cells #[Value.slice (some ⟨w.heap.size + 1, 0, none⟩) size size] 39)).alloc (Obj.cells #[Value.slice none 0 0] 134) = w4 ∧
      Below w.heap.size w w4 ∧ FPst w w4 size gv (w.heap.size + 1 + 1) w.heap.size (w.heap.size + 1 + 1 + 1) (w.heap.size + 1) (.slice none 0 0) [] (fun _ => false) := by
  refine ⟨_, rfl, by (repeat (first | exact Below.refl _ _ | assumption | refine Below.drew ?_ | refine Below.alloc ?_ (by first | omega | (simp; done) | (simp; omega)) _ | refine Below.setCell ?_ (by first | omega | (simp; done) | (simp; omega)) _)), by (repeat (first | exact Below.refl _ _ | assumption | refine Below.drew ?_ | refine Below.alloc ?_ (by first | omega | (simp; done) | (simp; omega)) _ | refine Below.setCell ?_ (by first | omega | (simp; done) | (simp; omega)) _)), ?_, ?_, ?_, ⟨_, ?_, seen_start size⟩, by omega, by omega, World.ownsRow_nil _ _ _ _, fun x hx => by cases hx⟩
  · have := (Blk.new ((w.alloc (Obj.cells #[gv] 79)).alloc (Obj.cells (madeCells #[Value.bool false] size) 4)) 39 #[Value.slice (some ⟨w.heap.size + 1, 0, none⟩) size size]).alloc (Obj.cells #[Value.slice none 0 0] 134)
    simpa using this
  · exact ((Blk.new w 79 #[gv]).alloc _).alloc _ |>.alloc _
  · have := Blk.new (((w.alloc (Obj.cells #[gv] 79)).alloc (Obj.cells (madeCells #[Value.bool false] size) 4)).alloc (Obj.cells #[Value.slice (some ⟨w.heap.size + 1, 0, none⟩) size size] 39)) 134 #[Value.slice none 0 0]
    simpa using this
  · have := ((Blk.new (w.alloc (Obj.cells #[gv] 79)) 4 (madeCells #[Value.bool false] size)).alloc (Obj.cells #[Value.slice (some ⟨w.heap.size + 1, 0, none⟩) size size] 39)).alloc (Obj.cells #[Value.slice none 0 0] 134)
    simpa using this

set_option maxRecDepth 100000 in
set_option maxHeartbeats 8000000 in
theorem firstPath_any (w : World) (size : Nat) (G : Nat → Bool) (fG : FuncId) (capG : Array Value) (hG : GoalOk w size G fG capG) (L : List Nat) (hL : L.Pairwise (· < ·)) (hL6 : ∀ l ∈ L, l < 6) (nx : Nat → Nat → List Nat) (fN : FuncId) (capN : Array Value) (hN : NextOk w size L nx fN capN)
    (I0 : List Nat) (h0 : I0 ≠ []) (hI : ∀ n ∈ I0, n < size) (hIl : I0.length ≤ 4294967296) (sv lv : Value) (hsv : w.ownsRow 0 3 1 sv I0.length (natVals I0)) (hlv : w.ownsRow 0 3 1 lv L.length (natVals L)) (hsz : size ≤ 1048576) :
    Calls Tryz.prog 79 #[.int .i64 (size : Nat), sv, lv, .func (.func fN) #[] capN, .func (.func fG) #[] capG] w fun e w' => ∃ o, e = .returned (pathV o) ∧ PathPost (fun n => n ∈ I0) L nx (fun n => G n = true) o ∧ Below w.heap.size w w' := by
  obtain ⟨i0, hi, hz0, hz1, hz2⟩ := info_parts infoBoolF
  have hmk := fun W => run_make_rowN (P := Tryz.prog) 39 4 i0 _ Tryz.underlying39 hi hz0 .i64 .i64 size size (Nat.le_refl _) (by rw [hz2]; omega) (by omega) W
  obtain ⟨lA, lc, rfl, hlc, hlc'⟩ := own_slice hlv
  have hLlen : L.length ≤ 6 := by
    have := nodup_bound 6 L (hL.imp fun h => Nat.ne_of_lt h) hL6
    exact this
  replace hsv := hid hsv
  replace hlv := hid hlv
  replace hI := hid hI
  go_enter Tryz.func79, Tryz.ntmps79
  go_wp2_with fail
  obtain ⟨w4, hw4, hb4, hst4⟩ := fp_start w size (.func (.func fG) #[] capG)
  rw [hw4]
  have hz4 : w.heap.size + 1 + 1 + 1 < w4.heap.size := by rw [← hw4]; simp
  clear hw4 hmk
  generalize hbS : w.heap.size + 1 + 1 = bS at *
  generalize hbP : bS + 1 = bP at *
  generalize hgS : w.heap.size + 1 = gS at *
  replace hbS := hid hbS
  replace hbP := hid hbP
  replace hgS := hid hgS
  clear hz4
  have hz4 := hb4.size
  have hsv4 := hid (own_keep hsv.out (.of_below (K := fun _ => False) hb4) fun _ _ h => h)
  replace hst4 := hid hst4
  refine (visit_any w size G fG capG hG bS w.heap.size bP gS (.slice none 0 0) [] (fun _ => false) (-1) 0 sv I0 w4 hst4.out hsv4.out hI.out hIl (by simp)).mono ?_
  rintro e w5 ⟨rfl, sv5, ss5, hst5, hss5, hkp5⟩
  have hb5 : Below w.heap.size w w5 := hst5.below
  obtain ⟨fr0, hfr0⟩ : ∃ fr, fr = frs (fun _ => false) I0 := ⟨_, rfl⟩
  rw [← hfr0] at hst5 hss5 ⊢
  have hf0ne : fr0 ≠ [] := by
    intro e
    obtain ⟨a, ha⟩ := List.exists_mem_of_ne_nil _ h0
    have := (frs_mem (fun _ => false) I0 a).2 ⟨ha, rfl⟩
    rw [← hfr0, e] at this
    cases this
  cases hg0 : fr0.any G
  · obtain ⟨A0, c0, rfl⟩ : ∃ A c, ss5 = [⟨⟨-1, 0, fr0⟩, A, c⟩] := by
      rcases hss5 with ⟨e, _⟩ | ⟨_, A, c, e⟩
      · exact absurd e hf0ne
      · exact ⟨A, c, by simpa using e⟩
    have hSB0 : Hid (SB (fun n => n ∈ I0) L nx G size [⟨-1, 0, fr0⟩] [[]] (fun n => fr0.contains n) 0 0) := hid (by
      rw [hfr0]
      exact SB.begin h0 hI.out (by rw [← hfr0]; exact hg0))
    have hst5' : Hid (FPst w w5 size (.func (.func fG) #[] capG) bS w.heap.size bP gS sv5 [⟨⟨-1, 0, fr0⟩, A0, c0⟩] (fun n => fr0.contains n)) := hid (by simpa using hst5)
    replace hfr0 := hid hfr0
    replace hss5 := hid hss5
    replace hst5 := hid hst5
    replace hf0ne := hid hf0ne
    replace h0 := hid h0
    replace hg0 := hid hg0
    replace hkp5 := hid hkp5
    go_wp2_with (rw [hg0.out])
    go_loopw [15] (fun iv wr => ∃ (i : Nat) (sv : Value) (ss : List StV) (ws : List (List Nat)) (S : Nat → Bool), iv = .int .i64 i ∧ i ≤ ss.length ∧ SrchAt w size G L nx I0 (.func (.func fG) #[] capG) bS w.heap.size bP gS wr i 0 sv ss ws S) (fun iv _ => size + 1 - (intOf iv).toNat)
    case atStart => exact ⟨0, sv5, _, _, _, rfl, by simp, hst5'.out, hSB0.out⟩
    case round =>
      obtain ⟨i, sv, ss, ws, S, rfl, hi, hst, hSB⟩ := hrel
      have hbd := hSB.bound
      have hpos := hSB.bfs.pos
      have hwl := hSB.bfs.len
      simp only [List.length_map] at hbd hpos hwl
      have p0 := hst.blkP.cell 0
      simp only [List.getElem?_toArray, List.getElem?_cons_zero] at p0
      obtain ⟨gv, cv, rfl, hgv, hgv', hcv, hcv', hcell⟩ := own_steps hst.own hpos
      replace hst := hid hst
      replace hSB := hid hSB
      replace hcell := hid hcell
      by_cases hlt : i < ss.length
      · go_wp2_with fail
        go_loopw [35] (fun kv wr => ∃ (k : Nat) (sv : Value) (ss : List StV) (ws : List (List Nat)) (S : Nat → Bool), kv = .int .i64 k ∧ k ≤ L.length ∧ i < ss.length ∧ SrchAt w size G L nx I0 (.func (.func fG) #[] capG) bS w.heap.size bP gS wr i k sv ss ws S) (fun kv _ => L.length - (intOf kv).toNat)
        case atStart => exact ⟨0, _, _, _, _, rfl, by omega, hlt, hst.out, hSB.out⟩
        case round =>
          clear hcell hst hSB p0 hgv hgv' hcv hcv' hbd hpos hwl
          obtain ⟨k, sv, ss, ws, S, rfl, hk, hi', hst, hSB⟩ := hrel
          have hbd := hSB.bound
          have hpos := hSB.bfs.pos
          have hwl := hSB.bfs.len
          simp only [List.length_map] at hbd hpos hwl
          by_cases hkl : k < L.length
          · have hlw := own_keep hlv.out (.of_below (K := fun _ => False) hst.below) fun _ _ h => h
            obtain ⟨gl, cl, hve, -, -, -, -, hlcell⟩ := own_shape hlw (by omega)
            injection hve with hv1 hv2 hv3
            subst hv1
            subst hv3
            have l0 := hlcell k _ (show (natVals L)[k]? = some (.int .i64 (L[k] : Nat)) from by unfold natVals; simp [hkl])
            have hlL : L[k] ∈ L := List.getElem_mem hkl
            obtain ⟨l, hll⟩ : ∃ l, l = L[k] := ⟨_, rfl⟩
            rw [← hll] at l0 hlL
            have p0 := hst.blkP.cell 0
            simp only [List.getElem?_toArray, List.getElem?_cons_zero] at p0
            obtain ⟨gv, cv, rfl, hgv, hgv', hcv, hcv', hcell⟩ := own_steps hst.own hpos
            obtain ⟨-, -, c2⟩ := hcell i hi'
            have hnodes := hst.nodes ss[i] (List.getElem_mem hi')
            have hnsz : ss[i].st.nodes.length ≤ size := hSB.nodesLen (x := ss[i].st) (List.mem_map.2 ⟨_, List.getElem_mem hi', rfl⟩)
            have hnlt : ∀ n ∈ ss[i].st.nodes, n < size := hSB.small ss[i].st (List.mem_map.2 ⟨_, List.getElem_mem hi', rfl⟩)
            obtain ⟨ns, hnse⟩ : ∃ ns, ns = ss[i].st.nodes := ⟨_, rfl⟩
            obtain ⟨nA, hnA⟩ : ∃ nA, nA = ss[i].A := ⟨_, rfl⟩
            obtain ⟨nc, hnc⟩ : ∃ nc, nc = ss[i].c := ⟨_, rfl⟩
            rw [← hnse, ← hnA, ← hnc] at c2 hnodes
            rw [← hnse] at hnsz hnlt
            replace hll := hid hll
            replace hnse := hid hnse
            replace hnA := hid hnA
            replace hnc := hid hnc
            replace hst := hid hst
            replace hSB := hid hSB
            replace hcell := hid hcell
            replace hlcell := hid hlcell
            replace hlw := hid hlw
            replace hnodes := hid hnodes
            replace hnlt := hid hnlt
            have i1 : (0 : Int) ≤ (i : Int) := by omega
            have i2 : (i : Int) < (ss.length : Int) := by omega
            have hrun := hN.run
            obtain ⟨wo, rfl⟩ : ∃ wo : World, wo = wr := ⟨_, rfl⟩
            go_wp2_with fail
            go_loopw [18, 45] (fun rv jv wr2 => ∃ j : Nat, jv = .int .i64 j ∧ j ≤ ns.length ∧ wr2.ownsRow wo.heap.size 3 1 rv (reachedL nx l (ns.take j)).length (natVals (reachedL nx l (ns.take j))) ∧ Below wo.heap.size wo wr2) (fun _ jv _ => ns.length - (intOf jv).toNat)
            case atStart => exact ⟨0, rfl, by omega, World.ownsRow_nil _ _ _ _, Below.refl _ _⟩
            case round =>
              obtain ⟨j, rfl, hj, hown, hbo⟩ := hrel
              by_cases hjl : j < ns.length
              · have hnr := own_keep hnodes.out (.of_below (K := fun _ => False) hbo) fun _ _ h => h
                obtain ⟨gn, cn, hve, -, -, -, -, hncell⟩ := own_shape hnr (by omega)
                injection hve with hv1 hv2 hv3
                subst hv1
                subst hv3
                have n0 := hncell j _ (show (natVals ns)[j]? = some (.int .i64 (ns[j] : Nat)) from by unfold natVals; simp [hjl])
                have hql := hnlt.out ns[j] (List.getElem_mem hjl)
                have htk := reachedL_snoc (nx := nx) l (ns.take j) ns[j]
                rw [← List.take_succ_eq_append_getElem hjl] at htk
                obtain ⟨q, hq⟩ : ∃ q, q = ns[j] := ⟨_, rfl⟩
                rw [← hq] at n0 hql htk
                have hrl : (reachedL nx l (ns.take j)).length ≤ 4294967296 := by
                  refine Nat.le_trans (reachedL_len (size := size) fun x hx => hN.len x (hnlt.out x (List.mem_of_mem_take hx)) l hlL) ?_
                  have : (ns.take j).length ≤ 1048576 := by simp; omega
                  omega
                have hbw := hst.out.below.trans (hbo.mono hst.out.below.size)
                have hz1 := hst.out.below.size
                have hz2 := hbo.size
                replace hnr := hid hnr
                replace hncell := hid hncell
                replace hq := hid hq
                replace htk := hid htk
                replace hown := hid hown
                replace hrl := hid hrl
                go_wp2_with fail
                refine (hN.call _ q l _ _ wo.heap.size hbw hql hlL hrl.out hz1 hz2 hown.out).mono ?_
                rintro e w6 ⟨v6, rfl, hown6, hkp6⟩
                have hb6 : Hid (Below wo.heap.size wo w6) := hid (hkp6.below hbo hz2 fun b hb => own_block hown.out b hb)
                replace hown6 := hid hown6
                replace hkp6 := hid hkp6
                go_wp2_with fail
                go_roundw
                case rel => exact ⟨j + 1, by go_num, by omega, by rw [htk.out]; exact hown6.out, hb6.out⟩
                case measure => simp [intOf]; omega
              · have htk : ns.take j = ns := List.take_of_length_le (by omega)
                rw [htk] at hown
                have hbw := hst.out.below.trans (hbo.mono hst.out.below.size)
                have hst2 := hid (hst.out.later hbo)
                obtain ⟨R, hR⟩ : ∃ R, R = reachedL nx l ns := ⟨_, rfl⟩
                rw [← hR] at hown
                have hRl : R.length ≤ 4294967296 := by
                  rw [hR]
                  refine Nat.le_trans (reachedL_len (size := size) fun x hx => hN.len x (hnlt.out x hx) l hlL) ?_
                  omega
                have hRs : Hid (∀ n ∈ R, n < size) := hid fun n hn => by
                  rw [hR] at hn
                  obtain ⟨q, hq, hnq⟩ := reachedL_mem.1 hn
                  exact hN.lt q (hnlt.out q hq) l hlL n hnq
                replace htk := hid htk
                replace hR := hid hR
                have hown0 := hid (own_base hown (Nat.zero_le _))
                replace hown := hid hown
                go_wp2_with fail
                refine (visit_any w size G fG capG hG bS w.heap.size bP gS _ ss S (i : Int) l _ R wr hst2.out hown0.out hRs.out hRl (by omega)).mono ?_
                rintro e w7 ⟨rfl, sv7, ss7, hst7, hss7, hkp7⟩
                have hwi : i < ws.length := by omega
                obtain ⟨fr, hfr⟩ : ∃ fr, fr = frs S R := ⟨_, rfl⟩
                rw [← hfr] at hst7 hss7 ⊢
                have hil : i < (ss.map (fun x : StV => x.st)).length := by simpa using hi'
                have hfr' : Hid (fr = frs S (reachedL nx (L[k]'hkl) ((ss.map (fun x : StV => x.st))[i]'hil).nodes)) := hid (by
                  rw [hfr, hR.out, hnse.out, hll.out, List.getElem_map])
                replace hil := hid hil
                replace hfr := hid hfr
                replace hkp7 := hid hkp7
                cases hg : fr.any G
                · have hnx : Hid (∃ ws' , SrchAt w size G L nx I0 (.func (.func fG) #[] capG) bS w.heap.size bP gS w7 i (k + 1) sv7 ss7 ws' (fun n => S n || fr.contains n) ∧ i < ss7.length) := hid (by
                    rcases hss7 with ⟨e, rfl⟩ | ⟨hne, A7, c7, rfl⟩
                    · refine ⟨ws, ⟨hst7, ?_⟩, hi'⟩
                      have := hSB.out.old hL hil.out hkl (by rw [← hfr'.out]; exact e)
                      have hS : (fun n => S n || fr.contains n) = S := by funext n; rw [e]; simp
                      rw [hS]
                      exact this
                    · have := hSB.out.add hL hil.out hwi hkl (fun q hq n hn => hN.lt q hq _ (List.getElem_mem hkl) n hn) hfr'.out hne hg
                      refine ⟨ws ++ [l :: ws[i]], ⟨hst7, ?_⟩, by simp; omega⟩
                      rw [List.map_append, hll.out]
                      exact this)
                  replace hst7 := hid hst7
                  replace hss7 := hid hss7
                  replace hg := hid hg
                  go_wp2_with (rw [hg.out])
                  go_roundw
                  case rel =>
                    obtain ⟨ws', h1, h2⟩ := hnx.out
                    exact ⟨k + 1, sv7, ss7, ws', _, by go_num, by omega, h2, h1⟩
                  case measure => simp [intOf]; omega
                · have hF := hid (hSB.out.found hL hil.out hwi hkl (by rw [← hfr'.out]; exact hg))
                  obtain ⟨A7, c7, rfl⟩ : ∃ A c, ss7 = ss ++ [⟨⟨i, l, fr⟩, A, c⟩] := by
                    rcases hss7 with ⟨e, _⟩ | ⟨_, A, c, e⟩
                    · rw [e] at hg; cases hg
                    · exact ⟨A, c, e⟩
                  have hpath := hid (PathOk.add (PathOk.of hSB.out.bfs hL6) hwi (hL6 l hlL) ⟨⟨i, l, fr⟩, A7, c7⟩ rfl rfl)
                  obtain ⟨n, hn⟩ : ∃ n, ss.length = n + 1 := ⟨ss.length - 1, by omega⟩
                  have p7 := hst7.blkP.cell 0
                  simp only [List.getElem?_toArray, List.getElem?_cons_zero] at p7
                  obtain ⟨g7, d7, rfl, hg7, hg7', hd7, hd7', hcell7⟩ := own_steps hst7.own (by simp)
                  have hb7 := hst7.below
                  have hlast : Hid ((ws ++ [l :: ws[i]])[n + 1]'(by simp; omega) = l :: ws[i]) := hid (by
                    have : n + 1 = ws.length := by omega
                    simp [this])
                  have hword : Hid (L[k] :: ws[i] = l :: ws[i]) := hid (by rw [hll.out])
                  replace hst7 := hid hst7
                  replace hss7 := hid hss7
                  replace hg := hid hg
                  have hn' := hid (show (ss ++ [(⟨⟨i, l, fr⟩, A7, c7⟩ : StV)]).length = n + 2 by simp; omega)
                  have hc7 := hid (show ∀ j (hj : j < (ss ++ [(⟨⟨i, l, fr⟩, A7, c7⟩ : StV)]).length), w7.cell? ⟨g7, j * 3, none⟩ = some (.int .i64 (ss ++ [(⟨⟨i, l, fr⟩, A7, c7⟩ : StV)])[j].st.par) ∧ w7.cell? ⟨g7, j * 3 + 1, none⟩ = some (.int .i64 ((ss ++ [(⟨⟨i, l, fr⟩, A7, c7⟩ : StV)])[j].st.let_ : Nat)) from fun j hj => ⟨(hcell7 j hj).1, (hcell7 j hj).2.1⟩)
                  have hls := hid (show (ss ++ [(⟨⟨i, l, fr⟩, A7, c7⟩ : StV)]).length ≤ 4294967296 by simp; omega)
                  have hwl' := hid (show n + 1 < (ws ++ [l :: ws[i]]).length by simp; omega)
                  replace hcell7 := hid hcell7
                  replace hn := hid hn
                  replace hd7 := hid hd7
                  go_wp2_with (rw [hg.out])
                  refine (pathWord_any (ss ++ [⟨⟨i, l, fr⟩, A7, c7⟩]) (ws ++ [l :: ws[i]]) g7 d7 n _ w7 hn'.out hn'.out hls.out hpath.out hwl'.out hd7.out hd7' hg7' hc7.out).mono ?_
                  rintro e w8 ⟨he, hb8⟩
                  rw [hlast.out] at he
                  subst he
                  have hb9 := hb7.trans (hb8.mono hb7.size)
                  go_wp2_with fail
                  go_ret2
                  exact ⟨some (l :: ws[i]), rfl, by rw [← hword.out]; exact hF.out, hb9⟩
          · have hov := hid (show SrchAt w size G L nx I0 (.func (.func fG) #[] capG) bS w.heap.size bP gS wr (i + 1) 0 sv ss ws S from ⟨hst, hSB.over (by omega)⟩)
            replace hst := hid hst
            replace hSB := hid hSB
            go_wp2_with fail
            go_roundw
            case rel => exact ⟨i + 1, sv, ss, ws, S, by go_num, by omega, hov.out⟩
            case measure => simp [intOf]; omega
      · have hN := hid (show ∀ q n, RW (fun n => n ∈ I0) L nx q n → ¬ G n = true from by
          have := hSB.out
          obtain rfl : i = (ss.map (·.st)).length := by simp; omega
          exact this.none)
        have hbf := hst.out.below
        go_wp2
        go_ret2
        exact ⟨none, rfl, hN.out, hbf⟩
  · have hfin := hid (first_now (L := L) (nx := nx) (G := G) (I0 := I0) (by rw [← hfr0]; exact hg0))
    replace hfr0 := hid hfr0
    replace hss5 := hid hss5
    replace hst5 := hid hst5
    replace hf0ne := hid hf0ne
    replace h0 := hid h0
    replace hkp5 := hid hkp5
    go_wp2_with fail
    go_ret2
    exact ⟨some [], rfl, hfin.out, hb5⟩

end Go.Proofs.YtdkjnemakkppfaaGreatDoor

/- Plain: the search through two automata of sets finds the first trace outside. -/
namespace Go.Proofs.YtdkjnemakkppfaaGreatDoor
open AG

/-- A step of two automata, their states as one number. -/
def goB (a b : Au) (q l : Nat) : Nat := goA a (q / b.nx.length) l * b.nx.length + goA b (q % b.nx.length) l
theorem pair_div {n p q : Nat} (h : p < n) : (q * n + p) / n = q ∧ (q * n + p) % n = p := by
  rw [Nat.mul_comm]
  constructor
  · rw [Nat.mul_add_div (by omega), Nat.div_eq_of_lt h, Nat.add_zero]
  · rw [Nat.mul_add_mod, Nat.mod_eq_of_lt h]
theorem RW_both {a b : Au} (hb : auOk b = true) {L : List Nat} : ∀ (r : List Nat) (m : Nat), RW (fun m => m ∈ [0]) L (fun q l => [goB a b q l]) r m ↔ (∀ l ∈ r, l ∈ L) ∧ m = runA a 0 r * b.nx.length + runA b 0 r
  | [], m => by
    show m ∈ [0] ↔ _
    simp [runA]
  | l :: r, m => by
    show (l ∈ L ∧ ∃ k, RW (fun m => m ∈ [0]) L (fun q l => [goB a b q l]) r k ∧ m ∈ [goB a b k l]) ↔ _
    have hlt := runA_lt hb r
    obtain ⟨e1, e2⟩ := pair_div (q := runA a 0 r) hlt
    constructor
    · rintro ⟨hl, k, hk, hm⟩
      obtain ⟨h1, h2⟩ := (RW_both hb r k).1 hk
      refine ⟨fun x hx => ?_, ?_⟩
      · rcases List.mem_cons.1 hx with rfl | hx
        · exact hl
        · exact h1 x hx
      · rw [List.mem_singleton.1 hm, h2]
        unfold goB
        rw [e1, e2]
        rfl
    · rintro ⟨h1, h2⟩
      refine ⟨h1 l List.mem_cons_self, _, (RW_both hb r _).2 ⟨fun x hx => h1 x (List.mem_cons_of_mem _ hx), rfl⟩, ?_⟩
      rw [h2]
      unfold goB
      rw [e1, e2]
      exact List.mem_singleton.2 rfl
end Go.Proofs.YtdkjnemakkppfaaGreatDoor

/- Plain: the system of an automaton: its accepting states, and the letters that lead from one to another. -/
namespace Go.Proofs.YtdkjnemakkppfaaGreatDoor
open AG

theorem letters_len6 (A : Int) : (letters A).length ≤ 6 := lettersTo_len A 6
end Go.Proofs.YtdkjnemakkppfaaGreatDoor

/- Plain: systems of automata: their traces, their automata, projections in steps; deterministic systems. -/
namespace Go.Proofs.YtdkjnemakkppfaaGreatDoor
open AG

theorem step_back {s : Sy} {S l t : Nat} (h : (stepSet s S l).testBit t = true) : ∃ e ∈ s.es, e.l = (l : Int) ∧ S.testBit e.f.toNat = true ∧ e.t.toNat = t := by
  unfold stepSet at h
  exact ((bitsOf_testBit _ 16 t).1 h).2
theorem step_fwd {s : Sy} (hs : sysOk s = true) {S : Nat} {e : Ed} (he : e ∈ s.es) (h : S.testBit e.f.toNat = true) : (stepSet s S (e.l.toNat : Nat)).testBit e.t.toNat = true := by
  obtain ⟨_, _, h3, h4, h5, _⟩ := sysOk_in hs e he
  unfold stepSet
  exact (bitsOf_testBit _ 16 _).2 ⟨by omega, e, he, by omega, h, rfl⟩
/-- What a word of the projection leads to is what the words with that projection lead to. -/
theorem prW_back {s : Sy} {al : Int} (hk : prOk s al = true) : ∀ r : List Nat, (∀ l ∈ r, l ∈ letters al) → ∀ q, (prW s al r).testBit q = true → ∃ u : List Nat, (∀ l ∈ u, l ∈ letters s.al) ∧ (u.filter fun l => decide (l ∈ letters al)) = r ∧ (setW s u).testBit q = true := by
  obtain ⟨hs, hal, han⟩ := prOk_parts hk
  have hin := sysOk_in hs
  have hlet : ∀ e ∈ s.es, e.l.toNat ∈ letters s.al := fun e he => by
    obtain ⟨_, _, _, _, h5, h6, h7, _⟩ := hin e he
    exact letters_ok.2 ⟨by omega, h7⟩
  have close : ∀ (r : List Nat) (X : Nat), (∀ q, X.testBit q = true → ∃ u : List Nat, (∀ l ∈ u, l ∈ letters s.al) ∧ (u.filter fun l => decide (l ∈ letters al)) = r ∧ (setW s u).testBit q = true) →
      ∀ q, (reachSet s (hidA s.al al) X).testBit q = true → ∃ u : List Nat, (∀ l ∈ u, l ∈ letters s.al) ∧ (u.filter fun l => decide (l ∈ letters al)) = r ∧ (setW s u).testBit q = true := by
    intro r X hX q hq
    unfold reachSet at hq
    refine ((bitsOf_testBit _ 16 q).1 hq).2 (fun q => ∃ u : List Nat, (∀ l ∈ u, l ∈ letters s.al) ∧ (u.filter fun l => decide (l ∈ letters al)) = r ∧ (setW s u).testBit q = true) hX fun e he hA hf => ?_
    obtain ⟨u, u1, u2, u3⟩ := hf
    refine ⟨e.l.toNat :: u, fun l hl => ?_, ?_, step_fwd hs he u3⟩
    · rcases List.mem_cons.1 hl with rfl | hl
      · exact hlet e he
      · exact u1 l hl
    · have h6 := letters_lt (hlet e he)
      rw [Has_hid (sysOk_alpha hs) hal h6.1, h6.2, Bool.true_and, Bool.not_eq_true'] at hA
      rw [List.filter_cons_of_neg (by
        rw [decide_eq_true_eq]
        intro h
        have := (letters_lt h).2
        rw [hA] at this
        cases this)]
      exact u2
  intro r
  induction r with
  | nil =>
    intro _ q hq
    refine close [] 1 (fun q hq => ⟨[], by simp, rfl, hq⟩) q ?_
    exact hq
  | cons l r ih =>
    intro hr q hq
    have hl := hr l List.mem_cons_self
    refine close (l :: r) (stepSet s (prW s al r) (l : Nat)) (fun t ht => ?_) q hq
    obtain ⟨e, he, e1, e2, rfl⟩ := step_back ht
    obtain ⟨u, u1, u2, u3⟩ := ih (fun x hx => hr x (List.mem_cons_of_mem _ hx)) _ e2
    have hel : e.l.toNat = l := by omega
    refine ⟨l :: u, fun x hx => ?_, ?_, ?_⟩
    · rcases List.mem_cons.1 hx with rfl | hx
      · rw [← hel]; exact hlet e he
      · exact u1 x hx
    · rw [List.filter_cons_of_pos (by simpa using hl), u2]
    · have := step_fwd hs he u3
      rw [hel] at this
      exact this
theorem ne_zero_bit {S : Nat} (h : S ≠ 0) : ∃ q, S.testBit q = true := Nat.exists_testBit_of_ne_zero h
theorem bit_ne_zero {S q : Nat} (h : S.testBit q = true) : S ≠ 0 := fun e => by rw [e] at h; simp at h
theorem prW_iff {s : Sy} {al : Int} (hk : prOk s al = true) {r : List Nat} (hr : ∀ l ∈ r, l ∈ letters al) : prW s al r ≠ 0 ↔ ∃ u : List Nat, (∀ l ∈ u, l ∈ letters s.al) ∧ (u.filter fun l => decide (l ∈ letters al)) = r ∧ setW s u ≠ 0 := by
  constructor
  · intro h
    obtain ⟨q, hq⟩ := ne_zero_bit h
    obtain ⟨u, u1, u2, u3⟩ := prW_back hk r hr q hq
    exact ⟨u, u1, u2, bit_ne_zero u3⟩
  · rintro ⟨u, u1, rfl, u3⟩
    obtain ⟨q, hq⟩ := ne_zero_bit u3
    exact bit_ne_zero (prW_sub hk u u1 q hq)
theorem accA_prA {s : Sy} {al : Int} (h : prK s al = true) {r : List Nat} (hr : ∀ l ∈ r, l ∈ letters al) : accA (prA s al) r = decide (prW s al r ≠ 0) := by
  obtain ⟨_, x, hx, e⟩ := prK_true h
  rw [e]
  exact accA_pr hx hr
/-- Every reached state is reached by a word. -/
theorem reach_word {s : Sy} (hs : sysOk s = true) {q : Nat} (h : (reachAll s).testBit q = true) : ∃ r : List Nat, (∀ l ∈ r, l ∈ letters s.al) ∧ (setW s r).testBit q = true := by
  have h1 := ((reach_bit q).1 h).2
  refine h1 (fun q => ∃ r : List Nat, (∀ l ∈ r, l ∈ letters s.al) ∧ (setW s r).testBit q = true) (fun x hx => ⟨[], by simp, hx⟩) fun e he _ hf => ?_
  obtain ⟨r, r1, r2⟩ := hf
  obtain ⟨_, _, _, _, h5, h6, h7, _⟩ := sysOk_in hs e he
  refine ⟨e.l.toNat :: r, fun l hl => ?_, step_fwd hs he r2⟩
  rcases List.mem_cons.1 hl with rfl | hl
  · exact letters_ok.2 ⟨by omega, h7⟩
  · exact r1 l hl
end Go.Proofs.YtdkjnemakkppfaaGreatDoor
