/- Lemmas, part 4: several texts in one. -/
import Derived.Test.YtjhlbeamfngebaaDoorZ3
import Derived.Test.YtjhlbeamfngebaaDoorZ1
import Derived.Test.YtjhlbeamfngebaaDoorZ2
import Derived.Deep.DeepCutAuto
import Derived.WalkKit
set_option linter.unusedSimpArgs false
set_option linter.unusedVariables false

/- Plain: words as lists: prefixes, restrictions of restrictions, lists of systems in another order, words that are merged. -/
namespace AG

/-- The letter of a byte, -1 if there is none. -/
def bl (b : UInt8) : Int := if lOk ((b.toNat : Int) - 97) = true then (b.toNat : Int) - 97 else -1
def pk (al : Int) (b : UInt8) : Bool := HasZ al (bl b)
theorem pk_at (w : ByteArray) (al : Int) (i : Nat) : HasZ al (ltr w i) = pk al (w.data.getD i 0) := rfl
theorem getD_list {w : ByteArray} {i : Nat} (h : i < w.size) : ∃ h' : i < w.data.toList.length, w.data.getD i 0 = w.data.toList[i]'h' := by
  have hk' : i < w.data.size := h
  refine ⟨by simpa using hk', ?_⟩
  rw [Array.getD_eq_getD_getElem?, Array.getElem?_eq_getElem hk']
  simp
theorem size_list (w : ByteArray) : w.data.toList.length = w.size := by simp
theorem word_ext {a b : ByteArray} (h : a.data.toList = b.data.toList) : a = b := by
  obtain ⟨⟨a⟩⟩ := a
  obtain ⟨⟨b⟩⟩ := b
  cases h
  rfl

theorem keptTo_filter (w : ByteArray) (al : Int) : ∀ k, k ≤ w.size → keptTo w al k = (w.data.toList.take k).filter (pk al)
  | 0, _ => by simp [keptTo]
  | k + 1, hk => by
    have ih := keptTo_filter w al k (by omega)
    obtain ⟨h', e⟩ := getD_list (w := w) (i := k) (by omega)
    rw [keptTo, ih, List.take_succ_eq_append_getElem h', List.filter_append, pk_at, e]
    generalize w.data.toList[k]'h' = b
    cases h : pk al b <;> simp [h]
theorem restr_list (w : ByteArray) (al : Int) : (restr w al).data.toList = w.data.toList.filter (pk al) := by
  have := keptTo_filter w al w.size (Nat.le_refl _)
  unfold restr
  rw [this, List.take_of_length_le (by rw [size_list]; omega)]
theorem within_list (w : ByteArray) (al : Int) : within w al = true ↔ alphaOk al = true ∧ w.size ≤ 50000 ∧ ∀ b ∈ w.data.toList, pk al b = true := by
  unfold within
  rw [decide_eq_true_iff]
  constructor
  · rintro ⟨h1, h2, h3⟩
    refine ⟨h1, h2, fun b hb => ?_⟩
    obtain ⟨i, hi, rfl⟩ := List.getElem_of_mem hb
    have hi' : i < w.size := by rw [size_list] at hi; exact hi
    obtain ⟨h', e⟩ := getD_list hi'
    have := h3 i hi'
    rw [pk_at, e] at this
    exact this
  · rintro ⟨h1, h2, h3⟩
    refine ⟨h1, h2, fun i hi => ?_⟩
    obtain ⟨h', e⟩ := getD_list hi
    rw [pk_at, e]
    exact h3 _ (List.getElem_mem _)

/-- The states behind a list of bytes. -/
noncomputable def runL (s : Sy) (l : List UInt8) : Nat := l.foldl (fun S b => stepSet s S ((b.toNat : Int) - 97)) 1
theorem runTo_list (s : Sy) (w : ByteArray) : ∀ k, k ≤ w.size → runTo s w k = runL s (w.data.toList.take k)
  | 0, _ => rfl
  | k + 1, hk => by
    have ih := runTo_list s w k (by omega)
    obtain ⟨h', e⟩ := getD_list (w := w) (i := k) (by omega)
    rw [List.take_succ_eq_append_getElem h']
    unfold runL at ih ⊢
    rw [List.foldl_append, ← ih]
    show stepSet s (runTo s w k) (lz w k) = stepSet s _ _
    unfold lz
    rw [e]
theorem runTo_all (s : Sy) (w : ByteArray) : runTo s w w.size = runL s w.data.toList := by
  rw [runTo_list s w _ (Nat.le_refl _), List.take_of_length_le (by rw [size_list]; omega)]
theorem foldl_none (s : Sy) : ∀ l : List UInt8, l.foldl (fun S b => stepSet s S ((b.toNat : Int) - 97)) 0 = 0
  | [] => rfl
  | b :: l => by rw [List.foldl_cons, stepSet_of0]; exact foldl_none s l
theorem runL_more {s : Sy} {l : List UInt8} (m : List UInt8) (h : runL s (l ++ m) ≠ 0) : runL s l ≠ 0 := fun e => h (by
  unfold runL at e ⊢
  rw [List.foldl_append, e, foldl_none])

theorem hasTr_list (s : Sy) (w : ByteArray) : hasTr s w = true ↔ sysOk s = true ∧ within w s.al = true ∧ runL s w.data.toList ≠ 0 := by
  constructor
  · intro h
    obtain ⟨h1, h2⟩ := hasTr_ok h
    refine ⟨h1, h2, ?_⟩
    unfold hasTr at h
    have h := of_decide_eq_true h
    unfold aft at h
    rw [h1, h2] at h
    rw [← runTo_all]
    simpa using h
  · rintro ⟨h1, h2, h3⟩
    unfold hasTr aft
    rw [h1, h2, runTo_all]
    exact decide_eq_true (by simpa using h3)
theorem trParts_list (ss : List Sy) (w : ByteArray) : trParts ss w = true ↔ partsOk ss = true ∧ within w (allAl ss) = true ∧ ∀ s ∈ ss, hasTr s (restr w s.al) = true := by
  unfold trParts
  rw [decide_eq_true_iff]
  constructor
  · rintro ⟨h1, h2, h3⟩
    refine ⟨h1, h2, fun s hs => ?_⟩
    obtain ⟨i, hi, rfl⟩ := List.getElem_of_mem hs
    exact h3 i hi
  · rintro ⟨h1, h2, h3⟩
    exact ⟨h1, h2, fun i hi => h3 _ (List.getElem_mem _)⟩

/-- A word begins another. -/
def Pre (x y : ByteArray) : Prop := ∃ m, y.data.toList = x.data.toList ++ m
theorem Pre.within {x y : ByteArray} {al : Int} (h : Pre x y) (hy : AG.within y al = true) : AG.within x al = true := by
  obtain ⟨m, hm⟩ := h
  rw [within_list] at hy ⊢
  have h1 := size_list x
  have h2 := size_list y
  rw [hm, List.length_append] at h2
  refine ⟨hy.1, by have := hy.2.1; omega, fun b hb => hy.2.2 b (by rw [hm]; exact List.mem_append_left _ hb)⟩
theorem Pre.hasTr {x y : ByteArray} {s : Sy} (h : Pre x y) (hy : AG.hasTr s y = true) : AG.hasTr s x = true := by
  rw [hasTr_list] at hy ⊢
  obtain ⟨m, hm⟩ := h
  exact ⟨hy.1, Pre.within ⟨m, hm⟩ hy.2.1, runL_more m (by rw [← hm]; exact hy.2.2)⟩
theorem Pre.restr {x y : ByteArray} (h : Pre x y) (al : Int) : Pre (AG.restr x al) (AG.restr y al) := by
  obtain ⟨m, hm⟩ := h
  exact ⟨m.filter (pk al), by rw [restr_list, restr_list, hm, List.filter_append]⟩
theorem Pre.trParts {x y : ByteArray} {ss : List Sy} (h : Pre x y) (hy : AG.trParts ss y = true) : AG.trParts ss x = true := by
  rw [trParts_list] at hy ⊢
  exact ⟨hy.1, h.within hy.2.1, fun s hs => (h.restr _).hasTr (hy.2.2 s hs)⟩

theorem partsOk_all {ss : List Sy} (h : partsOk ss = true) : ss.all sysOk = true := by
  unfold partsOk at h
  rw [Bool.and_eq_true] at h
  exact h.2
theorem alphaOk_range {a : Int} : alphaOk a = true ↔ 0 ≤ a ∧ a ≤ 63 := by unfold alphaOk; exact decide_eq_true_iff
end AG

/- Plain: the words over some letters in their order, and the first trace outside among them. -/
namespace Go.Proofs.YtjhlbeamfngebaaDoor
open AG

/-- The n-th word over the letters L, its last letter first. -/
def wAt (L : List Nat) : Nat → List Nat
  | 0 => []
  | n + 1 => L.getD (n % L.length) 0 :: wAt L (n / L.length)
termination_by n => n
decreasing_by exact Nat.lt_succ_of_le (Nat.div_le_self _ _)
theorem wAt_zero (L : List Nat) : wAt L 0 = [] := by rw [wAt]
theorem wAt_succ (L : List Nat) (n : Nat) : wAt L (n + 1) = L.getD (n % L.length) 0 :: wAt L (n / L.length) := by rw [wAt]
theorem wAt_mem {L : List Nat} (hL : 0 < L.length) (n : Nat) : ∀ l ∈ wAt L n, l ∈ L := by
  induction n using Nat.strongRecOn with
  | ind n ih =>
    intro l hl
    cases n with
    | zero => rw [wAt_zero] at hl; cases hl
    | succ n =>
      rw [wAt_succ] at hl
      rcases List.mem_cons.1 hl with rfl | hl
      · have := Nat.mod_lt n hL
        rw [List.getD_eq_getElem?_getD, List.getElem?_eq_getElem this]
        exact List.getElem_mem _
      · exact ih _ (Nat.lt_succ_of_le (Nat.div_le_self _ _)) l hl
theorem letters_ok {A : Int} {l : Nat} : l ∈ letters A ↔ l < 6 ∧ Has A l = true := by
  unfold letters lettersTo
  rw [List.mem_filter, List.mem_range]
theorem letB_num {l : Nat} (h : l < 6) : ((letB l).toNat : Int) - 97 = l := by
  unfold letB
  rw [UInt8.toNat_ofNat', Nat.mod_eq_of_lt (by omega)]
  omega
theorem bl_letB {l : Nat} (h : l < 6) : bl (letB l) = l := by
  unfold bl
  rw [letB_num h]
  have : lOk (l : Int) = true := by unfold lOk; exact decide_eq_true (by omega)
  rw [if_pos this]
theorem wordS_list (r : List Nat) : (wordS r).data.toList = r.reverse.map letB := rfl
theorem runL_setW (s : Sy) : ∀ r : List Nat, (∀ l ∈ r, l < 6) → runL s (r.reverse.map letB) = setW s r
  | [], _ => rfl
  | l :: r, h => by
    have ih := runL_setW s r fun x hx => h x (List.mem_cons_of_mem _ hx)
    rw [List.reverse_cons, List.map_append]
    unfold runL at ih ⊢
    rw [List.foldl_append, ih]
    show stepSet s (setW s r) _ = stepSet s (setW s r) _
    rw [letB_num (h l List.mem_cons_self)]
theorem wordS_within {A : Int} {r : List Nat} (hA : alphaOk A = true) (hr : ∀ l ∈ r, l ∈ letters A) (hl : r.length ≤ 50000) : within (wordS r) A = true := by
  rw [within_list]
  refine ⟨hA, by rw [wordS_size]; exact hl, fun b hb => ?_⟩
  rw [wordS_list] at hb
  obtain ⟨l, hl', rfl⟩ := List.mem_map.1 hb
  obtain ⟨h1, h2⟩ := letters_ok.1 (hr l (List.mem_reverse.1 hl'))
  unfold pk HasZ
  rw [bl_letB h1]
  simpa using h2
theorem hasTr_wordS {s : Sy} {r : List Nat} (hs : sysOk s = true) (hr : ∀ l ∈ r, l ∈ letters s.al) (hl : r.length ≤ 50000) : hasTr s (wordS r) = decide (setW s r ≠ 0) := by
  have hA : alphaOk s.al = true := alphaOk_range.2 (sysOk_alpha hs)
  have e := runL_setW s r fun l h => (letters_ok.1 (hr l h)).1
  rw [Bool.eq_iff_iff, hasTr_list, decide_eq_true_iff, wordS_list, e]
  exact ⟨fun h => h.2.2, fun h => ⟨hs, wordS_within hA hr hl, h⟩⟩

end Go.Proofs.YtjhlbeamfngebaaDoor

/- The program's tableOf. -/
namespace Go.Proofs.YtjhlbeamfngebaaDoor
open Go.RowKit Go.BigFrame AG

/-- The table of an automaton: where each letter leads from each of n states. -/
def TabA (w : World) (g n : Nat) (a : Au) : Prop := g < w.heap.size ∧ ∀ q l, q < n → l < 6 → w.cell? ⟨g, q * 6 + l, none⟩ = some (.int .i64 (goA a q l : Nat))
theorem TabA.later {w w' : World} {g n : Nat} {a : Au} (h : TabA w g n a) (hb : Below w.heap.size w w') : TabA w' g n a := ⟨Nat.lt_of_lt_of_le h.1 hb.size, fun q l h1 h2 => by rw [hb.cell (by simpa using h.1)]; exact h.2 q l h1 h2⟩
/-- Every row has as many entries as there are letters, and they are no negative numbers. -/
def tabOk (a : Au) : Prop := ∀ r ∈ a.nx, r.length = (letters a.al).length ∧ ∀ q ∈ r, 0 ≤ q
/-- .. when i letters of the row have been entered. -/
def goK (a : Au) (q i l : Nat) : Int := if l ∈ (letters a.al).take i then (a.nx.getD q []).getD ((letters a.al).idxOf l) 0 else (q : Int)
theorem goK_done {a : Au} (h : tabOk a) {q l : Nat} (hq : q < a.nx.length) : goK a q (letters a.al).length l = ((goA a q l : Nat) : Int) := by
  unfold goK goA
  rw [List.take_length]
  split
  · rename_i hl
    have hg : a.nx.getD q [] = a.nx[q] := by rw [List.getD_eq_getElem?_getD, List.getElem?_eq_getElem hq]; rfl
    obtain ⟨h1, h2⟩ := h a.nx[q] (List.getElem_mem _)
    have hk : (letters a.al).idxOf l < (a.nx[q]).length := by rw [h1]; exact List.idxOf_lt_length_iff.2 hl
    rw [hg]
    have : (a.nx[q]).getD ((letters a.al).idxOf l) 0 = (a.nx[q])[(letters a.al).idxOf l] := by rw [List.getD_eq_getElem?_getD, List.getElem?_eq_getElem hk]; rfl
    rw [this, Int.toNat_of_nonneg (h2 _ (List.getElem_mem _))]
  · rfl
/-- The cells of the table: q rows are done, of the next one those that f says. -/
structure TabSt (cs : Array Value) (n : Nat) (a : Au) (q : Nat) (f : Nat → Option Int) : Prop where
  size : cs.size = n * 6
  rows : ∀ p l, p < q → l < 6 → cs[p * 6 + l]? = some (.int .i64 (goA a p l : Nat))
  row : ∀ l v, l < 6 → f l = some v → cs[q * 6 + l]? = some (.int .i64 v)
theorem TabSt.set_ {cs : Array Value} {n : Nat} {a : Au} {q l : Nat} {f f' : Nat → Option Int} {v : Int} (h : TabSt cs n a q f) (hq : q < n) (hl : l < 6) (hf : ∀ k, k ≠ l → f' k = f k) (hv : f' l = some v) : TabSt (cs.setIfInBounds (q * 6 + l) (.int .i64 v)) n a q f' := by
  refine ⟨by simpa using h.size, fun p k hp hk => ?_, fun k u hk hu => ?_⟩
  · rw [Array.getElem?_setIfInBounds_ne (by omega)]
    exact h.rows p k hp hk
  · by_cases e : k = l
    · subst e
      rw [hv] at hu
      injection hu with hu
      subst hu
      rw [Array.getElem?_setIfInBounds_self_of_lt (by rw [h.size]; omega)]
    · rw [Array.getElem?_setIfInBounds_ne (by omega)]
      exact h.row k u hk (by rw [← hf k e]; exact hu)
theorem TabSt.over {cs : Array Value} {n : Nat} {a : Au} {q : Nat} (h : TabSt cs n a q (fun l => some (goK a q (letters a.al).length l))) (ht : tabOk a) (hq : q < a.nx.length) : TabSt cs n a (q + 1) (fun _ => none) := by
  refine ⟨h.size, fun p l hp hl => ?_, fun l v _ hv => by cases hv⟩
  by_cases e : p = q
  · subst e
    rw [h.row l _ hl rfl, goK_done ht hq]
  · exact h.rows p l (by omega) hl

end Go.Proofs.YtjhlbeamfngebaaDoor

/- Letters of words: the reference's l1At, the program's letterAt. -/
namespace Go.Proofs.YtjhlbeamfngebaaDoor
open Go.RowKit Go.BigFrame AG

theorem byte_at (s : ByteArray) (i : Nat) (h : i < s.size) : ((s[i]'h).toNat : Int) = lz s i + 97 := by
  unfold lz
  have : s.data.getD i 0 = s[i]'h := by
    rw [Array.getD_eq_getD_getElem?, Array.getElem?_eq_getElem (by simpa using h)]
    rfl
  rw [this]
  omega

set_option maxHeartbeats 400000 in
theorem l1At_any (s : ByteArray) (i : Nat) (w : World) (h : i < s.size) :
    Calls Tryd.prog 199 #[.string s, .int .i64 i] w fun e w' => e = .returned (.int .i64 (lz s i)) ∧ w = w' := by
  have hb := byte_at s i h
  have hr := lz_range s i
  have h0 : (0 : Int) ≤ (i : Int) ∧ (i : Int) < (s.size : Int) := by omega
  go_enter Tryd.func199, Tryd.ntmps199
  go_wp2
  go_ret
  exact ⟨rfl, rfl⟩

set_option maxHeartbeats 400000 in
theorem letterAt_any (s : ByteArray) (i : Nat) (w : World) (h : i < s.size) :
    Calls Tryd.prog 145 #[.string s, .int .i64 i] w fun e w' => e = .returned (.int .i64 (ltr s i)) ∧ w = w' := by
  have hb := byte_at s i h
  have hr := lz_range s i
  have h0 : (0 : Int) ≤ (i : Int) ∧ (i : Int) < (s.size : Int) := by omega
  have hfin : Hid (ltr s i = if lz s i < 0 then -1 else if 6 ≤ lz s i then -1 else lz s i) := hid (by
    split
    · exact ltr_bad (by omega)
    · split
      · exact ltr_bad (by omega)
      · exact ltr_ok (by omega))
  by_cases hlo : lz s i < 0
  · go_enter Tryd.func145, Tryd.ntmps145
    go_wp2
    go_ret
    exact ⟨ret_int (by rw [hfin.out]; (repeat split) <;> first | rfl | omega), rfl⟩
  · by_cases hhi : 6 ≤ lz s i
    all_goals
      go_enter Tryd.func145, Tryd.ntmps145
      go_wp2
      go_ret
    · exact ⟨ret_int (by rw [hfin.out]; (repeat split) <;> first | rfl | omega), rfl⟩
    · exact ⟨ret_int (by rw [hfin.out]; (repeat split) <;> first | rfl | omega), rfl⟩

end Go.Proofs.YtjhlbeamfngebaaDoor

/- Words: the reference's WordValid, AlphabetOf, WordWithin; the program's WordWithin. -/
namespace Go.Proofs.YtjhlbeamfngebaaDoor
open Go.RowKit Go.BigFrame AG

set_option maxRecDepth 100000 in
set_option maxHeartbeats 1000000 in
theorem implWordWithin_any (s : ByteArray) (al : Int) (w : World) (hz : s.size ≤ 9223372036854775807) :
    Calls Tryd.prog 85 #[.string s, .int .i64 al] w fun e w' => e = .returned (.bool (within s al)) ∧ w = w' := by
  cases hal : alphaOk al
  · have hfin : Hid (within s al = false) := hid (by unfold within; exact decide_eq_false (fun h => by rw [hal] at h; cases h.1))
    replace hal := hid hal
    go_enter Tryd.func85, Tryd.ntmps85
    go_wp2_with (go_at_call 87; refine (isAlphabet_any al _).mono ?_; rintro e w' ⟨rfl, rfl⟩; rw [hal.out])
    go_ret
    exact ⟨ret_bool (by rw [hfin.out]), rfl⟩
  · have hal2 := hid hal
    replace hal := hid hal
    by_cases hs : s.size ≤ 50000
    · go_enter Tryd.func85, Tryd.ntmps85
      go_wp2_with (go_at_call 87; refine (isAlphabet_any al _).mono ?_; rintro e w' ⟨rfl, rfl⟩; rw [hal.out])
      go_loopw [16] (fun i wr => ∃ k : Nat, i = .int .i64 k ∧ k ≤ s.size ∧ (∀ j, j < k → HasZ al (ltr s j) = true) ∧ w = wr) (fun i _ => s.size - (intOf i).toNat)
      case atStart => exact ⟨0, rfl, by omega, fun j h => by omega, rfl⟩
      case round =>
        obtain ⟨k, rfl, hk, hall, rfl⟩ := hrel
        replace hall := hid hall
        by_cases hlt : k < s.size
        · have h63 : ltr s k ≤ 63 := by unfold ltr lOk; split; rename_i h; have := of_decide_eq_true h; omega; omega
          cases hh : HasZ al (ltr s k)
          · have hfin : Hid (within s al = false) := hid (by unfold within; exact decide_eq_false (fun h => by have := h.2.2 k hlt; rw [hh] at this; cases this))
            replace hh := hid hh
            go_wp2_with (first
              | (go_at_call 145; refine (letterAt_any s k _ hlt).mono ?_; rintro e w' ⟨rfl, rfl⟩)
              | (go_at_call 94; refine (has_any al _ _ h63).mono ?_; rintro e w' ⟨rfl, rfl⟩; rw [hh.out]))
            go_ret
            exact ⟨ret_bool (by rw [hfin.out]), rfl⟩
          · replace hh := hid hh
            go_wp2_with (first
              | (go_at_call 145; refine (letterAt_any s k _ hlt).mono ?_; rintro e w' ⟨rfl, rfl⟩)
              | (go_at_call 94; refine (has_any al _ _ h63).mono ?_; rintro e w' ⟨rfl, rfl⟩; rw [hh.out]))
            go_roundw
            case rel => exact ⟨k + 1, by go_num, by omega, fun j hj => by by_cases e : j = k; exact e ▸ hh.out; exact hall.out j (by omega), by first | trivial | rfl⟩
            case measure => simp [intOf]; omega
        · go_wp2
          go_ret
          exact ⟨ret_bool (by unfold within; exact (decide_eq_true ⟨hal2.out, hs, fun i hi => hall.out i (by omega)⟩).symm), rfl⟩
    · have hfin : Hid (within s al = false) := hid (by unfold within; exact decide_eq_false (fun h => hs h.2.1))
      go_enter Tryd.func85, Tryd.ntmps85
      go_wp2_with (go_at_call 87; refine (isAlphabet_any al _).mono ?_; rintro e w' ⟨rfl, rfl⟩; rw [hal.out])
      go_ret
      exact ⟨ret_bool (by rw [hfin.out]), rfl⟩

end Go.Proofs.YtjhlbeamfngebaaDoor

/- Plain: words that the automaton of a projection accepts. -/
namespace Go.Proofs.YtjhlbeamfngebaaDoor
open AG

theorem restr_wordS {r : List Nat} (h : ∀ l ∈ r, l < 6) (al : Int) : restr (wordS r) al = wordS (r.filter fun l => decide (l ∈ letters al)) := by
  refine word_ext ?_
  rw [restr_list, wordS_list, wordS_list, List.filter_map, ← List.filter_reverse]
  congr 1
  refine List.filter_congr fun l hl => ?_
  have h6 := h l (List.mem_reverse.1 hl)
  show pk al (letB l) = _
  unfold pk HasZ
  rw [bl_letB h6, Bool.eq_iff_iff]
  simp only [Bool.and_eq_true, decide_eq_true_eq, Int.toNat_natCast]
  rw [letters_ok]
  constructor
  · rintro ⟨_, h⟩; exact ⟨h6, h⟩
  · rintro ⟨_, h⟩; exact ⟨by omega, h⟩
end Go.Proofs.YtjhlbeamfngebaaDoor

/- The program's search: firstPath. -/
namespace Go.Proofs.YtjhlbeamfngebaaDoor
open Go.RowKit Go.BigFrame AG

theorem infoBoolF : (Tryd.prog.info? 4).map (fun i => (i.zero, i.size, i.bytes)) = some (some (.bool false), 1, 1) := by kernel_rfl

/-- The search in memory and as plain lists. -/
def SrchAt (w : World) (size : Nat) (G : Nat → Bool) (L : List Nat) (nx : Nat → Nat → List Nat) (I0 : List Nat) (gv : Value) (bS bG bP gS : Nat) (wr : World) (i k : Nat) (sv : Value) (ss : List StV) (ws : List (List Nat)) (S : Nat → Bool) : Prop :=
  FPst w wr size gv bS bG bP gS sv ss S ∧ SB (fun n => n ∈ I0) L nx G size (ss.map (·.st)) ws S i k

theorem PathOk.of {I : Nat → Prop} {L : List Nat} {nx : Nat → Nat → List Nat} {G : Nat → Prop} {ss : List StV} {ws : List (List Nat)} {i k : Nat} (h : Bfs I L nx G (ss.map (·.st)) ws i k) (hL6 : ∀ l ∈ L, l < 6) : PathOk ss ws := by
  refine ⟨by rw [h.len]; simp, h.zero, fun h0 => ?_, fun j hj hj' h0 => ?_⟩
  · have := h.root (by simpa using h0)
    simpa using this
  · obtain ⟨p, q, hpj, _, h1, hp, hq, h2, hw⟩ := h.link j (by simpa using hj) hj' h0
    simp only [List.getElem_map] at h1 h2
    exact ⟨p, hpj, h1, by rw [h2]; exact hL6 _ (List.getElem_mem _), hp, by rw [hw, h2]⟩
theorem PathOk.add {ss : List StV} {ws : List (List Nat)} (h : PathOk ss ws) {i l : Nat} (hi : i < ws.length) (hl : l < 6) (x : StV) (hx : x.st.par = (i : Int)) (hx' : x.st.let_ = l) : PathOk (ss ++ [x]) (ws ++ [l :: ws[i]]) := by
  have hlen := h.len
  have hpos : 0 < ws.length := by omega
  refine ⟨by simp [hlen], fun h0 => ?_, fun h0 => ?_, fun j hj hj' h0 => ?_⟩
  · rw [List.getElem_append_left hpos]; exact h.zero hpos
  · rw [List.getElem_append_left (by omega)]; exact h.root (by omega)
  · by_cases e : j < ws.length
    · obtain ⟨p, hpj, h1, h2, hp, hw⟩ := h.link j (by omega) e h0
      refine ⟨p, hpj, ?_, ?_, by simp; omega, ?_⟩
      · rw [List.getElem_append_left (by omega)]; exact h1
      · rw [List.getElem_append_left (by omega)]; exact h2
      · rw [List.getElem_append_left e, List.getElem_append_left hp, List.getElem_append_left (by omega)]; exact hw
    · obtain rfl : j = ws.length := by simp at hj'; omega
      refine ⟨i, hi, ?_, ?_, by simp; omega, ?_⟩
      · simp [hlen, hx]
      · simp [hlen, hx', hl]
      · rw [List.getElem_append_left hi]
        simp [hlen, hx']

theorem FPst.later {w w1 w2 : World} {size : Nat} {gv : Value} {bS bG bP gS : Nat} {sv : Value} {ss : List StV} {S : Nat → Bool} (h : FPst w w1 size gv bS bG bP gS sv ss S) (hb : Below w1.heap.size w1 w2) : FPst w w2 size gv bS bG bP gS sv ss S := by
  obtain ⟨cs, hc, hs⟩ := h.seen
  have hk : KeepB (fun b => b = gS) w1 w2 := .of_below hb
  exact h.keep hk (hc.below hb hc.lt) hs

theorem reachedL_len {nx : Nat → Nat → List Nat} {l size : Nat} : ∀ {ns : List Nat}, (∀ q ∈ ns, (nx q l).length ≤ 4096) → (reachedL nx l ns).length ≤ ns.length * 4096
  | [], _ => by simp [reachedL]
  | q :: ns, h => by
    have h1 := h q List.mem_cons_self
    have h2 := reachedL_len (size := size) (ns := ns) fun x hx => h x (List.mem_cons_of_mem _ hx)
    unfold reachedL at h2 ⊢
    rw [List.flatMap_cons, List.length_append, List.length_cons]
    omega

/-- What the search hands back: the first word to a goal, or none. -/
def PathPost (I : Nat → Prop) (L : List Nat) (nx : Nat → Nat → List Nat) (G : Nat → Prop) (o : Option (List Nat)) : Prop :=
  match o with
  | some r => FirstW I L nx G r
  | none => ∀ q n, RW I L nx q n → ¬ G n
def pathV (o : Option (List Nat)) : Value := .tuple #[.string (match o with | some r => wordS r | none => ⟨#[]⟩), .bool o.isSome]

theorem seen_start (size : Nat) : SeenAt (madeCells #[.bool false] size) size (fun _ => false) := by
  refine ⟨by simp [madeCells], fun n hn => ?_⟩
  have h1 := toList_madeCells_one (Value.bool false) size
  rw [← Array.getElem?_toList, h1, List.getElem?_replicate, if_pos hn]

theorem fp_start (w : World) (size : Nat) (gv : Value) :
    ∃ w4, (((w.alloc (Obj.cells #[gv] 102)).alloc (Obj.cells (madeCells #[Value.bool false] size) 4)).alloc (Obj.cells #[Value.slice (some ⟨w.heap.size + 1, 0, none⟩) size size] 24)).alloc (Obj.cells #[Value.slice none 0 0] 151) = w4 ∧
      Below w.heap.size w w4 ∧ FPst w w4 size gv (w.heap.size + 1 + 1) w.heap.size (w.heap.size + 1 + 1 + 1) (w.heap.size + 1) (.slice none 0 0) [] (fun _ => false) := by
  refine ⟨_, rfl, by (repeat (first | exact Below.refl _ _ | assumption | refine Below.drew ?_ | refine Below.alloc ?_ (by first | omega | (simp; done) | (simp; omega)) _ | refine Below.setCell ?_ (by first | omega | (simp; done) | (simp; omega)) _)), by (repeat (first | exact Below.refl _ _ | assumption | refine Below.drew ?_ | refine Below.alloc ?_ (by first | omega | (simp; done) | (simp; omega)) _ | refine Below.setCell ?_ (by first | omega | (simp; done) | (simp; omega)) _)), ?_, ?_, ?_, ⟨_, ?_, seen_start size⟩, by omega, by omega, World.ownsRow_nil _ _ _ _, fun x hx => by cases hx⟩
  · have := (Blk.new ((w.alloc (Obj.cells #[gv] 102)).alloc (Obj.cells (madeCells #[Value.bool false] size) 4)) 24 #[Value.slice (some ⟨w.heap.size + 1, 0, none⟩) size size]).alloc (Obj.cells #[Value.slice none 0 0] 151)
    simpa using this
  · exact ((Blk.new w 102 #[gv]).alloc _).alloc _ |>.alloc _
  · have := Blk.new (((w.alloc (Obj.cells #[gv] 102)).alloc (Obj.cells (madeCells #[Value.bool false] size) 4)).alloc (Obj.cells #[Value.slice (some ⟨w.heap.size + 1, 0, none⟩) size size] 24)) 151 #[Value.slice none 0 0]
    simpa using this
  · have := ((Blk.new (w.alloc (Obj.cells #[gv] 102)) 4 (madeCells #[Value.bool false] size)).alloc (Obj.cells #[Value.slice (some ⟨w.heap.size + 1, 0, none⟩) size size] 24)).alloc (Obj.cells #[Value.slice none 0 0] 151)
    simpa using this

end Go.Proofs.YtjhlbeamfngebaaDoor

/- Plain: the states of an automaton of sets, and the words that lead there. -/
namespace Go.Proofs.YtjhlbeamfngebaaDoor
open AG

theorem rlt_len : ∀ {r q : List Nat}, rlt r q → r.length ≤ q.length
  | [], _, _ => Nat.zero_le _
  | _ :: _, [], h => h.elim
  | _ :: r, _ :: q, h => by
    rcases h with h | ⟨rfl, _⟩
    · have := rlt_len h
      simpa using this
    · simp
theorem rle_len {r q : List Nat} (h : rle r q) : r.length ≤ q.length := by
  rcases h with h | rfl
  · exact rlt_len h
  · exact Nat.le_refl _

end Go.Proofs.YtjhlbeamfngebaaDoor

/- Plain: the system of an automaton: its accepting states, and the letters that lead from one to another. -/
namespace Go.Proofs.YtjhlbeamfngebaaDoor
open AG

theorem letters_len6 (A : Int) : (letters A).length ≤ 6 := lettersTo_len A 6
end Go.Proofs.YtjhlbeamfngebaaDoor

/- Plain: lists numbered by first occurrence; a numbering of nodes under a map that may join nodes. -/
namespace AG


theorem snoc_ind {α : Type} {P : List α → Prop} (h0 : P []) (h1 : ∀ l x, P l → P (l ++ [x])) (l : List α) : P l := by
  have : ∀ n, ∀ l : List α, l.length = n → P l := by
    intro n
    induction n with
    | zero => intro l hl; rw [List.eq_nil_of_length_eq_zero hl]; exact h0
    | succ n ih =>
      intro l hl
      have hne : l ≠ [] := fun e => by rw [e] at hl; simp at hl
      rw [← List.dropLast_concat_getLast hne]
      exact h1 _ _ (ih _ (by rw [List.length_dropLast]; omega))
  exact this _ l rfl

section
variable {α β : Type} [DecidableEq α] [DecidableEq β]
def addD (ns : List α) (x : α) : List α := if x ∈ ns then ns else ns ++ [x]
/-- Without repeats, in the order of first occurrence. -/
def dd (ks : List α) : List α := ks.foldl addD []
theorem dd_nil : dd ([] : List α) = [] := rfl
theorem dd_snoc (ks : List α) (k : α) : dd (ks ++ [k]) = addD (dd ks) k := by unfold dd; rw [List.foldl_append]; rfl
theorem addD_old {ns : List α} {x : α} (h : x ∈ ns) : addD ns x = ns := if_pos h
theorem addD_new {ns : List α} {x : α} (h : x ∉ ns) : addD ns x = ns ++ [x] := if_neg h
theorem addD_mem {ns : List α} {x y : α} : y ∈ addD ns x ↔ y ∈ ns ∨ y = x := by
  unfold addD
  split
  · rename_i h
    exact ⟨.inl, fun h2 => h2.elim id fun e => e ▸ h⟩
  · rw [List.mem_append, List.mem_singleton]
theorem dd_mem (ks : List α) (x : α) : x ∈ dd ks ↔ x ∈ ks := by
  induction ks using snoc_ind with
  | h0 => simp [dd]
  | h1 l y ih => rw [dd_snoc, addD_mem, List.mem_append, List.mem_singleton, ih]
theorem dd_nodup (ks : List α) : (dd ks).Nodup := by
  induction ks using snoc_ind with
  | h0 => simp [dd]
  | h1 l y ih =>
    rw [dd_snoc]
    unfold addD
    split
    · exact ih
    · rename_i h
      rw [List.nodup_append]
      exact ⟨ih, by simp, fun a ha b hb e => h (by rw [List.mem_singleton] at hb; rw [← hb, ← e]; exact ha)⟩
end

end AG

/- The program's CountAccepted. -/
namespace Go.Proofs.YtjhlbeamfngebaaDoor
open Go.RowKit Go.BigFrame AG

/-- A list of n numbers in a block: those below q are what f says. -/
structure NumsIn (cs : Array Value) (n : Nat) (f : Nat → Nat) : Prop where
  size : cs.size = n
  at_ : ∀ p, p < n → cs[p]? = some (.int .i64 (f p : Nat))
theorem NumsIn.set_ {cs : Array Value} {n : Nat} {f f' : Nat → Nat} {p : Nat} {v : Int} (h : NumsIn cs n f) (hp : p < n) (hv : v = ((f' p : Nat) : Int)) (ho : ∀ q, q ≠ p → f' q = f q) : NumsIn (cs.setIfInBounds p (.int .i64 v)) n f' := by
  refine ⟨by simpa using h.size, fun q hq => ?_⟩
  by_cases e : q = p
  · subst e
    rw [Array.getElem?_setIfInBounds_self_of_lt (by rw [h.size]; exact hq), hv]
  · rw [Array.getElem?_setIfInBounds_ne (Ne.symm e), h.at_ q hq, ho q e]

theorem NumsIn.congr {cs : Array Value} {n : Nat} {f f' : Nat → Nat} (h : NumsIn cs n f) (e : ∀ p, f p = f' p) : NumsIn cs n f' := by
  have : f = f' := funext e
  rw [← this]
  exact h
end Go.Proofs.YtjhlbeamfngebaaDoor

/- The program's search in two automata: firstOfBoth, FirstOutside, LanguageWithin. -/
namespace Go.Proofs.YtjhlbeamfngebaaDoor
open Go.RowKit Go.BigFrame AG

theorem wrap_addN (a b : Nat) (h : a + b < 9223372036854775807) : wrap64 ((a : Int) + (b : Int)) = ((a + b : Nat) : Int) := by
  rw [← Int.natCast_add]
  exact IntWalk.wrap64_in _ ⟨by omega, by omega⟩
end Go.Proofs.YtjhlbeamfngebaaDoor

/- The program's FirstTraceOutside: its closures. -/
namespace Go.Proofs.YtjhlbeamfngebaaDoor
open Go.RowKit Go.BigFrame AG

theorem tmod_nat (a b : Nat) : Int.tmod (a : Int) (b : Int) = ((a % b : Nat) : Int) := by
  rw [Int.tmod_eq_emod_of_nonneg (by omega)]
  exact (Int.natCast_emod a b).symm
theorem tdiv_nat (a b : Nat) : Int.tdiv (a : Int) (b : Int) = ((a / b : Nat) : Int) := by
  rw [Int.tdiv_eq_ediv_of_nonneg (by omega)]
  exact (Int.natCast_ediv a b).symm

end Go.Proofs.YtjhlbeamfngebaaDoor

/- The program's FirstTraceOutside. -/
namespace Go.Proofs.YtjhlbeamfngebaaDoor
open Go.RowKit Go.BigFrame AG

theorem setFar_cell (w : World) (p : Addr) (v : Value) {q : Addr} (h : q.block ≠ p.block) : (w.setCell p v).cell? q = w.cell? q := World.cell?_of_block (w := w) (Below.heap_setCell _ _ _ _ h)
theorem MvAt.far {w : World} {B g : Nat} {m : Nat → Nat → Nat} (h : MvAt w B g m) (p : Addr) (v : Value) (hp : g ≠ p.block) : MvAt (w.setCell p v) B g m := ⟨h.1, fun q l h1 h2 => by rw [setFar_cell _ _ _ hp]; exact h.2 q l h1 h2⟩

end Go.Proofs.YtjhlbeamfngebaaDoor
