/- Lemmas, part 4: several texts in one. -/
import Derived.Test.YtdkjnemakkppfaaDoorX1
import Derived.Test.YtdkjnemakkppfaaDoorX2
import Derived.Deep.DeepCutAuto
import Derived.WalkKit
import Derived.Test.YtdkjnemakkppfaaDoorX3
set_option linter.unusedSimpArgs false
set_option linter.unusedVariables false

/- Words as bytes: their letters, their alphabets, what is left of them, the states behind them. -/
namespace AG

/-- The number of the letter at a place of a word. -/
def lz (w : ByteArray) (i : Nat) : Int := ((w.data.getD i 0).toNat : Int) - 97
theorem lz_range (w : ByteArray) (i : Nat) : -97 ≤ lz w i ∧ lz w i ≤ 158 := by
  unfold lz
  have := (w.data.getD i 0).toNat_lt
  omega

end AG

/- Plain: letters of alphabets of lists of systems. -/
namespace AG

theorem Has_or {a b : Int} (ha : 0 ≤ a) (hb : 0 ≤ b) (c : Nat) : Has (orB a b) c = (Has a c || Has b c) := by
  obtain ⟨a, rfl⟩ := Int.eq_ofNat_of_zero_le ha
  obtain ⟨b, rfl⟩ := Int.eq_ofNat_of_zero_le hb
  unfold orB
  rw [Int.toNat_natCast, Int.toNat_natCast, Has_nat, Has_nat, Has_nat, Nat.testBit_or]
theorem Has_and {a b : Int} (ha : 0 ≤ a) (hb : 0 ≤ b) (c : Nat) : Has (andB a b) c = (Has a c && Has b c) := by
  obtain ⟨a, rfl⟩ := Int.eq_ofNat_of_zero_le ha
  obtain ⟨b, rfl⟩ := Int.eq_ofNat_of_zero_le hb
  unfold andB
  rw [Int.toNat_natCast, Int.toNat_natCast, Has_nat, Has_nat, Has_nat, Nat.testBit_and]
theorem Has_zero (c : Nat) : Has 0 c = false := by
  have := Has_nat 0 c
  rw [Nat.zero_testBit] at this
  exact this

/-- How many of the systems have the letter c. -/
def cntAl (ss : List Sy) (c : Nat) : Nat := ss.countP fun s => Has s.al c
theorem cntAl_snoc (ss : List Sy) (s : Sy) (c : Nat) : cntAl (ss ++ [s]) c = cntAl ss c + if Has s.al c = true then 1 else 0 := by
  unfold cntAl
  rw [List.countP_append]
  simp [List.countP_cons]

theorem Has_all : ∀ (ss : List Sy) (c : Nat), ss.all sysOk = true → Has (allAl ss) c = decide (0 < cntAl ss c) ∧ Has (sharedAl ss) c = decide (1 < cntAl ss c) := by
  intro ss c
  induction hn : ss.length generalizing ss with
  | zero =>
    intro _
    obtain rfl : ss = [] := List.eq_nil_of_length_eq_zero hn
    exact ⟨Has_zero c, Has_zero c⟩
  | succ n ih =>
    intro hall
    have hne : ss ≠ [] := fun e => by rw [e] at hn; cases hn
    obtain ⟨ts, s, rfl⟩ : ∃ ts s, ss = ts ++ [s] := ⟨ss.dropLast, ss.getLast hne, (List.dropLast_concat_getLast hne).symm⟩
    have hts : ts.all sysOk = true := by rw [List.all_append, Bool.and_eq_true] at hall; exact hall.1
    have hs : sysOk s = true := by rw [List.all_append, Bool.and_eq_true] at hall; simpa using hall.2
    obtain ⟨h1, h2⟩ := ih ts (by simpa using hn) hts
    have r1 := allAl_range ts hts
    have r2 := sharedAl_range ts hts
    have r3 := sysOk_alpha hs
    have r4 := andB_range (a := allAl ts) r3
    rw [allAl_snoc, sharedAl_snoc, Has_or (by omega) (by omega), Has_or (by omega) (by omega), Has_and (by omega) (by omega), h1, h2, cntAl_snoc]
    cases hH : Has s.al c
    · simp
    · constructor
      · simp
      · rw [Bool.eq_iff_iff]
        simp
        omega

end AG

/- Plain: one part alone. -/
namespace AG

theorem allAl_one {s : Sy} (h : sysOk s = true) : allAl [s] = s.al := by
  have r := sysOk_alpha h
  show orB 0 s.al = s.al
  unfold orB
  simp
  omega
theorem allAl_two {s : Sy} (h : sysOk s = true) : allAl [s, s] = s.al := by
  have r := sysOk_alpha h
  have h0 : orB 0 s.al = s.al := allAl_one h
  show orB (orB 0 s.al) s.al = s.al
  rw [h0]
  unfold orB
  rw [Nat.or_self]
  omega
end AG

/- Plain: words as lists: prefixes, restrictions of restrictions, lists of systems in another order, words that are merged. -/
namespace AG

/-- Alphabets of lists of systems: order counts for nothing, a system's letters are among them. -/
theorem Has_ext {a b : Int} (ha : 0 ≤ a ∧ a ≤ 63) (hb : 0 ≤ b ∧ b ≤ 63) (h : ∀ c, Has a c = Has b c) : a = b := by
  obtain ⟨a, rfl⟩ := Int.eq_ofNat_of_zero_le ha.1
  obtain ⟨b, rfl⟩ := Int.eq_ofNat_of_zero_le hb.1
  have : a = b := Nat.eq_of_testBit_eq fun i => by have := h i; rwa [Has_nat, Has_nat] at this
  rw [this]
theorem Has_part {ss : List Sy} {s : Sy} (hall : ss.all sysOk = true) (hs : s ∈ ss) (c : Nat) (h : Has s.al c = true) : Has (allAl ss) c = true := by
  rw [(Has_all ss c hall).1]
  refine decide_eq_true ?_
  unfold cntAl
  exact List.countP_pos_iff.2 ⟨s, hs, h⟩
theorem alphaOk_range {a : Int} : alphaOk a = true ↔ 0 ≤ a ∧ a ≤ 63 := by unfold alphaOk; exact decide_eq_true_iff
end AG

/- Plain: the words over some letters in their order, and the first trace outside among them. -/
namespace Go.Proofs.YtdkjnemakkppfaaDoor
open AG

theorem letters_ok {A : Int} {l : Nat} : l ∈ letters A ↔ l < 6 ∧ Has A l = true := by
  unfold letters lettersTo
  rw [List.mem_filter, List.mem_range]
end Go.Proofs.YtdkjnemakkppfaaDoor

/- The program's tableOf. -/
namespace Go.Proofs.YtdkjnemakkppfaaDoor
open Go.RowKit Go.BigFrame AG

/-- The table of an automaton: where each letter leads from each of n states. -/
def TabA (w : World) (g n : Nat) (a : Au) : Prop := g < w.heap.size ∧ ∀ q l, q < n → l < 6 → w.cell? ⟨g, q * 6 + l, none⟩ = some (.int .i64 (goA a q l : Nat))
theorem TabA.later {w w' : World} {g n : Nat} {a : Au} (h : TabA w g n a) (hb : Below w.heap.size w w') : TabA w' g n a := ⟨Nat.lt_of_lt_of_le h.1 hb.size, fun q l h1 h2 => by rw [hb.cell (by simpa using h.1)]; exact h.2 q l h1 h2⟩
/-- Every row has as many entries as there are letters, and they are no negative numbers. -/
def tabOk (a : Au) : Prop := ∀ r ∈ a.nx, r.length = (letters a.al).length ∧ ∀ q ∈ r, 0 ≤ q
/-- .. when i letters of the row have been entered. -/
def goK (a : Au) (q i l : Nat) : Int := if l ∈ (letters a.al).take i then (a.nx.getD q []).getD ((letters a.al).idxOf l) 0 else (q : Int)
theorem goK_done {a : Au} (h : tabOk a) {q l : Nat} (hq : q < a.nx.length) : goK a q (letters a.al).length l = ((goA a q l : Nat) : Int) := by
  unfold goK goA
  rw [List.take_length]
  split
  · rename_i hl
    have hg : a.nx.getD q [] = a.nx[q] := by rw [List.getD_eq_getElem?_getD, List.getElem?_eq_getElem hq]; rfl
    obtain ⟨h1, h2⟩ := h a.nx[q] (List.getElem_mem _)
    have hk : (letters a.al).idxOf l < (a.nx[q]).length := by rw [h1]; exact List.idxOf_lt_length_iff.2 hl
    rw [hg]
    have : (a.nx[q]).getD ((letters a.al).idxOf l) 0 = (a.nx[q])[(letters a.al).idxOf l] := by rw [List.getD_eq_getElem?_getD, List.getElem?_eq_getElem hk]; rfl
    rw [this, Int.toNat_of_nonneg (h2 _ (List.getElem_mem _))]
  · rfl
/-- The cells of the table: q rows are done, of the next one those that f says. -/
structure TabSt (cs : Array Value) (n : Nat) (a : Au) (q : Nat) (f : Nat → Option Int) : Prop where
  size : cs.size = n * 6
  rows : ∀ p l, p < q → l < 6 → cs[p * 6 + l]? = some (.int .i64 (goA a p l : Nat))
  row : ∀ l v, l < 6 → f l = some v → cs[q * 6 + l]? = some (.int .i64 v)
theorem TabSt.set_ {cs : Array Value} {n : Nat} {a : Au} {q l : Nat} {f f' : Nat → Option Int} {v : Int} (h : TabSt cs n a q f) (hq : q < n) (hl : l < 6) (hf : ∀ k, k ≠ l → f' k = f k) (hv : f' l = some v) : TabSt (cs.setIfInBounds (q * 6 + l) (.int .i64 v)) n a q f' := by
  refine ⟨by simpa using h.size, fun p k hp hk => ?_, fun k u hk hu => ?_⟩
  · rw [Array.getElem?_setIfInBounds_ne (by omega)]
    exact h.rows p k hp hk
  · by_cases e : k = l
    · subst e
      rw [hv] at hu
      injection hu with hu
      subst hu
      rw [Array.getElem?_setIfInBounds_self_of_lt (by rw [h.size]; omega)]
    · rw [Array.getElem?_setIfInBounds_ne (by omega)]
      exact h.row k u hk (by rw [← hf k e]; exact hu)
theorem TabSt.over {cs : Array Value} {n : Nat} {a : Au} {q : Nat} (h : TabSt cs n a q (fun l => some (goK a q (letters a.al).length l))) (ht : tabOk a) (hq : q < a.nx.length) : TabSt cs n a (q + 1) (fun _ => none) := by
  refine ⟨h.size, fun p l hp hl => ?_, fun l v _ hv => by cases hv⟩
  by_cases e : p = q
  · subst e
    rw [h.row l _ hl rfl, goK_done ht hq]
  · exact h.rows p l (by omega) hl

end Go.Proofs.YtdkjnemakkppfaaDoor

/- Letters of words: the reference's l1At, the program's letterAt. -/
namespace Go.Proofs.YtdkjnemakkppfaaDoor
open Go.RowKit Go.BigFrame AG

theorem byte_at (s : ByteArray) (i : Nat) (h : i < s.size) : ((s[i]'h).toNat : Int) = lz s i + 97 := by
  unfold lz
  have : s.data.getD i 0 = s[i]'h := by
    rw [Array.getD_eq_getD_getElem?, Array.getElem?_eq_getElem (by simpa using h)]
    rfl
  rw [this]
  omega

set_option maxHeartbeats 400000 in
theorem l1At_any (s : ByteArray) (i : Nat) (w : World) (h : i < s.size) :
    Calls Tryd.prog 137 #[.string s, .int .i64 i] w fun e w' => e = .returned (.int .i64 (lz s i)) ∧ w = w' := by
  have hb := byte_at s i h
  have hr := lz_range s i
  have h0 : (0 : Int) ≤ (i : Int) ∧ (i : Int) < (s.size : Int) := by omega
  go_enter Tryd.func137, Tryd.ntmps137
  go_wp2
  go_ret
  exact ⟨rfl, rfl⟩

end Go.Proofs.YtdkjnemakkppfaaDoor

/- The program's search: firstPath. -/
namespace Go.Proofs.YtdkjnemakkppfaaDoor
open Go.RowKit Go.BigFrame AG

theorem PathOk.of {I : Nat → Prop} {L : List Nat} {nx : Nat → Nat → List Nat} {G : Nat → Prop} {ss : List StV} {ws : List (List Nat)} {i k : Nat} (h : Bfs I L nx G (ss.map (·.st)) ws i k) (hL6 : ∀ l ∈ L, l < 6) : PathOk ss ws := by
  refine ⟨by rw [h.len]; simp, h.zero, fun h0 => ?_, fun j hj hj' h0 => ?_⟩
  · have := h.root (by simpa using h0)
    simpa using this
  · obtain ⟨p, q, hpj, _, h1, hp, hq, h2, hw⟩ := h.link j (by simpa using hj) hj' h0
    simp only [List.getElem_map] at h1 h2
    exact ⟨p, hpj, h1, by rw [h2]; exact hL6 _ (List.getElem_mem _), hp, by rw [hw, h2]⟩
theorem PathOk.add {ss : List StV} {ws : List (List Nat)} (h : PathOk ss ws) {i l : Nat} (hi : i < ws.length) (hl : l < 6) (x : StV) (hx : x.st.par = (i : Int)) (hx' : x.st.let_ = l) : PathOk (ss ++ [x]) (ws ++ [l :: ws[i]]) := by
  have hlen := h.len
  have hpos : 0 < ws.length := by omega
  refine ⟨by simp [hlen], fun h0 => ?_, fun h0 => ?_, fun j hj hj' h0 => ?_⟩
  · rw [List.getElem_append_left hpos]; exact h.zero hpos
  · rw [List.getElem_append_left (by omega)]; exact h.root (by omega)
  · by_cases e : j < ws.length
    · obtain ⟨p, hpj, h1, h2, hp, hw⟩ := h.link j (by omega) e h0
      refine ⟨p, hpj, ?_, ?_, by simp; omega, ?_⟩
      · rw [List.getElem_append_left (by omega)]; exact h1
      · rw [List.getElem_append_left (by omega)]; exact h2
      · rw [List.getElem_append_left e, List.getElem_append_left hp, List.getElem_append_left (by omega)]; exact hw
    · obtain rfl : j = ws.length := by simp at hj'; omega
      refine ⟨i, hi, ?_, ?_, by simp; omega, ?_⟩
      · simp [hlen, hx]
      · simp [hlen, hx', hl]
      · rw [List.getElem_append_left hi]
        simp [hlen, hx']

theorem FPst.later {w w1 w2 : World} {size : Nat} {gv : Value} {bS bG bP gS : Nat} {sv : Value} {ss : List StV} {S : Nat → Bool} (h : FPst w w1 size gv bS bG bP gS sv ss S) (hb : Below w1.heap.size w1 w2) : FPst w w2 size gv bS bG bP gS sv ss S := by
  obtain ⟨cs, hc, hs⟩ := h.seen
  have hk : KeepB (fun b => b = gS) w1 w2 := .of_below hb
  exact h.keep hk (hc.below hb hc.lt) hs

theorem seen_start (size : Nat) : SeenAt (madeCells #[.bool false] size) size (fun _ => false) := by
  refine ⟨by simp [madeCells], fun n hn => ?_⟩
  have h1 := toList_madeCells_one (Value.bool false) size
  rw [← Array.getElem?_toList, h1, List.getElem?_replicate, if_pos hn]

end Go.Proofs.YtdkjnemakkppfaaDoor

/- Plain: the system of an automaton: its accepting states, and the letters that lead from one to another. -/
namespace Go.Proofs.YtdkjnemakkppfaaDoor
open AG

theorem letters_len6 (A : Int) : (letters A).length ≤ 6 := lettersTo_len A 6
end Go.Proofs.YtdkjnemakkppfaaDoor

/- Plain: systems of automata: their traces, their automata, projections in steps; deterministic systems. -/
namespace Go.Proofs.YtdkjnemakkppfaaDoor
open AG

theorem step_back {s : Sy} {S l t : Nat} (h : (stepSet s S l).testBit t = true) : ∃ e ∈ s.es, e.l = (l : Int) ∧ S.testBit e.f.toNat = true ∧ e.t.toNat = t := by
  unfold stepSet at h
  exact ((bitsOf_testBit _ 16 t).1 h).2
theorem step_fwd {s : Sy} (hs : sysOk s = true) {S : Nat} {e : Ed} (he : e ∈ s.es) (h : S.testBit e.f.toNat = true) : (stepSet s S (e.l.toNat : Nat)).testBit e.t.toNat = true := by
  obtain ⟨_, _, h3, h4, h5, _⟩ := sysOk_in hs e he
  unfold stepSet
  exact (bitsOf_testBit _ 16 _).2 ⟨by omega, e, he, by omega, h, rfl⟩
theorem ne_zero_bit {S : Nat} (h : S ≠ 0) : ∃ q, S.testBit q = true := Nat.exists_testBit_of_ne_zero h
theorem detB_iff (s : Sy) : detB s = true ↔ sysOk s = true ∧ detAt s (reachAll s) s.es.length := by unfold detB; simp
/-- In a deterministic system a word leads to one state at most. -/
theorem det_one {s : Sy} (h : detB s = true) : ∀ r : List Nat, setW s r = 0 ∨ ∃ q, q < 16 ∧ setW s r = 2 ^ q ∧ (reachAll s).testBit q = true := by
  have hs : sysOk s = true := ((detB_iff s).1 h).1
  have hd : DetP s := (detAt_iff hs).1 ((detB_iff s).1 h).2
  intro r
  induction r with
  | nil => exact .inr ⟨0, by omega, rfl, reach_zero⟩
  | cons l r ih =>
    have hdef : setW s (l :: r) = stepSet s (setW s r) (l : Nat) := rfl
    by_cases h0 : setW s (l :: r) = 0
    · exact .inl h0
    · right
      rcases ih with h1 | ⟨q, hq, h1, hR⟩
      · rw [hdef, h1, stepSet_zero] at h0
        exact absurd rfl h0
      · rw [hdef] at h0 ⊢
        obtain ⟨t, ht⟩ := ne_zero_bit h0
        obtain ⟨e, he, e1, e2, rfl⟩ := step_back ht
        have hef : e.f.toNat = q := by
          rw [h1, Nat.testBit_two_pow, decide_eq_true_eq] at e2
          exact e2.symm
        obtain ⟨g1, g2, g3, g4, _⟩ := sysOk_in hs e he
        refine ⟨e.t.toNat, by omega, ?_, reach_step hs he (by rw [hef]; exact hR)⟩
        refine Nat.eq_of_testBit_eq fun j => ?_
        rw [Nat.testBit_two_pow, Bool.eq_iff_iff, decide_eq_true_eq]
        constructor
        · intro hj
          obtain ⟨e', he', e1', e2', rfl⟩ := step_back hj
          have hef' : e'.f.toNat = q := by
            rw [h1, Nat.testBit_two_pow, decide_eq_true_eq] at e2'
            exact e2'.symm
          obtain ⟨g1', _⟩ := sysOk_in hs e' he'
          have := hd e he e' he' (by rw [hef]; exact hR) (by omega) (by rw [e1, e1'])
          rw [this]
        · rintro rfl
          exact ht
/-- Every reached state is reached by a word. -/
theorem reach_word {s : Sy} (hs : sysOk s = true) {q : Nat} (h : (reachAll s).testBit q = true) : ∃ r : List Nat, (∀ l ∈ r, l ∈ letters s.al) ∧ (setW s r).testBit q = true := by
  have h1 := ((reach_bit q).1 h).2
  refine h1 (fun q => ∃ r : List Nat, (∀ l ∈ r, l ∈ letters s.al) ∧ (setW s r).testBit q = true) (fun x hx => ⟨[], by simp, hx⟩) fun e he _ hf => ?_
  obtain ⟨r, r1, r2⟩ := hf
  obtain ⟨_, _, _, _, h5, h6, h7, _⟩ := sysOk_in hs e he
  refine ⟨e.l.toNat :: r, fun l hl => ?_, step_fwd hs he r2⟩
  rcases List.mem_cons.1 hl with rfl | hl
  · exact letters_ok.2 ⟨by omega, h7⟩
  · exact r1 l hl
end Go.Proofs.YtdkjnemakkppfaaDoor

/- Plain: lists numbered by first occurrence; a numbering of nodes under a map that may join nodes. -/
namespace AG


theorem snoc_ind {α : Type} {P : List α → Prop} (h0 : P []) (h1 : ∀ l x, P l → P (l ++ [x])) (l : List α) : P l := by
  have : ∀ n, ∀ l : List α, l.length = n → P l := by
    intro n
    induction n with
    | zero => intro l hl; rw [List.eq_nil_of_length_eq_zero hl]; exact h0
    | succ n ih =>
      intro l hl
      have hne : l ≠ [] := fun e => by rw [e] at hl; simp at hl
      rw [← List.dropLast_concat_getLast hne]
      exact h1 _ _ (ih _ (by rw [List.length_dropLast]; omega))
  exact this _ l rfl

section
variable {α β : Type} [DecidableEq α] [DecidableEq β]
def addD (ns : List α) (x : α) : List α := if x ∈ ns then ns else ns ++ [x]
/-- Without repeats, in the order of first occurrence. -/
def dd (ks : List α) : List α := ks.foldl addD []
theorem dd_snoc (ks : List α) (k : α) : dd (ks ++ [k]) = addD (dd ks) k := by unfold dd; rw [List.foldl_append]; rfl
theorem addD_mem {ns : List α} {x y : α} : y ∈ addD ns x ↔ y ∈ ns ∨ y = x := by
  unfold addD
  split
  · rename_i h
    exact ⟨.inl, fun h2 => h2.elim id fun e => e ▸ h⟩
  · rw [List.mem_append, List.mem_singleton]
theorem dd_mem (ks : List α) (x : α) : x ∈ dd ks ↔ x ∈ ks := by
  induction ks using snoc_ind with
  | h0 => simp [dd]
  | h1 l y ih => rw [dd_snoc, addD_mem, List.mem_append, List.mem_singleton, ih]
end

end AG

/- The program's CountAccepted. -/
namespace Go.Proofs.YtdkjnemakkppfaaDoor
open Go.RowKit Go.BigFrame AG

/-- A list of n numbers in a block: those below q are what f says. -/
structure NumsIn (cs : Array Value) (n : Nat) (f : Nat → Nat) : Prop where
  size : cs.size = n
  at_ : ∀ p, p < n → cs[p]? = some (.int .i64 (f p : Nat))
theorem NumsIn.set_ {cs : Array Value} {n : Nat} {f f' : Nat → Nat} {p : Nat} {v : Int} (h : NumsIn cs n f) (hp : p < n) (hv : v = ((f' p : Nat) : Int)) (ho : ∀ q, q ≠ p → f' q = f q) : NumsIn (cs.setIfInBounds p (.int .i64 v)) n f' := by
  refine ⟨by simpa using h.size, fun q hq => ?_⟩
  by_cases e : q = p
  · subst e
    rw [Array.getElem?_setIfInBounds_self_of_lt (by rw [h.size]; exact hq), hv]
  · rw [Array.getElem?_setIfInBounds_ne (Ne.symm e), h.at_ q hq, ho q e]

theorem NumsIn.congr {cs : Array Value} {n : Nat} {f f' : Nat → Nat} (h : NumsIn cs n f) (e : ∀ p, f p = f' p) : NumsIn cs n f' := by
  have : f = f' := funext e
  rw [← this]
  exact h
end Go.Proofs.YtdkjnemakkppfaaDoor

/- The program's search in two automata: firstOfBoth, FirstOutside, LanguageWithin. -/
namespace Go.Proofs.YtdkjnemakkppfaaDoor
open Go.RowKit Go.BigFrame AG

theorem wrap_addN (a b : Nat) (h : a + b < 9223372036854775807) : wrap64 ((a : Int) + (b : Int)) = ((a + b : Nat) : Int) := by
  rw [← Int.natCast_add]
  exact IntWalk.wrap64_in _ ⟨by omega, by omega⟩

end Go.Proofs.YtdkjnemakkppfaaDoor

/- The program's FirstTraceOutside: its closures. -/
namespace Go.Proofs.YtdkjnemakkppfaaDoor
open Go.RowKit Go.BigFrame AG

theorem tmod_nat (a b : Nat) : Int.tmod (a : Int) (b : Int) = ((a % b : Nat) : Int) := by
  rw [Int.tmod_eq_emod_of_nonneg (by omega)]
  exact (Int.natCast_emod a b).symm
theorem tdiv_nat (a b : Nat) : Int.tdiv (a : Int) (b : Int) = ((a / b : Nat) : Int) := by
  rw [Int.tdiv_eq_ediv_of_nonneg (by omega)]
  exact (Int.natCast_ediv a b).symm

end Go.Proofs.YtdkjnemakkppfaaDoor
