/- Lemmas, part 5: several texts in one. -/
import Derived.Test.YtkoganldcmhopaaDoorL1
import Derived.Test.YtkoganldcmhopaaDoorL4
import Derived.Test.YtkoganldcmhopaaDoorL3
import Derived.Test.YtkoganldcmhopaaDoorL2
set_option linter.unusedSimpArgs false
set_option linter.unusedVariables false

/- Plain: lists numbered by first occurrence; a numbering of nodes under a map that may join nodes. -/
namespace AG


theorem snoc_ind {α : Type} {P : List α → Prop} (h0 : P []) (h1 : ∀ l x, P l → P (l ++ [x])) (l : List α) : P l := by
  have : ∀ n, ∀ l : List α, l.length = n → P l := by
    intro n
    induction n with
    | zero => intro l hl; rw [List.eq_nil_of_length_eq_zero hl]; exact h0
    | succ n ih =>
      intro l hl
      have hne : l ≠ [] := fun e => by rw [e] at hl; simp at hl
      rw [← List.dropLast_concat_getLast hne]
      exact h1 _ _ (ih _ (by rw [List.length_dropLast]; omega))
  exact this _ l rfl

section
variable {α β : Type} [DecidableEq α] [DecidableEq β]
def addD (ns : List α) (x : α) : List α := if x ∈ ns then ns else ns ++ [x]
/-- Without repeats, in the order of first occurrence. -/
def dd (ks : List α) : List α := ks.foldl addD []
def numb (ks : List α) : List Nat := ks.map fun k => (dd ks).idxOf k
theorem dd_snoc (ks : List α) (k : α) : dd (ks ++ [k]) = addD (dd ks) k := by unfold dd; rw [List.foldl_append]; rfl
theorem addD_old {ns : List α} {x : α} (h : x ∈ ns) : addD ns x = ns := if_pos h
theorem addD_new {ns : List α} {x : α} (h : x ∉ ns) : addD ns x = ns ++ [x] := if_neg h
theorem addD_mem {ns : List α} {x y : α} : y ∈ addD ns x ↔ y ∈ ns ∨ y = x := by
  unfold addD
  split
  · rename_i h
    exact ⟨.inl, fun h2 => h2.elim id fun e => e ▸ h⟩
  · rw [List.mem_append, List.mem_singleton]
theorem addD_pre (ns : List α) (x : α) : ∃ m, addD ns x = ns ++ m := by
  unfold addD
  split
  · exact ⟨[], by simp⟩
  · exact ⟨[x], rfl⟩
theorem dd_append (ks ms : List α) : ∃ m, dd (ks ++ ms) = dd ks ++ m := by
  induction ms generalizing ks with
  | nil => exact ⟨[], by simp⟩
  | cons x ms ih =>
    obtain ⟨m, h⟩ := ih (ks ++ [x])
    obtain ⟨m', h'⟩ := addD_pre (dd ks) x
    rw [List.append_assoc] at h
    refine ⟨m' ++ m, ?_⟩
    rw [show ks ++ x :: ms = ks ++ ([x] ++ ms) from rfl, h, dd_snoc, h', List.append_assoc]
theorem dd_mem (ks : List α) (x : α) : x ∈ dd ks ↔ x ∈ ks := by
  induction ks using snoc_ind with
  | h0 => simp [dd]
  | h1 l y ih => rw [dd_snoc, addD_mem, List.mem_append, List.mem_singleton, ih]
theorem dd_nodup (ks : List α) : (dd ks).Nodup := by
  induction ks using snoc_ind with
  | h0 => simp [dd]
  | h1 l y ih =>
    rw [dd_snoc]
    unfold addD
    split
    · exact ih
    · rename_i h
      rw [List.nodup_append]
      exact ⟨ih, by simp, fun a ha b hb e => h (by rw [List.mem_singleton] at hb; rw [← hb, ← e]; exact ha)⟩
theorem dd_len (ks : List α) : (dd ks).length ≤ ks.length := by
  induction ks using snoc_ind with
  | h0 => simp [dd]
  | h1 l y ih =>
    rw [dd_snoc]
    unfold addD
    split
    · rw [List.length_append]; omega
    · rw [List.length_append, List.length_append]; simp; omega
theorem idx_pre {ns m : List α} {x : α} (h : x ∈ ns) : (ns ++ m).idxOf x = ns.idxOf x := by
  rw [List.idxOf_append, if_pos h]
theorem numb_len (ks : List α) : (numb ks).length = ks.length := by unfold numb; rw [List.length_map]
theorem numb_get (ks : List α) {i : Nat} (h : i < ks.length) : (numb ks)[i]'(by rw [numb_len]; exact h) = (dd ks).idxOf ks[i] := by unfold numb; rw [List.getElem_map]
theorem numb_getD (ks : List α) {i : Nat} (h : i < ks.length) : (numb ks).getD i 0 = (dd ks).idxOf ks[i] := by
  rw [List.getD_eq_getElem?_getD, List.getElem?_eq_getElem (by rw [numb_len]; exact h), numb_get ks h]
  rfl
theorem numb_lt (ks : List α) {i : Nat} (h : i < ks.length) : (numb ks).getD i 0 < (dd ks).length := by
  rw [numb_getD ks h]
  exact List.idxOf_lt_length_iff.2 ((dd_mem _ _).2 (List.getElem_mem h))
/-- The numbers are alike where the keys are. -/
theorem numb_eq (ks : List α) {i j : Nat} (hi : i < ks.length) (hj : j < ks.length) : (numb ks).getD i 0 = (numb ks).getD j 0 ↔ ks[i] = ks[j] := by
  rw [numb_getD ks hi, numb_getD ks hj]
  constructor
  · intro h
    have h1 := List.getElem_idxOf (List.idxOf_lt_length_iff.2 ((dd_mem ks _).2 (List.getElem_mem hi)))
    have h2 := List.getElem_idxOf (List.idxOf_lt_length_iff.2 ((dd_mem ks _).2 (List.getElem_mem hj)))
    rw [← h1, ← h2]
    simp only [h]
  · intro h; rw [h]
/-- The next number: old keys have theirs, a new key gets the next one. -/
theorem numb_snoc (ks : List α) (k : α) : numb (ks ++ [k]) = numb ks ++ [if k ∈ ks then (dd ks).idxOf k else (dd ks).length] := by
  unfold numb
  rw [List.map_append, dd_snoc]
  congr 1
  · refine List.map_congr_left fun x hx => ?_
    obtain ⟨m, h⟩ := addD_pre (dd ks) k
    rw [h, idx_pre ((dd_mem _ _).2 hx)]
  · rw [List.map_singleton]
    by_cases h : k ∈ ks
    · rw [if_pos h, addD_old ((dd_mem _ _).2 h)]
    · rw [if_neg h, addD_new (fun h2 => h ((dd_mem _ _).1 h2)), List.idxOf_append, if_neg (fun h2 => h ((dd_mem _ _).1 h2))]
      simp
theorem dd_map {g : α → β} {ks : List α} (hg : ∀ a ∈ ks, ∀ b ∈ ks, g a = g b → a = b) : dd (ks.map g) = (dd ks).map g := by
  induction ks using snoc_ind with
  | h0 => rfl
  | h1 l y ih =>
    have ih := ih fun a ha b hb => hg a (List.mem_append_left _ ha) b (List.mem_append_left _ hb)
    rw [List.map_append, List.map_singleton, dd_snoc, dd_snoc, ih]
    by_cases h : y ∈ dd l
    · rw [addD_old h, addD_old (List.mem_map_of_mem h)]
    · rw [addD_new h, addD_new, List.map_append, List.map_singleton]
      intro h2
      obtain ⟨z, hz, e⟩ := List.mem_map.1 h2
      have := hg z (List.mem_append_left _ ((dd_mem _ _).1 hz)) y (by simp) e
      rw [this] at hz
      exact h hz
theorem idx_map {g : α → β} {x : α} : ∀ {ns : List α}, (∀ a ∈ ns, g a = g x → a = x) → (ns.map g).idxOf (g x) = ns.idxOf x
  | [], _ => rfl
  | a :: ns, h => by
    have ih := idx_map fun b hb => h b (List.mem_cons_of_mem _ hb)
    rw [List.map_cons, List.idxOf_cons, List.idxOf_cons, ih]
    by_cases e : a = x
    · subst e; simp
    · have : g a ≠ g x := fun e' => e (h a List.mem_cons_self e')
      rw [beq_false_of_ne e, beq_false_of_ne this]
theorem numb_map {g : α → β} {ks : List α} (hg : ∀ a ∈ ks, ∀ b ∈ ks, g a = g b → a = b) : numb (ks.map g) = numb ks := by
  unfold numb
  rw [dd_map hg, List.map_map]
  refine List.map_congr_left fun x hx => ?_
  exact idx_map fun a ha => hg a ((dd_mem _ _).1 ha) x hx
theorem dd_len_map {g : α → β} {ks : List α} (hg : ∀ a ∈ ks, ∀ b ∈ ks, g a = g b → a = b) : (dd (ks.map g)).length = (dd ks).length := by rw [dd_map hg, List.length_map]
/-- Lists of keys that are alike at the same places get the same numbers. -/
theorem numb_kernel {ks : List α} {ms : List β} (hl : ks.length = ms.length) (h : ∀ i j (hi : i < ks.length) (hj : j < ks.length), ks[i] = ks[j] ↔ ms[i]'(by omega) = ms[j]'(by omega)) : numb ks = numb ms ∧ (dd ks).length = (dd ms).length := by
  by_cases h0 : ks.length = 0
  · have e1 := List.eq_nil_of_length_eq_zero h0
    have e2 : ms = [] := List.eq_nil_of_length_eq_zero (by omega)
    subst e1 e2
    exact ⟨rfl, rfl⟩
  · have hpos : 0 < ms.length := by omega
    have hms : ms = ks.map fun k => ms.getD (ks.idxOf k) (ms[0]'hpos) := by
      refine List.ext_getElem (by rw [List.length_map, hl]) fun i h1 h2 => ?_
      have hi : i < ks.length := by omega
      rw [List.getElem_map]
      have hj : ks.idxOf ks[i] < ks.length := List.idxOf_lt_length_iff.2 (List.getElem_mem hi)
      have he : ks[ks.idxOf ks[i]] = ks[i] := List.getElem_idxOf hj
      rw [List.getD_eq_getElem?_getD, List.getElem?_eq_getElem (by omega)]
      exact ((h _ _ hi hj).1 he.symm)
    have hg : ∀ a ∈ ks, ∀ b ∈ ks, ms.getD (ks.idxOf a) (ms[0]'hpos) = ms.getD (ks.idxOf b) (ms[0]'hpos) → a = b := by
      intro a ha b hb e
      have h1 : ks.idxOf a < ks.length := List.idxOf_lt_length_iff.2 ha
      have h2 : ks.idxOf b < ks.length := List.idxOf_lt_length_iff.2 hb
      rw [List.getD_eq_getElem?_getD, List.getD_eq_getElem?_getD, List.getElem?_eq_getElem (by omega), List.getElem?_eq_getElem (by omega)] at e
      have := (h _ _ h1 h2).2 e
      rwa [List.getElem_idxOf, List.getElem_idxOf] at this
    have k1 := numb_map hg
    have k2 := dd_len_map hg
    rw [← hms] at k1 k2
    exact ⟨k1.symm, k2.symm⟩
end

theorem addD_addN (ns : List Nat) (x : Nat) : addD ns x = addN ns x := rfl
theorem dd_addN (f : Nat → Nat) (ns : List Nat) (x : Nat) : dd ((addN ns x).map f) = addN (dd (ns.map f)) (f x) := by
  by_cases h : x ∈ ns
  · rw [show addN ns x = ns from if_pos h, ← addD_addN, addD_old ((dd_mem _ _).2 (List.mem_map_of_mem h))]
  · rw [show addN ns x = ns ++ [x] from if_neg h, List.map_append, List.map_singleton, dd_snoc, addD_addN]
theorem dd_rowN {f : Nat → Nat} {nx nx' : Nat → Nat → Nat} {a : Nat} : ∀ (L ns : List Nat), (∀ l ∈ L, nx' (f a) l = f (nx a l)) → dd ((rowN nx a ns L).map f) = rowN nx' (f a) (dd (ns.map f)) L
  | [], ns, _ => rfl
  | l :: L, ns, h => by
    show dd ((rowN nx a (addN ns (nx a l)) L).map f) = rowN nx' (f a) (addN (dd (ns.map f)) (nx' (f a) l)) L
    rw [dd_rowN L _ fun k hk => h k (List.mem_cons_of_mem _ hk), dd_addN, h l List.mem_cons_self]
theorem rowN_old {nx : Nat → Nat → Nat} {a : Nat} : ∀ (L ns : List Nat), (∀ l ∈ L, nx a l ∈ ns) → rowN nx a ns L = ns
  | [], _, _ => rfl
  | l :: L, ns, h => by
    show rowN nx a (addN ns (nx a l)) L = ns
    rw [show addN ns (nx a l) = ns from if_pos (h l List.mem_cons_self)]
    exact rowN_old L ns fun k hk => h k (List.mem_cons_of_mem _ hk)

/-- The nodes of the image, when i nodes have been gone through. -/
structure ImgAt (f : Nat → Nat) (nx nx' : Nat → Nat → Nat) (L : List Nat) (n0 i j : Nat) : Prop where
  all : dd ((nsAt nx L n0 i).map f) = nsAt nx' L (f n0) j
  done : dd (((nsAt nx L n0 i).take i).map f) = (nsAt nx' L (f n0) j).take j
  le : j ≤ (nsAt nx' L (f n0) j).length
  closed : ∀ a ∈ (nsAt nx L n0 i).take i, ∀ l ∈ L, f (nx a l) ∈ dd ((nsAt nx L n0 i).map f)
theorem imgAt {f : Nat → Nat} {nx nx' : Nat → Nat → Nat} {P : Nat → Prop} {L : List Nat} {n0 : Nat} (h0 : P n0) (hs : ∀ a, P a → ∀ l ∈ L, P (nx a l) ∧ nx' (f a) l = f (nx a l)) : ∀ i, ∃ j, j ≤ i ∧ ImgAt f nx nx' L n0 i j
  | 0 => ⟨0, Nat.le_refl _, ⟨rfl, rfl, Nat.zero_le _, fun a h => by simp at h⟩⟩
  | i + 1 => by
    obtain ⟨j, hji, hI⟩ := imgAt h0 hs i
    by_cases hi : i < (nsAt nx L n0 i).length
    · have hPa : P (nsAt nx L n0 i)[i] := nsAt_all h0 (fun a ha l hl => (hs a ha l hl).1) i _ (List.getElem_mem hi)
      obtain ⟨a, ha⟩ : ∃ a, a = (nsAt nx L n0 i)[i] := ⟨_, rfl⟩
      rw [← ha] at hPa
      have hN : nsAt nx L n0 (i + 1) = rowN nx a (nsAt nx L n0 i) L := by rw [nsAt_succ hi, ha]
      have hall : dd ((nsAt nx L n0 (i + 1)).map f) = rowN nx' (f a) (dd ((nsAt nx L n0 i).map f)) L := by
        rw [hN, dd_rowN L _ fun l hl => (hs a hPa l hl).2]
      have htake : (nsAt nx L n0 (i + 1)).take (i + 1) = (nsAt nx L n0 i).take i ++ [a] := by
        obtain ⟨m, hm⟩ := rowN_pre nx a L (nsAt nx L n0 i)
        rw [hN, hm, List.take_append_of_le_length (by omega), List.take_succ_eq_append_getElem hi, ha]
      have hpre : ∃ m, dd ((nsAt nx L n0 i).map f) = addD (dd (((nsAt nx L n0 i).take i).map f)) (f a) ++ m := by
        have e : nsAt nx L n0 i = ((nsAt nx L n0 i).take i ++ [a]) ++ (nsAt nx L n0 i).drop (i + 1) := by
          have h1 : (nsAt nx L n0 i).take (i + 1) = (nsAt nx L n0 i).take i ++ [a] := by rw [List.take_succ_eq_append_getElem hi, ha]
          rw [← h1, List.take_append_drop]
        obtain ⟨m, hm⟩ := dd_append (((nsAt nx L n0 i).take i ++ [a]).map f) (((nsAt nx L n0 i).drop (i + 1)).map f)
        refine ⟨m, ?_⟩
        rw [← List.map_append, ← e] at hm
        rw [hm, List.map_append, List.map_singleton, dd_snoc]
      have hmono : ∀ y, y ∈ dd ((nsAt nx L n0 i).map f) → y ∈ dd ((nsAt nx L n0 (i + 1)).map f) := by
        intro y hy
        rw [hall]
        obtain ⟨m, hm⟩ := rowN_pre nx' (f a) L (dd ((nsAt nx L n0 i).map f))
        rw [hm]
        exact List.mem_append_left _ hy
      have hnew : ∀ l ∈ L, f (nx a l) ∈ dd ((nsAt nx L n0 (i + 1)).map f) := by
        intro l hl
        rw [dd_mem]
        refine List.mem_map_of_mem ?_
        have := nsAt_closed hi hl
        rw [← ha] at this
        exact this
      have hcl : ∀ b ∈ (nsAt nx L n0 (i + 1)).take (i + 1), ∀ l ∈ L, f (nx b l) ∈ dd ((nsAt nx L n0 (i + 1)).map f) := by
        intro b hb l hl
        rw [htake] at hb
        rcases List.mem_append.1 hb with hb | hb
        · exact hmono _ (hI.closed b hb l hl)
        · rw [List.mem_singleton.1 hb]
          exact hnew l hl
      by_cases hold : f a ∈ ((nsAt nx L n0 i).take i).map f
      · have hsame : rowN nx' (f a) (dd ((nsAt nx L n0 i).map f)) L = dd ((nsAt nx L n0 i).map f) := by
          refine rowN_old L _ fun l hl => ?_
          obtain ⟨b, hb, e⟩ := List.mem_map.1 hold
          have hPb : P b := nsAt_all h0 (fun a ha l hl => (hs a ha l hl).1) i b (List.mem_of_mem_take hb)
          rw [← e, (hs b hPb l hl).2]
          exact hI.closed b hb l hl
        refine ⟨j, by omega, ⟨by rw [hall, hsame, hI.all], ?_, hI.le, hcl⟩⟩
        rw [htake, List.map_append, List.map_singleton, dd_snoc, addD_old ((dd_mem _ _).2 hold), hI.done]
      · obtain ⟨m, hm⟩ := hpre
        rw [addD_new (fun h => hold ((dd_mem _ _).1 h)), hI.all, hI.done] at hm
        have hjl : ((nsAt nx' L (f n0) j).take j).length = j := by rw [List.length_take]; exact Nat.min_eq_left hI.le
        have hlen : j < (nsAt nx' L (f n0) j).length := by
          have := congrArg List.length hm
          rw [List.length_append, List.length_append, hjl] at this
          simp at this
          omega
        have hget : (nsAt nx' L (f n0) j)[j] = f a := by
          have h1 : (nsAt nx' L (f n0) j)[j]? = some (f a) := by
            rw [hm, List.append_assoc, List.getElem?_append_right (by omega), hjl]
            simp
          rw [List.getElem?_eq_getElem hlen] at h1
          injection h1
        have hsucc : nsAt nx' L (f n0) (j + 1) = rowN nx' (f a) (nsAt nx' L (f n0) j) L := by rw [nsAt_succ hlen, hget]
        refine ⟨j + 1, by omega, ⟨by rw [hall, hI.all, hsucc], ?_, ?_, hcl⟩⟩
        · rw [htake, List.map_append, List.map_singleton, dd_snoc, addD_new (fun h => hold ((dd_mem _ _).1 h)), hI.done]
          obtain ⟨m', hm'⟩ := rowN_pre nx' (f a) L (nsAt nx' L (f n0) j)
          rw [hsucc, hm', List.take_append_of_le_length (by omega), List.take_succ_eq_append_getElem hlen, hget]
        · obtain ⟨m', hm'⟩ := rowN_pre nx' (f a) L (nsAt nx' L (f n0) j)
          rw [hsucc, hm', List.length_append]
          omega
    · have e := nsAt_stop (nx := nx) (L := L) (n0 := n0) (i := i) (by omega) 1
      have e2 : (nsAt nx L n0 i).take (i + 1) = (nsAt nx L n0 i).take i := by rw [List.take_of_length_le (by omega), List.take_of_length_le (by omega)]
      refine ⟨j, by omega, ?_⟩
      refine ⟨by rw [e]; exact hI.all, by rw [e, e2]; exact hI.done, hI.le, ?_⟩
      rw [e, e2]
      exact hI.closed
/-- The numbering of the image is the image of the numbering, without repeats. -/
theorem numRes_img {f : Nat → Nat} {nx nx' : Nat → Nat → Nat} {P : Nat → Prop} {L : List Nat} {n0 lim lim' : Nat} {x : List Nat × List (List Nat)} (h0 : P n0) (hs : ∀ a, P a → ∀ l ∈ L, P (nx a l) ∧ nx' (f a) l = f (nx a l))
    (h : numRes nx L n0 lim = some x) (hl : (dd (x.1.map f)).length ≤ lim') : numRes nx' L (f n0) lim' = some (dd (x.1.map f), (dd (x.1.map f)).map (rowOf nx' L (dd (x.1.map f)))) := by
  obtain ⟨e1, e2, -⟩ := numRes_spec h
  have hlen := (numRes_len h).1
  obtain ⟨j, hj, hI⟩ := imgAt (L := L) h0 hs lim
  have hI1 := hI.all
  have hI2 := hI.done
  rw [← e1] at hI1 hI2
  rw [List.take_of_length_le hlen, hI1] at hI2
  have hle : (nsAt nx' L (f n0) j).length ≤ j := by
    have := congrArg List.length hI2
    rw [List.length_take] at this
    omega
  have hj2 : j ≤ lim' := by
    have := hI.le
    rw [hI1] at hl
    omega
  have hst := nsAt_stop hle (lim' - j)
  rw [show j + (lim' - j) = lim' by omega] at hst
  unfold numRes
  rw [hst, hI1, if_pos (by omega)]

end AG

/- Plain: the least automaton of a language: classes of states, their automaton, what is reached of it. -/
namespace Go.Proofs.YtkoganldcmhopaaDoor
open AG

noncomputable instance decLang : DecidableEq (List Nat → Prop) := fun _ _ => Classical.propDecidable _
/-- The words that lead from a state to an accepting one. -/
def resid (a : Au) (q : Nat) : List Nat → Prop := fun r => (∀ l ∈ r, l ∈ letters a.al) ∧ a.ac.getD (runA a q r) false = true
theorem runA_snoc (a : Au) (q l : Nat) : ∀ r : List Nat, runA a q (r ++ [l]) = runA a (goA a q l) r
  | [] => rfl
  | x :: r => by
    show goA a (runA a q (r ++ [l])) x = goA a (runA a (goA a q l) r) x
    rw [runA_snoc a q l r]
theorem resid_step {a : Au} {q l : Nat} (hl : l ∈ letters a.al) (r : List Nat) : resid a (goA a q l) r ↔ resid a q (r ++ [l]) := by
  unfold resid
  rw [runA_snoc]
  constructor
  · rintro ⟨h1, h2⟩
    refine ⟨fun x hx => ?_, h2⟩
    rcases List.mem_append.1 hx with hx | hx
    · exact h1 x hx
    · rw [List.mem_singleton.1 hx]; exact hl
  · rintro ⟨h1, h2⟩
    exact ⟨fun x hx => h1 x (List.mem_append_left _ hx), h2⟩
theorem resid_go {a : Au} {p q l : Nat} (hl : l ∈ letters a.al) (h : resid a p = resid a q) : resid a (goA a p l) = resid a (goA a q l) := by
  funext r
  exact propext ((resid_step hl r).trans (by rw [h]; exact (resid_step hl r).symm))
theorem resid_acc {a : Au} {p q : Nat} (h : resid a p = resid a q) : a.ac.getD p false = a.ac.getD q false := by
  have h1 : resid a p [] ↔ resid a q [] := by rw [h]
  unfold resid at h1
  simp only [List.not_mem_nil, false_implies, implies_true, true_and] at h1
  rw [Bool.eq_iff_iff]
  exact h1

noncomputable def clsL (a : Au) : List (List Nat → Prop) := (List.range a.nx.length).map (resid a)
/-- The classes of the states, numbered by first occurrence; how many there are. -/
noncomputable def clsA (a : Au) : List Nat := numb (clsL a)
noncomputable def clsC (a : Au) : Nat := (dd (clsL a)).length
noncomputable def cA (a : Au) (q : Nat) : Nat := (clsA a).getD q 0
theorem clsL_len (a : Au) : (clsL a).length = a.nx.length := by unfold clsL; simp
theorem clsL_get (a : Au) {q : Nat} (h : q < (clsL a).length) : (clsL a)[q] = resid a q := by
  show ((List.range a.nx.length).map (resid a))[q]'(by simpa [clsL] using h) = _
  rw [List.getElem_map, List.getElem_range]
theorem clsA_len (a : Au) : (clsA a).length = a.nx.length := by unfold clsA; rw [numb_len, clsL_len]
theorem cA_lt {a : Au} {q : Nat} (h : q < a.nx.length) : cA a q < clsC a := numb_lt _ (by rw [clsL_len]; exact h)
theorem cA_eq {a : Au} {p q : Nat} (hp : p < a.nx.length) (hq : q < a.nx.length) : cA a p = cA a q ↔ resid a p = resid a q := by
  unfold cA clsA
  rw [numb_eq _ (by rw [clsL_len]; exact hp) (by rw [clsL_len]; exact hq), clsL_get, clsL_get]
theorem clsC_le (a : Au) : clsC a ≤ a.nx.length := by
  unfold clsC
  have := dd_len (clsL a)
  rw [clsL_len] at this
  exact this
theorem clsA_get (a : Au) {q : Nat} (h : q < (clsA a).length) : (clsA a)[q] = cA a q := by
  unfold cA
  rw [List.getD_eq_getElem?_getD, List.getElem?_eq_getElem h]
  rfl
/-- The first state of a class. -/
noncomputable def repA (a : Au) (j : Nat) : Nat := (clsA a).idxOf j
theorem numb_hits {α : Type} [DecidableEq α] (ks : List α) {j : Nat} (h : j < (dd ks).length) : j ∈ numb ks := by
  have hm : (dd ks)[j] ∈ ks := (dd_mem _ _).1 (List.getElem_mem h)
  unfold numb
  exact List.mem_map.2 ⟨_, hm, (dd_nodup ks).idxOf_getElem j h⟩
theorem repA_lt {a : Au} {j : Nat} (h : j < clsC a) : repA a j < a.nx.length ∧ cA a (repA a j) = j := by
  have hm : j ∈ clsA a := numb_hits _ h
  have h1 : (clsA a).idxOf j < (clsA a).length := List.idxOf_lt_length_iff.2 hm
  refine ⟨by rw [clsA_len] at h1; exact h1, ?_⟩
  unfold repA
  rw [← clsA_get a h1, List.getElem_idxOf h1]
noncomputable def quotRow (a : Au) (j : Nat) : List Int := (a.nx.getD (repA a j) []).map fun t => ((cA a t.toNat : Nat) : Int)
/-- The automaton of the classes. -/
noncomputable def quotA (a : Au) : Au := ⟨a.al, (List.range (clsC a)).map (quotRow a), (List.range (clsC a)).map fun j => a.ac.getD (repA a j) false⟩
theorem quotA_len (a : Au) : (quotA a).nx.length = clsC a := by unfold quotA; simp
theorem clsC_pos {a : Au} (h : auOk a = true) : 1 ≤ clsC a := by
  have h1 := ((auOk_iff a).1 h).2.1
  have := cA_lt (a := a) (q := 0) (by omega)
  omega
theorem quotA_ok {a : Au} (h : auOk a = true) : auOk (quotA a) = true := by
  obtain ⟨h1, h2, h3, h4, h5⟩ := (auOk_iff a).1 h
  have h6 := clsC_le a
  have h7 := clsC_pos h
  refine (auOk_iff _).2 ⟨h1, by rw [quotA_len]; exact h7, by rw [quotA_len]; omega, by rw [quotA_len]; unfold quotA; simp, fun r hr => ?_⟩
  rw [quotA_len]
  unfold quotA at hr
  obtain ⟨j, hj, rfl⟩ := List.mem_map.1 hr
  rw [List.mem_range] at hj
  obtain ⟨g1, g2⟩ := repA_lt hj
  obtain ⟨e1, e2, e3⟩ := row_at h g1
  unfold quotRow
  rw [e1]
  refine ⟨by rw [List.length_map]; exact e2, fun q hq => ?_⟩
  obtain ⟨t, ht, rfl⟩ := List.mem_map.1 hq
  have := e3 t ht
  have := cA_lt (a := a) (q := t.toNat) (by omega)
  omega
theorem goA_quot {a : Au} (h : auOk a = true) {q l : Nat} (hq : q < a.nx.length) (hl : l ∈ letters a.al) : goA (quotA a) (cA a q) l = cA a (goA a q l) := by
  have hj := cA_lt hq
  obtain ⟨g1, g2⟩ := repA_lt hj
  have hr : resid a (repA a (cA a q)) = resid a q := (cA_eq g1 hq).1 g2
  have hgo := resid_go hl hr
  rw [← (cA_eq (goA_lt h g1) (goA_lt h hq)).2 hgo]
  obtain ⟨i, hi, rfl⟩ := List.getElem_of_mem hl
  obtain ⟨e1, e2, e3⟩ := row_at h g1
  have hjl : cA a q < (quotA a).nx.length := by rw [quotA_len]; exact hj
  have e : (quotA a).nx[cA a q]'hjl = quotRow a (cA a q) := by
    show ((List.range (clsC a)).map (quotRow a))[cA a q]'(by simpa using hj) = _
    rw [List.getElem_map, List.getElem_range]
  have hlen : i < ((quotA a).nx[cA a q]'hjl).length := by rw [e]; unfold quotRow; rw [List.length_map, e1]; omega
  have h1 := goA_at (quotA_ok h) hjl hi hlen
  have h3 : ((quotA a).nx[cA a q]'hjl)[i]'hlen = ((cA a (a.nx[repA a (cA a q)][i]'(by omega)).toNat : Nat) : Int) := by
    simp only [e]
    unfold quotRow
    simp only [e1, List.getElem_map]
  have h2 := goA_at h g1 hi (by omega)
  rw [h3, ← h2] at h1
  have h4 := Int.ofNat.inj h1
  rw [Int.toNat_natCast] at h4
  exact h4
theorem ac_quot {a : Au} {q : Nat} (hq : q < a.nx.length) : (quotA a).ac.getD (cA a q) false = a.ac.getD q false := by
  have hj := cA_lt hq
  obtain ⟨g1, g2⟩ := repA_lt hj
  have hr : resid a (repA a (cA a q)) = resid a q := (cA_eq g1 hq).1 g2
  rw [← resid_acc hr]
  unfold quotA
  dsimp only
  rw [getD_map_of_lt _ _ _ _ (by rw [List.length_range]; exact hj), List.getElem_range]
theorem cA_zero {a : Au} (h : auOk a = true) : cA a 0 = 0 := by
  have h1 := ((auOk_iff a).1 h).2.1
  unfold cA clsA
  rw [numb_getD _ (by rw [clsL_len]; omega)]
  obtain ⟨x, xs, e⟩ : ∃ x xs, clsL a = x :: xs := by
    cases hc : clsL a with
    | nil => have := clsL_len a; rw [hc] at this; simp at this; omega
    | cons x xs => exact ⟨x, xs, rfl⟩
  obtain ⟨m, hm⟩ := dd_append [x] xs
  have hd : dd (clsL a) = x :: m := by rw [e]; exact hm
  rw [hd]
  simp only [e]
  simp

/-- What is reached is some of the states. -/
theorem trimOpt_some {a : Au} (h : auOk a = true) : ∃ x, trimOpt a = some x := by
  have hall := nsAt_all (P := fun q => q < a.nx.length) (nx := goA a) (L := letters a.al) (n0 := 0) (by have := ((auOk_iff a).1 h).2.1; omega) (fun q hq l _ => goA_lt h hq) a.nx.length
  have := nodup_bound _ _ (nsAt_nodup (goA a) (letters a.al) 0 a.nx.length) hall
  unfold trimOpt numRes
  rw [if_pos this]
  exact ⟨_, rfl⟩
theorem trimOpt_lt {a : Au} (h : auOk a = true) {x : List Nat × List (List Nat)} (hx : trimOpt a = some x) : ∀ q ∈ x.1, q < a.nx.length := by
  rw [(numRes_spec hx).1]
  exact nsAt_all (P := fun q => q < a.nx.length) (by have := ((auOk_iff a).1 h).2.1; omega) (fun q hq l _ => goA_lt h hq) a.nx.length
theorem trimA_eq {a : Au} {x : List Nat × List (List Nat)} (hx : trimOpt a = some x) : trimA a = ⟨a.al, toRows x.2, x.1.map fun q => a.ac.getD q false⟩ := by unfold trimA; rw [hx]
theorem trimA_len {a : Au} {x : List Nat × List (List Nat)} (hx : trimOpt a = some x) : (trimA a).nx.length = x.1.length := by
  rw [trimA_eq hx]
  show (toRows x.2).length = _
  rw [toRows_len, (numRes_len hx).2.1]
theorem trimA_al {a : Au} (h : auOk a = true) : (trimA a).al = a.al := by
  obtain ⟨x, hx⟩ := trimOpt_some h
  rw [trimA_eq hx]
theorem trimA_le {a : Au} (h : auOk a = true) : (trimA a).nx.length ≤ a.nx.length := by
  obtain ⟨x, hx⟩ := trimOpt_some h
  rw [trimA_len hx]
  exact (numRes_len hx).1
theorem trimA_ok {a : Au} (h : auOk a = true) : auOk (trimA a) = true := by
  obtain ⟨h1, h2, h3, h4, h5⟩ := (auOk_iff a).1 h
  obtain ⟨x, hx⟩ := trimOpt_some h
  obtain ⟨k1, k2, k3⟩ := numRes_len hx
  obtain ⟨_, e2, _, e4, _, e6⟩ := numRes_spec hx
  have hp : 0 < x.1.length := List.length_pos_of_mem e4
  refine (auOk_iff _).2 ⟨by rw [trimA_al h]; exact h1, by rw [trimA_len hx]; omega, by rw [trimA_len hx]; omega, by rw [trimA_len hx, trimA_eq hx]; simp, fun r hr => ?_⟩
  rw [trimA_len hx, trimA_al h]
  rw [trimA_eq hx] at hr
  obtain ⟨r', hr', rfl⟩ := List.mem_map.1 hr
  refine ⟨by rw [List.length_map]; exact k3 r' hr', fun q hq => ?_⟩
  obtain ⟨n, hn, rfl⟩ := List.mem_map.1 hq
  rw [e2] at hr'
  obtain ⟨b, hb, rfl⟩ := List.mem_map.1 hr'
  unfold rowOf at hn
  obtain ⟨l, hl, rfl⟩ := List.mem_map.1 hn
  have := List.idxOf_lt_length_iff.2 (e6 b hb l hl)
  omega
theorem goA_trim {a : Au} (h : auOk a = true) {x : List Nat × List (List Nat)} (hx : trimOpt a = some x) {q l : Nat} (hq : q ∈ x.1) (hl : l ∈ letters a.al) : goA (trimA a) (x.1.idxOf q) l = x.1.idxOf (goA a q l) := by
  obtain ⟨_, e2, _⟩ := numRes_spec hx
  have hi : x.1.idxOf q < x.1.length := List.idxOf_lt_length_iff.2 hq
  have hk : (letters a.al).idxOf l < (letters a.al).length := List.idxOf_lt_length_iff.2 hl
  rw [trimA_eq hx]
  show (if l ∈ letters a.al then (((toRows x.2).getD (x.1.idxOf q) []).getD ((letters a.al).idxOf l) 0).toNat else _) = _
  rw [if_pos hl, e2]
  unfold toRows
  rw [List.map_map, getD_map_of_lt _ _ _ _ hi]
  dsimp only [Function.comp]
  rw [List.getElem_idxOf hi]
  unfold rowOf
  rw [List.map_map, getD_map_of_lt _ _ _ _ hk]
  dsimp only [Function.comp]
  rw [List.getElem_idxOf hk]
  exact Int.toNat_natCast _
theorem ac_trim {a : Au} {x : List Nat × List (List Nat)} (hx : trimOpt a = some x) {q : Nat} (hq : q ∈ x.1) : (trimA a).ac.getD (x.1.idxOf q) false = a.ac.getD q false := by
  have hi : x.1.idxOf q < x.1.length := List.idxOf_lt_length_iff.2 hq
  rw [trimA_eq hx]
  dsimp only
  rw [getD_map_of_lt _ _ _ _ hi, List.getElem_idxOf hi]
theorem run_trim {a : Au} (h : auOk a = true) {x : List Nat × List (List Nat)} (hx : trimOpt a = some x) {q : Nat} (hq : q ∈ x.1) : ∀ r : List Nat, (∀ l ∈ r, l ∈ letters a.al) → runA (trimA a) (x.1.idxOf q) r = x.1.idxOf (runA a q r) ∧ runA a q r ∈ x.1
  | [], _ => ⟨rfl, hq⟩
  | l :: r, hr => by
    obtain ⟨i1, i2⟩ := run_trim h hx hq r fun y hy => hr y (List.mem_cons_of_mem _ hy)
    have hl := hr l List.mem_cons_self
    refine ⟨?_, (numRes_spec hx).2.2.2.2.2 _ i2 l hl⟩
    show goA (trimA a) (runA (trimA a) (x.1.idxOf q) r) l = _
    rw [i1, goA_trim h hx i2 hl]
    rfl
theorem resid_trim {a : Au} (h : auOk a = true) {x : List Nat × List (List Nat)} (hx : trimOpt a = some x) {q : Nat} (hq : q ∈ x.1) : resid (trimA a) (x.1.idxOf q) = resid a q := by
  funext r
  unfold resid
  rw [trimA_al h]
  refine propext (and_congr_right fun hr => ?_)
  obtain ⟨i1, i2⟩ := run_trim h hx hq r hr
  rw [i1, ac_trim hx i2]
theorem run_quot {a : Au} (h : auOk a = true) {q : Nat} (hq : q < a.nx.length) : ∀ r : List Nat, (∀ l ∈ r, l ∈ letters a.al) → runA (quotA a) (cA a q) r = cA a (runA a q r) ∧ runA a q r < a.nx.length
  | [], _ => ⟨rfl, hq⟩
  | l :: r, hr => by
    obtain ⟨i1, i2⟩ := run_quot h hq r fun y hy => hr y (List.mem_cons_of_mem _ hy)
    refine ⟨?_, goA_lt h i2⟩
    show goA (quotA a) (runA (quotA a) (cA a q) r) l = _
    rw [i1, goA_quot h i2 (hr l List.mem_cons_self)]
    rfl
theorem resid_quot {a : Au} (h : auOk a = true) {q : Nat} (hq : q < a.nx.length) : resid (quotA a) (cA a q) = resid a q := by
  funext r
  unfold resid
  show ((∀ l ∈ r, l ∈ letters a.al) ∧ _) = _
  refine propext (and_congr_right fun hr => ?_)
  obtain ⟨i1, i2⟩ := run_quot h hq r hr
  rw [i1, ac_quot i2]

/-- The least automaton. -/
noncomputable def minA (a : Au) : Au := trimA (quotA a)
theorem minA_ok {a : Au} (h : auOk a = true) : auOk (minA a) = true := trimA_ok (quotA_ok h)
/-- The nodes of the quotient, in the order in which they are met. -/
theorem quot_nodes {a : Au} (h : auOk a = true) {x : List Nat × List (List Nat)} (hx : trimOpt a = some x) :
    trimOpt (quotA a) = some (dd (x.1.map (cA a)), (dd (x.1.map (cA a))).map (rowOf (goA (quotA a)) (letters a.al) (dd (x.1.map (cA a))))) := by
  have h2 := ((auOk_iff a).1 h).2.1
  have hlen : (dd (x.1.map (cA a))).length ≤ clsC a := by
    refine nodup_bound _ _ (dd_nodup _) fun y hy => ?_
    rw [dd_mem] at hy
    obtain ⟨q, hq, rfl⟩ := List.mem_map.1 hy
    exact cA_lt (trimOpt_lt h hx q hq)
  have := numRes_img (f := cA a) (nx := goA a) (nx' := goA (quotA a)) (P := fun q => q < a.nx.length) (L := letters a.al) (n0 := 0) (lim := a.nx.length) (lim' := clsC a) (by omega) (fun q hq l hl => ⟨goA_lt h hq, goA_quot h hq hl⟩) hx hlen
  rw [cA_zero h] at this
  unfold trimOpt
  rw [quotA_len]
  exact this
/-- First the reached states, then the classes, or the other way round. -/
theorem quot_trim {a : Au} (h : auOk a = true) : quotA (trimA a) = minA a := by
  obtain ⟨x, hx⟩ := trimOpt_some h
  have hq := quot_nodes h hx
  obtain ⟨D, hD⟩ : ∃ D, D = dd (x.1.map (cA a)) := ⟨_, rfl⟩
  rw [← hD] at hq
  have hok := trimA_ok h
  obtain ⟨n1, n2, n3, n4, n5, n6⟩ := numRes_spec hx
  have hlt := trimOpt_lt h hx
  have hTl := trimA_len hx
  -- the classes of the trimmed automaton
  have hker := numb_kernel (ks := clsL (trimA a)) (ms := x.1.map (cA a)) (by rw [clsL_len, hTl, List.length_map]) (fun i j hi hj => by
    have hi' : i < x.1.length := by rw [clsL_len, hTl] at hi; exact hi
    have hj' : j < x.1.length := by rw [clsL_len, hTl] at hj; exact hj
    rw [clsL_get, clsL_get, List.getElem_map, List.getElem_map, cA_eq (hlt _ (List.getElem_mem hi')) (hlt _ (List.getElem_mem hj'))]
    have e1 := resid_trim h hx (List.getElem_mem hi')
    have e2 := resid_trim h hx (List.getElem_mem hj')
    rw [n3.idxOf_getElem i hi'] at e1
    rw [n3.idxOf_getElem j hj'] at e2
    rw [e1, e2])
  have hcC : clsC (trimA a) = D.length := by rw [hD]; exact hker.2
  have hcA : ∀ i (hi : i < x.1.length), cA (trimA a) i = D.idxOf (cA a x.1[i]) := fun i hi => by
    unfold cA clsA
    rw [hker.1, numb_getD _ (by rw [List.length_map]; exact hi), List.getElem_map, ← hD]
    rfl
  have hmem : ∀ i (hi : i < x.1.length), cA a x.1[i] ∈ D := fun i hi => by rw [hD, dd_mem]; exact List.mem_map_of_mem (List.getElem_mem hi)
  have hDn : D.Nodup := by rw [hD]; exact dd_nodup _
  unfold minA
  rw [trimA_eq hq]
  have key : ∀ j (hj : j < D.length), ∃ (i : Nat) (hi : i < x.1.length), repA (trimA a) j = i ∧ cA a x.1[i] = D[j] := fun j hj => by
    obtain ⟨g1, g2⟩ := repA_lt (a := trimA a) (j := j) (by rw [hcC]; exact hj)
    have hi : repA (trimA a) j < x.1.length := by rw [hTl] at g1; exact g1
    refine ⟨_, hi, rfl, ?_⟩
    rw [hcA _ hi] at g2
    have := List.getElem_idxOf (List.idxOf_lt_length_iff.2 (hmem _ hi))
    rw [← this]
    simp only [g2]
  have hau : ∀ {p q : Au}, p.al = q.al → p.nx = q.nx → p.ac = q.ac → p = q := fun {p q} h1 h2 h3 => by cases p; cases q; simp_all
  refine hau ?_ ?_ ?_
  · show (trimA a).al = a.al
    exact trimA_al h
  · show (List.range (clsC (trimA a))).map (quotRow (trimA a)) = toRows (D.map (rowOf (goA (quotA a)) (letters a.al) D))
    rw [hcC]
    unfold toRows
    rw [List.map_map]
    refine List.ext_getElem (by simp) fun j h1 h2 => ?_
    have hj : j < D.length := by simpa using h1
    rw [List.getElem_map, List.getElem_range, List.getElem_map]
    obtain ⟨i, hi, e1, e2⟩ := key j hj
    dsimp only [Function.comp]
    have hTi : i < (trimA a).nx.length := by rw [hTl]; exact hi
    obtain ⟨r1, r2, r3⟩ := row_at hok hTi
    unfold quotRow
    rw [e1, r1]
    refine List.ext_getElem (by unfold rowOf; rw [List.length_map, List.length_map, List.length_map, r2, trimA_al h]) fun k k1 k2 => ?_
    have hk : k < (letters a.al).length := by rw [List.length_map, r2, trimA_al h] at k1; exact k1
    have hkT : k < (letters (trimA a).al).length := by rw [trimA_al h]; exact hk
    rw [List.getElem_map, List.getElem_map]
    unfold rowOf
    rw [List.getElem_map]
    have hg := goA_at hok hTi hkT (by omega)
    rw [← hg, Int.toNat_natCast]
    have hl : (letters (trimA a).al)[k] = (letters a.al)[k] := by simp only [trimA_al h]
    rw [hl]
    have hgt := goA_trim h hx (List.getElem_mem hi) (List.getElem_mem hk)
    rw [n3.idxOf_getElem i hi] at hgt
    rw [hgt]
    have hin := n6 _ (List.getElem_mem hi) _ (List.getElem_mem hk)
    have hi3 := List.idxOf_lt_length_iff.2 hin
    have e3 : goA (quotA a) D[j] (letters a.al)[k] = cA a (goA a x.1[i] (letters a.al)[k]) := by
      rw [← e2]
      exact goA_quot h (hlt _ (List.getElem_mem hi)) (List.getElem_mem hk)
    rw [hcA _ hi3, List.getElem_idxOf hi3]
    exact congrArg (fun z => ((D.idxOf z : Nat) : Int)) e3.symm
  · show (List.range (clsC (trimA a))).map (fun j => (trimA a).ac.getD (repA (trimA a) j) false) = D.map fun q => (quotA a).ac.getD q false
    rw [hcC]
    refine List.ext_getElem (by simp) fun j h1 h2 => ?_
    have hj : j < D.length := by simpa using h1
    rw [List.getElem_map, List.getElem_range, List.getElem_map]
    obtain ⟨i, hi, e1, e2⟩ := key j hj
    rw [e1, ← e2, ac_quot (hlt _ (List.getElem_mem hi))]
    have := ac_trim hx (List.getElem_mem hi)
    rw [n3.idxOf_getElem i hi] at this
    exact this

end Go.Proofs.YtkoganldcmhopaaDoor

/- Plain: laws of least automata. -/
namespace Go.Proofs.YtkoganldcmhopaaDoor
open AG

theorem au_ext {p q : Au} (h1 : p.al = q.al) (h2 : p.nx = q.nx) (h3 : p.ac = q.ac) : p = q := by cases p; cases q; simp_all
theorem nodup_sub : ∀ (l m : List Nat), l.Nodup → (∀ i ∈ l, i ∈ m) → l.length ≤ m.length
  | [], _, _, _ => Nat.zero_le _
  | a :: l, m, h, hs => by
    rw [List.nodup_cons] at h
    have ha := hs a List.mem_cons_self
    have ih := nodup_sub l (m.erase a) h.2 fun i hi => (List.mem_erase_of_ne (fun e => h.1 (by rw [← e]; exact hi))).2 (hs i (List.mem_cons_of_mem _ hi))
    have := List.length_erase_of_mem ha
    have := List.length_pos_of_mem ha
    rw [List.length_cons]
    omega
/-- Trimming what is trimmed. -/
theorem trimOpt_trim {a : Au} (h : auOk a = true) {x : List Nat × List (List Nat)} (hx : trimOpt a = some x) : trimOpt (trimA a) = some (List.range x.1.length, x.2) := by
  obtain ⟨-, -, h3, h4, h5, h6⟩ := numRes_spec hx
  have hs := numRes_small hx
  unfold trimOpt
  rw [trimA_len hx, trimA_al h]
  have := numRes_map (f := fun q => x.1.idxOf q) (nx := goA a) (nx' := goA (trimA a)) (P := fun q => q ∈ x.1) (L := letters a.al) (n0 := 0) (lim := x.1.length) h4
    (fun p q hp hq e => by
      have h1 := List.getElem_idxOf (List.idxOf_lt_length_iff.2 hp)
      have h2 := List.getElem_idxOf (List.idxOf_lt_length_iff.2 hq)
      rw [← h1, ← h2]
      simp only [e])
    (fun q hq l hl => ⟨h6 q hq l hl, goA_trim h hx hq hl⟩)
  rw [h5, hs] at this
  rw [this, Option.map_some, idxOf_range h3]
theorem trim_trim {a : Au} (h : auOk a = true) : trimA (trimA a) = trimA a := by
  obtain ⟨x, hx⟩ := trimOpt_some h
  rw [trimA_eq (trimOpt_trim h hx)]
  refine au_ext rfl ?_ ?_
  · rw [trimA_eq hx]
  · show (List.range x.1.length).map (fun q => (trimA a).ac.getD q false) = (trimA a).ac
    have hl : (trimA a).ac.length = x.1.length := by rw [trimA_eq hx]; simp
    refine List.ext_getElem (by simp [hl]) fun i h1 h2 => ?_
    rw [List.getElem_map, List.getElem_range, List.getD_eq_getElem?_getD, List.getElem?_eq_getElem h2]
    rfl
theorem min_trimmed {a : Au} (h : auOk a = true) : trimA (minA a) = minA a := trim_trim (quotA_ok h)
theorem min_trim {a : Au} (h : auOk a = true) : minA (trimA a) = minA a := by
  show trimA (quotA (trimA a)) = _
  rw [quot_trim h, min_trimmed h]

/-- No two states have the same words. -/
def ApartA (b : Au) : Prop := ∀ p q, p < b.nx.length → q < b.nx.length → resid b p = resid b q → p = q
theorem numb_range {α : Type} [DecidableEq α] {ks : List α} (h : ks.Nodup) : dd ks = ks ∧ numb ks = List.range ks.length := by
  have hd : dd ks = ks := by
    induction ks using snoc_ind with
    | h0 => rfl
    | h1 l y ih =>
      rw [List.nodup_append] at h
      rw [dd_snoc, ih h.1, addD_new]
      intro hm
      exact h.2.2 y hm y (by simp) rfl
  refine ⟨hd, ?_⟩
  unfold numb
  rw [hd]
  refine List.ext_getElem (by simp) fun i h1 h2 => ?_
  rw [List.getElem_map, List.getElem_range]
  exact h.idxOf_getElem i (by simpa using h1)
theorem apart_nodup {b : Au} (h : ApartA b) : (clsL b).Nodup := by
  rw [List.nodup_iff_pairwise_ne, List.pairwise_iff_getElem]
  intro i j hi hj hij e
  rw [clsL_get, clsL_get] at e
  rw [clsL_len] at hi hj
  have := h i j hi hj e
  omega
theorem apart_cls {b : Au} (h : ApartA b) : clsC b = b.nx.length ∧ clsA b = List.range b.nx.length := by
  obtain ⟨h1, h2⟩ := numb_range (apart_nodup h)
  unfold clsC clsA
  rw [h1, h2, clsL_len]
  exact ⟨rfl, rfl⟩
theorem apart_id {b : Au} (h : ApartA b) {q : Nat} (hq : q < b.nx.length) : cA b q = q ∧ repA b q = q := by
  obtain ⟨-, h2⟩ := apart_cls h
  unfold cA repA
  rw [h2]
  constructor
  · rw [List.getD_eq_getElem?_getD, List.getElem?_eq_getElem (by simpa using hq)]
    simp
  · have := (List.nodup_range (n := b.nx.length)).idxOf_getElem q (by simpa using hq)
    rw [List.getElem_range] at this
    exact this
theorem quot_apart {b : Au} (hb : auOk b = true) (h : ApartA b) : quotA b = b := by
  obtain ⟨h1, -⟩ := apart_cls h
  obtain ⟨_, _, _, h4, _⟩ := (auOk_iff b).1 hb
  refine au_ext rfl ?_ ?_
  · show (List.range (clsC b)).map (quotRow b) = b.nx
    rw [h1]
    refine List.ext_getElem (by simp) fun i i1 i2 => ?_
    rw [List.getElem_map, List.getElem_range]
    obtain ⟨r1, r2, r3⟩ := row_at hb i2
    unfold quotRow
    rw [(apart_id h i2).2, r1]
    refine List.ext_getElem (by simp) fun k k1 k2 => ?_
    rw [List.getElem_map]
    have := r3 _ (List.getElem_mem k2)
    rw [(apart_id h (by omega)).1]
    omega
  · show (List.range (clsC b)).map (fun j => b.ac.getD (repA b j) false) = b.ac
    rw [h1]
    refine List.ext_getElem (by simp [h4]) fun i i1 i2 => ?_
    have hi : i < b.nx.length := by omega
    rw [List.getElem_map, List.getElem_range, (apart_id h hi).2, List.getD_eq_getElem?_getD, List.getElem?_eq_getElem i2]
    rfl
theorem quot_is_apart {a : Au} (h : auOk a = true) : ApartA (quotA a) := by
  intro p q hp hq e
  rw [quotA_len] at hp hq
  obtain ⟨g1, g2⟩ := repA_lt hp
  obtain ⟨k1, k2⟩ := repA_lt hq
  have e1 := resid_quot h g1
  have e2 := resid_quot h k1
  rw [g2] at e1
  rw [k2] at e2
  rw [← g2, ← k2]
  exact (cA_eq g1 k1).2 (by rw [← e1, ← e2, e])
theorem trim_apart {a : Au} (h : auOk a = true) (ha : ApartA a) : ApartA (trimA a) := by
  intro p q hp hq e
  obtain ⟨x, hx⟩ := trimOpt_some h
  rw [trimA_len hx] at hp hq
  have n3 := (numRes_spec hx).2.2.1
  have e1 := resid_trim h hx (List.getElem_mem hp)
  have e2 := resid_trim h hx (List.getElem_mem hq)
  rw [n3.idxOf_getElem p hp] at e1
  rw [n3.idxOf_getElem q hq] at e2
  have hlt := trimOpt_lt h hx
  have := ha _ _ (hlt _ (List.getElem_mem hp)) (hlt _ (List.getElem_mem hq)) (by rw [← e1, ← e2, e])
  rw [← n3.idxOf_getElem p hp, ← n3.idxOf_getElem q hq, this]
theorem min_apart {a : Au} (h : auOk a = true) : ApartA (minA a) := trim_apart (quotA_ok h) (quot_is_apart h)
theorem min_min {a : Au} (h : auOk a = true) : minA (minA a) = minA a := by
  show trimA (quotA (minA a)) = _
  rw [quot_apart (minA_ok h) (min_apart h), min_trimmed h]

/-- The least automaton accepts the same words. -/
theorem acc_trim {a : Au} (h : auOk a = true) {r : List Nat} (hr : ∀ l ∈ r, l ∈ letters a.al) : accA (trimA a) r = accA a r := by
  obtain ⟨x, hx⟩ := trimOpt_some h
  obtain ⟨_, _, _, n4, n5, _⟩ := numRes_spec hx
  obtain ⟨i1, i2⟩ := run_trim h hx n4 r hr
  rw [n5] at i1
  unfold accA
  rw [i1, ac_trim hx i2]
theorem acc_quot {a : Au} (h : auOk a = true) {r : List Nat} (hr : ∀ l ∈ r, l ∈ letters a.al) : accA (quotA a) r = accA a r := by
  have h2 := ((auOk_iff a).1 h).2.1
  obtain ⟨i1, i2⟩ := run_quot h (q := 0) (by omega) r hr
  rw [cA_zero h] at i1
  unfold accA
  rw [i1, ac_quot i2]
theorem acc_min {a : Au} (h : auOk a = true) {r : List Nat} (hr : ∀ l ∈ r, l ∈ letters a.al) : accA (minA a) r = accA a r := by
  show accA (trimA (quotA a)) r = _
  rw [acc_trim (quotA_ok h) hr, acc_quot h hr]
theorem minA_al {a : Au} (h : auOk a = true) : (minA a).al = a.al := trimA_al (quotA_ok h)
/-- The other words. -/
def compA (a : Au) : Au := ⟨a.al, a.nx, a.ac.map fun b => !b⟩
theorem compA_ok {a : Au} (h : auOk a = true) : auOk (compA a) = true := by
  obtain ⟨h1, h2, h3, h4, h5⟩ := (auOk_iff a).1 h
  exact (auOk_iff _).2 ⟨h1, h2, h3, by show (a.ac.map _).length = _; rw [List.length_map]; exact h4, h5⟩
theorem ac_comp {a : Au} {q : Nat} (hq : q < a.ac.length) : (compA a).ac.getD q false = !a.ac.getD q false := by
  unfold compA
  dsimp only
  rw [getD_map_of_lt _ _ _ _ hq, List.getD_eq_getElem?_getD, List.getElem?_eq_getElem hq]
  rfl
theorem run_lt {a : Au} (h : auOk a = true) {q : Nat} (hq : q < a.nx.length) : ∀ r : List Nat, runA a q r < a.nx.length
  | [] => hq
  | _ :: r => goA_lt h (run_lt h hq r)
theorem run_comp (a : Au) (q : Nat) : ∀ r : List Nat, runA (compA a) q r = runA a q r
  | [] => rfl
  | l :: r => by show goA a (runA (compA a) q r) l = goA a (runA a q r) l; rw [run_comp a q r]
theorem resid_comp {a : Au} (h : auOk a = true) {q : Nat} (hq : q < a.nx.length) (r : List Nat) : resid (compA a) q r ↔ (∀ l ∈ r, l ∈ letters a.al) ∧ ¬ resid a q r := by
  have h4 := ((auOk_iff a).1 h).2.2.2.1
  have hl := run_lt h hq r
  unfold resid
  rw [run_comp, ac_comp (by omega)]
  show (∀ l ∈ r, l ∈ letters a.al) ∧ (!a.ac.getD (runA a q r) false) = true ↔ _
  constructor
  · rintro ⟨h1, h2⟩
    refine ⟨h1, fun ⟨_, h3⟩ => ?_⟩
    rw [h3] at h2
    cases h2
  · rintro ⟨h1, h2⟩
    refine ⟨h1, ?_⟩
    cases hb : a.ac.getD (runA a q r) false
    · rfl
    · exact absurd ⟨h1, hb⟩ h2
theorem resid_comp_eq {a : Au} (h : auOk a = true) {p q : Nat} (hp : p < a.nx.length) (hq : q < a.nx.length) : resid (compA a) p = resid (compA a) q ↔ resid a p = resid a q := by
  constructor
  · intro e
    funext r
    have h1 : resid (compA a) p r ↔ resid (compA a) q r := by rw [e]
    rw [resid_comp h hp, resid_comp h hq] at h1
    refine propext ⟨fun h2 => Classical.byContradiction fun h3 => (h1.2 ⟨h2.1, h3⟩).2 h2, fun h2 => Classical.byContradiction fun h3 => (h1.1 ⟨h2.1, h3⟩).2 h2⟩
  · intro e
    funext r
    rw [propext (resid_comp h hp r), propext (resid_comp h hq r), e]
theorem cls_comp {a : Au} (h : auOk a = true) : clsA (compA a) = clsA a ∧ clsC (compA a) = clsC a := by
  refine numb_kernel (ks := clsL (compA a)) (ms := clsL a) (by rw [clsL_len, clsL_len]; rfl) fun i j hi hj => ?_
  rw [clsL_len] at hi hj
  rw [clsL_get, clsL_get, clsL_get, clsL_get]
  exact resid_comp_eq h hi hj
theorem quot_comp {a : Au} (h : auOk a = true) : quotA (compA a) = compA (quotA a) := by
  have h4 := ((auOk_iff a).1 h).2.2.2.1
  obtain ⟨c1, c2⟩ := cls_comp h
  have hrep : ∀ j, repA (compA a) j = repA a j := fun j => by unfold repA; rw [c1]
  have hc : ∀ q, cA (compA a) q = cA a q := fun q => by unfold cA; rw [c1]
  refine au_ext rfl ?_ ?_
  · show (List.range (clsC (compA a))).map (quotRow (compA a)) = (List.range (clsC a)).map (quotRow a)
    rw [c2]
    refine List.map_congr_left fun j _ => ?_
    unfold quotRow
    rw [hrep]
    refine List.map_congr_left fun t _ => ?_
    rw [hc]
  · show (List.range (clsC (compA a))).map (fun j => (compA a).ac.getD (repA (compA a) j) false) = ((List.range (clsC a)).map fun j => a.ac.getD (repA a j) false).map fun b => !b
    rw [c2, List.map_map]
    refine List.map_congr_left fun j hj => ?_
    rw [List.mem_range] at hj
    have := (repA_lt hj).1
    rw [hrep, ac_comp (by omega)]
    rfl
theorem trim_comp {a : Au} (h : auOk a = true) : trimA (compA a) = compA (trimA a) := by
  have h4 := ((auOk_iff a).1 h).2.2.2.1
  obtain ⟨x, hx⟩ := trimOpt_some h
  have hlt := trimOpt_lt h hx
  have hx' : trimOpt (compA a) = some x := hx
  rw [trimA_eq hx, trimA_eq hx']
  refine au_ext rfl rfl ?_
  show x.1.map (fun q => (compA a).ac.getD q false) = (x.1.map fun q => a.ac.getD q false).map fun b => !b
  rw [List.map_map]
  refine List.map_congr_left fun q hq => ?_
  have := hlt q hq
  rw [ac_comp (by omega)]
  rfl
theorem min_comp {a : Au} (h : auOk a = true) : minA (compA a) = compA (minA a) := by
  unfold minA
  rw [quot_comp h, trim_comp (quotA_ok h)]

/-- The automaton is minimal if all states are reached and no two of them are alike. -/
theorem min_size {a : Au} (h : auOk a = true) : (minA a).nx.length = a.nx.length ↔ (∀ i, i < a.nx.length → ∃ r : List Nat, (∀ l ∈ r, l ∈ letters a.al) ∧ runA a 0 r = i) ∧ (∀ i, i < a.nx.length → cA a i = i) := by
  obtain ⟨x, hx⟩ := trimOpt_some h
  obtain ⟨n1, _, n3, n4, n5, n6⟩ := numRes_spec hx
  have hlt := trimOpt_lt h hx
  have hreach : ∀ i, (∃ r : List Nat, (∀ l ∈ r, l ∈ letters a.al) ∧ runA a 0 r = i) ↔ i ∈ x.1 := by
    intro i
    constructor
    · rintro ⟨r, r1, rfl⟩
      exact (run_trim h hx n4 r r1).2
    · intro hi
      rw [n1] at hi
      have key : ∀ k y, y ∈ nsAt (goA a) (letters a.al) 0 k → ∃ r : List Nat, (∀ l ∈ r, l ∈ letters a.al) ∧ runA a 0 r = y := by
        intro k
        exact nsAt_all (P := fun y => ∃ r : List Nat, (∀ l ∈ r, l ∈ letters a.al) ∧ runA a 0 r = y) ⟨[], by simp, rfl⟩ (fun b ⟨r, r1, r2⟩ l hl => ⟨l :: r, fun y hy => by
          rcases List.mem_cons.1 hy with rfl | hy
          · exact hl
          · exact r1 y hy, by show goA a (runA a 0 r) l = _; rw [r2]⟩) k
      exact key _ i hi
  have hap : (∀ i, i < a.nx.length → cA a i = i) → ApartA a := fun hc p q hp hq e => by
    rw [← hc p hp, ← hc q hq]
    exact (cA_eq hp hq).2 e
  constructor
  · intro hsz
    have h1 := trimA_le (quotA_ok h)
    rw [quotA_len] at h1
    have h2 := clsC_le a
    have h3 : (minA a).nx.length ≤ clsC a := h1
    have h4 : clsC a = a.nx.length := by omega
    have hnd : (clsL a).Nodup := by
      have hlen : (dd (clsL a)).length = (clsL a).length := by rw [clsL_len]; exact h4
      have key : ∀ ks : List (List Nat → Prop), (dd ks).length = ks.length → ks.Nodup := by
        intro ks
        induction ks using snoc_ind with
        | h0 => intro _; exact List.nodup_nil
        | h1 l y ih =>
          intro e
          rw [dd_snoc, List.length_append] at e
          have hl := dd_len l
          by_cases hm : y ∈ dd l
          · rw [addD_old hm] at e
            simp at e
            omega
          · rw [addD_new hm, List.length_append] at e
            rw [List.nodup_append]
            refine ⟨ih (by simp at e; exact e), by simp, fun u hu v hv huv => hm ?_⟩
            rw [List.mem_singleton] at hv
            rw [dd_mem, ← hv, ← huv]
            exact hu
      exact key _ hlen
    have hid' : ∀ i, i < a.nx.length → cA a i = i := fun i hi => by
      obtain ⟨_, k2⟩ := numb_range hnd
      unfold cA clsA
      rw [k2, clsL_len, List.getD_eq_getElem?_getD, List.getElem?_eq_getElem (by simpa using hi)]
      simp
    refine ⟨fun i hi => ?_, hid'⟩
    have hq := quot_apart h (hap hid')
    have hm : (trimA a).nx.length = a.nx.length := by
      have : minA a = trimA a := by unfold minA; rw [hq]
      rw [← this]
      exact hsz
    rw [trimA_len hx] at hm
    rw [hreach]
    refine Classical.byContradiction fun hn => ?_
    have := nodup_bound a.nx.length (i :: x.1) (List.nodup_cons.2 ⟨hn, n3⟩) (fun y hy => by
      rcases List.mem_cons.1 hy with rfl | hy
      · exact hi
      · exact hlt y hy)
    rw [List.length_cons] at this
    omega
  · rintro ⟨h1, h2⟩
    have hq := quot_apart h (hap h2)
    have : minA a = trimA a := by unfold minA; rw [hq]
    rw [this, trimA_len hx]
    have hle := (numRes_len hx).1
    have hge : a.nx.length ≤ x.1.length := by
      have := nodup_sub (List.range a.nx.length) x.1 List.nodup_range fun i hi => (hreach i).1 (h1 i (List.mem_range.1 hi))
      rw [List.length_range] at this
      exact this
    omega

end Go.Proofs.YtkoganldcmhopaaDoor

/- Plain: classes of states found by refining. -/
namespace Go.Proofs.YtkoganldcmhopaaDoor
open AG

section
variable {α β : Type} [DecidableEq α] [DecidableEq β]
theorem dd_full (ks : List α) : (dd ks).length = ks.length → ks.Nodup := by
  induction ks using snoc_ind with
  | h0 => intro _; exact List.nodup_nil
  | h1 l y ih =>
    intro e
    rw [dd_snoc, List.length_append] at e
    have hl := dd_len l
    by_cases hm : y ∈ dd l
    · rw [addD_old hm] at e
      simp at e
      omega
    · rw [addD_new hm, List.length_append] at e
      rw [List.nodup_append]
      refine ⟨ih (by simp at e; exact e), by simp, fun u hu v hv huv => hm ?_⟩
      rw [List.mem_singleton] at hv
      rw [dd_mem, ← hv, ← huv]
      exact hu
theorem nodup_subD : ∀ (l m : List α), l.Nodup → (∀ i ∈ l, i ∈ m) → l.length ≤ m.length
  | [], _, _, _ => Nat.zero_le _
  | a :: l, m, h, hs => by
    rw [List.nodup_cons] at h
    have ha := hs a List.mem_cons_self
    have ih := nodup_subD l (m.erase a) h.2 fun i hi => (List.mem_erase_of_ne (fun e => h.1 (by rw [← e]; exact hi))).2 (hs i (List.mem_cons_of_mem _ hi))
    have := List.length_erase_of_mem ha
    have := List.length_pos_of_mem ha
    rw [List.length_cons]
    omega
/-- Finer keys give as many numbers at least, and the same partition if as many. -/
theorem dd_finer {ks : List α} {ms : List β} (hl : ks.length = ms.length) (h : ∀ i j (hi : i < ks.length) (hj : j < ks.length), ms[i]'(by omega) = ms[j]'(by omega) → ks[i] = ks[j]) :
    (dd ks).length ≤ (dd ms).length ∧ ((dd ms).length ≤ (dd ks).length → ∀ i j (hi : i < ks.length) (hj : j < ks.length), ks[i] = ks[j] ↔ ms[i]'(by omega) = ms[j]'(by omega)) := by
  by_cases h0 : ks.length = 0
  · have e1 := List.eq_nil_of_length_eq_zero h0
    subst e1
    exact ⟨Nat.zero_le _, fun _ i j hi => by simp at hi⟩
  · have hpos : 0 < ks.length := by omega
    obtain ⟨g, hg⟩ : ∃ g : β → α, g = fun k => ks.getD (ms.idxOf k) (ks[0]'hpos) := ⟨_, rfl⟩
    have hks : ks = ms.map g := by
      refine List.ext_getElem (by rw [List.length_map, hl]) fun i h1 h2 => ?_
      have hi : i < ms.length := by omega
      rw [List.getElem_map]
      have hj : ms.idxOf ms[i] < ms.length := List.idxOf_lt_length_iff.2 (List.getElem_mem hi)
      have he : ms[ms.idxOf ms[i]] = ms[i] := List.getElem_idxOf hj
      have hgi : g ms[i] = ks.getD (ms.idxOf ms[i]) (ks[0]'hpos) := by simp only [hg]
      rw [hgi, List.getD_eq_getElem?_getD, List.getElem?_eq_getElem (by omega)]
      exact h _ _ (by omega) (by omega) he.symm
    have hsub : ∀ x ∈ dd ks, x ∈ (dd ms).map g := fun x hx => by
      rw [dd_mem, hks] at hx
      obtain ⟨y, hy, rfl⟩ := List.mem_map.1 hx
      exact List.mem_map_of_mem ((dd_mem _ _).2 hy)
    have hle := nodup_subD _ _ (dd_nodup ks) hsub
    rw [List.length_map] at hle
    refine ⟨hle, fun hge i j hi hj => ⟨fun e => ?_, h i j hi hj⟩⟩
    have hnd : ((dd ms).map g).Nodup := by
      refine dd_full _ ?_
      have h1 := dd_len ((dd ms).map g)
      have h2 := nodup_subD (dd ks) (dd ((dd ms).map g)) (dd_nodup ks) fun x hx => (dd_mem _ _).2 (hsub x hx)
      rw [List.length_map] at h1 ⊢
      omega
    have hinj : ∀ a ∈ dd ms, ∀ b ∈ dd ms, g a = g b → a = b := by
      intro a ha b hb e
      obtain ⟨p, hp, rfl⟩ := List.getElem_of_mem ha
      obtain ⟨q, hq, rfl⟩ := List.getElem_of_mem hb
      have hp' : p < ((dd ms).map g).length := by rw [List.length_map]; exact hp
      have hq' : q < ((dd ms).map g).length := by rw [List.length_map]; exact hq
      have e2 : ((dd ms).map g)[p] = ((dd ms).map g)[q] := by rw [List.getElem_map, List.getElem_map]; exact e
      have h1 := hnd.idxOf_getElem p hp'
      have h2 := hnd.idxOf_getElem q hq'
      rw [e2, h2] at h1
      subst h1
      rfl
    have e1 : ks[i] = g (ms[i]'(by omega)) := by simp only [hks, List.getElem_map]
    have e2 : ks[j] = g (ms[j]'(by omega)) := by simp only [hks, List.getElem_map]
    exact hinj _ ((dd_mem _ _).2 (List.getElem_mem _)) _ ((dd_mem _ _).2 (List.getElem_mem _)) (by rw [← e1, ← e2, e])
end

/-- A state's class and the classes to which its letters lead. -/
def sigA (a : Au) (c : List Nat) (q : Nat) : List Nat := c.getD q 0 :: (a.nx.getD q []).map fun t => c.getD t.toNat 0
def keysA (a : Au) (c : List Nat) : List (List Nat) := (List.range a.nx.length).map (sigA a c)
def refA (a : Au) (c : List Nat) : List Nat := numb (keysA a c)
def refC (a : Au) (c : List Nat) : Nat := (dd (keysA a c)).length
def cls0 (a : Au) : List Nat := (List.range a.nx.length).map fun q => if a.ac.getD q false = true then 1 else 0
def clsI (a : Au) : Nat → List Nat
  | 0 => cls0 a
  | i + 1 => refA a (clsI a i)
def cntI (a : Au) : Nat → Nat
  | 0 => 0
  | i + 1 => refC a (clsI a i)
theorem keysA_len (a : Au) (c : List Nat) : (keysA a c).length = a.nx.length := by unfold keysA; simp
theorem keysA_get (a : Au) (c : List Nat) {q : Nat} (h : q < (keysA a c).length) : (keysA a c)[q] = sigA a c q := by
  show ((List.range a.nx.length).map (sigA a c))[q]'(by simpa [keysA] using h) = _
  rw [List.getElem_map, List.getElem_range]
theorem clsI_len (a : Au) : ∀ i, (clsI a i).length = a.nx.length
  | 0 => by show (cls0 a).length = _; unfold cls0; simp
  | i + 1 => by show (numb _).length = _; rw [numb_len, keysA_len]
theorem cntI_le (a : Au) : ∀ i, cntI a i ≤ a.nx.length
  | 0 => Nat.zero_le _
  | i + 1 => by
    have := dd_len (keysA a (clsI a i))
    rw [keysA_len] at this
    exact this
theorem cntI_one {a : Au} (h : auOk a = true) : 1 ≤ cntI a 1 := by
  have h2 := ((auOk_iff a).1 h).2.1
  have := numb_lt (keysA a (clsI a 0)) (i := 0) (by rw [keysA_len]; omega)
  show 1 ≤ (dd (keysA a (clsI a 0))).length
  omega
theorem sigA_eq {a : Au} (h : auOk a = true) (c : List Nat) {p q : Nat} (hp : p < a.nx.length) (hq : q < a.nx.length) :
    sigA a c p = sigA a c q ↔ c.getD p 0 = c.getD q 0 ∧ ∀ l ∈ letters a.al, c.getD (goA a p l) 0 = c.getD (goA a q l) 0 := by
  obtain ⟨p1, p2, p3⟩ := row_at h hp
  obtain ⟨q1, q2, q3⟩ := row_at h hq
  unfold sigA
  rw [List.cons.injEq, p1, q1]
  refine and_congr_right fun _ => ?_
  constructor
  · intro e l hl
    obtain ⟨i, hi, rfl⟩ := List.getElem_of_mem hl
    have g1 := goA_at h hp hi (by omega)
    have g2 := goA_at h hq hi (by omega)
    have e1 : ((a.nx[p]).map fun t => c.getD t.toNat 0)[i]? = ((a.nx[q]).map fun t => c.getD t.toNat 0)[i]? := by rw [e]
    rw [List.getElem?_map, List.getElem?_map, List.getElem?_eq_getElem (by omega), List.getElem?_eq_getElem (by omega), ← g1, ← g2] at e1
    simpa using e1
  · intro e
    refine List.ext_getElem (by rw [List.length_map, List.length_map, p2, q2]) fun i h1 h2 => ?_
    rw [List.getElem_map, List.getElem_map]
    have hi : i < (letters a.al).length := by rw [List.length_map, p2] at h1; exact h1
    have g1 := goA_at h hp hi (by omega)
    have g2 := goA_at h hq hi (by omega)
    rw [← g1, ← g2, Int.toNat_natCast, Int.toNat_natCast]
    exact e _ (List.getElem_mem hi)
/-- After i rounds classes are alike where words of at most i letters do not tell the states apart. -/
theorem clsI_eq {a : Au} (h : auOk a = true) : ∀ i p q, p < a.nx.length → q < a.nx.length →
    ((clsI a i).getD p 0 = (clsI a i).getD q 0 ↔ ∀ r : List Nat, r.length ≤ i → (∀ l ∈ r, l ∈ letters a.al) → a.ac.getD (runA a p r) false = a.ac.getD (runA a q r) false)
  | 0, p, q, hp, hq => by
    have e : ∀ x, x < a.nx.length → (clsI a 0).getD x 0 = if a.ac.getD x false = true then 1 else 0 := fun x hx => by
      show (cls0 a).getD x 0 = _
      unfold cls0
      rw [getD_map_of_lt _ _ _ _ (by simpa using hx), List.getElem_range]
    rw [e p hp, e q hq]
    constructor
    · intro h1 r hr _
      have : r = [] := List.eq_nil_of_length_eq_zero (by omega)
      subst this
      show a.ac.getD p false = a.ac.getD q false
      revert h1
      cases a.ac.getD p false <;> cases a.ac.getD q false <;> simp
    · intro h1
      have := h1 [] (Nat.le_refl _) (by simp)
      rw [show a.ac.getD p false = a.ac.getD q false from this]
  | i + 1, p, q, hp, hq => by
    show (numb (keysA a (clsI a i))).getD p 0 = (numb (keysA a (clsI a i))).getD q 0 ↔ _
    rw [numb_eq _ (by rw [keysA_len]; exact hp) (by rw [keysA_len]; exact hq), keysA_get, keysA_get, sigA_eq h _ hp hq, clsI_eq h i p q hp hq]
    constructor
    · rintro ⟨h1, h2⟩ r hr hl
      by_cases hri : r.length ≤ i
      · exact h1 r hri hl
      · have hne : r ≠ [] := fun e => by rw [e] at hri; simp at hri
        obtain ⟨r', l, rfl⟩ : ∃ r' l, r = r' ++ [l] := ⟨_, _, (List.dropLast_concat_getLast hne).symm⟩
        have hll : l ∈ letters a.al := hl l (by simp)
        have h3 := (clsI_eq h i _ _ (goA_lt h hp) (goA_lt h hq)).1 (h2 l hll) r' (by rw [List.length_append] at hr; simpa using hr) fun x hx => hl x (List.mem_append_left _ hx)
        rw [runA_snoc, runA_snoc]
        exact h3
    · intro h1
      refine ⟨fun r hr hl => h1 r (by omega) hl, fun l hl => (clsI_eq h i _ _ (goA_lt h hp) (goA_lt h hq)).2 fun r hr hrl => ?_⟩
      rw [← runA_snoc, ← runA_snoc]
      refine h1 _ (by rw [List.length_append]; simpa using hr) fun x hx => ?_
      rcases List.mem_append.1 hx with hx | hx
      · exact hrl x hx
      · rw [List.mem_singleton.1 hx]; exact hl
theorem keys_finer {a : Au} (i : Nat) : (dd (keysA a (clsI a i))).length ≤ (dd (keysA a (clsI a (i + 1)))).length ∧
    ((dd (keysA a (clsI a (i + 1)))).length ≤ (dd (keysA a (clsI a i))).length → numb (keysA a (clsI a (i + 1))) = numb (keysA a (clsI a i))) := by
  have hl : (keysA a (clsI a i)).length = (keysA a (clsI a (i + 1))).length := by rw [keysA_len, keysA_len]
  obtain ⟨h1, h2⟩ := dd_finer (ks := keysA a (clsI a i)) (ms := keysA a (clsI a (i + 1))) hl (fun p q hp hq e => by
    rw [keysA_get, keysA_get] at e
    unfold sigA at e
    injection e with e _
    exact (numb_eq _ hp hq).1 e)
  refine ⟨h1, fun hle => ?_⟩
  exact (numb_kernel hl (h2 hle)).1.symm
theorem cntI_mono (a : Au) : ∀ i, cntI a i ≤ cntI a (i + 1)
  | 0 => Nat.zero_le _
  | i + 1 => (keys_finer i).1
/-- When a round finds no more classes, they are the classes of the states. -/
theorem cls_stop {a : Au} (h : auOk a = true) {i : Nat} (hs : cntI a (i + 2) ≤ cntI a (i + 1)) : clsI a (i + 2) = clsA a ∧ cntI a (i + 2) = clsC a := by
  have hfix : clsI a (i + 2) = clsI a (i + 1) := (keys_finer i).2 hs
  have hall : ∀ k, clsI a (i + 1 + k) = clsI a (i + 1) := by
    intro k
    induction k with
    | zero => rfl
    | succ k ih =>
      show refA a (clsI a (i + 1 + k)) = _
      rw [ih]
      exact hfix
  have hk := numb_kernel (ks := keysA a (clsI a (i + 1))) (ms := clsL a) (by rw [keysA_len, clsL_len]) fun p q hp hq => by
    have hp' : p < a.nx.length := by rw [keysA_len] at hp; exact hp
    have hq' : q < a.nx.length := by rw [keysA_len] at hq; exact hq
    rw [← numb_eq _ hp hq, clsL_get, clsL_get]
    show (clsI a (i + 2)).getD p 0 = (clsI a (i + 2)).getD q 0 ↔ _
    rw [hfix]
    constructor
    · intro e
      funext r
      unfold resid
      refine propext (and_congr_right fun hr => ?_)
      have e2 : (clsI a (i + 1 + r.length)).getD p 0 = (clsI a (i + 1 + r.length)).getD q 0 := by rw [hall]; exact e
      rw [(clsI_eq h _ p q hp' hq').1 e2 r (by omega) hr]
    · intro e
      refine (clsI_eq h _ p q hp' hq').2 fun r _ hr => ?_
      have : resid a p r ↔ resid a q r := by rw [e]
      unfold resid at this
      rw [Bool.eq_iff_iff]
      exact ⟨fun h1 => (this.1 ⟨hr, h1⟩).2, fun h1 => (this.2 ⟨hr, h1⟩).2⟩
  exact hk

end Go.Proofs.YtkoganldcmhopaaDoor

/- Plain: keys of classes as texts; the classes in the order in which the program meets them. -/
namespace Go.Proofs.YtkoganldcmhopaaDoor
open AG

def decL (n : Nat) : List UInt8 := if n < 10 then [UInt8.ofNat (48 + n)] else [UInt8.ofNat (48 + n / 10), UInt8.ofNat (48 + n % 10)]
def keyTl : List Nat → List UInt8
  | [] => []
  | t :: ts => 44 :: (decL t ++ keyTl ts)
def keyL : List Nat → List UInt8
  | [] => []
  | c :: ts => decL c ++ keyTl ts
theorem decL_inj_ : ∀ a b : Fin 100, decL a.val = decL b.val → a = b := by decide +kernel
theorem decL_ne_ : ∀ a : Fin 100, (44 : UInt8) ∉ decL a.val := by decide +kernel
theorem decL_inj {a b : Nat} (ha : a < 100) (hb : b < 100) (h : decL a = decL b) : a = b := by
  have := decL_inj_ ⟨a, ha⟩ ⟨b, hb⟩ h
  injection this
theorem decL_ne {a : Nat} (ha : a < 100) : (44 : UInt8) ∉ decL a := decL_ne_ ⟨a, ha⟩
def Sep44 (r : List UInt8) : Prop := ∀ b r', r = b :: r' → b = 44
theorem keyTl_sep : ∀ ts, Sep44 (keyTl ts)
  | [] => fun b r' h => by cases h
  | _ :: _ => fun b r' h => by unfold keyTl at h; injection h with h1; exact h1.symm
theorem cut44 : ∀ {x y r s : List UInt8}, (44 : UInt8) ∉ x → (44 : UInt8) ∉ y → Sep44 r → Sep44 s → x ++ r = y ++ s → x = y ∧ r = s
  | [], [], _, _, _, _, _, _, h => ⟨rfl, h⟩
  | [], b :: y, r, s, _, hy, hr, _, h => by
    have := hr b (y ++ s) h
    subst this
    exact absurd List.mem_cons_self hy
  | a :: x, [], r, s, hx, _, _, hs, h => by
    have := hs a (x ++ r) h.symm
    subst this
    exact absurd List.mem_cons_self hx
  | a :: x, b :: y, r, s, hx, hy, hr, hs, h => by
    injection h with h1 h2
    subst h1
    obtain ⟨e1, e2⟩ := cut44 (fun h => hx (List.mem_cons_of_mem _ h)) (fun h => hy (List.mem_cons_of_mem _ h)) hr hs h2
    exact ⟨by rw [e1], e2⟩
theorem keyTl_inj : ∀ {ts us : List Nat}, (∀ t ∈ ts, t < 100) → (∀ u ∈ us, u < 100) → keyTl ts = keyTl us → ts = us
  | [], [], _, _, _ => rfl
  | [], _ :: _, _, _, h => by cases h
  | _ :: _, [], _, _, h => by cases h
  | t :: ts, u :: us, h1, h2, h => by
    unfold keyTl at h
    injection h with _ h
    obtain ⟨e1, e2⟩ := cut44 (decL_ne (h1 t List.mem_cons_self)) (decL_ne (h2 u List.mem_cons_self)) (keyTl_sep ts) (keyTl_sep us) h
    rw [decL_inj (h1 t List.mem_cons_self) (h2 u List.mem_cons_self) e1, keyTl_inj (fun x hx => h1 x (List.mem_cons_of_mem _ hx)) (fun x hx => h2 x (List.mem_cons_of_mem _ hx)) e2]
theorem keyL_inj {c d : Nat} {ts us : List Nat} (h1 : ∀ t ∈ c :: ts, t < 100) (h2 : ∀ u ∈ d :: us, u < 100) (h : keyL (c :: ts) = keyL (d :: us)) : c :: ts = d :: us := by
  obtain ⟨e1, e2⟩ := cut44 (decL_ne (h1 c List.mem_cons_self)) (decL_ne (h2 d List.mem_cons_self)) (keyTl_sep ts) (keyTl_sep us) h
  rw [decL_inj (h1 c List.mem_cons_self) (h2 d List.mem_cons_self) e1, keyTl_inj (fun x hx => h1 x (List.mem_cons_of_mem _ hx)) (fun x hx => h2 x (List.mem_cons_of_mem _ hx)) e2]
theorem keyTl_append : ∀ (ts us : List Nat), keyTl (ts ++ us) = keyTl ts ++ keyTl us
  | [], _ => rfl
  | t :: ts, us => by
    show 44 :: (decL t ++ keyTl (ts ++ us)) = (44 :: (decL t ++ keyTl ts)) ++ keyTl us
    rw [keyTl_append ts us]
    simp
theorem keyL_snoc (c : Nat) (ts : List Nat) (t : Nat) : keyL (c :: (ts ++ [t])) = keyL (c :: ts) ++ (44 :: decL t) := by
  show decL c ++ keyTl (ts ++ [t]) = (decL c ++ keyTl ts) ++ (44 :: decL t)
  rw [keyTl_append]
  simp [keyTl]
theorem decL_len (n : Nat) : (decL n).length ≤ 2 := by
  unfold decL
  split <;> simp
theorem keyTl_len : ∀ ts : List Nat, (keyTl ts).length ≤ 3 * ts.length
  | [] => by simp [keyTl]
  | t :: ts => by
    have := keyTl_len ts
    have := decL_len t
    show (44 :: (decL t ++ keyTl ts)).length ≤ _
    rw [List.length_cons, List.length_append, List.length_cons]
    omega
theorem keyL_len (ts : List Nat) : (keyL ts).length ≤ 3 * ts.length := by
  cases ts with
  | nil => simp [keyL]
  | cons c ts =>
    have := keyTl_len ts
    have := decL_len c
    show (decL c ++ keyTl ts).length ≤ _
    rw [List.length_append, List.length_cons]
    omega

/-- The bytes of a list. -/
def baOf (l : List UInt8) : ByteArray := ⟨l.toArray⟩
theorem baOf_list (l : List UInt8) : (baOf l).data.toList = l := by unfold baOf; simp
theorem baOf_size (l : List UInt8) : (baOf l).size = l.length := by unfold baOf; simp [ByteArray.size]
theorem baOf_append (l m : List UInt8) : baOf l ++ baOf m = baOf (l ++ m) := by
  refine ByteArray.ext ?_
  rw [ByteArray.data_append]
  unfold baOf
  simp

theorem cls0_le {a : Au} : ∀ x ∈ cls0 a, x ≤ 12 := by
  intro x hx
  unfold cls0 at hx
  obtain ⟨q, _, rfl⟩ := List.mem_map.1 hx
  split <;> omega
theorem clsI_le {a : Au} (h : auOk a = true) : ∀ i, ∀ x ∈ clsI a i, x ≤ 12
  | 0 => cls0_le
  | i + 1 => fun x hx => by
    have h12 := ((auOk_iff a).1 h).2.2.1
    change x ∈ numb (keysA a (clsI a i)) at hx
    obtain ⟨k, hk, rfl⟩ := List.mem_iff_getElem.1 hx
    rw [numb_len] at hk
    have h1 := numb_lt (keysA a (clsI a i)) hk
    rw [numb_getD _ hk] at h1
    have h2 := dd_len (keysA a (clsI a i))
    rw [keysA_len] at h2
    rw [numb_get _ hk]
    omega
theorem getD_le {c : List Nat} {m : Nat} (h : ∀ x ∈ c, x ≤ m) (i : Nat) : c.getD i 0 ≤ m := by
  rw [List.getD_eq_getElem?_getD]
  cases e : c[i]? with
  | none => exact Nat.zero_le _
  | some x => exact h x (List.mem_of_getElem? e)
theorem sig_lt {a : Au} {c : List Nat} (h : ∀ x ∈ c, x ≤ 12) (q : Nat) : ∀ x ∈ sigA a c q, x < 100 := by
  intro x hx
  unfold sigA at hx
  rcases List.mem_cons.1 hx with rfl | hx
  · have := getD_le h q; omega
  · obtain ⟨t, _, rfl⟩ := List.mem_map.1 hx
    have := getD_le h t.toNat; omega
/-- The keys as texts tell the same states apart. -/
theorem key_numb {a : Au} {c : List Nat} (h : ∀ x ∈ c, x ≤ 12) : numb ((keysA a c).map keyL) = refA a c ∧ (dd ((keysA a c).map keyL)).length = refC a c := by
  have hg : ∀ x ∈ keysA a c, ∀ y ∈ keysA a c, keyL x = keyL y → x = y := by
    intro x hx y hy e
    unfold keysA at hx hy
    obtain ⟨p, _, rfl⟩ := List.mem_map.1 hx
    obtain ⟨q, _, rfl⟩ := List.mem_map.1 hy
    exact keyL_inj (sig_lt h p) (sig_lt h q) e
  exact ⟨numb_map hg, dd_len_map hg⟩

theorem idxOf_le_get : ∀ (l : List Nat) (i : Nat) (h : i < l.length), l.idxOf l[i] ≤ i
  | a :: l, 0, _ => by rw [List.getElem_cons_zero, List.idxOf_cons_self]; exact Nat.le_refl _
  | a :: l, i + 1, h => by
    have ih := idxOf_le_get l i (by simpa using h)
    rw [List.getElem_cons_succ, List.idxOf_cons]
    cases (a == l[i]'(by simpa using h)) with
    | true => simp
    | false => simpa using ih
/-- How many classes the first q states have. -/
noncomputable def clsTo (a : Au) (q : Nat) : Nat := (dd ((clsL a).take q)).length
theorem clsTo_zero (a : Au) : clsTo a 0 = 0 := by unfold clsTo; rw [List.take_zero]; rfl
theorem clsTo_all (a : Au) : clsTo a a.nx.length = clsC a := by
  unfold clsTo clsC
  rw [List.take_of_length_le (by rw [clsL_len]; exact Nat.le_refl _)]
theorem clsTo_step {a : Au} {q : Nat} (hq : q < a.nx.length) : (cA a q < clsTo a q ∧ clsTo a (q + 1) = clsTo a q) ∨ (cA a q = clsTo a q ∧ clsTo a (q + 1) = clsTo a q + 1 ∧ repA a (clsTo a q) = q) := by
  have hql : q < (clsL a).length := by rw [clsL_len]; exact hq
  obtain ⟨K, hK⟩ : ∃ K, K = clsL a := ⟨_, rfl⟩
  have e1 : K.take (q + 1) = K.take q ++ [K[q]'(by rw [hK]; exact hql)] := List.take_succ_eq_append_getElem (by rw [hK]; exact hql)
  have hKq : q < K.length := by rw [hK]; exact hql
  have hcA : ∀ p (hp : p < K.length), cA a p = (dd K).idxOf K[p] := fun p hp => by
    subst hK
    exact numb_getD _ hp
  obtain ⟨m, hm⟩ := dd_append (K.take q) (K.drop q)
  rw [List.take_append_drop] at hm
  have hlow : ∀ p (hp : p < K.length), K[p] ∈ K.take q → cA a p < clsTo a q := fun p hp h => by
    have h1 : K[p] ∈ dd (K.take q) := (dd_mem _ _).2 h
    rw [hcA p hp, hm, idx_pre h1]
    unfold clsTo
    rw [← hK]
    exact List.idxOf_lt_length_iff.2 h1
  by_cases hin : K[q] ∈ K.take q
  · left
    refine ⟨hlow q hKq hin, ?_⟩
    unfold clsTo
    rw [← hK, e1, dd_snoc, addD_old ((dd_mem _ _).2 hin)]
  · right
    have hnd : K[q] ∉ dd (K.take q) := fun h => hin ((dd_mem _ _).1 h)
    have e2 : clsTo a (q + 1) = clsTo a q + 1 := by
      unfold clsTo
      rw [← hK, e1, dd_snoc, addD_new hnd]
      simp
    have e3 : cA a q = clsTo a q := by
      rw [hcA q hKq]
      obtain ⟨m2, hm2⟩ := dd_append (K.take (q + 1)) (K.drop (q + 1))
      rw [List.take_append_drop, e1, dd_snoc, addD_new hnd] at hm2
      rw [hm2, List.append_assoc, List.idxOf_append, if_neg hnd]
      unfold clsTo
      rw [← hK]
      simp
    refine ⟨e3, e2, ?_⟩
    unfold repA
    have hcl : q < (clsA a).length := by rw [clsA_len]; exact hq
    have hget : (clsA a)[q] = clsTo a q := by rw [clsA_get a hcl, e3]
    have hle : (clsA a).idxOf (clsTo a q) ≤ q := by
      rw [← hget]
      exact idxOf_le_get _ _ hcl
    rcases Nat.lt_or_ge ((clsA a).idxOf (clsTo a q)) q with hlt | hge
    · exfalso
      have h1 : (clsA a).idxOf (clsTo a q) < (clsA a).length := by omega
      have h2 : (clsA a)[(clsA a).idxOf (clsTo a q)] = clsTo a q := List.getElem_idxOf h1
      rw [clsA_get a h1] at h2
      have hpK : (clsA a).idxOf (clsTo a q) < K.length := by omega
      have h3 := hlow _ hpK (by
        rw [List.mem_take_iff_getElem]
        exact ⟨_, by omega, rfl⟩)
      omega
    · omega

end Go.Proofs.YtkoganldcmhopaaDoor

/- Plain: two states of a least automaton are told apart by a short word. -/
namespace Go.Proofs.YtkoganldcmhopaaDoor
open AG

/-- The same answers to all words of at most i letters. -/
def alikeTo (a : Au) (i p q : Nat) : Prop := ∀ r : List Nat, r.length ≤ i → (∀ l ∈ r, l ∈ letters a.al) → a.ac.getD (runA a p r) false = a.ac.getD (runA a q r) false
theorem alike_mono {a : Au} {i j p q : Nat} (hij : i ≤ j) (h : alikeTo a j p q) : alikeTo a i p q := fun r hr hl => h r (Nat.le_trans hr hij) hl
theorem alike_next {a : Au} {i p q : Nat} (h : alikeTo a (i + 1) p q) {l : Nat} (hl : l ∈ letters a.al) : alikeTo a i (goA a p l) (goA a q l) := fun r hr hrl => by
  have := h (r ++ [l]) (by rw [List.length_append]; simpa using hr) (fun x hx => by
    rcases List.mem_append.1 hx with hx | hx
    · exact hrl x hx
    · rw [List.mem_singleton.1 hx]; exact hl)
  rwa [runA_snoc, runA_snoc] at this
theorem alike_back {a : Au} {i p q : Nat} (h0 : alikeTo a 0 p q) (h : ∀ l ∈ letters a.al, alikeTo a i (goA a p l) (goA a q l)) : alikeTo a (i + 1) p q := fun r hr hrl => by
  by_cases he : r = []
  · subst he
    exact h0 [] (Nat.zero_le _) (by simp)
  · obtain ⟨r', l, rfl⟩ : ∃ r' l, r = r' ++ [l] := ⟨r.dropLast, r.getLast he, (List.dropLast_concat_getLast he).symm⟩
    rw [runA_snoc, runA_snoc]
    refine h l (hrl l (by simp)) r' (by rw [List.length_append] at hr; simpa using hr) fun x hx => hrl x (List.mem_append_left _ hx)
/-- If a further letter tells no more states apart, no word does. -/
theorem alike_stop {a : Au} (h : auOk a = true) {i : Nat} (hs : ∀ p q, p < a.nx.length → q < a.nx.length → alikeTo a i p q → alikeTo a (i + 1) p q) : ∀ k p q, p < a.nx.length → q < a.nx.length → alikeTo a i p q → alikeTo a (i + k) p q
  | 0, _, _, _, _, hpq => hpq
  | k + 1, p, q, hp, hq, hpq => by
    have h1 := hs p q hp hq hpq
    refine alike_back (alike_mono (Nat.zero_le _) hpq) fun l hl => ?_
    exact alike_stop h hs k _ _ (goA_lt h hp) (goA_lt h hq) (alike_next h1 hl)
theorem alike_all {a : Au} {p q : Nat} (h : ∀ i, alikeTo a i p q) : resid a p = resid a q := by
  funext r
  unfold resid
  refine propext (and_congr_right fun hr => ?_)
  rw [h r.length r (Nat.le_refl _) hr]
/-- How many states short words tell apart. -/
def kinds (a : Au) (i : Nat) : Nat := (dd (clsI a i)).length
theorem cls_alike {a : Au} (h : auOk a = true) (i : Nat) {p q : Nat} (hp : p < (clsI a i).length) (hq : q < (clsI a i).length) : (clsI a i)[p] = (clsI a i)[q] ↔ alikeTo a i p q := by
  have hp' := hp
  have hq' := hq
  rw [clsI_len] at hp' hq'
  have := clsI_eq h i p q hp' hq'
  rw [List.getD_eq_getElem?_getD, List.getD_eq_getElem?_getD, List.getElem?_eq_getElem hp, List.getElem?_eq_getElem hq] at this
  exact this
theorem kinds_grow {b : Au} (h : auOk b = true) (ha : ApartA b) {i : Nat} (hk : kinds b i < b.nx.length) : kinds b i < kinds b (i + 1) := by
  obtain ⟨h1, h2⟩ := dd_finer (ks := clsI b i) (ms := clsI b (i + 1)) (by rw [clsI_len, clsI_len]) (fun p q hp hq e => by
    rw [cls_alike h i hp hq]
    have := (cls_alike h (i + 1) (p := p) (q := q) (by rw [clsI_len] at hp ⊢; exact hp) (by rw [clsI_len] at hq ⊢; exact hq)).1 e
    exact alike_mono (Nat.le_succ _) this)
  rcases Nat.lt_or_ge (kinds b i) (kinds b (i + 1)) with hlt | hge
  · exact hlt
  · exfalso
    have h3 := h2 hge
    have hs : ∀ p q, p < b.nx.length → q < b.nx.length → alikeTo b i p q → alikeTo b (i + 1) p q := fun p q hp hq hpq => by
      have hp1 : p < (clsI b i).length := by rw [clsI_len]; exact hp
      have hq1 : q < (clsI b i).length := by rw [clsI_len]; exact hq
      have e := (h3 p q hp1 hq1).1 ((cls_alike h i hp1 hq1).2 hpq)
      exact (cls_alike h (i + 1) _ _).1 e
    have hnd : (clsI b i).Nodup := by
      rw [List.nodup_iff_pairwise_ne, List.pairwise_iff_getElem]
      intro p q hp hq hpq e
      have hp' : p < b.nx.length := by rw [clsI_len] at hp; exact hp
      have hq' : q < b.nx.length := by rw [clsI_len] at hq; exact hq
      have hal := (cls_alike h i hp hq).1 e
      have := ha p q hp' hq' (alike_all fun j => by
        rcases Nat.le_total j i with hj | hj
        · exact alike_mono hj hal
        · have := alike_stop h hs (j - i) p q hp' hq' hal
          rwa [show i + (j - i) = j from by omega] at this)
      omega
    have hfull := (numb_range hnd).1
    unfold kinds at hk
    rw [hfull, clsI_len] at hk
    omega
theorem kinds_two {b : Au} (h : auOk b = true) (ha : ApartA b) (hn : 2 ≤ b.nx.length) : 2 ≤ kinds b 0 := by
  rcases Nat.lt_or_ge (kinds b 0) 2 with hlt | hge
  · exfalso
    have hall : ∀ p q, p < b.nx.length → q < b.nx.length → alikeTo b 0 p q := fun p q hp hq => by
      have hp1 : p < (clsI b 0).length := by rw [clsI_len]; exact hp
      have hq1 : q < (clsI b 0).length := by rw [clsI_len]; exact hq
      rw [← cls_alike h 0 hp1 hq1]
      have e1 := numb_lt (clsI b 0) hp1
      have e2 := numb_lt (clsI b 0) hq1
      have hk : (dd (clsI b 0)).length < 2 := hlt
      exact (numb_eq (clsI b 0) hp1 hq1).1 (by omega)
    have hs : ∀ p q, p < b.nx.length → q < b.nx.length → alikeTo b 0 p q → alikeTo b (0 + 1) p q := fun p q hp hq hpq =>
      alike_back hpq fun l _ => hall _ _ (goA_lt h hp) (goA_lt h hq)
    have := ha 0 1 (by omega) (by omega) (alike_all fun j => by
      have := alike_stop h hs j 0 1 (by omega) (by omega) (hall 0 1 (by omega) (by omega))
      rwa [Nat.zero_add] at this)
    omega
  · exact hge
theorem kinds_many {b : Au} (h : auOk b = true) (ha : ApartA b) (hn : 2 ≤ b.nx.length) : ∀ i, min b.nx.length (i + 2) ≤ kinds b i
  | 0 => by have := kinds_two h ha hn; omega
  | i + 1 => by
    have ih := kinds_many h ha hn i
    rcases Nat.lt_or_ge (kinds b i) b.nx.length with hlt | hge
    · have := kinds_grow h ha hlt
      omega
    · obtain ⟨h1, -⟩ := dd_finer (ks := clsI b i) (ms := clsI b (i + 1)) (by rw [clsI_len, clsI_len]) (fun p q hp hq e => by
        rw [cls_alike h i hp hq]
        have := (cls_alike h (i + 1) (p := p) (q := q) (by rw [clsI_len] at hp ⊢; exact hp) (by rw [clsI_len] at hq ⊢; exact hq)).1 e
        exact alike_mono (Nat.le_succ _) this)
      have h1' : kinds b i ≤ kinds b (i + 1) := h1
      omega
theorem split_short {b : Au} (h : auOk b = true) (ha : ApartA b) {p q : Nat} (hp : p < b.nx.length) (hq : q < b.nx.length) (hne : p ≠ q) :
    ∃ r : List Nat, (∀ l ∈ r, l ∈ letters b.al) ∧ r.length + 2 ≤ b.nx.length ∧ b.ac.getD (runA b p r) false ≠ b.ac.getD (runA b q r) false := by
  have hn : 2 ≤ b.nx.length := by omega
  have hk := kinds_many h ha hn (b.nx.length - 2)
  have hfull : (dd (clsI b (b.nx.length - 2))).length = (clsI b (b.nx.length - 2)).length := by
    have h1 := dd_len (clsI b (b.nx.length - 2))
    rw [clsI_len] at h1 ⊢
    unfold kinds at hk
    omega
  have hnd := dd_full _ hfull
  refine Classical.byContradiction fun hno => ?_
  have hal : alikeTo b (b.nx.length - 2) p q := fun r hr hl => by
    refine Classical.byContradiction fun hne => hno ⟨r, hl, by omega, hne⟩
  have hp1 : p < (clsI b (b.nx.length - 2)).length := by rw [clsI_len]; exact hp
  have hq1 : q < (clsI b (b.nx.length - 2)).length := by rw [clsI_len]; exact hq
  have e := (cls_alike h _ hp1 hq1).2 hal
  have hpw := List.pairwise_iff_getElem.1 (List.nodup_iff_pairwise_ne.1 hnd)
  rcases Nat.lt_trichotomy p q with h1 | h1 | h1
  · exact hpw p q hp1 hq1 h1 e
  · exact hne h1
  · exact hpw q p hq1 hp1 h1 e.symm

end Go.Proofs.YtkoganldcmhopaaDoor

/- The program's CountAccepted. -/
namespace Go.Proofs.YtkoganldcmhopaaDoor
open Go.RowKit Go.BigFrame AG

/-- A list of n numbers in a block: those below q are what f says. -/
structure NumsIn (cs : Array Value) (n : Nat) (f : Nat → Nat) : Prop where
  size : cs.size = n
  at_ : ∀ p, p < n → cs[p]? = some (.int .i64 (f p : Nat))
theorem NumsIn.set_ {cs : Array Value} {n : Nat} {f f' : Nat → Nat} {p : Nat} {v : Int} (h : NumsIn cs n f) (hp : p < n) (hv : v = ((f' p : Nat) : Int)) (ho : ∀ q, q ≠ p → f' q = f q) : NumsIn (cs.setIfInBounds p (.int .i64 v)) n f' := by
  refine ⟨by simpa using h.size, fun q hq => ?_⟩
  by_cases e : q = p
  · subst e
    rw [Array.getElem?_setIfInBounds_self_of_lt (by rw [h.size]; exact hq), hv]
  · rw [Array.getElem?_setIfInBounds_ne (Ne.symm e), h.at_ q hq, ho q e]

theorem NumsIn.congr {cs : Array Value} {n : Nat} {f f' : Nat → Nat} (h : NumsIn cs n f) (e : ∀ p, f p = f' p) : NumsIn cs n f' := by
  have : f = f' := funext e
  rw [← this]
  exact h
end Go.Proofs.YtkoganldcmhopaaDoor

/- The program's searches in one automaton: their closures, leadsToAccepting. -/
namespace Go.Proofs.YtkoganldcmhopaaDoor
open Go.RowKit Go.BigFrame AG

theorem RW_run {a : Au} {from_ : Nat} {L : List Nat} : ∀ (r : List Nat) (n : Nat), RW (fun n => n ∈ [from_]) L (fun q l => [goA a q l]) r n ↔ (∀ l ∈ r, l ∈ L) ∧ n = runA a from_ r
  | [], n => by
    show n ∈ [from_] ↔ _
    simp [runA]
  | l :: r, n => by
    show (l ∈ L ∧ ∃ m, RW (fun n => n ∈ [from_]) L (fun q l => [goA a q l]) r m ∧ n ∈ [goA a m l]) ↔ _
    constructor
    · rintro ⟨hl, m, hm, hn⟩
      obtain ⟨h1, h2⟩ := (RW_run r m).1 hm
      refine ⟨fun x hx => ?_, ?_⟩
      · rcases List.mem_cons.1 hx with rfl | hx
        · exact hl
        · exact h1 x hx
      · rw [List.mem_singleton.1 hn, h2]
        rfl
    · rintro ⟨h1, h2⟩
      exact ⟨h1 l List.mem_cons_self, runA a from_ r, (RW_run r _).2 ⟨fun x hx => h1 x (List.mem_cons_of_mem _ hx), rfl⟩, by rw [h2]; exact List.mem_singleton.2 rfl⟩


set_option maxRecDepth 100000 in
set_option maxHeartbeats 4000000 in
theorem fromNext_any (a : Au) (m g bT base q l : Nat) (v : Value) (ns : List Nat) (w : World) (hq : q < m) (hm : m ≤ 4096) (hl : l < 6) (hT : TabA w g m a) (hc : w.cell? ⟨bT, 0, none⟩ = some (.slice (some ⟨g, 0, none⟩) m m)) (hns : ns.length ≤ 4294967296) (hb : base ≤ w.heap.size) (hown : w.ownsRow base 3 1 v ns.length (natVals ns)) :
    Calls Tryd.prog 159 #[.int .i64 (q : Nat), .int .i64 (l : Nat), v, .pointer (some ⟨bT, 0, none⟩)] w fun e w' =>
      ∃ v', e = .returned v' ∧ w'.ownsRow base 3 1 v' (ns ++ [goA a q l]).length (natVals (ns ++ [goA a q l])) ∧ KeepB (fun b => v.ownBlock = some b) w w' := by
  obtain ⟨i0, hi, hz0, hz1, hz2⟩ := info_parts infoInt
  obtain ⟨t, ht⟩ : ∃ t, Hid (t = goA a q l) := ⟨_, hid rfl⟩
  have c1 := hT.2 q l hq hl
  rw [← ht.out] at c1 ⊢
  obtain ⟨Av, cv, rfl, -, -⟩ := own_slice hown
  have k1 : (0 : Int) ≤ (q : Int) ∧ (q : Int) < (m : Int) ∧ (0 : Int) ≤ (l : Int) ∧ (l : Int) < 6 := by omega
  replace hown := hid hown
  replace hT := hid hT
  go_enter Tryd.func159, Tryd.ntmps159
  go_wp2_with (at_builtin; refine wpList_append_own_at _ rfl _ _ 52 rfl base 3 i0 (.int .i64 0) 1 8 Tryd.underlying52 hi hz0 hz1 hz2 rfl (by decide) _ _ _ rfl (hown.out.alloc _) ⟨w.heap.size, 0, none⟩ 1 1 [.int .i64 (t : Nat)] rfl rfl (cell_one_new _ _ _) (by intro u hu; simp at hu; subst hu; rfl) (by unfold maxLen; omega) (by omega) (by simp; omega) ?_; intro v5 w5 hO5 hg5 _ hat5; obtain ⟨A5, c5, ev5, -, -⟩ := own_slice hO5; subst ev5; replace hO5 := hid hO5; replace hg5 := hid hg5)
  go_ret
  refine ⟨_, rfl, ?_, ((KeepB.refl _ w).alloc _).grown hg5.out fun k hk _ => hk⟩
  have := hO5.out
  rw [List.length_append]
  unfold natVals at this ⊢
  rw [List.map_append]
  exact this
theorem fromNext_ok {a : Au} {m g bT : Nat} {w : World} (hok : auOk a = true) (hm : m = a.nx.length) (hT : TabA w g m a) (hc : w.cell? ⟨bT, 0, none⟩ = some (.slice (some ⟨g, 0, none⟩) m m)) :
    NextOk w m (letters a.al) (fun q l => [goA a q l]) 159 #[.pointer (some ⟨bT, 0, none⟩)] := by
  have h12 := ((auOk_iff a).1 hok).2.2.1
  refine ⟨fun args w' => by go_simp, fun q hq l _ n hn => ?_, fun q _ l _ => by simp, fun w' q l v ns base hb hq hl hns hB hB' hown => ?_⟩
  · rw [List.mem_singleton.1 hn, hm]
    exact goA_lt hok (by rw [← hm]; exact hq)
  · exact fromNext_any a m g bT base q l v ns w' hq (by omega) (letters_lt hl).1 (hT.later hb) ((hb.cell (World.block_lt_of_cell? _ _ hc)).trans hc) hns hB' hown


end Go.Proofs.YtkoganldcmhopaaDoor

/- The program's trim: what can be reached, numbered anew. -/
namespace Go.Proofs.YtkoganldcmhopaaDoor
open Go.RowKit Go.BigFrame Go.Maps AG

theorem infoBoolT : (Tryd.prog.info? 4).map (fun i => (i.zero, i.size, i.bytes)) = some (some (.bool false), 1, 1) := by kernel_rfl

set_option maxRecDepth 100000 in
set_option maxHeartbeats 1000000 in
theorem trimStep_any (a : Au) (m g bT q l : Nat) (w : World) (hq : q < m) (hm : m ≤ 4096) (hl : l < 6) (hT : TabA w g m a) (hc : w.cell? ⟨bT, 0, none⟩ = some (.slice (some ⟨g, 0, none⟩) m m)) :
    Calls Tryd.prog 156 #[.int .i64 (q : Nat), .int .i64 (l : Nat), .pointer (some ⟨bT, 0, none⟩)] w fun e w' => e = .returned (.int .i64 (goA a q l : Nat)) ∧ Below w.heap.size w w' := by
  obtain ⟨t, ht⟩ : ∃ t, Hid (t = goA a q l) := ⟨_, hid rfl⟩
  have c1 := hT.2 q l hq hl
  rw [← ht.out] at c1 ⊢
  have k1 : (0 : Int) ≤ (q : Int) ∧ (q : Int) < (m : Int) ∧ (0 : Int) ≤ (l : Int) ∧ (l : Int) < 6 := by omega
  replace hT := hid hT
  go_enter Tryd.func156, Tryd.ntmps156
  go_wp2
  go_ret
  exact ⟨rfl, Below.refl _ _⟩
theorem trimStep_ok {a : Au} {m g bT : Nat} {w : World} (hok : auOk a = true) (hm : m = a.nx.length) (hT : TabA w g m a) (hc : w.cell? ⟨bT, 0, none⟩ = some (.slice (some ⟨g, 0, none⟩) m m)) :
    NumOk w (fun q => q < m) (letters a.al) (goA a) 156 #[.pointer (some ⟨bT, 0, none⟩)] := by
  have h12 := ((auOk_iff a).1 hok).2.2.1
  refine ⟨fun args w' => by go_simp, fun w' q l hb hq hl => ?_, fun q l hq _ => ?_, fun q hq => ?_⟩
  · exact trimStep_any a m g bT q l w' hq (by omega) (letters_lt hl).1 (hT.later hb) ((hb.cell (World.block_lt_of_cell? _ _ hc)).trans hc)
  · have := goA_lt (l := l) hok (show q < a.nx.length by omega)
    omega
  · omega

/-- What trim holds in memory. -/
structure TrimSt (w3 wr : World) (gO : Nat) (al : Int) (vR vA : Value) (acs : List Bool) : Prop where
  below : Below w3.heap.size w3 wr
  ge : w3.heap.size ≤ gO
  acc : wr.ownsRow w3.heap.size 4 1 vA acs.length (boolVals acs)
  blk : Blk wr gO 26 #[.int .i64 al, vR, vA]
theorem TrimSt.later {w3 wr w' : World} {gO : Nat} {al : Int} {vR vA : Value} {acs : List Bool} (h : TrimSt w3 wr gO al vR vA acs) (hb : Below wr.heap.size wr w') : TrimSt w3 w' gO al vR vA acs :=
  ⟨h.below.trans (hb.mono h.below.size), h.ge, own_later_ h.acc hb, h.blk.below hb h.blk.lt⟩
theorem TrimSt.put {w3 wr w1 : World} {gO : Nat} {al : Int} {vR vA vA' : Value} {acs : List Bool} {t : Bool} (h : TrimSt w3 wr gO al vR vA acs) (hg : wr.grownBy w1 vA.ownBlock)
    (ho : w1.ownsRow w3.heap.size 4 1 vA' (acs.length + 1) (boolVals acs ++ [.bool t])) : TrimSt w3 (w1.setCell ⟨gO, 2, none⟩ vA') gO al vR vA' (acs ++ [t]) := by
  have hkA : KeepB (fun b => vA.ownBlock = some b) wr w1 := (KeepB.refl _ wr).grown hg fun k hk _ => hk
  have hblk1 : Blk w1 gO 26 #[.int .i64 al, vR, vA] := h.blk.keep hkA fun e => own_ne h.acc h.blk (by decide) _ e rfl
  have hkB : KeepB (fun b => b = gO) w1 (w1.setCell ⟨gO, 2, none⟩ vA') := (KeepB.refl _ w1).setCell _ _ fun _ => rfl
  have hb1 : Below w3.heap.size w3 w1 := hkA.below h.below h.below.size fun b e => own_block h.acc b e
  refine ⟨hkB.below hb1 hb1.size fun b e => by rw [e]; exact h.ge, h.ge, ?_, by simpa using hblk1.set_ 2 vA'⟩
  have h2 : w1.ownsRow w3.heap.size 4 1 vA' (acs ++ [t]).length (boolVals (acs ++ [t])) := by
    unfold boolVals at ho ⊢
    rw [List.length_append, List.map_append]
    exact ho
  exact own_keep h2 hkB (own_ne h2 hblk1 (by decide))

def TrimsTo (a : Au) (w : World) (e : Ending) (w' : World) : Prop :=
  Below w.heap.size w w' ∧ ∃ v1 v2 xs, e = .returned (.agg #[.int .i64 a.al, v1, v2]) ∧ AuOwn w' w.heap.size v1 v2 (trimA a) xs

set_option maxRecDepth 100000 in
set_option maxHeartbeats 4000000 in
theorem trim_any (a : Au) (A B : Option Addr) (c d : Nat) (x : List Nat × List (List Nat)) (w : World) (hok : auOk a = true) (hx : trimOpt a = some x) (ha : AuAt w A c B d a) :
    Calls Tryd.prog 98 #[a.val A c B d] w (TrimsTo a w) := by
  obtain ⟨halp, hn1, hn12, hn3, -⟩ := (auOk_iff a).1 hok
  obtain ⟨b0, hbi, hb0, hb1', hb2'⟩ := info_parts infoBoolT
  obtain ⟨w0, hw0, hz0, hB0, hS, -⟩ := boxed2 w #[Value.int IntKind.i64 a.al, Value.slice A a.nx.length c, Value.slice B a.ac.length d] 26 #[Value.int IntKind.i64 0, Value.slice none 0 0, Value.slice none 0 0] 26
  have hres : Blk w0 (w.heap.size + 1) 26 #[Value.int IntKind.i64 0, Value.slice none 0 0, Value.slice none 0 0] := by
    rw [← hw0]
    have := Blk.new (w.alloc (.cells #[Value.int IntKind.i64 a.al, Value.slice A a.nx.length c, Value.slice B a.ac.length d] 26)) 26 #[Value.int IntKind.i64 0, Value.slice none 0 0, Value.slice none 0 0]
    simpa using this
  have ha0 := hid (ha.later hB0)
  have p0 := hS 0 _ rfl _ (Below.refl _ _)
  have p1 := hS 1 _ rfl _ (Below.refl _ _)
  have p2 := hS 2 _ rfl _ (Below.refl _ _)
  replace ha := hid ha
  replace hres := hid hres
  have hok' := hid hok
  have hn3' := hid hn3
  clear hok hn3
  replace halp := hid halp
  have hxl12 : x.1.length ≤ a.nx.length := (numRes_len hx).1
  have hxq : Hid (∀ q ∈ x.1, q < a.nx.length) := hid (by
    rw [(numRes_spec hx).1]
    exact nsAt_all (P := fun q => q < a.nx.length) (by omega) (fun q hq l _ => goA_lt hok'.out hq) _)
  have htr : Hid (trimA a = ⟨a.al, toRows x.2, x.1.map fun q => a.ac.getD q false⟩) := hid (by unfold trimA; rw [hx])
  replace hx := hid hx
  unfold AG.Au.val
  go_enter Tryd.func98, Tryd.ntmps98
  go_wp2_with fail
  refine (tableOf_any a A B c d w0 (by omega) (tabOk_of hok'.out) ha0.out).mono ?_
  rintro e w1 ⟨g, rfl, hg, hb1⟩
  have hB1 := hB0.trans (hb1.mono hB0.size)
  clear p0 p1 p2
  replace hg := hid hg
  have hz1 := hb1.size
  go_upto_region 2 with fail
  obtain ⟨w2, hw2, hz2, hB2', hU⟩ := boxed w1 #[.slice (some ⟨g, 0, none⟩) a.nx.length a.nx.length] 111
  rw [hw2]
  clear hw2 hw0
  have hB2 := hB1.trans (hB2'.mono hB1.size)
  have hb02 := hb1.trans (hB2'.mono hz1)
  have hg2 := hid (hg.out.later hB2')
  have ha2 := hid (ha0.out.later hb02)
  have hres2 := hid (hres.out.below hb02 hres.out.lt)
  have hU' := hid (fun w' (hb : Below w2.heap.size w2 w') => hU 0 _ rfl w' (hb.mono hz2))
  have hS0 := hid (fun w' (hb : Below w2.heap.size w2 w') => hS 0 _ rfl w' ((hb02.trans (hb.mono hb02.size)).mono hz0))
  have hS2 := hid (fun w' (hb : Below w2.heap.size w2 w') => hS 2 _ rfl w' ((hb02.trans (hb.mono hb02.size)).mono hz0))
  have y0 := fun x => hU'.out _ (Fam.below w2.heap.size w2 x)
  have y1 := fun x => hS0.out _ (Fam.below w2.heap.size w2 x)
  have hz2g : w.heap.size + 2 ≤ w2.heap.size := Nat.le_trans hz0 hb02.size
  clear hU
  refine wp_region_grow 14 w2.heap.size w2 (fun i u w' => if i = 2 then OwnNats w' w2.heap.size u (letters a.al) else ∃ v1 v2 xs, u = numV v1 v2 true ∧ OwnNats w' w2.heap.size v1 x.1 ∧ RowsOwn w' w2.heap.size v2 xs ∧ xs.map (·.r) = toRows x.2) (by kernel_rfl) (by kernel_rfl) (Nat.le_refl _) (Below.refl _ _) ?_
  simp only [List.take_succ_cons, List.take_zero, List.drop_succ_cons, List.drop_zero]
  (repeat (refine grow_quiet (by rfl) (by rfl) (by rfl) ?_; intro K hK; go_big_quiet_op; go_big_quiet_on))
  refine grow_call (by rfl) (by rfl) (fun u v v' hb h => ?_) (fun wq hbq _ => ?_) fun u hu => ?_
  · exact own_keep h (.of_below (K := fun _ => False) hb) fun _ _ h => h
  · go_simp
    refine ⟨rfl, (lettersOf_any a.al wq).mono ?_⟩
    rintro e w5 ⟨v, rfl, ho, hb5⟩
    exact ⟨v, rfl, hb5, own_base ho hbq.size⟩
  simp only [Act.put, List.setIfInBounds_toArray, List.set_cons_zero, List.set_cons_succ]
  (repeat (refine grow_quiet (by rfl) (by rfl) (by rfl) ?_; intro K hK; go_big_quiet_op; go_big_quiet_on))
  refine grow_call (by rfl) (by rfl) (fun v x x' hb h => ?_) (fun wq hbq hfx => ?_) fun u2 hu2 => ?_
  · obtain ⟨v1, v2, xs, h1, h2, h3, h4⟩ := h
    exact ⟨v1, v2, xs, h1, own_keep h2 (.of_below (K := fun _ => False) hb) fun _ _ h => h, h3.later hb, h4⟩
  · have hlet : OwnNats wq w2.heap.size u (letters a.al) := hfx _ List.mem_cons_self (by kernel_rfl)
    have hcT := hid (hU'.out wq hbq)
    have hgq := hid (hg2.out.later hbq)
    obtain ⟨AL, cL, rfl, hcL, hcL', hLL⟩ := OwnNats.read hlet
    go_simp
    refine ⟨rfl, ?_⟩
    have hnum := numbered_any wq (fun q => q < a.nx.length) (letters a.al) (goA a) 156 _ 0 a.nx.length AL cL (trimStep_ok hok'.out rfl hgq.out hcT.out) (by omega) hn1 (by omega) (lettersTo_len _ 6) hcL hcL' hLL
    refine hnum.mono ?_
    rintro e w6 ⟨hb6, h6⟩
    rw [show numRes (goA a) (letters a.al) 0 a.nx.length = some x from hx.out] at h6
    obtain ⟨v1, v2, xs, rfl, h1, h2, h3⟩ := h6
    exact ⟨_, rfl, hb6, v1, v2, rfl, own_base h1 hbq.size, xs, h2.base hbq.size, h3⟩
  obtain ⟨w6', -, v1, v2, xs, rfl, ho1, ho2, hxr⟩ := hu2
  obtain ⟨A1, c1, rfl, hc1, hc1', -⟩ := OwnNats.read ho1
  obtain ⟨A2, c2, rfl, hc2, hc2'⟩ := own_slice ho2.own
  clear ho1 ho2
  unfold numV
  simp only [Act.put, List.setIfInBounds_toArray, List.set_cons_zero, List.set_cons_succ]
  (repeat (refine grow_quiet (by rfl) (by rfl) (by rfl) ?_; intro K hK; go_big_quiet_op; go_big_quiet_on))
  refine grow_nil ?_
  intro w3 hb3 hf
  have hf6 := hf _ List.mem_cons_self
  dsimp only at hf6
  rw [if_neg (by decide)] at hf6
  obtain ⟨v1, v2, xs', he, hs1, hs2, hxr'⟩ := hf6
  injection he with he
  injection he with he
  injection he with he1 he
  injection he with he2 he
  subst he1
  subst he2
  clear he hf y0 y1
  obtain ⟨A1', c1', he, -, -, hN1⟩ := OwnNats.read hs1
  injection he with e1 e2 e3
  subst e1
  have hB3 := hB2.trans (hb3.mono hB2.size)
  have hxl : xs'.length = xs.length := by
    have h1 := congrArg List.length hxr
    have h2 := congrArg List.length hxr'
    rw [List.length_map] at h1 h2
    omega
  have hz3 := hb3.size
  have hst0 : Hid (TrimSt w3 (w3.alloc (.cells #[.int .i64 a.al, .slice A2 xs.length c2, .slice none 0 0] 26)) w3.heap.size a.al (.slice A2 xs.length c2) (.slice none 0 0) []) :=
    hid ⟨(Below.refl _ _).alloc (Nat.le_refl _) _, Nat.le_refl _, World.ownsRow_nil _ _ _ _, Blk.new _ _ _⟩
  have p0 := hS0.out w3 hb3
  have ha3 := hid (ha2.out.later hb3)
  have hres3 := hid (hres2.out.below hb3 hres2.out.lt)
  have hS2' := hid (fun w' (hb : Below w3.heap.size w3 w') => hS2.out w' (hb3.trans (hb.mono hz3)))
  replace hN1 := hid hN1
  replace hs1 := hid hs1
  replace hs2 := hid hs2
  replace hxr := hid hxr
  replace hxr' := hid hxr'
  clear hS
  go_wp2_with fail
  go_loopw [29] (fun iv wr => ∃ (i : Nat) (vA : Value), iv = .int .i64 (i : Nat) ∧ i ≤ x.1.length ∧ TrimSt w3 wr w3.heap.size a.al (.slice A2 xs.length c2) vA ((x.1.take i).map fun q => a.ac.getD q false)) (fun iv _ => x.1.length - (intOf iv).toNat)
  case atStart => exact ⟨0, _, rfl, Nat.zero_le _, hst0.out⟩
  case round =>
    clear hst0 p0
    obtain ⟨i, vA, rfl, hi, hst⟩ := hrel
    have hBm := hst.below
    have hzm := hBm.size
    have hBw := hB3.trans (hBm.mono hB3.size)
    obtain ⟨acs, hacs⟩ : ∃ acs, acs = (x.1.take i).map fun q => a.ac.getD q false := ⟨_, rfl⟩
    rw [← hacs] at hst
    have hal : acs.length = i := by rw [hacs, List.length_map, List.length_take]; omega
    obtain ⟨AA, cA, rfl, hcA, hcA'⟩ := own_slice hst.acc
    have hgO := hst.blk.lt
    by_cases hlt : i < x.1.length
    · obtain ⟨bN, oN, hA1, hbN, hEN⟩ := hN1.out (by omega)
      subst hA1
      have a0 := (hBm.cell (p := ⟨bN, oN + i, none⟩) (by simpa using hbN)).trans (hEN i hlt)
      obtain ⟨q, hq⟩ : ∃ q, Hid (q = x.1[i]) := ⟨_, hid rfl⟩
      rw [← hq.out] at a0
      have hqn : q < a.nx.length := hxq.out q (by rw [hq.out]; exact List.getElem_mem hlt)
      have hqa : q < a.ac.length := by have := hn3'.out; omega
      obtain ⟨bB, oB, hB', hbB, hEB⟩ := (ha3.out.later hBm).acc (by omega)
      subst hB'
      have a1 := hEB q hqa
      obtain ⟨t, ht⟩ : ∃ t, Hid (t = a.ac[q]) := ⟨_, hid rfl⟩
      rw [← ht.out] at a1
      have a2 : wr.cell? ⟨w.heap.size, 2, none⟩ = some (.slice (some ⟨bB, oB, none⟩) a.ac.length d) := hS2'.out wr hBm
      have a3 := hst.blk.cell 2
      simp only [List.getElem?_toArray, List.getElem?_cons_zero, List.getElem?_cons_succ] at a3
      have hlw : w.heap.size < wr.heap.size := by omega
      have y0 : ∀ x', (Fam wr.heap.size wr x').cell? ⟨w3.heap.size, 2, none⟩ = some (.slice AA acs.length cA) := fun x' => by rw [(Fam.below wr.heap.size wr x').cell (by simpa using hgO)]; exact a3
      have y1 : ∀ x', (Fam wr.heap.size wr x').cell? ⟨w.heap.size, 2, none⟩ = some (.slice (some ⟨bB, oB, none⟩) a.ac.length d) := fun x' => by rw [(Fam.below wr.heap.size wr x').cell (by simpa using hlw)]; exact a2
      have y2 : ∀ x', (Fam wr.heap.size wr x').cell? ⟨bB, oB + q, none⟩ = some (.bool t) := fun x' => by rw [(Fam.below wr.heap.size wr x').cell (by simpa using hbB)]; exact a1
      have hacs2 : Hid (acs ++ [t] = (x.1.take (i + 1)).map fun q => a.ac.getD q false) := hid (by
        rw [hacs, List.take_succ_eq_append_getElem hlt, List.map_append, List.map_singleton, ← hq.out, ht.out]
        congr 2
        rw [List.getD_eq_getElem?_getD, List.getElem?_eq_getElem hqa]
        rfl)
      have k1 : (0 : Int) ≤ (i : Int) ∧ (i : Int) < (x.1.length : Int) ∧ (0 : Int) ≤ (q : Int) ∧ (q : Int) < (a.ac.length : Int) := by omega
      have hst' := hid hst
      replace hacs := hid hacs
      replace hEN := hid hEN
      replace hEB := hid hEB
      replace hal := hid hal
      clear hst a1 a2 a3
      go_wp2_with fail
      refine wp_region_grow 8 wr.heap.size wr (fun _ _ _ => True) (by kernel_rfl) (by kernel_rfl) (Nat.le_refl _) (Below.refl _ _) ?_
      simp only [List.take_succ_cons, List.take_zero, List.drop_succ_cons, List.drop_zero]
      (repeat (refine grow_quiet (by rfl) (by rfl) (by rfl) ?_; intro K hK; go_big_quiet_op; go_big_quiet_on))
      refine grow_new (by rfl) (fun b => .slice (some ⟨b, 0, none⟩) 1 1) 4 #[.bool t] (fun _ => by go_simp) (fun _ => rfl) (Nat.le_refl _) fun g3 hg3 => ?_
      simp only [Act.put, List.setIfInBounds_toArray, List.set_cons_zero, List.set_cons_succ]
      refine grow_nil ?_
      intro w7 hb7 hf
      obtain ⟨g3', hge, -, hblk3⟩ := hf _ List.mem_cons_self
      cases hge
      have hnew3 := hid (Blk.news hblk3)
      clear hblk3 hf y0 y1 y2
      have hst7 := hst'.out.later hb7
      have hoA := hid hst7.acc
      have hz7 := hst7.below.size
      have hbk7 := hid hst7.blk
      have hst7' := hid hst7
      have hal' : acs.length ≤ 12 := by have := hal.out; omega
      clear hst7
      go_wp2_with (at_builtin; refine wpList_append_own_at _ rfl _ _ 24 rfl w3.heap.size 4 b0 (.bool false) 1 1 Tryd.underlying24 hbi hb0 hb1' hb2' rfl (by decide) _ _ _ rfl (hoA.out) ⟨g3, 0, none⟩ 1 1 [.bool t] rfl rfl hnew3.out (by intro u hu; simp at hu; subst hu; rfl) (by unfold maxLen; omega) (by omega) (by first | omega | (simp; omega)) ?_; intro v8 w8 hO8 hg8 _ hat8; obtain ⟨Av8, cv8, ev8, -, -⟩ := own_slice hO8; subst ev8; have hbk8 : Blk w8 w3.heap.size 26 _ := hbk7.out.keep ((KeepB.refl (fun b => (Value.slice AA acs.length cA).ownBlock = some b) _).grown hg8 (fun k hk _ => hk)) (fun e => own_ne hoA.out hbk7.out (by decide) _ e rfl); have d2 := hbk8.cell 2; have z2 := hbk8.frozen 2; simp only [List.getElem?_toArray, List.getElem?_cons_zero, List.getElem?_cons_succ] at d2; have hst8 := hid (hst7'.out.put (t := t) hg8 hO8); replace hbk8 := hid hbk8; clear hO8 hg8 hat8)
      go_roundw
      case rel =>
        have h8 := hst8.out
        rw [hacs2.out] at h8
        exact ⟨i + 1, _, by go_num, by omega, h8⟩
      case measure => simp [intOf]; omega
    · obtain rfl : i = x.1.length := by omega
      have hbk := hst.blk
      have d0 := hbk.cell 0
      have d1 := hbk.cell 1
      have d2 := hbk.cell 2
      have hresr := hres3.out.below hBm hres3.out.lt
      have q0 := hresr.cell 0
      have q1 := hresr.cell 1
      have q2 := hresr.cell 2
      have f0 := hresr.frozen 0
      have f1 := hresr.frozen 1
      have f2 := hresr.frozen 2
      simp only [List.getElem?_toArray, List.getElem?_cons_zero, List.getElem?_cons_succ] at q0 q1 q2 d0 d1 d2
      have hau : Hid (AuOwn wr w2.heap.size (.slice A2 xs.length c2) (.slice AA acs.length cA) (trimA a) xs') := hid (by
        rw [htr.out]
        rw [List.take_length] at hacs
        refine ⟨hs2.out.later hBm, hxr'.out, ?_⟩
        show wr.ownsRow w2.heap.size 4 1 _ (x.1.map fun q => a.ac.getD q false).length (boolVals (x.1.map fun q => a.ac.getD q false))
        rw [← hacs]
        exact own_base hst.acc hz3)
      have hlt2 : w.heap.size + 1 < w2.heap.size := by omega
      replace hst := hid hst
      replace hbk := hid hbk
      replace hBm := hid hBm
      replace hresr := hid hresr
      replace hacs := hid hacs
      obtain ⟨nA, hnA⟩ : ∃ nA, nA = acs.length := ⟨_, rfl⟩
      rw [← hnA] at hau d2
      replace hnA := hid hnA
      replace hal := hid hal
      go_wp2
      refine bodyPost_ret (v := .agg #[.int .i64 a.al, .slice A2 xs.length c2, .slice AA nA cA]) (by simp [results, Tryd.results98, go_sem, q0, q1, q2]) rfl ?_
      exact ⟨by (repeat (first | exact Below.refl _ _ | assumption | refine Below.drew ?_ | refine Below.alloc ?_ (by first | omega | (simp; done) | (simp; omega)) _ | refine Below.setCell ?_ (by first | omega | (simp; done) | (simp; omega)) _)), _, _, xs', rfl, (((hau.out.setFar hlt2 _).setFar hlt2 _).setFar hlt2 _).base (by omega)⟩

end Go.Proofs.YtkoganldcmhopaaDoor

/- The program's TrimAutomaton and IsPrefixClosed. -/
namespace Go.Proofs.YtkoganldcmhopaaDoor
open Go.RowKit Go.BigFrame Go.Maps AG


set_option maxRecDepth 100000 in
set_option maxHeartbeats 4000000 in
theorem implTrimAutomaton_any (a : Au) (A B : Option Addr) (c d : Nat) (x : List Nat × List (List Nat)) (w : World) (hok : auOk a = true) (hx : trimOpt a = some x) (ha : AuAt w A c B d a) :
    Calls Tryd.prog 41 #[a.val A c B d] w (PrPost w (trimA a) true) := by
  obtain ⟨w0, hw0, hz0, hB0, hS, -⟩ := boxed2 w #[Value.int IntKind.i64 a.al, Value.slice A a.nx.length c, Value.slice B a.ac.length d] 26 #[Value.int IntKind.i64 0, Value.slice none 0 0, Value.slice none 0 0] 26
  have hres : Blk w0 (w.heap.size + 1) 26 #[Value.int IntKind.i64 0, Value.slice none 0 0, Value.slice none 0 0] := by
    rw [← hw0]
    have := Blk.new (w.alloc (.cells #[Value.int IntKind.i64 a.al, Value.slice A a.nx.length c, Value.slice B a.ac.length d] 26)) 26 #[Value.int IntKind.i64 0, Value.slice none 0 0, Value.slice none 0 0]
    simpa using this
  have ha0 := hid (ha.later hB0)
  have p0 := hS 0 _ rfl _ (Below.refl _ _)
  have p1 := hS 1 _ rfl _ (Below.refl _ _)
  have p2 := hS 2 _ rfl _ (Below.refl _ _)
  obtain ⟨b, hb⟩ : ∃ b, Hid (b = trimA a) := ⟨_, hid rfl⟩
  have hbal : Hid (b.al = a.al) := hid (by rw [hb.out]; unfold trimA; rw [hx])
  have hok' := hid hok
  clear hok
  replace ha := hid ha
  replace hres := hid hres
  replace hx := hid hx
  rw [← hb.out]
  unfold AG.Au.val
  go_enter Tryd.func41, Tryd.ntmps41
  go_wp2_with fail
  refine (implAutomatonValid_any a A B c d w0 ha0.out).mono ?_
  rintro e w1 ⟨rfl, hb1⟩
  rw [hok'.out]
  have hB1 := hB0.trans (hb1.mono hB0.size)
  have hz1 := hb1.size
  clear p0 p1 p2 hw0
  have p0 := hS 0 _ rfl _ (hb1.mono hz0)
  have p1 := hS 1 _ rfl _ (hb1.mono hz0)
  have p2 := hS 2 _ rfl _ (hb1.mono hz0)
  go_wp2_with fail
  refine (trim_any a A B c d x w1 hok'.out hx.out (ha0.out.later hb1)).mono ?_
  rintro e w2 ⟨hb2, v1, v2, xs, rfl, hau⟩
  rw [← hb.out] at hau
  obtain ⟨A', c', B', d', rfl, rfl, -⟩ := hau.at_
  have hresr := hres.out.below (hb1.trans (hb2.mono hz1)) hres.out.lt
  have hB2 := hB1.trans (hb2.mono hB1.size)
  have hz2 := hb2.size
  have q0 := hresr.cell 0
  have q1 := hresr.cell 1
  have q2 := hresr.cell 2
  have f0 := hresr.frozen 0
  have f1 := hresr.frozen 1
  have f2 := hresr.frozen 2
  simp only [List.getElem?_toArray, List.getElem?_cons_zero, List.getElem?_cons_succ] at q0 q1 q2
  have hlt2 : w.heap.size + 1 < w1.heap.size := by omega
  replace hau := hid hau
  replace hresr := hid hresr
  clear p0 p1 p2 hS
  go_wp2
  refine bodyPost_ret (v := .tuple #[.agg #[.int .i64 a.al, .slice A' b.nx.length c', .slice B' b.ac.length d'], .bool true]) (by simp [results, Tryd.results41, go_sem, q0, q1, q2]) rfl ?_
  exact ⟨by (repeat (first | exact Below.refl _ _ | assumption | refine Below.drew ?_ | refine Below.alloc ?_ (by first | omega | (simp; done) | (simp; omega)) _ | refine Below.setCell ?_ (by first | omega | (simp; done) | (simp; omega)) _)), _, _, xs, by rw [hbal.out], (((hau.out.setFar hlt2 _).setFar hlt2 _).setFar hlt2 _).base (by omega)⟩


end Go.Proofs.YtkoganldcmhopaaDoor

/- The program's firstFrom and AccessWord. -/
namespace Go.Proofs.YtkoganldcmhopaaDoor
open Go.RowKit Go.BigFrame AG

def FromP (a : Au) (G : Nat → Bool) (o : Option (List Nat)) : Prop := PathPost (fun n => n ∈ [0]) (letters a.al) (fun q l => [goA a q l]) (fun n => G n = true) o
def FromPost (a : Au) (G : Nat → Bool) (w : World) (e : Ending) (w' : World) : Prop :=
  ∃ o, e = .returned (pathV o) ∧ FromP a G o ∧ Below w.heap.size w w'

set_option maxRecDepth 100000 in
set_option maxHeartbeats 4000000 in
theorem firstFrom_any (a : Au) (A B : Option Addr) (c d : Nat) (G : Nat → Bool) (fG : FuncId) (capG : Array Value) (w : World) (hok : auOk a = true) (hG : GoalOk w a.nx.length G fG capG) (ha : AuAt w A c B d a) :
    Calls Tryd.prog 100 #[a.val A c B d, .func (.func fG) #[] capG] w (FromPost a G w) := by
  obtain ⟨halp, hn1, hn12, hn3, -⟩ := (auOk_iff a).1 hok
  obtain ⟨w0, hw0, hz0, hB0, hS⟩ := boxed w #[Value.int IntKind.i64 a.al, Value.slice A a.nx.length c, Value.slice B a.ac.length d] 26
  have ha0 := hid (ha.later hB0)
  have p0 := hS 0 _ rfl _ (Below.refl _ _)
  have p1 := hS 1 _ rfl _ (Below.refl _ _)
  have p2 := hS 2 _ rfl _ (Below.refl _ _)
  replace ha := hid ha
  have hok' := hid hok
  have hn3' := hid hn3
  clear hok hn3
  replace halp := hid halp
  replace hG := hid hG
  unfold AG.Au.val
  go_enter Tryd.func100, Tryd.ntmps100
  go_wp2_with fail
  refine (tableOf_any a A B c d w0 (by omega) (tabOk_of hok'.out) ha0.out).mono ?_
  rintro e w1 ⟨g, rfl, hg, hb1⟩
  have hB1 := hB0.trans (hb1.mono hB0.size)
  clear p0 p1 p2
  replace hg := hid hg
  have hz1 := hb1.size
  go_upto_region 2 with fail
  obtain ⟨w2, hw2, hz2, hB2', hU⟩ := boxed w1 #[.slice (some ⟨g, 0, none⟩) a.nx.length a.nx.length] 111
  rw [hw2]
  clear hw2
  have hB2 := hB1.trans (hB2'.mono hB1.size)
  have hb02 := hb1.trans (hB2'.mono hz1)
  have hg2 := hid (hg.out.later hB2')
  have hU' := hid (fun w' (hb : Below w2.heap.size w2 w') => hU 0 _ rfl w' (hb.mono hz2))
  have hS0 := hid (fun w' (hb : Below w2.heap.size w2 w') => hS 0 _ rfl w' ((hb02.trans (hb.mono hb02.size)).mono hz0))
  have y0 := fun x => hU'.out _ (Fam.below w2.heap.size w2 x)
  have y1 := fun x => hS0.out _ (Fam.below w2.heap.size w2 x)
  clear hU
  refine wp_region_grow 13 w2.heap.size w2 (fun i u w' => if i = 5 then OwnNats w' w2.heap.size u (letters a.al) else ∃ o, u = pathV o ∧ FromP a G o) (by kernel_rfl) (by kernel_rfl) (Nat.le_refl _) (Below.refl _ _) ?_
  simp only [List.take_succ_cons, List.take_zero, List.drop_succ_cons, List.drop_zero]
  (repeat (refine grow_quiet (by rfl) (by rfl) (by rfl) ?_; intro K hK; go_big_quiet_op; go_big_quiet_on))
  refine grow_new (by rfl) (fun b => .slice (some ⟨b, 0, none⟩) 1 1) 3 #[.int .i64 0] (fun _ => by go_simp) (fun _ => rfl) (Nat.le_refl _) fun bI hbI => ?_
  simp only [Act.put, List.setIfInBounds_toArray, List.set_cons_zero, List.set_cons_succ]
  (repeat (refine grow_quiet (by rfl) (by rfl) (by rfl) ?_; intro K hK; go_big_quiet_op; go_big_quiet_on))
  refine grow_call (by rfl) (by rfl) (fun u v v' hb h => ?_) (fun wq hbq _ => ?_) fun u hu => ?_
  · exact own_keep h (.of_below (K := fun _ => False) hb) fun _ _ h => h
  · go_simp
    refine ⟨rfl, (lettersOf_any a.al wq).mono ?_⟩
    rintro e w5 ⟨v, rfl, ho, hb5⟩
    exact ⟨v, rfl, hb5, own_base ho hbq.size⟩
  simp only [Act.put, List.setIfInBounds_toArray, List.set_cons_zero, List.set_cons_succ]
  (repeat (refine grow_quiet (by rfl) (by rfl) (by rfl) ?_; intro K hK; go_big_quiet_op; go_big_quiet_on))
  refine grow_call (by rfl) (by rfl) (fun v x x' hb h => h) (fun wq hbq hfx => ?_) fun u2 hu2 => ?_
  · have hlet : OwnNats wq w2.heap.size u (letters a.al) := hfx _ List.mem_cons_self (by kernel_rfl)
    obtain ⟨bI', eI, -, hI⟩ := hfx _ (List.mem_cons_of_mem _ List.mem_cons_self) (by kernel_rfl)
    cases eI
    have hcT := hid (hU'.out wq hbq)
    have hgq := hid (hg2.out.later hbq)
    have hBq := hB2.trans (hbq.mono hB2.size)
    go_simp
    refine ⟨rfl, ?_⟩
    have hIo : wq.ownsRow 0 3 1 (.slice (some ⟨bI, 0, none⟩) 1 1) [0].length (natVals [0]) := ⟨rfl, .inr ⟨bI, 1, #[.int .i64 0], rfl, Nat.zero_le _, hI, Nat.le_refl _, by decide, rfl, rfl⟩⟩
    refine (firstPath_any wq a.nx.length G fG capG ⟨hG.out.run, fun w' q hb hq => hG.out.call w' q (hBq.trans (hb.mono hBq.size)) hq⟩ (letters a.al) (letters_sorted _) (fun l h => (letters_lt h).1) (fun q l => [goA a q l]) 159 _
      (fromNext_ok hok'.out rfl hgq.out hcT.out) [0] (by simp) (fun n hn => by rw [List.mem_singleton] at hn; omega) (by simp) _ u hIo (own_base hlet (Nat.zero_le _)) (by omega)).mono ?_
    rintro e w6 ⟨o, rfl, hp, hb6⟩
    exact ⟨_, rfl, hb6, o, rfl, hp⟩
  obtain ⟨w6', -, o, rfl, hout⟩ := hu2
  obtain ⟨Sv, Fv, hpv⟩ : ∃ Sv Fv, pathV o = .tuple #[.string Sv, .bool Fv] := ⟨_, _, rfl⟩
  rw [hpv]
  have hpv' := hid hpv
  replace hout := hid hout
  clear hpv
  simp only [Act.put, List.setIfInBounds_toArray, List.set_cons_zero, List.set_cons_succ]
  (repeat (refine grow_quiet (by rfl) (by rfl) (by rfl) ?_; intro K hK; go_big_quiet_op; go_big_quiet_on))
  refine grow_nil ?_
  intro w7 hb7 hf
  clear hf y0 y1
  have hB7 := hB2.trans (hb7.mono hB2.size)
  go_wp2_with fail
  go_ret2
  exact ⟨o, by rw [hpv'.out]; rfl, hout.out, hB7⟩

set_option maxRecDepth 100000 in
set_option maxHeartbeats 1000000 in
theorem accGoal2_any (bQ i q : Nat) (w : World) (hc : w.cell? ⟨bQ, 0, none⟩ = some (.int .i64 (i : Nat))) :
    Calls Tryd.prog 101 #[.int .i64 (q : Nat), .pointer (some ⟨bQ, 0, none⟩)] w fun e w' => e = .returned (.bool (decide (q = i))) ∧ Below w.heap.size w w' := by
  go_enter Tryd.func101, Tryd.ntmps101
  go_wp2
  go_ret
  exact ⟨ret_bool (by rw [Bool.eq_iff_iff]; simp; omega), Below.refl _ _⟩

set_option maxRecDepth 100000 in
set_option maxHeartbeats 4000000 in
theorem implAccessWord_any (a : Au) (A B : Option Addr) (c d i : Nat) (w : World) (hok : auOk a = true) (ha : AuAt w A c B d a) :
    Calls Tryd.prog 48 #[a.val A c B d, .int .i64 (i : Nat)] w (FromPost a (fun q => decide (q = i)) w) := by
  obtain ⟨w0, hw0, hz0, hB0, hS, hU⟩ := boxed2 w #[Value.int IntKind.i64 a.al, Value.slice A a.nx.length c, Value.slice B a.ac.length d] 26 #[Value.int IntKind.i64 (i : Nat)] 3
  have ha0 := hid (ha.later hB0)
  have p0 := hS 0 _ rfl _ (Below.refl _ _)
  have p1 := hS 1 _ rfl _ (Below.refl _ _)
  have p2 := hS 2 _ rfl _ (Below.refl _ _)
  replace ha := hid ha
  have hok' := hid hok
  clear hok
  unfold AG.Au.val
  go_enter Tryd.func48, Tryd.ntmps48
  go_wp2_with fail
  refine (implAutomatonValid_any a A B c d w0 ha0.out).mono ?_
  rintro e w1 ⟨rfl, hb1⟩
  rw [hok'.out]
  have hB1 := hB0.trans (hb1.mono hB0.size)
  have hC1 := hb1.mono hz0
  have ha1 := hid (ha0.out.later hb1)
  have hz1 := hb1.size
  clear p0 p1 p2
  have p0 := hS 0 _ rfl _ hC1
  have p1 := hS 1 _ rfl _ hC1
  have p2 := hS 2 _ rfl _ hC1
  have hgoal := hid (show GoalOk w1 a.nx.length (fun q => decide (q = i)) 101 #[.pointer (some ⟨w.heap.size + 1, 0, none⟩)] from
    ⟨fun args w' => by go_simp, fun w' q hb _ => accGoal2_any (w.heap.size + 1) i q w' (hU 0 _ rfl w' (hC1.trans (hb.mono (by omega))))⟩)
  clear hU
  go_wp2_with fail
  refine (firstFrom_any a A B c d _ 101 _ w1 hok'.out hgoal.out ha1.out).mono ?_
  rintro e w2 ⟨o, rfl, hout, hb2⟩
  obtain ⟨Sv, Fv, hpv⟩ : ∃ Sv Fv, pathV o = .tuple #[.string Sv, .bool Fv] := ⟨_, _, rfl⟩
  rw [hpv]
  have hpv' := hid hpv
  replace hout := hid hout
  have hB2 := hB1.trans (hb2.mono hB1.size)
  clear hpv p0 p1 p2
  go_wp2_with fail
  go_ret2
  exact ⟨o, by rw [hpv'.out]; rfl, hout.out, hB2⟩

end Go.Proofs.YtkoganldcmhopaaDoor

/- The program's search in two automata: firstOfBoth, FirstOutside, LanguageWithin. -/
namespace Go.Proofs.YtkoganldcmhopaaDoor
open Go.RowKit Go.BigFrame AG

def cmpAu (a b : Au) : Bool := auOk a && (auOk b && decide (a.al = b.al))
theorem wrap_addN (a b : Nat) (h : a + b < 9223372036854775807) : wrap64 ((a : Int) + (b : Int)) = ((a + b : Nat) : Int) := by
  rw [← Int.natCast_add]
  exact IntWalk.wrap64_in _ ⟨by omega, by omega⟩
set_option maxRecDepth 100000 in
set_option maxHeartbeats 4000000 in
theorem bothNext_any (a b : Au) (gS gT bS bN bT base m q l : Nat) (v : Value) (ns : List Nat) (w : World) (hq : q < m * b.nx.length) (hm : m = a.nx.length) (hm12 : m ≤ 12) (hn1 : 1 ≤ b.nx.length) (hn12 : b.nx.length ≤ 12) (hl : l < 6) (hx : goA a (q / b.nx.length) l < 12) (hy : goA b (q % b.nx.length) l < 12)
    (hS : TabA w gS m a) (hT : TabA w gT b.nx.length b) (hcS : w.cell? ⟨bS, 0, none⟩ = some (.slice (some ⟨gS, 0, none⟩) m m)) (hcN : w.cell? ⟨bN, 0, none⟩ = some (.int .i64 (b.nx.length : Nat))) (hcT : w.cell? ⟨bT, 0, none⟩ = some (.slice (some ⟨gT, 0, none⟩) b.nx.length b.nx.length))
    (hns : ns.length ≤ 4294967296) (hb : base ≤ w.heap.size) (hown : w.ownsRow base 3 1 v ns.length (natVals ns)) :
    Calls Tryd.prog 160 #[.int .i64 (q : Nat), .int .i64 (l : Nat), v, .pointer (some ⟨bS, 0, none⟩), .pointer (some ⟨bN, 0, none⟩), .pointer (some ⟨bT, 0, none⟩)] w fun e w' =>
      ∃ v', e = .returned v' ∧ w'.ownsRow base 3 1 v' (ns ++ [goB a b q l]).length (natVals (ns ++ [goB a b q l])) ∧ KeepB (fun b => v.ownBlock = some b) w w' := by
  obtain ⟨i0, hi, hz0, hz1, hz2⟩ := info_parts infoInt
  have hqn : q / b.nx.length < m := Nat.div_lt_of_lt_mul (by rw [Nat.mul_comm]; exact hq)
  have hrn : q % b.nx.length < b.nx.length := Nat.mod_lt _ hn1
  have hq144 : q < 144 := Nat.lt_of_lt_of_le hq (Nat.le_trans (Nat.mul_le_mul hm12 hn12) (by decide))
  obtain ⟨X, hX⟩ : ∃ X, Hid (X = goA a (q / b.nx.length) l) := ⟨_, hid rfl⟩
  obtain ⟨Y, hY⟩ : ∃ Y, Hid (Y = goA b (q % b.nx.length) l) := ⟨_, hid rfl⟩
  have c1 := hS.2 _ l hqn hl
  have c2 := hT.2 _ l hrn hl
  rw [← hX.out] at c1 hx
  rw [← hY.out] at c2 hy
  obtain ⟨n, hn⟩ : ∃ n, Hid (n = b.nx.length) := ⟨_, hid rfl⟩
  have hgo : Hid (goB a b q l = X * n + Y) := hid (by unfold goB; rw [hX.out, hY.out, hn.out])
  rw [← hn.out] at hq hn1 hn12 hqn hrn c1 c2 hcN hcT
  rw [hgo.out]
  have hgS := hS.1
  have hgT := hT.1
  obtain ⟨Q, hQ⟩ : ∃ Q, Hid (Q = q / n) := ⟨_, hid rfl⟩
  obtain ⟨R, hR⟩ : ∃ R, Hid (R = q % n) := ⟨_, hid rfl⟩
  rw [← hQ.out] at hqn c1
  rw [← hR.out] at hrn c2
  have e1 : ((q : Nat) : Int) / ((n : Nat) : Int) = (Q : Int) := by rw [hQ.out]; exact (Int.natCast_ediv q n).symm
  have e2 : ((q : Nat) : Int) % ((n : Nat) : Int) = (R : Int) := by rw [hR.out]; exact (Int.natCast_emod q n).symm
  have e3 : Int.tdiv ((q : Nat) : Int) ((n : Nat) : Int) = (Q : Int) := by rw [Int.tdiv_eq_ediv_of_nonneg (by omega), e1]
  have e4 : Int.tmod ((q : Nat) : Int) ((n : Nat) : Int) = (R : Int) := by rw [Int.tmod_eq_emod_of_nonneg (by omega), e2]
  have hz : ((n : Nat) : Int) ≠ 0 := by omega
  have hz' : (((n : Nat) : Int) == 0) = false := by simpa using hz
  obtain ⟨Av, cv, rfl, -, -⟩ := own_slice hown
  have hbS := World.block_lt_of_cell? _ _ hcS
  have hbN := World.block_lt_of_cell? _ _ hcN
  have hbT := World.block_lt_of_cell? _ _ hcT
  have y0 : ∀ x, (Fam w.heap.size w x).cell? ⟨bS, 0, none⟩ = some (.slice (some ⟨gS, 0, none⟩) m m) := fun x => by rw [(Fam.below w.heap.size w x).cell (by simpa using hbS)]; exact hcS
  have y1 : ∀ x, (Fam w.heap.size w x).cell? ⟨bN, 0, none⟩ = some (.int .i64 (n : Nat)) := fun x => by rw [(Fam.below w.heap.size w x).cell (by simpa using hbN)]; exact hcN
  have y2 : ∀ x, (Fam w.heap.size w x).cell? ⟨bT, 0, none⟩ = some (.slice (some ⟨gT, 0, none⟩) n n) := fun x => by rw [(Fam.below w.heap.size w x).cell (by simpa using hbT)]; exact hcT
  have y3 : ∀ x, (Fam w.heap.size w x).cell? ⟨gS, Q * 6 + l, none⟩ = some (.int .i64 (X : Nat)) := fun x => by rw [(Fam.below w.heap.size w x).cell (by simpa using hgS)]; exact c1
  have y4 : ∀ x, (Fam w.heap.size w x).cell? ⟨gT, R * 6 + l, none⟩ = some (.int .i64 (Y : Nat)) := fun x => by rw [(Fam.below w.heap.size w x).cell (by simpa using hgT)]; exact c2
  have k1 : (0 : Int) ≤ (Q : Int) ∧ (Q : Int) < (m : Int) ∧ (0 : Int) ≤ (R : Int) ∧ (R : Int) < (n : Int) ∧ (0 : Int) ≤ (l : Int) ∧ (l : Int) < 6 := by omega
  obtain ⟨P, hP⟩ : ∃ P, Hid (P = X * n) := ⟨_, hid rfl⟩
  have hP144 : P ≤ 144 := by rw [hP.out]; exact Nat.le_trans (Nat.mul_le_mul (Nat.le_of_lt hx) hn12) (by decide)
  have e5 : wrap64 ((X : Int) * (n : Int)) = (P : Int) := by rw [← Int.natCast_mul, ← hP.out]; exact IntWalk.wrap64_in _ ⟨by omega, by omega⟩
  have e6 := wrap_addN P Y (Nat.lt_of_le_of_lt (Nat.add_le_add hP144 (Nat.le_of_lt hy)) (by decide))
  rw [← hP.out]
  obtain ⟨Z, hZ⟩ : ∃ Z, Hid (Z = P + Y) := ⟨_, hid rfl⟩
  rw [← hZ.out] at e6 ⊢
  replace hown := hid hown
  replace hS := hid hS
  replace hT := hid hT
  clear c1 c2 hcS hcN hcT e1 e2 hP144 hbS hbN hbT hq144 hgS hgT
  subst hm
  go_enter Tryd.func160, Tryd.ntmps160
  go_upto_region 1 with fail
  refine wp_region_grow 21 w.heap.size w (fun _ _ _ => True) (by kernel_rfl) (by kernel_rfl) (Nat.le_refl _) (Below.refl _ _) ?_
  simp only [List.take_succ_cons, List.take_zero, List.drop_succ_cons, List.drop_zero]
  (repeat (refine grow_quiet (by rfl) (by rfl) (by rfl) ?_; intro K hK; go_big_quiet_op; go_big_quiet_on))
  rw [e6]
  refine grow_new (by rfl) (fun b => .slice (some ⟨b, 0, none⟩) 1 1) 3 #[.int .i64 (Z : Nat)] (fun _ => by go_simp) (fun _ => rfl) (Nat.le_refl _) fun g3 hg3 => ?_
  simp only [Act.put, List.setIfInBounds_toArray, List.set_cons_zero, List.set_cons_succ]
  refine grow_nil ?_
  intro w7 hb7 hf
  obtain ⟨g3', hge, -, hblk3⟩ := hf _ List.mem_cons_self
  cases hge
  have hnew3 := hid (Blk.news hblk3)
  clear hblk3 hf y0 y1 y2 y3 y4
  have hoA := hid (own_later_ hown.out hb7)
  have hz7 := hb7.size
  go_wp2_with (at_builtin; refine wpList_append_own_at _ rfl _ _ 52 rfl base 3 i0 (.int .i64 0) 1 8 Tryd.underlying52 hi hz0 hz1 hz2 rfl (by decide) _ _ _ rfl (hoA.out) ⟨g3, 0, none⟩ 1 1 [.int .i64 (Z : Nat)] rfl rfl hnew3.out (by intro u hu; simp at hu; subst hu; rfl) (by unfold maxLen; omega) (by omega) (by first | omega | (simp; omega)) ?_; intro v5 w5 hO5 hg5 _ hat5; obtain ⟨A5, c5, ev5, -, -⟩ := own_slice hO5; subst ev5; replace hO5 := hid hO5; replace hg5 := hid hg5)
  go_ret
  refine ⟨_, rfl, ?_, (KeepB.of_below (K := fun b => (Value.slice Av ns.length cv).ownBlock = some b) hb7).grown hg5.out fun k hk _ => hk⟩
  have := hO5.out
  rw [List.length_append]
  unfold natVals at this ⊢
  rw [List.map_append]
  exact this

end Go.Proofs.YtkoganldcmhopaaDoor
