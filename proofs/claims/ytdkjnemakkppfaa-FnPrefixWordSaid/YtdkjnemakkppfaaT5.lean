/- Lemmas, part 5: several texts in one. -/
import Derived.Test.YtdkjnemakkppfaaT4
import Derived.Test.YtdkjnemakkppfaaT1
import Derived.Test.YtdkjnemakkppfaaT3
import Derived.Test.YtdkjnemakkppfaaT2
set_option linter.unusedSimpArgs false
set_option linter.unusedVariables false

/- Plain: the search through two automata of sets finds the first trace outside. -/
namespace Go.Proofs.Ytdkjnemakkppfaa
open AG

/-- A step of two automata, their states as one number. -/
def goB (a b : Au) (q l : Nat) : Nat := goA a (q / b.nx.length) l * b.nx.length + goA b (q % b.nx.length) l
theorem pair_div {n p q : Nat} (h : p < n) : (q * n + p) / n = q ∧ (q * n + p) % n = p := by
  rw [Nat.mul_comm]
  constructor
  · rw [Nat.mul_add_div (by omega), Nat.div_eq_of_lt h, Nat.add_zero]
  · rw [Nat.mul_add_mod, Nat.mod_eq_of_lt h]
theorem RW_both {a b : Au} (hb : auOk b = true) {L : List Nat} : ∀ (r : List Nat) (m : Nat), RW (fun m => m ∈ [0]) L (fun q l => [goB a b q l]) r m ↔ (∀ l ∈ r, l ∈ L) ∧ m = runA a 0 r * b.nx.length + runA b 0 r
  | [], m => by
    show m ∈ [0] ↔ _
    simp [runA]
  | l :: r, m => by
    show (l ∈ L ∧ ∃ k, RW (fun m => m ∈ [0]) L (fun q l => [goB a b q l]) r k ∧ m ∈ [goB a b k l]) ↔ _
    have hlt := runA_lt hb r
    obtain ⟨e1, e2⟩ := pair_div (q := runA a 0 r) hlt
    constructor
    · rintro ⟨hl, k, hk, hm⟩
      obtain ⟨h1, h2⟩ := (RW_both hb r k).1 hk
      refine ⟨fun x hx => ?_, ?_⟩
      · rcases List.mem_cons.1 hx with rfl | hx
        · exact hl
        · exact h1 x hx
      · rw [List.mem_singleton.1 hm, h2]
        unfold goB
        rw [e1, e2]
        rfl
    · rintro ⟨h1, h2⟩
      refine ⟨h1 l List.mem_cons_self, _, (RW_both hb r _).2 ⟨fun x hx => h1 x (List.mem_cons_of_mem _ hx), rfl⟩, ?_⟩
      rw [h2]
      unfold goB
      rw [e1, e2]
      exact List.mem_singleton.2 rfl
end Go.Proofs.Ytdkjnemakkppfaa

/- Plain: the system of an automaton: its accepting states, and the letters that lead from one to another. -/
namespace Go.Proofs.Ytdkjnemakkppfaa
open AG

theorem letters_len6 (A : Int) : (letters A).length ≤ 6 := lettersTo_len A 6
theorem row_at {a : Au} (h : auOk a = true) {q : Nat} (hq : q < a.nx.length) : a.nx.getD q [] = a.nx[q] ∧ (a.nx[q]).length = (letters a.al).length ∧ ∀ t ∈ a.nx[q], 0 ≤ t ∧ t < (a.nx.length : Int) := by
  obtain ⟨_, _, _, _, h5⟩ := (auOk_iff a).1 h
  have := h5 _ (List.getElem_mem hq)
  exact ⟨by rw [List.getD_eq_getElem?_getD, List.getElem?_eq_getElem hq]; rfl, this.1, this.2⟩
theorem goA_at {a : Au} (h : auOk a = true) {q i : Nat} (hq : q < a.nx.length) (hi : i < (letters a.al).length) (hi' : i < (a.nx[q]).length) : ((goA a q (letters a.al)[i] : Nat) : Int) = (a.nx[q])[i] := by
  obtain ⟨e1, e2, e3⟩ := row_at h hq
  have hnd : (letters a.al).Nodup := (letters_sorted a.al).imp fun h => by omega
  have hidx : (letters a.al).idxOf (letters a.al)[i] = i := hnd.idxOf_getElem i hi
  unfold goA
  rw [if_pos (List.getElem_mem hi), hidx, e1, List.getD_eq_getElem?_getD, List.getElem?_eq_getElem hi']
  have := (e3 _ (List.getElem_mem hi')).1
  show (((a.nx[q])[i].toNat : Nat) : Int) = _
  omega
/-- All beginnings of a word (its last letter first) are accepted. -/
def safeA (a : Au) : List Nat → Bool
  | [] => a.ac.getD 0 false
  | l :: r => safeA a r && a.ac.getD (runA a 0 (l :: r)) false
theorem safe_acc {a : Au} : ∀ {r : List Nat}, safeA a r = true → a.ac.getD (runA a 0 r) false = true
  | [], h => h
  | _ :: _, h => by unfold safeA at h; exact (Bool.and_eq_true _ _ ▸ h).2
/-- The automaton of the words of which all beginnings are accepted. -/
def safNx (a : Au) (q : Nat) (row : List Int) : List Int := if a.ac.getD q false = true then row else row.map fun _ => (q : Int)
def safA (a : Au) : Au := ⟨a.al, a.nx.mapIdx (safNx a), a.ac⟩
theorem safNx_len (a : Au) (q : Nat) (row : List Int) : (safNx a q row).length = row.length := by unfold safNx; split <;> simp
theorem safA_len (a : Au) : (safA a).nx.length = a.nx.length := by unfold safA; simp
theorem safA_ok {a : Au} (h : auOk a = true) : auOk (safA a) = true := by
  obtain ⟨h1, h2, h3, h4, h5⟩ := (auOk_iff a).1 h
  refine (auOk_iff _).2 ⟨h1, by rw [safA_len]; exact h2, by rw [safA_len]; exact h3, by rw [safA_len]; exact h4, fun r hr => ?_⟩
  rw [safA_len]
  obtain ⟨i, hi, rfl⟩ := List.getElem_of_mem hr
  have hi' : i < a.nx.length := by rw [safA_len] at hi; exact hi
  have e : (safA a).nx[i] = safNx a i a.nx[i] := by
    show (a.nx.mapIdx (safNx a))[i]'(by simpa using hi') = _
    rw [List.getElem_mapIdx]
  rw [e]
  obtain ⟨g1, g2⟩ := h5 _ (List.getElem_mem hi')
  refine ⟨by rw [safNx_len]; exact g1, fun q hq => ?_⟩
  unfold safNx at hq
  split at hq
  · exact g2 q hq
  · obtain ⟨_, _, rfl⟩ := List.mem_map.1 hq
    omega
theorem goA_saf {a : Au} (h : auOk a = true) {q l : Nat} (hq : q < a.nx.length) (hl : l ∈ letters a.al) : goA (safA a) q l = if a.ac.getD q false = true then goA a q l else q := by
  obtain ⟨i, hi, rfl⟩ := List.getElem_of_mem hl
  obtain ⟨e1, e2, e3⟩ := row_at h hq
  have e : (safA a).nx[q]'(by rw [safA_len]; exact hq) = safNx a q a.nx[q] := by
    show (a.nx.mapIdx (safNx a))[q]'(by simpa using hq) = _
    rw [List.getElem_mapIdx]
  have hlen : i < ((safA a).nx[q]'(by rw [safA_len]; exact hq)).length := by rw [e, safNx_len]; omega
  have h1 := goA_at (safA_ok h) (q := q) (i := i) (by rw [safA_len]; exact hq) hi hlen
  have h2 := goA_at h hq hi (by omega)
  have h3 : ((safA a).nx[q]'(by rw [safA_len]; exact hq))[i]'hlen = (safNx a q a.nx[q])[i]'(by rw [safNx_len]; omega) := by simp only [e]
  rw [h3] at h1
  by_cases hc : a.ac.getD q false = true
  · rw [if_pos hc]
    have : (safNx a q a.nx[q])[i]'(by rw [safNx_len]; omega) = (a.nx[q])[i]'(by omega) := by unfold safNx; simp only [if_pos hc]
    rw [this, ← h2] at h1
    exact Int.ofNat.inj h1
  · rw [if_neg hc]
    have : (safNx a q a.nx[q])[i]'(by rw [safNx_len]; omega) = (q : Int) := by unfold safNx; simp only [if_neg hc, List.getElem_map]
    rw [this] at h1
    exact Int.ofNat.inj h1
theorem run_saf {a : Au} (h : auOk a = true) : ∀ r : List Nat, (∀ l ∈ r, l ∈ letters a.al) → (safeA a r = true → runA (safA a) 0 r = runA a 0 r) ∧ (safeA a r = false → a.ac.getD (runA (safA a) 0 r) false = false) ∧ runA (safA a) 0 r < a.nx.length
  | [], _ => ⟨fun _ => rfl, fun h => h, by have := ((auOk_iff a).1 h).2.1; show 0 < _; omega⟩
  | l :: r, hr => by
    obtain ⟨i1, i2, i3⟩ := run_saf h r fun x hx => hr x (List.mem_cons_of_mem _ hx)
    have hgo : runA (safA a) 0 (l :: r) = if a.ac.getD (runA (safA a) 0 r) false = true then goA a (runA (safA a) 0 r) l else runA (safA a) 0 r := goA_saf h i3 (hr l List.mem_cons_self)
    have hlt : runA (safA a) 0 (l :: r) < a.nx.length := by
      rw [hgo]
      split
      · exact goA_lt h i3
      · exact i3
    refine ⟨fun hs => ?_, fun hs => ?_, hlt⟩
    · have hs1 : safeA a r = true := by unfold safeA at hs; exact (Bool.and_eq_true _ _ ▸ hs).1
      rw [hgo, i1 hs1, if_pos (safe_acc hs1)]
      rfl
    · cases hs1 : safeA a r
      · have := i2 hs1
        rw [hgo, this]
        simpa using this
      · rw [hgo, i1 hs1, if_pos (safe_acc hs1)]
        unfold safeA at hs
        rw [hs1, Bool.true_and] at hs
        exact hs
theorem acc_saf {a : Au} (h : auOk a = true) {r : List Nat} (hr : ∀ l ∈ r, l ∈ letters a.al) : accA (safA a) r = safeA a r := by
  obtain ⟨i1, i2, _⟩ := run_saf h r hr
  show a.ac.getD (runA (safA a) 0 r) false = _
  cases hs : safeA a r
  · exact i2 hs
  · rw [i1 hs]
    exact safe_acc hs

end Go.Proofs.Ytdkjnemakkppfaa

/- Plain: systems of automata: their traces, their automata, projections in steps; deterministic systems. -/
namespace Go.Proofs.Ytdkjnemakkppfaa
open AG

theorem accB_word {a : Au} (h : auOk a = true) {r : List Nat} (hr : ∀ l ∈ r, l ∈ letters a.al) (hl : r.length ≤ 50000) : accB a (wordS r) = accA a r := by
  have hw := wordS_within (A := a.al) ((auOk_iff a).1 h).1 hr hl
  unfold accB accA
  rw [h, hw, autTo_word a fun l hm => (letters_lt (hr l hm)).1]
  rfl
end Go.Proofs.Ytdkjnemakkppfaa

/- Plain: lists numbered by first occurrence; a numbering of nodes under a map that may join nodes. -/
namespace AG


theorem snoc_ind {α : Type} {P : List α → Prop} (h0 : P []) (h1 : ∀ l x, P l → P (l ++ [x])) (l : List α) : P l := by
  have : ∀ n, ∀ l : List α, l.length = n → P l := by
    intro n
    induction n with
    | zero => intro l hl; rw [List.eq_nil_of_length_eq_zero hl]; exact h0
    | succ n ih =>
      intro l hl
      have hne : l ≠ [] := fun e => by rw [e] at hl; simp at hl
      rw [← List.dropLast_concat_getLast hne]
      exact h1 _ _ (ih _ (by rw [List.length_dropLast]; omega))
  exact this _ l rfl

section
variable {α β : Type} [DecidableEq α] [DecidableEq β]
def addD (ns : List α) (x : α) : List α := if x ∈ ns then ns else ns ++ [x]
/-- Without repeats, in the order of first occurrence. -/
def dd (ks : List α) : List α := ks.foldl addD []
def numb (ks : List α) : List Nat := ks.map fun k => (dd ks).idxOf k
theorem dd_nil : dd ([] : List α) = [] := rfl
theorem dd_snoc (ks : List α) (k : α) : dd (ks ++ [k]) = addD (dd ks) k := by unfold dd; rw [List.foldl_append]; rfl
theorem addD_old {ns : List α} {x : α} (h : x ∈ ns) : addD ns x = ns := if_pos h
theorem addD_new {ns : List α} {x : α} (h : x ∉ ns) : addD ns x = ns ++ [x] := if_neg h
theorem addD_mem {ns : List α} {x y : α} : y ∈ addD ns x ↔ y ∈ ns ∨ y = x := by
  unfold addD
  split
  · rename_i h
    exact ⟨.inl, fun h2 => h2.elim id fun e => e ▸ h⟩
  · rw [List.mem_append, List.mem_singleton]
theorem dd_mem (ks : List α) (x : α) : x ∈ dd ks ↔ x ∈ ks := by
  induction ks using snoc_ind with
  | h0 => simp [dd]
  | h1 l y ih => rw [dd_snoc, addD_mem, List.mem_append, List.mem_singleton, ih]
theorem dd_nodup (ks : List α) : (dd ks).Nodup := by
  induction ks using snoc_ind with
  | h0 => simp [dd]
  | h1 l y ih =>
    rw [dd_snoc]
    unfold addD
    split
    · exact ih
    · rename_i h
      rw [List.nodup_append]
      exact ⟨ih, by simp, fun a ha b hb e => h (by rw [List.mem_singleton] at hb; rw [← hb, ← e]; exact ha)⟩
end

end AG

/- Plain: the least automaton of a language: classes of states, their automaton, what is reached of it. -/
namespace Go.Proofs.Ytdkjnemakkppfaa
open AG

noncomputable instance decLang : DecidableEq (List Nat → Prop) := fun _ _ => Classical.propDecidable _
/-- The words that lead from a state to an accepting one. -/
def resid (a : Au) (q : Nat) : List Nat → Prop := fun r => (∀ l ∈ r, l ∈ letters a.al) ∧ a.ac.getD (runA a q r) false = true
theorem runA_snoc (a : Au) (q l : Nat) : ∀ r : List Nat, runA a q (r ++ [l]) = runA a (goA a q l) r
  | [] => rfl
  | x :: r => by
    show goA a (runA a q (r ++ [l])) x = goA a (runA a (goA a q l) r) x
    rw [runA_snoc a q l r]
noncomputable def clsL (a : Au) : List (List Nat → Prop) := (List.range a.nx.length).map (resid a)
/-- The classes of the states, numbered by first occurrence; how many there are. -/
noncomputable def clsA (a : Au) : List Nat := numb (clsL a)
noncomputable def cA (a : Au) (q : Nat) : Nat := (clsA a).getD q 0
/-- What is reached is some of the states. -/
theorem trimOpt_some {a : Au} (h : auOk a = true) : ∃ x, trimOpt a = some x := by
  have hall := nsAt_all (P := fun q => q < a.nx.length) (nx := goA a) (L := letters a.al) (n0 := 0) (by have := ((auOk_iff a).1 h).2.1; omega) (fun q hq l _ => goA_lt h hq) a.nx.length
  have := nodup_bound _ _ (nsAt_nodup (goA a) (letters a.al) 0 a.nx.length) hall
  unfold trimOpt numRes
  rw [if_pos this]
  exact ⟨_, rfl⟩
theorem trimA_eq {a : Au} {x : List Nat × List (List Nat)} (hx : trimOpt a = some x) : trimA a = ⟨a.al, toRows x.2, x.1.map fun q => a.ac.getD q false⟩ := by unfold trimA; rw [hx]
theorem trimA_len {a : Au} {x : List Nat × List (List Nat)} (hx : trimOpt a = some x) : (trimA a).nx.length = x.1.length := by
  rw [trimA_eq hx]
  show (toRows x.2).length = _
  rw [toRows_len, (numRes_len hx).2.1]
theorem trimA_al {a : Au} (h : auOk a = true) : (trimA a).al = a.al := by
  obtain ⟨x, hx⟩ := trimOpt_some h
  rw [trimA_eq hx]
theorem trimA_ok {a : Au} (h : auOk a = true) : auOk (trimA a) = true := by
  obtain ⟨h1, h2, h3, h4, h5⟩ := (auOk_iff a).1 h
  obtain ⟨x, hx⟩ := trimOpt_some h
  obtain ⟨k1, k2, k3⟩ := numRes_len hx
  obtain ⟨_, e2, _, e4, _, e6⟩ := numRes_spec hx
  have hp : 0 < x.1.length := List.length_pos_of_mem e4
  refine (auOk_iff _).2 ⟨by rw [trimA_al h]; exact h1, by rw [trimA_len hx]; omega, by rw [trimA_len hx]; omega, by rw [trimA_len hx, trimA_eq hx]; simp, fun r hr => ?_⟩
  rw [trimA_len hx, trimA_al h]
  rw [trimA_eq hx] at hr
  obtain ⟨r', hr', rfl⟩ := List.mem_map.1 hr
  refine ⟨by rw [List.length_map]; exact k3 r' hr', fun q hq => ?_⟩
  obtain ⟨n, hn, rfl⟩ := List.mem_map.1 hq
  rw [e2] at hr'
  obtain ⟨b, hb, rfl⟩ := List.mem_map.1 hr'
  unfold rowOf at hn
  obtain ⟨l, hl, rfl⟩ := List.mem_map.1 hn
  have := List.idxOf_lt_length_iff.2 (e6 b hb l hl)
  omega
theorem goA_trim {a : Au} (h : auOk a = true) {x : List Nat × List (List Nat)} (hx : trimOpt a = some x) {q l : Nat} (hq : q ∈ x.1) (hl : l ∈ letters a.al) : goA (trimA a) (x.1.idxOf q) l = x.1.idxOf (goA a q l) := by
  obtain ⟨_, e2, _⟩ := numRes_spec hx
  have hi : x.1.idxOf q < x.1.length := List.idxOf_lt_length_iff.2 hq
  have hk : (letters a.al).idxOf l < (letters a.al).length := List.idxOf_lt_length_iff.2 hl
  rw [trimA_eq hx]
  show (if l ∈ letters a.al then (((toRows x.2).getD (x.1.idxOf q) []).getD ((letters a.al).idxOf l) 0).toNat else _) = _
  rw [if_pos hl, e2]
  unfold toRows
  rw [List.map_map, getD_map_of_lt _ _ _ _ hi]
  dsimp only [Function.comp]
  rw [List.getElem_idxOf hi]
  unfold rowOf
  rw [List.map_map, getD_map_of_lt _ _ _ _ hk]
  dsimp only [Function.comp]
  rw [List.getElem_idxOf hk]
  exact Int.toNat_natCast _
theorem ac_trim {a : Au} {x : List Nat × List (List Nat)} (hx : trimOpt a = some x) {q : Nat} (hq : q ∈ x.1) : (trimA a).ac.getD (x.1.idxOf q) false = a.ac.getD q false := by
  have hi : x.1.idxOf q < x.1.length := List.idxOf_lt_length_iff.2 hq
  rw [trimA_eq hx]
  dsimp only
  rw [getD_map_of_lt _ _ _ _ hi, List.getElem_idxOf hi]
theorem run_trim {a : Au} (h : auOk a = true) {x : List Nat × List (List Nat)} (hx : trimOpt a = some x) {q : Nat} (hq : q ∈ x.1) : ∀ r : List Nat, (∀ l ∈ r, l ∈ letters a.al) → runA (trimA a) (x.1.idxOf q) r = x.1.idxOf (runA a q r) ∧ runA a q r ∈ x.1
  | [], _ => ⟨rfl, hq⟩
  | l :: r, hr => by
    obtain ⟨i1, i2⟩ := run_trim h hx hq r fun y hy => hr y (List.mem_cons_of_mem _ hy)
    have hl := hr l List.mem_cons_self
    refine ⟨?_, (numRes_spec hx).2.2.2.2.2 _ i2 l hl⟩
    show goA (trimA a) (runA (trimA a) (x.1.idxOf q) r) l = _
    rw [i1, goA_trim h hx i2 hl]
    rfl
end Go.Proofs.Ytdkjnemakkppfaa

/- Plain: laws of least automata. -/
namespace Go.Proofs.Ytdkjnemakkppfaa
open AG

/-- The least automaton accepts the same words. -/
theorem acc_trim {a : Au} (h : auOk a = true) {r : List Nat} (hr : ∀ l ∈ r, l ∈ letters a.al) : accA (trimA a) r = accA a r := by
  obtain ⟨x, hx⟩ := trimOpt_some h
  obtain ⟨_, _, _, n4, n5, _⟩ := numRes_spec hx
  obtain ⟨i1, i2⟩ := run_trim h hx n4 r hr
  rw [n5] at i1
  unfold accA
  rw [i1, ac_trim hx i2]
end Go.Proofs.Ytdkjnemakkppfaa

/- The program's searches in one automaton: their closures, leadsToAccepting. -/
namespace Go.Proofs.Ytdkjnemakkppfaa
open Go.RowKit Go.BigFrame AG

theorem RW_run {a : Au} {from_ : Nat} {L : List Nat} : ∀ (r : List Nat) (n : Nat), RW (fun n => n ∈ [from_]) L (fun q l => [goA a q l]) r n ↔ (∀ l ∈ r, l ∈ L) ∧ n = runA a from_ r
  | [], n => by
    show n ∈ [from_] ↔ _
    simp [runA]
  | l :: r, n => by
    show (l ∈ L ∧ ∃ m, RW (fun n => n ∈ [from_]) L (fun q l => [goA a q l]) r m ∧ n ∈ [goA a m l]) ↔ _
    constructor
    · rintro ⟨hl, m, hm, hn⟩
      obtain ⟨h1, h2⟩ := (RW_run r m).1 hm
      refine ⟨fun x hx => ?_, ?_⟩
      · rcases List.mem_cons.1 hx with rfl | hx
        · exact hl
        · exact h1 x hx
      · rw [List.mem_singleton.1 hn, h2]
        rfl
    · rintro ⟨h1, h2⟩
      exact ⟨h1 l List.mem_cons_self, runA a from_ r, (RW_run r _).2 ⟨fun x hx => h1 x (List.mem_cons_of_mem _ hx), rfl⟩, by rw [h2]; exact List.mem_singleton.2 rfl⟩

set_option maxRecDepth 100000 in
set_option maxHeartbeats 4000000 in
theorem leadsNext_any (a : Au) (m g bT base q l : Nat) (v : Value) (ns : List Nat) (w : World) (hq : q < m) (hm : m ≤ 4096) (hl : l < 6) (hT : TabA w g m a) (hc : w.cell? ⟨bT, 0, none⟩ = some (.slice (some ⟨g, 0, none⟩) m m)) (hns : ns.length ≤ 4294967296) (hb : base ≤ w.heap.size) (hown : w.ownsRow base 3 1 v ns.length (natVals ns)) :
    Calls Try.prog 33 #[.int .i64 (q : Nat), .int .i64 (l : Nat), v, .pointer (some ⟨bT, 0, none⟩)] w fun e w' =>
      ∃ v', e = .returned v' ∧ w'.ownsRow base 3 1 v' (ns ++ [goA a q l]).length (natVals (ns ++ [goA a q l])) ∧ KeepB (fun b => v.ownBlock = some b) w w' := by
  obtain ⟨i0, hi, hz0, hz1, hz2⟩ := info_parts infoInt
  obtain ⟨t, ht⟩ : ∃ t, Hid (t = goA a q l) := ⟨_, hid rfl⟩
  have c1 := hT.2 q l hq hl
  rw [← ht.out] at c1 ⊢
  obtain ⟨Av, cv, rfl, -, -⟩ := own_slice hown
  have k1 : (0 : Int) ≤ (q : Int) ∧ (q : Int) < (m : Int) ∧ (0 : Int) ≤ (l : Int) ∧ (l : Int) < 6 := by omega
  replace hown := hid hown
  replace hT := hid hT
  go_enter Try.func33, Try.ntmps33
  go_wp2_with (at_builtin; refine wpList_append_own_at _ rfl _ _ 40 rfl base 3 i0 (.int .i64 0) 1 8 Try.underlying40 hi hz0 hz1 hz2 rfl (by decide) _ _ _ rfl (hown.out.alloc _) ⟨w.heap.size, 0, none⟩ 1 1 [.int .i64 (t : Nat)] rfl rfl (cell_one_new _ _ _) (by intro u hu; simp at hu; subst hu; rfl) (by unfold maxLen; omega) (by omega) (by simp; omega) ?_; intro v5 w5 hO5 hg5 _ hat5; obtain ⟨A5, c5, ev5, -, -⟩ := own_slice hO5; subst ev5; replace hO5 := hid hO5; replace hg5 := hid hg5)
  go_ret
  refine ⟨_, rfl, ?_, ((KeepB.refl _ w).alloc _).grown hg5.out fun k hk _ => hk⟩
  have := hO5.out
  rw [List.length_append]
  unfold natVals at this ⊢
  rw [List.map_append]
  exact this
theorem leadsNext_ok {a : Au} {m g bT : Nat} {w : World} (hok : auOk a = true) (hm : m = a.nx.length) (hT : TabA w g m a) (hc : w.cell? ⟨bT, 0, none⟩ = some (.slice (some ⟨g, 0, none⟩) m m)) :
    NextOk w m (letters a.al) (fun q l => [goA a q l]) 33 #[.pointer (some ⟨bT, 0, none⟩)] := by
  have h12 := ((auOk_iff a).1 hok).2.2.1
  refine ⟨fun args w' => by go_simp, fun q hq l _ n hn => ?_, fun q _ l _ => by simp, fun w' q l v ns base hb hq hl hns hB hB' hown => ?_⟩
  · rw [List.mem_singleton.1 hn, hm]
    exact goA_lt hok (by rw [← hm]; exact hq)
  · exact leadsNext_any a m g bT base q l v ns w' hq (by omega) (letters_lt hl).1 (hT.later hb) ((hb.cell (World.block_lt_of_cell? _ _ hc)).trans hc) hns hB' hown


set_option maxRecDepth 100000 in
set_option maxHeartbeats 1000000 in
theorem accGoal_any (a : Au) (B : Option Addr) (d bA q : Nat) (w : World) (hq : q < a.ac.length) (hB : BoolsAt w w.heap.size B a.ac) (hc : w.cell? ⟨bA, 2, none⟩ = some (.slice B a.ac.length d)) :
    Calls Try.prog 34 #[.int .i64 (q : Nat), .pointer (some ⟨bA, 0, none⟩)] w fun e w' => e = .returned (.bool (a.ac.getD q false)) ∧ Below w.heap.size w w' := by
  obtain ⟨b, o, hA, hbB, hE⟩ := hB (by omega)
  subst hA
  have c0 := hE q hq
  have hg : Hid (a.ac.getD q false = a.ac[q]) := hid (by rw [List.getD_eq_getElem?_getD, List.getElem?_eq_getElem hq]; rfl)
  rw [hg.out]
  obtain ⟨t, ht⟩ : ∃ t, t = a.ac[q] := ⟨_, rfl⟩
  rw [← ht] at c0 ⊢
  have k1 : (0 : Int) ≤ (q : Int) ∧ (q : Int) < (a.ac.length : Int) := by omega
  replace hE := hid hE
  replace hB := hid hB
  replace ht := hid ht
  go_enter Try.func34, Try.ntmps34
  go_wp2
  go_ret
  exact ⟨rfl, Below.refl _ _⟩
/-- Some word leads from a state to an accepting one. -/
def leadsP (a : Au) (q : Nat) : Prop := ∃ r : List Nat, (∀ l ∈ r, l ∈ letters a.al) ∧ a.ac.getD (runA a q r) false = true

def LeadsPost (a : Au) (q : Nat) (w : World) (e : Ending) (w' : World) : Prop := ∃ t : Bool, e = .returned (.bool t) ∧ (t = true ↔ leadsP a q) ∧ Below w.heap.size w w'

set_option maxRecDepth 100000 in
set_option maxHeartbeats 4000000 in
theorem leadsToAccepting_any (a : Au) (A B : Option Addr) (c d q : Nat) (w : World) (hok : auOk a = true) (hq : q < a.nx.length) (ha : AuAt w A c B d a) :
    Calls Try.prog 15 #[a.val A c B d, .int .i64 (q : Nat)] w (LeadsPost a q w) := by
  obtain ⟨halp, hn1, hn12, hn3, -⟩ := (auOk_iff a).1 hok
  obtain ⟨w0, hw0, hz0, hB0, hS⟩ := boxed w #[Value.int IntKind.i64 a.al, Value.slice A a.nx.length c, Value.slice B a.ac.length d] 26
  have ha0 := hid (ha.later hB0)
  have p0 := hS 0 _ rfl _ (Below.refl _ _)
  have p1 := hS 1 _ rfl _ (Below.refl _ _)
  have p2 := hS 2 _ rfl _ (Below.refl _ _)
  replace ha := hid ha
  have hok' := hid hok
  have hn3' := hid hn3
  clear hok hn3
  replace halp := hid halp
  unfold AG.Au.val
  go_enter Try.func15, Try.ntmps15
  go_wp2_with fail
  refine (tableOf_any a A B c d w0 (by omega) (tabOk_of hok'.out) ha0.out).mono ?_
  rintro e w1 ⟨g, rfl, hg, hb1⟩
  have hB1 := hB0.trans (hb1.mono hB0.size)
  clear p0 p1 p2
  replace hg := hid hg
  have hz1 := hb1.size
  go_upto_region 2 with fail
  obtain ⟨w2, hw2, hz2, hB2', hU⟩ := boxed w1 #[.slice (some ⟨g, 0, none⟩) a.nx.length a.nx.length] 51
  rw [hw2]
  clear hw2
  have hB2 := hB1.trans (hB2'.mono hB1.size)
  have hb02 := hb1.trans (hB2'.mono hz1)
  have hg2 := hid (hg.out.later hB2')
  have ha2 := hid (ha0.out.later hb02)
  have hU' := hid (fun w' (hb : Below w2.heap.size w2 w') => hU 0 _ rfl w' (hb.mono hz2))
  have hS0 := hid (fun w' (hb : Below w2.heap.size w2 w') => hS 0 _ rfl w' ((hb02.trans (hb.mono hb02.size)).mono hz0))
  have hS2 := hid (fun w' (hb : Below w2.heap.size w2 w') => hS 2 _ rfl w' ((hb02.trans (hb.mono hb02.size)).mono hz0))
  have y0 := fun x => hU'.out _ (Fam.below w2.heap.size w2 x)
  have y1 := fun x => hS0.out _ (Fam.below w2.heap.size w2 x)
  clear hU
  refine wp_region_grow 15 w2.heap.size w2 (fun i u w' => if i = 6 then OwnNats w' w2.heap.size u (letters a.al) else ∃ o, u = pathV o ∧ (o.isSome = true ↔ leadsP a q)) (by kernel_rfl) (by kernel_rfl) (Nat.le_refl _) (Below.refl _ _) ?_
  simp only [List.take_succ_cons, List.take_zero, List.drop_succ_cons, List.drop_zero]
  (repeat (refine grow_quiet (by rfl) (by rfl) (by rfl) ?_; intro K hK; go_big_quiet_op; go_big_quiet_on))
  refine grow_new (by rfl) (fun b => .slice (some ⟨b, 0, none⟩) 1 1) 3 #[.int .i64 (q : Nat)] (fun _ => by go_simp) (fun _ => rfl) (Nat.le_refl _) fun bI hbI => ?_
  simp only [Act.put, List.setIfInBounds_toArray, List.set_cons_zero, List.set_cons_succ]
  (repeat (refine grow_quiet (by rfl) (by rfl) (by rfl) ?_; intro K hK; go_big_quiet_op; go_big_quiet_on))
  refine grow_call (by rfl) (by rfl) (fun u v v' hb h => ?_) (fun wq hbq _ => ?_) fun u hu => ?_
  · exact own_keep h (.of_below (K := fun _ => False) hb) fun _ _ h => h
  · go_simp
    refine ⟨rfl, (lettersOf_any a.al wq).mono ?_⟩
    rintro e w5 ⟨v, rfl, ho, hb5⟩
    exact ⟨v, rfl, hb5, own_base ho hbq.size⟩
  simp only [Act.put, List.setIfInBounds_toArray, List.set_cons_zero, List.set_cons_succ]
  (repeat (refine grow_quiet (by rfl) (by rfl) (by rfl) ?_; intro K hK; go_big_quiet_op; go_big_quiet_on))
  refine grow_call (by rfl) (by rfl) (fun v x x' hb h => h) (fun wq hbq hfx => ?_) fun u2 hu2 => ?_
  · have hlet : OwnNats wq w2.heap.size u (letters a.al) := hfx _ List.mem_cons_self (by kernel_rfl)
    obtain ⟨bI', eI, -, hI⟩ := hfx _ (List.mem_cons_of_mem _ List.mem_cons_self) (by kernel_rfl)
    cases eI
    have hcT := hid (hU'.out wq hbq)
    have hcA := hid (hS2.out wq hbq)
    have hgq := hid (hg2.out.later hbq)
    have haq := hid (ha2.out.later hbq)
    go_simp
    refine ⟨rfl, ?_⟩
    have hIo : wq.ownsRow 0 3 1 (.slice (some ⟨bI, 0, none⟩) 1 1) [q].length (natVals [q]) := ⟨rfl, .inr ⟨bI, 1, #[.int .i64 (q : Nat)], rfl, Nat.zero_le _, hI, Nat.le_refl _, by decide, rfl, rfl⟩⟩
    have hgo : GoalOk wq a.nx.length (fun n => a.ac.getD n false) 34 #[.pointer (some ⟨w.heap.size, 0, none⟩)] :=
      ⟨fun args w' => by go_simp, fun w' n hb hn => accGoal_any a B d w.heap.size n w' (by have := hn3'.out; omega) (haq.out.later hb).acc ((hb.cell (World.block_lt_of_cell? _ _ hcA.out)).trans hcA.out)⟩
    refine (firstPath_any wq a.nx.length (fun n => a.ac.getD n false) 34 _ hgo (letters a.al) (letters_sorted _) (fun l h => (letters_lt h).1) (fun q l => [goA a q l]) 33 _
      (leadsNext_ok hok'.out rfl hgq.out hcT.out) [q] (by simp) (fun n hn => by rw [List.mem_singleton] at hn; omega) (by simp) _ u hIo (own_base hlet (Nat.zero_le _)) (by omega)).mono ?_
    rintro e w6 ⟨o, rfl, hp, hb6⟩
    refine ⟨_, rfl, hb6, o, rfl, ?_⟩
    cases o with
    | none =>
      constructor
      · intro h; cases h
      · rintro ⟨r, h1, h2⟩
        exact absurd h2 (hp r _ ((RW_run r _).2 ⟨h1, rfl⟩))
    | some r =>
      refine ⟨fun _ => ?_, fun _ => rfl⟩
      obtain ⟨n, hn, hG⟩ := hp.1
      obtain ⟨h1, h2⟩ := (RW_run r n).1 hn
      exact ⟨r, h1, by rw [← h2]; exact hG⟩
  obtain ⟨w6', -, o, rfl, hout⟩ := hu2
  obtain ⟨Sv, Fv, hpv, hF⟩ : ∃ Sv Fv, pathV o = .tuple #[.string Sv, .bool Fv] ∧ Fv = o.isSome := ⟨_, _, rfl, rfl⟩
  rw [hpv]
  rw [← hF] at hout
  replace hout := hid hout
  replace hF := hid hF
  clear hpv
  simp only [Act.put, List.setIfInBounds_toArray, List.set_cons_zero, List.set_cons_succ]
  (repeat (refine grow_quiet (by rfl) (by rfl) (by rfl) ?_; intro K hK; go_big_quiet_op; go_big_quiet_on))
  refine grow_nil ?_
  intro w7 hb7 hf
  clear hf y0 y1
  have hB7 := hB2.trans (hb7.mono hB2.size)
  go_wp2_with fail
  go_ret
  exact ⟨Fv, rfl, hout.out, hB7⟩

end Go.Proofs.Ytdkjnemakkppfaa

/- The program's trim: what can be reached, numbered anew. -/
namespace Go.Proofs.Ytdkjnemakkppfaa
open Go.RowKit Go.BigFrame Go.Maps AG

theorem infoBoolT : (Try.prog.info? 4).map (fun i => (i.zero, i.size, i.bytes)) = some (some (.bool false), 1, 1) := by kernel_rfl

set_option maxRecDepth 100000 in
set_option maxHeartbeats 1000000 in
theorem trimStep_any (a : Au) (m g bT q l : Nat) (w : World) (hq : q < m) (hm : m ≤ 4096) (hl : l < 6) (hT : TabA w g m a) (hc : w.cell? ⟨bT, 0, none⟩ = some (.slice (some ⟨g, 0, none⟩) m m)) :
    Calls Try.prog 31 #[.int .i64 (q : Nat), .int .i64 (l : Nat), .pointer (some ⟨bT, 0, none⟩)] w fun e w' => e = .returned (.int .i64 (goA a q l : Nat)) ∧ Below w.heap.size w w' := by
  obtain ⟨t, ht⟩ : ∃ t, Hid (t = goA a q l) := ⟨_, hid rfl⟩
  have c1 := hT.2 q l hq hl
  rw [← ht.out] at c1 ⊢
  have k1 : (0 : Int) ≤ (q : Int) ∧ (q : Int) < (m : Int) ∧ (0 : Int) ≤ (l : Int) ∧ (l : Int) < 6 := by omega
  replace hT := hid hT
  go_enter Try.func31, Try.ntmps31
  go_wp2
  go_ret
  exact ⟨rfl, Below.refl _ _⟩
theorem trimStep_ok {a : Au} {m g bT : Nat} {w : World} (hok : auOk a = true) (hm : m = a.nx.length) (hT : TabA w g m a) (hc : w.cell? ⟨bT, 0, none⟩ = some (.slice (some ⟨g, 0, none⟩) m m)) :
    NumOk w (fun q => q < m) (letters a.al) (goA a) 31 #[.pointer (some ⟨bT, 0, none⟩)] := by
  have h12 := ((auOk_iff a).1 hok).2.2.1
  refine ⟨fun args w' => by go_simp, fun w' q l hb hq hl => ?_, fun q l hq _ => ?_, fun q hq => ?_⟩
  · exact trimStep_any a m g bT q l w' hq (by omega) (letters_lt hl).1 (hT.later hb) ((hb.cell (World.block_lt_of_cell? _ _ hc)).trans hc)
  · have := goA_lt (l := l) hok (show q < a.nx.length by omega)
    omega
  · omega

/-- What trim holds in memory. -/
structure TrimSt (w3 wr : World) (gO : Nat) (al : Int) (vR vA : Value) (acs : List Bool) : Prop where
  below : Below w3.heap.size w3 wr
  ge : w3.heap.size ≤ gO
  acc : wr.ownsRow w3.heap.size 4 1 vA acs.length (boolVals acs)
  blk : Blk wr gO 26 #[.int .i64 al, vR, vA]
theorem TrimSt.later {w3 wr w' : World} {gO : Nat} {al : Int} {vR vA : Value} {acs : List Bool} (h : TrimSt w3 wr gO al vR vA acs) (hb : Below wr.heap.size wr w') : TrimSt w3 w' gO al vR vA acs :=
  ⟨h.below.trans (hb.mono h.below.size), h.ge, own_later_ h.acc hb, h.blk.below hb h.blk.lt⟩
theorem TrimSt.put {w3 wr w1 : World} {gO : Nat} {al : Int} {vR vA vA' : Value} {acs : List Bool} {t : Bool} (h : TrimSt w3 wr gO al vR vA acs) (hg : wr.grownBy w1 vA.ownBlock)
    (ho : w1.ownsRow w3.heap.size 4 1 vA' (acs.length + 1) (boolVals acs ++ [.bool t])) : TrimSt w3 (w1.setCell ⟨gO, 2, none⟩ vA') gO al vR vA' (acs ++ [t]) := by
  have hkA : KeepB (fun b => vA.ownBlock = some b) wr w1 := (KeepB.refl _ wr).grown hg fun k hk _ => hk
  have hblk1 : Blk w1 gO 26 #[.int .i64 al, vR, vA] := h.blk.keep hkA fun e => own_ne h.acc h.blk (by decide) _ e rfl
  have hkB : KeepB (fun b => b = gO) w1 (w1.setCell ⟨gO, 2, none⟩ vA') := (KeepB.refl _ w1).setCell _ _ fun _ => rfl
  have hb1 : Below w3.heap.size w3 w1 := hkA.below h.below h.below.size fun b e => own_block h.acc b e
  refine ⟨hkB.below hb1 hb1.size fun b e => by rw [e]; exact h.ge, h.ge, ?_, by simpa using hblk1.set_ 2 vA'⟩
  have h2 : w1.ownsRow w3.heap.size 4 1 vA' (acs ++ [t]).length (boolVals (acs ++ [t])) := by
    unfold boolVals at ho ⊢
    rw [List.length_append, List.map_append]
    exact ho
  exact own_keep h2 hkB (own_ne h2 hblk1 (by decide))

def TrimsTo (a : Au) (w : World) (e : Ending) (w' : World) : Prop :=
  Below w.heap.size w w' ∧ ∃ v1 v2 xs, e = .returned (.agg #[.int .i64 a.al, v1, v2]) ∧ AuOwn w' w.heap.size v1 v2 (trimA a) xs

set_option maxRecDepth 100000 in
set_option maxHeartbeats 4000000 in
theorem trim_any (a : Au) (A B : Option Addr) (c d : Nat) (x : List Nat × List (List Nat)) (w : World) (hok : auOk a = true) (hx : trimOpt a = some x) (ha : AuAt w A c B d a) :
    Calls Try.prog 14 #[a.val A c B d] w (TrimsTo a w) := by
  obtain ⟨halp, hn1, hn12, hn3, -⟩ := (auOk_iff a).1 hok
  obtain ⟨b0, hbi, hb0, hb1', hb2'⟩ := info_parts infoBoolT
  obtain ⟨w0, hw0, hz0, hB0, hS, -⟩ := boxed2 w #[Value.int IntKind.i64 a.al, Value.slice A a.nx.length c, Value.slice B a.ac.length d] 26 #[Value.int IntKind.i64 0, Value.slice none 0 0, Value.slice none 0 0] 26
  have hres : Blk w0 (w.heap.size + 1) 26 #[Value.int IntKind.i64 0, Value.slice none 0 0, Value.slice none 0 0] := by
    rw [← hw0]
    have := Blk.new (w.alloc (.cells #[Value.int IntKind.i64 a.al, Value.slice A a.nx.length c, Value.slice B a.ac.length d] 26)) 26 #[Value.int IntKind.i64 0, Value.slice none 0 0, Value.slice none 0 0]
    simpa using this
  have ha0 := hid (ha.later hB0)
  have p0 := hS 0 _ rfl _ (Below.refl _ _)
  have p1 := hS 1 _ rfl _ (Below.refl _ _)
  have p2 := hS 2 _ rfl _ (Below.refl _ _)
  replace ha := hid ha
  replace hres := hid hres
  have hok' := hid hok
  have hn3' := hid hn3
  clear hok hn3
  replace halp := hid halp
  have hxl12 : x.1.length ≤ a.nx.length := (numRes_len hx).1
  have hxq : Hid (∀ q ∈ x.1, q < a.nx.length) := hid (by
    rw [(numRes_spec hx).1]
    exact nsAt_all (P := fun q => q < a.nx.length) (by omega) (fun q hq l _ => goA_lt hok'.out hq) _)
  have htr : Hid (trimA a = ⟨a.al, toRows x.2, x.1.map fun q => a.ac.getD q false⟩) := hid (by unfold trimA; rw [hx])
  replace hx := hid hx
  unfold AG.Au.val
  go_enter Try.func14, Try.ntmps14
  go_wp2_with fail
  refine (tableOf_any a A B c d w0 (by omega) (tabOk_of hok'.out) ha0.out).mono ?_
  rintro e w1 ⟨g, rfl, hg, hb1⟩
  have hB1 := hB0.trans (hb1.mono hB0.size)
  clear p0 p1 p2
  replace hg := hid hg
  have hz1 := hb1.size
  go_upto_region 2 with fail
  obtain ⟨w2, hw2, hz2, hB2', hU⟩ := boxed w1 #[.slice (some ⟨g, 0, none⟩) a.nx.length a.nx.length] 51
  rw [hw2]
  clear hw2 hw0
  have hB2 := hB1.trans (hB2'.mono hB1.size)
  have hb02 := hb1.trans (hB2'.mono hz1)
  have hg2 := hid (hg.out.later hB2')
  have ha2 := hid (ha0.out.later hb02)
  have hres2 := hid (hres.out.below hb02 hres.out.lt)
  have hU' := hid (fun w' (hb : Below w2.heap.size w2 w') => hU 0 _ rfl w' (hb.mono hz2))
  have hS0 := hid (fun w' (hb : Below w2.heap.size w2 w') => hS 0 _ rfl w' ((hb02.trans (hb.mono hb02.size)).mono hz0))
  have hS2 := hid (fun w' (hb : Below w2.heap.size w2 w') => hS 2 _ rfl w' ((hb02.trans (hb.mono hb02.size)).mono hz0))
  have y0 := fun x => hU'.out _ (Fam.below w2.heap.size w2 x)
  have y1 := fun x => hS0.out _ (Fam.below w2.heap.size w2 x)
  have hz2g : w.heap.size + 2 ≤ w2.heap.size := Nat.le_trans hz0 hb02.size
  clear hU
  refine wp_region_grow 14 w2.heap.size w2 (fun i u w' => if i = 2 then OwnNats w' w2.heap.size u (letters a.al) else ∃ v1 v2 xs, u = numV v1 v2 true ∧ OwnNats w' w2.heap.size v1 x.1 ∧ RowsOwn w' w2.heap.size v2 xs ∧ xs.map (·.r) = toRows x.2) (by kernel_rfl) (by kernel_rfl) (Nat.le_refl _) (Below.refl _ _) ?_
  simp only [List.take_succ_cons, List.take_zero, List.drop_succ_cons, List.drop_zero]
  (repeat (refine grow_quiet (by rfl) (by rfl) (by rfl) ?_; intro K hK; go_big_quiet_op; go_big_quiet_on))
  refine grow_call (by rfl) (by rfl) (fun u v v' hb h => ?_) (fun wq hbq _ => ?_) fun u hu => ?_
  · exact own_keep h (.of_below (K := fun _ => False) hb) fun _ _ h => h
  · go_simp
    refine ⟨rfl, (lettersOf_any a.al wq).mono ?_⟩
    rintro e w5 ⟨v, rfl, ho, hb5⟩
    exact ⟨v, rfl, hb5, own_base ho hbq.size⟩
  simp only [Act.put, List.setIfInBounds_toArray, List.set_cons_zero, List.set_cons_succ]
  (repeat (refine grow_quiet (by rfl) (by rfl) (by rfl) ?_; intro K hK; go_big_quiet_op; go_big_quiet_on))
  refine grow_call (by rfl) (by rfl) (fun v x x' hb h => ?_) (fun wq hbq hfx => ?_) fun u2 hu2 => ?_
  · obtain ⟨v1, v2, xs, h1, h2, h3, h4⟩ := h
    exact ⟨v1, v2, xs, h1, own_keep h2 (.of_below (K := fun _ => False) hb) fun _ _ h => h, h3.later hb, h4⟩
  · have hlet : OwnNats wq w2.heap.size u (letters a.al) := hfx _ List.mem_cons_self (by kernel_rfl)
    have hcT := hid (hU'.out wq hbq)
    have hgq := hid (hg2.out.later hbq)
    obtain ⟨AL, cL, rfl, hcL, hcL', hLL⟩ := OwnNats.read hlet
    go_simp
    refine ⟨rfl, ?_⟩
    have hnum := numbered_any wq (fun q => q < a.nx.length) (letters a.al) (goA a) 31 _ 0 a.nx.length AL cL (trimStep_ok hok'.out rfl hgq.out hcT.out) (by omega) hn1 (by omega) (lettersTo_len _ 6) hcL hcL' hLL
    refine hnum.mono ?_
    rintro e w6 ⟨hb6, h6⟩
    rw [show numRes (goA a) (letters a.al) 0 a.nx.length = some x from hx.out] at h6
    obtain ⟨v1, v2, xs, rfl, h1, h2, h3⟩ := h6
    exact ⟨_, rfl, hb6, v1, v2, rfl, own_base h1 hbq.size, xs, h2.base hbq.size, h3⟩
  obtain ⟨w6', -, v1, v2, xs, rfl, ho1, ho2, hxr⟩ := hu2
  obtain ⟨A1, c1, rfl, hc1, hc1', -⟩ := OwnNats.read ho1
  obtain ⟨A2, c2, rfl, hc2, hc2'⟩ := own_slice ho2.own
  clear ho1 ho2
  unfold numV
  simp only [Act.put, List.setIfInBounds_toArray, List.set_cons_zero, List.set_cons_succ]
  (repeat (refine grow_quiet (by rfl) (by rfl) (by rfl) ?_; intro K hK; go_big_quiet_op; go_big_quiet_on))
  refine grow_nil ?_
  intro w3 hb3 hf
  have hf6 := hf _ List.mem_cons_self
  dsimp only at hf6
  rw [if_neg (by decide)] at hf6
  obtain ⟨v1, v2, xs', he, hs1, hs2, hxr'⟩ := hf6
  injection he with he
  injection he with he
  injection he with he1 he
  injection he with he2 he
  subst he1
  subst he2
  clear he hf y0 y1
  obtain ⟨A1', c1', he, -, -, hN1⟩ := OwnNats.read hs1
  injection he with e1 e2 e3
  subst e1
  have hB3 := hB2.trans (hb3.mono hB2.size)
  have hxl : xs'.length = xs.length := by
    have h1 := congrArg List.length hxr
    have h2 := congrArg List.length hxr'
    rw [List.length_map] at h1 h2
    omega
  have hz3 := hb3.size
  have hst0 : Hid (TrimSt w3 (w3.alloc (.cells #[.int .i64 a.al, .slice A2 xs.length c2, .slice none 0 0] 26)) w3.heap.size a.al (.slice A2 xs.length c2) (.slice none 0 0) []) :=
    hid ⟨(Below.refl _ _).alloc (Nat.le_refl _) _, Nat.le_refl _, World.ownsRow_nil _ _ _ _, Blk.new _ _ _⟩
  have p0 := hS0.out w3 hb3
  have ha3 := hid (ha2.out.later hb3)
  have hres3 := hid (hres2.out.below hb3 hres2.out.lt)
  have hS2' := hid (fun w' (hb : Below w3.heap.size w3 w') => hS2.out w' (hb3.trans (hb.mono hz3)))
  replace hN1 := hid hN1
  replace hs1 := hid hs1
  replace hs2 := hid hs2
  replace hxr := hid hxr
  replace hxr' := hid hxr'
  clear hS
  go_wp2_with fail
  go_loopw [29] (fun iv wr => ∃ (i : Nat) (vA : Value), iv = .int .i64 (i : Nat) ∧ i ≤ x.1.length ∧ TrimSt w3 wr w3.heap.size a.al (.slice A2 xs.length c2) vA ((x.1.take i).map fun q => a.ac.getD q false)) (fun iv _ => x.1.length - (intOf iv).toNat)
  case atStart => exact ⟨0, _, rfl, Nat.zero_le _, hst0.out⟩
  case round =>
    clear hst0 p0
    obtain ⟨i, vA, rfl, hi, hst⟩ := hrel
    have hBm := hst.below
    have hzm := hBm.size
    have hBw := hB3.trans (hBm.mono hB3.size)
    obtain ⟨acs, hacs⟩ : ∃ acs, acs = (x.1.take i).map fun q => a.ac.getD q false := ⟨_, rfl⟩
    rw [← hacs] at hst
    have hal : acs.length = i := by rw [hacs, List.length_map, List.length_take]; omega
    obtain ⟨AA, cA, rfl, hcA, hcA'⟩ := own_slice hst.acc
    have hgO := hst.blk.lt
    by_cases hlt : i < x.1.length
    · obtain ⟨bN, oN, hA1, hbN, hEN⟩ := hN1.out (by omega)
      subst hA1
      have a0 := (hBm.cell (p := ⟨bN, oN + i, none⟩) (by simpa using hbN)).trans (hEN i hlt)
      obtain ⟨q, hq⟩ : ∃ q, Hid (q = x.1[i]) := ⟨_, hid rfl⟩
      rw [← hq.out] at a0
      have hqn : q < a.nx.length := hxq.out q (by rw [hq.out]; exact List.getElem_mem hlt)
      have hqa : q < a.ac.length := by have := hn3'.out; omega
      obtain ⟨bB, oB, hB', hbB, hEB⟩ := (ha3.out.later hBm).acc (by omega)
      subst hB'
      have a1 := hEB q hqa
      obtain ⟨t, ht⟩ : ∃ t, Hid (t = a.ac[q]) := ⟨_, hid rfl⟩
      rw [← ht.out] at a1
      have a2 : wr.cell? ⟨w.heap.size, 2, none⟩ = some (.slice (some ⟨bB, oB, none⟩) a.ac.length d) := hS2'.out wr hBm
      have a3 := hst.blk.cell 2
      simp only [List.getElem?_toArray, List.getElem?_cons_zero, List.getElem?_cons_succ] at a3
      have hlw : w.heap.size < wr.heap.size := by omega
      have y0 : ∀ x', (Fam wr.heap.size wr x').cell? ⟨w3.heap.size, 2, none⟩ = some (.slice AA acs.length cA) := fun x' => by rw [(Fam.below wr.heap.size wr x').cell (by simpa using hgO)]; exact a3
      have y1 : ∀ x', (Fam wr.heap.size wr x').cell? ⟨w.heap.size, 2, none⟩ = some (.slice (some ⟨bB, oB, none⟩) a.ac.length d) := fun x' => by rw [(Fam.below wr.heap.size wr x').cell (by simpa using hlw)]; exact a2
      have y2 : ∀ x', (Fam wr.heap.size wr x').cell? ⟨bB, oB + q, none⟩ = some (.bool t) := fun x' => by rw [(Fam.below wr.heap.size wr x').cell (by simpa using hbB)]; exact a1
      have hacs2 : Hid (acs ++ [t] = (x.1.take (i + 1)).map fun q => a.ac.getD q false) := hid (by
        rw [hacs, List.take_succ_eq_append_getElem hlt, List.map_append, List.map_singleton, ← hq.out, ht.out]
        congr 2
        rw [List.getD_eq_getElem?_getD, List.getElem?_eq_getElem hqa]
        rfl)
      have k1 : (0 : Int) ≤ (i : Int) ∧ (i : Int) < (x.1.length : Int) ∧ (0 : Int) ≤ (q : Int) ∧ (q : Int) < (a.ac.length : Int) := by omega
      have hst' := hid hst
      replace hacs := hid hacs
      replace hEN := hid hEN
      replace hEB := hid hEB
      replace hal := hid hal
      clear hst a1 a2 a3
      go_wp2_with fail
      refine wp_region_grow 8 wr.heap.size wr (fun _ _ _ => True) (by kernel_rfl) (by kernel_rfl) (Nat.le_refl _) (Below.refl _ _) ?_
      simp only [List.take_succ_cons, List.take_zero, List.drop_succ_cons, List.drop_zero]
      (repeat (refine grow_quiet (by rfl) (by rfl) (by rfl) ?_; intro K hK; go_big_quiet_op; go_big_quiet_on))
      refine grow_new (by rfl) (fun b => .slice (some ⟨b, 0, none⟩) 1 1) 4 #[.bool t] (fun _ => by go_simp) (fun _ => rfl) (Nat.le_refl _) fun g3 hg3 => ?_
      simp only [Act.put, List.setIfInBounds_toArray, List.set_cons_zero, List.set_cons_succ]
      refine grow_nil ?_
      intro w7 hb7 hf
      obtain ⟨g3', hge, -, hblk3⟩ := hf _ List.mem_cons_self
      cases hge
      have hnew3 := hid (Blk.news hblk3)
      clear hblk3 hf y0 y1 y2
      have hst7 := hst'.out.later hb7
      have hoA := hid hst7.acc
      have hz7 := hst7.below.size
      have hbk7 := hid hst7.blk
      have hst7' := hid hst7
      have hal' : acs.length ≤ 12 := by have := hal.out; omega
      clear hst7
      go_wp2_with (at_builtin; refine wpList_append_own_at _ rfl _ _ 24 rfl w3.heap.size 4 b0 (.bool false) 1 1 Try.underlying24 hbi hb0 hb1' hb2' rfl (by decide) _ _ _ rfl (hoA.out) ⟨g3, 0, none⟩ 1 1 [.bool t] rfl rfl hnew3.out (by intro u hu; simp at hu; subst hu; rfl) (by unfold maxLen; omega) (by omega) (by first | omega | (simp; omega)) ?_; intro v8 w8 hO8 hg8 _ hat8; obtain ⟨Av8, cv8, ev8, -, -⟩ := own_slice hO8; subst ev8; have hbk8 : Blk w8 w3.heap.size 26 _ := hbk7.out.keep ((KeepB.refl (fun b => (Value.slice AA acs.length cA).ownBlock = some b) _).grown hg8 (fun k hk _ => hk)) (fun e => own_ne hoA.out hbk7.out (by decide) _ e rfl); have d2 := hbk8.cell 2; have z2 := hbk8.frozen 2; simp only [List.getElem?_toArray, List.getElem?_cons_zero, List.getElem?_cons_succ] at d2; have hst8 := hid (hst7'.out.put (t := t) hg8 hO8); replace hbk8 := hid hbk8; clear hO8 hg8 hat8)
      go_roundw
      case rel =>
        have h8 := hst8.out
        rw [hacs2.out] at h8
        exact ⟨i + 1, _, by go_num, by omega, h8⟩
      case measure => simp [intOf]; omega
    · obtain rfl : i = x.1.length := by omega
      have hbk := hst.blk
      have d0 := hbk.cell 0
      have d1 := hbk.cell 1
      have d2 := hbk.cell 2
      have hresr := hres3.out.below hBm hres3.out.lt
      have q0 := hresr.cell 0
      have q1 := hresr.cell 1
      have q2 := hresr.cell 2
      have f0 := hresr.frozen 0
      have f1 := hresr.frozen 1
      have f2 := hresr.frozen 2
      simp only [List.getElem?_toArray, List.getElem?_cons_zero, List.getElem?_cons_succ] at q0 q1 q2 d0 d1 d2
      have hau : Hid (AuOwn wr w2.heap.size (.slice A2 xs.length c2) (.slice AA acs.length cA) (trimA a) xs') := hid (by
        rw [htr.out]
        rw [List.take_length] at hacs
        refine ⟨hs2.out.later hBm, hxr'.out, ?_⟩
        show wr.ownsRow w2.heap.size 4 1 _ (x.1.map fun q => a.ac.getD q false).length (boolVals (x.1.map fun q => a.ac.getD q false))
        rw [← hacs]
        exact own_base hst.acc hz3)
      have hlt2 : w.heap.size + 1 < w2.heap.size := by omega
      replace hst := hid hst
      replace hbk := hid hbk
      replace hBm := hid hBm
      replace hresr := hid hresr
      replace hacs := hid hacs
      obtain ⟨nA, hnA⟩ : ∃ nA, nA = acs.length := ⟨_, rfl⟩
      rw [← hnA] at hau d2
      replace hnA := hid hnA
      replace hal := hid hal
      go_wp2
      refine bodyPost_ret (v := .agg #[.int .i64 a.al, .slice A2 xs.length c2, .slice AA nA cA]) (by simp [results, Try.results14, go_sem, q0, q1, q2]) rfl ?_
      exact ⟨by (repeat (first | exact Below.refl _ _ | assumption | refine Below.drew ?_ | refine Below.alloc ?_ (by first | omega | (simp; done) | (simp; omega)) _ | refine Below.setCell ?_ (by first | omega | (simp; done) | (simp; omega)) _)), _, _, xs', rfl, (((hau.out.setFar hlt2 _).setFar hlt2 _).setFar hlt2 _).base (by omega)⟩

end Go.Proofs.Ytdkjnemakkppfaa

/- The program's TrimAutomaton and IsPrefixClosed. -/
namespace Go.Proofs.Ytdkjnemakkppfaa
open Go.RowKit Go.BigFrame Go.Maps AG

/-- What does not accept leads to nothing that accepts. -/
def deadOk (a : Au) : Prop := ∀ i, ∀ (hi : i < a.nx.length), a.ac.getD i false = false → ∀ T ∈ a.nx[i], ¬ leadsP a T.toNat
end Go.Proofs.Ytdkjnemakkppfaa

/- The program's search in two automata: firstOfBoth, FirstOutside, LanguageWithin. -/
namespace Go.Proofs.Ytdkjnemakkppfaa
open Go.RowKit Go.BigFrame AG

def cmpAu (a b : Au) : Bool := auOk a && (auOk b && decide (a.al = b.al))


theorem wrap_addN (a b : Nat) (h : a + b < 9223372036854775807) : wrap64 ((a : Int) + (b : Int)) = ((a + b : Nat) : Int) := by
  rw [← Int.natCast_add]
  exact IntWalk.wrap64_in _ ⟨by omega, by omega⟩

end Go.Proofs.Ytdkjnemakkppfaa

/- The program's search in two automata: comparable2, firstOfBoth. -/
namespace Go.Proofs.Ytdkjnemakkppfaa
open Go.RowKit Go.BigFrame AG


def goalB (a b : Au) (g : Bool → Bool → Bool) (m : Nat) : Bool := g (a.ac.getD (m / b.nx.length) false) (b.ac.getD (m % b.nx.length) false)


end Go.Proofs.Ytdkjnemakkppfaa

/- The program's FirstTraceOutside. -/
namespace Go.Proofs.Ytdkjnemakkppfaa
open Go.RowKit Go.BigFrame AG

theorem setFar_cell (w : World) (p : Addr) (v : Value) {q : Addr} (h : q.block ≠ p.block) : (w.setCell p v).cell? q = w.cell? q := World.cell?_of_block (w := w) (Below.heap_setCell _ _ _ _ h)
theorem MvAt.far {w : World} {B g : Nat} {m : Nat → Nat → Nat} (h : MvAt w B g m) (p : Addr) (v : Value) (hp : g ≠ p.block) : MvAt (w.setCell p v) B g m := ⟨h.1, fun q l h1 h2 => by rw [setFar_cell _ _ _ hp]; exact h.2 q l h1 h2⟩

end Go.Proofs.Ytdkjnemakkppfaa

/- The program's search in two automata: firstOfBoth. -/
namespace Go.Proofs.Ytdkjnemakkppfaa
open Go.RowKit Go.BigFrame AG

def DoubP (a b : Au) (g : Bool → Bool → Bool) (m0 : Nat) (o : Option (List Nat)) : Prop := PathPost (fun m => m ∈ [m0]) (letters a.al) (fun q l => [goB a b q l]) (fun m => goalB a b g m = true) o
theorem TabA.far {w : World} {g n : Nat} {a : Au} (h : TabA w g n a) (p : Addr) (v : Value) (hne : g ≠ p.block) : TabA (w.setCell p v) g n a :=
  ⟨by simpa using h.1, fun q l h1 h2 => by rw [setFar_cell _ _ _ (by simpa using hne)]; exact h.2 q l h1 h2⟩
theorem goB_lt {a b : Au} (ha : auOk a = true) (hb : auOk b = true) {q l : Nat} (hq : q < a.nx.length * b.nx.length) : goB a b q l < a.nx.length * b.nx.length := by
  have hn := ((auOk_iff b).1 hb).2.1
  have h1 := goA_lt ha (q := q / b.nx.length) (l := l) (Nat.div_lt_of_lt_mul (by rw [Nat.mul_comm]; exact hq))
  have h2 := goA_lt hb (q := q % b.nx.length) (l := l) (Nat.mod_lt _ hn)
  unfold goB
  calc goA a (q / b.nx.length) l * b.nx.length + goA b (q % b.nx.length) l < goA a (q / b.nx.length) l * b.nx.length + b.nx.length := by omega
    _ = (goA a (q / b.nx.length) l + 1) * b.nx.length := by rw [Nat.add_mul, Nat.one_mul]
    _ ≤ a.nx.length * b.nx.length := Nat.mul_le_mul_right _ h1


end Go.Proofs.Ytdkjnemakkppfaa

/- The program's DifferOf, SameLanguage, FirstOutside, LanguageWithin. -/
namespace Go.Proofs.Ytdkjnemakkppfaa
open Go.RowKit Go.BigFrame AG

theorem cmpAu_parts {a b : Au} (h : cmpAu a b = true) : auOk a = true ∧ auOk b = true ∧ a.al = b.al := by
  unfold cmpAu at h
  simpa using h
/-- No word is found if the test holds of no word. -/
theorem doub_none {a b : Au} (h : cmpAu a b = true) {g : Bool → Bool → Bool} {o : Option (List Nat)} (hp : DoubP a b g 0 o) : o = none ↔ ∀ r : List Nat, (∀ l ∈ r, l ∈ letters a.al) → g (accA a r) (accA b r) = false := by
  obtain ⟨h1, h2, h3⟩ := cmpAu_parts h
  have key : ∀ r : List Nat, goalB a b g (runA a 0 r * b.nx.length + runA b 0 r) = g (accA a r) (accA b r) := fun r => by
    obtain ⟨e1, e2⟩ := pair_div (q := runA a 0 r) (runA_lt h2 r)
    unfold goalB accA
    rw [e1, e2]
  unfold DoubP at hp
  constructor
  · rintro rfl r hr
    have := hp r _ ((RW_both h2 r _).2 ⟨hr, rfl⟩)
    dsimp only at this
    rw [key] at this
    simpa using this
  · intro hn
    cases o with
    | none => rfl
    | some r =>
      obtain ⟨m, hm, hg⟩ := hp.1
      obtain ⟨hr, rfl⟩ := (RW_both h2 r m).1 hm
      rw [key, hn r hr] at hg
      cases hg
def FoundP (a b : Au) (g : Bool → Bool → Bool) (o : Option (List Nat)) : Prop := (cmpAu a b = true → DoubP a b g 0 o) ∧ (cmpAu a b = false → o = none)
def FoundPost (a b : Au) (g : Bool → Bool → Bool) (w : World) (e : Ending) (w' : World) : Prop := ∃ o, e = .returned (pathV o) ∧ FoundP a b g o ∧ Below w.heap.size w w'
end Go.Proofs.Ytdkjnemakkppfaa
