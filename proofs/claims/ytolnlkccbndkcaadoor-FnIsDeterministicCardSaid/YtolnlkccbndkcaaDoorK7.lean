/- Lemmas, part 7: several texts in one. -/
import Derived.Test.YtolnlkccbndkcaaDoorK2
import Derived.Test.YtolnlkccbndkcaaDoorK6
import Derived.StillTail
import Derived.Deep.Quiet
import Derived.KernelRfl
import Derived.Below
import Derived.Test.YtolnlkccbndkcaaDoorK3
import Derived.Test.YtolnlkccbndkcaaDoorK5
import Derived.Test.YtolnlkccbndkcaaDoorK4
import Derived.Test.YtolnlkccbndkcaaDoorK1
set_option linter.unusedSimpArgs false
set_option linter.unusedVariables false

/- Plain: how many words lead somewhere. -/
namespace AG

/-- All words of a length over the letters L. -/
def wordsOf (L : List Nat) : Nat → List (List Nat)
  | 0 => [[]]
  | k + 1 => (wordsOf L k).flatMap fun r => L.map fun l => l :: r
theorem sum_const {α : Type} (c : Nat) : ∀ W : List α, (W.map fun _ => c).sum = W.length * c
  | [] => by simp
  | _ :: W => by
    have := sum_const c W
    simp only [List.map_cons, List.sum_cons, List.length_cons, this, Nat.add_mul]
    omega
theorem wordsOf_len (L : List Nat) : ∀ k, (wordsOf L k).length = L.length ^ k
  | 0 => rfl
  | k + 1 => by
    have ih := wordsOf_len L k
    rw [wordsOf, List.length_flatMap]
    have : ((wordsOf L k).map fun r => (L.map fun l => l :: r).length) = (wordsOf L k).map fun _ => L.length := by
      congr 1; funext r; simp
    rw [this, sum_const, ih, Nat.pow_succ]
theorem wordsOf_mem {L : List Nat} : ∀ {k : Nat} {r : List Nat}, r ∈ wordsOf L k → ∀ l ∈ r, l ∈ L
  | 0, r, h, l, hl => by
    have : r = [] := by simpa [wordsOf] using h
    subst this
    cases hl
  | k + 1, r, h, l, hl => by
    rw [wordsOf, List.mem_flatMap] at h
    obtain ⟨q, hq, hr⟩ := h
    obtain ⟨x, hx, rfl⟩ := List.mem_map.1 hr
    rcases List.mem_cons.1 hl with rfl | hl
    · exact hx
    · exact wordsOf_mem hq l hl

/-- How many words of length k lead from the start to exactly the set T. -/
noncomputable def cntW (s : Sy) (L : List Nat) (k T : Nat) : Nat := (wordsOf L k).countP fun r => decide (setW s r = T)
/-- How many are traces. -/
noncomputable def trW (s : Sy) (L : List Nat) (k : Nat) : Nat := (wordsOf L k).countP fun r => decide (setW s r ≠ 0)
/-- How many letters lead from S to T; how many lead anywhere. -/
noncomputable def hitL (s : Sy) (L : List Nat) (S T : Nat) : Nat := L.countP fun (l : Nat) => decide (stepSet s S (l : Int) = T)
noncomputable def anyL (s : Sy) (L : List Nat) (S : Nat) : Nat := L.countP fun (l : Nat) => decide (stepSet s S (l : Int) ≠ 0)

theorem countP_flat {α : Type} (p : α → Bool) (f : List Nat → List α) : ∀ W : List (List Nat), (W.flatMap f).countP p = (W.map fun r => (f r).countP p).sum
  | [] => rfl
  | r :: W => by rw [List.flatMap_cons, List.countP_append, countP_flat p f W]; rfl
theorem cntW_succ (s : Sy) (L : List Nat) (k T : Nat) : cntW s L (k + 1) T = ((wordsOf L k).map fun r => hitL s L (setW s r) T).sum := by
  unfold cntW hitL
  rw [wordsOf, countP_flat]
  congr 1
  congr 1
  funext r
  rw [List.countP_map]
  rfl
theorem trW_succ (s : Sy) (L : List Nat) (k : Nat) : trW s L (k + 1) = ((wordsOf L k).map fun r => anyL s L (setW s r)).sum := by
  unfold trW anyL
  rw [wordsOf, countP_flat]
  congr 1
  congr 1
  funext r
  rw [List.countP_map]
  rfl
theorem hitL_zero (s : Sy) (L : List Nat) {T : Nat} (hT : T ≠ 0) : hitL s L 0 T = 0 := by
  unfold hitL
  rw [List.countP_eq_zero]
  intro l _
  rw [stepSet_zero]
  simpa using fun h => hT h.symm
theorem anyL_zero (s : Sy) (L : List Nat) : anyL s L 0 = 0 := by
  unfold anyL
  rw [List.countP_eq_zero]
  intro l _
  rw [stepSet_zero]
  simp

theorem sum_map_add (f g : Nat → Nat) : ∀ ps : List Nat, (ps.map fun S => f S + g S).sum = (ps.map f).sum + (ps.map g).sum
  | [] => rfl
  | S :: ps => by
    have := sum_map_add f g ps
    simp only [List.map_cons, List.sum_cons, this]
    omega
theorem sum_map_zero {f : Nat → Nat} : ∀ {ps : List Nat}, (∀ S ∈ ps, f S = 0) → (ps.map f).sum = 0
  | [], _ => rfl
  | S :: ps, h => by
    rw [List.map_cons, List.sum_cons, h S List.mem_cons_self, sum_map_zero fun x hx => h x (List.mem_cons_of_mem _ hx)]
/-- One of the sets alone. -/
theorem sum_one {a : Nat} {f : Nat → Nat} : ∀ {ps : List Nat}, ps.Nodup → (a ∉ ps → f a = 0) → (ps.map fun S => if a = S then f S else 0).sum = f a
  | [], _, h => by simpa using (h (by simp)).symm
  | S :: ps, hn, h => by
    rw [List.nodup_cons] at hn
    rw [List.map_cons, List.sum_cons]
    by_cases e : a = S
    · subst e
      rw [if_pos rfl, sum_map_zero]
      · omega
      · intro x hx
        rw [if_neg]
        rintro rfl
        exact hn.1 hx
    · rw [if_neg e, Nat.zero_add]
      refine sum_one hn.2 fun hm => h ?_
      rw [List.mem_cons]
      exact fun hh => hh.elim e hm
/-- A sum over words, sorted by the sets to which they lead. -/
theorem sum_groups (g : List Nat → Nat) (f : Nat → Nat) {ps : List Nat} (hn : ps.Nodup) : ∀ W : List (List Nat), (∀ r ∈ W, g r ∉ ps → f (g r) = 0) →
    (W.map fun r => f (g r)).sum = (ps.map fun S => W.countP (fun r => decide (g r = S)) * f S).sum
  | [], _ => by simp [sum_map_zero]
  | r :: W, h => by
    have ih := sum_groups g f hn W fun x hx => h x (List.mem_cons_of_mem _ hx)
    rw [List.map_cons, List.sum_cons, ih]
    have e : (ps.map fun S => (r :: W).countP (fun r => decide (g r = S)) * f S) = ps.map fun S => (if g r = S then f S else 0) + W.countP (fun r => decide (g r = S)) * f S := by
      congr 1
      funext S
      rw [List.countP_cons]
      by_cases hh : g r = S
      · simp only [hh, decide_true, if_true, Nat.add_mul, Nat.one_mul]
        omega
      · simp only [hh, decide_false, if_false]
        simp
    rw [e, sum_map_add, sum_one hn (h r List.mem_cons_self)]

/-- The sets that have been gone through, each once, and what they add. -/
noncomputable def addTo (s : Sy) (L : List Nat) (k : Nat) (ps : List Nat) (T : Nat) : Nat := (ps.map fun S => cntW s L k S * hitL s L S T).sum
noncomputable def addAll (s : Sy) (L : List Nat) (k : Nat) (ps : List Nat) : Nat := (ps.map fun S => cntW s L k S * anyL s L S).sum
theorem addTo_done {s : Sy} {L : List Nat} {k : Nat} {ps : List Nat} (hn : ps.Nodup) (h : ∀ S, S ≠ 0 → 0 < cntW s L k S → S ∈ ps) {T : Nat} (hT : T ≠ 0) : addTo s L k ps T = cntW s L (k + 1) T := by
  rw [cntW_succ, sum_groups (setW s) (fun S => hitL s L S T) hn (wordsOf L k)]
  · rfl
  · intro r hr hm
    by_cases h0 : setW s r = 0
    · simp only [h0]
      exact hitL_zero s L hT
    · exact absurd (h _ h0 (List.countP_pos_iff.2 ⟨r, hr, by simp⟩)) hm
theorem addAll_done {s : Sy} {L : List Nat} {k : Nat} {ps : List Nat} (hn : ps.Nodup) (h : ∀ S, S ≠ 0 → 0 < cntW s L k S → S ∈ ps) : addAll s L k ps = trW s L (k + 1) := by
  rw [trW_succ, sum_groups (setW s) (fun S => anyL s L S) hn (wordsOf L k)]
  · rfl
  · intro r hr hm
    by_cases h0 : setW s r = 0
    · simp only [h0]
      exact anyL_zero s L
    · exact absurd (h _ h0 (List.countP_pos_iff.2 ⟨r, hr, by simp⟩)) hm
theorem addTo_snoc (s : Sy) (L : List Nat) (k : Nat) (ps : List Nat) (S T : Nat) : addTo s L k (ps ++ [S]) T = addTo s L k ps T + cntW s L k S * hitL s L S T := by
  unfold addTo
  rw [List.map_append, List.sum_append]
  simp
theorem addAll_snoc (s : Sy) (L : List Nat) (k : Nat) (ps : List Nat) (S : Nat) : addAll s L k (ps ++ [S]) = addAll s L k ps + cntW s L k S * anyL s L S := by
  unfold addAll
  rw [List.map_append, List.sum_append]
  simp
theorem hitL_take {s : Sy} {L : List Nat} {j : Nat} (hj : j < L.length) (S T : Nat) : hitL s (L.take (j + 1)) S T = hitL s (L.take j) S T + if stepSet s S (L[j] : Int) = T then 1 else 0 := by
  unfold hitL
  rw [List.take_succ_eq_append_getElem hj, List.countP_append]
  simp [List.countP_cons]
theorem anyL_take {s : Sy} {L : List Nat} {j : Nat} (hj : j < L.length) (S : Nat) : anyL s (L.take (j + 1)) S = anyL s (L.take j) S + if stepSet s S (L[j] : Int) ≠ 0 then 1 else 0 := by
  unfold anyL
  rw [List.take_succ_eq_append_getElem hj, List.countP_append]
  simp [List.countP_cons]

/-- How great the numbers get. -/
theorem cntW_le (s : Sy) (L : List Nat) (k T : Nat) : cntW s L k T ≤ L.length ^ k := by
  unfold cntW
  rw [← wordsOf_len L k]
  exact List.countP_le_length
theorem trW_le (s : Sy) (L : List Nat) (k : Nat) : trW s L k ≤ L.length ^ k := by
  unfold trW
  rw [← wordsOf_len L k]
  exact List.countP_le_length
theorem pow_le6 {n k : Nat} (hn : n ≤ 6) (hk : k ≤ 8) : n ^ k ≤ 1679616 := by
  have h1 : n ^ k ≤ 6 ^ k := Nat.pow_le_pow_left hn k
  have h2 : 6 ^ k ≤ 6 ^ 8 := Nat.pow_le_pow_right (by omega) hk
  have h3 : (6 : Nat) ^ 8 = 1679616 := by decide
  omega
theorem sum_le_groups (g : List Nat → Nat) (f : Nat → Nat) {ps : List Nat} (hn : ps.Nodup) (hf : ∀ S, f S ≤ 6) (W : List (List Nat)) : (ps.map fun S => W.countP (fun r => decide (g r = S)) * f S).sum ≤ 6 * W.length := by
  have h := sum_groups g (fun S => if S ∈ ps then f S else 0) hn W (fun r _ hm => by simp [hm])
  have e : (ps.map fun S => W.countP (fun r => decide (g r = S)) * f S) = ps.map fun S => W.countP (fun r => decide (g r = S)) * (if S ∈ ps then f S else 0) := List.map_congr_left fun S hS => by rw [if_pos hS]
  rw [e, ← h]
  clear h e
  induction W with
  | nil => simp
  | cons r W ih =>
    rw [List.map_cons, List.sum_cons, List.length_cons]
    have : (if g r ∈ ps then f (g r) else 0) ≤ 6 := by split; exact hf _; omega
    omega
theorem hitL_le {L : List Nat} (hL : L.length ≤ 6) (s : Sy) (S T : Nat) : hitL s L S T ≤ 6 := by unfold hitL; exact Nat.le_trans List.countP_le_length hL
theorem anyL_le {L : List Nat} (hL : L.length ≤ 6) (s : Sy) (S : Nat) : anyL s L S ≤ 6 := by unfold anyL; exact Nat.le_trans List.countP_le_length hL
theorem addTo_le {s : Sy} {L : List Nat} {k : Nat} {ps : List Nat} (hL : L.length ≤ 6) (hk : k ≤ 8) (hn : ps.Nodup) (T : Nat) : addTo s L k ps T ≤ 10077696 := by
  have := sum_le_groups (setW s) (fun S => hitL s L S T) hn (hitL_le hL s · T) (wordsOf L k)
  have h2 := pow_le6 hL hk
  rw [wordsOf_len] at this
  unfold addTo cntW
  omega
theorem addAll_le {s : Sy} {L : List Nat} {k : Nat} {ps : List Nat} (hL : L.length ≤ 6) (hk : k ≤ 8) (hn : ps.Nodup) : addAll s L k ps ≤ 10077696 := by
  have := sum_le_groups (setW s) (fun S => anyL s L S) hn (anyL_le hL s ·) (wordsOf L k)
  have h2 := pow_le6 hL hk
  rw [wordsOf_len] at this
  unfold addAll cntW
  omega

/-- The number of all traces of at most n letters. -/
noncomputable def totW (s : Sy) (L : List Nat) : Nat → Nat
  | 0 => 1
  | n + 1 => totW s L n + trW s L (n + 1)
theorem totW_le {s : Sy} {L : List Nat} (hL : L.length ≤ 6) : ∀ n, n ≤ 8 → totW s L n ≤ 1 + n * 1679616
  | 0, _ => by simp [totW]
  | n + 1, h => by
    have ih := totW_le (s := s) hL n (by omega)
    have h1 := trW_le s L (n + 1)
    have h2 := pow_le6 hL (k := n + 1) (by omega)
    rw [totW]
    omega
theorem trW_mono {s t : Sy} {L : List Nat} (h : ∀ r, (∀ l ∈ r, l ∈ L) → setW s r ≠ 0 → setW t r ≠ 0) (k : Nat) : trW s L k ≤ trW t L k := by
  unfold trW
  refine List.countP_mono_left fun r hr hp => ?_
  have hp' : setW s r ≠ 0 := by simpa using hp
  have := h r (wordsOf_mem hr) hp'
  simpa using this
theorem totW_mono {s t : Sy} {L : List Nat} (h : ∀ r, (∀ l ∈ r, l ∈ L) → setW s r ≠ 0 → setW t r ≠ 0) : ∀ n, totW s L n ≤ totW t L n
  | 0 => Nat.le_refl _
  | n + 1 => Nat.add_le_add (totW_mono h n) (trW_mono h (n + 1))
theorem cntW_zero (s : Sy) (L : List Nat) (T : Nat) : cntW s L 0 T = if T = 1 then 1 else 0 := by
  unfold cntW
  show ([[]] : List (List Nat)).countP _ = _
  have : setW s [] = 1 := rfl
  by_cases h : T = 1
  · subst h
    simp [this]
  · have h' : ¬ 1 = T := fun e => h e.symm
    simp [this, h, h']
theorem cntW_small {s : Sy} {L : List Nat} {k T : Nat} (h : 0 < cntW s L k T) : T < 65536 := by
  unfold cntW at h
  obtain ⟨r, _, hr⟩ := List.countP_pos_iff.1 h
  have e : setW s r = T := by simpa using hr
  rw [← e]
  exact setW_lt s r

end AG

/- Plain: how many words an automaton accepts. -/
namespace Go.Proofs.YtolnlkccbndkcaaDoor
open AG

def cntA (a : Au) (L : List Nat) (k q : Nat) : Nat := (wordsOf L k).countP fun r => decide (runA a 0 r = q)
def accN (a : Au) (L : List Nat) (k : Nat) : Nat := (wordsOf L k).countP fun r => accA a r
def totA (a : Au) (L : List Nat) : Nat → Nat
  | 0 => accN a L 0
  | n + 1 => totA a L n + accN a L (n + 1)
def hitT (a : Au) (M : List Nat) (p T : Nat) : Nat := M.countP fun l => decide (goA a p l = T)
def addA (a : Au) (L : List Nat) (k q T : Nat) : Nat := ((List.range q).map fun p => cntA a L k p * hitT a L p T).sum
def accTo (a : Au) (L : List Nat) (k q : Nat) : Nat := ((List.range q).map fun p => cntA a L k p * (if a.ac.getD p false = true then 1 else 0)).sum
theorem addA_succ (a : Au) (L : List Nat) (k q T : Nat) : addA a L k (q + 1) T = addA a L k q T + cntA a L k q * hitT a L q T := by
  unfold addA
  rw [List.range_succ, List.map_append, List.sum_append]
  simp
theorem accTo_succ (a : Au) (L : List Nat) (k q : Nat) : accTo a L k (q + 1) = accTo a L k q + cntA a L k q * (if a.ac.getD q false = true then 1 else 0) := by
  unfold accTo
  rw [List.range_succ, List.map_append, List.sum_append]
  simp
theorem cntA_le (a : Au) {L : List Nat} (hL : L.length ≤ 6) {k : Nat} (hk : k ≤ 8) (q : Nat) : cntA a L k q ≤ 1679616 := by
  have h1 : cntA a L k q ≤ (wordsOf L k).length := List.countP_le_length
  rw [wordsOf_len] at h1
  exact Nat.le_trans h1 (pow_le6 hL hk)
theorem hitT_le (a : Au) {M : List Nat} (hM : M.length ≤ 6) (p T : Nat) : hitT a M p T ≤ 6 := Nat.le_trans List.countP_le_length hM
theorem addA_le (a : Au) {L : List Nat} (hL : L.length ≤ 6) {k : Nat} (hk : k ≤ 8) (T : Nat) : ∀ q, addA a L k q T ≤ q * 10077696
  | 0 => by simp [addA]
  | q + 1 => by
    have h1 := addA_le a hL hk T q
    have h2 := Nat.mul_le_mul (cntA_le a hL hk q) (hitT_le a hL q T)
    rw [addA_succ, Nat.add_mul]
    omega
theorem accTo_le (a : Au) {L : List Nat} (hL : L.length ≤ 6) {k : Nat} (hk : k ≤ 8) : ∀ q, accTo a L k q ≤ q * 1679616
  | 0 => by simp [accTo]
  | q + 1 => by
    have h1 := accTo_le a hL hk q
    have h2 := cntA_le a hL hk q
    rw [accTo_succ, Nat.add_mul]
    have h3 : (if a.ac.getD q false = true then 1 else 0) ≤ 1 := by split <;> omega
    have h4 := Nat.mul_le_mul (Nat.le_refl (cntA a L k q)) h3
    rw [Nat.mul_one] at h4
    omega
theorem runA_lt {a : Au} (h : auOk a = true) : ∀ r : List Nat, runA a 0 r < a.nx.length
  | [] => by have := ((auOk_iff a).1 h).2.1; show 0 < _; omega
  | l :: r => goA_lt h (runA_lt h r)
theorem cntA_succ {a : Au} (h : auOk a = true) (L : List Nat) (k T : Nat) : cntA a L (k + 1) T = addA a L k a.nx.length T := by
  have h1 : cntA a L (k + 1) T = ((wordsOf L k).map fun r => hitT a L (runA a 0 r) T).sum := by
    unfold cntA
    rw [wordsOf, countP_flat]
    congr 1
    refine List.map_congr_left fun r _ => ?_
    unfold hitT
    rw [List.countP_map]
    rfl
  rw [h1]
  have := sum_groups (runA a 0) (fun p => hitT a L p T) (ps := List.range a.nx.length) List.nodup_range (wordsOf L k) (fun r _ hn => absurd (List.mem_range.2 (runA_lt h r)) hn)
  rw [this]
  rfl
theorem accN_groups {a : Au} (h : auOk a = true) (L : List Nat) (k : Nat) : accN a L k = accTo a L k a.nx.length := by
  have h1 : accN a L k = ((wordsOf L k).map fun r => if a.ac.getD (runA a 0 r) false = true then 1 else 0).sum := by
    unfold accN
    generalize wordsOf L k = W
    induction W with
    | nil => rfl
    | cons r W ih =>
      rw [List.countP_cons, List.map_cons, List.sum_cons, ih]
      show _ + (if accA a r = true then 1 else 0) = _
      unfold accA
      omega
  rw [h1]
  have := sum_groups (runA a 0) (fun p => if a.ac.getD p false = true then 1 else 0) (ps := List.range a.nx.length) List.nodup_range (wordsOf L k) (fun r _ hn => absurd (List.mem_range.2 (runA_lt h r)) hn)
  rw [this]
  rfl
theorem hitT_take {a : Au} {L : List Nat} {j : Nat} (hj : j < L.length) (p T : Nat) : hitT a (L.take (j + 1)) p T = hitT a (L.take j) p T + if goA a p L[j] = T then 1 else 0 := by
  unfold hitT
  rw [List.take_succ_eq_append_getElem hj, List.countP_append, List.countP_singleton]
  simp
theorem cntA_zero (a : Au) (L : List Nat) (q : Nat) : cntA a L 0 q = if 0 = q then 1 else 0 := by
  unfold cntA
  show List.countP _ [[]] = _
  rw [List.countP_singleton]
  show (if decide (0 = q) = true then 1 else 0) = _
  simp
theorem totA_le (a : Au) {L : List Nat} (hL : L.length ≤ 6) : ∀ n, n ≤ 8 → totA a L n ≤ (n + 1) * 1679616
  | 0, _ => by
    have h1 : accN a L 0 ≤ (wordsOf L 0).length := List.countP_le_length
    rw [wordsOf_len] at h1
    show accN a L 0 ≤ _
    simp at h1
    omega
  | n + 1, h => by
    have h0 := totA_le a hL n (by omega)
    have h1 : accN a L (n + 1) ≤ (wordsOf L (n + 1)).length := List.countP_le_length
    rw [wordsOf_len] at h1
    have h2 := pow_le6 hL h
    show totA a L n + accN a L (n + 1) ≤ _
    rw [Nat.add_mul (n + 1)]
    omega
/-- The automaton of a system accepts as many words as the system has traces. -/
theorem totA_pr {s : Sy} (h : prK s s.al = true) : ∀ n, totA (prA s s.al) (letters s.al) n = totW s (letters s.al) n := by
  obtain ⟨hk, x, hn, e⟩ := prK_true h
  have hal := sysOk_alpha (prOk_parts hk).1
  have hacc : ∀ k, accN (prA s s.al) (letters s.al) k = trW s (letters s.al) k := fun k => by
    unfold accN trW
    refine List.countP_congr fun r hr => ?_
    rw [e, accA_pr hn (wordsOf_mem hr), prW_self hal.1]
  intro n
  induction n with
  | zero =>
    show accN (prA s s.al) (letters s.al) 0 = 1
    rw [hacc]
    rfl
  | succ n ih =>
    show totA (prA s s.al) (letters s.al) n + accN (prA s s.al) (letters s.al) (n + 1) = totW s (letters s.al) n + trW s (letters s.al) (n + 1)
    rw [ih, hacc]

end Go.Proofs.YtolnlkccbndkcaaDoor

/- Plain: the search through two automata of sets finds the first trace outside. -/
namespace Go.Proofs.YtolnlkccbndkcaaDoor
open AG

/-- A step of two automata, their states as one number. -/
def goB (a b : Au) (q l : Nat) : Nat := goA a (q / b.nx.length) l * b.nx.length + goA b (q % b.nx.length) l
def outB (a b : Au) (m : Nat) : Bool := a.ac.getD (m / b.nx.length) false && !b.ac.getD (m % b.nx.length) false
theorem pair_div {n p q : Nat} (h : p < n) : (q * n + p) / n = q ∧ (q * n + p) % n = p := by
  rw [Nat.mul_comm]
  constructor
  · rw [Nat.mul_add_div (by omega), Nat.div_eq_of_lt h, Nat.add_zero]
  · rw [Nat.mul_add_mod, Nat.mod_eq_of_lt h]
theorem RW_both {a b : Au} (hb : auOk b = true) {L : List Nat} : ∀ (r : List Nat) (m : Nat), RW (fun m => m ∈ [0]) L (fun q l => [goB a b q l]) r m ↔ (∀ l ∈ r, l ∈ L) ∧ m = runA a 0 r * b.nx.length + runA b 0 r
  | [], m => by
    show m ∈ [0] ↔ _
    simp [runA]
  | l :: r, m => by
    show (l ∈ L ∧ ∃ k, RW (fun m => m ∈ [0]) L (fun q l => [goB a b q l]) r k ∧ m ∈ [goB a b k l]) ↔ _
    have hlt := runA_lt hb r
    obtain ⟨e1, e2⟩ := pair_div (q := runA a 0 r) hlt
    constructor
    · rintro ⟨hl, k, hk, hm⟩
      obtain ⟨h1, h2⟩ := (RW_both hb r k).1 hk
      refine ⟨fun x hx => ?_, ?_⟩
      · rcases List.mem_cons.1 hx with rfl | hx
        · exact hl
        · exact h1 x hx
      · rw [List.mem_singleton.1 hm, h2]
        unfold goB
        rw [e1, e2]
        rfl
    · rintro ⟨h1, h2⟩
      refine ⟨h1 l List.mem_cons_self, _, (RW_both hb r _).2 ⟨fun x hx => h1 x (List.mem_cons_of_mem _ hx), rfl⟩, ?_⟩
      rw [h2]
      unfold goB
      rw [e1, e2]
      exact List.mem_singleton.2 rfl
theorem isOut_auto {s t : Sy} (hs : prK s s.al = true) (ht : prK t t.al = true) (hc : cmpOk s t = true) (hal : s.al = t.al) {o : Option (List Nat)}
    (hp : PathPost (fun m => m ∈ [0]) (letters s.al) (fun q l => [goB (prA s s.al) (prA t t.al) q l]) (fun m => outB (prA s s.al) (prA t t.al) m = true) o) : IsOut s t o := by
  have hb := auOk_prA ht
  obtain ⟨hk1, x, hx, ea⟩ := prK_true hs
  obtain ⟨hk2, y, hy, eb⟩ := prK_true ht
  have hA1 := (prOk_parts hk1).2.1.1
  have hA2 := (prOk_parts hk2).2.1.1
  have hout : ∀ r, (∀ l ∈ r, l ∈ letters s.al) → (outB (prA s s.al) (prA t t.al) (runA (prA s s.al) 0 r * (prA t t.al).nx.length + runA (prA t t.al) 0 r) = true ↔ setW s r ≠ 0 ∧ setW t r = 0) := by
    intro r hr
    obtain ⟨e1, e2⟩ := pair_div (q := runA (prA s s.al) 0 r) (runA_lt hb r)
    have h1 : (prA s s.al).ac.getD (runA (prA s s.al) 0 r) false = decide (setW s r ≠ 0) := by
      rw [ea, ← prW_self hA1]
      exact accA_pr hx hr
    have h2 : (prA t t.al).ac.getD (runA (prA t t.al) 0 r) false = decide (setW t r ≠ 0) := by
      rw [eb, ← prW_self hA2]
      exact accA_pr hy (by rw [← hal]; exact hr)
    unfold outB
    rw [e1, e2, h1, h2]
    simp
  have hO : ∀ r, AG.Outside s t r ↔ ∃ m, RW (fun m => m ∈ [0]) (letters s.al) (fun q l => [goB (prA s s.al) (prA t t.al) q l]) r m ∧ outB (prA s s.al) (prA t t.al) m = true := by
    intro r
    constructor
    · rintro ⟨h1, h2⟩
      exact ⟨_, (RW_both hb r _).2 ⟨h1, rfl⟩, (hout r h1).2 h2⟩
    · rintro ⟨m, hm, hg⟩
      obtain ⟨h1, rfl⟩ := (RW_both hb r m).1 hm
      exact ⟨h1, (hout r h1).1 hg⟩
  unfold IsOut
  rw [if_pos hc]
  cases o with
  | none =>
    intro q hq
    obtain ⟨m, hm, hg⟩ := (hO q).1 hq
    exact hp q m hm hg
  | some r =>
    obtain ⟨⟨m, hm, hg⟩, hf⟩ := hp
    refine ⟨(hO r).2 ⟨m, hm, hg⟩, fun q hq => ?_⟩
    obtain ⟨k, hk, hg⟩ := (hO q).1 hq
    exact hf q k hk hg

end Go.Proofs.YtolnlkccbndkcaaDoor

/- A statement that draws its order: its first n operations read, reckon or make memory (calls that make memory among them); behind them the others come one by one. One walk in the order of the text serves every order. -/
namespace AG
open Go Go.RowKit
section
variable {P : Program} {ops : Array Oper} {md : Region.Mode} {n B : Nat} {w0 : World} {sp : Nat → Value → World → Prop} {nw : Nat → Bool}

/-- A fact that stays whatever memory is made. -/
def Steady (F : World → Prop) : Prop := ∀ w w', Below w.heap.size w w' → F w → F w'

def predsOf (md : Region.Mode) (ops : Array Oper) (j : Nat) : List Nat :=
  match ops[j]? with
  | some o => (o.after.toList.filter (Region.binds md)).map (·.on)
  | none => []
def upset (md : Region.Mode) (ops : Array Oper) : Nat → List Nat → List Nat
  | 0, S => S
  | f + 1, S => upset md ops f ((S ++ S.flatMap (predsOf md ops)).eraseDups)
/-- Operation j waits for operation k, at once or through others. -/
def depB (md : Region.Mode) (ops : Array Oper) (j k : Nat) : Bool := (upset md ops 6 (predsOf md ops j)).contains k
def dstOf (ops : Array Oper) (k : Nat) : Option Tmp := (ops[k]?).bind (·.dst)
def looksOf (ops : Array Oper) (k : Nat) : List Tmp := match ops[k]? with | some o => o.looksAt ops | none => []

def canon (ops : Array Oper) (n : Nat) : Array Bool := ((List.range ops.size).map fun k => decide (k < n)).toArray
def growB (md : Region.Mode) (ops : Array Oper) (n : Nat) : Bool :=
  Region.noSelect ops && (decide (n = ops.size) || (decide (n < ops.size) && (Region.sinkB md ops n && Region.chainB md ops n))) && Region.seqB md ops (ops.size - n) n (canon ops n) &&
  (List.range n).all fun j => (predsOf md ops j).all (fun k => decide (k < j)) && (List.range n).all fun k =>
    match dstOf ops k with
    | none => true
    | some t => (k == j || dstOf ops j != some t) && (!(looksOf ops j).contains t || (predsOf md ops j).contains k)

theorem upset_in {L : Nat → Bool} (hc : ∀ j, L j = true → ∀ k ∈ predsOf md ops j, L k = true) : ∀ (f : Nat) (S : List Nat), (∀ x ∈ S, L x = true) → ∀ x ∈ upset md ops f S, L x = true := by
  intro f
  induction f with
  | zero => intro S h; exact h
  | succ f ih =>
    intro S h
    refine ih _ fun x hx => ?_
    have hx' := List.mem_eraseDups.1 hx
    rcases List.mem_append.1 hx' with h1 | h1
    · exact h x h1
    · obtain ⟨y, hy, hxy⟩ := List.mem_flatMap.1 h1
      exact hc y (h y hy) x hxy

/-- The frame a is the frame a0 but for what the operations of S have left. -/
structure Pt (ops : Array Oper) (n : Nat) (S : Nat → Bool) (v : Nat → Value) (a0 a : Act) : Prop where
  defers : a.defers = a0.defers
  hit : ∀ k t, k < n → S k = true → dstOf ops k = some t → a.tmps[t]? = (a0.tmps[t]?).map fun _ => v k
  miss : ∀ t, (∀ k, k < n → S k = true → dstOf ops k ≠ some t) → a.tmps[t]? = a0.tmps[t]?

def ins (S : Nat → Bool) (j : Nat) : Nat → Bool := fun k => k == j || S k
def upd (v : Nat → Value) (j : Nat) (u : Value) : Nat → Value := fun k => if k = j then u else v k

theorem set_get (xs : Array Value) (t : Nat) (u : Value) : (xs.setIfInBounds t u)[t]? = (xs[t]?).map fun _ => u := by
  rw [Array.getElem?_setIfInBounds]
  by_cases h : t < xs.size
  · simp [h]
  · simp [h]

theorem Pt.put {S : Nat → Bool} {v : Nat → Value} {a0 a : Act} {j : Nat} {oj : Oper} {u : Value} (h : Pt ops n S v a0 a) (hd : ∀ i k t, i < n → k < n → dstOf ops i = some t → dstOf ops k = some t → i = k)
    (hj : j < n) (hS : S j = false) (ho : ops[j]? = some oj) : Pt ops n (ins S j) (upd v j u) a0 (a.put oj.dst u) := by
  have hdj : dstOf ops j = oj.dst := by simp [dstOf, ho]
  have hsk : ∀ k, S k = true → k ≠ j := fun k hk e => by rw [e, hS] at hk; cases hk
  refine ⟨?_, fun k t hk hSk hdk => ?_, fun t hm => ?_⟩
  · cases oj.dst <;> exact h.defers
  · by_cases e : k = j
    · subst e
      have hm := h.miss t fun i hi hSi hdi => hsk i hSi (hd i k t hi hk hdi hdk)
      rw [hdj] at hdk
      simp only [hdk, Act.put, upd, if_true]
      rw [set_get, hm]
    · have hSk' : S k = true := by simpa [ins, e] using hSk
      have hh := h.hit k t hk hSk' hdk
      simp only [upd, if_neg e]
      rw [← hh]
      cases hdd : oj.dst with
      | none => rfl
      | some d =>
        have hne : d ≠ t := fun e' => by subst e'; exact e (hd k j d hk hj hdk (by rw [hdj, hdd]))
        simp only [Act.put]
        rw [Array.getElem?_setIfInBounds_ne hne]
  · have h1 := h.miss t fun k hk hSk => hm k hk (by simp [ins, hSk])
    rw [← h1]
    cases hdd : oj.dst with
    | none => rfl
    | some d =>
      have hne : d ≠ t := fun e' => by subst e'; exact hm j hj (by simp [ins]) (by rw [hdj, hdd])
      simp only [Act.put]
      rw [Array.getElem?_setIfInBounds_ne hne]

theorem Pt.agree {S S' : Nat → Bool} {v v' : Nat → Value} {a0 a a' : Act} (h : Pt ops n S v a0 a) (h' : Pt ops n S' v' a0 a') {t : Nat}
    (ht : ∀ k, k < n → dstOf ops k = some t → S k = S' k ∧ (S k = true → v k = v' k)) : a.tmps[t]? = a'.tmps[t]? := by
  by_cases e : ∃ k, k < n ∧ S k = true ∧ dstOf ops k = some t
  · obtain ⟨k, hk, hS, hd⟩ := e
    obtain ⟨h1, h2⟩ := ht k hk hd
    rw [h.hit k t hk hS hd, h'.hit k t hk (h1 ▸ hS) hd, h2 hS]
  · rw [h.miss t fun k hk hS hd => e ⟨k, hk, hS, hd⟩, h'.miss t fun k hk hS hd => e ⟨k, hk, by rw [(ht k hk hd).1]; exact hS, hd⟩]

theorem look_same {a a' : Act} {o : Oper} (hs : ∀ cs b, o.op ≠ .select cs b) (h : ∀ t ∈ o.looksAt ops, a.tmps[t]? = a'.tmps[t]?) :
    execOp a.eval o = execOp a'.eval o ∧ Region.wanted o (yielded ops a.tmps) = Region.wanted o (yielded ops a'.tmps) := by
  refine ⟨execOp_congr o hs fun x hx => ?_, ?_⟩
  · cases x with
    | tmp t =>
      have := h t (List.mem_append_left _ (List.mem_filterMap.2 ⟨.tmp t, by simpa using hx, rfl⟩))
      simp only [Act.eval, Array.getD_eq_getD_getElem?, this]
    | _ => rfl
  · unfold Region.wanted
    cases hg : o.guard with
    | none => rfl
    | some gw =>
      obtain ⟨g, want⟩ := gw
      have hy : yielded ops a.tmps g = yielded ops a'.tmps g := by
        unfold yielded
        cases ht : (ops[g]?).bind (·.dst) with
        | none => rfl
        | some t =>
          have := h t (by simp [Oper.looksAt, hg, ht])
          simp only [Option.bind_some, this]
      simp only [hy]

/-- The block that a pointer or a slice leads to. -/
def blockOf : Value → Option Nat
  | .pointer (some a) => some a.block
  | .slice (some a) _ _ => some a.block
  | _ => none
/-- What an operation that calls no Go function yields. -/
def fnUpon (Z : Value → World → Prop) : Result Next → Prop
  | .ok (.value u) w' => Z u w'
  | .ok .skip w' => Z undef w'
  | _ => False
/-- What a call of a Go function yields. -/
def callUpon (P : Program) (w : World) (R : Ending → World → Prop) : Result Next → Prop
  | .ok (.enter f args) w' => w' = w ∧ Calls P f args w R
  | _ => False
def FactsAt (md : Region.Mode) (ops : Array Oper) (i : Nat) (Γ : List (Nat × (World → Prop))) (w : World) : Prop := ∀ p ∈ Γ, depB md ops i p.1 = true → p.2 w

/-- The walk in the order of the text; L: the operations that have been carried out already (none, for who walks). -/
def Res (P : Program) (md : Region.Mode) (ops : Array Oper) (B : Nat) (w0 : World) (sp : Nat → Value → World → Prop) (nw : Nat → Bool) (L : Nat → Bool) (val : Nat → Value) (wr : World)
    (Q : List (Nat × (World → Prop)) → Act → Prop) : List Oper → Nat → List (Nat × (World → Prop)) → Act → Prop
  | [], _, Γ, a => Q Γ a
  | o :: rest, i, Γ, a =>
    if Region.wanted o (yielded ops a.tmps) = true then
      (∃ v, nw i = false ∧ (∀ w, Below B w0 w → fnUpon (fun u w' => u = v ∧ w' = w) ((execOp a.eval o).run P w)) ∧ (L i = true → val i = v) ∧ Res P md ops B w0 sp nw L val wr Q rest (i + 1) Γ (a.put o.dst v)) ∨
      (∃ Z : Value → World → Prop, (∀ u, Steady (Z u)) ∧ (∀ w, Below B w0 w → FactsAt md ops i Γ w → fnUpon (fun u w' => (Below w.heap.size w w' ∧ (nw i = true → blockOf u = some w.heap.size ∧ w.heap.size < w'.heap.size)) ∧ Z u w') ((execOp a.eval o).run P w)) ∧ (L i = true → Z (val i) wr) ∧
        ∀ u, (L i = true → u = val i) → (L i = false → ∃ w', Below B w0 w' ∧ Z u w') → Res P md ops B w0 sp nw L val wr Q rest (i + 1) ((i, Z u) :: Γ) (a.put o.dst u)) ∨
      (nw i = false ∧ (∀ u, Steady (sp i u)) ∧ (∀ w, Below B w0 w → FactsAt md ops i Γ w → callUpon P w (fun e w' => ∃ u, e = .returned u ∧ Below w.heap.size w w' ∧ sp i u w') ((execOp a.eval o).run P w)) ∧ (L i = true → sp i (val i) wr) ∧
        ∀ u, (L i = true → u = val i) → (L i = false → ∃ w', Below B w0 w' ∧ sp i u w') → Res P md ops B w0 sp nw L val wr Q rest (i + 1) ((i, sp i u) :: Γ) (a.put o.dst u))
    else nw i = false ∧ (L i = true → val i = undef) ∧ Res P md ops B w0 sp nw L val wr Q rest (i + 1) Γ (a.put o.dst undef)

variable {Q : List (Nat × (World → Prop)) → Act → Prop}

/-- Behind the place of what was carried out last: only the world has moved on. -/
theorem Res.later {L L' : Nat → Bool} {val val' : Nat → Value} {wr w1 : World} (hb : Below wr.heap.size wr w1) : ∀ (l : List Oper) (i : Nat) (Γ : List (Nat × (World → Prop))) (a : Act),
    (∀ k, i ≤ k → L' k = L k ∧ val' k = val k) → Res P md ops B w0 sp nw L val wr Q l i Γ a → Res P md ops B w0 sp nw L' val' w1 Q l i Γ a := by
  intro l
  induction l with
  | nil => intro i Γ a _ h; exact h
  | cons o rest ih =>
    intro i Γ a he h
    obtain ⟨hL, hv⟩ := he i (Nat.le_refl i)
    have he' : ∀ k, i + 1 ≤ k → L' k = L k ∧ val' k = val k := fun k hk => he k (by omega)
    unfold Res at h ⊢
    rw [hL, hv]
    split
    · rename_i hw
      rw [if_pos hw] at h
      rcases h with ⟨v, hnw, h1, h2, h3⟩ | ⟨Z, hs, h1, h2, h3⟩ | ⟨hnw, hs, h1, h2, h3⟩
      · exact .inl ⟨v, hnw, h1, h2, ih _ _ _ he' h3⟩
      · exact .inr (.inl ⟨Z, hs, h1, fun h => hs _ _ _ hb (h2 h), fun u hu hu' => ih _ _ _ he' (h3 u hu hu')⟩)
      · exact .inr (.inr ⟨hnw, hs, h1, fun h => hs _ _ _ hb (h2 h), fun u hu hu' => ih _ _ _ he' (h3 u hu hu')⟩)
    · rename_i hw
      rw [if_neg hw] at h
      exact ⟨h.1, h.2.1, ih _ _ _ he' h.2.2⟩

/-- What the check says. -/
structure GrowOk (md : Region.Mode) (ops : Array Oper) (n : Nat) : Prop where
  sel : Region.noSelect ops = true
  size : n ≤ ops.size
  tail : n = ops.size ∨ (n < ops.size ∧ Region.sinkB md ops n = true ∧ Region.chainB md ops n = true)
  seq : Region.seqB md ops (ops.size - n) n (canon ops n) = true
  back : ∀ j, j < n → ∀ k ∈ predsOf md ops j, k < j
  one : ∀ i k t, i < n → k < n → dstOf ops i = some t → dstOf ops k = some t → i = k
  seen : ∀ j k t, j < n → k < n → dstOf ops k = some t → t ∈ looksOf ops j → k ∈ predsOf md ops j

theorem growB_ok (h : growB md ops n = true) : GrowOk md ops n := by
  unfold growB at h
  simp only [Bool.and_eq_true, Bool.or_eq_true, decide_eq_true_eq] at h
  obtain ⟨⟨⟨h1, h2⟩, h3⟩, h4⟩ := h
  have key : ∀ j, j < n → _ := fun j hj => List.all_eq_true.1 h4 j (List.mem_range.2 hj)
  simp only [Bool.and_eq_true] at key
  refine ⟨h1, by rcases h2 with h2 | h2 <;> omega, by simpa using h2, h3, fun j hj k hk => by simpa using List.all_eq_true.1 (key j hj).1 k hk, fun i k t hi hk hdi hdk => ?_, fun j k t hj hk hd ht => ?_⟩
  · have := List.all_eq_true.1 (key i hi).2 k (List.mem_range.2 hk)
    simp only [hdk, hdi, Bool.and_eq_true, Bool.or_eq_true, beq_iff_eq, bne_self_eq_false, Bool.false_eq_true, or_false] at this
    exact this.1.symm
  · have := List.all_eq_true.1 (key j hj).2 k (List.mem_range.2 hk)
    simp only [hd, Bool.and_eq_true, Bool.or_eq_true] at this
    rcases this.2 with h | h
    · simp [ht] at h
    · simpa using h

/-- The frames of two ways look the same to an operation whose callers have all come up. -/
theorem GrowOk.same {L : Nat → Bool} {val vh : Nat → Value} {a0 ar a : Act} {j : Nat} {oj : Oper} (g : GrowOk md ops n) (hr : Pt ops n L val a0 ar) (hl : Pt ops n (fun k => decide (k < j)) vh a0 a) (hj : j < n)
    (ho : ops[j]? = some oj) (hp : ∀ k ∈ predsOf md ops j, L k = true) (hv : ∀ k, k < j → L k = true → vh k = val k) :
    execOp a.eval oj = execOp ar.eval oj ∧ Region.wanted oj (yielded ops a.tmps) = Region.wanted oj (yielded ops ar.tmps) := by
  refine look_same (Region.noSelect_spec g.sel j oj · · ho) fun t ht => hl.agree hr fun k hk hd => ?_
  have hm := g.seen j k t hj hk hd (by simpa [looksOf, ho] using ht)
  have hlt := g.back j hj k hm
  have hLk := hp k hm
  exact ⟨by simp [hlt, hLk], fun _ => hv k hlt hLk⟩

/-- Some way leads to operation j. -/
theorem Res.reach {L : Nat → Bool} {val : Nat → Value} {wr : World} {a0 : Act} {j : Nat} {oj : Oper} (g : GrowOk md ops n) (hBw : B ≤ w0.heap.size) (hj : j < n) (ho : ops[j]? = some oj) :
    ∀ (l : List Oper) (i : Nat) (Γ : List (Nat × (World → Prop))) (a : Act) (vh : Nat → Value) (wh : World), (∀ m, m < l.length → l[m]? = ops[i + m]?) → i + l.length = n → i ≤ j → Res P md ops B w0 sp nw L val wr Q l i Γ a →
      Pt ops n (fun k => decide (k < i)) vh a0 a → (∀ k, k < i → L k = true → vh k = val k) → (∀ p ∈ Γ, Steady p.2) → (∀ p ∈ Γ, L p.1 = true → p.2 wr) → Below wr.heap.size wr wh → Below B w0 wh → (∀ p ∈ Γ, p.2 wh) →
      ∃ rest Γj aj vj, Res P md ops B w0 sp nw L val wr Q (oj :: rest) j Γj aj ∧ Pt ops n (fun k => decide (k < j)) vj a0 aj ∧ (∀ k, k < j → L k = true → vj k = val k) ∧ (∀ p ∈ Γj, L p.1 = true → p.2 wr) := by
  intro l
  induction l with
  | nil => intro i Γ a vh wh _ hn hij; simp at hn; omega
  | cons o rest ih =>
    intro i Γ a vh wh hl hn hij h hpt hv hst hlr hrh hBh hfh
    have hio : ops[i]? = some o := by simpa using (hl 0 (by simp)).symm
    by_cases e : i = j
    · subst e
      obtain rfl : o = oj := Option.some.inj (hio.symm.trans ho)
      exact ⟨rest, Γ, a, vh, h, hpt, hv, hlr⟩
    · have hlt : i < j := by omega
      have hin : i < n := by omega
      have hl' : ∀ m, m < rest.length → rest[m]? = ops[i + 1 + m]? := fun m hm => by
        have := hl (m + 1) (by simp; omega)
        simpa [Nat.add_assoc, Nat.add_comm 1 m] using this
      have hn' : i + 1 + rest.length = n := by simp at hn; omega
      have hput : ∀ u, Pt ops n (fun k => decide (k < i + 1)) (upd vh i u) a0 (a.put o.dst u) := fun u => by
        have := hpt.put (u := u) g.one hin (by simp) hio
        have e2 : ins (fun k => decide (k < i)) i = fun k => decide (k < i + 1) := by
          funext k; simp only [ins]; rw [Bool.eq_iff_iff]; simp; omega
        rwa [e2] at this
      have hvu : ∀ u, (L i = true → u = val i) → ∀ k, k < i + 1 → L k = true → upd vh i u k = val k := fun u hu k hk hLk => by
        unfold upd
        by_cases e : k = i
        · subst e; rw [if_pos rfl]; exact hu hLk
        · rw [if_neg e]; exact hv k (by omega) hLk
      unfold Res at h
      split at h
      · rcases h with ⟨v, hnw, h1, h2, h3⟩ | ⟨Z, hs, h1, h2, h3⟩ | ⟨hnw, hs, h1, h2, h3⟩
        · exact ih _ _ _ _ wh hl' hn' (by omega) h3 (hput v) (hvu v fun h => (h2 h).symm) hst hlr hrh hBh hfh
        · cases hLi : L i with
          | true =>
            refine ih _ _ _ _ wh hl' hn' (by omega) (h3 (val i) (fun _ => rfl) (fun h => by rw [hLi] at h; cases h)) (hput _) (hvu _ fun _ => rfl) ?_ ?_ hrh hBh ?_
            · exact fun p hp => by rcases List.mem_cons.1 hp with rfl | hp; exact hs _; exact hst p hp
            · exact fun p hp hL => by rcases List.mem_cons.1 hp with rfl | hp; exact h2 hLi; exact hlr p hp hL
            · exact fun p hp => by rcases List.mem_cons.1 hp with rfl | hp; exact hs _ _ _ hrh (h2 hLi); exact hfh p hp
          | false =>
            have hx := h1 wh hBh fun p hp _ => hfh p hp
            have hgo : ∀ u w', Below wh.heap.size wh w' ∧ Z u w' → _ := fun u w' hz =>
              ih (i + 1) ((i, Z u) :: Γ) (a.put o.dst u) (upd vh i u) w' hl' hn' (by omega) (h3 u (fun h => by rw [hLi] at h; cases h) (fun _ => ⟨w', hBh.trans (hz.1.mono (Nat.le_trans hBw hBh.size)), hz.2⟩)) (hput u)
                (hvu u fun h => by rw [hLi] at h; cases h) (fun p hp => by rcases List.mem_cons.1 hp with rfl | hp; exact hs _; exact hst p hp)
                (fun p hp hL => by rcases List.mem_cons.1 hp with rfl | hp; (rw [hLi] at hL; cases hL); exact hlr p hp hL) (hrh.trans (hz.1.mono hrh.size)) (hBh.trans (hz.1.mono (Nat.le_trans hBw hBh.size)))
                (fun p hp => by rcases List.mem_cons.1 hp with rfl | hp; exact hz.2; exact hst p hp _ _ hz.1 (hfh p hp))
            generalize (execOp a.eval o).run P wh = r at hx
            cases r with
            | ok x w' => cases x <;> simp only [fnUpon] at hx <;> exact hgo _ _ ⟨hx.1.1, hx.2⟩
            | halt x w' => exact hx.elim
        · cases hLi : L i with
          | true =>
            refine ih _ _ _ _ wh hl' hn' (by omega) (h3 (val i) (fun _ => rfl) (fun h => by rw [hLi] at h; cases h)) (hput _) (hvu _ fun _ => rfl) ?_ ?_ hrh hBh ?_
            · exact fun p hp => by rcases List.mem_cons.1 hp with rfl | hp; exact hs _; exact hst p hp
            · exact fun p hp hL => by rcases List.mem_cons.1 hp with rfl | hp; exact h2 hLi; exact hlr p hp hL
            · exact fun p hp => by rcases List.mem_cons.1 hp with rfl | hp; exact hs _ _ _ hrh (h2 hLi); exact hfh p hp
          | false =>
            have hx := h1 wh hBh fun p hp _ => hfh p hp
            have hgo : ∀ u w', Below wh.heap.size wh w' ∧ sp i u w' → _ := fun u w' hz =>
              ih (i + 1) ((i, sp i u) :: Γ) (a.put o.dst u) (upd vh i u) w' hl' hn' (by omega) (h3 u (fun h => by rw [hLi] at h; cases h) (fun _ => ⟨w', hBh.trans (hz.1.mono (Nat.le_trans hBw hBh.size)), hz.2⟩)) (hput u)
                (hvu u fun h => by rw [hLi] at h; cases h) (fun p hp => by rcases List.mem_cons.1 hp with rfl | hp; exact hs _; exact hst p hp)
                (fun p hp hL => by rcases List.mem_cons.1 hp with rfl | hp; (rw [hLi] at hL; cases hL); exact hlr p hp hL) (hrh.trans (hz.1.mono hrh.size)) (hBh.trans (hz.1.mono (Nat.le_trans hBw hBh.size)))
                (fun p hp => by rcases List.mem_cons.1 hp with rfl | hp; exact hz.2; exact hst p hp _ _ hz.1 (hfh p hp))
            generalize (execOp a.eval o).run P wh = r at hx
            cases r with
            | ok x w' =>
              cases x <;> simp only [callUpon] at hx
              obtain ⟨_, hc⟩ := hx
              obtain ⟨e', w'', _, ⟨u, _, hz⟩, _⟩ := hc []
              exact hgo u w'' hz
            | halt x w' => exact hx.elim
      · exact ih _ _ _ _ wh hl' hn' (by omega) h.2.2 (hput undef) (hvu undef fun hL => (h.2.1 hL).symm) hst hlr hrh hBh hfh

/-- What operation j, carried out in the frame ar and the world wr, leaves. -/
def Outc (P : Program) (ops : Array Oper) (sp : Nat → Value → World → Prop) (j : Nat) (oj : Oper) (ar : Act) (wr : World) (u : Value) (w1 : World) : Prop :=
  if Region.wanted oj (yielded ops ar.tmps) = true then
    match (execOp ar.eval oj).run P wr with
    | .ok (.value v) w' => v = u ∧ w' = w1
    | .ok .skip w' => undef = u ∧ w' = w1
    | .ok (.enter _ _) _ => sp j u w1
    | _ => False
  else undef = u ∧ wr = w1

theorem Res.mark {L : Nat → Bool} {val : Nat → Value} {wr w1 : World} {a0 ar : Act} {j : Nat} {oj : Oper} {u : Value} (g : GrowOk md ops n) (hj : j < n) (ho : ops[j]? = some oj) (hLj : L j = false)
    (hp : ∀ k ∈ predsOf md ops j, L k = true) (hdep : ∀ k, depB md ops j k = true → L k = true) (hr : Pt ops n L val a0 ar) (hBr : Below B w0 wr) (hb : Below wr.heap.size wr w1) (hB1 : Below B w0 w1) (hout : Outc P ops sp j oj ar wr u w1) :
    ∀ (l : List Oper) (i : Nat) (Γ : List (Nat × (World → Prop))) (a : Act) (vh : Nat → Value), (∀ m, m < l.length → l[m]? = ops[i + m]?) → i + l.length = n → i ≤ j → Res P md ops B w0 sp nw L val wr Q l i Γ a →
      Pt ops n (fun k => decide (k < i)) vh a0 a → (∀ k, k < i → L k = true → vh k = val k) → (∀ p ∈ Γ, L p.1 = true → p.2 wr) → Res P md ops B w0 sp nw (ins L j) (upd val j u) w1 Q l i Γ a := by
  intro l
  induction l with
  | nil => intro i Γ a vh _ hn hij; simp at hn; omega
  | cons o rest ih =>
    intro i Γ a vh hl hn hij h hpt hv hlr
    have hio : ops[i]? = some o := by simpa using (hl 0 (by simp)).symm
    by_cases e : i = j
    · subst e
      obtain rfl : o = oj := Option.some.inj (hio.symm.trans ho)
      obtain ⟨hex, hwt⟩ := g.same hr hpt hj ho hp hv
      have hins : ins L i i = true := by simp [ins]
      have hupd : upd val i u i = u := by simp [upd]
      have hafter : ∀ k, i + 1 ≤ k → ins L i k = L k ∧ upd val i u k = val k := fun k hk => by
        have : k ≠ i := by omega
        simp [ins, upd, this]
      have hF : FactsAt md ops i Γ wr := fun p hp' hd => hlr p hp' (hdep _ hd)
      unfold Res at h ⊢
      rw [hins, hupd]
      unfold Outc at hout
      rw [← hex, ← hwt] at hout
      split
      · rename_i hw
        rw [if_pos hw] at h hout
        rcases h with ⟨v, hnw, h1, h2, h3⟩ | ⟨Z, hs, h1, h2, h3⟩ | ⟨hnw, hs, h1, h2, h3⟩
        · have hx := h1 wr hBr
          have huv : u = v := by
            generalize (execOp a.eval o).run P wr = r at hx hout
            cases r with
            | ok x w' => cases x <;> simp only [fnUpon] at hx <;> simp only at hout <;> rw [← hout.1, hx.1]
            | halt x w' => exact hx.elim
          exact .inl ⟨v, hnw, h1, fun _ => huv, h3.later hb _ _ _ _ hafter⟩
        · have hx := h1 wr hBr hF
          have hz : Z u w1 := by
            generalize (execOp a.eval o).run P wr = r at hx hout
            cases r with
            | ok x w' => cases x <;> simp only [fnUpon] at hx <;> simp only at hout <;> (obtain ⟨rfl, rfl⟩ := hout; exact hx.2)
            | halt x w' => exact hx.elim
          refine .inr (.inl ⟨Z, hs, h1, fun _ => hz, fun u' hu' _ => ?_⟩)
          obtain rfl := hu' rfl
          exact (h3 u' (fun h => by rw [hLj] at h; cases h) (fun _ => ⟨w1, hB1, hz⟩)).later hb _ _ _ _ hafter
        · have hx := h1 wr hBr hF
          have hz : sp i u w1 := by
            generalize (execOp a.eval o).run P wr = r at hx hout
            cases r with
            | ok x w' => cases x <;> simp only [callUpon] at hx; exact hout
            | halt x w' => exact hx.elim
          refine .inr (.inr ⟨hnw, hs, h1, fun _ => hz, fun u' hu' _ => ?_⟩)
          obtain rfl := hu' rfl
          exact (h3 u' (fun h => by rw [hLj] at h; cases h) (fun _ => ⟨w1, hB1, hz⟩)).later hb _ _ _ _ hafter
      · rename_i hw
        rw [if_neg hw] at h hout
        exact ⟨h.1, fun _ => hout.1.symm, h.2.2.later hb _ _ _ _ hafter⟩
    · have hlt : i < j := by omega
      have hin : i < n := by omega
      have hl' : ∀ m, m < rest.length → rest[m]? = ops[i + 1 + m]? := fun m hm => by
        have := hl (m + 1) (by simp; omega)
        simpa [Nat.add_assoc, Nat.add_comm 1 m] using this
      have hn' : i + 1 + rest.length = n := by simp at hn; omega
      have hput : ∀ u, Pt ops n (fun k => decide (k < i + 1)) (upd vh i u) a0 (a.put o.dst u) := fun u => by
        have := hpt.put (u := u) g.one hin (by simp) hio
        have e2 : ins (fun k => decide (k < i)) i = fun k => decide (k < i + 1) := by
          funext k; simp only [ins]; rw [Bool.eq_iff_iff]; simp; omega
        rwa [e2] at this
      have hvu : ∀ u, (L i = true → u = val i) → ∀ k, k < i + 1 → L k = true → upd vh i u k = val k := fun u hu k hk hLk => by
        unfold upd
        by_cases e : k = i
        · subst e; rw [if_pos rfl]; exact hu hLk
        · rw [if_neg e]; exact hv k (by omega) hLk
      have hins : ins L j i = L i := by simp [ins, e]
      have hupd : upd val j u i = val i := by simp [upd, e]
      unfold Res at h ⊢
      rw [hins, hupd]
      split
      · rename_i hw
        rw [if_pos hw] at h
        rcases h with ⟨v, hnw, h1, h2, h3⟩ | ⟨Z, hs, h1, h2, h3⟩ | ⟨hnw, hs, h1, h2, h3⟩
        · exact .inl ⟨v, hnw, h1, h2, ih _ _ _ _ hl' hn' (by omega) h3 (hput v) (hvu v fun h => (h2 h).symm) hlr⟩
        · exact .inr (.inl ⟨Z, hs, h1, fun h => hs _ _ _ hb (h2 h), fun u' hu hu' => ih _ _ _ _ hl' hn' (by omega) (h3 u' hu hu') (hput u') (hvu u' hu) fun p hp hL => by
            rcases List.mem_cons.1 hp with rfl | hp
            · rw [hu hL]; exact h2 hL
            · exact hlr p hp hL⟩)
        · exact .inr (.inr ⟨hnw, hs, h1, fun h => hs _ _ _ hb (h2 h), fun u' hu hu' => ih _ _ _ _ hl' hn' (by omega) (h3 u' hu hu') (hput u') (hvu u' hu) fun p hp hL => by
            rcases List.mem_cons.1 hp with rfl | hp
            · rw [hu hL]; exact h2 hL
            · exact hlr p hp hL⟩)
      · rename_i hw
        rw [if_neg hw] at h
        exact ⟨h.1, h.2.1, ih _ _ _ _ hl' hn' (by omega) h.2.2 (hput undef) (hvu undef fun hL => (h.2.1 hL).symm) hlr⟩

/-- All have come up. -/
theorem Res.over {L : Nat → Bool} {val : Nat → Value} {wr : World} {a0 : Act} (g : GrowOk md ops n) (hL : ∀ k, k < n → L k = true) :
    ∀ (l : List Oper) (i : Nat) (Γ : List (Nat × (World → Prop))) (a : Act) (vh : Nat → Value), (∀ m, m < l.length → l[m]? = ops[i + m]?) → i + l.length = n → Res P md ops B w0 sp nw L val wr Q l i Γ a →
      Pt ops n (fun k => decide (k < i)) vh a0 a → (∀ k, k < i → vh k = val k) → (∀ p ∈ Γ, p.2 wr) → ∃ Γ' a' vh', Q Γ' a' ∧ Pt ops n (fun k => decide (k < n)) vh' a0 a' ∧ (∀ k, k < n → vh' k = val k) ∧ ∀ p ∈ Γ', p.2 wr := by
  intro l
  induction l with
  | nil =>
    intro i Γ a vh _ hn h hpt hv hf
    obtain rfl : i = n := by simpa using hn
    exact ⟨Γ, a, vh, h, hpt, hv, hf⟩
  | cons o rest ih =>
    intro i Γ a vh hl hn h hpt hv hf
    have hio : ops[i]? = some o := by simpa using (hl 0 (by simp)).symm
    have hin : i < n := by simp at hn; omega
    have hLi := hL i hin
    have hl' : ∀ m, m < rest.length → rest[m]? = ops[i + 1 + m]? := fun m hm => by
      have := hl (m + 1) (by simp; omega)
      simpa [Nat.add_assoc, Nat.add_comm 1 m] using this
    have hn' : i + 1 + rest.length = n := by simp at hn; omega
    have hput : ∀ u, Pt ops n (fun k => decide (k < i + 1)) (upd vh i u) a0 (a.put o.dst u) := fun u => by
      have := hpt.put (u := u) g.one hin (by simp) hio
      have e2 : ins (fun k => decide (k < i)) i = fun k => decide (k < i + 1) := by
        funext k; simp only [ins]; rw [Bool.eq_iff_iff]; simp; omega
      rwa [e2] at this
    have hvu : ∀ u, u = val i → ∀ k, k < i + 1 → upd vh i u k = val k := fun u hu k hk => by
      unfold upd
      by_cases e : k = i
      · subst e; rw [if_pos rfl]; exact hu
      · rw [if_neg e]; exact hv k (by omega)
    unfold Res at h
    split at h
    · rcases h with ⟨v, hnw, h1, h2, h3⟩ | ⟨Z, hs, h1, h2, h3⟩ | ⟨hnw, hs, h1, h2, h3⟩
      · exact ih _ _ _ _ hl' hn' h3 (hput v) (hvu v (h2 hLi).symm) hf
      · exact ih _ _ _ _ hl' hn' (h3 (val i) (fun _ => rfl) (fun h => by rw [hLi] at h; cases h)) (hput _) (hvu _ rfl) fun p hp => by
          rcases List.mem_cons.1 hp with rfl | hp
          exact h2 hLi; exact hf p hp
      · exact ih _ _ _ _ hl' hn' (h3 (val i) (fun _ => rfl) (fun h => by rw [hLi] at h; cases h)) (hput _) (hvu _ rfl) fun p hp => by
          rcases List.mem_cons.1 hp with rfl | hp
          exact h2 hLi; exact hf p hp
    · exact ih _ _ _ _ hl' hn' h.2.2 (hput undef) (hvu undef (h.2.1 hLi).symm) hf

/-- One operation comes up. -/
theorem Res.step {Qx : Exit → Act → World → Prop} {L : Nat → Bool} {val : Nat → Value} {wr : World} {a0 ar : Act} {j : Nat} {oj : Oper} {l : List Oper} (g : GrowOk md ops n) (hBw : B ≤ w0.heap.size) (hj : j < n) (ho : ops[j]? = some oj)
    (hLj : L j = false) (hp : ∀ k ∈ predsOf md ops j, L k = true) (hdep : ∀ k, depB md ops j k = true → L k = true) (hr : Pt ops n L val a0 ar) (hBr : Below B w0 wr) (hl : ∀ m, m < l.length → l[m]? = ops[m]?) (hn : l.length = n)
    (h : Res P md ops B w0 sp nw L val wr Q l 0 [] a0) :
    wpOp P ops Qx j (fun a' w' => ∃ u, a' = ar.put oj.dst u ∧ (Below wr.heap.size wr w' ∧ (nw j = true → blockOf u = some wr.heap.size ∧ wr.heap.size < w'.heap.size)) ∧ Below B w0 w' ∧ Res P md ops B w0 sp nw (ins L j) (upd val j u) w' Q l 0 [] a0) ar wr := by
  have pt0 : ∀ v, Pt ops n (fun k => decide (k < 0)) v a0 a0 := fun v => ⟨rfl, fun k t _ hS => by simp at hS, fun _ _ => rfl⟩
  have hl0 : ∀ m, m < l.length → l[m]? = ops[0 + m]? := fun m hm => by rw [Nat.zero_add]; exact hl m hm
  have after : ∀ u w1, Below wr.heap.size wr w1 → (nw j = true → blockOf u = some wr.heap.size ∧ wr.heap.size < w1.heap.size) → Outc P ops sp j oj ar wr u w1 → (∃ u', ar.put oj.dst u = ar.put oj.dst u' ∧ (Below wr.heap.size wr w1 ∧ (nw j = true → blockOf u' = some wr.heap.size ∧ wr.heap.size < w1.heap.size)) ∧ Below B w0 w1 ∧ Res P md ops B w0 sp nw (ins L j) (upd val j u') w1 Q l 0 [] a0) := fun u w1 hb hbl hout => by
    have hB1 : Below B w0 w1 := hBr.trans (hb.mono (Nat.le_trans hBw hBr.size))
    exact ⟨u, rfl, ⟨hb, hbl⟩, hB1, h.mark g hj ho hLj hp hdep hr hBr hb hB1 hout l 0 [] a0 val hl0 (by omega) (Nat.zero_le _) (pt0 _) (fun k hk => by omega) (fun p hp => by cases hp)⟩
  obtain ⟨rest, Γ, a, vh, hres, hpt, hv, hlr⟩ := h.reach (j := j) g hBw hj ho l 0 [] a0 val wr hl0 (by omega) (Nat.zero_le _) (pt0 _) (fun k hk => by omega) (fun p hp => by cases hp) (fun p hp => by cases hp) (Below.refl _ _) hBr (fun p hp => by cases hp)
  obtain ⟨hex, hwt⟩ := g.same hr hpt hj ho hp hv
  have hF : FactsAt md ops j Γ wr := fun p hp' hd => hlr p hp' (hdep _ hd)
  unfold wpOp
  simp only [ho]
  unfold Res at hres
  rw [hex, hwt] at hres
  split
  · rename_i hw
    rw [if_pos hw] at hres
    refine .inl ?_
    unfold Oper.wp
    have hout : ∀ u w1, (match (execOp ar.eval oj).run P wr with | .ok (.value v) w' => v = u ∧ w' = w1 | .ok .skip w' => undef = u ∧ w' = w1 | .ok (.enter _ _) _ => sp j u w1 | _ => False) → Outc P ops sp j oj ar wr u w1 := fun u w1 h => by
      unfold Outc; rw [if_pos hw]; exact h
    rcases hres with ⟨v, hnw, h1, h2, h3⟩ | ⟨Z, hs, h1, h2, h3⟩ | ⟨hnw, hs, h1, h2, h3⟩
    · have hx := h1 wr hBr
      cases hrun : (execOp ar.eval oj).run P wr with
      | ok x w' =>
        rw [hrun] at hx hout
        cases x <;> simp only [fnUpon] at hx <;> simp only [Oper.upon]
        case value v' => exact after _ _ (by rw [hx.2]; exact Below.refl _ _) (fun h => by rw [hnw] at h; cases h) (hout _ _ ⟨rfl, rfl⟩)
        case skip => exact after _ _ (by rw [hx.2]; exact Below.refl _ _) (fun h => by rw [hnw] at h; cases h) (hout _ _ ⟨rfl, rfl⟩)
      | halt x w' => rw [hrun] at hx; exact hx.elim
    · have hx := h1 wr hBr hF
      cases hrun : (execOp ar.eval oj).run P wr with
      | ok x w' =>
        rw [hrun] at hx hout
        cases x <;> simp only [fnUpon] at hx <;> simp only [Oper.upon]
        case value v' => exact after _ _ hx.1.1 hx.1.2 (hout _ _ ⟨rfl, rfl⟩)
        case skip => exact after _ _ hx.1.1 hx.1.2 (hout _ _ ⟨rfl, rfl⟩)
      | halt x w' => rw [hrun] at hx; exact hx.elim
    · have hx := h1 wr hBr hF
      cases hrun : (execOp ar.eval oj).run P wr with
      | ok x w' =>
        rw [hrun] at hx hout
        cases x <;> simp only [callUpon] at hx
        simp only [Oper.upon]
        obtain ⟨rfl, hc⟩ := hx
        exact hc.mono fun e w'' ⟨u, he, hb, hz⟩ => by subst he; exact after u w'' hb (fun h => by rw [hnw] at h; cases h) (hout _ _ hz)
      | halt x w' => rw [hrun] at hx; exact hx.elim
  · rename_i hw
    rw [if_neg hw] at hres
    exact after _ _ (Below.refl _ _) (fun h => by rw [hres.1] at h; cases h) (by unfold Outc; rw [if_neg hw]; exact ⟨rfl, rfl⟩)

theorem count_off : ∀ (n : Nat) (p : Nat → Bool) (j : Nat), j < n → p j = true → (List.range n).countP (fun k => p k && k != j) + 1 = (List.range n).countP p := by
  intro n
  induction n with
  | zero => intro p j hj; omega
  | succ n ih =>
    intro p j hj hp
    rw [List.range_succ, List.countP_append, List.countP_append]
    by_cases e : j = n
    · subst e
      have h1 : (List.range j).countP (fun k => p k && k != j) = (List.range j).countP p := List.countP_congr fun k hk => by
        have : k ≠ j := by have := List.mem_range.1 hk; omega
        simp [this]
      rw [h1]
      simp [hp]
    · have := ih p j (by omega) hp
      have h2 : n ≠ j := fun h => e h.symm
      have h3 : [n].countP (fun k => p k && k != j) = [n].countP p := by simp [List.countP_cons, h2]
      rw [h3]
      omega

theorem least_of {p : Nat → Bool} : ∀ k, p k = true → ∃ m, m ≤ k ∧ p m = true ∧ ∀ i, i < m → p i = false := by
  intro k
  induction k using Nat.strongRecOn with
  | _ k ih =>
    intro hk
    by_cases h : ∃ i, i < k ∧ p i = true
    · obtain ⟨i, hi, hpi⟩ := h
      obtain ⟨m, hm, h1, h2⟩ := ih i hi hpi
      exact ⟨m, by omega, h1, h2⟩
    · exact ⟨k, Nat.le_refl _, hk, fun i hi => by cases hpi : p i; rfl; exact absurd ⟨i, hi, hpi⟩ h⟩

/-- The blocks that the operations nw made are there, and no two are one. -/
def Apart (n : Nat) (nw L : Nat → Bool) (val : Nat → Value) (w : World) : Prop :=
  (∀ i, i < n → L i = true → nw i = true → ∃ b, blockOf (val i) = some b ∧ b < w.heap.size) ∧
    ∀ i j, i < n → j < n → i ≠ j → L i = true → L j = true → nw i = true → nw j = true → blockOf (val i) ≠ blockOf (val j)
theorem Apart.step {L : Nat → Bool} {val : Nat → Value} {w w' : World} {j : Nat} {u : Value} (h : Apart n nw L val w) (hsz : w.heap.size ≤ w'.heap.size) (hb : nw j = true → blockOf u = some w.heap.size ∧ w.heap.size < w'.heap.size) : Apart n nw (ins L j) (upd val j u) w' := by
  refine ⟨fun i hi hL hn => ?_, fun i k hi hk hik hL hLk hn hnk => ?_⟩
  · by_cases e : i = j
    · subst e
      exact ⟨_, by simp [upd]; exact (hb hn).1, (hb hn).2⟩
    · obtain ⟨b, h1, h2⟩ := h.1 i hi (by simpa [ins, e] using hL) hn
      exact ⟨b, by simpa [upd, e] using h1, by omega⟩
  · by_cases e : i = j
    · subst e
      have hki : k ≠ i := fun e => hik e.symm
      obtain ⟨b, h1, h2⟩ := h.1 k hk (by simpa [ins, hki] using hLk) hnk
      rw [show upd val i u i = u from by simp [upd], show upd val i u k = val k from by simp [upd, hki], (hb hn).1, h1]
      intro e
      injection e with e
      omega
    · by_cases e' : k = j
      · subst e'
        obtain ⟨b, h1, h2⟩ := h.1 i hi (by simpa [ins, e] using hL) hn
        rw [show upd val k u k = u from by simp [upd], show upd val k u i = val i from by simp [upd, e], (hb hnk).1, h1]
        intro e
        injection e with e
        omega
      · simp only [upd, if_neg e, if_neg e']
        exact h.2 i k hi hk hik (by simpa [ins, e] using hL) (by simpa [ins, e'] using hLk) hn hnk
/-- .. said of a frame. -/
def ApartAt (ops : Array Oper) (n : Nat) (nw : Nat → Bool) (a : Act) : Prop :=
  ∀ i j ti tj u v, i < n → j < n → i ≠ j → nw i = true → nw j = true → dstOf ops i = some ti → dstOf ops j = some tj → a.tmps[ti]? = some u → a.tmps[tj]? = some v → blockOf u ≠ blockOf v

theorem grow_any {Qx : Exit → Act → World → Prop} {a0 : Act} {l : List Oper} (g : GrowOk md ops n) (hBw : B ≤ w0.heap.size) (hl : ∀ m, m < l.length → l[m]? = ops[m]?) (hn : l.length = n)
    (hQ : ∀ Γ a w, Q Γ a → Below B w0 w → (∀ p ∈ Γ, p.2 w) → ApartAt ops n nw a → wpAny P md ops Qx (ops.size - n) (canon ops n) a w) :
    ∀ (f : Nat) (listed : Array Bool) (ar : Act) (wr : World) (val : Nat → Value), (List.range n).countP (fun k => !listed.getD k false) = f → HeadInv md ops n listed → Pt ops n (fun k => listed.getD k false) val a0 ar → Below B w0 wr → Apart n nw (fun k => listed.getD k false) val wr →
      Res P md ops B w0 sp nw (fun k => listed.getD k false) val wr Q l 0 [] a0 → wpAny P md ops Qx (f + (ops.size - n)) listed ar wr := by
  intro f
  induction f with
  | zero =>
    intro listed ar wr val hc inv hpt hB hap h
    have hall : ∀ k, k < n → listed.getD k false = true := fun k hk => by
      have := List.countP_eq_zero.1 hc k (List.mem_range.2 hk)
      simpa using this
    obtain ⟨Γ, a, vh, hq, hpa, hv, hf⟩ := h.over g hall l 0 [] a0 val (fun m hm => by rw [Nat.zero_add]; exact hl m hm) (by omega) ⟨rfl, fun k t _ hS => by simp at hS, fun _ _ => rfl⟩ (fun k hk => by omega) (fun p hp => by cases hp)
    have hcan : listed = canon ops n := by
      apply Array.ext_getElem?
      intro k
      unfold canon
      by_cases hks : k < ops.size
      · have hks' : k < listed.size := by rw [inv.size]; exact hks
        by_cases hkn : k < n
        · have := hall k hkn
          simp [hks, hks', hkn] at this ⊢
          exact this
        · have := inv.tail k (by omega) hks
          simp [hks, hks', hkn] at this ⊢
          exact this
      · have hks' : ¬ k < listed.size := by rw [inv.size]; exact hks
        simp [hks, hks']
    have hfr : ar = a := by
      have h1 : ar.defers = a.defers := hpt.defers.trans hpa.defers.symm
      have h2 : ar.tmps = a.tmps := Array.ext_getElem? fun t => hpt.agree hpa fun k hk _ => ⟨by simp [hk, hall k hk], fun _ => (hv k hk).symm⟩
      cases ar; cases a; simp_all
    rw [Nat.zero_add, hcan, hfr]
    refine hQ Γ a wr hq hB hf fun i j ti tj u v hi hj hij hni hnj hdi hdj hu hv' => ?_
    have e1 := hpa.hit i ti hi (by simpa using hi) hdi
    have e2 := hpa.hit j tj hj (by simpa using hj) hdj
    rw [hu] at e1
    rw [hv'] at e2
    have e3 : u = val i := by
      cases h0 : a0.tmps[ti]? with
      | none => rw [h0] at e1; cases e1
      | some x => rw [h0] at e1; simp at e1; rw [e1, hv i hi]
    have e4 : v = val j := by
      cases h0 : a0.tmps[tj]? with
      | none => rw [h0] at e2; cases e2
      | some x => rw [h0] at e2; simp at e2; rw [e2, hv j hj]
    rw [e3, e4]
    exact hap.2 i j hi hj hij (hall i hi) (hall j hj) hni hnj
  | succ f ih =>
    intro listed ar wr val hc inv hpt hB hap h
    have hex : ∃ k, k < n ∧ listed.getD k false = false := by
      have : 0 < (List.range n).countP (fun k => !listed.getD k false) := by omega
      obtain ⟨k, hk, hp⟩ := List.countP_pos_iff.1 this
      exact ⟨k, List.mem_range.1 hk, by simpa using hp⟩
    obtain ⟨k0, hk0, hun0⟩ := hex
    obtain ⟨m, hm, hm1, hm2⟩ := least_of (p := fun k => !listed.getD k false) k0 (by simpa using hun0)
    have hmn : m < n := by omega
    have hms : m < listed.size := by rw [inv.size]; have := g.size; omega
    have hun : listed.getD m true = false := getD_in hms (by simpa using hm1)
    have hready : m ∈ Region.ready md ops listed := by
      have hmo : m < ops.size := by have := g.size; omega
      refine mem_ready.2 ⟨hun, ops[m], by simp [hmo], fun e he hb => ?_⟩
      have : e.on < m := g.back m hmn _ (by
        unfold predsOf
        rw [Array.getElem?_eq_getElem hmo]
        exact List.mem_map.2 ⟨e, List.mem_filter.2 ⟨by simpa using he, hb⟩, rfl⟩)
      have := hm2 _ this
      simpa using this
    have e1 : f + 1 + (ops.size - n) = (f + (ops.size - n)) + 1 := by omega
    rw [e1]
    refine ⟨fun h0 => absurd (h0 ▸ hready) (by simp), fun j hj => ?_⟩
    obtain ⟨hju, oj, hoj, hall⟩ := mem_ready.1 hj
    have hjs : j < ops.size := (Array.getElem?_eq_some_iff.1 hoj).1
    have hjn : j < n := by
      rcases g.tail with ht | ⟨ht, hs, hch⟩
      · omega
      · exact Nat.lt_of_not_le fun h => tail_waits hs hch ht inv _ m rfl hmn hun j h hj
    have hp : ∀ k ∈ predsOf md ops j, listed.getD k false = true := fun k hk => by
      unfold predsOf at hk
      rw [hoj] at hk
      obtain ⟨e, he, rfl⟩ := List.mem_map.1 hk
      obtain ⟨he1, he2⟩ := List.mem_filter.1 he
      exact hall e (by simpa using he1) he2
    have hcl : ∀ i, listed.getD i false = true → ∀ k ∈ predsOf md ops i, listed.getD k false = true := fun i hi k hk => by
      unfold predsOf at hk
      cases hoi : ops[i]? with
      | none => rw [hoi] at hk; cases hk
      | some oi =>
        rw [hoi] at hk
        obtain ⟨e, he, rfl⟩ := List.mem_map.1 hk
        obtain ⟨he1, he2⟩ := List.mem_filter.1 he
        exact inv.closed i oi hoi hi e (by simpa using he1) he2
    have hdep : ∀ k, depB md ops j k = true → listed.getD k false = true := fun k hk => by
      unfold depB at hk
      exact upset_in hcl _ _ hp k (by simpa using hk)
    have hset : (fun k => (listed.setIfInBounds j true).getD k false) = ins (fun k => listed.getD k false) j := by
      funext k
      unfold ins
      by_cases e : k = j
      · subst e
        have : k < listed.size := by rw [inv.size]; exact hjs
        simp [this]
      · rw [getD_set_ne false (Ne.symm e)]
        simp [e]
    have hjf : listed.getD j false = false := getD_both hju
    refine wpOp_mono (fun a' w' ⟨u, he, hbl, hB', hres⟩ => ?_) (h.step (Qx := Qx) g hBw hjn hoj hjf hp hdep hpt hB hl hn)
    subst he
    have hpt' := hpt.put (u := u) g.one hjn hjf hoj
    have hap' := hap.step (u := u) (j := j) hbl.1.size hbl.2
    rw [← hset] at hres hpt' hap'
    refine ih _ _ _ _ ?_ (inv.set hj hjn) hpt' hB' hap' hres
    have := count_off n (fun k => !listed.getD k false) j hjn (by simpa using hjf)
    rw [hc] at this
    have e3 : (List.range n).countP (fun k => !(listed.setIfInBounds j true).getD k false) = (List.range n).countP (fun k => (!listed.getD k false) && k != j) := List.countP_congr fun k _ => by
      have := congrFun hset k
      simp only [ins] at this
      rw [this]
      by_cases e : k = j <;> simp [e]
    omega

theorem Res.fresh {val val' : Nat → Value} {wr w1 : World} : ∀ (l : List Oper) (i : Nat) (Γ : List (Nat × (World → Prop))) (a : Act), Res P md ops B w0 sp nw (fun _ => false) val wr Q l i Γ a → Res P md ops B w0 sp nw (fun _ => false) val' w1 Q l i Γ a := by
  intro l
  induction l with
  | nil => intro i Γ a h; exact h
  | cons o rest ih =>
    intro i Γ a h
    unfold Res at h ⊢
    split
    · rename_i hw
      rw [if_pos hw] at h
      rcases h with ⟨v, hnw, h1, h2, h3⟩ | ⟨Z, hs, h1, h2, h3⟩ | ⟨hnw, hs, h1, h2, h3⟩
      · exact .inl ⟨v, hnw, h1, (fun h => by cases h), ih _ _ _ h3⟩
      · exact .inr (.inl ⟨Z, hs, h1, (fun h => by cases h), fun u _ hu' => ih _ _ _ (h3 u (fun h => by cases h) hu')⟩)
      · exact .inr (.inr ⟨hnw, hs, h1, (fun h => by cases h), fun u _ hu' => ih _ _ _ (h3 u (fun h => by cases h) hu')⟩)
    · rename_i hw
      rw [if_neg hw] at h
      exact ⟨h.1, (fun h => by cases h), ih _ _ _ h.2.2⟩

theorem Res.post {Q Q' : List (Nat × (World → Prop)) → Act → Prop} {L : Nat → Bool} {val : Nat → Value} {wr : World} (hQ : ∀ Γ a, Q Γ a → Q' Γ a) : ∀ (l : List Oper) (i : Nat) (Γ : List (Nat × (World → Prop))) (a : Act), Res P md ops B w0 sp nw L val wr Q l i Γ a → Res P md ops B w0 sp nw L val wr Q' l i Γ a := by
  intro l
  induction l with
  | nil => intro i Γ a h; exact hQ _ _ h
  | cons o rest ih =>
    intro i Γ a h
    unfold Res at h ⊢
    split
    · rename_i hw
      rw [if_pos hw] at h
      rcases h with ⟨v, hnw, h1, h2, h3⟩ | ⟨Z, hs, h1, h2, h3⟩ | ⟨hnw, hs, h1, h2, h3⟩
      · exact .inl ⟨v, hnw, h1, h2, ih _ _ _ h3⟩
      · exact .inr (.inl ⟨Z, hs, h1, h2, fun u hu hu' => ih _ _ _ (h3 u hu hu')⟩)
      · exact .inr (.inr ⟨hnw, hs, h1, h2, fun u hu hu' => ih _ _ _ (h3 u hu hu')⟩)
    · rename_i hw
      rw [if_neg hw] at h
      exact ⟨h.1, h.2.1, ih _ _ _ h.2.2⟩

/-- The walk that a prover makes: nothing has been carried out yet. -/
abbrev wpGrow (P : Program) (ops : Array Oper) (B : Nat) (w0 : World) (sp : Nat → Value → World → Prop) (nw : Nat → Bool) (Q : List (Nat × (World → Prop)) → Act → Prop) (l : List Oper) (i : Nat) (Γ : List (Nat × (World → Prop))) (a : Act) : Prop :=
  Res P .any ops B w0 sp nw (fun _ => false) (fun _ => undef) w0 Q l i Γ a

theorem wp_region_grow2 {id : Nat} {Qx : Exit → Act → World → Prop} {a : Act} {w : World} {l : List Oper} (n B : Nat) (w0 : World) (sp : Nat → Value → World → Prop) (nw : Nat → Bool) (hm : P.follows .mixedOrders = true) (hg : growB .any l.toArray n = true)
    (hBw : B ≤ w0.heap.size) (hC : Below B w0 w)
    (h : wpGrow P l.toArray B w0 sp nw (fun Γ a' => ∀ w', Below B w0 w' → (∀ p ∈ Γ, p.2 w') → ApartAt l.toArray n nw a' → wpList P l.toArray Qx (l.drop n) a' w') (l.take n) 0 [] a) : (Code.region id l.toArray true).wp P Qx a w := by
  have g := growB_ok hg
  have hsz : n ≤ l.length := by simpa using g.size
  have htl : (l.take n).length = n := by simp; omega
  have hdl : (l.drop n).length = l.toArray.size - n := by simp
  have inv0 : HeadInv .any l.toArray n (Array.replicate l.toArray.size false) :=
    ⟨by simp, fun j oj _ hl => (by rw [getD_replicate_false] at hl; cases hl), fun t _ ht => getD_in (by simpa using ht) (getD_replicate_false _ _)⟩
  have hrep : (fun k => (Array.replicate l.toArray.size false).getD k false) = fun _ => false := funext fun k => getD_replicate_false _ _
  refine wp_region_any hm ?_
  have := grow_any (Qx := Qx) (P := P) (sp := sp) (nw := nw) (B := B) (w0 := w0) (a0 := a) (l := l.take n) (Q := fun Γ a' => ∀ w', Below B w0 w' → (∀ p ∈ Γ, p.2 w') → ApartAt l.toArray n nw a' → wpList P l.toArray Qx (l.drop n) a' w') g hBw (fun m hm' => by rw [htl] at hm'; simp [hm']) htl (fun Γ a' w' hq hb hf hd => by
    have := wpAny_of_seq (md := .any) (Q' := Qx) (l.drop n) n (canon l.toArray n) a' w' (fun j => by simp [List.getElem?_drop]) (by rw [hdl]; exact g.seq) (hq w' hb hf hd)
    rwa [hdl] at this) n (Array.replicate l.toArray.size false) a { w with drawn := w.drawn + 1 } (fun _ => undef) (by
      rw [List.countP_eq_length.2 (fun k _ => by rw [getD_replicate_false]; rfl)]; simp) inv0 (by rw [hrep]; exact ⟨rfl, fun k t _ hS => by simp at hS, fun _ _ => rfl⟩) (show Below B w0 w.drew from hC.drew) (by rw [hrep]; exact ⟨fun i _ h => (by cases h), fun i j _ _ _ h => (by cases h)⟩) (by
      rw [hrep]
      exact Res.fresh _ _ _ _ h)
  rwa [show n + (l.toArray.size - n) = l.toArray.size by simp; omega] at this

/-- The same where nobody asks which new blocks are apart. -/
theorem wp_region_grow {id : Nat} {Qx : Exit → Act → World → Prop} {a : Act} {w : World} {l : List Oper} (n B : Nat) (w0 : World) (sp : Nat → Value → World → Prop) (hm : P.follows .mixedOrders = true) (hg : growB .any l.toArray n = true)
    (hBw : B ≤ w0.heap.size) (hC : Below B w0 w)
    (h : wpGrow P l.toArray B w0 sp (fun _ => false) (fun Γ a' => ∀ w', Below B w0 w' → (∀ p ∈ Γ, p.2 w') → wpList P l.toArray Qx (l.drop n) a' w') (l.take n) 0 [] a) : (Code.region id l.toArray true).wp P Qx a w :=
  wp_region_grow2 n B w0 sp (fun _ => false) hm hg hBw hC (Res.post (fun _ _ h w' hb hf _ => h w' hb hf) _ _ _ _ h)

section
variable {Q : List (Nat × (World → Prop)) → Act → Prop} {o : Oper} {rest : List Oper} {i : Nat} {Γ : List (Nat × (World → Prop))} {a : Act}
theorem grow_nil (h : Q Γ a) : wpGrow P ops B w0 sp nw Q [] i Γ a := h
theorem grow_skip (hw : Region.wanted o (yielded ops a.tmps) = false) (hnw : nw i = false) (h : wpGrow P ops B w0 sp nw Q rest (i + 1) Γ (a.put o.dst undef)) : wpGrow P ops B w0 sp nw Q (o :: rest) i Γ a := by
  unfold wpGrow Res
  rw [if_neg (by simp [hw])]
  exact ⟨hnw, (fun h => by cases h), h⟩

theorem value_bind {α : Type} (s : Sem α) (g : α → Value) (w w' : World) (f : FuncId) (args : Array Value) : (s >>= fun x => (pure (.value (g x)) : Sem Next)).run P w ≠ .ok (.enter f args) w' := by
  rw [Sem.run_bind]
  cases s.run P w with
  | ok x w1 => simp [Result.andThen, Sem.run_pure]
  | halt x w1 => simp [Result.andThen]

theorem enter_bind {α : Type} {s : Sem α} {g : α → Sem Next} {w w' : World} {f : FuncId} {args : Array Value} (h : (s >>= g).run P w = .ok (.enter f args) w') : ∃ x w1, (g x).run P w1 = .ok (.enter f args) w' := by
  rw [Sem.run_bind] at h
  cases hs : s.run P w with
  | ok x w1 => rw [hs] at h; exact ⟨x, w1, h⟩
  | halt x w1 => rw [hs] at h; simp [Result.andThen] at h

/-- An operation that calls no Go function. -/
def fnOp (o : Oper) : Bool :=
  match o.op with
  | .call c => (match c.callee with | .builtin b => (match b with | .len | .append | .cap | .copy | .min | .max => true | _ => false) | _ => false)
  | .move _ | .assign _ | .pick .. | .alloc _ | .box .. | .build .. | .buildSlice .. | .load .. | .binOp .. | .unOp .. | .convert .. | .makeFunc .. | .makeMap .. | .makeSlice .. | .slice .. | .fieldAddr .. | .field .. | .indexAddr .. | .index .. | .lookup .. | .extract .. | .nilCheck _ => true
  | _ => false

theorem fnOp_run (h : fnOp o = true) (ρ : Operand → Value) (w w' : World) (f : FuncId) (args : Array Value) : (execOp ρ o).run P w ≠ .ok (.enter f args) w' := by
  obtain ⟨dst, op, type, pos, after, guard⟩ := o
  cases op <;> simp only [fnOp] at h <;> (try cases h) <;> simp only [execOp]
  case call c =>
    obtain ⟨callee, args, ats⟩ := c
    cases callee <;> simp only at h <;> (try cases h)
    rename_i b
    cases b <;> simp only at h <;> (try cases h) <;> simp only [resolve, pure_bind, invoke, builtin] <;> exact value_bind _ (fun x => x) _ _ _ _
  case nilCheck x =>
    intro h
    repeat' split at h
    all_goals first
      | (rw [Sem.run_pure] at h; cases h; done)
      | (simp [runtimePanic] at h; done)
      | (obtain ⟨_, _, h⟩ := enter_bind h
         obtain ⟨_, _, h⟩ := enter_bind h
         split at h
         · obtain ⟨_, _, h⟩ := enter_bind h
           rw [Sem.run_pure] at h; cases h
         · rw [Sem.run_pure] at h; cases h)
  all_goals first
    | exact value_bind _ (fun x => x) _ _ _ _
    | exact value_bind _ _ _ _ _ _
    | (intro h; rw [Sem.run_pure] at h; cases h)

theorem grow_quiet (hw : Region.wanted o (yielded ops a.tmps) = true) (hf : fnOp o = true) (hnw : nw i = false)
    (h : ∀ K : Act → Prop, (∀ a, wpGrow P ops B w0 sp nw Q rest (i + 1) Γ a → K a) → o.quiet P a (fun w => ∃ x, w = Fam B w0 x) K) : wpGrow P ops B w0 sp nw Q (o :: rest) i Γ a := by
  obtain ⟨v, h1, h2⟩ := h _ fun _ h => h
  unfold wpGrow Res
  rw [if_pos hw]
  refine .inl ⟨v, hnw, fun w hb => ?_, (fun h => by cases h), h2⟩
  have hq := h1 w (Fam.of hb)
  unfold Oper.quietAt at hq
  cases hr : (execOp a.eval o).run P w with
  | ok x w' =>
    rw [hr] at hq
    cases x <;> simp only [Oper.quietUpon] at hq
    case value u => exact ⟨hq.2, hq.1⟩
    case skip => exact ⟨hq.2.symm, hq.1⟩
    case enter f args => exact absurd hr (fnOp_run hf _ _ _ _ _)
  | halt x w' => rw [hr] at hq; exact hq.elim

/-- An operation that makes a block: its value hangs on the block's number alone. -/
theorem grow_new (hw : Region.wanted o (yielded ops a.tmps) = true) (mk : Nat → Value) (T : TypeId) (cs : Array Value) (hrun : ∀ w, (execOp a.eval o).run P w = .ok (.value (mk w.heap.size)) (w.alloc (.cells cs T)))
    (hmk : ∀ b, blockOf (mk b) = some b) (hBw : B ≤ w0.heap.size)
    (h : ∀ b, B ≤ b → wpGrow P ops B w0 sp nw Q rest (i + 1) ((i, fun w' => ∃ b', mk b = mk b' ∧ B ≤ b' ∧ w'.heap[b']? = some (.cells cs T (0, 0))) :: Γ) (a.put o.dst (mk b))) : wpGrow P ops B w0 sp nw Q (o :: rest) i Γ a := by
  unfold wpGrow Res
  rw [if_pos hw]
  refine .inr (.inl ⟨fun u w' => ∃ b', u = mk b' ∧ B ≤ b' ∧ w'.heap[b']? = some (.cells cs T (0, 0)), fun u w w' hb ⟨b', h1, h2, h3⟩ => ⟨b', h1, h2, ?_⟩, fun w hb _ => ?_, (fun h => by cases h), fun u _ hu => ?_⟩)
  · rw [hb.block b' (by
      rcases Nat.lt_or_ge b' w.heap.size with h | h
      · exact h
      · rw [Array.getElem?_eq_none h] at h3; cases h3), h3]
  · rw [hrun]
    exact ⟨⟨(Below.refl _ _).alloc (Nat.le_refl _) _, fun _ => ⟨hmk _, by simp⟩⟩, w.heap.size, rfl, Nat.le_trans hBw hb.size, heap_alloc_new w _⟩
  · obtain ⟨w', _, b', rfl, h2, _⟩ := hu rfl
    exact h b' h2

/-- A call of a Go function. -/
theorem grow_call (hw : Region.wanted o (yielded ops a.tmps) = true) (hnw : nw i = false) (hs : ∀ u, Steady (sp i u))
    (hc : ∀ w, Below B w0 w → FactsAt .any ops i Γ w → callUpon P w (fun e w' => ∃ u, e = .returned u ∧ Below w.heap.size w w' ∧ sp i u w') ((execOp a.eval o).run P w))
    (h : ∀ u, (∃ w', Below B w0 w' ∧ sp i u w') → wpGrow P ops B w0 sp nw Q rest (i + 1) ((i, sp i u) :: Γ) (a.put o.dst u)) : wpGrow P ops B w0 sp nw Q (o :: rest) i Γ a := by
  unfold wpGrow Res
  rw [if_pos hw]
  exact .inr (.inr ⟨hnw, hs, hc, (fun h => by cases h), fun u _ hu => h u (hu rfl)⟩)
/-- A call of a Go function whose value is known. -/
theorem grow_val (v : Value) (hw : Region.wanted o (yielded ops a.tmps) = true) (hnw : nw i = false) (hsp : sp i = fun u _ => u = v)
    (hc : ∀ w, Below B w0 w → FactsAt .any ops i Γ w → callUpon P w (fun e w' => e = .returned v ∧ Below w.heap.size w w') ((execOp a.eval o).run P w))
    (h : wpGrow P ops B w0 sp nw Q rest (i + 1) ((i, fun _ => v = v) :: Γ) (a.put o.dst v)) : wpGrow P ops B w0 sp nw Q (o :: rest) i Γ a := by
  refine grow_call hw hnw (fun u => by rw [hsp]; exact fun _ _ _ h => h) (fun w hb hf => ?_) fun u ⟨w', _, hu⟩ => ?_
  · have hx := hc w hb hf
    generalize (execOp a.eval o).run P w = r at hx ⊢
    cases r with
    | ok x w' =>
      cases x <;> simp only [callUpon] at hx ⊢
      exact ⟨hx.1, hx.2.mono fun e w'' ⟨he, hb⟩ => ⟨v, he, hb, by rw [hsp]⟩⟩
    | halt x w' => exact hx.elim
  · rw [hsp] at hu
    subst hu
    rw [hsp]
    exact h
end
end
end AG

/- The program's closure: the states that words of hidden letters reach. -/
namespace Go.Proofs.YtolnlkccbndkcaaDoor
open Go.RowKit Go.BigFrame AG

/-- A list of numbers lies in memory below a block. -/
def NatsAt (w : World) (B : Nat) (A : Option Addr) (ns : List Nat) : Prop := 0 < ns.length → ∃ b o, A = some ⟨b, o, none⟩ ∧ b < B ∧ ∀ i (h : i < ns.length), w.cell? ⟨b, o + i, none⟩ = some (.int .i64 (ns[i] : Nat))
theorem NatsAt.later {w w' : World} {A : Option Addr} {ns : List Nat} (h : NatsAt w w.heap.size A ns) (hb : Below w.heap.size w w') : NatsAt w' w'.heap.size A ns := fun hl => by
  obtain ⟨b, o, h1, h2, h3⟩ := h hl
  exact ⟨b, o, h1, Nat.lt_of_lt_of_le h2 hb.size, fun i hi => by rw [hb.cell (by simpa using h2)]; exact h3 i hi⟩
theorem OwnNats.read {w : World} {B : Nat} {v : Value} {ns : List Nat} (h : OwnNats w B v ns) : ∃ A c, v = .slice A ns.length c ∧ ns.length ≤ c ∧ c ≤ 9223372036854775807 ∧ NatsAt w w.heap.size A ns := by
  by_cases hn : 0 < ns.length
  · obtain ⟨g, cap, hv, h1, h2, h3, h4, h5⟩ := own_nats h hn
    exact ⟨_, cap, hv, h3, h4, fun _ => ⟨g, 0, rfl, h2, fun i hi => by rw [Nat.zero_add]; exact h5 i hi⟩⟩
  · obtain ⟨A, c, hv, h1, h2⟩ := own_slice h
    exact ⟨A, c, hv, h1, h2, fun hl => absurd hl hn⟩

set_option maxRecDepth 100000 in
set_option maxHeartbeats 4000000 in
theorem closure_any (s : Sy) (h : Int) (g S : Nat) (A : Option Addr) (c : Nat) (w : World) (hs : edgesIn s) (hS : S < 65536) (hl : (letters h).length ≤ c) (hc : c ≤ 9223372036854775807) (hT : Tab w) (hg : MvAt w w.heap.size g (mv s)) (hL : NatsAt w w.heap.size A (letters h)) :
    Calls Tryd.prog 116 #[.pointer (some ⟨g, 0, none⟩), .int .i64 (S : Nat), .slice A (letters h).length c] w fun e w' => e = .returned (.int .i64 (reachSet s h S : Nat)) ∧ Below w.heap.size w w' := by
  have hls1 : ∀ e ∈ s.es, e.l.toNat ∈ letters h → Has h e.l.toNat = true := fun e he hm => (letters_lt hm).2
  have hls2 : ∀ e ∈ s.es, Has h e.l.toNat = true → e.l.toNat ∈ letters h := fun e he hm => letters_of_six (by have := hs e he; omega) hm
  have h6 : ∀ l ∈ letters h, l < 6 := fun l hl => (letters_lt hl).1
  have hn6 : (letters h).length ≤ 6 := lettersTo_len h 6
  generalize letters h = ls at *
  replace hls1 := hid hls1
  replace hls2 := hid hls2
  replace h6 := hid h6
  replace hs := hid hs
  replace hT := hid hT
  replace hg := hid hg
  replace hL := hid hL
  go_enter Tryd.func116, Tryd.ntmps116
  go_wp2_with fail
  go_loopw [1] (fun st wr => ∃ T : Nat, st = .int .i64 (T : Nat) ∧ T < 65536 ∧ (∀ x, S.testBit x = true → T.testBit x = true) ∧ (∀ x, T.testBit x = true → Rch s h S x) ∧ Below w.heap.size w wr) (fun st _ => 65536 - (intOf st).toNat)
  case atStart => exact ⟨S, rfl, hS, fun _ h => h, fun _ h => Rch.start h, Below.refl _ _⟩
  case round =>
    obtain ⟨T, rfl, hTl, hbase, hins, hb⟩ := hrel
    replace hbase := hid hbase
    replace hins := hid hins
    go_wp2_with fail
    go_loopw [7, 13] (fun mo i wr => ∃ k : Nat, i = .int .i64 (k : Nat) ∧ k ≤ ls.length ∧ mo = .int .i64 (closeL (mv s) T (ls.take k) : Nat) ∧ Below w.heap.size w wr) (fun _ i _ => ls.length - (intOf i).toNat)
    case atStart => exact ⟨0, rfl, by omega, by rfl, hb⟩
    case round =>
      obtain ⟨k, rfl, hk, rfl, hb1⟩ := hrel
      have hcl : closeL (mv s) T (ls.take k) < 65536 := closeL_lt (mv s) hTl _
      by_cases hlt : k < ls.length
      · obtain ⟨b, o, hA, hbb, hE⟩ := hL.out (by omega)
        subst hA
        have c0 := hE k hlt
        rw [← hb1.cell (by simpa using hbb)] at c0
        obtain ⟨l, hl'⟩ : ∃ l, l = ls[k] := ⟨_, rfl⟩
        rw [← hl'] at c0
        have hl6 : l < 6 := h6.out l (by rw [hl']; exact List.getElem_mem _)
        have hcs : Hid (closeL (mv s) T (ls.take (k + 1)) = closeL (mv s) T (ls.take k) ||| unionOf (mv s) T l) := hid (by rw [List.take_succ_eq_append_getElem hlt, closeL_snoc, hl'])
        have hor := hid (bits_orN (closeL (mv s) T (ls.take k)) (unionOf (mv s) T l) hcl (unionOf_lt _ _ _))
        have hzr := hb1.size
        have hgr := hid (hg.out.later hb1)
        have hTr := hid (hT.out.later hb1)
        have k1 : (0 : Int) ≤ (k : Int) ∧ (k : Int) < (ls.length : Int) := by omega
        replace hE := hid hE
        replace hl' := hid hl'
        go_wp2_with (refine (step_any (mv s) g T l _ hl6 (fun q => mv_lt s q l) hTl hTr.out hgr.out).mono ?_; rintro e w3 ⟨rfl, hb3⟩)
        have hb4 := hb1.trans (hb3.mono hzr)
        go_roundw
        case rel => exact ⟨k + 1, by go_num, by omega, by rw [hor.out, hcs.out], hb4⟩
        case measure => simp [intOf]; omega
      · obtain rfl : k = ls.length := by omega
        rw [List.take_length] at hcl ⊢
        have hge : T ≤ closeL (mv s) T ls := closeL_ge (mv s) T ls
        by_cases hfix : closeL (mv s) T ls = T
        · have hfin := hid (closeL_fix hs.out hTl hfix hbase.out hins.out hls2.out)
          have hd : ((closeL (mv s) T ls : Nat) == (T : Int)) = true := by rw [hfix]; simp
          replace hfix := hid hfix
          go_wp2
          go_ret
          exact ⟨ret_int (by rw [← hfin.out]), hb1⟩
        · have hd : (((closeL (mv s) T ls : Nat) : Int) == (T : Int)) = false := by simp; omega
          have hins2 := hid (closeL_inside hs.out hins.out hls1.out)
          have hbase2 : Hid (∀ x, S.testBit x = true → (closeL (mv s) T ls).testBit x = true) := hid fun x hx => (closeL_testBit _ _ _ _).2 (.inl (hbase.out x hx))
          have hlt' : T < closeL (mv s) T ls := by omega
          replace hfix := hid hfix
          go_wp2
          go_roundw
          case rel => exact ⟨_, rfl, hcl, hbase2.out, hins2.out, hb1⟩
          case measure => simp [intOf]; omega

end Go.Proofs.YtolnlkccbndkcaaDoor

/- The program's searches in one automaton: their closures, leadsToAccepting. -/
namespace Go.Proofs.YtolnlkccbndkcaaDoor
open Go.RowKit Go.BigFrame AG

theorem RW_run {a : Au} {from_ : Nat} {L : List Nat} : ∀ (r : List Nat) (n : Nat), RW (fun n => n ∈ [from_]) L (fun q l => [goA a q l]) r n ↔ (∀ l ∈ r, l ∈ L) ∧ n = runA a from_ r
  | [], n => by
    show n ∈ [from_] ↔ _
    simp [runA]
  | l :: r, n => by
    show (l ∈ L ∧ ∃ m, RW (fun n => n ∈ [from_]) L (fun q l => [goA a q l]) r m ∧ n ∈ [goA a m l]) ↔ _
    constructor
    · rintro ⟨hl, m, hm, hn⟩
      obtain ⟨h1, h2⟩ := (RW_run r m).1 hm
      refine ⟨fun x hx => ?_, ?_⟩
      · rcases List.mem_cons.1 hx with rfl | hx
        · exact hl
        · exact h1 x hx
      · rw [List.mem_singleton.1 hn, h2]
        rfl
    · rintro ⟨h1, h2⟩
      exact ⟨h1 l List.mem_cons_self, runA a from_ r, (RW_run r _).2 ⟨fun x hx => h1 x (List.mem_cons_of_mem _ hx), rfl⟩, by rw [h2]; exact List.mem_singleton.2 rfl⟩


set_option maxRecDepth 100000 in
set_option maxHeartbeats 4000000 in
theorem fromNext_any (a : Au) (m g bT base q l : Nat) (v : Value) (ns : List Nat) (w : World) (hq : q < m) (hm : m ≤ 4096) (hl : l < 6) (hT : TabA w g m a) (hc : w.cell? ⟨bT, 0, none⟩ = some (.slice (some ⟨g, 0, none⟩) m m)) (hns : ns.length ≤ 4294967296) (hb : base ≤ w.heap.size) (hown : w.ownsRow base 3 1 v ns.length (natVals ns)) :
    Calls Tryd.prog 172 #[.int .i64 (q : Nat), .int .i64 (l : Nat), v, .pointer (some ⟨bT, 0, none⟩)] w fun e w' =>
      ∃ v', e = .returned v' ∧ w'.ownsRow base 3 1 v' (ns ++ [goA a q l]).length (natVals (ns ++ [goA a q l])) ∧ KeepB (fun b => v.ownBlock = some b) w w' := by
  obtain ⟨i0, hi, hz0, hz1, hz2⟩ := info_parts infoInt
  obtain ⟨t, ht⟩ : ∃ t, Hid (t = goA a q l) := ⟨_, hid rfl⟩
  have c1 := hT.2 q l hq hl
  rw [← ht.out] at c1 ⊢
  obtain ⟨Av, cv, rfl, -, -⟩ := own_slice hown
  have k1 : (0 : Int) ≤ (q : Int) ∧ (q : Int) < (m : Int) ∧ (0 : Int) ≤ (l : Int) ∧ (l : Int) < 6 := by omega
  replace hown := hid hown
  replace hT := hid hT
  go_enter Tryd.func172, Tryd.ntmps172
  go_wp2_with (at_builtin; refine wpList_append_own_at _ rfl _ _ 62 rfl base 3 i0 (.int .i64 0) 1 8 Tryd.underlying62 hi hz0 hz1 hz2 rfl (by decide) _ _ _ rfl (hown.out.alloc _) ⟨w.heap.size, 0, none⟩ 1 1 [.int .i64 (t : Nat)] rfl rfl (cell_one_new _ _ _) (by intro u hu; simp at hu; subst hu; rfl) (by unfold maxLen; omega) (by omega) (by simp; omega) ?_; intro v5 w5 hO5 hg5 _ hat5; obtain ⟨A5, c5, ev5, -, -⟩ := own_slice hO5; subst ev5; replace hO5 := hid hO5; replace hg5 := hid hg5)
  go_ret
  refine ⟨_, rfl, ?_, ((KeepB.refl _ w).alloc _).grown hg5.out fun k hk _ => hk⟩
  have := hO5.out
  rw [List.length_append]
  unfold natVals at this ⊢
  rw [List.map_append]
  exact this
theorem fromNext_ok {a : Au} {m g bT : Nat} {w : World} (hok : auOk a = true) (hm : m = a.nx.length) (hT : TabA w g m a) (hc : w.cell? ⟨bT, 0, none⟩ = some (.slice (some ⟨g, 0, none⟩) m m)) :
    NextOk w m (letters a.al) (fun q l => [goA a q l]) 172 #[.pointer (some ⟨bT, 0, none⟩)] := by
  have h12 := ((auOk_iff a).1 hok).2.2.1
  refine ⟨fun args w' => by go_simp, fun q hq l _ n hn => ?_, fun q _ l _ => by simp, fun w' q l v ns base hb hq hl hns hB hB' hown => ?_⟩
  · rw [List.mem_singleton.1 hn, hm]
    exact goA_lt hok (by rw [← hm]; exact hq)
  · exact fromNext_any a m g bT base q l v ns w' hq (by omega) (letters_lt hl).1 (hT.later hb) ((hb.cell (World.block_lt_of_cell? _ _ hc)).trans hc) hns hB' hown


end Go.Proofs.YtolnlkccbndkcaaDoor

/- The program's firstFrom and AccessWord. -/
namespace Go.Proofs.YtolnlkccbndkcaaDoor
open Go.RowKit Go.BigFrame AG

def FromP (a : Au) (G : Nat → Bool) (o : Option (List Nat)) : Prop := PathPost (fun n => n ∈ [0]) (letters a.al) (fun q l => [goA a q l]) (fun n => G n = true) o
def FromPost (a : Au) (G : Nat → Bool) (w : World) (e : Ending) (w' : World) : Prop :=
  ∃ o, e = .returned (pathV o) ∧ FromP a G o ∧ Below w.heap.size w w'

set_option maxRecDepth 100000 in
set_option maxHeartbeats 4000000 in
theorem firstFrom_any (a : Au) (A B : Option Addr) (c d : Nat) (G : Nat → Bool) (fG : FuncId) (capG : Array Value) (w : World) (hok : auOk a = true) (hG : GoalOk w a.nx.length G fG capG) (ha : AuAt w A c B d a) :
    Calls Tryd.prog 126 #[a.val A c B d, .func (.func fG) #[] capG] w (FromPost a G w) := by
  obtain ⟨halp, hn1, hn12, hn3, -⟩ := (auOk_iff a).1 hok
  obtain ⟨w0, hw0, hz0, hB0, hS⟩ := boxed w #[Value.int IntKind.i64 a.al, Value.slice A a.nx.length c, Value.slice B a.ac.length d] 32
  have ha0 := hid (ha.later hB0)
  have p0 := hS 0 _ rfl _ (Below.refl _ _)
  have p1 := hS 1 _ rfl _ (Below.refl _ _)
  have p2 := hS 2 _ rfl _ (Below.refl _ _)
  replace ha := hid ha
  have hok' := hid hok
  have hn3' := hid hn3
  clear hok hn3
  replace halp := hid halp
  replace hG := hid hG
  unfold AG.Au.val
  go_enter Tryd.func126, Tryd.ntmps126
  go_wp2_with fail
  refine (tableOf_any a A B c d w0 (by omega) (tabOk_of hok'.out) ha0.out).mono ?_
  rintro e w1 ⟨g, rfl, hg, hb1⟩
  have hB1 := hB0.trans (hb1.mono hB0.size)
  clear p0 p1 p2
  replace hg := hid hg
  have hz1 := hb1.size
  go_upto_region 2 with fail
  obtain ⟨w2, hw2, hz2, hB2', hU⟩ := boxed w1 #[.slice (some ⟨g, 0, none⟩) a.nx.length a.nx.length] 121
  rw [hw2]
  clear hw2
  have hB2 := hB1.trans (hB2'.mono hB1.size)
  have hb02 := hb1.trans (hB2'.mono hz1)
  have hg2 := hid (hg.out.later hB2')
  have hU' := hid (fun w' (hb : Below w2.heap.size w2 w') => hU 0 _ rfl w' (hb.mono hz2))
  have hS0 := hid (fun w' (hb : Below w2.heap.size w2 w') => hS 0 _ rfl w' ((hb02.trans (hb.mono hb02.size)).mono hz0))
  have y0 := fun x => hU'.out _ (Fam.below w2.heap.size w2 x)
  have y1 := fun x => hS0.out _ (Fam.below w2.heap.size w2 x)
  clear hU
  refine wp_region_grow 13 w2.heap.size w2 (fun i u w' => if i = 5 then OwnNats w' w2.heap.size u (letters a.al) else ∃ o, u = pathV o ∧ FromP a G o) (by kernel_rfl) (by kernel_rfl) (Nat.le_refl _) (Below.refl _ _) ?_
  simp only [List.take_succ_cons, List.take_zero, List.drop_succ_cons, List.drop_zero]
  (repeat (refine grow_quiet (by rfl) (by rfl) (by rfl) ?_; intro K hK; go_big_quiet_op; go_big_quiet_on))
  refine grow_new (by rfl) (fun b => .slice (some ⟨b, 0, none⟩) 1 1) 3 #[.int .i64 0] (fun _ => by go_simp) (fun _ => rfl) (Nat.le_refl _) fun bI hbI => ?_
  simp only [Act.put, List.setIfInBounds_toArray, List.set_cons_zero, List.set_cons_succ]
  (repeat (refine grow_quiet (by rfl) (by rfl) (by rfl) ?_; intro K hK; go_big_quiet_op; go_big_quiet_on))
  refine grow_call (by rfl) (by rfl) (fun u v v' hb h => ?_) (fun wq hbq _ => ?_) fun u hu => ?_
  · exact own_keep h (.of_below (K := fun _ => False) hb) fun _ _ h => h
  · go_simp
    refine ⟨rfl, (lettersOf_any a.al wq).mono ?_⟩
    rintro e w5 ⟨v, rfl, ho, hb5⟩
    exact ⟨v, rfl, hb5, own_base ho hbq.size⟩
  simp only [Act.put, List.setIfInBounds_toArray, List.set_cons_zero, List.set_cons_succ]
  (repeat (refine grow_quiet (by rfl) (by rfl) (by rfl) ?_; intro K hK; go_big_quiet_op; go_big_quiet_on))
  refine grow_call (by rfl) (by rfl) (fun v x x' hb h => h) (fun wq hbq hfx => ?_) fun u2 hu2 => ?_
  · have hlet : OwnNats wq w2.heap.size u (letters a.al) := hfx _ List.mem_cons_self (by kernel_rfl)
    obtain ⟨bI', eI, -, hI⟩ := hfx _ (List.mem_cons_of_mem _ List.mem_cons_self) (by kernel_rfl)
    cases eI
    have hcT := hid (hU'.out wq hbq)
    have hgq := hid (hg2.out.later hbq)
    have hBq := hB2.trans (hbq.mono hB2.size)
    go_simp
    refine ⟨rfl, ?_⟩
    have hIo : wq.ownsRow 0 3 1 (.slice (some ⟨bI, 0, none⟩) 1 1) [0].length (natVals [0]) := ⟨rfl, .inr ⟨bI, 1, #[.int .i64 0], rfl, Nat.zero_le _, hI, Nat.le_refl _, by decide, rfl, rfl⟩⟩
    refine (firstPath_any wq a.nx.length G fG capG ⟨hG.out.run, fun w' q hb hq => hG.out.call w' q (hBq.trans (hb.mono hBq.size)) hq⟩ (letters a.al) (letters_sorted _) (fun l h => (letters_lt h).1) (fun q l => [goA a q l]) 172 _
      (fromNext_ok hok'.out rfl hgq.out hcT.out) [0] (by simp) (fun n hn => by rw [List.mem_singleton] at hn; omega) (by simp) _ u hIo (own_base hlet (Nat.zero_le _)) (by omega)).mono ?_
    rintro e w6 ⟨o, rfl, hp, hb6⟩
    exact ⟨_, rfl, hb6, o, rfl, hp⟩
  obtain ⟨w6', -, o, rfl, hout⟩ := hu2
  obtain ⟨Sv, Fv, hpv⟩ : ∃ Sv Fv, pathV o = .tuple #[.string Sv, .bool Fv] := ⟨_, _, rfl⟩
  rw [hpv]
  have hpv' := hid hpv
  replace hout := hid hout
  clear hpv
  simp only [Act.put, List.setIfInBounds_toArray, List.set_cons_zero, List.set_cons_succ]
  (repeat (refine grow_quiet (by rfl) (by rfl) (by rfl) ?_; intro K hK; go_big_quiet_op; go_big_quiet_on))
  refine grow_nil ?_
  intro w7 hb7 hf
  clear hf y0 y1
  have hB7 := hB2.trans (hb7.mono hB2.size)
  go_wp2_with fail
  go_ret2
  exact ⟨o, by rw [hpv'.out]; rfl, hout.out, hB7⟩

set_option maxRecDepth 100000 in
set_option maxHeartbeats 1000000 in
theorem accGoal2_any (bQ i q : Nat) (w : World) (hc : w.cell? ⟨bQ, 0, none⟩ = some (.int .i64 (i : Nat))) :
    Calls Tryd.prog 127 #[.int .i64 (q : Nat), .pointer (some ⟨bQ, 0, none⟩)] w fun e w' => e = .returned (.bool (decide (q = i))) ∧ Below w.heap.size w w' := by
  go_enter Tryd.func127, Tryd.ntmps127
  go_wp2
  go_ret
  exact ⟨ret_bool (by rw [Bool.eq_iff_iff]; simp; omega), Below.refl _ _⟩

set_option maxRecDepth 100000 in
set_option maxHeartbeats 4000000 in
theorem implAccessWord_any (a : Au) (A B : Option Addr) (c d i : Nat) (w : World) (hok : auOk a = true) (ha : AuAt w A c B d a) :
    Calls Tryd.prog 59 #[a.val A c B d, .int .i64 (i : Nat)] w (FromPost a (fun q => decide (q = i)) w) := by
  obtain ⟨w0, hw0, hz0, hB0, hS, hU⟩ := boxed2 w #[Value.int IntKind.i64 a.al, Value.slice A a.nx.length c, Value.slice B a.ac.length d] 32 #[Value.int IntKind.i64 (i : Nat)] 3
  have ha0 := hid (ha.later hB0)
  have p0 := hS 0 _ rfl _ (Below.refl _ _)
  have p1 := hS 1 _ rfl _ (Below.refl _ _)
  have p2 := hS 2 _ rfl _ (Below.refl _ _)
  replace ha := hid ha
  have hok' := hid hok
  clear hok
  unfold AG.Au.val
  go_enter Tryd.func59, Tryd.ntmps59
  go_wp2_with fail
  refine (implAutomatonValid_any a A B c d w0 ha0.out).mono ?_
  rintro e w1 ⟨rfl, hb1⟩
  rw [hok'.out]
  have hB1 := hB0.trans (hb1.mono hB0.size)
  have hC1 := hb1.mono hz0
  have ha1 := hid (ha0.out.later hb1)
  have hz1 := hb1.size
  clear p0 p1 p2
  have p0 := hS 0 _ rfl _ hC1
  have p1 := hS 1 _ rfl _ hC1
  have p2 := hS 2 _ rfl _ hC1
  have hgoal := hid (show GoalOk w1 a.nx.length (fun q => decide (q = i)) 127 #[.pointer (some ⟨w.heap.size + 1, 0, none⟩)] from
    ⟨fun args w' => by go_simp, fun w' q hb _ => accGoal2_any (w.heap.size + 1) i q w' (hU 0 _ rfl w' (hC1.trans (hb.mono (by omega))))⟩)
  clear hU
  go_wp2_with fail
  refine (firstFrom_any a A B c d _ 127 _ w1 hok'.out hgoal.out ha1.out).mono ?_
  rintro e w2 ⟨o, rfl, hout, hb2⟩
  obtain ⟨Sv, Fv, hpv⟩ : ∃ Sv Fv, pathV o = .tuple #[.string Sv, .bool Fv] := ⟨_, _, rfl⟩
  rw [hpv]
  have hpv' := hid hpv
  replace hout := hid hout
  have hB2 := hB1.trans (hb2.mono hB1.size)
  clear hpv p0 p1 p2
  go_wp2_with fail
  go_ret2
  exact ⟨o, by rw [hpv'.out]; rfl, hout.out, hB2⟩

end Go.Proofs.YtolnlkccbndkcaaDoor

/- The reference's l2Step, l6Comparable. -/
namespace Go.Proofs.YtolnlkccbndkcaaDoor
open Go.RowKit Go.BigFrame AG

set_option maxHeartbeats 1000000 in
theorem l2Step_any (s : Sy) (A : Option Addr) (c : Nat) (S : Nat) (l : Int) (w : World) (hs : edgesIn s) (hl : s.es.length ≤ c) (hc : c ≤ 9223372036854775807) (hr : EdsAt w w.heap.size A s.es) :
    Calls Tryd.prog 133 #[s.val A c, .int .i64 S, .int .i64 l] w fun e w' => e = .returned (.int .i64 (stepSet s S l : Nat)) ∧ Below w.heap.size w w' := by
  unfold Sy.val
  replace hr := hid hr
  replace hs := hid hs
  go_enter Tryd.func133, Tryd.ntmps133
  go_wp2_with fail
  obtain ⟨w0, hw0, hz0, hB0, hS0, hS1, hS2⟩ := boxed3 w (Value.int IntKind.i64 s.al) (Value.int IntKind.i64 s.st) (Value.slice A s.es.length c) 25
  rw [hw0]
  clear hw0
  go_loopw [7, 8] (fun st i wr => ∃ (U k : Nat), st = .int .i64 U ∧ i = .int .i64 k ∧ k ≤ s.es.length ∧ U = stTo s S l k ∧ Below (w.heap.size + 1) w0 wr) (fun _ i _ => s.es.length - (intOf i).toNat)
  case atStart => exact ⟨0, 0, rfl, rfl, by omega, (stTo_zero s S l).symm, Below.refl _ _⟩
  case round =>
    obtain ⟨U, k, rfl, rfl, hk, hU, hb1⟩ := hrel
    have hUl := stTo_lt s S l k
    rw [← hU] at hUl
    replace hU := hid hU
    have q0 := hS0 _ hb1
    have q1 := hS1 _ hb1
    have q2 := hS2 _ hb1
    by_cases hlt : k < s.es.length
    · obtain ⟨b, o, rfl, hB, hE⟩ := hr.out.get hB0 (Nat.le_succ w.heap.size) hlt
      obtain ⟨e0, e1, e2⟩ := hE k hlt
      replace e0 := e0 _ hb1
      replace e1 := e1 _ hb1
      replace e2 := e2 _ hb1
      obtain ⟨f1, f2, f3, f4, f5, f6, f7, _⟩ := hs.out s.es[k] (List.getElem_mem _)
      have hw3 := hid (bits_orN U (2 ^ s.es[k].t.toNat) (by omega) (by have := Nat.pow_lt_pow_right (a := 2) (by omega) (show s.es[k].t.toNat < 16 by omega); omega))
      replace hE := hid hE
      go_wp2_with (first | (go_at_call 106; refine (l1Has_any _ _ _ (by omega) (by omega)).mono ?_; rintro e w' ⟨rfl, rfl⟩) | (go_at_call 145; refine (l1Bit_int _ _ (by omega) (by omega)).mono ?_; rintro e w' ⟨rfl, rfl⟩))
      · go_roundw
        case rel =>
          refine ⟨U ||| 2 ^ s.es[k].t.toNat, k + 1, ?_, by go_num, by omega, ?_, by (repeat (first | exact Below.refl _ _ | assumption | refine Below.drew ?_ | refine Below.alloc ?_ (by first | omega | (simp; done) | (simp; omega)) _ | refine Below.setCell ?_ (by first | omega | (simp; done) | (simp; omega)) _))⟩
          · rw [← hw3.out, Int.natCast_pow]
            rfl
          · rw [stTo_hit hs.out hlt (by assumption) (by rw [← Has_nat]; assumption), hU.out]
        case measure => simp [intOf]; omega
      all_goals
        go_roundw
        case rel => exact ⟨U, k + 1, rfl, by go_num, by omega, by rw [stTo_miss hlt (by rw [← Has_nat]; simp_all), hU.out], by (repeat (first | exact Below.refl _ _ | assumption | refine Below.drew ?_ | refine Below.alloc ?_ (by first | omega | (simp; done) | (simp; omega)) _ | refine Below.setCell ?_ (by first | omega | (simp; done) | (simp; omega)) _))⟩
        case measure => simp [intOf]; omega
    · obtain rfl : k = s.es.length := by omega
      rw [stTo_all] at hU
      go_wp2
      go_ret
      exact ⟨by rw [← hU.out]; rfl, hB0.trans (hb1.mono (by omega))⟩

end Go.Proofs.YtolnlkccbndkcaaDoor
