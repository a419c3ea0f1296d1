/- Lemmas, part 16: several texts in one. -/
import Derived.Test.YtempjhgajcdibaaDoorK7
import Derived.Test.YtempjhgajcdibaaDoorK6
import Derived.Test.YtempjhgajcdibaaDoorK1
import Derived.Test.YtempjhgajcdibaaDoorK3
import Derived.Maps.Own
import Derived.Maps.OwnOps
import Derived.Maps.Range
import Derived.Maps.RangeWalk
import Derived.Maps.Views
import Derived.Deep.DeepCutAuto
import Derived.Test.YtempjhgajcdibaaDoorK5
import Derived.Test.YtempjhgajcdibaaDoorK8
set_option linter.unusedSimpArgs false
set_option linter.unusedVariables false

/- Plain: how many words lead somewhere. -/
namespace AG

/-- All words of a length over the letters L. -/
def wordsOf (L : List Nat) : Nat → List (List Nat)
  | 0 => [[]]
  | k + 1 => (wordsOf L k).flatMap fun r => L.map fun l => l :: r
theorem sum_const {α : Type} (c : Nat) : ∀ W : List α, (W.map fun _ => c).sum = W.length * c
  | [] => by simp
  | _ :: W => by
    have := sum_const c W
    simp only [List.map_cons, List.sum_cons, List.length_cons, this, Nat.add_mul]
    omega
theorem wordsOf_len (L : List Nat) : ∀ k, (wordsOf L k).length = L.length ^ k
  | 0 => rfl
  | k + 1 => by
    have ih := wordsOf_len L k
    rw [wordsOf, List.length_flatMap]
    have : ((wordsOf L k).map fun r => (L.map fun l => l :: r).length) = (wordsOf L k).map fun _ => L.length := by
      congr 1; funext r; simp
    rw [this, sum_const, ih, Nat.pow_succ]
theorem wordsOf_mem {L : List Nat} : ∀ {k : Nat} {r : List Nat}, r ∈ wordsOf L k → ∀ l ∈ r, l ∈ L
  | 0, r, h, l, hl => by
    have : r = [] := by simpa [wordsOf] using h
    subst this
    cases hl
  | k + 1, r, h, l, hl => by
    rw [wordsOf, List.mem_flatMap] at h
    obtain ⟨q, hq, hr⟩ := h
    obtain ⟨x, hx, rfl⟩ := List.mem_map.1 hr
    rcases List.mem_cons.1 hl with rfl | hl
    · exact hx
    · exact wordsOf_mem hq l hl

/-- How many words of length k lead from the start to exactly the set T. -/
noncomputable def cntW (s : Sy) (L : List Nat) (k T : Nat) : Nat := (wordsOf L k).countP fun r => decide (setW s r = T)
/-- How many are traces. -/
noncomputable def trW (s : Sy) (L : List Nat) (k : Nat) : Nat := (wordsOf L k).countP fun r => decide (setW s r ≠ 0)
/-- How many letters lead from S to T; how many lead anywhere. -/
noncomputable def hitL (s : Sy) (L : List Nat) (S T : Nat) : Nat := L.countP fun (l : Nat) => decide (stepSet s S (l : Int) = T)
noncomputable def anyL (s : Sy) (L : List Nat) (S : Nat) : Nat := L.countP fun (l : Nat) => decide (stepSet s S (l : Int) ≠ 0)

theorem countP_flat {α : Type} (p : α → Bool) (f : List Nat → List α) : ∀ W : List (List Nat), (W.flatMap f).countP p = (W.map fun r => (f r).countP p).sum
  | [] => rfl
  | r :: W => by rw [List.flatMap_cons, List.countP_append, countP_flat p f W]; rfl
theorem cntW_succ (s : Sy) (L : List Nat) (k T : Nat) : cntW s L (k + 1) T = ((wordsOf L k).map fun r => hitL s L (setW s r) T).sum := by
  unfold cntW hitL
  rw [wordsOf, countP_flat]
  congr 1
  congr 1
  funext r
  rw [List.countP_map]
  rfl
theorem trW_succ (s : Sy) (L : List Nat) (k : Nat) : trW s L (k + 1) = ((wordsOf L k).map fun r => anyL s L (setW s r)).sum := by
  unfold trW anyL
  rw [wordsOf, countP_flat]
  congr 1
  congr 1
  funext r
  rw [List.countP_map]
  rfl
theorem hitL_zero (s : Sy) (L : List Nat) {T : Nat} (hT : T ≠ 0) : hitL s L 0 T = 0 := by
  unfold hitL
  rw [List.countP_eq_zero]
  intro l _
  rw [stepSet_zero]
  simpa using fun h => hT h.symm
theorem anyL_zero (s : Sy) (L : List Nat) : anyL s L 0 = 0 := by
  unfold anyL
  rw [List.countP_eq_zero]
  intro l _
  rw [stepSet_zero]
  simp

theorem sum_map_add (f g : Nat → Nat) : ∀ ps : List Nat, (ps.map fun S => f S + g S).sum = (ps.map f).sum + (ps.map g).sum
  | [] => rfl
  | S :: ps => by
    have := sum_map_add f g ps
    simp only [List.map_cons, List.sum_cons, this]
    omega
theorem sum_map_zero {f : Nat → Nat} : ∀ {ps : List Nat}, (∀ S ∈ ps, f S = 0) → (ps.map f).sum = 0
  | [], _ => rfl
  | S :: ps, h => by
    rw [List.map_cons, List.sum_cons, h S List.mem_cons_self, sum_map_zero fun x hx => h x (List.mem_cons_of_mem _ hx)]
/-- One of the sets alone. -/
theorem sum_one {a : Nat} {f : Nat → Nat} : ∀ {ps : List Nat}, ps.Nodup → (a ∉ ps → f a = 0) → (ps.map fun S => if a = S then f S else 0).sum = f a
  | [], _, h => by simpa using (h (by simp)).symm
  | S :: ps, hn, h => by
    rw [List.nodup_cons] at hn
    rw [List.map_cons, List.sum_cons]
    by_cases e : a = S
    · subst e
      rw [if_pos rfl, sum_map_zero]
      · omega
      · intro x hx
        rw [if_neg]
        rintro rfl
        exact hn.1 hx
    · rw [if_neg e, Nat.zero_add]
      refine sum_one hn.2 fun hm => h ?_
      rw [List.mem_cons]
      exact fun hh => hh.elim e hm
/-- A sum over words, sorted by the sets to which they lead. -/
theorem sum_groups (g : List Nat → Nat) (f : Nat → Nat) {ps : List Nat} (hn : ps.Nodup) : ∀ W : List (List Nat), (∀ r ∈ W, g r ∉ ps → f (g r) = 0) →
    (W.map fun r => f (g r)).sum = (ps.map fun S => W.countP (fun r => decide (g r = S)) * f S).sum
  | [], _ => by simp [sum_map_zero]
  | r :: W, h => by
    have ih := sum_groups g f hn W fun x hx => h x (List.mem_cons_of_mem _ hx)
    rw [List.map_cons, List.sum_cons, ih]
    have e : (ps.map fun S => (r :: W).countP (fun r => decide (g r = S)) * f S) = ps.map fun S => (if g r = S then f S else 0) + W.countP (fun r => decide (g r = S)) * f S := by
      congr 1
      funext S
      rw [List.countP_cons]
      by_cases hh : g r = S
      · simp only [hh, decide_true, if_true, Nat.add_mul, Nat.one_mul]
        omega
      · simp only [hh, decide_false, if_false]
        simp
    rw [e, sum_map_add, sum_one hn (h r List.mem_cons_self)]

/-- The sets that have been gone through, each once, and what they add. -/
noncomputable def addTo (s : Sy) (L : List Nat) (k : Nat) (ps : List Nat) (T : Nat) : Nat := (ps.map fun S => cntW s L k S * hitL s L S T).sum
noncomputable def addAll (s : Sy) (L : List Nat) (k : Nat) (ps : List Nat) : Nat := (ps.map fun S => cntW s L k S * anyL s L S).sum
theorem addTo_done {s : Sy} {L : List Nat} {k : Nat} {ps : List Nat} (hn : ps.Nodup) (h : ∀ S, S ≠ 0 → 0 < cntW s L k S → S ∈ ps) {T : Nat} (hT : T ≠ 0) : addTo s L k ps T = cntW s L (k + 1) T := by
  rw [cntW_succ, sum_groups (setW s) (fun S => hitL s L S T) hn (wordsOf L k)]
  · rfl
  · intro r hr hm
    by_cases h0 : setW s r = 0
    · simp only [h0]
      exact hitL_zero s L hT
    · exact absurd (h _ h0 (List.countP_pos_iff.2 ⟨r, hr, by simp⟩)) hm
theorem addAll_done {s : Sy} {L : List Nat} {k : Nat} {ps : List Nat} (hn : ps.Nodup) (h : ∀ S, S ≠ 0 → 0 < cntW s L k S → S ∈ ps) : addAll s L k ps = trW s L (k + 1) := by
  rw [trW_succ, sum_groups (setW s) (fun S => anyL s L S) hn (wordsOf L k)]
  · rfl
  · intro r hr hm
    by_cases h0 : setW s r = 0
    · simp only [h0]
      exact anyL_zero s L
    · exact absurd (h _ h0 (List.countP_pos_iff.2 ⟨r, hr, by simp⟩)) hm
theorem addTo_snoc (s : Sy) (L : List Nat) (k : Nat) (ps : List Nat) (S T : Nat) : addTo s L k (ps ++ [S]) T = addTo s L k ps T + cntW s L k S * hitL s L S T := by
  unfold addTo
  rw [List.map_append, List.sum_append]
  simp
theorem addAll_snoc (s : Sy) (L : List Nat) (k : Nat) (ps : List Nat) (S : Nat) : addAll s L k (ps ++ [S]) = addAll s L k ps + cntW s L k S * anyL s L S := by
  unfold addAll
  rw [List.map_append, List.sum_append]
  simp
theorem hitL_take {s : Sy} {L : List Nat} {j : Nat} (hj : j < L.length) (S T : Nat) : hitL s (L.take (j + 1)) S T = hitL s (L.take j) S T + if stepSet s S (L[j] : Int) = T then 1 else 0 := by
  unfold hitL
  rw [List.take_succ_eq_append_getElem hj, List.countP_append]
  simp [List.countP_cons]
theorem anyL_take {s : Sy} {L : List Nat} {j : Nat} (hj : j < L.length) (S : Nat) : anyL s (L.take (j + 1)) S = anyL s (L.take j) S + if stepSet s S (L[j] : Int) ≠ 0 then 1 else 0 := by
  unfold anyL
  rw [List.take_succ_eq_append_getElem hj, List.countP_append]
  simp [List.countP_cons]

/-- How great the numbers get. -/
theorem cntW_le (s : Sy) (L : List Nat) (k T : Nat) : cntW s L k T ≤ L.length ^ k := by
  unfold cntW
  rw [← wordsOf_len L k]
  exact List.countP_le_length
theorem trW_le (s : Sy) (L : List Nat) (k : Nat) : trW s L k ≤ L.length ^ k := by
  unfold trW
  rw [← wordsOf_len L k]
  exact List.countP_le_length
theorem pow_le6 {n k : Nat} (hn : n ≤ 6) (hk : k ≤ 8) : n ^ k ≤ 1679616 := by
  have h1 : n ^ k ≤ 6 ^ k := Nat.pow_le_pow_left hn k
  have h2 : 6 ^ k ≤ 6 ^ 8 := Nat.pow_le_pow_right (by omega) hk
  have h3 : (6 : Nat) ^ 8 = 1679616 := by decide
  omega
theorem sum_le_groups (g : List Nat → Nat) (f : Nat → Nat) {ps : List Nat} (hn : ps.Nodup) (hf : ∀ S, f S ≤ 6) (W : List (List Nat)) : (ps.map fun S => W.countP (fun r => decide (g r = S)) * f S).sum ≤ 6 * W.length := by
  have h := sum_groups g (fun S => if S ∈ ps then f S else 0) hn W (fun r _ hm => by simp [hm])
  have e : (ps.map fun S => W.countP (fun r => decide (g r = S)) * f S) = ps.map fun S => W.countP (fun r => decide (g r = S)) * (if S ∈ ps then f S else 0) := List.map_congr_left fun S hS => by rw [if_pos hS]
  rw [e, ← h]
  clear h e
  induction W with
  | nil => simp
  | cons r W ih =>
    rw [List.map_cons, List.sum_cons, List.length_cons]
    have : (if g r ∈ ps then f (g r) else 0) ≤ 6 := by split; exact hf _; omega
    omega
theorem hitL_le {L : List Nat} (hL : L.length ≤ 6) (s : Sy) (S T : Nat) : hitL s L S T ≤ 6 := by unfold hitL; exact Nat.le_trans List.countP_le_length hL
theorem anyL_le {L : List Nat} (hL : L.length ≤ 6) (s : Sy) (S : Nat) : anyL s L S ≤ 6 := by unfold anyL; exact Nat.le_trans List.countP_le_length hL
theorem addTo_le {s : Sy} {L : List Nat} {k : Nat} {ps : List Nat} (hL : L.length ≤ 6) (hk : k ≤ 8) (hn : ps.Nodup) (T : Nat) : addTo s L k ps T ≤ 10077696 := by
  have := sum_le_groups (setW s) (fun S => hitL s L S T) hn (hitL_le hL s · T) (wordsOf L k)
  have h2 := pow_le6 hL hk
  rw [wordsOf_len] at this
  unfold addTo cntW
  omega
theorem addAll_le {s : Sy} {L : List Nat} {k : Nat} {ps : List Nat} (hL : L.length ≤ 6) (hk : k ≤ 8) (hn : ps.Nodup) : addAll s L k ps ≤ 10077696 := by
  have := sum_le_groups (setW s) (fun S => anyL s L S) hn (anyL_le hL s ·) (wordsOf L k)
  have h2 := pow_le6 hL hk
  rw [wordsOf_len] at this
  unfold addAll cntW
  omega

/-- The number of all traces of at most n letters. -/
noncomputable def totW (s : Sy) (L : List Nat) : Nat → Nat
  | 0 => 1
  | n + 1 => totW s L n + trW s L (n + 1)
theorem totW_le {s : Sy} {L : List Nat} (hL : L.length ≤ 6) : ∀ n, n ≤ 8 → totW s L n ≤ 1 + n * 1679616
  | 0, _ => by simp [totW]
  | n + 1, h => by
    have ih := totW_le (s := s) hL n (by omega)
    have h1 := trW_le s L (n + 1)
    have h2 := pow_le6 hL (k := n + 1) (by omega)
    rw [totW]
    omega
theorem trW_mono {s t : Sy} {L : List Nat} (h : ∀ r, (∀ l ∈ r, l ∈ L) → setW s r ≠ 0 → setW t r ≠ 0) (k : Nat) : trW s L k ≤ trW t L k := by
  unfold trW
  refine List.countP_mono_left fun r hr hp => ?_
  have hp' : setW s r ≠ 0 := by simpa using hp
  have := h r (wordsOf_mem hr) hp'
  simpa using this
theorem totW_mono {s t : Sy} {L : List Nat} (h : ∀ r, (∀ l ∈ r, l ∈ L) → setW s r ≠ 0 → setW t r ≠ 0) : ∀ n, totW s L n ≤ totW t L n
  | 0 => Nat.le_refl _
  | n + 1 => Nat.add_le_add (totW_mono h n) (trW_mono h (n + 1))
theorem cntW_zero (s : Sy) (L : List Nat) (T : Nat) : cntW s L 0 T = if T = 1 then 1 else 0 := by
  unfold cntW
  show ([[]] : List (List Nat)).countP _ = _
  have : setW s [] = 1 := rfl
  by_cases h : T = 1
  · subst h
    simp [this]
  · have h' : ¬ 1 = T := fun e => h e.symm
    simp [this, h, h']
theorem cntW_small {s : Sy} {L : List Nat} {k T : Nat} (h : 0 < cntW s L k T) : T < 65536 := by
  unfold cntW at h
  obtain ⟨r, _, hr⟩ := List.countP_pos_iff.1 h
  have e : setW s r = T := by simpa using hr
  rw [← e]
  exact setW_lt s r

end AG

/- The program's TracesUpTo. -/
namespace Go.Proofs.YtempjhgajcdibaaDoor
open Go.RowKit Go.BigFrame Go.Maps AG

theorem mapLaw : Keyed Tryd.prog 3 := int_keyed Tryd.underlying3
theorem zeroInt (w : World) : (zeroValue 3).run Tryd.prog w = .ok (.int .i64 0) w := by kernel_rfl

/-- An entry of a map that is written out: as a store. -/
theorem wpList_insert_own {H : Type} {P : Program} (w : World) {ops : Array Oper} {rest : List Oper} {o : Oper} {a : Act} {Q : Exit → Act → World → Prop}
    (hg : o.guard = none) (m x v : Operand) (t : TypeId) (hop : o.op = Op.insert t m x v)
    (k e : TypeId) (K : Keyed P k) (ht : P.underlying t = some (.map k e)) (R : Value → Option (DataW H × List MemPlace)) (b n : Nat) (D : DataW H)
    (hm : a.eval m = .map (some b)) (hown : w.ownsMap P k R b n D) (hn : n < maxLen) (key val : Value) (kl : Lit) (hx : a.eval x = key) (hv : a.eval v = val) (hkey : keyOf P k key = some kl)
    (d : DataW H) (ps : List MemPlace) (hval : R val = some (d, ps))
    (hK : ∀ w', w'.ownsMap P k R b (n + 1) (D.put kl d) → w.grownBy w' (some b) → wpList P ops Q rest (a.put o.dst undef) w') :
    wpList P ops Q (o :: rest) a w := by
  refine wpList_plain hg fun K' hK' => ?_
  obtain ⟨w', hrun, r1, r2⟩ := hown.update K ht hn hkey hval
  unfold Oper.wp
  simp [execOp, hop, hm, hx, hv, hrun, Result.andThen]
  exact hK' _ _ (hK w' r1 r2)

/-- A map reads as a function: no entry, no number. -/
structure MapFn (D : DataW Unit) (v : Nat → Nat) : Prop where
  isMap : Maps.IsMap D
  at_ : ∀ T : Nat, D.atKey (.int .i64 (T : Int)) (.lit (.int .i64 0)) = .lit (.int .i64 ((v T : Nat) : Int))
  has : ∀ kl, Maps.has D kl = true → ∃ T : Nat, kl = .int .i64 (T : Int) ∧ 0 < v T ∧ T ≠ 0 ∧ T < 65536
  pos : ∀ T : Nat, 0 < v T → Maps.has D (.int .i64 (T : Int)) = true
theorem MapFn.empty : MapFn (.map []) (fun _ => 0) :=
  ⟨Maps.isMap_empty, fun T => Maps.atKey_of_not_has rfl _, fun kl h => (by cases h), fun T h => (by cases h)⟩
theorem key_ne {x T : Nat} (h : x ≠ T) : Lit.int .i64 (x : Int) ≠ Lit.int .i64 (T : Int) := fun e => by
  injection e with _ e
  exact h (by omega)
theorem MapFn.put {D : DataW Unit} {v : Nat → Nat} (h : MapFn D v) {T c : Nat} (hT : T ≠ 0) (hT2 : T < 65536) (hc : 0 < c) :
    MapFn (D.put (.int .i64 (T : Int)) (.lit (.int .i64 ((v T + c : Nat) : Int)))) (fun x => if x = T then v T + c else v x) := by
  refine ⟨h.isMap.put _ _, fun x => ?_, fun kl hk => ?_, fun x hx => ?_⟩
  · by_cases e : x = T
    · subst e
      rw [Maps.atKey_put_same h.isMap (show WideAt.IsKeyLit (Lit.int .i64 (x : Int)) from trivial), if_pos rfl]
    · rw [Maps.atKey_put_other (key_ne e), h.at_ x, if_neg e]
  · by_cases e : kl = .int .i64 (T : Int)
    · exact ⟨T, e, by rw [if_pos rfl]; omega, hT, hT2⟩
    · rw [Maps.has_put_other e] at hk
      obtain ⟨x, h1, h2, h3, h4⟩ := h.has kl hk
      have : x ≠ T := fun e' => e (by rw [h1, e'])
      exact ⟨x, h1, by rw [if_neg this]; exact h2, h3, h4⟩
  · by_cases e : x = T
    · subst e
      exact Maps.has_put_same h.isMap (show WideAt.IsKeyLit (Lit.int .i64 (x : Int)) from trivial) _
    · rw [if_neg e] at hx
      rw [Maps.has_put_other (key_ne e)]
      exact h.pos x hx
theorem MapFn.congr {D : DataW Unit} {v v' : Nat → Nat} (h : MapFn D v) (e : ∀ T, v T = v' T) : MapFn D v' := by
  have : v = v' := funext e
  rw [← this]
  exact h
theorem grown_of_below {w w' : World} (hb : Below w.heap.size w w') : w.grownBy w' none := ⟨hb.os, hb.tape, hb.output, hb.size, fun i hi _ => hb.block i hi⟩

theorem wf64 {a : Int} (h1 : -9223372036854775808 ≤ a) (h2 : a ≤ 9223372036854775807) : (Lit.int .i64 a).wf = true := by
  unfold Lit.wf
  simp [IntKind.min, IntKind.max, IntKind.signed, IntKind.bits]
  omega

/-- The state of the count: a map of sets. -/
structure CntSt (s : Sy) (L : List Nat) (k : Nat) (w : World) (B n0 : Nat) (D : DataW Unit) : Prop where
  own : w.ownsMap Tryd.prog 3 (plainElem Tryd.prog 3) B n0 D
  num : n0 ≤ 100000000
  fn : MapFn D (fun S => if S = 0 then 0 else cntW s L k S)

theorem sum_le_len {f : Nat → Nat} : ∀ {ps : List Nat}, (∀ S ∈ ps, 0 < f S) → ps.length ≤ (ps.map f).sum
  | [], _ => Nat.le_refl _
  | S :: ps, h => by
    have h1 := h S List.mem_cons_self
    have h2 := sum_le_len (f := f) (ps := ps) fun x hx => h x (List.mem_cons_of_mem _ hx)
    rw [List.length_cons, List.map_cons, List.sum_cons]
    omega
theorem keys_len {s : Sy} {L : List Nat} {k : Nat} {ps : List Nat} (hL : L.length ≤ 6) (hk : k ≤ 8) (hn : ps.Nodup) (h : ∀ S ∈ ps, 0 < cntW s L k S) : ps.length ≤ 10077696 := by
  have h1 := sum_le_len h
  have h2 := sum_le_groups (setW s) (fun _ => 1) hn (fun _ => by omega) (wordsOf L k)
  have h3 := pow_le6 hL hk
  rw [wordsOf_len] at h2
  simp only [Nat.mul_one] at h2
  unfold cntW at h1
  omega
theorem sameKey_int (x y : Int) : (Lit.int .i64 x).sameKey (.int .i64 y) = decide (x = y) := by
  by_cases e : x = y
  · subst e
    simp [Lit.sameKey]
  · rw [decide_eq_false e]
    exact Maps.sameKey_ne (fun h => e (by injection h))

set_option maxRecDepth 100000 in
set_option maxHeartbeats 8000000 in
theorem implTracesUpTo_any (s : Sy) (A : Option Addr) (c n : Nat) (w : World) (hok : sysOk s = true) (hn : n ≤ 7) (hl : s.es.length ≤ c) (hc : c ≤ 9223372036854775807) (hT : Tab w) (hr : EdsAt w w.heap.size A s.es) :
    Calls Tryd.prog 36 #[s.val A c, .int .i64 (n : Nat)] w fun e w' => e = .returned (.int .i64 (totW s (letters s.al) n : Nat)) ∧ Below w.heap.size w w' := by
  unfold Sy.val
  have hmm := @run_makeMap Tryd.prog
  obtain ⟨w0, hw0, hz0, hB0, hS0, hS1, hS2⟩ := boxed3 w (Value.int IntKind.i64 s.al) (Value.int IntKind.i64 s.st) (Value.slice A s.es.length c) 25
  have hr0 := hid (hr.later hB0)
  have p0 := hS0 _ (Below.refl _ _)
  have p1 := hS1 _ (Below.refl _ _)
  have p2 := hS2 _ (Below.refl _ _)
  have hin := hid (sysOk_in hok)
  replace hok := hid hok
  replace hr := hid hr
  replace hT := hid hT
  go_enter Tryd.func36, Tryd.ntmps36
  go_wp2_with fail
  refine (implSystemValid_any s A c w0 hl hc hr0.out).mono ?_
  rintro e w1 ⟨rfl, hb1⟩
  rw [hok.out]
  have hB1 := hB0.trans (hb1.mono (by omega))
  have hC1 := hb1.mono hz0
  clear p0 p1 p2 hw0
  have p0 := hS0 _ hC1
  have p1 := hS1 _ hC1
  have p2 := hS2 _ hC1
  have hr1 := hid (hr0.out.later hb1)
  have hz1 := hb1.size
  go_wp2_with fail
  refine (movesOf_any s A c w1 hin.out hl hc hr1.out).mono ?_
  rintro e w2 ⟨g, rfl, hg, hb2⟩
  have hB2 := hid (hB1.trans (hb2.mono hB1.size))
  have hC2 := hid (hC1.trans (hb2.mono (by omega)))
  have hT2 := hid (hT.out.later hB2.out)
  have hz2 := hb2.size
  replace hg := hid hg
  clear p0 p1 p2 hC1 hb1 hb2 hB1
  have hmade := World.ownsMap_made (H := Unit) w2 Tryd.prog 3 (plainElem Tryd.prog 3)
  go_upto_region 4 with fail
  go_wp2_with (refine wpList_insert_own _ rfl _ _ _ 95 rfl 3 3 mapLaw Tryd.underlying95 (plainElem Tryd.prog 3) w2.heap.size 0 _ rfl hmade (by unfold maxLen; omega) _ _ (.int .i64 1) rfl rfl (keyOf_int_mk Tryd.underlying3 (by decide)) (.lit (.int .i64 1)) [] (plainElem_int Tryd.underlying3 (by decide)) ?_)
  intro w3 hown3 hgrow3
  have hB3 : Below w2.heap.size w2 w3 := ((Below.refl _ _).alloc (Nat.le_refl _) (.map #[] 0)).grown hgrow3 (by simp) (fun k hk => by cases hk; exact Nat.le_refl _)
  obtain ⟨L, hL⟩ : ∃ L, Hid (L = letters s.al) := ⟨_, hid rfl⟩
  have hL6 : L.length ≤ 6 := by rw [hL.out]; exact lettersTo_len s.al 6
  have hst3 : Hid (CntSt s L 0 w3 w2.heap.size 1 ((DataW.map []).put (Lit.int IntKind.i64 1) (DataW.lit (Lit.int IntKind.i64 1)))) := hid ⟨hown3, by omega, (MapFn.empty.put (T := 1) (c := 1) (by omega) (by omega) (by omega)).congr fun T => by
    rw [cntW_zero]
    by_cases h1 : T = 1
    · subst h1; simp
    · simp [h1]⟩
  replace hB3 := hid hB3
  replace hgrow3 := hid hgrow3
  clear hown3 hmade
  have hn8 : Hid (n ≤ 7) := hid hn
  go_wp2_with fail
  go_loopw [6, 7, 30] (fun cm tv iv wr => ∃ (k B n0 : Nat) (D : DataW Unit), cm = .map (some B) ∧ tv = .int .i64 (totW s L k : Nat) ∧ iv = .int .i64 (k : Nat) ∧ k ≤ n ∧ CntSt s L k wr B n0 D ∧ w2.heap.size ≤ B ∧ Below w2.heap.size w2 wr) (fun _ _ iv _ => n - (intOf iv).toNat)
  case atStart => exact ⟨0, _, _, _, rfl, rfl, rfl, by omega, hst3.out, Nat.le_refl _, hB3.out⟩
  case round =>
    clear hst3 hB3 hgrow3
    obtain ⟨wo, rfl⟩ : ∃ wo : World, wo = wr := ⟨_, rfl⟩
    obtain ⟨k, B, n0, D, rfl, rfl, rfl, hk, hst, hBB, hb⟩ := hrel
    have hbr := hid hb
    have hCr := hC2.out.trans (hb.mono (by have := hC2.out.size; omega))
    have p0 := hS0 _ hCr
    have p1 := hS1 _ hCr
    have p2 := hS2 _ hCr
    have hzr := hb.size
    have hBlt := hst.own.lt
    clear hCr hb
    by_cases hlt : k < n
    · have hown' := hst.own.alloc (.map #[] 0)
      have hmade' := World.ownsMap_made (H := Unit) wo Tryd.prog 3 (plainElem Tryd.prog 3)
      replace hst := hid hst
      go_wp2_with (at_range; refine wpList_range_own _ rfl _ 95 rfl 3 3 mapLaw Tryd.underlying95 (plainElem Tryd.prog 3) B n0 D rfl hown' ?_)
      intro w4 hrg4 hg4 hs4
      try go_frame
      have hnx4 := hmade'.kept hg4 (by simp)
      have hB4 : Below w2.heap.size w2 w4 := hbr.out.trans ((((Below.refl _ wo).alloc (Nat.le_refl _) (.map #[] 0)).grown hg4 (by simp) (fun k hk => by cases hk)).mono hzr)
      have hz4 := hs4
      clear hmade' hown' hg4 hs4
      go_wp2_with fail
      go_loopw [7] (fun tv wq => ∃ (ps : List Nat) (D2 : DataW Unit) (left : Lit → Bool) (cnt : Nat), tv = .int .i64 (totW s L k + addAll s L k ps : Nat) ∧ ps.Nodup ∧ (∀ S ∈ ps, 0 < cntW s L k S) ∧ wq.ranges Tryd.prog 3 (plainElem Tryd.prog 3) B (wo.heap.size + 1) n0 D left cnt ∧ (∀ kl, left kl = true → Maps.has D kl = true) ∧
        (∀ S : Nat, Maps.has D (.int .i64 (S : Int)) = true → left (.int .i64 (S : Int)) = decide (S ∉ ps)) ∧ wq.ownsMap Tryd.prog 3 (plainElem Tryd.prog 3) wo.heap.size (6 * ps.length) D2 ∧ MapFn D2 (fun T => if T = 0 then 0 else addTo s L k ps T) ∧ wo.heap.size + 2 ≤ wq.heap.size ∧ Below w2.heap.size w2 wq) (fun _ wq => wq.rangeLeft B (wo.heap.size + 1))
      case atStart => exact ⟨[], _, _, _, by rfl, List.nodup_nil, (fun S h => by cases h), hrg4, (fun _ h => h), (fun S h => by simpa using h), hnx4, MapFn.empty.congr (fun T => by simp [addTo]), by omega, hB4⟩
      case round =>
        clear hrg4 hnx4 hB4
        obtain ⟨ps, D2, left, cnt, rfl, hnd, hpos, hrg, hlh, hlp, hown2, hfn2, hzq, hb2⟩ := hrel
        have hwr : w2.heap.size ≤ wo.heap.size := hzr
        have hall := addAll_le (s := s) (k := k) (ps := ps) hL6 (by have := hn8.out; omega) hnd
        have htot := totW_le (s := s) (L := L) hL6 k (by have := hn8.out; omega)
        have hpl := keys_len hL6 (by have := hn8.out; omega) hnd hpos
        replace hpos := hid hpos
        replace hlh := hid hlh
        replace hlp := hid hlp
        replace hfn2 := hid hfn2
        replace hnd := hid hnd
        replace hown2 := hid hown2
        go_wp2_with (at_next; refine wpList_next_ranges_ii _ rfl _ rfl 3 3 .i64 .i64 mapLaw Tryd.underlying3 Tryd.underlying3 B (wo.heap.size + 1) n0 D left cnt rfl hrg ?_ ?_)
        · intro _ hl0
          have hmem : ∀ S, S ≠ 0 → 0 < cntW s L k S → S ∈ ps := fun S h0 h1 => by
            have h2 := hst.out.fn.pos S (by rw [if_neg h0]; exact h1)
            have h3 := hlp.out S h2
            rw [hl0] at h3
            simpa using h3.symm
          have hkk := hid (hfn2.out.congr (v' := fun S => if S = 0 then 0 else cntW s L (k + 1) S) fun T => by
            by_cases h0 : T = 0
            · rw [if_pos h0, if_pos h0]
            · rw [if_neg h0, if_neg h0]; exact addTo_done hnd.out hmem h0)
          have htt : Hid (totW s L k + addAll s L k ps = totW s L (k + 1)) := hid (by rw [addAll_done hnd.out hmem]; rfl)
          clear hmem hl0 hrg
          go_wp2_with fail
          go_roundw
          case rel => exact ⟨k + 1, wo.heap.size, 6 * ps.length, D2, rfl, by rw [← htt.out]; first | rfl | (simp; done) | trace_state, by go_num, by omega, ⟨hown2.out, by omega, hkk.out⟩, hwr, hb2⟩
          case measure => simp [intOf]; omega
        · intro x c0 w5 cnt5 hwx hwc hlx hat hrg5 hlt5 hg5 hs5 hen
          obtain ⟨S, hS, hvS, hS0', hS16⟩ := hst.out.fn.has _ (hlh.out _ hlx)
          obtain rfl : x = (S : Int) := by injection hS
          have hc0 : c0 = ((cntW s L k S : Nat) : Int) := by
            have e := hat (.lit (.int .i64 0))
            rw [hst.out.fn.at_ S, if_neg hS0'] at e
            injection e with e
            injection e with _ e
            exact e.symm
          obtain ⟨q, hq⟩ : ∃ q, q = cntW s L k S := ⟨_, rfl⟩
          rw [← hq] at hc0
          subst hc0
          rw [if_neg hS0', ← hq] at hvS
          have hq8 : q ≤ 1679616 := by
            have h1 := cntW_le s L k S
            have h2 := pow_le6 hL6 (k := k) (by have := hn8.out; omega)
            omega
          have hnp : S ∉ ps := by
            have h1 := hlp.out S (hst.out.fn.pos S (by rw [if_neg hS0', ← hq]; exact hvS))
            rw [hlx] at h1
            simpa using h1.symm
          have hown5 := hown2.out.kept hg5 (by simp)
          have hb5 := hb2.grown hg5 (by have := hb2.size; exact this) (fun k hk => by cases hk; omega)
          have hC5 := hC2.out.trans (hb5.mono (by have := hC2.out.size; omega))
          have q0 := hS0 _ hC5
          have q1 := hS1 _ hC5
          have q2 := hS2 _ hC5
          have hz5 := hb5.size
          replace hq := hid hq
          replace hnp := hid hnp
          replace hS := hid hS
          replace hvS := hid hvS
          replace hlx := hid hlx
          replace hat := hid hat
          have hle0 := hid hrg.left_eq
          clear p0 p1 p2 hrg hC5 hg5
          go_wp2_with fail
          refine (lettersOf_any s.al w5).mono ?_
          rintro e w6 ⟨lv, rfl, hown6, hb6⟩
          rw [← hL.out] at hown6
          obtain ⟨AL, cL, hvl, hcl, hcl'⟩ := own_slice hown6
          subst hvl
          have hrg6 := hrg5.kept (grown_of_below hb6) (by simp) (by simp)
          have hown26 := hown5.kept (grown_of_below hb6) (by simp)
          have hb6' := hb5.trans (hb6.mono hz5)
          have hz6 := hb6.size
          replace hown6 := hid hown6
          clear hrg5 hown5 hb5 hb6 q0 q1 q2
          go_wp2_with fail
          go_loopw [7, 44] (fun tv jv wq => ∃ (j : Nat) (D3 : DataW Unit), jv = .int .i64 (j : Nat) ∧ j ≤ L.length ∧ tv = .int .i64 (totW s L k + addAll s L k ps + q * anyL s (L.take j) S : Nat) ∧ wq.ranges Tryd.prog 3 (plainElem Tryd.prog 3) B (wo.heap.size + 1) n0 D (fun z => left z && !z.sameKey (.int .i64 (S : Int))) cnt5 ∧
            wq.ownsMap Tryd.prog 3 (plainElem Tryd.prog 3) wo.heap.size (6 * ps.length + j) D3 ∧ MapFn D3 (fun T => if T = 0 then 0 else addTo s L k ps T + q * hitL s (L.take j) S T) ∧ KeepB (fun b => b = wo.heap.size) w6 wq ∧ Below w2.heap.size w2 wq) (fun _ jv _ => L.length - (intOf jv).toNat)
          case atStart => exact ⟨0, D2, rfl, by omega, by first | rfl | (simp [anyL]; done), hrg6, hown26, hfn2.out.congr (fun T => by simp [hitL]), KeepB.refl _ _, hb6'⟩
          case round =>
            clear hrg6 hown26 hb6'
            obtain ⟨j, D3, rfl, hj, rfl, hrg7, hown7, hfn7, hk7, hb7⟩ := hrel
            have hany := anyL_le (L := L.take j) (by rw [List.length_take]; omega) s S
            have hqa : q * anyL s (L.take j) S ≤ 10077696 := Nat.le_trans (Nat.mul_le_mul hq8 hany) (by omega)
            by_cases hjl : j < L.length
            · have hown7L := own_keep hown6.out hk7 (fun g hg => by have := (World.ownsRow.lt hown6.out g hg).1; omega)
              obtain ⟨gL, capL, hve, hgL1, hgL2, -, -, hLs⟩ := own_nats hown7L (by omega)
              cases hve
              have l0 := hLs j hjl
              obtain ⟨l, hl'⟩ : ∃ l, Hid (l = L[j]) := ⟨_, hid rfl⟩
              rw [← hl'.out] at l0
              have hl6 : l < 6 := (letters_lt (A := s.al) (by rw [← hL.out, hl'.out]; exact List.getElem_mem _)).1
              have k1 : (0 : Int) ≤ (j : Int) ∧ (j : Int) < (L.length : Int) := by omega
              have hT7 := hid (hT2.out.later hb7)
              have hg7 := hid (hg.out.later hb7)
              have hun := unionOf_mv s hin.out S l
              have hi1 := hitL_take (s := s) hjl S
              have ha1 := anyL_take (s := s) hjl S
              rw [← hl'.out] at hi1 ha1
              obtain ⟨X, hX⟩ : ∃ X, X = stepSet s S (l : Int) := ⟨_, rfl⟩
              have hXl : X < 65536 := by rw [hX]; exact stepSet_lt _ _ _
              rw [← hX] at hun hi1 ha1
              replace hi1 := hid hi1
              replace ha1 := hid ha1
              replace hX := hid hX
              replace hLs := hid hLs
              replace hun := hid hun
              clear hown7L
              go_wp2_with fail
              refine (step_any (mv s) g S l _ hl6 (fun p => mv_lt s p l) hS16 hT7.out hg7.out).mono ?_
              rintro e w8 ⟨rfl, hb8⟩
              rw [hun.out]
              have hrg8 := hrg7.kept (grown_of_below hb8) (by simp) (by simp)
              have hown8 := hown7.kept (grown_of_below hb8) (by simp)
              have hk8 := hk7.trans (KeepB.of_below (K := fun b => b = wo.heap.size) hb8)
              have hb8' := hb7.trans (hb8.mono hb7.size)
              replace hfn7 := hid hfn7
              clear hrg7 hown7 hk7 hb7 l0
              by_cases hX0 : X = 0
              · have hXb : ((X : Int) != 0) = false := by simp [hX0]
                have hfn8 := hid (hfn7.out.congr (v' := fun T => if T = 0 then 0 else addTo s L k ps T + q * hitL s (L.take (j + 1)) S T) fun T => by
                  by_cases h0 : T = 0
                  · rw [if_pos h0, if_pos h0]
                  · rw [if_neg h0, if_neg h0, hi1.out T, if_neg (by omega), Nat.add_zero])
                have hta : Hid (totW s L k + addAll s L k ps + q * anyL s (L.take j) S = totW s L k + addAll s L k ps + q * anyL s (L.take (j + 1)) S) := hid (by rw [ha1.out, if_neg (by omega), Nat.add_zero])
                replace hX0 := hid hX0
                go_wp2_with fail
                go_roundw
                case rel => exact ⟨j + 1, D3, by go_num, by omega, by rw [← hta.out]; first | rfl | (simp; done), hrg8, hown8.mono (by omega), hfn8.out, hk8, hb8'⟩
                case measure => simp [intOf]; omega
              · have hXb : ((X : Int) != 0) = true := by simp; omega
                obtain ⟨vx, hvx⟩ : ∃ vx : Nat, vx = addTo s L k ps X + q * hitL s (L.take j) S X := ⟨_, rfl⟩
                have hatX : D3.atKey (.int .i64 (X : Int)) (.lit (.int .i64 0)) = .lit (.int .i64 (vx : Int)) := by rw [hfn7.out.at_ X, if_neg hX0, hvx]
                have hvl : vx ≤ 20155392 := by
                  have h1 := addTo_le (s := s) (L := L) (k := k) (ps := ps) hL6 (by have := hn8.out; omega) hnd.out X
                  have h2 := hitL_le (L := L.take j) (by rw [List.length_take]; omega) s S X
                  have h3 := Nat.mul_le_mul hq8 h2
                  omega
                have hput := hfn7.out.put (T := X) (c := q) hX0 hXl hvS.out
                have hpv : Hid (((if X = 0 then 0 else addTo s L k ps X + q * hitL s (L.take j) S X : Nat) + q : Nat) = vx + q) := hid (by rw [if_neg hX0, hvx])
                simp only [hpv.out] at hput
                have hfn8 := hid (hput.congr (v' := fun T => if T = 0 then 0 else addTo s L k ps T + q * hitL s (L.take (j + 1)) S T) fun T => by
                  by_cases h1 : T = X
                  · rw [if_pos h1, if_neg (by omega), h1, hi1.out X, if_pos rfl, Nat.mul_add, hvx]
                    omega
                  · rw [if_neg h1]
                    by_cases h0 : T = 0
                    · rw [if_pos h0, if_pos h0]
                    · rw [if_neg h0, if_neg h0, hi1.out T, if_neg (fun e => h1 e.symm), Nat.add_zero])
                have hta : Hid (totW s L k + addAll s L k ps + q * anyL s (L.take j) S + q = totW s L k + addAll s L k ps + q * anyL s (L.take (j + 1)) S) := hid (by rw [ha1.out, if_pos (by simpa using hX0), Nat.mul_add]; omega)
                have hkey : keyOf Tryd.prog 3 (.int .i64 (X : Int)) = some (.int .i64 (X : Int)) := keyOf_int_mk Tryd.underlying3 (wf64 (by omega) (by omega))
                replace hvx := hid hvx
                replace hX0 := hid hX0
                replace hatX := hid hatX
                clear hput
                go_wp2_with (first
                  | (at_lookup; refine wpList_lookup_own_int _ rfl _ _ 95 rfl 3 3 .i64 mapLaw Tryd.underlying95 Tryd.underlying3 (zeroInt _) wo.heap.size _ _ rfl hown8 _ _ rfl hkey ?_; intro c' hat' hwc'; obtain rfl : c' = (vx : Int) := (by have e := hat'.symm.trans hatX.out; injection e with e; injection e))
                  | (at_mapUpdate; refine wpList_mapUpdate_own _ rfl _ _ _ 95 rfl 3 3 mapLaw Tryd.underlying95 _ wo.heap.size _ _ rfl hown8 (by unfold maxLen; omega) _ _ _ rfl rfl hkey _ [] (plainElem_int Tryd.underlying3 (wf64 (by omega) (by omega))) ?_; intro w9 hown9 hgrow9))
                have hrg9 := hrg8.kept hgrow9 (fun e => by injection e with e; omega) (fun e => by injection e with e; omega)
                have hk9 := hk8.grown hgrow9 (fun k hk hlt => by cases hk; rfl)
                have hb9 := hb8'.grown hgrow9 hb8'.size (fun k hk => by cases hk; exact hwr)
                clear hrg8 hown8 hk8 hb8' hgrow9
                go_roundw
                case rel => exact ⟨j + 1, _, by go_num, by omega, by rw [← hta.out]; first | rfl | (simp; done), hrg9, hown9.mono (by omega), hfn8.out, hk9, hb9⟩
                case measure => simp [intOf]; omega
            · obtain rfl : j = L.length := by omega
              rw [List.take_length] at hfn7 hqa hany ⊢
              have hnd2 : Hid ((ps ++ [S]).Nodup) := hid (by
                rw [List.nodup_append]
                exact ⟨hnd.out, by simp, fun a ha b hb e => by rw [List.mem_singleton.1 hb] at e; exact hnp.out (e ▸ ha)⟩)
              have hta : Hid (totW s L k + addAll s L k ps + q * anyL s L S = totW s L k + addAll s L k (ps ++ [S])) := hid (by rw [addAll_snoc, ← hq.out, Nat.add_assoc])
              have hfn8 := hid (hfn7.congr (v' := fun T => if T = 0 then 0 else addTo s L k (ps ++ [S]) T) fun T => by
                by_cases h0 : T = 0
                · rw [if_pos h0, if_pos h0]
                · rw [if_neg h0, if_neg h0, addTo_snoc, ← hq.out])
              have hlh2 : Hid (∀ kl, (left kl && !kl.sameKey (.int .i64 (S : Int))) = true → Maps.has D kl = true) := hid fun kl h => hlh.out kl (by rw [Bool.and_eq_true] at h; exact h.1)
              have hlp2 : Hid (∀ T : Nat, Maps.has D (.int .i64 (T : Int)) = true → (left (.int .i64 (T : Int)) && !(Lit.int .i64 (T : Int)).sameKey (.int .i64 (S : Int))) = decide (T ∉ ps ++ [S])) := hid fun T h => by
                rw [hlp.out T h, sameKey_int, Bool.eq_iff_iff]
                simp only [Bool.and_eq_true, Bool.not_eq_true', decide_eq_true_eq, decide_eq_false_iff_not, List.mem_append, List.mem_singleton, not_or]
                constructor
                · rintro ⟨h1, h2⟩; exact ⟨h1, fun e => h2 (by rw [e])⟩
                · rintro ⟨h1, h2⟩; exact ⟨h1, fun e => h2 (by omega)⟩
              have hps2 : Hid (∀ T ∈ ps ++ [S], 0 < cntW s L k T) := hid fun T h => by
                rcases List.mem_append.1 h with h | h
                · exact hpos.out T h
                · rw [List.mem_singleton.1 h, ← hq.out]; exact hvS.out
              have hsz := hk7.size
              clear hfn7 hk7
              go_wp2_with fail
              go_roundw
              case rel => exact ⟨ps ++ [S], D3, _, cnt5, by rw [← hta.out], hnd2.out, hps2.out, hrg7, hlh2.out, hlp2.out, hown7.mono (by simp only [List.length_append, List.length_singleton]; omega), hfn8.out, by omega, hb7⟩
              case measure => rw [hrg7.left_eq, hle0.out]; exact hlt5
    · obtain rfl : k = n := by omega
      replace hst := hid hst
      go_wp2_with fail
      go_ret
      exact ⟨by rw [hL.out]; rfl, hB2.out.trans (hbr.out.mono hB2.out.size)⟩

end Go.Proofs.YtempjhgajcdibaaDoor

/- The law FnTracesFewer. -/
namespace Go.Proofs.YtempjhgajcdibaaDoor
open Go.RowKit Go.BigFrame AG

theorem within_self (s : Sy) : withinB s s = sysOk s := by
  have h : ∀ q, ¬ AG.Outside s s q := fun q h => h.2.1 h.2.2
  unfold withinB cmpOk
  cases sysOk s <;> simp [h]
theorem within_facts {s t : Sy} (h : withinB s t = true) : sysOk s = true ∧ sysOk t = true ∧ s.al = t.al ∧ ∀ n, totW s (letters s.al) n ≤ totW t (letters s.al) n := by
  unfold withinB cmpOk at h
  simp only [Bool.and_eq_true, decide_eq_true_eq] at h
  refine ⟨h.1.1, h.1.2.1, h.1.2.2, totW_mono fun r hr h1 h2 => h.2 r ⟨hr, h1, h2⟩⟩

set_option maxRecDepth 100000 in
set_option maxHeartbeats 8000000 in
theorem FnTracesFewer_any (A : Option Addr) (n c : Nat) (w : World) (hn : n ≤ c) (hc : c ≤ 9223372036854775807) (hT : Tab w) (hx : CodeAt w A n) :
    Calls Tryd.prog 9 #[.slice A n c] w fun e w' => e = .returned (.bool true) ∧ Below w.heap.size w w' := by
  replace hx := hid hx
  replace hT := hid hT
  by_cases hbig : 1048576 < n
  · go_enter Tryd.func9, Tryd.ntmps9
    go_wp2
    go_ret
    exact ⟨rfl, Below.refl _ _⟩
  · go_enter Tryd.func9, Tryd.ntmps9
    go_wp2_with fail
    refine (drawTracesWithin_any A n c w hn hc hx.out).mono ?_
    rintro e w1 ⟨s, t, As, Bs, cs, ds, rfl, a1, a2, b1, b2, ea, eb, hb1⟩
    unfold Sy.val
    obtain ⟨w0, hw0, hz0, hB0, hS, hU⟩ := boxed2 w1 #[Value.int IntKind.i64 s.al, Value.int IntKind.i64 s.st, Value.slice As s.es.length cs] 25 #[Value.int IntKind.i64 t.al, Value.int IntKind.i64 t.st, Value.slice Bs t.es.length ds] 25
    have p0 := hS 0 _ rfl _ (Below.refl _ _)
    have p1 := hS 1 _ rfl _ (Below.refl _ _)
    have p2 := hS 2 _ rfl _ (Below.refl _ _)
    have q0 := hU 0 _ rfl _ (Below.refl _ _)
    have q1 := hU 1 _ rfl _ (Below.refl _ _)
    have q2 := hU 2 _ rfl _ (Below.refl _ _)
    have hr0 := hid (ea.later hB0)
    have hs0 := hid (eb.later hB0)
    have hBB0 := hb1.trans (hB0.mono hb1.size)
    have hT0 := hid (hT.out.later hBB0)
    have hC0 : Hid (Below (w1.heap.size + 2) w0 w0) := hid (Below.refl _ _)
    clear ea eb
    go_wp2_with fail
    refine (implTracesWithin_any s t As Bs cs ds w0 a1 a2 b1 b2 hT0.out hr0.out hs0.out).mono ?_
    rintro e w2 ⟨rfl, hb2⟩
    clear hw0
    have hCC2 := hC0.out.trans (hb2.mono (by have := hC0.out.size; omega))
    have hr2 := hid (hr0.out.later hb2)
    have hs2 := hid (hs0.out.later hb2)
    have hBB2 := hBB0.trans (hb2.mono hBB0.size)
    have hT2 := hid (hT0.out.later hb2)
    clear p0 p1 p2 q0 q1 q2
    have p0 := hS 0 _ rfl _ hCC2
    have p1 := hS 1 _ rfl _ hCC2
    have p2 := hS 2 _ rfl _ hCC2
    have q0 := hU 0 _ rfl _ hCC2
    have q1 := hU 1 _ rfl _ hCC2
    have q2 := hU 2 _ rfl _ hCC2
    have hC2 := hid hCC2
    clear hCC2
    cases hW : withinB s t
    · replace hW := hid hW
      go_wp2_with fail
      refine (specTracesWithin_any s t As Bs cs ds w2 a1 a2 b1 b2 hr2.out hs2.out).mono ?_
      rintro e w3 ⟨rfl, hb3⟩
      rw [hW.out]
      have hCC3 := hC2.out.trans (hb3.mono (by have := hC2.out.size; omega))
      have hr3 := hid (hr2.out.later hb3)
      have hs3 := hid (hs2.out.later hb3)
      have hBB3 := hBB2.trans (hb3.mono hBB2.size)
      have hT3 := hid (hT2.out.later hb3)
      clear p0 p1 p2 q0 q1 q2
      have p0 := hS 0 _ rfl _ hCC3
      have p1 := hS 1 _ rfl _ hCC3
      have p2 := hS 2 _ rfl _ hCC3
      have q0 := hU 0 _ rfl _ hCC3
      have q1 := hU 1 _ rfl _ hCC3
      have q2 := hU 2 _ rfl _ hCC3
      have hC3 := hid hCC3
      clear hCC3
      go_wp2_with fail
      refine (specTracesWithin_any s t As Bs cs ds w3 a1 a2 b1 b2 hr3.out hs3.out).mono ?_
      rintro e w4 ⟨rfl, hb4⟩
      rw [hW.out]
      have hBB4 := hBB3.trans (hb4.mono hBB3.size)
      clear p0 p1 p2 q0 q1 q2
      go_wp2_with fail
      go_ret
      exact ⟨rfl, hBB4⟩
    · obtain ⟨f1, f2, f3, f4⟩ := within_facts hW
      have o1 := hid ((within_self s).trans f1)
      have o2 := hid ((within_self t).trans f2)
      replace hW := hid hW
      replace f1 := hid f1
      replace f2 := hid f2
      replace f3 := hid f3
      replace f4 := hid f4
      go_wp2_with fail
      refine (specTracesWithin_any s t As Bs cs ds w2 a1 a2 b1 b2 hr2.out hs2.out).mono ?_
      rintro e w3 ⟨rfl, hb3⟩
      rw [hW.out]
      have hCC3 := hC2.out.trans (hb3.mono (by have := hC2.out.size; omega))
      have hr3 := hid (hr2.out.later hb3)
      have hs3 := hid (hs2.out.later hb3)
      have hBB3 := hBB2.trans (hb3.mono hBB2.size)
      have hT3 := hid (hT2.out.later hb3)
      clear p0 p1 p2 q0 q1 q2
      have p0 := hS 0 _ rfl _ hCC3
      have p1 := hS 1 _ rfl _ hCC3
      have p2 := hS 2 _ rfl _ hCC3
      have q0 := hU 0 _ rfl _ hCC3
      have q1 := hU 1 _ rfl _ hCC3
      have q2 := hU 2 _ rfl _ hCC3
      have hC3 := hid hCC3
      clear hCC3
      have hz3 := hC3.out.size
      go_wp2_with fail
      go_loopw [6] (fun iv wr => ∃ i : Nat, iv = .int .i64 (i : Nat) ∧ i ≤ 5 ∧ Below w3.heap.size w3 wr) (fun iv _ => 5 - (intOf iv).toNat)
      case atStart => exact ⟨0, rfl, by omega, Below.refl _ _⟩
      case round =>
        obtain ⟨i, rfl, hi, hb5⟩ := hrel
        have hCC5 := hC3.out.trans (hb5.mono (by have := hC3.out.size; omega))
        have hr5 := hid (hr3.out.later hb5)
        have hs5 := hid (hs3.out.later hb5)
        have hBB5 := hBB3.trans (hb5.mono hBB3.size)
        have hT5 := hid (hT3.out.later hb5)
        clear p0 p1 p2 q0 q1 q2
        have p0 := hS 0 _ rfl _ hCC5
        have p1 := hS 1 _ rfl _ hCC5
        have p2 := hS 2 _ rfl _ hCC5
        have q0 := hU 0 _ rfl _ hCC5
        have q1 := hU 1 _ rfl _ hCC5
        have q2 := hU 2 _ rfl _ hCC5
        have hC5 := hid hCC5
        clear hCC5
        by_cases hlt : i ≤ 4
        · have hlt' : ((i : Int) ≤ 4) := by omega
          have hle := f4.out i
          have l1 := totW_le (s := s) (L := letters s.al) (lettersTo_len s.al 6) i (by omega)
          have l2 := totW_le (s := t) (L := letters s.al) (lettersTo_len s.al 6) i (by omega)
          have hv2 : Hid (totW t (letters t.al) i = totW t (letters s.al) i) := hid (by rw [f3.out])
          generalize hu1 : totW s (letters s.al) i = u1 at hle l1
          generalize hu2 : totW t (letters s.al) i = u2 at hle l2 hv2
          replace hu1 := hid hu1
          replace hu2 := hid hu2
          have hgt : decide ((u2 : Int) < (u1 : Int)) = false := decide_eq_false (by omega)
          have x0 := GK.BI.cell p0
          have x1 := GK.BI.cell p1
          have x2 := GK.BI.cell p2
          have y0 := GK.BI.cell q0
          have y1 := GK.BI.cell q1
          have y2 := GK.BI.cell q2
          go_wp2_with fail
          clear p0 p1 p2 q0 q1 q2
          refine GK.wp_region 7 [] 200 (KeepB fun _ => False) (GK.BI wr) (fun i u _ => u = .int .i64 ((if i = 2 then u1 else u2 : Nat) : Int)) (by kernel_rfl) (by kernel_rfl) (GK.BI.way wr) (by decide) (Below.refl _ _).drew ?_
          simp only [List.take_succ_cons, List.take_zero]
          (repeat (refine GK.grow_quiet wr (by rfl) (by rfl) ?_; intro K hK; go_big_quiet_op; go_big_quiet_on))
          refine GK.grow_val (.int .i64 (u1 : Nat)) (by rfl) rfl (fun m wq hm hbq _ => ?_) ?_
          · go_simp
            exact ⟨rfl, by
              have hbq' : Below wr.heap.size wr wq := hbq
              refine (implTracesUpTo_any s As cs i wq f1.out (by omega) a1 a2 (hT5.out.later hbq') (hr5.out.later hbq')).mono fun e w' ⟨h1, h2⟩ => ⟨?_, GK.BI.after hbq h2⟩
              rw [h1, hu1.out]⟩
          simp only [Act.put, List.setIfInBounds_toArray, List.set_cons_zero, List.set_cons_succ]
          (repeat (refine GK.grow_quiet wr (by rfl) (by rfl) ?_; intro K hK; go_big_quiet_op; go_big_quiet_on))
          refine GK.grow_val (.int .i64 (u2 : Nat)) (by rfl) rfl (fun m wq hm hbq _ => ?_) ?_
          · go_simp
            exact ⟨rfl, by
              have hbq' : Below wr.heap.size wr wq := hbq
              refine (implTracesUpTo_any t Bs ds i wq f2.out (by omega) b1 b2 (hT5.out.later hbq') (hs5.out.later hbq')).mono fun e w' ⟨h1, h2⟩ => ⟨?_, GK.BI.after hbq h2⟩
              rw [h1, hv2.out]⟩
          simp only [Act.put, List.setIfInBounds_toArray, List.set_cons_zero, List.set_cons_succ]
          (repeat (refine GK.grow_quiet wr (by rfl) (by rfl) ?_; intro K hK; go_big_quiet_op; go_big_quiet_on))
          refine GK.grow_nil ?_
          intro w6 hw6 _
          simp only [List.filterMap_nil]
          replace hw6 : Below wr.heap.size wr w6 := hw6
          have hb6 := hid (hb5.trans (hw6.mono hb5.size))
          clear x0 x1 x2 y0 y1 y2
          go_wp2_with fail
          go_roundw
          case rel => exact ⟨i + 1, by go_num, by omega, hb6.out⟩
          case measure => simp [intOf]; omega
        · have hge : ¬ ((i : Int) ≤ 4) := by omega
          go_wp2_with fail
          refine (implTracesWithin_any s s As As cs cs wr a1 a2 a1 a2 hT5.out hr5.out hr5.out).mono ?_
          rintro e w7 ⟨rfl, hb7⟩
          rw [o1.out]
          have hCC7 := hC5.out.trans (hb7.mono (by have := hC5.out.size; omega))
          have hr7 := hid (hr5.out.later hb7)
          have hs7 := hid (hs5.out.later hb7)
          have hBB7 := hBB5.trans (hb7.mono hBB5.size)
          have hT7 := hid (hT5.out.later hb7)
          clear p0 p1 p2 q0 q1 q2
          have p0 := hS 0 _ rfl _ hCC7
          have p1 := hS 1 _ rfl _ hCC7
          have p2 := hS 2 _ rfl _ hCC7
          have q0 := hU 0 _ rfl _ hCC7
          have q1 := hU 1 _ rfl _ hCC7
          have q2 := hU 2 _ rfl _ hCC7
          have hC7 := hid hCC7
          clear hCC7
          go_wp2_with fail
          refine (implTracesWithin_any t t Bs Bs ds ds w7 b1 b2 b1 b2 hT7.out hs7.out hs7.out).mono ?_
          rintro e w8 ⟨rfl, hb8⟩
          rw [o2.out]
          have hBB8 := hBB7.trans (hb8.mono hBB7.size)
          clear p0 p1 p2 q0 q1 q2
          go_wp2_with fail
          go_ret
          exact ⟨rfl, hBB8⟩

end Go.Proofs.YtempjhgajcdibaaDoor
