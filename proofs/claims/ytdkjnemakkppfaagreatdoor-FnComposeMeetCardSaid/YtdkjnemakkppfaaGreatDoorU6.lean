/- Lemmas, part 6: several texts in one. -/
import Derived.Test.YtdkjnemakkppfaaGreatDoorU5
import Derived.Test.YtdkjnemakkppfaaGreatDoorU1
import Derived.Test.YtdkjnemakkppfaaGreatDoorU4
import Derived.Test.YtdkjnemakkppfaaGreatDoorU3
import Derived.Test.YtdkjnemakkppfaaGreatDoorU2
set_option linter.unusedSimpArgs false
set_option linter.unusedVariables false

/- The program's DifferOf, SameLanguage, FirstOutside, LanguageWithin. -/
namespace Go.Proofs.YtdkjnemakkppfaaGreatDoor
open Go.RowKit Go.BigFrame AG

theorem cmpAu_parts {a b : Au} (h : cmpAu a b = true) : auOk a = true ∧ auOk b = true ∧ a.al = b.al := by
  unfold cmpAu at h
  simpa using h
/-- No word is found if the test holds of no word. -/
theorem doub_none {a b : Au} (h : cmpAu a b = true) {g : Bool → Bool → Bool} {o : Option (List Nat)} (hp : DoubP a b g 0 o) : o = none ↔ ∀ r : List Nat, (∀ l ∈ r, l ∈ letters a.al) → g (accA a r) (accA b r) = false := by
  obtain ⟨h1, h2, h3⟩ := cmpAu_parts h
  have key : ∀ r : List Nat, goalB a b g (runA a 0 r * b.nx.length + runA b 0 r) = g (accA a r) (accA b r) := fun r => by
    obtain ⟨e1, e2⟩ := pair_div (q := runA a 0 r) (runA_lt h2 r)
    unfold goalB accA
    rw [e1, e2]
  unfold DoubP at hp
  constructor
  · rintro rfl r hr
    have := hp r _ ((RW_both h2 r _).2 ⟨hr, rfl⟩)
    dsimp only at this
    rw [key] at this
    simpa using this
  · intro hn
    cases o with
    | none => rfl
    | some r =>
      obtain ⟨m, hm, hg⟩ := hp.1
      obtain ⟨hr, rfl⟩ := (RW_both h2 r m).1 hm
      rw [key, hn r hr] at hg
      cases hg
def sameP (a b : Au) : Prop := cmpAu a b = true ∧ ∀ r : List Nat, (∀ l ∈ r, l ∈ letters a.al) → accA a r = accA b r
noncomputable def sameLB (a b : Au) : Bool := @decide (sameP a b) (Classical.propDecidable _)
theorem sameLB_iff {a b : Au} : sameLB a b = true ↔ sameP a b := by unfold sameLB; exact @decide_eq_true_iff _ (Classical.propDecidable _)
def FoundP (a b : Au) (g : Bool → Bool → Bool) (o : Option (List Nat)) : Prop := (cmpAu a b = true → DoubP a b g 0 o) ∧ (cmpAu a b = false → o = none)
def FoundPost (a b : Au) (g : Bool → Bool → Bool) (w : World) (e : Ending) (w' : World) : Prop := ∃ o, e = .returned (pathV o) ∧ FoundP a b g o ∧ Below w.heap.size w w'
theorem same_found {a b : Au} {o : Option (List Nat)} (h : FoundP a b (fun x y => x != y) o) : sameLB a b = (cmpAu a b && !o.isSome) := by
  cases hc : cmpAu a b
  · rw [Bool.false_and, ← Bool.not_eq_true, sameLB_iff]
    intro hs
    rw [hs.1] at hc
    cases hc
  · have := doub_none hc (h.1 hc)
    rw [Bool.true_and, Bool.eq_iff_iff, sameLB_iff]
    unfold sameP
    have e : (!o.isSome) = true ↔ o = none := by cases o <;> simp
    rw [e, this]
    constructor
    · rintro ⟨_, h2⟩ r hr
      rw [h2 r hr]
      simp
    · intro h2
      exact ⟨hc, fun r hr => by simpa using h2 r hr⟩

set_option maxRecDepth 100000 in
theorem difFnFn_ok : BoolFn (fun x y => x != y) 106 #[] := by
  refine ⟨fun args w' => by go_simp, fun w' x y => ?_⟩
  cases x <;> cases y <;>
  · go_enter Tryz.func106, Tryz.ntmps106
    go_wp2
    go_ret
    exact ⟨rfl, Below.refl _ _⟩
set_option maxRecDepth 100000 in
set_option maxHeartbeats 4000000 in
theorem implDifferOf_any (a b : Au) (A B A' B' : Option Addr) (c d c' d' : Nat) (w : World) (ha : AuAt w A c B d a) (hb : AuAt w A' c' B' d' b) :
    Calls Tryz.prog 66 #[a.val A c B d, b.val A' c' B' d'] w (FoundPost a b (fun x y => x != y) w) := by
  obtain ⟨w0, hw0, hz0, hB0, hS, hU⟩ := boxed2 w #[Value.int IntKind.i64 a.al, Value.slice A a.nx.length c, Value.slice B a.ac.length d] 41 #[Value.int IntKind.i64 b.al, Value.slice A' b.nx.length c', Value.slice B' b.ac.length d'] 41
  have ha0 := hid (ha.later hB0)
  have hb0 := hid (hb.later hB0)
  have p0 := hS 0 _ rfl _ (Below.refl _ _)
  have p1 := hS 1 _ rfl _ (Below.refl _ _)
  have p2 := hS 2 _ rfl _ (Below.refl _ _)
  have q0 := hU 0 _ rfl _ (Below.refl _ _)
  have q1 := hU 1 _ rfl _ (Below.refl _ _)
  have q2 := hU 2 _ rfl _ (Below.refl _ _)
  replace ha := hid ha
  replace hb := hid hb
  unfold AG.Au.val
  go_enter Tryz.func66, Tryz.ntmps66
  go_wp2_with fail
  refine (cmp2_any a b A B A' B' c d c' d' w0 ha0.out hb0.out).mono ?_
  rintro e w1 ⟨rfl, hb1⟩
  have hB1 := hB0.trans (hb1.mono hB0.size)
  have hC1 := hb1.mono hz0
  clear p0 p1 p2 q0 q1 q2
  cases hc : cmpAu a b
  · have hc' := hid hc
    clear hc
    go_wp2_with fail
    go_ret2
    exact ⟨none, rfl, ⟨fun h => (by rw [hc'.out] at h; cases h), fun _ => rfl⟩, hB1⟩
  obtain ⟨k1, k2, k3⟩ := cmpAu_parts hc
  have hc' := hid hc
  clear hc
  have z1 := ((auOk_iff a).1 k1).2.1
  have z2 := ((auOk_iff b).1 k2).2.1
  replace k1 := hid k1
  replace k2 := hid k2
  replace k3 := hid k3
  have p0 := hS 0 _ rfl _ hC1
  have p1 := hS 1 _ rfl _ hC1
  have p2 := hS 2 _ rfl _ hC1
  have q0 := hU 0 _ rfl _ hC1
  have q1 := hU 1 _ rfl _ hC1
  have q2 := hU 2 _ rfl _ hC1
  go_wp2_with fail
  refine (firstOfBoth_any a b A B A' B' c d c' d' 0 0 (fun x y => x != y) 106 #[] w1 k1.out k2.out (by omega) (by omega) difFnFn_ok (ha0.out.later hb1) (hb0.out.later hb1)).mono ?_
  rintro e w2 ⟨o, rfl, hout, hb2⟩
  rw [Nat.zero_mul, Nat.zero_add] at hout
  obtain ⟨Sv, Fv, hpv⟩ : ∃ Sv Fv, pathV o = .tuple #[.string Sv, .bool Fv] := ⟨_, _, rfl⟩
  rw [hpv]
  have hpv' := hid hpv
  replace hout := hid hout
  have hB2 := hB1.trans (hb2.mono hB1.size)
  clear hpv p0 p1 p2 q0 q1 q2
  go_wp2_with fail
  go_ret2
  exact ⟨o, by rw [hpv'.out]; rfl, ⟨fun _ => hout.out, fun h => (by rw [hc'.out] at h; cases h)⟩, hB2⟩

set_option maxRecDepth 100000 in
set_option maxHeartbeats 4000000 in
theorem implSameLanguage_any (a b : Au) (A B A' B' : Option Addr) (c d c' d' : Nat) (w : World) (ha : AuAt w A c B d a) (hb : AuAt w A' c' B' d' b) :
    Calls Tryz.prog 22 #[a.val A c B d, b.val A' c' B' d'] w (fun e w' => e = .returned (.bool (sameLB a b)) ∧ Below w.heap.size w w') := by
  obtain ⟨w0, hw0, hz0, hB0, hS, hU⟩ := boxed2 w #[Value.int IntKind.i64 a.al, Value.slice A a.nx.length c, Value.slice B a.ac.length d] 41 #[Value.int IntKind.i64 b.al, Value.slice A' b.nx.length c', Value.slice B' b.ac.length d'] 41
  have ha0 := hid (ha.later hB0)
  have hb0 := hid (hb.later hB0)
  have p0 := hS 0 _ rfl _ (Below.refl _ _)
  have p1 := hS 1 _ rfl _ (Below.refl _ _)
  have p2 := hS 2 _ rfl _ (Below.refl _ _)
  have q0 := hU 0 _ rfl _ (Below.refl _ _)
  have q1 := hU 1 _ rfl _ (Below.refl _ _)
  have q2 := hU 2 _ rfl _ (Below.refl _ _)
  replace ha := hid ha
  replace hb := hid hb
  unfold AG.Au.val
  go_enter Tryz.func22, Tryz.ntmps22
  go_wp2_with fail
  refine (implDifferOf_any a b A B A' B' c d c' d' w0 ha0.out hb0.out).mono ?_
  rintro e w1 ⟨o, rfl, hf, hb1⟩
  obtain ⟨Sv, Fv, hpv, hFv⟩ : ∃ Sv Fv, pathV o = .tuple #[.string Sv, .bool Fv] ∧ Fv = o.isSome := ⟨_, _, rfl, rfl⟩
  rw [hpv]
  have hB1 := hB0.trans (hb1.mono hB0.size)
  have hC1 := hb1.mono hz0
  replace hf := hid hf
  replace hFv := hid hFv
  clear p0 p1 p2 q0 q1 q2 hpv
  have p0 := hS 0 _ rfl _ hC1
  have p1 := hS 1 _ rfl _ hC1
  have p2 := hS 2 _ rfl _ hC1
  have q0 := hU 0 _ rfl _ hC1
  have q1 := hU 1 _ rfl _ hC1
  have q2 := hU 2 _ rfl _ hC1
  go_wp2_with fail
  refine (cmp2_any a b A B A' B' c d c' d' w1 (ha0.out.later hb1) (hb0.out.later hb1)).mono ?_
  rintro e w2 ⟨rfl, hb2⟩
  have hB2 := hB1.trans (hb2.mono hB1.size)
  clear p0 p1 p2 q0 q1 q2
  obtain ⟨cb, hcb⟩ : ∃ cb, Hid (cb = cmpAu a b) := ⟨_, hid rfl⟩
  rw [← hcb.out]
  cases cb
  · go_wp2_with fail
    go_ret
    exact ⟨ret_bool (by rw [same_found hf.out, ← hcb.out, ← hFv.out]; simp), hB2⟩
  · go_wp2_with fail
    go_ret
    exact ⟨ret_bool (by rw [same_found hf.out, ← hcb.out, ← hFv.out]; simp), hB2⟩

end Go.Proofs.YtdkjnemakkppfaaGreatDoor

/- Plain: the reference's search for a first word: distances from the goals, then forward. -/
namespace Go.Proofs.YtdkjnemakkppfaaGreatDoor
open AG

section
variable (L : List Nat) (nx : Nat → Nat → List Nat) (fd : Nat → Bool)
/-- Next to a node at a distance. -/
def nearB (f : Nat → Option Nat) (d n : Nat) : Bool := L.any fun l => (nx n l).any fun m => decide (f m = some d)
/-- The distances up to d. -/
def lay : Nat → Nat → Option Nat
  | 0, n => if fd n = true then some 0 else none
  | d + 1, n => match lay d n with
    | some e => some e
    | none => if nearB L nx (lay d) d n = true then some (d + 1) else none
end
section
variable {L : List Nat} {nx : Nat → Nat → List Nat} {fd : Nat → Bool} {N D s : Nat}
theorem near_iff {f : Nat → Option Nat} {d n : Nat} : nearB L nx f d n = true ↔ ∃ l ∈ L, ∃ m ∈ nx n l, f m = some d := by
  unfold nearB
  rw [List.any_eq_true]
  constructor
  · rintro ⟨l, hl, h⟩
    obtain ⟨m, hm, h⟩ := List.any_eq_true.1 h
    exact ⟨l, hl, m, hm, by simpa using h⟩
  · rintro ⟨l, hl, m, hm, h⟩
    exact ⟨l, hl, List.any_eq_true.2 ⟨m, hm, by simpa using h⟩⟩
theorem lay_succ (d n : Nat) : lay L nx fd (d + 1) n = match lay L nx fd d n with
    | some e => some e
    | none => if nearB L nx (lay L nx fd d) d n = true then some (d + 1) else none := rfl
theorem lay_le : ∀ {d n e : Nat}, lay L nx fd d n = some e → e ≤ d
  | 0, n, e, h => by
    unfold lay at h
    split at h
    · injection h with h; omega
    · cases h
  | d + 1, n, e, h => by
    rw [lay_succ] at h
    cases h1 : lay L nx fd d n with
    | some e' =>
      rw [h1] at h
      injection h with h
      have := lay_le h1
      omega
    | none =>
      rw [h1] at h
      dsimp only at h
      split at h
      · injection h with h; omega
      · cases h
theorem lay_up {d n e : Nat} (h : lay L nx fd d n = some e) : lay L nx fd (d + 1) n = some e := by rw [lay_succ, h]
theorem lay_mono {d n e : Nat} (h : lay L nx fd d n = some e) : ∀ k, lay L nx fd (d + k) n = some e
  | 0 => h
  | k + 1 => lay_up (lay_mono h k)
theorem lay_mono' {d d' n e : Nat} (h : lay L nx fd d n = some e) (hd : d ≤ d') : lay L nx fd d' n = some e := by
  have := lay_mono h (d' - d)
  rwa [show d + (d' - d) = d' from by omega] at this
theorem lay_at : ∀ {d n e : Nat}, lay L nx fd d n = some e → lay L nx fd e n = some e
  | 0, n, e, h => by
    have := lay_le h
    obtain rfl : e = 0 := by omega
    exact h
  | d + 1, n, e, h => by
    cases h1 : lay L nx fd d n with
    | some e' =>
      rw [lay_up h1] at h
      injection h with h
      subst h
      exact lay_at h1
    | none =>
      have h0 := h
      rw [lay_succ, h1] at h
      dsimp only at h
      split at h
      · injection h with h
        subst h
        exact h0
      · cases h
theorem lay_zero {d n : Nat} : lay L nx fd d n = some 0 ↔ fd n = true := by
  constructor
  · intro h
    have := lay_at h
    unfold lay at this
    split at this
    · assumption
    · cases this
  · intro h
    have : lay L nx fd 0 n = some 0 := by unfold lay; rw [if_pos h]
    exact lay_mono' this (Nat.zero_le _)
theorem lay_new {d n : Nat} (h : lay L nx fd d n = none) (hn : ∃ l ∈ L, ∃ m ∈ nx n l, lay L nx fd d m = some d) : lay L nx fd (d + 1) n = some (d + 1) := by
  rw [lay_succ, h]
  dsimp only
  rw [if_pos (near_iff.2 hn)]
theorem lay_step {d n e : Nat} (h : lay L nx fd d n = some (e + 1)) : ∃ l ∈ L, ∃ m ∈ nx n l, lay L nx fd d m = some e := by
  have hd := lay_le h
  have h1 := lay_at h
  cases h2 : lay L nx fd e n with
  | some e' =>
    rw [lay_up h2] at h1
    injection h1 with h1
    have := lay_le h2
    omega
  | none =>
    rw [lay_succ, h2] at h1
    dsimp only at h1
    split at h1
    · rename_i hn
      obtain ⟨l, hl, m, hm, h3⟩ := near_iff.1 hn
      exact ⟨l, hl, m, hm, lay_mono' h3 (by omega)⟩
    · cases h1
/-- The distances do not change any more. -/
def Still (L : List Nat) (nx : Nat → Nat → List Nat) (fd : Nat → Bool) (N D : Nat) : Prop := ∀ n, n < N → lay L nx fd (D + 1) n = lay L nx fd D n
theorem lay_back (hs : Still L nx fd N D) {n l m e : Nat} (hn : n < N) (hl : l ∈ L) (hm : m ∈ nx n l) (h : lay L nx fd D m = some e) : ∃ e', e' ≤ e + 1 ∧ lay L nx fd D n = some e' := by
  have he := lay_le h
  cases h2 : lay L nx fd e n with
  | some e' => exact ⟨e', by have := lay_le h2; omega, lay_mono' h2 he⟩
  | none =>
    have h3 := lay_new h2 ⟨l, hl, m, hm, lay_at h⟩
    rcases Nat.lt_or_ge e D with hlt | hge
    · exact ⟨e + 1, Nat.le_refl _, lay_mono' h3 hlt⟩
    · obtain rfl : e = D := by omega
      rw [hs n hn] at h3
      exact ⟨_, Nat.le_refl _, h3⟩
theorem RW_lt (hN : ∀ n, n < N → ∀ l ∈ L, ∀ m ∈ nx n l, m < N) (hs : s < N) : ∀ {q : List Nat} {n : Nat}, RW (fun m => m ∈ [s]) L nx q n → n < N
  | [], n, h => by
    change n ∈ [s] at h
    rw [List.mem_singleton.1 h]
    exact hs
  | l :: q, n, h => by
    obtain ⟨hl, m, hm, hn⟩ := h
    exact hN m (RW_lt hN hs hm) l hl n hn
theorem lay_from (hst : Still L nx fd N D) (hN : ∀ n, n < N → ∀ l ∈ L, ∀ m ∈ nx n l, m < N) (hs : s < N) : ∀ {q : List Nat} {n e : Nat}, RW (fun m => m ∈ [s]) L nx q n → lay L nx fd D n = some e → ∃ e', e' ≤ q.length + e ∧ lay L nx fd D s = some e'
  | [], n, e, h, h1 => by
    change n ∈ [s] at h
    rw [List.mem_singleton.1 h] at h1
    exact ⟨e, by simp, h1⟩
  | l :: q, n, e, h, h1 => by
    obtain ⟨hl, m, hm, hn⟩ := h
    obtain ⟨e1, h2, h3⟩ := lay_back hst (RW_lt hN hs hm) hl hn h1
    obtain ⟨e2, h4, h5⟩ := lay_from hst hN hs hm h3
    exact ⟨e2, by rw [List.length_cons]; omega, h5⟩
/-- The nodes at a distance to which a letter leads from some nodes. -/
def clo (L : List Nat) (nx : Nat → Nat → List Nat) (fd : Nat → Bool) (D : Nat) (at_ : List Nat) (l d : Nat) : List Nat := dd ((at_.flatMap fun n => nx n l).filter fun m => decide (lay L nx fd D m = some d))
theorem clo_mem {at_ : List Nat} {l d m : Nat} : m ∈ clo L nx fd D at_ l d ↔ ∃ n ∈ at_, m ∈ nx n l ∧ lay L nx fd D m = some d := by
  unfold clo
  rw [dd_mem, List.mem_filter, List.mem_flatMap, decide_eq_true_iff]
  constructor
  · rintro ⟨⟨n, h1, h2⟩, h3⟩
    exact ⟨n, h1, h2, h3⟩
  · rintro ⟨n, h1, h2, h3⟩
    exact ⟨⟨n, h1, h2⟩, h3⟩
theorem rlt_of_len : ∀ {r q : List Nat}, r.length < q.length → rlt r q
  | [], [], h => by simp at h
  | [], _ :: _, _ => trivial
  | _ :: _, [], h => by simp at h
  | _ :: r, _ :: q, h => .inl (rlt_of_len (by simpa using h))
/-- The state of the way forward: d letters are still to come. -/
structure Fwd (L : List Nat) (nx : Nat → Nat → List Nat) (fd : Nat → Bool) (D s D0 : Nat) (r at_ : List Nat) (d : Nat) : Prop where
  len : r.length + d = D0
  mem : ∀ n, n ∈ at_ ↔ RW (fun m => m ∈ [s]) L nx r n ∧ lay L nx fd D n = some d
  least : ∀ p n, p.length = r.length → RW (fun m => m ∈ [s]) L nx p n → lay L nx fd D n = some d → rle r p
  ne : ∃ n, n ∈ at_
theorem Fwd.start {D0 : Nat} (h : lay L nx fd D s = some D0) : Fwd L nx fd D s D0 [] [s] D0 := by
  refine ⟨by simp, fun n => ?_, fun p n hp _ _ => ?_, ⟨s, by simp⟩⟩
  · rw [List.mem_singleton]
    constructor
    · rintro rfl
      exact ⟨List.mem_singleton.2 rfl, h⟩
    · rintro ⟨h1, _⟩
      exact List.mem_singleton.1 h1
  · rw [List.eq_nil_of_length_eq_zero hp]
    exact rle_refl _
theorem Fwd.some_ {D0 d : Nat} {r at_ : List Nat} (h : Fwd L nx fd D s D0 r at_ (d + 1)) : ∃ k, ∃ (hk : k < L.length), clo L nx fd D at_ L[k] d ≠ [] := by
  obtain ⟨n, hn⟩ := h.ne
  obtain ⟨_, h2⟩ := (h.mem n).1 hn
  obtain ⟨l, hl, m, hm, h3⟩ := lay_step h2
  obtain ⟨k, hk, e⟩ := List.mem_iff_getElem.1 hl
  refine ⟨k, hk, fun h0 => ?_⟩
  have : m ∈ clo L nx fd D at_ L[k] d := clo_mem.2 ⟨n, hn, by rw [e]; exact hm, h3⟩
  rw [h0] at this
  cases this
theorem Fwd.next (hst : Still L nx fd N D) (hN : ∀ n, n < N → ∀ l ∈ L, ∀ m ∈ nx n l, m < N) (hs : s < N) (hL : L.Pairwise (· < ·)) {D0 d k : Nat} {r at_ : List Nat} (h : Fwd L nx fd D s D0 r at_ (d + 1)) (h0 : lay L nx fd D s = some D0)
    (hk : k < L.length) (hne : clo L nx fd D at_ L[k] d ≠ []) (hmin : ∀ j (hj : j < L.length), j < k → clo L nx fd D at_ L[j] d = []) : Fwd L nx fd D s D0 (L[k] :: r) (clo L nx fd D at_ L[k] d) d := by
  have hlen := h.len
  have key : ∀ {p : List Nat} {m l n : Nat}, p.length = r.length → RW (fun m => m ∈ [s]) L nx p m → l ∈ L → n ∈ nx m l → lay L nx fd D n = some d → lay L nx fd D m = some (d + 1) := by
    intro p m l n hp hm hl hn h1
    obtain ⟨e1, h2, h3⟩ := lay_back hst (RW_lt hN hs hm) hl hn h1
    obtain ⟨e2, h4, h5⟩ := lay_from hst hN hs hm h3
    rw [h0] at h5
    injection h5 with h5
    obtain rfl : e1 = d + 1 := by omega
    exact h3
  refine ⟨by rw [List.length_cons]; omega, fun n => ?_, fun p n hp hn h1 => ?_, ?_⟩
  · rw [clo_mem]
    constructor
    · rintro ⟨m, hm, h1, h2⟩
      exact ⟨⟨List.getElem_mem hk, m, ((h.mem m).1 hm).1, h1⟩, h2⟩
    · rintro ⟨⟨_, m, hm, h1⟩, h2⟩
      exact ⟨m, (h.mem m).2 ⟨hm, key rfl hm (List.getElem_mem hk) h1 h2⟩, h1, h2⟩
  · cases p with
    | nil => simp at hp
    | cons l p =>
      obtain ⟨hl, m, hm, hn⟩ := hn
      have hpl : p.length = r.length := by simpa using hp
      have hm1 := key hpl hm hl hn h1
      rcases h.least p m hpl hm hm1 with hlt | rfl
      · exact .inl (.inl hlt)
      · obtain ⟨j, hj, rfl⟩ := List.mem_iff_getElem.1 hl
        rcases Nat.lt_trichotomy j k with hjk | rfl | hjk
        · have := hmin j hj hjk
          have hmem : n ∈ clo L nx fd D at_ L[j] d := clo_mem.2 ⟨m, (h.mem m).2 ⟨hm, hm1⟩, hn, h1⟩
          rw [this] at hmem
          cases hmem
        · exact rle_refl _
        · exact .inl (.inr ⟨rfl, List.pairwise_iff_getElem.1 hL k j hk hj hjk⟩)
  · cases hc : clo L nx fd D at_ L[k] d with
    | nil => exact absurd hc hne
    | cons x xs => exact ⟨x, List.mem_cons_self⟩
theorem Fwd.done (hst : Still L nx fd N D) (hN : ∀ n, n < N → ∀ l ∈ L, ∀ m ∈ nx n l, m < N) (hs : s < N) {D0 : Nat} {r at_ : List Nat} (h : Fwd L nx fd D s D0 r at_ 0) (h0 : lay L nx fd D s = some D0) : FirstW (fun m => m ∈ [s]) L nx (fun n => fd n = true) r := by
  have hlen := h.len
  obtain ⟨n, hn⟩ := h.ne
  obtain ⟨h1, h2⟩ := (h.mem n).1 hn
  refine ⟨⟨n, h1, lay_zero.1 h2⟩, fun q m hm hf => ?_⟩
  have h3 : lay L nx fd D m = some 0 := lay_zero.2 hf
  obtain ⟨e, h4, h5⟩ := lay_from hst hN hs hm h3
  rw [h0] at h5
  injection h5 with h5
  by_cases he : q.length = r.length
  · exact h.least q m he hm h3
  · exact .inl (rlt_of_len (by omega))
end

end Go.Proofs.YtdkjnemakkppfaaGreatDoor

/- Plain: the nodes of a product as numbers. -/
namespace Go.Proofs.YtdkjnemakkppfaaGreatDoor
open AG

def prodL : List Nat → Nat
  | [] => 1
  | a :: l => a * prodL l
/-- The states of a node. -/
def decS : List Nat → Nat → List Nat
  | [], _ => []
  | a :: l, n => (n / prodL l % a) :: decS l n
theorem decS_len : ∀ (ss : List Nat) (n : Nat), (decS ss n).length = ss.length
  | [], _ => rfl
  | a :: l, n => by
    show (decS l n).length + 1 = l.length + 1
    rw [decS_len l n]
theorem decS_get : ∀ (ss : List Nat) (n i : Nat) (h : i < ss.length), (decS ss n)[i]'(by rw [decS_len]; exact h) = n / prodL (ss.drop (i + 1)) % ss[i]
  | a :: l, n, 0, _ => rfl
  | a :: l, n, i + 1, h => by
    exact decS_get l n i (by simpa using h)
theorem prodL_pos : ∀ {ss : List Nat}, (∀ a ∈ ss, 1 ≤ a) → 1 ≤ prodL ss
  | [], _ => Nat.le_refl _
  | a :: l, h => by
    have h1 := prodL_pos (ss := l) fun x hx => h x (List.mem_cons_of_mem _ hx)
    have h2 := h a List.mem_cons_self
    exact Nat.mul_le_mul h2 h1
theorem prodL_drop {ss : List Nat} {i : Nat} (h : i < ss.length) : prodL (ss.drop i) = ss[i] * prodL (ss.drop (i + 1)) := by
  rw [List.drop_eq_getElem_cons h]
  rfl
theorem decS_step {ss : List Nat} {n i : Nat} (h : i < ss.length) : n / prodL (ss.drop (i + 1)) / ss[i] = n / prodL (ss.drop i) := by
  rw [Nat.div_div_eq_div_mul, prodL_drop h, Nat.mul_comm]
theorem decS_lt {ss : List Nat} (hs : ∀ a ∈ ss, 1 ≤ a) (n i : Nat) (h : i < ss.length) : (decS ss n).getD i 0 < ss[i] := by
  rw [List.getD_eq_getElem?_getD, List.getElem?_eq_getElem (by rw [decS_len]; exact h), Option.getD_some, decS_get ss n i h]
  exact Nat.mod_lt _ (hs _ (List.getElem_mem h))
/-- One member more. -/
def stepN (a : Nat) (c out : List Nat) : List Nat := out.flatMap fun o => c.map fun x => o * a + x
/-- The nodes to which the choices of the first k members lead. -/
def nxK (ss : List Nat) (C : Nat → List Nat) : Nat → List Nat
  | 0 => [0]
  | k + 1 => stepN (ss.getD k 1) (C k) (nxK ss C k)
theorem stepN_mem {a : Nat} {c out : List Nat} {m : Nat} : m ∈ stepN a c out ↔ ∃ o ∈ out, ∃ x ∈ c, m = o * a + x := by
  unfold stepN
  rw [List.mem_flatMap]
  constructor
  · rintro ⟨o, ho, h⟩
    obtain ⟨x, hx, rfl⟩ := List.mem_map.1 h
    exact ⟨o, ho, x, hx, rfl⟩
  · rintro ⟨o, ho, x, hx, rfl⟩
    exact ⟨o, ho, List.mem_map_of_mem hx⟩
theorem stepN_take {a : Nat} {c out : List Nat} {k : Nat} (h : k < out.length) : stepN a c (out.take (k + 1)) = stepN a c (out.take k) ++ c.map fun x => out[k] * a + x := by
  unfold stepN
  rw [List.take_succ_eq_append_getElem h, List.flatMap_append]
  simp
theorem stepN_len (a : Nat) (c : List Nat) : ∀ out : List Nat, (stepN a c out).length = out.length * c.length
  | [] => by simp [stepN]
  | o :: out => by
    have ih := stepN_len a c out
    have e : stepN a c (o :: out) = (c.map fun x => o * a + x) ++ stepN a c out := rfl
    rw [e, List.length_append, List.length_map, ih, List.length_cons, Nat.add_mul]
    omega
/-- The product of the first k sizes. -/
def prodT (ss : List Nat) : Nat → Nat
  | 0 => 1
  | k + 1 => prodT ss k * ss.getD k 1
theorem nxK_lt {ss : List Nat} {C : Nat → List Nat} : ∀ {k : Nat}, k ≤ ss.length → (∀ i, i < ss.length → ∀ x ∈ C i, x < ss.getD i 1) → ∀ m ∈ nxK ss C k, m < prodT ss k
  | 0, _, _, m, h => by
    rw [List.mem_singleton.1 h]
    exact Nat.one_pos
  | k + 1, hk, hC, m, h => by
    obtain ⟨o, ho, x, hx, rfl⟩ := stepN_mem.1 h
    have h1 := nxK_lt (by omega) hC o ho
    have h2 := hC k (by omega) x hx
    show o * ss.getD k 1 + x < prodT ss k * ss.getD k 1
    have h3 : (o + 1) * ss.getD k 1 ≤ prodT ss k * ss.getD k 1 := Nat.mul_le_mul_right _ h1
    rw [Nat.add_mul] at h3
    omega
theorem nxK_len {ss : List Nat} {C : Nat → List Nat} {b : Nat} (hC : ∀ i, (C i).length ≤ b) : ∀ k, (nxK ss C k).length ≤ b ^ k
  | 0 => Nat.le_refl _
  | k + 1 => by
    show (stepN _ _ _).length ≤ _
    rw [stepN_len, Nat.pow_succ]
    exact Nat.mul_le_mul (nxK_len hC k) (hC k)
theorem prodT_succ (a : Nat) (l : List Nat) : ∀ k, prodT (a :: l) (k + 1) = a * prodT l k
  | 0 => by simp [prodT]
  | k + 1 => by
    rw [prodT, prodT_succ a l k, prodT, Nat.mul_assoc]
    rfl
theorem prodT_all : ∀ ss : List Nat, prodT ss ss.length = prodL ss
  | [] => rfl
  | a :: l => by
    show prodT (a :: l) (l.length + 1) = _
    rw [prodT_succ, prodT_all l]
    rfl
theorem prodT_le {ss : List Nat} {b : Nat} (hs : ∀ a ∈ ss, a ≤ b) (hb : 1 ≤ b) : ∀ k, prodT ss k ≤ b ^ k
  | 0 => Nat.le_refl _
  | k + 1 => by
    rw [prodT, Nat.pow_succ]
    refine Nat.mul_le_mul (prodT_le hs hb k) ?_
    rw [List.getD_eq_getElem?_getD]
    cases e : ss[k]? with
    | none => exact hb
    | some x => exact hs x (List.mem_of_getElem? e)
/-- The nodes to which a letter leads from a node. -/
def nxN (ss : List Nat) (ch : Nat → Nat → Nat → List Nat) (n l : Nat) : List Nat := nxK ss (fun i => ch i ((decS ss n).getD i 0) l) ss.length
end Go.Proofs.YtdkjnemakkppfaaGreatDoor

/- Plain: the states together to which a letter leads some systems that run together. -/
namespace AG

/-- The states to which a letter leads one system. -/
noncomputable def stepQ (s : Sy) (node l : Nat) : List Nat := if HasZ s.al (l : Int) = true then memL (mv s (node % s.st.toNat) l) else [node % s.st.toNat]
def joinN (qs re : List Nat) (wt : Nat) : List Nat := qs.flatMap fun q => re.map fun r => q * wt + r
structure PSt where
  re : List Nat
  wt : Nat
  nd : Nat
noncomputable def pstep (s : Sy) (l : Nat) (x : PSt) : PSt := ⟨joinN (stepQ s x.nd l) x.re x.wt, x.wt * s.st.toNat, x.nd / s.st.toNat⟩
/-- The last k systems are gone through. -/
noncomputable def pst (ss : List Sy) (l node : Nat) : Nat → PSt
  | 0 => ⟨[0], 1, node⟩
  | k + 1 => match ss[ss.length - 1 - k]? with
    | some s => pstep s l (pst ss l node k)
    | none => pst ss l node k
noncomputable def nxParts (ss : List Sy) (node l : Nat) : List Nat := (pst ss l node ss.length).re
theorem pst_succ {ss : List Sy} {l node k i : Nat} (hk : k < ss.length) (hi : i + k + 1 = ss.length) : ∃ h : i < ss.length, pst ss l node (k + 1) = pstep ss[i] l (pst ss l node k) := by
  refine ⟨by omega, ?_⟩
  rw [pst, show ss.length - 1 - k = i from by omega, List.getElem?_eq_getElem (by omega)]

theorem stepQ_lt {s : Sy} (hs : sysOk s = true) (node l : Nat) : ∀ q ∈ stepQ s node l, q < s.st.toNat := by
  have hst := sysOk_st hs
  intro q hq
  unfold stepQ at hq
  split at hq
  · obtain ⟨_, hb⟩ := memL_mem.1 hq
    exact testBit_lt (mv_small (sysOk_in hs) _ _) hb
  · rw [List.mem_singleton.1 hq]
    exact Nat.mod_lt _ (by omega)
theorem stepQ_len {s : Sy} (node l : Nat) : (stepQ s node l).length ≤ 16 := by
  unfold stepQ
  split
  · exact memL_len _
  · simp
theorem joinN_len (qs re : List Nat) (wt : Nat) : (joinN qs re wt).length = qs.length * re.length := by
  unfold joinN
  induction qs with
  | nil => simp
  | cons q qs ih => rw [List.flatMap_cons, List.length_append, ih, List.length_map, List.length_cons, Nat.add_mul]; omega
theorem joinN_take {qs re : List Nat} {wt j : Nat} (hj : j < qs.length) : joinN (qs.take (j + 1)) re wt = joinN (qs.take j) re wt ++ re.map fun r => qs[j] * wt + r := by
  unfold joinN
  rw [List.take_succ_eq_append_getElem hj, List.flatMap_append]
  simp
theorem map_take {re : List Nat} {f : Nat → Nat} {k : Nat} (hk : k < re.length) : (re.take (k + 1)).map f = (re.take k).map f ++ [f re[k]] := by
  rw [List.take_succ_eq_append_getElem hk, List.map_append]
  rfl
/-- How great the numbers get. -/
theorem pst_ok {ss : List Sy} (hall : ss.all sysOk = true) (l node : Nat) : ∀ k, k ≤ ss.length → (pst ss l node k).wt ≤ 16 ^ k ∧ (pst ss l node k).nd ≤ node ∧ (pst ss l node k).re.length ≤ 16 ^ k ∧ ∀ r ∈ (pst ss l node k).re, r < (pst ss l node k).wt
  | 0, _ => by simp [pst]
  | k + 1, hk => by
    obtain ⟨h1, h2, h3, h4⟩ := pst_ok hall l node k (by omega)
    obtain ⟨hi, e⟩ := pst_succ (ss := ss) (l := l) (node := node) (k := k) (i := ss.length - 1 - k) (by omega) (by omega)
    have hs : sysOk ss[ss.length - 1 - k] = true := List.all_eq_true.1 hall _ (List.getElem_mem _)
    have hst := sysOk_st hs
    rw [e]
    generalize ss[ss.length - 1 - k] = s at *
    generalize pst ss l node k = x at *
    have hn : s.st.toNat ≤ 16 := by omega
    unfold pstep
    simp only
    refine ⟨?_, Nat.le_trans (Nat.div_le_self _ _) h2, ?_, ?_⟩
    · rw [Nat.pow_succ]; exact Nat.mul_le_mul h1 hn
    · rw [joinN_len, Nat.pow_succ, Nat.mul_comm]
      exact Nat.mul_le_mul h3 (stepQ_len _ _)
    · intro r hr
      unfold joinN at hr
      obtain ⟨q, hq, hr⟩ := List.mem_flatMap.1 hr
      obtain ⟨p, hp, rfl⟩ := List.mem_map.1 hr
      have hq2 := stepQ_lt hs _ _ q hq
      have hp2 := h4 p hp
      have : (q + 1) * x.wt ≤ s.st.toNat * x.wt := Nat.mul_le_mul_right _ hq2
      rw [Nat.add_mul] at this
      rw [Nat.mul_comm x.wt]
      omega

end AG

/- Plain: systems that run together: the nodes of both searches, how long first words are. -/
namespace Go.Proofs.YtdkjnemakkppfaaGreatDoor
open AG

/- Two ways to write the steps that have the same members on the nodes below N. -/
/- How long a first word is. -/
/-- The sizes of some systems. -/
def szP (xs : List Sy) : List Nat := xs.map fun s => s.st.toNat
/-- The states to which the reference's edges lead from a state. -/
def chP1 (s : Sy) (q l : Nat) : List Nat := if Has s.al l = true then (s.es.filter fun e => e.f.toNat == q && e.l.toNat == l).map (fun e => e.t.toNat) else [q]
def chP (xs : List Sy) (i q l : Nat) : List Nat := match xs[i]? with | some s => chP1 s q l | none => []
theorem chP_at {xs : List Sy} {i : Nat} (h : i < xs.length) (q l : Nat) : chP xs i q l = chP1 xs[i] q l := by unfold chP; rw [List.getElem?_eq_getElem h]
theorem chP1_mem {s : Sy} (hs : sysOk s = true) {q l : Nat} (hq : q < s.st.toNat) (m : Nat) : m ∈ chP1 s q l ↔ m ∈ stepQ s q l := by
  unfold chP1 stepQ
  have h1 : HasZ s.al (l : Int) = Has s.al l := by unfold HasZ; simp
  rw [h1, Nat.mod_eq_of_lt hq]
  split
  · rw [memL_mem, mv_testBit, List.mem_map]
    constructor
    · rintro ⟨e, he, rfl⟩
      rw [List.mem_filter] at he
      simp only [Bool.and_eq_true, beq_iff_eq] at he
      have := sysOk_in hs e he.1
      exact ⟨by omega, by omega, e, he.1, he.2.1, he.2.2, rfl⟩
    · rintro ⟨-, -, e, he, h2, h3, h4⟩
      refine ⟨e, ?_, h4⟩
      rw [List.mem_filter]
      simp only [Bool.and_eq_true, beq_iff_eq]
      exact ⟨he, h2, h3⟩
  · rfl
theorem chP1_lt {s : Sy} (hs : sysOk s = true) {q l : Nat} (hq : q < s.st.toNat) : ∀ m ∈ chP1 s q l, m < s.st.toNat := fun m hm => stepQ_lt hs q l m ((chP1_mem hs hq m).1 hm)
theorem chP1_len {s : Sy} (hs : sysOk s = true) (q l : Nat) : (chP1 s q l).length ≤ 16 := by
  unfold chP1
  split
  · refine nodup_bound 16 _ ?_ ?_
    · have hp := (edges_pairwise hs).filter fun e => e.f.toNat == q && e.l.toNat == l
      rw [List.nodup_iff_pairwise_ne, List.pairwise_map]
      refine hp.imp_of_mem ?_
      intro a b ha hb hlt
      rw [List.mem_filter] at ha hb
      simp only [Bool.and_eq_true, beq_iff_eq] at ha hb
      have h1 := sysOk_in hs a ha.1
      have h2 := sysOk_in hs b hb.1
      have e1 : a.f = b.f := by omega
      have e2 : a.l = b.l := by omega
      unfold edgeLt at hlt
      rw [if_neg (by simpa using e1), if_neg (by simpa using e2)] at hlt
      have h3 := of_decide_eq_true hlt
      omega
    · intro x hx
      obtain ⟨e, he, rfl⟩ := List.mem_map.1 hx
      have := sysOk_in hs e (List.mem_filter.1 he).1
      omega
  · simp

/- The program's nodes, from the first system on. -/
theorem pst_cons (s : Sy) (ss : List Sy) (l node : Nat) : ∀ k, k ≤ ss.length → pst (s :: ss) l node k = pst ss l node k
  | 0, _ => rfl
  | k + 1, hk => by
    obtain ⟨h1, e1⟩ := pst_succ (ss := s :: ss) (l := l) (node := node) (k := k) (i := ss.length - k) (by simp; omega) (by simp; omega)
    obtain ⟨h2, e2⟩ := pst_succ (ss := ss) (l := l) (node := node) (k := k) (i := ss.length - 1 - k) (by omega) (by omega)
    rw [e1, e2, pst_cons s ss l node k (by omega)]
    congr 1
    rw [List.getElem_cons]
    split
    · omega
    · congr 1; omega
theorem pst_cons_last (s : Sy) (ss : List Sy) (l node : Nat) : pst (s :: ss) l node (ss.length + 1) = pstep s l (pst ss l node ss.length) := by
  obtain ⟨h1, e1⟩ := pst_succ (ss := s :: ss) (l := l) (node := node) (k := ss.length) (i := 0) (by simp) (by simp)
  rw [e1, pst_cons s ss l node _ (Nat.le_refl _)]
  rfl
theorem pst_parts : ∀ (ss : List Sy) (l node : Nat), (pst ss l node ss.length).wt = prodL (szP ss) ∧ (pst ss l node ss.length).nd = node / prodL (szP ss)
  | [], l, node => ⟨rfl, (Nat.div_one node).symm⟩
  | s :: ss, l, node => by
    obtain ⟨h1, h2⟩ := pst_parts ss l node
    show (pst (s :: ss) l node (ss.length + 1)).wt = s.st.toNat * prodL (szP ss) ∧ (pst (s :: ss) l node (ss.length + 1)).nd = node / (s.st.toNat * prodL (szP ss))
    rw [pst_cons_last]
    unfold pstep
    simp only
    rw [h1, h2]
    exact ⟨Nat.mul_comm _ _, by rw [Nat.div_div_eq_div_mul, Nat.mul_comm]⟩
theorem nxParts_cons (s : Sy) (ss : List Sy) (l node m : Nat) : m ∈ nxParts (s :: ss) node l ↔ ∃ q ∈ stepQ s (node / prodL (szP ss)) l, ∃ r ∈ nxParts ss node l, m = q * prodL (szP ss) + r := by
  unfold nxParts
  show m ∈ (pst (s :: ss) l node (ss.length + 1)).re ↔ _
  rw [pst_cons_last]
  obtain ⟨h1, h2⟩ := pst_parts ss l node
  unfold pstep joinN
  simp only
  rw [h1, h2, List.mem_flatMap]
  constructor
  · rintro ⟨q, hq, h⟩
    obtain ⟨r, hr, rfl⟩ := List.mem_map.1 h
    exact ⟨q, hq, r, hr, rfl⟩
  · rintro ⟨q, hq, r, hr, rfl⟩
    exact ⟨q, hq, List.mem_map_of_mem hr⟩

/- The reference's nodes, from the first system on. -/
theorem nxK_cons (a : Nat) (ss : List Nat) (C : Nat → List Nat) : ∀ (k m : Nat), m ∈ nxK (a :: ss) C (k + 1) ↔ ∃ q ∈ C 0, ∃ r ∈ nxK ss (fun i => C (i + 1)) k, m = q * prodT ss k + r
  | 0, m => by
    show m ∈ stepN a (C 0) [0] ↔ _
    rw [stepN_mem]
    constructor
    · rintro ⟨o, ho, x, hx, rfl⟩
      rw [List.mem_singleton.1 ho]
      exact ⟨x, hx, 0, List.mem_singleton.2 rfl, by simp [prodT]⟩
    · rintro ⟨q, hq, r, hr, rfl⟩
      rw [show r = 0 from List.mem_singleton.1 hr]
      exact ⟨0, List.mem_singleton.2 rfl, q, hq, by simp [prodT]⟩
  | k + 1, m => by
    show m ∈ stepN (ss.getD k 1) (C (k + 1)) (nxK (a :: ss) C (k + 1)) ↔ _
    rw [stepN_mem]
    constructor
    · rintro ⟨o, ho, x, hx, rfl⟩
      obtain ⟨q, hq, r, hr, rfl⟩ := (nxK_cons a ss C k o).1 ho
      refine ⟨q, hq, r * ss.getD k 1 + x, stepN_mem.2 ⟨r, hr, x, hx, rfl⟩, ?_⟩
      rw [prodT, Nat.add_mul, Nat.mul_assoc, Nat.add_assoc]
    · rintro ⟨q, hq, r', hr', rfl⟩
      obtain ⟨r, hr, x, hx, rfl⟩ := stepN_mem.1 hr'
      refine ⟨q * prodT ss k + r, (nxK_cons a ss C k _).2 ⟨q, hq, r, hr, rfl⟩, x, hx, ?_⟩
      rw [prodT, Nat.add_mul, Nat.mul_assoc, Nat.add_assoc]
theorem nxN_cons (a : Nat) (ss : List Nat) (ch : Nat → Nat → Nat → List Nat) (n l m : Nat) : m ∈ nxN (a :: ss) ch n l ↔ ∃ q ∈ ch 0 (n / prodL ss % a) l, ∃ r ∈ nxN ss (fun i => ch (i + 1)) n l, m = q * prodL ss + r := by
  unfold nxN
  show m ∈ nxK (a :: ss) _ (ss.length + 1) ↔ _
  rw [nxK_cons, prodT_all]
  rfl
/-- Both have the same nodes next to a node. -/
theorem nx_same : ∀ (xs : List Sy), xs.all sysOk = true → ∀ n l m, m ∈ nxN (szP xs) (chP xs) n l ↔ m ∈ nxParts xs n l
  | [], _, n, l, m => Iff.rfl
  | s :: ss, hall, n, l, m => by
    rw [List.all_cons, Bool.and_eq_true] at hall
    show m ∈ nxN (s.st.toNat :: szP ss) (chP (s :: ss)) n l ↔ _
    rw [nxN_cons, nxParts_cons]
    have hst := sysOk_st hall.1
    have hlt : n / prodL (szP ss) % s.st.toNat < s.st.toNat := Nat.mod_lt _ (by omega)
    have h1 : ∀ q, q ∈ chP (s :: ss) 0 (n / prodL (szP ss) % s.st.toNat) l ↔ q ∈ stepQ s (n / prodL (szP ss)) l := fun q => by
      rw [chP_at (by simp), List.getElem_cons_zero, chP1_mem hall.1 hlt]
      unfold stepQ
      rw [Nat.mod_mod]
    have h2 : ∀ r, r ∈ nxN (szP ss) (fun i => chP (s :: ss) (i + 1)) n l ↔ r ∈ nxParts ss n l := fun r => by
      rw [← nx_same ss hall.2 n l r]
      rfl
    constructor
    · rintro ⟨q, hq, r, hr, rfl⟩
      exact ⟨q, (h1 q).1 hq, r, (h2 r).1 hr, rfl⟩
    · rintro ⟨q, hq, r, hr, rfl⟩
      exact ⟨q, (h1 q).2 hq, r, (h2 r).2 hr, rfl⟩
theorem nxParts_lt {xs : List Sy} (hall : xs.all sysOk = true) (n l : Nat) : ∀ m ∈ nxParts xs n l, m < prodL (szP xs) := by
  obtain ⟨h1, h2, h3, h4⟩ := pst_ok hall l n xs.length (Nat.le_refl _)
  rw [(pst_parts xs l n).1] at h4
  exact h4
theorem szP_ok {xs : List Sy} (hall : xs.all sysOk = true) : ∀ a ∈ szP xs, 1 ≤ a ∧ a ≤ 16 := fun a ha => by
  obtain ⟨s, hs, rfl⟩ := List.mem_map.1 ha
  have := sysOk_st (List.all_eq_true.1 hall s hs)
  omega
theorem prodP_4096 {xs : List Sy} (hall : xs.all sysOk = true) (h3 : xs.length ≤ 3) : 1 ≤ prodL (szP xs) ∧ prodL (szP xs) ≤ 4096 := by
  refine ⟨prodL_pos fun a ha => (szP_ok hall a ha).1, ?_⟩
  have h1 := prodT_le (ss := szP xs) (b := 16) (fun a ha => (szP_ok hall a ha).2) (by decide) (szP xs).length
  rw [prodT_all] at h1
  have h2 : 16 ^ (szP xs).length ≤ 16 ^ 3 := Nat.pow_le_pow_right (by decide) (by unfold szP; rw [List.length_map]; exact h3)
  omega

end Go.Proofs.YtdkjnemakkppfaaGreatDoor

/- Plain: the traces of systems that run together, and where they are stuck. -/
namespace Go.Proofs.YtdkjnemakkppfaaGreatDoor
open AG

def flt (s : Sy) (r : List Nat) : List Nat := r.filter fun l => decide (l ∈ letters s.al)
theorem flt_cons (s : Sy) (l : Nat) (r : List Nat) : flt s (l :: r) = if l ∈ letters s.al then l :: flt s r else flt s r := by
  unfold flt
  rw [List.filter_cons]
  by_cases h : l ∈ letters s.al <;> simp [h]
theorem allAl_ok {ss : List Sy} (hall : ss.all sysOk = true) : alphaOk (allAl ss) = true := alphaOk_range.2 (allAl_range ss hall)

/-- A node to which a word leads parts. -/
def PR : List Sy → List Nat → Nat → Prop
  | [], _, n => n = 0
  | s :: ss, r, n => ∃ q m, (setW s (flt s r)).testBit q = true ∧ PR ss r m ∧ n = q * prodL (szP ss) + m
theorem setW_bit {s : Sy} (hs : sysOk s = true) {r : List Nat} {q : Nat} (h : (setW s r).testBit q = true) : q < s.st.toNat :=
  testBit_lt (setW_small (sysOk_in hs) (sysOk_st hs).1 r) h
theorem PR_lt : ∀ {ss : List Sy}, ss.all sysOk = true → ∀ {r n}, PR ss r n → n < prodL (szP ss)
  | [], _, _, _, h => by rw [show _ = 0 from h]; exact Nat.one_pos
  | s :: ss, hall, r, n, ⟨q, m, hq, hm, e⟩ => by
    rw [List.all_cons, Bool.and_eq_true] at hall
    have h1 := PR_lt hall.2 hm
    have h2 := setW_bit hall.1 hq
    show n < s.st.toNat * prodL (szP ss)
    have h3 : (q + 1) * prodL (szP ss) ≤ s.st.toNat * prodL (szP ss) := Nat.mul_le_mul_right _ h2
    rw [Nat.add_mul] at h3
    omega
theorem nxParts_shift : ∀ (ss : List Sy) (q m l x : Nat), x ∈ nxParts ss (q * prodL (szP ss) + m) l ↔ x ∈ nxParts ss m l
  | [], q, m, l, x => Iff.rfl
  | s :: ss, q, m, l, x => by
    rw [nxParts_cons, nxParts_cons]
    by_cases h0 : prodL (szP ss) = 0
    · have e : q * prodL (szP (s :: ss)) + m = m := by
        show q * (s.st.toNat * prodL (szP ss)) + m = m
        rw [h0]; simp
      rw [e]
    · have e1 : (q * prodL (szP (s :: ss)) + m) / prodL (szP ss) = q * s.st.toNat + m / prodL (szP ss) := by
        show (q * (s.st.toNat * prodL (szP ss)) + m) / prodL (szP ss) = _
        rw [← Nat.mul_assoc, Nat.mul_comm _ (prodL (szP ss)), Nat.mul_add_div (by omega)]
      have e2 : ∀ y, y ∈ nxParts ss (q * prodL (szP (s :: ss)) + m) l ↔ y ∈ nxParts ss m l := fun y => by
        show y ∈ nxParts ss (q * (s.st.toNat * prodL (szP ss)) + m) l ↔ _
        rw [← Nat.mul_assoc]
        exact nxParts_shift ss _ m l y
      have e3 : stepQ s (q * s.st.toNat + m / prodL (szP ss)) l = stepQ s (m / prodL (szP ss)) l := by
        unfold stepQ
        rw [Nat.add_comm, Nat.mul_comm, Nat.add_mul_mod_self_left]
      rw [e1, e3]
      constructor
      · rintro ⟨a, ha, b, hb, e⟩; exact ⟨a, ha, b, (e2 b).1 hb, e⟩
      · rintro ⟨a, ha, b, hb, e⟩; exact ⟨a, ha, b, (e2 b).2 hb, e⟩
/-- One letter more, seen by one part. -/
theorem step_one {s : Sy} (hs : sysOk s = true) {l : Nat} (hl : l < 6) (r : List Nat) (t : Nat) : (setW s (flt s (l :: r))).testBit t = true ↔ ∃ q, (setW s (flt s r)).testBit q = true ∧ t ∈ stepQ s q l := by
  have hz : HasZ s.al (l : Int) = true ↔ l ∈ letters s.al := by
    rw [letters_ok]
    unfold HasZ
    simp [hl]
  rw [flt_cons]
  by_cases h : l ∈ letters s.al
  · rw [if_pos h]
    show (stepSet s (setW s (flt s r)) (l : Int)).testBit t = true ↔ _
    rw [← unionOf_mv s (sysOk_in hs), unionOf_testBit]
    constructor
    · rintro ⟨h1, q, h2, h3⟩
      refine ⟨q, h2, ?_⟩
      unfold stepQ
      rw [if_pos (hz.2 h), Nat.mod_eq_of_lt (setW_bit hs h2), memL_mem]
      exact ⟨h1, h3⟩
    · rintro ⟨q, h2, h3⟩
      unfold stepQ at h3
      rw [if_pos (hz.2 h), Nat.mod_eq_of_lt (setW_bit hs h2), memL_mem] at h3
      exact ⟨h3.1, q, h2, h3.2⟩
  · rw [if_neg h]
    constructor
    · intro h1
      refine ⟨t, h1, ?_⟩
      unfold stepQ
      rw [if_neg (fun k => h (hz.1 k)), Nat.mod_eq_of_lt (setW_bit hs h1), List.mem_singleton]
    · rintro ⟨q, h2, h3⟩
      unfold stepQ at h3
      rw [if_neg (fun k => h (hz.1 k)), Nat.mod_eq_of_lt (setW_bit hs h2), List.mem_singleton] at h3
      rw [h3]
      exact h2
theorem PR_nil : ∀ {ss : List Sy}, ss.all sysOk = true → ∀ n, PR ss [] n ↔ n = 0
  | [], _, n => Iff.rfl
  | s :: ss, hall, n => by
    rw [List.all_cons, Bool.and_eq_true] at hall
    show (∃ q m, (1 : Nat).testBit q = true ∧ PR ss [] m ∧ n = q * prodL (szP ss) + m) ↔ n = 0
    have hb : ∀ q, (1 : Nat).testBit q = true ↔ q = 0 := fun q => by
      have := Nat.testBit_two_pow (n := 0) (m := q)
      rw [show (1 : Nat) = 2 ^ 0 from rfl, this, decide_eq_true_iff]
      omega
    constructor
    · rintro ⟨q, m, h1, h2, e⟩
      rw [(hb q).1 h1, (PR_nil hall.2 m).1 h2] at e
      simpa using e
    · rintro rfl
      exact ⟨0, 0, (hb 0).2 rfl, (PR_nil hall.2 0).2 rfl, by simp⟩
theorem PR_cons : ∀ {ss : List Sy}, ss.all sysOk = true → ∀ {l : Nat}, l < 6 → ∀ (r : List Nat) (n : Nat), PR ss (l :: r) n ↔ ∃ m, PR ss r m ∧ n ∈ nxParts ss m l
  | [], _, l, _, r, n => by
    show n = 0 ↔ ∃ m, m = 0 ∧ n ∈ [0]
    simp
  | s :: ss, hall, l, hl, r, n => by
    rw [List.all_cons, Bool.and_eq_true] at hall
    have hp : 0 < prodL (szP ss) := prodL_pos fun a ha => (szP_ok hall.2 a ha).1
    have hdiv : ∀ q m, m < prodL (szP ss) → (q * prodL (szP ss) + m) / prodL (szP ss) = q := fun q m hm => by
      rw [Nat.mul_comm, Nat.mul_add_div hp, Nat.div_eq_of_lt hm, Nat.add_zero]
    constructor
    · rintro ⟨t, n', h1, h2, rfl⟩
      obtain ⟨q, h3, h4⟩ := (step_one hall.1 hl r t).1 h1
      obtain ⟨m, h5, h6⟩ := (PR_cons hall.2 hl r n').1 h2
      refine ⟨q * prodL (szP ss) + m, ⟨q, m, h3, h5, rfl⟩, ?_⟩
      rw [nxParts_cons, hdiv q m (PR_lt hall.2 h5)]
      exact ⟨t, h4, n', (nxParts_shift ss q m l n').2 h6, rfl⟩
    · rintro ⟨_, ⟨q, m, h3, h5, rfl⟩, hn⟩
      rw [nxParts_cons, hdiv q m (PR_lt hall.2 h5)] at hn
      obtain ⟨t, h4, n', h6, rfl⟩ := hn
      exact ⟨t, n', (step_one hall.1 hl r t).2 ⟨q, h3, h4⟩, (PR_cons hall.2 hl r n').2 ⟨m, h5, (nxParts_shift ss q m l n').1 h6⟩, rfl⟩
theorem RW_PR {ss : List Sy} (hall : ss.all sysOk = true) : ∀ (r : List Nat) (n : Nat), RW (fun m => m ∈ [0]) (letters (allAl ss)) (nxParts ss) r n ↔ (∀ l ∈ r, l ∈ letters (allAl ss)) ∧ PR ss r n
  | [], n => by
    show n ∈ [0] ↔ _
    rw [PR_nil hall, List.mem_singleton]
    exact ⟨fun h => ⟨fun l hl => (by cases hl), h⟩, fun h => h.2⟩
  | l :: r, n => by
    show (l ∈ letters (allAl ss) ∧ ∃ m, RW _ _ _ r m ∧ n ∈ nxParts ss m l) ↔ _
    constructor
    · rintro ⟨h1, m, h2, h3⟩
      obtain ⟨h4, h5⟩ := (RW_PR hall r m).1 h2
      refine ⟨fun x hx => ?_, (PR_cons hall (letters_lt h1).1 r n).2 ⟨m, h5, h3⟩⟩
      rcases List.mem_cons.1 hx with rfl | hx
      · exact h1
      · exact h4 x hx
    · rintro ⟨h1, h2⟩
      have hl := h1 l List.mem_cons_self
      obtain ⟨m, h3, h4⟩ := (PR_cons hall (letters_lt hl).1 r n).1 h2
      exact ⟨hl, m, (RW_PR hall r m).2 ⟨fun x hx => h1 x (List.mem_cons_of_mem _ hx), h3⟩, h4⟩
theorem PR_some : ∀ (ss : List Sy) (r : List Nat), (∃ n, PR ss r n) ↔ ∀ s ∈ ss, setW s (flt s r) ≠ 0
  | [], r => ⟨fun _ s hs => (by cases hs), fun _ => ⟨0, rfl⟩⟩
  | s :: ss, r => by
    constructor
    · rintro ⟨n, q, m, h1, h2, -⟩ x hx
      rcases List.mem_cons.1 hx with rfl | hx
      · intro h
        rw [h] at h1
        simp at h1
      · exact (PR_some ss r).1 ⟨m, h2⟩ x hx
    · intro h
      obtain ⟨m, hm⟩ := (PR_some ss r).2 fun x hx => h x (List.mem_cons_of_mem _ hx)
      obtain ⟨q, hq⟩ := Nat.exists_testBit_of_ne_zero (h s List.mem_cons_self)
      exact ⟨_, q, m, hq, hm, rfl⟩
end Go.Proofs.YtdkjnemakkppfaaGreatDoor

/- Plain: the system of two systems that run together. -/
namespace Go.Proofs.YtdkjnemakkppfaaGreatDoor
open AG

/-- A node that a word reaches. -/
def Rn (ss : List Sy) (n : Nat) : Prop := ∃ r, RW (fun m => m ∈ [0]) (letters (allAl ss)) (nxParts ss) r n
theorem Rn.zero (ss : List Sy) : Rn ss 0 := ⟨[], List.mem_singleton.2 rfl⟩
theorem Rn.step {ss : List Sy} {n l m : Nat} (h : Rn ss n) (hl : l ∈ letters (allAl ss)) (hm : m ∈ nxParts ss n l) : Rn ss m := by
  obtain ⟨r, hr⟩ := h
  exact ⟨l :: r, hl, n, hr, hm⟩
theorem Rn.lt {ss : List Sy} (hall : ss.all sysOk = true) {n : Nat} (h : Rn ss n) : n < prodL (szP ss) := by
  obtain ⟨r, hr⟩ := h
  exact PR_lt hall ((RW_PR hall r n).1 hr).2
open Classical in
/-- The reached nodes in their order. -/
noncomputable def rnL (ss : List Sy) : List Nat := (List.range (prodL (szP ss))).filter fun n => decide (Rn ss n)
open Classical in
/-- How many of the first n nodes are reached. -/
noncomputable def rkN (ss : List Sy) (n : Nat) : Nat := ((List.range n).filter fun m => decide (Rn ss m)).length
open Classical in
theorem rnL_mem {ss : List Sy} (hall : ss.all sysOk = true) {n : Nat} : n ∈ rnL ss ↔ Rn ss n := by
  unfold rnL
  rw [List.mem_filter, List.mem_range, decide_eq_true_iff]
  exact ⟨fun h => h.2, fun h => ⟨h.lt hall, h⟩⟩
theorem rnL_sorted (ss : List Sy) : (rnL ss).Pairwise (· < ·) := List.Pairwise.filter _ List.pairwise_lt_range
open Classical in
theorem rkN_succ (ss : List Sy) (n : Nat) : (Rn ss n → rkN ss (n + 1) = rkN ss n + 1) ∧ (¬ Rn ss n → rkN ss (n + 1) = rkN ss n) := by
  unfold rkN
  rw [List.range_succ, List.filter_append, List.length_append]
  constructor
  · intro h
    simp [h]
  · intro h
    simp [h]
theorem rkN_all (ss : List Sy) : rkN ss (prodL (szP ss)) = (rnL ss).length := rfl
theorem rkN_mono (ss : List Sy) : ∀ {a b : Nat}, a ≤ b → rkN ss a ≤ rkN ss b := by
  intro a b h
  obtain ⟨k, rfl⟩ := Nat.exists_eq_add_of_le h
  clear h
  induction k with
  | zero => exact Nat.le_refl _
  | succ k ih =>
    by_cases hr : Rn ss (a + k)
    · have := (rkN_succ ss (a + k)).1 hr
      rw [← Nat.add_assoc]; omega
    · have := (rkN_succ ss (a + k)).2 hr
      rw [← Nat.add_assoc]; omega
theorem rkN_lt {ss : List Sy} {a b : Nat} (ha : Rn ss a) (h : a < b) : rkN ss a < rkN ss b := by
  have h1 := (rkN_succ ss a).1 ha
  have h2 := rkN_mono ss (show a + 1 ≤ b from h)
  omega
theorem rkN_inj {ss : List Sy} {a b : Nat} (ha : Rn ss a) (hb : Rn ss b) (h : rkN ss a = rkN ss b) : a = b := by
  rcases Nat.lt_trichotomy a b with k | k | k
  · have := rkN_lt ha k; omega
  · exact k
  · have := rkN_lt hb k; omega
theorem rkN_below {ss : List Sy} (hall : ss.all sysOk = true) {n : Nat} (h : Rn ss n) : rkN ss n < (rnL ss).length := by
  rw [← rkN_all]
  exact rkN_lt h (h.lt hall)
open Classical in
theorem filter_below : ∀ (N k : Nat) (p : Nat → Bool), k ≤ N → ((List.range N).filter p).filter (fun m => decide (m < k)) = (List.range k).filter p := by
  intro N k p hk
  rw [List.filter_filter]
  obtain ⟨d, rfl⟩ := Nat.exists_eq_add_of_le hk
  clear hk
  induction d with
  | zero =>
    refine List.filter_congr fun x hx => ?_
    rw [Nat.add_zero, List.mem_range] at hx
    simp [hx]
  | succ d ih =>
    rw [← Nat.add_assoc, List.range_succ, List.filter_append, ih]
    have : ¬ (k + d < k) := by omega
    simp [this]
/-- The node of a number. -/
theorem rnL_get {ss : List Sy} (hall : ss.all sysOk = true) {i : Nat} (hi : i < (rnL ss).length) : rkN ss (rnL ss)[i] = i := by
  have hs := rnL_sorted ss
  have hm : (rnL ss)[i] ∈ rnL ss := List.getElem_mem hi
  have hlt := ((rnL_mem hall).1 hm).lt hall
  unfold rkN
  rw [← filter_below (prodL (szP ss)) _ _ (Nat.le_of_lt hlt)]
  show ((rnL ss).filter fun m => decide (m < (rnL ss)[i])).length = i
  have : ((rnL ss).filter fun m => decide (m < (rnL ss)[i])) = (rnL ss).take i := by
    generalize rnL ss = l at *
    generalize hx : l[i] = x at *
    have e : l = l.take i ++ l.drop i := (List.take_append_drop i l).symm
    have h1 : (l.take i).filter (fun m => decide (m < x)) = l.take i := by
      rw [List.filter_eq_self]
      intro a ha
      obtain ⟨j, hj, rfl⟩ := List.getElem_of_mem ha
      rw [List.length_take] at hj
      rw [List.getElem_take, ← hx]
      exact decide_eq_true (List.pairwise_iff_getElem.1 hs j i (by omega) hi (by omega))
    have h2 : (l.drop i).filter (fun m => decide (m < x)) = [] := by
      rw [List.filter_eq_nil_iff]
      intro a ha
      obtain ⟨j, hj, rfl⟩ := List.getElem_of_mem ha
      rw [List.length_drop] at hj
      rw [List.getElem_drop]
      rw [← hx]
      simp only [decide_eq_true_eq]
      by_cases h0 : j = 0
      · subst h0; simp
      · have := List.pairwise_iff_getElem.1 hs i (i + j) hi (by omega) (by omega)
        omega
    conv => lhs; rw [e]
    rw [List.filter_append, h1, h2, List.append_nil]
  rw [this, List.length_take]
  omega

/-- The nodes next to a node lie in order. -/
theorem stepQ_sorted (s : Sy) (q l : Nat) : (stepQ s q l).Pairwise (· < ·) := by
  unfold stepQ
  split
  · exact memL_sorted _
  · simp
theorem nxParts_cons_eq (s : Sy) (ss : List Sy) (l node : Nat) : nxParts (s :: ss) node l = (stepQ s (node / prodL (szP ss)) l).flatMap fun q => (nxParts ss node l).map fun r => q * prodL (szP ss) + r := by
  unfold nxParts
  show (pst (s :: ss) l node (ss.length + 1)).re = _
  rw [pst_cons_last]
  obtain ⟨h1, h2⟩ := pst_parts ss l node
  unfold pstep joinN
  simp only
  rw [h1, h2]
theorem flat_sorted {P : Nat} {re : List Nat} (hre : re.Pairwise (· < ·)) (hlt : ∀ r ∈ re, r < P) : ∀ {qs : List Nat}, qs.Pairwise (· < ·) → (qs.flatMap fun q => re.map fun r => q * P + r).Pairwise (· < ·)
  | [], _ => List.Pairwise.nil
  | q :: qs, h => by
    rw [List.flatMap_cons, List.pairwise_append]
    rw [List.pairwise_cons] at h
    refine ⟨?_, flat_sorted hre hlt h.2, ?_⟩
    · rw [List.pairwise_map]
      exact hre.imp fun h => by omega
    · intro a ha b hb
      obtain ⟨r, hr, rfl⟩ := List.mem_map.1 ha
      obtain ⟨q', hq', hb⟩ := List.mem_flatMap.1 hb
      obtain ⟨r', hr', rfl⟩ := List.mem_map.1 hb
      have h1 := h.1 q' hq'
      have h2 := hlt r hr
      have h3 : (q + 1) * P ≤ q' * P := Nat.mul_le_mul_right _ h1
      rw [Nat.add_mul] at h3
      omega
theorem nxParts_sorted : ∀ {ss : List Sy}, ss.all sysOk = true → ∀ n l, (nxParts ss n l).Pairwise (· < ·)
  | [], _, n, l => by show [0].Pairwise (· < ·); simp
  | s :: ss, hall, n, l => by
    rw [List.all_cons, Bool.and_eq_true] at hall
    rw [nxParts_cons_eq]
    exact flat_sorted (nxParts_sorted hall.2 n l) (nxParts_lt hall.2 n l) (stepQ_sorted _ _ _)
theorem sorted_ext : ∀ {a b : List Nat}, a.Pairwise (· < ·) → b.Pairwise (· < ·) → (∀ x, x ∈ a ↔ x ∈ b) → a = b
  | [], [], _, _, _ => rfl
  | [], y :: b, _, _, h => absurd ((h y).2 List.mem_cons_self) (by simp)
  | x :: a, [], _, _, h => absurd ((h x).1 List.mem_cons_self) (by simp)
  | x :: a, y :: b, ha, hb, h => by
    rw [List.pairwise_cons] at ha hb
    have e : x = y := by
      have h1 := (h x).1 List.mem_cons_self
      have h2 := (h y).2 List.mem_cons_self
      rcases List.mem_cons.1 h1 with h1 | h1
      · exact h1
      · rcases List.mem_cons.1 h2 with h2 | h2
        · exact h2.symm
        · have := ha.1 y h2
          have := hb.1 x h1
          omega
    subst e
    rw [sorted_ext ha.2 hb.2 fun z => ?_]
    constructor
    · intro hz
      rcases List.mem_cons.1 ((h z).1 (List.mem_cons_of_mem _ hz)) with rfl | hz'
      · exact absurd (ha.1 _ hz) (Nat.lt_irrefl _)
      · exact hz'
    · intro hz
      rcases List.mem_cons.1 ((h z).2 (List.mem_cons_of_mem _ hz)) with rfl | hz'
      · exact absurd (hb.1 _ hz) (Nat.lt_irrefl _)
      · exact hz'
theorem chP1_sorted {s : Sy} (hs : sysOk s = true) (q l : Nat) : (chP1 s q l).Pairwise (· < ·) := by
  unfold chP1
  split
  · have hp := (edges_pairwise hs).filter fun e => e.f.toNat == q && e.l.toNat == l
    rw [List.pairwise_map]
    refine hp.imp_of_mem ?_
    intro a b ha hb hlt
    rw [List.mem_filter] at ha hb
    simp only [Bool.and_eq_true, beq_iff_eq] at ha hb
    have h1 := sysOk_in hs a ha.1
    have h2 := sysOk_in hs b hb.1
    have e1 : a.f = b.f := by omega
    have e2 : a.l = b.l := by omega
    unfold edgeLt at hlt
    rw [if_neg (by simpa using e1), if_neg (by simpa using e2)] at hlt
    have h3 := of_decide_eq_true hlt
    omega
  · simp
theorem stepN_sorted {a : Nat} {c out : List Nat} (hc : c.Pairwise (· < ·)) (hlt : ∀ x ∈ c, x < a) (ho : out.Pairwise (· < ·)) : (stepN a c out).Pairwise (· < ·) := flat_sorted hc hlt ho
theorem nxK_sorted {ss : List Nat} {C : Nat → List Nat} (hC : ∀ i, i < ss.length → (C i).Pairwise (· < ·) ∧ ∀ x ∈ C i, x < ss.getD i 1) : ∀ k, k ≤ ss.length → (nxK ss C k).Pairwise (· < ·)
  | 0, _ => by show [0].Pairwise (· < ·); simp
  | k + 1, hk => stepN_sorted (hC k (by omega)).1 (hC k (by omega)).2 (nxK_sorted hC k (by omega))
/-- Both lay the nodes next to a node in one order. -/
theorem nx_eq {xs : List Sy} (hall : xs.all sysOk = true) (n l : Nat) : nxN (szP xs) (chP xs) n l = nxParts xs n l := by
  refine sorted_ext ?_ (nxParts_sorted hall n l) fun m => nx_same xs hall n l m
  unfold nxN
  refine nxK_sorted (fun i hi => ?_) _ (Nat.le_refl _)
  have hi' : i < xs.length := by unfold szP at hi; rwa [List.length_map] at hi
  have hs := List.all_eq_true.1 hall _ (List.getElem_mem hi')
  rw [chP_at hi']
  refine ⟨chP1_sorted hs _ _, fun x hx => ?_⟩
  have hd := decS_lt (ss := szP xs) (fun a ha => (szP_ok hall a ha).1) n i hi
  have e : (szP xs)[i] = xs[i].st.toNat := by simp [szP]
  rw [e] at hd
  have := chP1_lt hs hd x hx
  rw [List.getD_eq_getElem?_getD, List.getElem?_eq_getElem hi, Option.getD_some, e]
  exact this

/-- The edges of the composition that leave a node. -/
noncomputable def cmRow (ss : List Sy) (n : Nat) : List Ed := (letters (allAl ss)).flatMap fun l => (nxParts ss n l).map fun m => ⟨(rkN ss n : Int), (l : Int), (rkN ss m : Int)⟩
noncomputable def cmEs (ss : List Sy) : List Ed := (rnL ss).flatMap fun n => cmRow ss n
noncomputable def cmSy (ss : List Sy) : Sy := ⟨allAl ss, ((rnL ss).length : Nat), cmEs ss⟩
/-- Two systems can be composed. -/
noncomputable def cmOk (s t : Sy) : Bool := sysOk s && (sysOk t && decide ((rnL [s, t]).length ≤ 16))
noncomputable def cmX (s t : Sy) : Sy := if cmOk s t = true then cmSy [s, t] else ⟨0, 0, []⟩

/-- A search for the reached nodes under way: all up to the i-th are gone through. -/
structure RnB (ss : List Sy) (ps : List Nat) (i : Nat) : Prop where
  nodup : ps.Nodup
  zero : 0 ∈ ps
  sound : ∀ p ∈ ps, Rn ss p
  done : ∀ j (h : j < ps.length), j < i → ∀ l ∈ letters (allAl ss), ∀ m ∈ nxParts ss ps[j] l, m ∈ ps
theorem RnB.all {ss : List Sy} {ps : List Nat} (h : RnB ss ps ps.length) (n : Nat) : n ∈ ps ↔ Rn ss n := by
  constructor
  · exact h.sound n
  · rintro ⟨r, hr⟩
    induction r generalizing n with
    | nil => rw [List.mem_singleton.1 hr]; exact h.zero
    | cons l r ih =>
      obtain ⟨hl, m, hm, hn⟩ := hr
      obtain ⟨j, hj, rfl⟩ := List.getElem_of_mem (ih m hm)
      exact h.done j hj hj l hl n hn
theorem RnB.perm {ss : List Sy} (hall : ss.all sysOk = true) {ps : List Nat} (h : RnB ss ps ps.length) : ps.Perm (rnL ss) := by
  refine (List.perm_ext_iff_of_nodup h.nodup ?_).2 fun n => ?_
  · exact (rnL_sorted ss).imp fun h => Nat.ne_of_lt h
  · rw [h.all, rnL_mem hall]
theorem RnB.many {ss : List Sy} (hall : ss.all sysOk = true) {ps : List Nat} {i : Nat} (h : RnB ss ps i) : ps.length ≤ (rnL ss).length := by
  have : ∀ (l m : List Nat), l.Nodup → (∀ x ∈ l, x ∈ m) → l.length ≤ m.length := by
    intro l
    induction l with
    | nil => intro m _ _; exact Nat.zero_le _
    | cons a l ih =>
      intro m hd hs
      rw [List.nodup_cons] at hd
      have ha := hs a List.mem_cons_self
      have h1 := ih (m.erase a) hd.2 fun x hx => by
        refine (List.mem_erase_of_ne ?_).2 (hs x (List.mem_cons_of_mem _ hx))
        rintro rfl
        exact hd.1 hx
      rw [List.length_erase_of_mem ha] at h1
      have := List.length_pos_of_mem ha
      rw [List.length_cons]
      omega
  exact this ps _ h.nodup fun x hx => (rnL_mem hall).2 (h.sound x hx)

end Go.Proofs.YtdkjnemakkppfaaGreatDoor

/- Plain: what systems composed do. -/
namespace Go.Proofs.YtdkjnemakkppfaaGreatDoor
open AG

theorem edgeLt_f {a b : Ed} (h : a.f < b.f) : edgeLt a b = true := by unfold edgeLt; rw [if_pos (by omega)]; exact decide_eq_true h
theorem edgeLt_l {a b : Ed} (h0 : a.f = b.f) (h : a.l < b.l) : edgeLt a b = true := by unfold edgeLt; rw [if_neg (by simpa using h0), if_pos (by omega)]; exact decide_eq_true h
theorem edgeLt_t {a b : Ed} (h0 : a.f = b.f) (h1 : a.l = b.l) (h : a.t < b.t) : edgeLt a b = true := by unfold edgeLt; rw [if_neg (by simpa using h0), if_neg (by simpa using h1)]; exact decide_eq_true h
theorem edgeLt_asymm {a b : Ed} (h : edgeLt a b = true) (h' : edgeLt b a = true) : False := by
  unfold edgeLt at h h'
  by_cases e1 : a.f = b.f
  · rw [if_neg (by simpa using e1)] at h
    rw [if_neg (by simpa using e1.symm)] at h'
    by_cases e2 : a.l = b.l
    · rw [if_neg (by simpa using e2)] at h
      rw [if_neg (by simpa using e2.symm)] at h'
      have := of_decide_eq_true h
      have := of_decide_eq_true h'
      omega
    · rw [if_pos e2] at h
      rw [if_pos (fun h => e2 h.symm)] at h'
      have := of_decide_eq_true h
      have := of_decide_eq_true h'
      omega
  · rw [if_pos e1] at h
    rw [if_pos (fun h => e1 h.symm)] at h'
    have := of_decide_eq_true h
    have := of_decide_eq_true h'
    omega
section
variable {ss : List Sy}
theorem cmEs_mem (hall : ss.all sysOk = true) {e : Ed} : e ∈ cmEs ss ↔ ∃ n l m, Rn ss n ∧ l ∈ letters (allAl ss) ∧ m ∈ nxParts ss n l ∧ e = ⟨(rkN ss n : Int), (l : Int), (rkN ss m : Int)⟩ := by
  unfold cmEs cmRow
  rw [List.mem_flatMap]
  constructor
  · rintro ⟨n, hn, h⟩
    obtain ⟨l, hl, h⟩ := List.mem_flatMap.1 h
    obtain ⟨m, hm, rfl⟩ := List.mem_map.1 h
    exact ⟨n, l, m, (rnL_mem hall).1 hn, hl, hm, rfl⟩
  · rintro ⟨n, l, m, hn, hl, hm, rfl⟩
    exact ⟨n, (rnL_mem hall).2 hn, List.mem_flatMap.2 ⟨l, hl, List.mem_map.2 ⟨m, hm, rfl⟩⟩⟩
theorem cmEs_sorted (hall : ss.all sysOk = true) : (cmEs ss).Pairwise fun a b => edgeLt a b = true := by
  unfold cmEs
  rw [List.pairwise_flatMap]
  refine ⟨fun n hn => ?_, (rnL_sorted ss).imp_of_mem fun {a b} ha hb hab x hx y hy => ?_⟩
  · have hn := (rnL_mem hall).1 hn
    unfold cmRow
    rw [List.pairwise_flatMap]
    refine ⟨fun l hl => ?_, (letters_sorted _).imp fun {a b} hab x hx y hy => ?_⟩
    · rw [List.pairwise_map]
      refine (nxParts_sorted hall n l).imp_of_mem fun {a b} ha hb hab => edgeLt_t rfl rfl ?_
      exact Int.ofNat_lt.2 (rkN_lt (hn.step hl ha) hab)
    · obtain ⟨p, -, rfl⟩ := List.mem_map.1 hx
      obtain ⟨q, -, rfl⟩ := List.mem_map.1 hy
      exact edgeLt_l rfl (Int.ofNat_lt.2 hab)
  · unfold cmRow at hx hy
    obtain ⟨l, -, hx⟩ := List.mem_flatMap.1 hx
    obtain ⟨p, -, rfl⟩ := List.mem_map.1 hx
    obtain ⟨l', -, hy⟩ := List.mem_flatMap.1 hy
    obtain ⟨q, -, rfl⟩ := List.mem_map.1 hy
    exact edgeLt_f (Int.ofNat_lt.2 (rkN_lt ((rnL_mem hall).1 ha) hab))
theorem rnL_pos (hall : ss.all sysOk = true) : 1 ≤ (rnL ss).length := List.length_pos_of_mem ((rnL_mem hall).2 (Rn.zero ss))
theorem cmSy_ok (hall : ss.all sysOk = true) (h16 : (rnL ss).length ≤ 16) : sysOk (cmSy ss) = true := by
  have h1 := rnL_pos hall
  refine sysOk_of (allAl_ok hall) ⟨by show (1 : Int) ≤ ((rnL ss).length : Nat); omega, by show (((rnL ss).length : Nat) : Int) ≤ 16; omega⟩ (fun e he => ?_) (cmEs_sorted hall)
  obtain ⟨n, l, m, hn, hl, hm, rfl⟩ := (cmEs_mem hall).1 he
  have k1 := rkN_below hall hn
  have k2 := rkN_below hall (hn.step hl hm)
  obtain ⟨k3, k4⟩ := letters_lt hl
  show (decide _ && Has (allAl ss) ((l : Int).toNat)) = true
  rw [Int.toNat_natCast, (letters_ok.1 hl).2, Bool.and_true, decide_eq_true_iff]
  show (0 : Int) ≤ (rkN ss n : Int) ∧ (rkN ss n : Int) < ((rnL ss).length : Nat) ∧ (0 : Int) ≤ (rkN ss m : Int) ∧ (rkN ss m : Int) < ((rnL ss).length : Nat) ∧ (0 : Int) ≤ (l : Int) ∧ (l : Int) < 6
  omega
theorem stepSet_testBit (s : Sy) (S : Nat) (l : Int) (t : Nat) : (stepSet s S l).testBit t = true ↔ t < 16 ∧ ∃ e ∈ s.es, e.l = l ∧ S.testBit e.f.toNat = true ∧ e.t.toNat = t := by
  unfold stepSet
  exact bitsOf_testBit _ _ _
theorem one_testBit (q : Nat) : (1 : Nat).testBit q = true ↔ q = 0 := by
  have := Nat.testBit_two_pow (n := 0) (m := q)
  rw [show (1 : Nat) = 2 ^ 0 from rfl, this, decide_eq_true_iff]
  omega
/-- The states to which a word leads the composition. -/
theorem setW_cm (hall : ss.all sysOk = true) (h16 : (rnL ss).length ≤ 16) : ∀ (r : List Nat), ∀ i : Nat, (setW (cmSy ss) r).testBit i = true ↔ ∃ n, RW (fun m => m ∈ [0]) (letters (allAl ss)) (nxParts ss) r n ∧ rkN ss n = i
  | [], i => by
    show (1 : Nat).testBit i = true ↔ ∃ n, n ∈ [0] ∧ rkN ss n = i
    rw [one_testBit]
    constructor
    · rintro rfl; exact ⟨0, List.mem_singleton.2 rfl, rfl⟩
    · rintro ⟨n, hn, rfl⟩
      rw [List.mem_singleton.1 hn]
      rfl
  | l :: r, i => by
    show (stepSet (cmSy ss) (setW (cmSy ss) r) (l : Int)).testBit i = true ↔ _
    rw [stepSet_testBit]
    constructor
    · rintro ⟨hi, e, he, h1, h2, h3⟩
      obtain ⟨n, l', m, hn, hl', hm, rfl⟩ := (cmEs_mem hall).1 he
      have e1 : l' = l := Int.ofNat_inj.1 h1
      subst e1
      have h2' : (setW (cmSy ss) r).testBit (rkN ss n) = true := by simpa using h2
      obtain ⟨n', hn', e'⟩ := (setW_cm hall h16 r _).1 h2'
      obtain rfl : n' = n := rkN_inj ⟨r, hn'⟩ hn e'
      exact ⟨m, ⟨hl', n', hn', hm⟩, by simpa using h3⟩
    · rintro ⟨m, ⟨hl, n, hn, hm⟩, rfl⟩
      have hr : Rn ss n := ⟨r, hn⟩
      have := rkN_below hall (hr.step hl hm)
      refine ⟨by omega, _, (cmEs_mem hall).2 ⟨n, l, m, hr, hl, hm, rfl⟩, rfl, ?_, Int.toNat_natCast _⟩
      rw [Int.toNat_natCast]
      exact (setW_cm hall h16 r _).2 ⟨n, hn, rfl⟩
theorem setW_cm_ne (hall : ss.all sysOk = true) (h16 : (rnL ss).length ≤ 16) (r : List Nat) : setW (cmSy ss) r ≠ 0 ↔ ∃ n, RW (fun m => m ∈ [0]) (letters (allAl ss)) (nxParts ss) r n := by
  constructor
  · intro h
    obtain ⟨i, hi⟩ := Nat.exists_testBit_of_ne_zero h
    obtain ⟨n, hn, -⟩ := (setW_cm hall h16 r i).1 hi
    exact ⟨n, hn⟩
  · rintro ⟨n, hn⟩ h
    have := (setW_cm hall h16 r _).2 ⟨n, hn, rfl⟩
    rw [h] at this
    simp at this
/-- The composition has the traces of its parts. -/
theorem setW_cm_parts (hall : ss.all sysOk = true) (h16 : (rnL ss).length ≤ 16) (r : List Nat) : setW (cmSy ss) r ≠ 0 ↔ (∀ l ∈ r, l ∈ letters (allAl ss)) ∧ ∀ s ∈ ss, setW s (flt s r) ≠ 0 := by
  rw [setW_cm_ne hall h16, ← PR_some]
  constructor
  · rintro ⟨n, h⟩; exact ⟨((RW_PR hall r n).1 h).1, n, ((RW_PR hall r n).1 h).2⟩
  · rintro ⟨h, n, hn⟩; exact ⟨n, (RW_PR hall r n).2 ⟨h, hn⟩⟩
end

end Go.Proofs.YtdkjnemakkppfaaGreatDoor

/- Plain: compositions of trimmed systems, with neutral systems, turned around, deterministic, and where they are stuck. -/
namespace Go.Proofs.YtdkjnemakkppfaaGreatDoor
open AG

theorem all_two {s t : Sy} (hs : sysOk s = true) (ht : sysOk t = true) : ([s, t] : List Sy).all sysOk = true := by rw [List.all_cons, List.all_cons, hs, ht]; rfl
theorem rnL_le (ss : List Sy) : (rnL ss).length ≤ prodL (szP ss) := by
  unfold rnL
  exact Nat.le_trans (List.length_filter_le _ _) (by rw [List.length_range]; exact Nat.le_refl _)
end Go.Proofs.YtdkjnemakkppfaaGreatDoor

/- Plain: compositions as the laws ask for them. -/
namespace Go.Proofs.YtdkjnemakkppfaaGreatDoor
open AG

theorem cmOk_parts {s t : Sy} (h : cmOk s t = true) : sysOk s = true ∧ sysOk t = true ∧ (rnL [s, t]).length ≤ 16 := by
  unfold cmOk at h
  simp only [Bool.and_eq_true, decide_eq_true_eq] at h
  exact h
theorem cmOk_of {s t : Sy} (hs : sysOk s = true) (ht : sysOk t = true) (h : (rnL [s, t]).length ≤ 16) : cmOk s t = true := by
  unfold cmOk
  rw [hs, ht, decide_eq_true h]
  rfl
theorem cmX_ok {s t : Sy} (h : cmOk s t = true) : cmX s t = cmSy [s, t] := by unfold cmX; rw [if_pos h]
theorem cmX_bad {s t : Sy} (h : cmOk s t = false) : cmX s t = ⟨0, 0, []⟩ := by unfold cmX; rw [h]; rfl
theorem cmX_sys {s t : Sy} (h : cmOk s t = true) : sysOk (cmX s t) = true := by
  obtain ⟨h1, h2, h3⟩ := cmOk_parts h
  rw [cmX_ok h]
  exact cmSy_ok (all_two h1 h2) h3
/- How many edges a composition has. -/
end Go.Proofs.YtdkjnemakkppfaaGreatDoor

/- Plain: automata made of numbered nodes; products of two automata; a composition's automaton is the product of its parts' automata. -/
namespace Go.Proofs.YtdkjnemakkppfaaGreatDoor
open AG

theorem goA_num {al : Int} {acc : List Bool} {nx : Nat → Nat → Nat} {n0 lim : Nat} {x : List Nat × List (List Nat)} (h : numRes nx (letters al) n0 lim = some x) {S l : Nat} (hS : S ∈ x.1) (hl : l ∈ letters al) :
    goA ⟨al, toRows x.2, acc⟩ (x.1.idxOf S) l = x.1.idxOf (nx S l) := by
  obtain ⟨_, h2, _⟩ := numRes_spec h
  have hi : x.1.idxOf S < x.1.length := List.idxOf_lt_length_iff.2 hS
  have hk : (letters al).idxOf l < (letters al).length := List.idxOf_lt_length_iff.2 hl
  unfold goA
  dsimp only
  rw [if_pos hl, h2]
  unfold toRows
  rw [List.map_map, getD_map_of_lt _ _ _ _ hi]
  dsimp only [Function.comp]
  rw [List.getElem_idxOf hi]
  unfold rowOf
  rw [List.map_map, getD_map_of_lt _ _ _ _ hk]
  dsimp only [Function.comp]
  rw [List.getElem_idxOf hk]
  exact Int.toNat_natCast _
theorem runA_num {al : Int} {acc : List Bool} {nx : Nat → Nat → Nat} {n0 lim : Nat} {x : List Nat × List (List Nat)} (h : numRes nx (letters al) n0 lim = some x) : ∀ r : List Nat, (∀ l ∈ r, l ∈ letters al) → runA ⟨al, toRows x.2, acc⟩ 0 r = x.1.idxOf (dW nx n0 r)
  | [], _ => by
    show 0 = _
    exact (numRes_spec h).2.2.2.2.1.symm
  | l :: r, hr => by
    have ih := runA_num (acc := acc) h r fun y hy => hr y (List.mem_cons_of_mem _ hy)
    show goA _ (runA _ 0 r) l = _
    rw [ih]
    exact goA_num h (dW_mem h r fun y hy => hr y (List.mem_cons_of_mem _ hy)) (hr l List.mem_cons_self)
theorem accA_num {al : Int} {f : Nat → Bool} {nx : Nat → Nat → Nat} {n0 lim : Nat} {x : List Nat × List (List Nat)} (h : numRes nx (letters al) n0 lim = some x) {r : List Nat} (hr : ∀ l ∈ r, l ∈ letters al) : accA ⟨al, toRows x.2, x.1.map f⟩ r = f (dW nx n0 r) := by
  unfold accA
  rw [runA_num h r hr]
  have hm := dW_mem h r hr
  have hi : x.1.idxOf (dW nx n0 r) < x.1.length := List.idxOf_lt_length_iff.2 hm
  dsimp only
  rw [getD_map_of_lt _ _ _ _ hi, List.getElem_idxOf hi]
theorem auOk_num {al : Int} {f : Nat → Bool} {nx : Nat → Nat → Nat} {n0 : Nat} {x : List Nat × List (List Nat)} (ha : 0 ≤ al ∧ al ≤ 63) (h : numRes nx (letters al) n0 12 = some x) : auOk ⟨al, toRows x.2, x.1.map f⟩ = true := by
  obtain ⟨h1, h2, h3⟩ := numRes_len h
  obtain ⟨_, e2, _, e4, _, e6⟩ := numRes_spec h
  have hp : 0 < x.1.length := List.length_pos_of_mem e4
  unfold auOk
  rw [decide_eq_true_eq]
  dsimp only
  rw [toRows_len, List.length_map]
  refine ⟨by unfold alphaOk; simpa using ha, by omega, by omega, by omega, fun r hr => ?_⟩
  unfold toRows at hr
  obtain ⟨r', hr', rfl⟩ := List.mem_map.1 hr
  refine ⟨by rw [List.length_map]; exact h3 r' hr', fun q hq => ?_⟩
  obtain ⟨n, hn, rfl⟩ := List.mem_map.1 hq
  rw [e2] at hr'
  obtain ⟨a, ha', rfl⟩ := List.mem_map.1 hr'
  unfold rowOf at hn
  obtain ⟨l, hl, rfl⟩ := List.mem_map.1 hn
  have := List.idxOf_lt_length_iff.2 (e6 a ha' l hl)
  omega

/- Products. -/
def pdNx (a b : Au) (q l : Nat) : Nat := goA a (q / b.nx.length) l * b.nx.length + goA b (q % b.nx.length) l
def pdNum (a b : Au) : Option (List Nat × List (List Nat)) := numRes (pdNx a b) (letters (orB a.al b.al)) 0 12
def pdF (a b : Au) (g : Bool → Bool → Bool) (q : Nat) : Bool := g (a.ac.getD (q / b.nx.length) false) (b.ac.getD (q % b.nx.length) false)
def pdAu (a b : Au) (g : Bool → Bool → Bool) (x : List Nat × List (List Nat)) : Au := ⟨orB a.al b.al, toRows x.2, x.1.map (pdF a b g)⟩
def pdOpt (a b : Au) (g : Bool → Bool → Bool) : Option Au := if auOk a && auOk b then (pdNum a b).map (pdAu a b g) else none
def pdA (a b : Au) (g : Bool → Bool → Bool) : Au := (pdOpt a b g).getD auNil
def pdK (a b : Au) (g : Bool → Bool → Bool) : Bool := (pdOpt a b g).isSome
theorem goA_in {a : Au} (h : auOk a = true) {q l : Nat} (hq : q < a.nx.length) : goA a q l < a.nx.length := by
  obtain ⟨_, _, _, _, hr⟩ := (auOk_iff a).1 h
  unfold goA
  split
  · rename_i hl
    have hk : (letters a.al).idxOf l < (letters a.al).length := List.idxOf_lt_length_iff.2 hl
    rw [List.getD_eq_getElem?_getD (l := a.nx), List.getElem?_eq_getElem hq, Option.getD_some]
    obtain ⟨h1, h2⟩ := hr _ (List.getElem_mem hq)
    rw [List.getD_eq_getElem?_getD, List.getElem?_eq_getElem (by omega), Option.getD_some]
    have := h2 _ (List.getElem_mem (by omega : (letters a.al).idxOf l < (a.nx[q]).length))
    omega
  · exact hq
theorem runA_in {a : Au} (h : auOk a = true) : ∀ r : List Nat, runA a 0 r < a.nx.length
  | [] => by obtain ⟨_, h1, _⟩ := (auOk_iff a).1 h; exact h1
  | l :: r => goA_in h (runA_in h r)
theorem pd_div {x y n : Nat} (hy : y < n) : (x * n + y) / n = x ∧ (x * n + y) % n = y := by
  have hn : 0 < n := by omega
  constructor
  · rw [Nat.mul_comm, Nat.mul_add_div hn, Nat.div_eq_of_lt hy, Nat.add_zero]
  · rw [Nat.mul_comm, Nat.mul_add_mod, Nat.mod_eq_of_lt hy]
theorem dW_pd {a b : Au} (hb : auOk b = true) : ∀ r : List Nat, dW (pdNx a b) 0 r = runA a 0 r * b.nx.length + runA b 0 r
  | [] => by show 0 = 0 * _ + 0; omega
  | l :: r => by
    show pdNx a b (dW (pdNx a b) 0 r) l = _
    rw [dW_pd hb r]
    unfold pdNx
    obtain ⟨h1, h2⟩ := pd_div (x := runA a 0 r) (runA_in hb r)
    rw [h1, h2]
    rfl
theorem accA_pd {a b : Au} {g : Bool → Bool → Bool} (hb : auOk b = true) {x : List Nat × List (List Nat)} (h : pdNum a b = some x) {r : List Nat} (hr : ∀ l ∈ r, l ∈ letters (orB a.al b.al)) : accA (pdAu a b g x) r = g (accA a r) (accA b r) := by
  unfold pdAu
  rw [accA_num h hr, dW_pd hb r]
  unfold pdF
  obtain ⟨h1, h2⟩ := pd_div (x := runA a 0 r) (runA_in hb r)
  rw [h1, h2]
  rfl
/-- Letters that an automaton does not have lead nowhere. -/
theorem runA_flt (a : Au) (q : Nat) : ∀ r : List Nat, runA a q (r.filter fun l => decide (l ∈ letters a.al)) = runA a q r
  | [] => rfl
  | l :: r => by
    have ih := runA_flt a q r
    by_cases h : l ∈ letters a.al
    · rw [List.filter_cons_of_pos (by simpa using h)]
      show goA a (runA a q _) l = goA a (runA a q r) l
      rw [ih]
    · rw [List.filter_cons_of_neg (by simpa using h), ih]
      show _ = goA a (runA a q r) l
      unfold goA
      rw [if_neg h]
theorem accA_flt (a : Au) (r : List Nat) : accA a (r.filter fun l => decide (l ∈ letters a.al)) = accA a r := by unfold accA; rw [runA_flt]

theorem allAl_two' {s t : Sy} (hs : sysOk s = true) : allAl [s, t] = orB s.al t.al := by
  have h := (sysOk_alpha hs).1
  show orB (orB 0 s.al) t.al = orB s.al t.al
  have : orB 0 s.al = s.al := by unfold orB; rw [show (0 : Int).toNat = 0 from rfl, Nat.zero_or]; omega
  rw [this]
theorem acc_prA' {s : Sy} (h : prK s s.al = true) {r : List Nat} (hr : ∀ l ∈ r, l ∈ letters s.al) : accA (prA s s.al) r = decide (setW s r ≠ 0) := by
  obtain ⟨hk, x, hn, e⟩ := prK_true h
  obtain ⟨hs, _, _⟩ := prOk_parts hk
  rw [e, accA_pr hn hr, prW_self (sysOk_alpha hs).1]
theorem pdK_parts {a b : Au} {g : Bool → Bool → Bool} (h : pdK a b g = true) : auOk a = true ∧ auOk b = true ∧ ∃ x, pdNum a b = some x ∧ pdA a b g = pdAu a b g x := by
  unfold pdK pdOpt at h
  by_cases hk : (auOk a && auOk b) = true
  · rw [if_pos hk] at h
    rw [Bool.and_eq_true] at hk
    cases hx : pdNum a b with
    | none => rw [hx] at h; cases h
    | some x => exact ⟨hk.1, hk.2, x, rfl, by unfold pdA pdOpt; rw [hk.1, hk.2, hx]; rfl⟩
  · rw [if_neg hk] at h; cases h
theorem cm_meet {s t : Sy} (h : cmOk s t = true) (ha : prK s s.al = true) (hb : prK t t.al = true) (hp : pdK (prA s s.al) (prA t t.al) (fun x y => x && y) = true) (hc : prK (cmX s t) (cmX s t).al = true) :
    sameLB (pdA (prA s s.al) (prA t t.al) (fun x y => x && y)) (prA (cmX s t) (cmX s t).al) = true := by
  obtain ⟨hs, ht, h16⟩ := cmOk_parts h
  obtain ⟨ka, kb, x, hx, e⟩ := pdK_parts hp
  have hall := all_two hs ht
  have hx' : cmX s t = cmSy [s, t] := cmX_ok h
  have hal : (cmX s t).al = orB s.al t.al := by rw [hx']; show allAl [s, t] = _; exact allAl_two' hs
  have hpal : (pdAu (prA s s.al) (prA t t.al) (fun x y => x && y) x).al = orB s.al t.al := by
    show orB (prA s s.al).al (prA t t.al).al = _
    rw [prA_al ha, prA_al hb]
  have hrng := sysOk_alpha (cmX_sys h)
  rw [e]
  refine sameLB_iff.2 ⟨?_, fun r hr => ?_⟩
  · unfold cmpAu
    have ok1 : auOk (pdAu (prA s s.al) (prA t t.al) (fun x y => x && y) x) = true := by
      unfold pdAu
      refine auOk_num ?_ hx
      rw [prA_al ha, prA_al hb, ← hal]
      exact hrng
    rw [ok1, auOk_prA hc, prA_al hc, hpal, hal]
    simp
  · rw [hpal] at hr
    have hr1 : ∀ l ∈ r, l ∈ letters (orB (prA s s.al).al (prA t t.al).al) := by rw [prA_al ha, prA_al hb]; exact hr
    have hr2 : ∀ l ∈ r, l ∈ letters (cmX s t).al := by rw [hal]; exact hr
    have e1 : ∀ (y : Sy), prK y y.al = true → accA (prA y y.al) r = decide (setW y (flt y r) ≠ 0) := fun y hy => by
      rw [← accA_flt, prA_al hy]
      exact acc_prA' hy fun l hl => by simpa using (List.mem_filter.1 hl).2
    rw [accA_pd kb hx hr1, acc_prA' hc hr2, e1 s ha, e1 t hb, hx', Bool.eq_iff_iff, Bool.and_eq_true, decide_eq_true_iff, decide_eq_true_iff, decide_eq_true_iff]
    have := setW_cm_parts hall h16 r
    rw [this]
    have hr3 : ∀ l ∈ r, l ∈ letters (allAl [s, t]) := by
      have : allAl [s, t] = (cmX s t).al := by rw [hx']; rfl
      rw [this]; exact hr2
    constructor
    · rintro ⟨h1, h2⟩
      refine ⟨hr3, fun y hy => ?_⟩
      rcases List.mem_cons.1 hy with rfl | hy
      · exact h1
      · rcases List.mem_cons.1 hy with rfl | hy
        · exact h2
        · cases hy
    · rintro ⟨_, h2⟩
      exact ⟨h2 s (by simp), h2 t (by simp)⟩

end Go.Proofs.YtdkjnemakkppfaaGreatDoor

/- A statement that draws its order and whose calls may write some old blocks one after the other: one walk in the order of the text serves every order, if what holds behind m operations is told (I m). -/
namespace AG
open Go Go.RowKit

/-- The ways on of a world: what one operation may do (S), and what holds behind m operations (I m). -/
structure Way (S : World → World → Prop) (I : Nat → World → Prop) : Prop where
  refl : ∀ w, S w w
  trans : ∀ a b c, S a b → S b c → S a c
  more : ∀ m w, I m w → I (m + 1) w

theorem Way.mono {S : World → World → Prop} {I : Nat → World → Prop} (y : Way S I) {m : Nat} {w : World} (h : I m w) : ∀ k, I (m + k) w
  | 0 => h
  | k + 1 => y.more _ _ (y.mono h k)

namespace GK
section
variable {P : Program} {ops : Array Oper} {md : Region.Mode} {n M : Nat} {S : World → World → Prop} {I : Nat → World → Prop} {sp : Nat → Value → World → Prop}

/-- What the check says of the first n operations. -/
structure Ok (md : Region.Mode) (ops : Array Oper) (n : Nat) : Prop where
  sel : Region.noSelect ops = true
  size : n ≤ ops.size
  back : ∀ j, j < n → ∀ k ∈ predsOf md ops j, k < j
  one : ∀ i k t, i < n → k < n → dstOf ops i = some t → dstOf ops k = some t → i = k
  seen : ∀ j k t, j < n → k < n → dstOf ops k = some t → t ∈ looksOf ops j → k ∈ predsOf md ops j

/-- The frames of two ways look the same to an operation whose callers have all come up. -/
theorem Ok.same {L : Nat → Bool} {val vh : Nat → Value} {a0 ar a : Act} {j : Nat} {oj : Oper} (g : Ok md ops n) (hr : Pt ops n L val a0 ar) (hl : Pt ops n (fun k => decide (k < j)) vh a0 a) (hj : j < n)
    (ho : ops[j]? = some oj) (hp : ∀ k ∈ predsOf md ops j, L k = true) (hv : ∀ k, k < j → L k = true → vh k = val k) :
    execOp a.eval oj = execOp ar.eval oj ∧ Region.wanted oj (yielded ops a.tmps) = Region.wanted oj (yielded ops ar.tmps) := by
  refine look_same (Region.noSelect_spec g.sel j oj · · ho) fun t ht => hl.agree hr fun k hk hd => ?_
  have hm := g.seen j k t hj hk hd (by simpa [looksOf, ho] using ht)
  have hlt := g.back j hj k hm
  have hLk := hp k hm
  exact ⟨by simp [hlt, hLk], fun _ => hv k hlt hLk⟩

/-- A fact that stays whatever the operations do. -/
def Steady (S : World → World → Prop) (F : World → Prop) : Prop := ∀ w w', S w w' → F w → F w'

/-- The walk in the order of the text; L: the operations that have been carried out already (none, for who walks). -/
def Res (P : Program) (md : Region.Mode) (ops : Array Oper) (S : World → World → Prop) (I : Nat → World → Prop) (M : Nat) (sp : Nat → Value → World → Prop) (L : Nat → Bool) (val : Nat → Value) (wr : World)
    (Q : List (Nat × (World → Prop)) → Act → Prop) : List Oper → Nat → List (Nat × (World → Prop)) → Act → Prop
  | [], _, Γ, a => Q Γ a
  | o :: rest, i, Γ, a =>
    if Region.wanted o (yielded ops a.tmps) = true then
      (∃ v, (∀ m w, m < M → I m w → fnUpon (fun u w' => u = v ∧ w' = w) ((execOp a.eval o).run P w)) ∧ (L i = true → val i = v) ∧ Res P md ops S I M sp L val wr Q rest (i + 1) Γ (a.put o.dst v)) ∨
      (∃ Z : Value → World → Prop, (∀ u, Steady S (Z u)) ∧ (∀ m w, m < M → I m w → FactsAt md ops i Γ w → fnUpon (fun u w' => (S w w' ∧ I (m + 1) w') ∧ Z u w') ((execOp a.eval o).run P w)) ∧ (L i = true → Z (val i) wr) ∧
        ∀ u, (L i = true → u = val i) → (L i = false → ∃ m w', I m w' ∧ Z u w') → Res P md ops S I M sp L val wr Q rest (i + 1) ((i, Z u) :: Γ) (a.put o.dst u)) ∨
      ((∀ u, Steady S (sp i u)) ∧ (∀ m w, m < M → I m w → FactsAt md ops i Γ w → callUpon P w (fun e w' => ∃ u, e = .returned u ∧ (S w w' ∧ I (m + 1) w') ∧ sp i u w') ((execOp a.eval o).run P w)) ∧ (L i = true → sp i (val i) wr) ∧
        ∀ u, (L i = true → u = val i) → (L i = false → ∃ m w', I m w' ∧ sp i u w') → Res P md ops S I M sp L val wr Q rest (i + 1) ((i, sp i u) :: Γ) (a.put o.dst u))
    else (L i = true → val i = undef) ∧ Res P md ops S I M sp L val wr Q rest (i + 1) Γ (a.put o.dst undef)

variable {Q : List (Nat × (World → Prop)) → Act → Prop}

/-- Behind the place of what was carried out last: only the world has moved on. -/
theorem Res.later {L L' : Nat → Bool} {val val' : Nat → Value} {wr w1 : World} (hb : S wr w1) : ∀ (l : List Oper) (i : Nat) (Γ : List (Nat × (World → Prop))) (a : Act),
    (∀ k, i ≤ k → L' k = L k ∧ val' k = val k) → Res P md ops S I M sp L val wr Q l i Γ a → Res P md ops S I M sp L' val' w1 Q l i Γ a := by
  intro l
  induction l with
  | nil => intro i Γ a _ h; exact h
  | cons o rest ih =>
    intro i Γ a he h
    obtain ⟨hL, hv⟩ := he i (Nat.le_refl i)
    have he' : ∀ k, i + 1 ≤ k → L' k = L k ∧ val' k = val k := fun k hk => he k (by omega)
    unfold Res at h ⊢
    rw [hL, hv]
    split
    · rename_i hw
      rw [if_pos hw] at h
      rcases h with ⟨v, h1, h2, h3⟩ | ⟨Z, hs, h1, h2, h3⟩ | ⟨hs, h1, h2, h3⟩
      · exact .inl ⟨v, h1, h2, ih _ _ _ he' h3⟩
      · exact .inr (.inl ⟨Z, hs, h1, fun h => hs _ _ _ hb (h2 h), fun u hu hu' => ih _ _ _ he' (h3 u hu hu')⟩)
      · exact .inr (.inr ⟨hs, h1, fun h => hs _ _ _ hb (h2 h), fun u hu hu' => ih _ _ _ he' (h3 u hu hu')⟩)
    · rename_i hw
      rw [if_neg hw] at h
      exact ⟨h.1, ih _ _ _ he' h.2⟩

/-- Some way leads to operation j. -/
theorem Res.reach {L : Nat → Bool} {val : Nat → Value} {wr : World} {a0 : Act} {j : Nat} {oj : Oper} (y : Way S I) (g : Ok md ops n) (hj : j < n) (ho : ops[j]? = some oj) :
    ∀ (l : List Oper) (i : Nat) (Γ : List (Nat × (World → Prop))) (a : Act) (vh : Nat → Value) (mh : Nat) (wh : World), (∀ m, m < l.length → l[m]? = ops[i + m]?) → i + l.length = n → i ≤ j → Res P md ops S I M sp L val wr Q l i Γ a →
      Pt ops n (fun k => decide (k < i)) vh a0 a → (∀ k, k < i → L k = true → vh k = val k) → (∀ p ∈ Γ, Steady S p.2) → (∀ p ∈ Γ, L p.1 = true → p.2 wr) → mh + l.length ≤ M → S wr wh → I mh wh → (∀ p ∈ Γ, p.2 wh) →
      ∃ rest Γj aj vj, Res P md ops S I M sp L val wr Q (oj :: rest) j Γj aj ∧ Pt ops n (fun k => decide (k < j)) vj a0 aj ∧ (∀ k, k < j → L k = true → vj k = val k) ∧ (∀ p ∈ Γj, L p.1 = true → p.2 wr) := by
  intro l
  induction l with
  | nil => intro i Γ a vh mh wh _ hn hij; simp at hn; omega
  | cons o rest ih =>
    intro i Γ a vh mh wh hl hn hij h hpt hv hst hlr hmh hrh hBh hfh
    have hio : ops[i]? = some o := by simpa using (hl 0 (by simp)).symm
    by_cases e : i = j
    · subst e
      obtain rfl : o = oj := Option.some.inj (hio.symm.trans ho)
      exact ⟨rest, Γ, a, vh, h, hpt, hv, hlr⟩
    · have hlt : i < j := by omega
      have hin : i < n := by omega
      have hl' : ∀ m, m < rest.length → rest[m]? = ops[i + 1 + m]? := fun m hm => by
        have := hl (m + 1) (by simp; omega)
        simpa [Nat.add_assoc, Nat.add_comm 1 m] using this
      have hn' : i + 1 + rest.length = n := by simp at hn; omega
      have hm1 : mh + rest.length ≤ M ∧ mh + 1 + rest.length ≤ M ∧ mh < M := by simp at hmh; omega
      have hput : ∀ u, Pt ops n (fun k => decide (k < i + 1)) (upd vh i u) a0 (a.put o.dst u) := fun u => by
        have := hpt.put (u := u) g.one hin (by simp) hio
        have e2 : ins (fun k => decide (k < i)) i = fun k => decide (k < i + 1) := by
          funext k; simp only [ins]; rw [Bool.eq_iff_iff]; simp; omega
        rwa [e2] at this
      have hvu : ∀ u, (L i = true → u = val i) → ∀ k, k < i + 1 → L k = true → upd vh i u k = val k := fun u hu k hk hLk => by
        unfold upd
        by_cases e : k = i
        · subst e; rw [if_pos rfl]; exact hu hLk
        · rw [if_neg e]; exact hv k (by omega) hLk
      unfold Res at h
      split at h
      · rcases h with ⟨v, h1, h2, h3⟩ | ⟨Z, hs, h1, h2, h3⟩ | ⟨hs, h1, h2, h3⟩
        · exact ih _ _ _ _ mh wh hl' hn' (by omega) h3 (hput v) (hvu v fun h => (h2 h).symm) hst hlr hm1.1 hrh hBh hfh
        · cases hLi : L i with
          | true =>
            refine ih _ _ _ _ mh wh hl' hn' (by omega) (h3 (val i) (fun _ => rfl) (fun h => by rw [hLi] at h; cases h)) (hput _) (hvu _ fun _ => rfl) ?_ ?_ hm1.1 hrh hBh ?_
            · exact fun p hp => by rcases List.mem_cons.1 hp with rfl | hp; exact hs _; exact hst p hp
            · exact fun p hp hL => by rcases List.mem_cons.1 hp with rfl | hp; exact h2 hLi; exact hlr p hp hL
            · exact fun p hp => by rcases List.mem_cons.1 hp with rfl | hp; exact hs _ _ _ hrh (h2 hLi); exact hfh p hp
          | false =>
            have hx := h1 mh wh hm1.2.2 hBh fun p hp _ => hfh p hp
            have hgo : ∀ u w', (S wh w' ∧ I (mh + 1) w') ∧ Z u w' → _ := fun u w' hz =>
              ih (i + 1) ((i, Z u) :: Γ) (a.put o.dst u) (upd vh i u) (mh + 1) w' hl' hn' (by omega) (h3 u (fun h => by rw [hLi] at h; cases h) (fun _ => ⟨_, w', hz.1.2, hz.2⟩)) (hput u)
                (hvu u fun h => by rw [hLi] at h; cases h) (fun p hp => by rcases List.mem_cons.1 hp with rfl | hp; exact hs _; exact hst p hp)
                (fun p hp hL => by rcases List.mem_cons.1 hp with rfl | hp; (rw [hLi] at hL; cases hL); exact hlr p hp hL) hm1.2.1 (y.trans _ _ _ hrh hz.1.1) hz.1.2
                (fun p hp => by rcases List.mem_cons.1 hp with rfl | hp; exact hz.2; exact hst p hp _ _ hz.1.1 (hfh p hp))
            generalize (execOp a.eval o).run P wh = r at hx
            cases r with
            | ok x w' => cases x <;> simp only [fnUpon] at hx <;> exact hgo _ _ hx
            | halt x w' => exact hx.elim
        · cases hLi : L i with
          | true =>
            refine ih _ _ _ _ mh wh hl' hn' (by omega) (h3 (val i) (fun _ => rfl) (fun h => by rw [hLi] at h; cases h)) (hput _) (hvu _ fun _ => rfl) ?_ ?_ hm1.1 hrh hBh ?_
            · exact fun p hp => by rcases List.mem_cons.1 hp with rfl | hp; exact hs _; exact hst p hp
            · exact fun p hp hL => by rcases List.mem_cons.1 hp with rfl | hp; exact h2 hLi; exact hlr p hp hL
            · exact fun p hp => by rcases List.mem_cons.1 hp with rfl | hp; exact hs _ _ _ hrh (h2 hLi); exact hfh p hp
          | false =>
            have hx := h1 mh wh hm1.2.2 hBh fun p hp _ => hfh p hp
            have hgo : ∀ u w', (S wh w' ∧ I (mh + 1) w') ∧ sp i u w' → _ := fun u w' hz =>
              ih (i + 1) ((i, sp i u) :: Γ) (a.put o.dst u) (upd vh i u) (mh + 1) w' hl' hn' (by omega) (h3 u (fun h => by rw [hLi] at h; cases h) (fun _ => ⟨_, w', hz.1.2, hz.2⟩)) (hput u)
                (hvu u fun h => by rw [hLi] at h; cases h) (fun p hp => by rcases List.mem_cons.1 hp with rfl | hp; exact hs _; exact hst p hp)
                (fun p hp hL => by rcases List.mem_cons.1 hp with rfl | hp; (rw [hLi] at hL; cases hL); exact hlr p hp hL) hm1.2.1 (y.trans _ _ _ hrh hz.1.1) hz.1.2
                (fun p hp => by rcases List.mem_cons.1 hp with rfl | hp; exact hz.2; exact hst p hp _ _ hz.1.1 (hfh p hp))
            generalize (execOp a.eval o).run P wh = r at hx
            cases r with
            | ok x w' =>
              cases x <;> simp only [callUpon] at hx
              obtain ⟨_, hc⟩ := hx
              obtain ⟨e', w'', _, ⟨u, _, hz⟩, _⟩ := hc []
              exact hgo u w'' hz
            | halt x w' => exact hx.elim
      · exact ih _ _ _ _ mh wh hl' hn' (by omega) h.2 (hput undef) (hvu undef fun hL => (h.1 hL).symm) hst hlr hm1.1 hrh hBh hfh

theorem Res.mark {L : Nat → Bool} {val : Nat → Value} {wr w1 : World} {a0 ar : Act} {j mr m1 : Nat} {oj : Oper} {u : Value} (g : Ok md ops n) (hj : j < n) (ho : ops[j]? = some oj) (hLj : L j = false)
    (hp : ∀ k ∈ predsOf md ops j, L k = true) (hdep : ∀ k, depB md ops j k = true → L k = true) (hr : Pt ops n L val a0 ar) (hmr : mr < M) (hBr : I mr wr) (hb : S wr w1) (hB1 : I m1 w1) (hout : Outc P ops sp j oj ar wr u w1) :
    ∀ (l : List Oper) (i : Nat) (Γ : List (Nat × (World → Prop))) (a : Act) (vh : Nat → Value), (∀ m, m < l.length → l[m]? = ops[i + m]?) → i + l.length = n → i ≤ j → Res P md ops S I M sp L val wr Q l i Γ a →
      Pt ops n (fun k => decide (k < i)) vh a0 a → (∀ k, k < i → L k = true → vh k = val k) → (∀ p ∈ Γ, L p.1 = true → p.2 wr) → Res P md ops S I M sp (ins L j) (upd val j u) w1 Q l i Γ a := by
  intro l
  induction l with
  | nil => intro i Γ a vh _ hn hij; simp at hn; omega
  | cons o rest ih =>
    intro i Γ a vh hl hn hij h hpt hv hlr
    have hio : ops[i]? = some o := by simpa using (hl 0 (by simp)).symm
    by_cases e : i = j
    · subst e
      obtain rfl : o = oj := Option.some.inj (hio.symm.trans ho)
      obtain ⟨hex, hwt⟩ := g.same hr hpt hj ho hp hv
      have hins : ins L i i = true := by simp [ins]
      have hupd : upd val i u i = u := by simp [upd]
      have hafter : ∀ k, i + 1 ≤ k → ins L i k = L k ∧ upd val i u k = val k := fun k hk => by
        have : k ≠ i := by omega
        simp [ins, upd, this]
      have hF : FactsAt md ops i Γ wr := fun p hp' hd => hlr p hp' (hdep _ hd)
      unfold Res at h ⊢
      rw [hins, hupd]
      unfold Outc at hout
      rw [← hex, ← hwt] at hout
      split
      · rename_i hw
        rw [if_pos hw] at h hout
        rcases h with ⟨v, h1, h2, h3⟩ | ⟨Z, hs, h1, h2, h3⟩ | ⟨hs, h1, h2, h3⟩
        · have hx := h1 mr wr hmr hBr
          have huv : u = v := by
            generalize (execOp a.eval o).run P wr = r at hx hout
            cases r with
            | ok x w' => cases x <;> simp only [fnUpon] at hx <;> simp only at hout <;> rw [← hout.1, hx.1]
            | halt x w' => exact hx.elim
          exact .inl ⟨v, h1, fun _ => huv, Res.later hb _ _ _ _ hafter h3⟩
        · have hx := h1 mr wr hmr hBr hF
          have hz : Z u w1 := by
            generalize (execOp a.eval o).run P wr = r at hx hout
            cases r with
            | ok x w' => cases x <;> simp only [fnUpon] at hx <;> simp only at hout <;> (obtain ⟨rfl, rfl⟩ := hout; exact hx.2)
            | halt x w' => exact hx.elim
          refine .inr (.inl ⟨Z, hs, h1, fun _ => hz, fun u' hu' _ => ?_⟩)
          obtain rfl := hu' rfl
          exact Res.later hb _ _ _ _ hafter (h3 u' (fun h => by rw [hLj] at h; cases h) (fun _ => ⟨m1, w1, hB1, hz⟩))
        · have hx := h1 mr wr hmr hBr hF
          have hz : sp i u w1 := by
            generalize (execOp a.eval o).run P wr = r at hx hout
            cases r with
            | ok x w' => cases x <;> simp only [callUpon] at hx; exact hout
            | halt x w' => exact hx.elim
          refine .inr (.inr ⟨hs, h1, fun _ => hz, fun u' hu' _ => ?_⟩)
          obtain rfl := hu' rfl
          exact Res.later hb _ _ _ _ hafter (h3 u' (fun h => by rw [hLj] at h; cases h) (fun _ => ⟨m1, w1, hB1, hz⟩))
      · rename_i hw
        rw [if_neg hw] at h hout
        exact ⟨fun _ => hout.1.symm, Res.later hb _ _ _ _ hafter h.2⟩
    · have hlt : i < j := by omega
      have hin : i < n := by omega
      have hl' : ∀ m, m < rest.length → rest[m]? = ops[i + 1 + m]? := fun m hm => by
        have := hl (m + 1) (by simp; omega)
        simpa [Nat.add_assoc, Nat.add_comm 1 m] using this
      have hn' : i + 1 + rest.length = n := by simp at hn; omega
      have hput : ∀ u, Pt ops n (fun k => decide (k < i + 1)) (upd vh i u) a0 (a.put o.dst u) := fun u => by
        have := hpt.put (u := u) g.one hin (by simp) hio
        have e2 : ins (fun k => decide (k < i)) i = fun k => decide (k < i + 1) := by
          funext k; simp only [ins]; rw [Bool.eq_iff_iff]; simp; omega
        rwa [e2] at this
      have hvu : ∀ u, (L i = true → u = val i) → ∀ k, k < i + 1 → L k = true → upd vh i u k = val k := fun u hu k hk hLk => by
        unfold upd
        by_cases e : k = i
        · subst e; rw [if_pos rfl]; exact hu hLk
        · rw [if_neg e]; exact hv k (by omega) hLk
      have hins : ins L j i = L i := by simp [ins, e]
      have hupd : upd val j u i = val i := by simp [upd, e]
      unfold Res at h ⊢
      rw [hins, hupd]
      split
      · rename_i hw
        rw [if_pos hw] at h
        rcases h with ⟨v, h1, h2, h3⟩ | ⟨Z, hs, h1, h2, h3⟩ | ⟨hs, h1, h2, h3⟩
        · exact .inl ⟨v, h1, h2, ih _ _ _ _ hl' hn' (by omega) h3 (hput v) (hvu v fun h => (h2 h).symm) hlr⟩
        · exact .inr (.inl ⟨Z, hs, h1, fun h => hs _ _ _ hb (h2 h), fun u' hu hu' => ih _ _ _ _ hl' hn' (by omega) (h3 u' hu hu') (hput u') (hvu u' hu) fun p hp hL => by
            rcases List.mem_cons.1 hp with rfl | hp
            · rw [hu hL]; exact h2 hL
            · exact hlr p hp hL⟩)
        · exact .inr (.inr ⟨hs, h1, fun h => hs _ _ _ hb (h2 h), fun u' hu hu' => ih _ _ _ _ hl' hn' (by omega) (h3 u' hu hu') (hput u') (hvu u' hu) fun p hp hL => by
            rcases List.mem_cons.1 hp with rfl | hp
            · rw [hu hL]; exact h2 hL
            · exact hlr p hp hL⟩)
      · rename_i hw
        rw [if_neg hw] at h
        exact ⟨h.1, ih _ _ _ _ hl' hn' (by omega) h.2 (hput undef) (hvu undef fun hL => (h.1 hL).symm) hlr⟩

/-- All have come up. -/
theorem Res.over {L : Nat → Bool} {val : Nat → Value} {wr : World} {a0 : Act} (g : Ok md ops n) (hL : ∀ k, k < n → L k = true) :
    ∀ (l : List Oper) (i : Nat) (Γ : List (Nat × (World → Prop))) (a : Act) (vh : Nat → Value), (∀ m, m < l.length → l[m]? = ops[i + m]?) → i + l.length = n → Res P md ops S I M sp L val wr Q l i Γ a →
      Pt ops n (fun k => decide (k < i)) vh a0 a → (∀ k, k < i → vh k = val k) → (∀ p ∈ Γ, p.2 wr) → ∃ Γ' a' vh', Q Γ' a' ∧ Pt ops n (fun k => decide (k < n)) vh' a0 a' ∧ (∀ k, k < n → vh' k = val k) ∧ ∀ p ∈ Γ', p.2 wr := by
  intro l
  induction l with
  | nil =>
    intro i Γ a vh _ hn h hpt hv hf
    obtain rfl : i = n := by simpa using hn
    exact ⟨Γ, a, vh, h, hpt, hv, hf⟩
  | cons o rest ih =>
    intro i Γ a vh hl hn h hpt hv hf
    have hio : ops[i]? = some o := by simpa using (hl 0 (by simp)).symm
    have hin : i < n := by simp at hn; omega
    have hLi := hL i hin
    have hl' : ∀ m, m < rest.length → rest[m]? = ops[i + 1 + m]? := fun m hm => by
      have := hl (m + 1) (by simp; omega)
      simpa [Nat.add_assoc, Nat.add_comm 1 m] using this
    have hn' : i + 1 + rest.length = n := by simp at hn; omega
    have hput : ∀ u, Pt ops n (fun k => decide (k < i + 1)) (upd vh i u) a0 (a.put o.dst u) := fun u => by
      have := hpt.put (u := u) g.one hin (by simp) hio
      have e2 : ins (fun k => decide (k < i)) i = fun k => decide (k < i + 1) := by
        funext k; simp only [ins]; rw [Bool.eq_iff_iff]; simp; omega
      rwa [e2] at this
    have hvu : ∀ u, u = val i → ∀ k, k < i + 1 → upd vh i u k = val k := fun u hu k hk => by
      unfold upd
      by_cases e : k = i
      · subst e; rw [if_pos rfl]; exact hu
      · rw [if_neg e]; exact hv k (by omega)
    unfold Res at h
    split at h
    · rcases h with ⟨v, h1, h2, h3⟩ | ⟨Z, hs, h1, h2, h3⟩ | ⟨hs, h1, h2, h3⟩
      · exact ih _ _ _ _ hl' hn' h3 (hput v) (hvu v (h2 hLi).symm) hf
      · exact ih _ _ _ _ hl' hn' (h3 (val i) (fun _ => rfl) (fun h => by rw [hLi] at h; cases h)) (hput _) (hvu _ rfl) fun p hp => by
          rcases List.mem_cons.1 hp with rfl | hp
          exact h2 hLi; exact hf p hp
      · exact ih _ _ _ _ hl' hn' (h3 (val i) (fun _ => rfl) (fun h => by rw [hLi] at h; cases h)) (hput _) (hvu _ rfl) fun p hp => by
          rcases List.mem_cons.1 hp with rfl | hp
          exact h2 hLi; exact hf p hp
    · exact ih _ _ _ _ hl' hn' h.2 (hput undef) (hvu undef (h.1 hLi).symm) hf

/-- One operation comes up. -/
theorem Res.step {Qx : Exit → Act → World → Prop} {L : Nat → Bool} {val : Nat → Value} {wr : World} {a0 ar : Act} {j mr : Nat} {oj : Oper} {l : List Oper} (y : Way S I) (g : Ok md ops n) (hj : j < n) (ho : ops[j]? = some oj)
    (hLj : L j = false) (hp : ∀ k ∈ predsOf md ops j, L k = true) (hdep : ∀ k, depB md ops j k = true → L k = true) (hr : Pt ops n L val a0 ar) (hmr : mr + n ≤ M) (hBr : I mr wr) (hl : ∀ m, m < l.length → l[m]? = ops[m]?) (hn : l.length = n)
    (h : Res P md ops S I M sp L val wr Q l 0 [] a0) :
    wpOp P ops Qx j (fun a' w' => ∃ u, a' = ar.put oj.dst u ∧ I (mr + 1) w' ∧ Res P md ops S I M sp (ins L j) (upd val j u) w' Q l 0 [] a0) ar wr := by
  have pt0 : ∀ v, Pt ops n (fun k => decide (k < 0)) v a0 a0 := fun v => ⟨rfl, fun k t _ hS => by simp at hS, fun _ _ => rfl⟩
  have hl0 : ∀ m, m < l.length → l[m]? = ops[0 + m]? := fun m hm => by rw [Nat.zero_add]; exact hl m hm
  have hmM : mr < M := by omega
  have after : ∀ u w1, S wr w1 → I (mr + 1) w1 → Outc P ops sp j oj ar wr u w1 → (∃ u', ar.put oj.dst u = ar.put oj.dst u' ∧ I (mr + 1) w1 ∧ Res P md ops S I M sp (ins L j) (upd val j u') w1 Q l 0 [] a0) := fun u w1 hb hB1 hout =>
    ⟨u, rfl, hB1, Res.mark g hj ho hLj hp hdep hr hmM hBr hb hB1 hout l 0 [] a0 val hl0 (by omega) (Nat.zero_le _) h (pt0 _) (fun k hk => by omega) (fun p hp => by cases hp)⟩
  obtain ⟨rest, Γ, a, vh, hres, hpt, hv, hlr⟩ := Res.reach (j := j) y g hj ho l 0 [] a0 val mr wr hl0 (by omega) (Nat.zero_le _) h (pt0 _) (fun k hk => by omega) (fun p hp => by cases hp) (fun p hp => by cases hp) (by omega) (y.refl _) hBr (fun p hp => by cases hp)
  obtain ⟨hex, hwt⟩ := g.same hr hpt hj ho hp hv
  have hF : FactsAt md ops j Γ wr := fun p hp' hd => hlr p hp' (hdep _ hd)
  unfold wpOp
  simp only [ho]
  unfold Res at hres
  rw [hex, hwt] at hres
  split
  · rename_i hw
    rw [if_pos hw] at hres
    refine .inl ?_
    unfold Oper.wp
    have hout : ∀ u w1, (match (execOp ar.eval oj).run P wr with | .ok (.value v) w' => v = u ∧ w' = w1 | .ok .skip w' => undef = u ∧ w' = w1 | .ok (.enter _ _) _ => sp j u w1 | _ => False) → Outc P ops sp j oj ar wr u w1 := fun u w1 h => by
      unfold Outc; rw [if_pos hw]; exact h
    rcases hres with ⟨v, h1, h2, h3⟩ | ⟨Z, hs, h1, h2, h3⟩ | ⟨hs, h1, h2, h3⟩
    · have hx := h1 mr wr hmM hBr
      cases hrun : (execOp ar.eval oj).run P wr with
      | ok x w' =>
        rw [hrun] at hx hout
        cases x <;> simp only [fnUpon] at hx <;> simp only [Oper.upon]
        case value v' => exact after _ _ (by rw [hx.2]; exact y.refl _) (by rw [hx.2]; exact y.more _ _ hBr) (hout _ _ ⟨rfl, rfl⟩)
        case skip => exact after _ _ (by rw [hx.2]; exact y.refl _) (by rw [hx.2]; exact y.more _ _ hBr) (hout _ _ ⟨rfl, rfl⟩)
      | halt x w' => rw [hrun] at hx; exact hx.elim
    · have hx := h1 mr wr hmM hBr hF
      cases hrun : (execOp ar.eval oj).run P wr with
      | ok x w' =>
        rw [hrun] at hx hout
        cases x <;> simp only [fnUpon] at hx <;> simp only [Oper.upon]
        case value v' => exact after _ _ hx.1.1 hx.1.2 (hout _ _ ⟨rfl, rfl⟩)
        case skip => exact after _ _ hx.1.1 hx.1.2 (hout _ _ ⟨rfl, rfl⟩)
      | halt x w' => rw [hrun] at hx; exact hx.elim
    · have hx := h1 mr wr hmM hBr hF
      cases hrun : (execOp ar.eval oj).run P wr with
      | ok x w' =>
        rw [hrun] at hx hout
        cases x <;> simp only [callUpon] at hx
        simp only [Oper.upon]
        obtain ⟨rfl, hc⟩ := hx
        exact hc.mono fun e w'' ⟨u, he, hb, hz⟩ => by subst he; exact after u w'' hb.1 hb.2 (hout _ _ hz)
      | halt x w' => rw [hrun] at hx; exact hx.elim
  · rename_i hw
    rw [if_neg hw] at hres
    exact after _ _ (y.refl _) (y.more _ _ hBr) (by unfold Outc; rw [if_neg hw]; exact ⟨rfl, rfl⟩)

/-- Operations that the walk need not wait for (Z) have been carried out; the others behind the first n have not. -/
structure HInv (md : Region.Mode) (ops : Array Oper) (n : Nat) (Z : Nat → Bool) (listed : Array Bool) : Prop where
  size : listed.size = ops.size
  closed : ∀ j oj, ops[j]? = some oj → listed.getD j false = true → ∀ e ∈ oj.after, Region.binds md e = true → listed.getD e.on false = true
  tail : ∀ t, n ≤ t → t < ops.size → Z t = false → listed.getD t true = false
  zin : ∀ t, n ≤ t → t < ops.size → Z t = true → listed.getD t false = true
theorem HInv.set {Z : Nat → Bool} {i : Nat} {listed : Array Bool} (inv : HInv md ops n Z listed) (hi : i ∈ Region.ready md ops listed) (hin : i < n) : HInv md ops n Z (listed.setIfInBounds i true) := by
  obtain ⟨_, oi, hoi, hall⟩ := mem_ready.1 hi
  refine ⟨by simp [inv.size], fun j oj hj hl e he hb => ?_, fun t ht ht' hz => by rw [getD_set_ne true (by omega)]; exact inv.tail t ht ht' hz, fun t ht ht' hz => getD_set_true (inv.zin t ht ht' hz)⟩
  by_cases hij : i = j
  · subst hij
    have : oj = oi := Option.some.inj (hj.symm.trans hoi)
    subst this
    exact getD_set_true (hall e he hb)
  · rw [getD_set_ne false hij] at hl
    exact getD_set_true (inv.closed j oj hj hl e he hb)
def canonZ (ops : Array Oper) (n : Nat) (Z : Nat → Bool) : Array Bool := ((List.range ops.size).map fun k => decide (k < n) || Z k).toArray
/-- The operations that operation j waits for, at once or through others. -/
def needs (md : Region.Mode) (ops : Array Oper) (j : Nat) : List Nat := upset md ops ops.size (predsOf md ops j)

theorem grow_any {Qx : Exit → Act → World → Prop} {a0 : Act} {l : List Oper} {Z : Nat → Bool} {m1 : Nat} (y : Way S I) (g : Ok md ops n) (hM : 2 * n ≤ M) (hwait : ∀ t, n ≤ t → t < ops.size → Z t = false → ∀ i, i < n → i ∈ needs md ops t) (hl : ∀ m, m < l.length → l[m]? = ops[m]?) (hn : l.length = n)
    (hQ : ∀ Γ a w, Q Γ a → I n w → (∀ p ∈ Γ, p.2 w) → wpAny P md ops Qx m1 (canonZ ops n Z) a w) :
    ∀ (f : Nat) (listed : Array Bool) (ar : Act) (mr : Nat) (wr : World) (val : Nat → Value), (List.range n).countP (fun k => !listed.getD k false) = f → HInv md ops n Z listed → Pt ops n (fun k => listed.getD k false) val a0 ar → mr + f = n → I mr wr →
      Res P md ops S I M sp (fun k => listed.getD k false) val wr Q l 0 [] a0 → wpAny P md ops Qx (f + m1) listed ar wr := by
  intro f
  induction f with
  | zero =>
    intro listed ar mr wr val hc inv hpt hmr hB h
    have hall : ∀ k, k < n → listed.getD k false = true := fun k hk => by
      have := List.countP_eq_zero.1 hc k (List.mem_range.2 hk)
      simpa using this
    obtain ⟨Γ, a, vh, hq, hpa, hv, hf⟩ := Res.over g hall l 0 [] a0 val (fun m hm => by rw [Nat.zero_add]; exact hl m hm) (by omega) h ⟨rfl, fun k t _ hS => by simp at hS, fun _ _ => rfl⟩ (fun k hk => by omega) (fun p hp => by cases hp)
    have hcan : listed = canonZ ops n Z := by
      apply Array.ext_getElem?
      intro k
      unfold canonZ
      by_cases hks : k < ops.size
      · have hks' : k < listed.size := by rw [inv.size]; exact hks
        by_cases hkn : k < n
        · have := hall k hkn
          simp [hks, hks', hkn] at this ⊢
          exact this
        · cases hz : Z k
          · have := inv.tail k (by omega) hks hz
            simp [hks, hks', hkn, hz] at this ⊢
            exact this
          · have := inv.zin k (by omega) hks hz
            simp [hks, hks', hkn, hz] at this ⊢
            exact this
      · have hks' : ¬ k < listed.size := by rw [inv.size]; exact hks
        simp [hks, hks']
    have hfr : ar = a := by
      have h1 : ar.defers = a.defers := hpt.defers.trans hpa.defers.symm
      have h2 : ar.tmps = a.tmps := Array.ext_getElem? fun t => hpt.agree hpa fun k hk _ => ⟨by simp [hk, hall k hk], fun _ => (hv k hk).symm⟩
      cases ar; cases a; simp_all
    obtain rfl : mr = n := by omega
    rw [Nat.zero_add, hcan, hfr]
    exact hQ Γ a wr hq hB hf
  | succ f ih =>
    intro listed ar mr wr val hc inv hpt hmr hB h
    have hex : ∃ k, k < n ∧ listed.getD k false = false := by
      have : 0 < (List.range n).countP (fun k => !listed.getD k false) := by omega
      obtain ⟨k, hk, hp⟩ := List.countP_pos_iff.1 this
      exact ⟨k, List.mem_range.1 hk, by simpa using hp⟩
    obtain ⟨k0, hk0, hun0⟩ := hex
    obtain ⟨m, hm, hm1, hm2⟩ := least_of (p := fun k => !listed.getD k false) k0 (by simpa using hun0)
    have hmn : m < n := by omega
    have hms : m < listed.size := by rw [inv.size]; have := g.size; omega
    have hun : listed.getD m true = false := getD_in hms (by simpa using hm1)
    have hready : m ∈ Region.ready md ops listed := by
      have hmo : m < ops.size := by have := g.size; omega
      refine mem_ready.2 ⟨hun, ops[m], by simp [hmo], fun e he hb => ?_⟩
      have : e.on < m := g.back m hmn _ (by
        unfold predsOf
        rw [Array.getElem?_eq_getElem hmo]
        exact List.mem_map.2 ⟨e, List.mem_filter.2 ⟨by simpa using he, hb⟩, rfl⟩)
      have := hm2 _ this
      simpa using this
    have e1 : f + 1 + m1 = (f + m1) + 1 := by omega
    rw [e1]
    refine ⟨fun h0 => absurd (h0 ▸ hready) (by simp), fun j hj => ?_⟩
    obtain ⟨hju, oj, hoj, hall⟩ := mem_ready.1 hj
    have hjs : j < ops.size := (Array.getElem?_eq_some_iff.1 hoj).1
    have hp : ∀ k ∈ predsOf md ops j, listed.getD k false = true := fun k hk => by
      unfold predsOf at hk
      rw [hoj] at hk
      obtain ⟨e, he, rfl⟩ := List.mem_map.1 hk
      obtain ⟨he1, he2⟩ := List.mem_filter.1 he
      exact hall e (by simpa using he1) he2
    have hcl : ∀ i, listed.getD i false = true → ∀ k ∈ predsOf md ops i, listed.getD k false = true := fun i hi k hk => by
      unfold predsOf at hk
      cases hoi : ops[i]? with
      | none => rw [hoi] at hk; cases hk
      | some oi =>
        rw [hoi] at hk
        obtain ⟨e, he, rfl⟩ := List.mem_map.1 hk
        obtain ⟨he1, he2⟩ := List.mem_filter.1 he
        exact inv.closed i oi hoi hi e (by simpa using he1) he2
    have hjn : j < n := by
      rcases Nat.lt_or_ge j n with h | h
      · exact h
      · cases hz : Z j
        · have := upset_in hcl _ _ hp m (hwait j h hjs hz m hmn)
          rw [getD_both hun] at this
          cases this
        · have h1 := inv.zin j h hjs hz
          have hjl : j < listed.size := by rw [inv.size]; exact hjs
          simp [hjl] at h1 hju
          rw [h1] at hju
          cases hju
    have hdep : ∀ k, depB md ops j k = true → listed.getD k false = true := fun k hk => by
      unfold depB at hk
      exact upset_in hcl _ _ hp k (by simpa using hk)
    have hset : (fun k => (listed.setIfInBounds j true).getD k false) = ins (fun k => listed.getD k false) j := by
      funext k
      unfold ins
      by_cases e : k = j
      · subst e
        have : k < listed.size := by rw [inv.size]; exact hjs
        simp [this]
      · rw [getD_set_ne false (Ne.symm e)]
        simp [e]
    have hjf : listed.getD j false = false := getD_both hju
    refine wpOp_mono (fun a' w' ⟨u, he, hB', hres⟩ => ?_) (Res.step (Qx := Qx) y g hjn hoj hjf hp hdep hpt (by omega) hB hl hn h)
    subst he
    have hpt' := hpt.put (u := u) g.one hjn hjf hoj
    rw [← hset] at hres hpt'
    refine ih _ _ (mr + 1) _ _ ?_ (inv.set hj hjn) hpt' (by omega) hB' hres
    have := count_off n (fun k => !listed.getD k false) j hjn (by simpa using hjf)
    rw [hc] at this
    have e3 : (List.range n).countP (fun k => !(listed.setIfInBounds j true).getD k false) = (List.range n).countP (fun k => (!listed.getD k false) && k != j) := List.countP_congr fun k _ => by
      have := congrFun hset k
      simp only [ins] at this
      rw [this]
      by_cases e : k = j <;> simp [e]
    omega

theorem Res.fresh {val val' : Nat → Value} {wr w1 : World} : ∀ (l : List Oper) (i : Nat) (Γ : List (Nat × (World → Prop))) (a : Act), Res P md ops S I M sp (fun _ => false) val wr Q l i Γ a → Res P md ops S I M sp (fun _ => false) val' w1 Q l i Γ a := by
  intro l
  induction l with
  | nil => intro i Γ a h; exact h
  | cons o rest ih =>
    intro i Γ a h
    unfold Res at h ⊢
    split
    · rename_i hw
      rw [if_pos hw] at h
      rcases h with ⟨v, h1, h2, h3⟩ | ⟨Z, hs, h1, h2, h3⟩ | ⟨hs, h1, h2, h3⟩
      · exact .inl ⟨v, h1, (fun h => by cases h), ih _ _ _ h3⟩
      · exact .inr (.inl ⟨Z, hs, h1, (fun h => by cases h), fun u _ hu' => ih _ _ _ (h3 u (fun h => by cases h) hu')⟩)
      · exact .inr (.inr ⟨hs, h1, (fun h => by cases h), fun u _ hu' => ih _ _ _ (h3 u (fun h => by cases h) hu')⟩)
    · rename_i hw
      rw [if_neg hw] at h
      exact ⟨(fun h => by cases h), ih _ _ _ h.2⟩
end

/-- The walk that a prover makes: nothing has been carried out yet. -/
abbrev wpGrow (P : Program) (ops : Array Oper) (S : World → World → Prop) (I : Nat → World → Prop) (M : Nat) (w0 : World) (sp : Nat → Value → World → Prop) (Q : List (Nat × (World → Prop)) → Act → Prop) (l : List Oper) (i : Nat) (Γ : List (Nat × (World → Prop))) (a : Act) : Prop :=
  Res P .any ops S I M sp (fun _ => false) (fun _ => undef) w0 Q l i Γ a

def seqT (md : Region.Mode) (ops : Array Oper) : List Nat → Array Bool → Bool
  | [], listed => (Region.ready md ops listed).isEmpty
  | k :: τ, listed => decide (Region.ready md ops listed = [k]) && seqT md ops τ (listed.setIfInBounds k true)
theorem wpAny_of_seqT {P : Program} {md : Region.Mode} {ops : Array Oper} {Q' : Exit → Act → World → Prop} : ∀ (τ : List Nat) (listed : Array Bool) (a : Act) (w : World), (∀ k ∈ τ, k < ops.size) →
    seqT md ops τ listed = true → wpList P ops Q' (τ.filterMap (ops[·]?)) a w → wpAny P md ops Q' τ.length listed a w
  | [], _, _, _, _, hB, h => ⟨by simpa [seqT] using hB, h⟩
  | k :: τ, listed, a, w, hl, hB, h => by
    have hk : k < ops.size := hl k List.mem_cons_self
    have h0 : ops[k]? = some ops[k] := Array.getElem?_eq_getElem hk
    simp only [seqT, Bool.and_eq_true, decide_eq_true_eq] at hB
    rw [List.filterMap_cons, h0] at h
    refine ⟨fun h1 => (by rw [hB.1] at h1; cases h1), fun i hi => ?_⟩
    rw [hB.1] at hi
    have hik : i = k := by simpa using hi
    subst hik
    have hw : wpOp P ops Q' i (wpList P ops Q' (τ.filterMap (ops[·]?))) a w := by unfold wpOp; simp only [h0]; exact h
    exact wpOp_mono (fun a' w' h' => wpAny_of_seqT τ _ a' w' (fun k hk => hl k (List.mem_cons_of_mem _ hk)) hB.2 h') hw

def okB (md : Region.Mode) (ops : Array Oper) (n : Nat) : Bool :=
  Region.noSelect ops && decide (n ≤ ops.size) &&
  (List.range n).all fun j => (predsOf md ops j).all (fun k => decide (k < j)) && (List.range n).all fun k =>
    match dstOf ops k with
    | none => true
    | some t => (k == j || dstOf ops j != some t) && (!(looksOf ops j).contains t || (predsOf md ops j).contains k)
theorem okB_ok {md : Region.Mode} {ops : Array Oper} {n : Nat} (h : okB md ops n = true) : Ok md ops n := by
  unfold okB at h
  simp only [Bool.and_eq_true, decide_eq_true_eq] at h
  obtain ⟨⟨h1, h2⟩, h4⟩ := h
  have key : ∀ j, j < n → _ := fun j hj => List.all_eq_true.1 h4 j (List.mem_range.2 hj)
  simp only [Bool.and_eq_true] at key
  refine ⟨h1, h2, fun j hj k hk => by simpa using List.all_eq_true.1 (key j hj).1 k hk, fun i k t hi hk hdi hdk => ?_, fun j k t hj hk hd ht => ?_⟩
  · have := List.all_eq_true.1 (key i hi).2 k (List.mem_range.2 hk)
    simp only [hdk, hdi, Bool.and_eq_true, Bool.or_eq_true, beq_iff_eq, bne_self_eq_false, Bool.false_eq_true, or_false] at this
    exact this.1.symm
  · have := List.all_eq_true.1 (key j hj).2 k (List.mem_range.2 hk)
    simp only [hd, Bool.and_eq_true, Bool.or_eq_true] at this
    rcases this.2 with h | h
    · simp [ht] at h
    · simpa using h
def waitB (md : Region.Mode) (ops : Array Oper) (n : Nat) (Z : Nat → Bool) : Bool :=
  (List.range ops.size).all fun t => decide (t < n) || Z t || (List.range n).all fun i => (needs md ops t).contains i
theorem waitB_ok {md : Region.Mode} {ops : Array Oper} {n : Nat} {Z : Nat → Bool} (h : waitB md ops n Z = true) : ∀ t, n ≤ t → t < ops.size → Z t = false → ∀ i, i < n → i ∈ needs md ops t := fun t h1 h2 hz i hi => by
  have := List.all_eq_true.1 h t (List.mem_range.2 h2)
  have h3 : ¬ t < n := by omega
  simp only [hz, h3, decide_false, Bool.false_or] at this
  simpa using List.all_eq_true.1 this i (List.mem_range.2 hi)
/-- No operation is taken ahead; those behind the first n come in the order τ. -/
def growTB (md : Region.Mode) (ops : Array Oper) (n : Nat) (τ : List Nat) : Bool :=
  okB md ops n && waitB md ops n (fun _ => false) && seqT md ops τ (canonZ ops n fun _ => false) && decide (n + τ.length = ops.size) && τ.all fun k => decide (k < ops.size)
theorem wp_region {P : Program} {id : Nat} {Qx : Exit → Act → World → Prop} {a : Act} {w : World} {l : List Oper} (n : Nat) (τ : List Nat) (M : Nat) (S : World → World → Prop) (I : Nat → World → Prop) (sp : Nat → Value → World → Prop) (hm : P.follows .mixedOrders = true) (hg : growTB .any l.toArray n τ = true)
    (y : Way S I) (hM : 2 * n ≤ M) (hC : I 0 w.drew)
    (h : wpGrow P l.toArray S I M w sp (fun Γ a' => ∀ w', I n w' → (∀ p ∈ Γ, p.2 w') → wpList P l.toArray Qx (τ.filterMap (l[·]?)) a' w') (l.take n) 0 [] a) : (Code.region id l.toArray true).wp P Qx a w := by
  unfold growTB at hg
  simp only [Bool.and_eq_true, decide_eq_true_eq] at hg
  obtain ⟨⟨⟨⟨g1, g2⟩, g3⟩, g4⟩, g5⟩ := hg
  have g := okB_ok g1
  have hsz : n ≤ l.length := by simpa using g.size
  have htl : (l.take n).length = n := by simp; omega
  have hrep : (fun k => (Array.replicate l.toArray.size false).getD k false) = fun _ => false := funext fun k => getD_replicate_false _ _
  have key0 : ∀ L a w, wpAny P .any l.toArray Qx (n + τ.length) L a w → wpAny P .any l.toArray Qx l.toArray.size L a w := fun _ _ _ h => by rwa [← g4]
  refine wp_region_any hm (key0 _ _ _ ?_)
  refine grow_any (Qx := Qx) (P := P) (sp := sp) (S := S) (I := I) (M := M) (a0 := a) (l := l.take n) (Z := fun _ => false) (m1 := τ.length) (Q := fun Γ a' => ∀ w', I n w' → (∀ p ∈ Γ, p.2 w') → wpList P l.toArray Qx (τ.filterMap (l[·]?)) a' w') y g hM (waitB_ok g2) (fun m hm' => by rw [htl] at hm'; simp [hm']) htl (fun Γ a' w' hq hb hf =>
    wpAny_of_seqT τ _ a' w' (fun k hk => of_decide_eq_true (List.all_eq_true.1 g5 k hk)) g3 (by simpa using hq w' hb hf)) n _ a 0 { w with drawn := w.drawn + 1 } (fun _ => undef) ?_ ?_ ?_ (by omega) (show I 0 w.drew from hC) ?_
  · rw [List.countP_eq_length.2 (fun k _ => by rw [getD_replicate_false]; rfl)]; simp
  · exact ⟨by simp, fun j oj _ hl => (by rw [getD_replicate_false] at hl; cases hl), fun t _ ht _ => getD_in (by simpa using ht) (getD_replicate_false _ _), fun t _ _ hz => by cases hz⟩
  · rw [hrep]; exact ⟨rfl, fun k t _ hS => by simp at hS, fun _ _ => rfl⟩
  · rw [hrep]
    exact Res.fresh _ _ _ _ h

/-- Every world of a kind, as a family (what is not so is replaced by w1). -/
noncomputable def FamI (J : World → Prop) (w1 x : World) : World := open Classical in if J x then x else w1
theorem FamI.is {J : World → Prop} {w1 : World} (h : J w1) (x : World) : J (FamI J w1 x) := by
  unfold FamI
  split
  · assumption
  · exact h
theorem FamI.of {J : World → Prop} {w w1 : World} (h : J w) : ∃ x, w = FamI J w1 x := ⟨w, by unfold FamI; rw [if_pos h]⟩

/-- Some m below M. -/
def Upto (I : Nat → World → Prop) (M : Nat) (w : World) : Prop := ∃ m, m < M ∧ I m w

section
variable {P : Program} {ops : Array Oper} {M : Nat} {S : World → World → Prop} {I : Nat → World → Prop} {sp : Nat → Value → World → Prop} {w0 w1 : World}
variable {Q : List (Nat × (World → Prop)) → Act → Prop} {o : Oper} {rest : List Oper} {i : Nat} {Γ : List (Nat × (World → Prop))} {a : Act}
theorem grow_nil (h : Q Γ a) : wpGrow P ops S I M w0 sp Q [] i Γ a := h
theorem grow_skip (hw : Region.wanted o (yielded ops a.tmps) = false) (h : wpGrow P ops S I M w0 sp Q rest (i + 1) Γ (a.put o.dst undef)) : wpGrow P ops S I M w0 sp Q (o :: rest) i Γ a := by
  unfold wpGrow Res
  rw [if_neg (by simp [hw])]
  exact ⟨(fun h => by cases h), h⟩

theorem grow_quiet (w1 : World) (hw : Region.wanted o (yielded ops a.tmps) = true) (hf : fnOp o = true)
    (h : ∀ K : Act → Prop, (∀ a, wpGrow P ops S I M w0 sp Q rest (i + 1) Γ a → K a) → o.quiet P a (fun w => ∃ x, w = FamI (Upto I M) w1 x) K) : wpGrow P ops S I M w0 sp Q (o :: rest) i Γ a := by
  obtain ⟨v, h1, h2⟩ := h _ fun _ h => h
  unfold wpGrow Res
  rw [if_pos hw]
  refine .inl ⟨v, fun m w hm hb => ?_, (fun h => by cases h), h2⟩
  have hq := h1 w (FamI.of ⟨m, hm, hb⟩)
  unfold Oper.quietAt at hq
  cases hr : (execOp a.eval o).run P w with
  | ok x w' =>
    rw [hr] at hq
    cases x <;> simp only [Oper.quietUpon] at hq
    case value u => exact ⟨hq.2, hq.1⟩
    case skip => exact ⟨hq.2.symm, hq.1⟩
    case enter f args => exact absurd hr (fnOp_run hf _ _ _ _ _)
  | halt x w' => rw [hr] at hq; exact hq.elim

/-- An operation that makes a block: its value hangs on the block's number alone. -/
theorem grow_new {K : Nat → Prop} (hw : Region.wanted o (yielded ops a.tmps) = true) (B : Nat) (mk : Nat → Value) (T : TypeId) (cs : Array Value) (hrun : ∀ w, (execOp a.eval o).run P w = .ok (.value (mk w.heap.size)) (w.alloc (.cells cs T)))
    (hS : S = KeepB K) (hI : ∀ m w o, I m w → I (m + 1) (w.alloc o)) (hB : ∀ m w, I m w → B ≤ w.heap.size) (hK : ∀ k, K k → k < B)
    (h : ∀ b, B ≤ b → wpGrow P ops S I M w0 sp Q rest (i + 1) ((i, fun w' => ∃ b', mk b = mk b' ∧ B ≤ b' ∧ w'.heap[b']? = some (.cells cs T (0, 0))) :: Γ) (a.put o.dst (mk b))) : wpGrow P ops S I M w0 sp Q (o :: rest) i Γ a := by
  subst hS
  unfold wpGrow Res
  rw [if_pos hw]
  refine .inr (.inl ⟨fun u w' => ∃ b', u = mk b' ∧ B ≤ b' ∧ w'.heap[b']? = some (.cells cs T (0, 0)), fun u w w' hb ⟨b', h1, h2, h3⟩ => ⟨b', h1, h2, ?_⟩, fun m w hm hb _ => ?_, (fun h => by cases h), fun u _ hu => ?_⟩)
  · rw [hb.block b' (by
      rcases Nat.lt_or_ge b' w.heap.size with h | h
      · exact h
      · rw [Array.getElem?_eq_none h] at h3; cases h3) (fun hk => by have := hK _ hk; omega), h3]
  · rw [hrun]
    exact ⟨⟨(KeepB.refl _ _).alloc _, hI _ _ _ hb⟩, w.heap.size, rfl, hB _ _ hb, heap_alloc_new w _⟩
  · obtain ⟨_, w', _, b', rfl, h2, _⟩ := hu rfl
    exact h b' h2

/-- A call of a Go function. -/
theorem grow_call (hw : Region.wanted o (yielded ops a.tmps) = true) (hs : ∀ u, Steady S (sp i u))
    (hc : ∀ m w, m < M → I m w → FactsAt .any ops i Γ w → callUpon P w (fun e w' => ∃ u, e = .returned u ∧ (S w w' ∧ I (m + 1) w') ∧ sp i u w') ((execOp a.eval o).run P w))
    (h : ∀ u, (∃ m w', I m w' ∧ sp i u w') → wpGrow P ops S I M w0 sp Q rest (i + 1) ((i, sp i u) :: Γ) (a.put o.dst u)) : wpGrow P ops S I M w0 sp Q (o :: rest) i Γ a := by
  unfold wpGrow Res
  rw [if_pos hw]
  exact .inr (.inr ⟨hs, hc, (fun h => by cases h), fun u _ hu => h u (hu rfl)⟩)
/-- A call of a Go function whose value is known. -/
theorem grow_val (v : Value) (hw : Region.wanted o (yielded ops a.tmps) = true) (hsp : sp i = fun u _ => u = v)
    (hc : ∀ m w, m < M → I m w → FactsAt .any ops i Γ w → callUpon P w (fun e w' => e = .returned v ∧ S w w' ∧ I (m + 1) w') ((execOp a.eval o).run P w))
    (h : wpGrow P ops S I M w0 sp Q rest (i + 1) ((i, fun _ => v = v) :: Γ) (a.put o.dst v)) : wpGrow P ops S I M w0 sp Q (o :: rest) i Γ a := by
  refine grow_call hw (fun u => by rw [hsp]; exact fun _ _ _ h => h) (fun m w hm hb hf => ?_) fun u ⟨_, w', _, hu⟩ => ?_
  · have hx := hc m w hm hb hf
    generalize (execOp a.eval o).run P w = r at hx ⊢
    cases r with
    | ok x w' =>
      cases x <;> simp only [callUpon] at hx ⊢
      exact ⟨hx.1, hx.2.mono fun e w'' ⟨he, hb⟩ => ⟨v, he, hb, by rw [hsp]⟩⟩
    | halt x w' => exact hx.elim
  · rw [hsp] at hu
    subst hu
    rw [hsp]
    exact h
end
/-- Worlds that are as w0 but for what has been made since. -/
def BI (w0 : World) : Nat → World → Prop := fun _ w => Below w0.heap.size w0 w
theorem BI.way (w0 : World) : Way (KeepB fun _ => False) (BI w0) := ⟨fun w => KeepB.refl _ w, fun _ _ _ h k => h.trans k, fun _ _ h => h⟩
theorem BI.fam (w0 x : World) : Below w0.heap.size w0 (FamI (Upto (BI w0) 200) w0 x) := by
  obtain ⟨_, _, h⟩ := FamI.is (J := Upto (BI w0) 200) (w1 := w0) ⟨0, by omega, Below.refl _ _⟩ x
  exact h
theorem BI.cell {w0 : World} {b o : Nat} {v : Value} (h : w0.cell? ⟨b, o, none⟩ = some v) (x : World) : (FamI (Upto (BI w0) 200) w0 x).cell? ⟨b, o, none⟩ = some v := by
  rw [(BI.fam w0 x).cell (World.block_lt_of_cell? _ _ h)]
  exact h
theorem BI.after {w0 w w' : World} {m : Nat} (h : BI w0 m w) (hb : Below w.heap.size w w') : KeepB (fun _ => False) w w' ∧ BI w0 (m + 1) w' := ⟨KeepB.of_below hb, h.trans (hb.mono h.size)⟩
theorem BI.alloc {w0 w : World} {m : Nat} (o : Obj) (h : BI w0 m w) : BI w0 (m + 1) (w.alloc o) := (h.after ((Below.refl _ _).alloc (Nat.le_refl _) _)).2
theorem BI.size {w0 w : World} {m : Nat} (h : BI w0 m w) : w0.heap.size ≤ w.heap.size := Below.size h
end GK
end AG
