/- Lemmas, part 5: several texts in one. -/
import Derived.Test.YtdkjnemakkppfaaDoorV3
import Derived.Test.YtdkjnemakkppfaaDoorV1
import Derived.Test.YtdkjnemakkppfaaDoorV4
import Derived.WalkKit
import Derived.Test.YtdkjnemakkppfaaDoorV2
set_option linter.unusedSimpArgs false
set_option linter.unusedVariables false

/- The program's search: firstPath. -/
namespace Go.Proofs.YtdkjnemakkppfaaDoor
open Go.RowKit Go.BigFrame AG

theorem PathOk.of {I : Nat → Prop} {L : List Nat} {nx : Nat → Nat → List Nat} {G : Nat → Prop} {ss : List StV} {ws : List (List Nat)} {i k : Nat} (h : Bfs I L nx G (ss.map (·.st)) ws i k) (hL6 : ∀ l ∈ L, l < 6) : PathOk ss ws := by
  refine ⟨by rw [h.len]; simp, h.zero, fun h0 => ?_, fun j hj hj' h0 => ?_⟩
  · have := h.root (by simpa using h0)
    simpa using this
  · obtain ⟨p, q, hpj, _, h1, hp, hq, h2, hw⟩ := h.link j (by simpa using hj) hj' h0
    simp only [List.getElem_map] at h1 h2
    exact ⟨p, hpj, h1, by rw [h2]; exact hL6 _ (List.getElem_mem _), hp, by rw [hw, h2]⟩
theorem PathOk.add {ss : List StV} {ws : List (List Nat)} (h : PathOk ss ws) {i l : Nat} (hi : i < ws.length) (hl : l < 6) (x : StV) (hx : x.st.par = (i : Int)) (hx' : x.st.let_ = l) : PathOk (ss ++ [x]) (ws ++ [l :: ws[i]]) := by
  have hlen := h.len
  have hpos : 0 < ws.length := by omega
  refine ⟨by simp [hlen], fun h0 => ?_, fun h0 => ?_, fun j hj hj' h0 => ?_⟩
  · rw [List.getElem_append_left hpos]; exact h.zero hpos
  · rw [List.getElem_append_left (by omega)]; exact h.root (by omega)
  · by_cases e : j < ws.length
    · obtain ⟨p, hpj, h1, h2, hp, hw⟩ := h.link j (by omega) e h0
      refine ⟨p, hpj, ?_, ?_, by simp; omega, ?_⟩
      · rw [List.getElem_append_left (by omega)]; exact h1
      · rw [List.getElem_append_left (by omega)]; exact h2
      · rw [List.getElem_append_left e, List.getElem_append_left hp, List.getElem_append_left (by omega)]; exact hw
    · obtain rfl : j = ws.length := by simp at hj'; omega
      refine ⟨i, hi, ?_, ?_, by simp; omega, ?_⟩
      · simp [hlen, hx]
      · simp [hlen, hx', hl]
      · rw [List.getElem_append_left hi]
        simp [hlen, hx']

theorem FPst.later {w w1 w2 : World} {size : Nat} {gv : Value} {bS bG bP gS : Nat} {sv : Value} {ss : List StV} {S : Nat → Bool} (h : FPst w w1 size gv bS bG bP gS sv ss S) (hb : Below w1.heap.size w1 w2) : FPst w w2 size gv bS bG bP gS sv ss S := by
  obtain ⟨cs, hc, hs⟩ := h.seen
  have hk : KeepB (fun b => b = gS) w1 w2 := .of_below hb
  exact h.keep hk (hc.below hb hc.lt) hs

theorem seen_start (size : Nat) : SeenAt (madeCells #[.bool false] size) size (fun _ => false) := by
  refine ⟨by simp [madeCells], fun n hn => ?_⟩
  have h1 := toList_madeCells_one (Value.bool false) size
  rw [← Array.getElem?_toList, h1, List.getElem?_replicate, if_pos hn]

end Go.Proofs.YtdkjnemakkppfaaDoor

/- Plain: the system of an automaton: its accepting states, and the letters that lead from one to another. -/
namespace Go.Proofs.YtdkjnemakkppfaaDoor
open AG

theorem letters_len6 (A : Int) : (letters A).length ≤ 6 := lettersTo_len A 6
end Go.Proofs.YtdkjnemakkppfaaDoor

/- Plain: lists numbered by first occurrence; a numbering of nodes under a map that may join nodes. -/
namespace AG


theorem snoc_ind {α : Type} {P : List α → Prop} (h0 : P []) (h1 : ∀ l x, P l → P (l ++ [x])) (l : List α) : P l := by
  have : ∀ n, ∀ l : List α, l.length = n → P l := by
    intro n
    induction n with
    | zero => intro l hl; rw [List.eq_nil_of_length_eq_zero hl]; exact h0
    | succ n ih =>
      intro l hl
      have hne : l ≠ [] := fun e => by rw [e] at hl; simp at hl
      rw [← List.dropLast_concat_getLast hne]
      exact h1 _ _ (ih _ (by rw [List.length_dropLast]; omega))
  exact this _ l rfl

section
variable {α β : Type} [DecidableEq α] [DecidableEq β]
def addD (ns : List α) (x : α) : List α := if x ∈ ns then ns else ns ++ [x]
/-- Without repeats, in the order of first occurrence. -/
def dd (ks : List α) : List α := ks.foldl addD []
theorem dd_snoc (ks : List α) (k : α) : dd (ks ++ [k]) = addD (dd ks) k := by unfold dd; rw [List.foldl_append]; rfl
theorem addD_mem {ns : List α} {x y : α} : y ∈ addD ns x ↔ y ∈ ns ∨ y = x := by
  unfold addD
  split
  · rename_i h
    exact ⟨.inl, fun h2 => h2.elim id fun e => e ▸ h⟩
  · rw [List.mem_append, List.mem_singleton]
theorem dd_mem (ks : List α) (x : α) : x ∈ dd ks ↔ x ∈ ks := by
  induction ks using snoc_ind with
  | h0 => simp [dd]
  | h1 l y ih => rw [dd_snoc, addD_mem, List.mem_append, List.mem_singleton, ih]
end

end AG

/- The program's CountAccepted. -/
namespace Go.Proofs.YtdkjnemakkppfaaDoor
open Go.RowKit Go.BigFrame AG

/-- A list of n numbers in a block: those below q are what f says. -/
structure NumsIn (cs : Array Value) (n : Nat) (f : Nat → Nat) : Prop where
  size : cs.size = n
  at_ : ∀ p, p < n → cs[p]? = some (.int .i64 (f p : Nat))
theorem NumsIn.set_ {cs : Array Value} {n : Nat} {f f' : Nat → Nat} {p : Nat} {v : Int} (h : NumsIn cs n f) (hp : p < n) (hv : v = ((f' p : Nat) : Int)) (ho : ∀ q, q ≠ p → f' q = f q) : NumsIn (cs.setIfInBounds p (.int .i64 v)) n f' := by
  refine ⟨by simpa using h.size, fun q hq => ?_⟩
  by_cases e : q = p
  · subst e
    rw [Array.getElem?_setIfInBounds_self_of_lt (by rw [h.size]; exact hq), hv]
  · rw [Array.getElem?_setIfInBounds_ne (Ne.symm e), h.at_ q hq, ho q e]

theorem NumsIn.congr {cs : Array Value} {n : Nat} {f f' : Nat → Nat} (h : NumsIn cs n f) (e : ∀ p, f p = f' p) : NumsIn cs n f' := by
  have : f = f' := funext e
  rw [← this]
  exact h
end Go.Proofs.YtdkjnemakkppfaaDoor

/- The program's search in two automata: firstOfBoth, FirstOutside, LanguageWithin. -/
namespace Go.Proofs.YtdkjnemakkppfaaDoor
open Go.RowKit Go.BigFrame AG

theorem wrap_addN (a b : Nat) (h : a + b < 9223372036854775807) : wrap64 ((a : Int) + (b : Int)) = ((a + b : Nat) : Int) := by
  rw [← Int.natCast_add]
  exact IntWalk.wrap64_in _ ⟨by omega, by omega⟩

end Go.Proofs.YtdkjnemakkppfaaDoor

/- The program's FirstTraceOutside: its closures. -/
namespace Go.Proofs.YtdkjnemakkppfaaDoor
open Go.RowKit Go.BigFrame AG

theorem tmod_nat (a b : Nat) : Int.tmod (a : Int) (b : Int) = ((a % b : Nat) : Int) := by
  rw [Int.tmod_eq_emod_of_nonneg (by omega)]
  exact (Int.natCast_emod a b).symm
theorem tdiv_nat (a b : Nat) : Int.tdiv (a : Int) (b : Int) = ((a / b : Nat) : Int) := by
  rw [Int.tdiv_eq_ediv_of_nonneg (by omega)]
  exact (Int.natCast_ediv a b).symm

end Go.Proofs.YtdkjnemakkppfaaDoor

/- Plain: the reference's search for a first word: distances from the goals, then forward. -/
namespace Go.Proofs.YtdkjnemakkppfaaDoor
open AG

section
variable (L : List Nat) (nx : Nat → Nat → List Nat) (fd : Nat → Bool)
/-- Next to a node at a distance. -/
def nearB (f : Nat → Option Nat) (d n : Nat) : Bool := L.any fun l => (nx n l).any fun m => decide (f m = some d)
/-- The distances up to d. -/
def lay : Nat → Nat → Option Nat
  | 0, n => if fd n = true then some 0 else none
  | d + 1, n => match lay d n with
    | some e => some e
    | none => if nearB L nx (lay d) d n = true then some (d + 1) else none
end
section
variable {L : List Nat} {nx : Nat → Nat → List Nat} {fd : Nat → Bool} {N D s : Nat}
theorem near_iff {f : Nat → Option Nat} {d n : Nat} : nearB L nx f d n = true ↔ ∃ l ∈ L, ∃ m ∈ nx n l, f m = some d := by
  unfold nearB
  rw [List.any_eq_true]
  constructor
  · rintro ⟨l, hl, h⟩
    obtain ⟨m, hm, h⟩ := List.any_eq_true.1 h
    exact ⟨l, hl, m, hm, by simpa using h⟩
  · rintro ⟨l, hl, m, hm, h⟩
    exact ⟨l, hl, List.any_eq_true.2 ⟨m, hm, by simpa using h⟩⟩
theorem lay_succ (d n : Nat) : lay L nx fd (d + 1) n = match lay L nx fd d n with
    | some e => some e
    | none => if nearB L nx (lay L nx fd d) d n = true then some (d + 1) else none := rfl
theorem lay_le : ∀ {d n e : Nat}, lay L nx fd d n = some e → e ≤ d
  | 0, n, e, h => by
    unfold lay at h
    split at h
    · injection h with h; omega
    · cases h
  | d + 1, n, e, h => by
    rw [lay_succ] at h
    cases h1 : lay L nx fd d n with
    | some e' =>
      rw [h1] at h
      injection h with h
      have := lay_le h1
      omega
    | none =>
      rw [h1] at h
      dsimp only at h
      split at h
      · injection h with h; omega
      · cases h
theorem lay_up {d n e : Nat} (h : lay L nx fd d n = some e) : lay L nx fd (d + 1) n = some e := by rw [lay_succ, h]
theorem lay_mono {d n e : Nat} (h : lay L nx fd d n = some e) : ∀ k, lay L nx fd (d + k) n = some e
  | 0 => h
  | k + 1 => lay_up (lay_mono h k)
theorem lay_mono' {d d' n e : Nat} (h : lay L nx fd d n = some e) (hd : d ≤ d') : lay L nx fd d' n = some e := by
  have := lay_mono h (d' - d)
  rwa [show d + (d' - d) = d' from by omega] at this
theorem lay_at : ∀ {d n e : Nat}, lay L nx fd d n = some e → lay L nx fd e n = some e
  | 0, n, e, h => by
    have := lay_le h
    obtain rfl : e = 0 := by omega
    exact h
  | d + 1, n, e, h => by
    cases h1 : lay L nx fd d n with
    | some e' =>
      rw [lay_up h1] at h
      injection h with h
      subst h
      exact lay_at h1
    | none =>
      have h0 := h
      rw [lay_succ, h1] at h
      dsimp only at h
      split at h
      · injection h with h
        subst h
        exact h0
      · cases h
theorem lay_zero {d n : Nat} : lay L nx fd d n = some 0 ↔ fd n = true := by
  constructor
  · intro h
    have := lay_at h
    unfold lay at this
    split at this
    · assumption
    · cases this
  · intro h
    have : lay L nx fd 0 n = some 0 := by unfold lay; rw [if_pos h]
    exact lay_mono' this (Nat.zero_le _)
theorem lay_new {d n : Nat} (h : lay L nx fd d n = none) (hn : ∃ l ∈ L, ∃ m ∈ nx n l, lay L nx fd d m = some d) : lay L nx fd (d + 1) n = some (d + 1) := by
  rw [lay_succ, h]
  dsimp only
  rw [if_pos (near_iff.2 hn)]
theorem lay_step {d n e : Nat} (h : lay L nx fd d n = some (e + 1)) : ∃ l ∈ L, ∃ m ∈ nx n l, lay L nx fd d m = some e := by
  have hd := lay_le h
  have h1 := lay_at h
  cases h2 : lay L nx fd e n with
  | some e' =>
    rw [lay_up h2] at h1
    injection h1 with h1
    have := lay_le h2
    omega
  | none =>
    rw [lay_succ, h2] at h1
    dsimp only at h1
    split at h1
    · rename_i hn
      obtain ⟨l, hl, m, hm, h3⟩ := near_iff.1 hn
      exact ⟨l, hl, m, hm, lay_mono' h3 (by omega)⟩
    · cases h1
/-- The distances do not change any more. -/
def Still (L : List Nat) (nx : Nat → Nat → List Nat) (fd : Nat → Bool) (N D : Nat) : Prop := ∀ n, n < N → lay L nx fd (D + 1) n = lay L nx fd D n
theorem lay_back (hs : Still L nx fd N D) {n l m e : Nat} (hn : n < N) (hl : l ∈ L) (hm : m ∈ nx n l) (h : lay L nx fd D m = some e) : ∃ e', e' ≤ e + 1 ∧ lay L nx fd D n = some e' := by
  have he := lay_le h
  cases h2 : lay L nx fd e n with
  | some e' => exact ⟨e', by have := lay_le h2; omega, lay_mono' h2 he⟩
  | none =>
    have h3 := lay_new h2 ⟨l, hl, m, hm, lay_at h⟩
    rcases Nat.lt_or_ge e D with hlt | hge
    · exact ⟨e + 1, Nat.le_refl _, lay_mono' h3 hlt⟩
    · obtain rfl : e = D := by omega
      rw [hs n hn] at h3
      exact ⟨_, Nat.le_refl _, h3⟩
theorem RW_lt (hN : ∀ n, n < N → ∀ l ∈ L, ∀ m ∈ nx n l, m < N) (hs : s < N) : ∀ {q : List Nat} {n : Nat}, RW (fun m => m ∈ [s]) L nx q n → n < N
  | [], n, h => by
    change n ∈ [s] at h
    rw [List.mem_singleton.1 h]
    exact hs
  | l :: q, n, h => by
    obtain ⟨hl, m, hm, hn⟩ := h
    exact hN m (RW_lt hN hs hm) l hl n hn
theorem lay_from (hst : Still L nx fd N D) (hN : ∀ n, n < N → ∀ l ∈ L, ∀ m ∈ nx n l, m < N) (hs : s < N) : ∀ {q : List Nat} {n e : Nat}, RW (fun m => m ∈ [s]) L nx q n → lay L nx fd D n = some e → ∃ e', e' ≤ q.length + e ∧ lay L nx fd D s = some e'
  | [], n, e, h, h1 => by
    change n ∈ [s] at h
    rw [List.mem_singleton.1 h] at h1
    exact ⟨e, by simp, h1⟩
  | l :: q, n, e, h, h1 => by
    obtain ⟨hl, m, hm, hn⟩ := h
    obtain ⟨e1, h2, h3⟩ := lay_back hst (RW_lt hN hs hm) hl hn h1
    obtain ⟨e2, h4, h5⟩ := lay_from hst hN hs hm h3
    exact ⟨e2, by rw [List.length_cons]; omega, h5⟩
/-- The nodes at a distance to which a letter leads from some nodes. -/
def clo (L : List Nat) (nx : Nat → Nat → List Nat) (fd : Nat → Bool) (D : Nat) (at_ : List Nat) (l d : Nat) : List Nat := dd ((at_.flatMap fun n => nx n l).filter fun m => decide (lay L nx fd D m = some d))
theorem clo_mem {at_ : List Nat} {l d m : Nat} : m ∈ clo L nx fd D at_ l d ↔ ∃ n ∈ at_, m ∈ nx n l ∧ lay L nx fd D m = some d := by
  unfold clo
  rw [dd_mem, List.mem_filter, List.mem_flatMap, decide_eq_true_iff]
  constructor
  · rintro ⟨⟨n, h1, h2⟩, h3⟩
    exact ⟨n, h1, h2, h3⟩
  · rintro ⟨n, h1, h2, h3⟩
    exact ⟨⟨n, h1, h2⟩, h3⟩
theorem rlt_of_len : ∀ {r q : List Nat}, r.length < q.length → rlt r q
  | [], [], h => by simp at h
  | [], _ :: _, _ => trivial
  | _ :: _, [], h => by simp at h
  | _ :: r, _ :: q, h => .inl (rlt_of_len (by simpa using h))
/-- The state of the way forward: d letters are still to come. -/
structure Fwd (L : List Nat) (nx : Nat → Nat → List Nat) (fd : Nat → Bool) (D s D0 : Nat) (r at_ : List Nat) (d : Nat) : Prop where
  len : r.length + d = D0
  mem : ∀ n, n ∈ at_ ↔ RW (fun m => m ∈ [s]) L nx r n ∧ lay L nx fd D n = some d
  least : ∀ p n, p.length = r.length → RW (fun m => m ∈ [s]) L nx p n → lay L nx fd D n = some d → rle r p
  ne : ∃ n, n ∈ at_
theorem Fwd.start {D0 : Nat} (h : lay L nx fd D s = some D0) : Fwd L nx fd D s D0 [] [s] D0 := by
  refine ⟨by simp, fun n => ?_, fun p n hp _ _ => ?_, ⟨s, by simp⟩⟩
  · rw [List.mem_singleton]
    constructor
    · rintro rfl
      exact ⟨List.mem_singleton.2 rfl, h⟩
    · rintro ⟨h1, _⟩
      exact List.mem_singleton.1 h1
  · rw [List.eq_nil_of_length_eq_zero hp]
    exact rle_refl _
theorem Fwd.some_ {D0 d : Nat} {r at_ : List Nat} (h : Fwd L nx fd D s D0 r at_ (d + 1)) : ∃ k, ∃ (hk : k < L.length), clo L nx fd D at_ L[k] d ≠ [] := by
  obtain ⟨n, hn⟩ := h.ne
  obtain ⟨_, h2⟩ := (h.mem n).1 hn
  obtain ⟨l, hl, m, hm, h3⟩ := lay_step h2
  obtain ⟨k, hk, e⟩ := List.mem_iff_getElem.1 hl
  refine ⟨k, hk, fun h0 => ?_⟩
  have : m ∈ clo L nx fd D at_ L[k] d := clo_mem.2 ⟨n, hn, by rw [e]; exact hm, h3⟩
  rw [h0] at this
  cases this
theorem Fwd.next (hst : Still L nx fd N D) (hN : ∀ n, n < N → ∀ l ∈ L, ∀ m ∈ nx n l, m < N) (hs : s < N) (hL : L.Pairwise (· < ·)) {D0 d k : Nat} {r at_ : List Nat} (h : Fwd L nx fd D s D0 r at_ (d + 1)) (h0 : lay L nx fd D s = some D0)
    (hk : k < L.length) (hne : clo L nx fd D at_ L[k] d ≠ []) (hmin : ∀ j (hj : j < L.length), j < k → clo L nx fd D at_ L[j] d = []) : Fwd L nx fd D s D0 (L[k] :: r) (clo L nx fd D at_ L[k] d) d := by
  have hlen := h.len
  have key : ∀ {p : List Nat} {m l n : Nat}, p.length = r.length → RW (fun m => m ∈ [s]) L nx p m → l ∈ L → n ∈ nx m l → lay L nx fd D n = some d → lay L nx fd D m = some (d + 1) := by
    intro p m l n hp hm hl hn h1
    obtain ⟨e1, h2, h3⟩ := lay_back hst (RW_lt hN hs hm) hl hn h1
    obtain ⟨e2, h4, h5⟩ := lay_from hst hN hs hm h3
    rw [h0] at h5
    injection h5 with h5
    obtain rfl : e1 = d + 1 := by omega
    exact h3
  refine ⟨by rw [List.length_cons]; omega, fun n => ?_, fun p n hp hn h1 => ?_, ?_⟩
  · rw [clo_mem]
    constructor
    · rintro ⟨m, hm, h1, h2⟩
      exact ⟨⟨List.getElem_mem hk, m, ((h.mem m).1 hm).1, h1⟩, h2⟩
    · rintro ⟨⟨_, m, hm, h1⟩, h2⟩
      exact ⟨m, (h.mem m).2 ⟨hm, key rfl hm (List.getElem_mem hk) h1 h2⟩, h1, h2⟩
  · cases p with
    | nil => simp at hp
    | cons l p =>
      obtain ⟨hl, m, hm, hn⟩ := hn
      have hpl : p.length = r.length := by simpa using hp
      have hm1 := key hpl hm hl hn h1
      rcases h.least p m hpl hm hm1 with hlt | rfl
      · exact .inl (.inl hlt)
      · obtain ⟨j, hj, rfl⟩ := List.mem_iff_getElem.1 hl
        rcases Nat.lt_trichotomy j k with hjk | rfl | hjk
        · have := hmin j hj hjk
          have hmem : n ∈ clo L nx fd D at_ L[j] d := clo_mem.2 ⟨m, (h.mem m).2 ⟨hm, hm1⟩, hn, h1⟩
          rw [this] at hmem
          cases hmem
        · exact rle_refl _
        · exact .inl (.inr ⟨rfl, List.pairwise_iff_getElem.1 hL k j hk hj hjk⟩)
  · cases hc : clo L nx fd D at_ L[k] d with
    | nil => exact absurd hc hne
    | cons x xs => exact ⟨x, List.mem_cons_self⟩
theorem Fwd.done (hst : Still L nx fd N D) (hN : ∀ n, n < N → ∀ l ∈ L, ∀ m ∈ nx n l, m < N) (hs : s < N) {D0 : Nat} {r at_ : List Nat} (h : Fwd L nx fd D s D0 r at_ 0) (h0 : lay L nx fd D s = some D0) : FirstW (fun m => m ∈ [s]) L nx (fun n => fd n = true) r := by
  have hlen := h.len
  obtain ⟨n, hn⟩ := h.ne
  obtain ⟨h1, h2⟩ := (h.mem n).1 hn
  refine ⟨⟨n, h1, lay_zero.1 h2⟩, fun q m hm hf => ?_⟩
  have h3 : lay L nx fd D m = some 0 := lay_zero.2 hf
  obtain ⟨e, h4, h5⟩ := lay_from hst hN hs hm h3
  rw [h0] at h5
  injection h5 with h5
  by_cases he : q.length = r.length
  · exact h.least q m he hm h3
  · exact .inl (rlt_of_len (by omega))
end

end Go.Proofs.YtdkjnemakkppfaaDoor

/- Plain: the nodes of a product as numbers. -/
namespace Go.Proofs.YtdkjnemakkppfaaDoor
open AG

def prodL : List Nat → Nat
  | [] => 1
  | a :: l => a * prodL l
/-- The states of a node. -/
def decS : List Nat → Nat → List Nat
  | [], _ => []
  | a :: l, n => (n / prodL l % a) :: decS l n
theorem decS_len : ∀ (ss : List Nat) (n : Nat), (decS ss n).length = ss.length
  | [], _ => rfl
  | a :: l, n => by
    show (decS l n).length + 1 = l.length + 1
    rw [decS_len l n]
theorem decS_get : ∀ (ss : List Nat) (n i : Nat) (h : i < ss.length), (decS ss n)[i]'(by rw [decS_len]; exact h) = n / prodL (ss.drop (i + 1)) % ss[i]
  | a :: l, n, 0, _ => rfl
  | a :: l, n, i + 1, h => by
    exact decS_get l n i (by simpa using h)
theorem prodL_pos : ∀ {ss : List Nat}, (∀ a ∈ ss, 1 ≤ a) → 1 ≤ prodL ss
  | [], _ => Nat.le_refl _
  | a :: l, h => by
    have h1 := prodL_pos (ss := l) fun x hx => h x (List.mem_cons_of_mem _ hx)
    have h2 := h a List.mem_cons_self
    exact Nat.mul_le_mul h2 h1
theorem prodL_drop {ss : List Nat} {i : Nat} (h : i < ss.length) : prodL (ss.drop i) = ss[i] * prodL (ss.drop (i + 1)) := by
  rw [List.drop_eq_getElem_cons h]
  rfl
theorem decS_step {ss : List Nat} {n i : Nat} (h : i < ss.length) : n / prodL (ss.drop (i + 1)) / ss[i] = n / prodL (ss.drop i) := by
  rw [Nat.div_div_eq_div_mul, prodL_drop h, Nat.mul_comm]
theorem decS_lt {ss : List Nat} (hs : ∀ a ∈ ss, 1 ≤ a) (n i : Nat) (h : i < ss.length) : (decS ss n).getD i 0 < ss[i] := by
  rw [List.getD_eq_getElem?_getD, List.getElem?_eq_getElem (by rw [decS_len]; exact h), Option.getD_some, decS_get ss n i h]
  exact Nat.mod_lt _ (hs _ (List.getElem_mem h))
/-- One member more. -/
def stepN (a : Nat) (c out : List Nat) : List Nat := out.flatMap fun o => c.map fun x => o * a + x
/-- The nodes to which the choices of the first k members lead. -/
def nxK (ss : List Nat) (C : Nat → List Nat) : Nat → List Nat
  | 0 => [0]
  | k + 1 => stepN (ss.getD k 1) (C k) (nxK ss C k)
theorem stepN_mem {a : Nat} {c out : List Nat} {m : Nat} : m ∈ stepN a c out ↔ ∃ o ∈ out, ∃ x ∈ c, m = o * a + x := by
  unfold stepN
  rw [List.mem_flatMap]
  constructor
  · rintro ⟨o, ho, h⟩
    obtain ⟨x, hx, rfl⟩ := List.mem_map.1 h
    exact ⟨o, ho, x, hx, rfl⟩
  · rintro ⟨o, ho, x, hx, rfl⟩
    exact ⟨o, ho, List.mem_map_of_mem hx⟩
theorem stepN_take {a : Nat} {c out : List Nat} {k : Nat} (h : k < out.length) : stepN a c (out.take (k + 1)) = stepN a c (out.take k) ++ c.map fun x => out[k] * a + x := by
  unfold stepN
  rw [List.take_succ_eq_append_getElem h, List.flatMap_append]
  simp
theorem stepN_len (a : Nat) (c : List Nat) : ∀ out : List Nat, (stepN a c out).length = out.length * c.length
  | [] => by simp [stepN]
  | o :: out => by
    have ih := stepN_len a c out
    have e : stepN a c (o :: out) = (c.map fun x => o * a + x) ++ stepN a c out := rfl
    rw [e, List.length_append, List.length_map, ih, List.length_cons, Nat.add_mul]
    omega
/-- The product of the first k sizes. -/
def prodT (ss : List Nat) : Nat → Nat
  | 0 => 1
  | k + 1 => prodT ss k * ss.getD k 1
theorem nxK_lt {ss : List Nat} {C : Nat → List Nat} : ∀ {k : Nat}, k ≤ ss.length → (∀ i, i < ss.length → ∀ x ∈ C i, x < ss.getD i 1) → ∀ m ∈ nxK ss C k, m < prodT ss k
  | 0, _, _, m, h => by
    rw [List.mem_singleton.1 h]
    exact Nat.one_pos
  | k + 1, hk, hC, m, h => by
    obtain ⟨o, ho, x, hx, rfl⟩ := stepN_mem.1 h
    have h1 := nxK_lt (by omega) hC o ho
    have h2 := hC k (by omega) x hx
    show o * ss.getD k 1 + x < prodT ss k * ss.getD k 1
    have h3 : (o + 1) * ss.getD k 1 ≤ prodT ss k * ss.getD k 1 := Nat.mul_le_mul_right _ h1
    rw [Nat.add_mul] at h3
    omega
theorem nxK_len {ss : List Nat} {C : Nat → List Nat} {b : Nat} (hC : ∀ i, (C i).length ≤ b) : ∀ k, (nxK ss C k).length ≤ b ^ k
  | 0 => Nat.le_refl _
  | k + 1 => by
    show (stepN _ _ _).length ≤ _
    rw [stepN_len, Nat.pow_succ]
    exact Nat.mul_le_mul (nxK_len hC k) (hC k)
theorem prodT_succ (a : Nat) (l : List Nat) : ∀ k, prodT (a :: l) (k + 1) = a * prodT l k
  | 0 => by simp [prodT]
  | k + 1 => by
    rw [prodT, prodT_succ a l k, prodT, Nat.mul_assoc]
    rfl
theorem prodT_all : ∀ ss : List Nat, prodT ss ss.length = prodL ss
  | [] => rfl
  | a :: l => by
    show prodT (a :: l) (l.length + 1) = _
    rw [prodT_succ, prodT_all l]
    rfl
theorem prodT_le {ss : List Nat} {b : Nat} (hs : ∀ a ∈ ss, a ≤ b) (hb : 1 ≤ b) : ∀ k, prodT ss k ≤ b ^ k
  | 0 => Nat.le_refl _
  | k + 1 => by
    rw [prodT, Nat.pow_succ]
    refine Nat.mul_le_mul (prodT_le hs hb k) ?_
    rw [List.getD_eq_getElem?_getD]
    cases e : ss[k]? with
    | none => exact hb
    | some x => exact hs x (List.mem_of_getElem? e)
/-- The nodes to which a letter leads from a node. -/
def nxN (ss : List Nat) (ch : Nat → Nat → Nat → List Nat) (n l : Nat) : List Nat := nxK ss (fun i => ch i ((decS ss n).getD i 0) l) ss.length
end Go.Proofs.YtdkjnemakkppfaaDoor

/- Plain: the states together to which a letter leads some systems that run together. -/
namespace AG

/-- The states to which a letter leads one system. -/
noncomputable def stepQ (s : Sy) (node l : Nat) : List Nat := if HasZ s.al (l : Int) = true then memL (mv s (node % s.st.toNat) l) else [node % s.st.toNat]
def joinN (qs re : List Nat) (wt : Nat) : List Nat := qs.flatMap fun q => re.map fun r => q * wt + r
structure PSt where
  re : List Nat
  wt : Nat
  nd : Nat
noncomputable def pstep (s : Sy) (l : Nat) (x : PSt) : PSt := ⟨joinN (stepQ s x.nd l) x.re x.wt, x.wt * s.st.toNat, x.nd / s.st.toNat⟩
/-- The last k systems are gone through. -/
noncomputable def pst (ss : List Sy) (l node : Nat) : Nat → PSt
  | 0 => ⟨[0], 1, node⟩
  | k + 1 => match ss[ss.length - 1 - k]? with
    | some s => pstep s l (pst ss l node k)
    | none => pst ss l node k
noncomputable def nxParts (ss : List Sy) (node l : Nat) : List Nat := (pst ss l node ss.length).re
theorem pst_succ {ss : List Sy} {l node k i : Nat} (hk : k < ss.length) (hi : i + k + 1 = ss.length) : ∃ h : i < ss.length, pst ss l node (k + 1) = pstep ss[i] l (pst ss l node k) := by
  refine ⟨by omega, ?_⟩
  rw [pst, show ss.length - 1 - k = i from by omega, List.getElem?_eq_getElem (by omega)]

theorem stepQ_lt {s : Sy} (hs : sysOk s = true) (node l : Nat) : ∀ q ∈ stepQ s node l, q < s.st.toNat := by
  have hst := sysOk_st hs
  intro q hq
  unfold stepQ at hq
  split at hq
  · obtain ⟨_, hb⟩ := memL_mem.1 hq
    exact testBit_lt (mv_small (sysOk_in hs) _ _) hb
  · rw [List.mem_singleton.1 hq]
    exact Nat.mod_lt _ (by omega)
theorem stepQ_len {s : Sy} (node l : Nat) : (stepQ s node l).length ≤ 16 := by
  unfold stepQ
  split
  · exact memL_len _
  · simp
theorem joinN_len (qs re : List Nat) (wt : Nat) : (joinN qs re wt).length = qs.length * re.length := by
  unfold joinN
  induction qs with
  | nil => simp
  | cons q qs ih => rw [List.flatMap_cons, List.length_append, ih, List.length_map, List.length_cons, Nat.add_mul]; omega
theorem joinN_take {qs re : List Nat} {wt j : Nat} (hj : j < qs.length) : joinN (qs.take (j + 1)) re wt = joinN (qs.take j) re wt ++ re.map fun r => qs[j] * wt + r := by
  unfold joinN
  rw [List.take_succ_eq_append_getElem hj, List.flatMap_append]
  simp
theorem map_take {re : List Nat} {f : Nat → Nat} {k : Nat} (hk : k < re.length) : (re.take (k + 1)).map f = (re.take k).map f ++ [f re[k]] := by
  rw [List.take_succ_eq_append_getElem hk, List.map_append]
  rfl
/-- How great the numbers get. -/
theorem pst_ok {ss : List Sy} (hall : ss.all sysOk = true) (l node : Nat) : ∀ k, k ≤ ss.length → (pst ss l node k).wt ≤ 16 ^ k ∧ (pst ss l node k).nd ≤ node ∧ (pst ss l node k).re.length ≤ 16 ^ k ∧ ∀ r ∈ (pst ss l node k).re, r < (pst ss l node k).wt
  | 0, _ => by simp [pst]
  | k + 1, hk => by
    obtain ⟨h1, h2, h3, h4⟩ := pst_ok hall l node k (by omega)
    obtain ⟨hi, e⟩ := pst_succ (ss := ss) (l := l) (node := node) (k := k) (i := ss.length - 1 - k) (by omega) (by omega)
    have hs : sysOk ss[ss.length - 1 - k] = true := List.all_eq_true.1 hall _ (List.getElem_mem _)
    have hst := sysOk_st hs
    rw [e]
    generalize ss[ss.length - 1 - k] = s at *
    generalize pst ss l node k = x at *
    have hn : s.st.toNat ≤ 16 := by omega
    unfold pstep
    simp only
    refine ⟨?_, Nat.le_trans (Nat.div_le_self _ _) h2, ?_, ?_⟩
    · rw [Nat.pow_succ]; exact Nat.mul_le_mul h1 hn
    · rw [joinN_len, Nat.pow_succ, Nat.mul_comm]
      exact Nat.mul_le_mul h3 (stepQ_len _ _)
    · intro r hr
      unfold joinN at hr
      obtain ⟨q, hq, hr⟩ := List.mem_flatMap.1 hr
      obtain ⟨p, hp, rfl⟩ := List.mem_map.1 hr
      have hq2 := stepQ_lt hs _ _ q hq
      have hp2 := h4 p hp
      have : (q + 1) * x.wt ≤ s.st.toNat * x.wt := Nat.mul_le_mul_right _ hq2
      rw [Nat.add_mul] at this
      rw [Nat.mul_comm x.wt]
      omega

end AG

/- Plain: systems that run together: the nodes of both searches, how long first words are. -/
namespace Go.Proofs.YtdkjnemakkppfaaDoor
open AG

/- Two ways to write the steps that have the same members on the nodes below N. -/
/- How long a first word is. -/
/-- The sizes of some systems. -/
def szP (xs : List Sy) : List Nat := xs.map fun s => s.st.toNat
/-- The states to which the reference's edges lead from a state. -/
def chP1 (s : Sy) (q l : Nat) : List Nat := if Has s.al l = true then (s.es.filter fun e => e.f.toNat == q && e.l.toNat == l).map (fun e => e.t.toNat) else [q]
def chP (xs : List Sy) (i q l : Nat) : List Nat := match xs[i]? with | some s => chP1 s q l | none => []
theorem chP_at {xs : List Sy} {i : Nat} (h : i < xs.length) (q l : Nat) : chP xs i q l = chP1 xs[i] q l := by unfold chP; rw [List.getElem?_eq_getElem h]
theorem chP1_mem {s : Sy} (hs : sysOk s = true) {q l : Nat} (hq : q < s.st.toNat) (m : Nat) : m ∈ chP1 s q l ↔ m ∈ stepQ s q l := by
  unfold chP1 stepQ
  have h1 : HasZ s.al (l : Int) = Has s.al l := by unfold HasZ; simp
  rw [h1, Nat.mod_eq_of_lt hq]
  split
  · rw [memL_mem, mv_testBit, List.mem_map]
    constructor
    · rintro ⟨e, he, rfl⟩
      rw [List.mem_filter] at he
      simp only [Bool.and_eq_true, beq_iff_eq] at he
      have := sysOk_in hs e he.1
      exact ⟨by omega, by omega, e, he.1, he.2.1, he.2.2, rfl⟩
    · rintro ⟨-, -, e, he, h2, h3, h4⟩
      refine ⟨e, ?_, h4⟩
      rw [List.mem_filter]
      simp only [Bool.and_eq_true, beq_iff_eq]
      exact ⟨he, h2, h3⟩
  · rfl
theorem chP1_lt {s : Sy} (hs : sysOk s = true) {q l : Nat} (hq : q < s.st.toNat) : ∀ m ∈ chP1 s q l, m < s.st.toNat := fun m hm => stepQ_lt hs q l m ((chP1_mem hs hq m).1 hm)
theorem chP1_len {s : Sy} (hs : sysOk s = true) (q l : Nat) : (chP1 s q l).length ≤ 16 := by
  unfold chP1
  split
  · refine nodup_bound 16 _ ?_ ?_
    · have hp := (edges_pairwise hs).filter fun e => e.f.toNat == q && e.l.toNat == l
      rw [List.nodup_iff_pairwise_ne, List.pairwise_map]
      refine hp.imp_of_mem ?_
      intro a b ha hb hlt
      rw [List.mem_filter] at ha hb
      simp only [Bool.and_eq_true, beq_iff_eq] at ha hb
      have h1 := sysOk_in hs a ha.1
      have h2 := sysOk_in hs b hb.1
      have e1 : a.f = b.f := by omega
      have e2 : a.l = b.l := by omega
      unfold edgeLt at hlt
      rw [if_neg (by simpa using e1), if_neg (by simpa using e2)] at hlt
      have h3 := of_decide_eq_true hlt
      omega
    · intro x hx
      obtain ⟨e, he, rfl⟩ := List.mem_map.1 hx
      have := sysOk_in hs e (List.mem_filter.1 he).1
      omega
  · simp

/- The program's nodes, from the first system on. -/
theorem pst_cons (s : Sy) (ss : List Sy) (l node : Nat) : ∀ k, k ≤ ss.length → pst (s :: ss) l node k = pst ss l node k
  | 0, _ => rfl
  | k + 1, hk => by
    obtain ⟨h1, e1⟩ := pst_succ (ss := s :: ss) (l := l) (node := node) (k := k) (i := ss.length - k) (by simp; omega) (by simp; omega)
    obtain ⟨h2, e2⟩ := pst_succ (ss := ss) (l := l) (node := node) (k := k) (i := ss.length - 1 - k) (by omega) (by omega)
    rw [e1, e2, pst_cons s ss l node k (by omega)]
    congr 1
    rw [List.getElem_cons]
    split
    · omega
    · congr 1; omega
theorem pst_cons_last (s : Sy) (ss : List Sy) (l node : Nat) : pst (s :: ss) l node (ss.length + 1) = pstep s l (pst ss l node ss.length) := by
  obtain ⟨h1, e1⟩ := pst_succ (ss := s :: ss) (l := l) (node := node) (k := ss.length) (i := 0) (by simp) (by simp)
  rw [e1, pst_cons s ss l node _ (Nat.le_refl _)]
  rfl
theorem pst_parts : ∀ (ss : List Sy) (l node : Nat), (pst ss l node ss.length).wt = prodL (szP ss) ∧ (pst ss l node ss.length).nd = node / prodL (szP ss)
  | [], l, node => ⟨rfl, (Nat.div_one node).symm⟩
  | s :: ss, l, node => by
    obtain ⟨h1, h2⟩ := pst_parts ss l node
    show (pst (s :: ss) l node (ss.length + 1)).wt = s.st.toNat * prodL (szP ss) ∧ (pst (s :: ss) l node (ss.length + 1)).nd = node / (s.st.toNat * prodL (szP ss))
    rw [pst_cons_last]
    unfold pstep
    simp only
    rw [h1, h2]
    exact ⟨Nat.mul_comm _ _, by rw [Nat.div_div_eq_div_mul, Nat.mul_comm]⟩
theorem nxParts_cons (s : Sy) (ss : List Sy) (l node m : Nat) : m ∈ nxParts (s :: ss) node l ↔ ∃ q ∈ stepQ s (node / prodL (szP ss)) l, ∃ r ∈ nxParts ss node l, m = q * prodL (szP ss) + r := by
  unfold nxParts
  show m ∈ (pst (s :: ss) l node (ss.length + 1)).re ↔ _
  rw [pst_cons_last]
  obtain ⟨h1, h2⟩ := pst_parts ss l node
  unfold pstep joinN
  simp only
  rw [h1, h2, List.mem_flatMap]
  constructor
  · rintro ⟨q, hq, h⟩
    obtain ⟨r, hr, rfl⟩ := List.mem_map.1 h
    exact ⟨q, hq, r, hr, rfl⟩
  · rintro ⟨q, hq, r, hr, rfl⟩
    exact ⟨q, hq, List.mem_map_of_mem hr⟩

/- The reference's nodes, from the first system on. -/
theorem nxK_cons (a : Nat) (ss : List Nat) (C : Nat → List Nat) : ∀ (k m : Nat), m ∈ nxK (a :: ss) C (k + 1) ↔ ∃ q ∈ C 0, ∃ r ∈ nxK ss (fun i => C (i + 1)) k, m = q * prodT ss k + r
  | 0, m => by
    show m ∈ stepN a (C 0) [0] ↔ _
    rw [stepN_mem]
    constructor
    · rintro ⟨o, ho, x, hx, rfl⟩
      rw [List.mem_singleton.1 ho]
      exact ⟨x, hx, 0, List.mem_singleton.2 rfl, by simp [prodT]⟩
    · rintro ⟨q, hq, r, hr, rfl⟩
      rw [show r = 0 from List.mem_singleton.1 hr]
      exact ⟨0, List.mem_singleton.2 rfl, q, hq, by simp [prodT]⟩
  | k + 1, m => by
    show m ∈ stepN (ss.getD k 1) (C (k + 1)) (nxK (a :: ss) C (k + 1)) ↔ _
    rw [stepN_mem]
    constructor
    · rintro ⟨o, ho, x, hx, rfl⟩
      obtain ⟨q, hq, r, hr, rfl⟩ := (nxK_cons a ss C k o).1 ho
      refine ⟨q, hq, r * ss.getD k 1 + x, stepN_mem.2 ⟨r, hr, x, hx, rfl⟩, ?_⟩
      rw [prodT, Nat.add_mul, Nat.mul_assoc, Nat.add_assoc]
    · rintro ⟨q, hq, r', hr', rfl⟩
      obtain ⟨r, hr, x, hx, rfl⟩ := stepN_mem.1 hr'
      refine ⟨q * prodT ss k + r, (nxK_cons a ss C k _).2 ⟨q, hq, r, hr, rfl⟩, x, hx, ?_⟩
      rw [prodT, Nat.add_mul, Nat.mul_assoc, Nat.add_assoc]
theorem nxN_cons (a : Nat) (ss : List Nat) (ch : Nat → Nat → Nat → List Nat) (n l m : Nat) : m ∈ nxN (a :: ss) ch n l ↔ ∃ q ∈ ch 0 (n / prodL ss % a) l, ∃ r ∈ nxN ss (fun i => ch (i + 1)) n l, m = q * prodL ss + r := by
  unfold nxN
  show m ∈ nxK (a :: ss) _ (ss.length + 1) ↔ _
  rw [nxK_cons, prodT_all]
  rfl
/-- Both have the same nodes next to a node. -/
theorem nx_same : ∀ (xs : List Sy), xs.all sysOk = true → ∀ n l m, m ∈ nxN (szP xs) (chP xs) n l ↔ m ∈ nxParts xs n l
  | [], _, n, l, m => Iff.rfl
  | s :: ss, hall, n, l, m => by
    rw [List.all_cons, Bool.and_eq_true] at hall
    show m ∈ nxN (s.st.toNat :: szP ss) (chP (s :: ss)) n l ↔ _
    rw [nxN_cons, nxParts_cons]
    have hst := sysOk_st hall.1
    have hlt : n / prodL (szP ss) % s.st.toNat < s.st.toNat := Nat.mod_lt _ (by omega)
    have h1 : ∀ q, q ∈ chP (s :: ss) 0 (n / prodL (szP ss) % s.st.toNat) l ↔ q ∈ stepQ s (n / prodL (szP ss)) l := fun q => by
      rw [chP_at (by simp), List.getElem_cons_zero, chP1_mem hall.1 hlt]
      unfold stepQ
      rw [Nat.mod_mod]
    have h2 : ∀ r, r ∈ nxN (szP ss) (fun i => chP (s :: ss) (i + 1)) n l ↔ r ∈ nxParts ss n l := fun r => by
      rw [← nx_same ss hall.2 n l r]
      rfl
    constructor
    · rintro ⟨q, hq, r, hr, rfl⟩
      exact ⟨q, (h1 q).1 hq, r, (h2 r).1 hr, rfl⟩
    · rintro ⟨q, hq, r, hr, rfl⟩
      exact ⟨q, (h1 q).2 hq, r, (h2 r).2 hr, rfl⟩
theorem nxParts_lt {xs : List Sy} (hall : xs.all sysOk = true) (n l : Nat) : ∀ m ∈ nxParts xs n l, m < prodL (szP xs) := by
  obtain ⟨h1, h2, h3, h4⟩ := pst_ok hall l n xs.length (Nat.le_refl _)
  rw [(pst_parts xs l n).1] at h4
  exact h4
theorem szP_ok {xs : List Sy} (hall : xs.all sysOk = true) : ∀ a ∈ szP xs, 1 ≤ a ∧ a ≤ 16 := fun a ha => by
  obtain ⟨s, hs, rfl⟩ := List.mem_map.1 ha
  have := sysOk_st (List.all_eq_true.1 hall s hs)
  omega
theorem prodP_4096 {xs : List Sy} (hall : xs.all sysOk = true) (h3 : xs.length ≤ 3) : 1 ≤ prodL (szP xs) ∧ prodL (szP xs) ≤ 4096 := by
  refine ⟨prodL_pos fun a ha => (szP_ok hall a ha).1, ?_⟩
  have h1 := prodT_le (ss := szP xs) (b := 16) (fun a ha => (szP_ok hall a ha).2) (by decide) (szP xs).length
  rw [prodT_all] at h1
  have h2 : 16 ^ (szP xs).length ≤ 16 ^ 3 := Nat.pow_le_pow_right (by decide) (by unfold szP; rw [List.length_map]; exact h3)
  omega

end Go.Proofs.YtdkjnemakkppfaaDoor

/- Plain: the traces of systems that run together, and where they are stuck. -/
namespace Go.Proofs.YtdkjnemakkppfaaDoor
open AG

def flt (s : Sy) (r : List Nat) : List Nat := r.filter fun l => decide (l ∈ letters s.al)
theorem flt_cons (s : Sy) (l : Nat) (r : List Nat) : flt s (l :: r) = if l ∈ letters s.al then l :: flt s r else flt s r := by
  unfold flt
  rw [List.filter_cons]
  by_cases h : l ∈ letters s.al <;> simp [h]
/-- A node to which a word leads parts. -/
def PR : List Sy → List Nat → Nat → Prop
  | [], _, n => n = 0
  | s :: ss, r, n => ∃ q m, (setW s (flt s r)).testBit q = true ∧ PR ss r m ∧ n = q * prodL (szP ss) + m
theorem setW_bit {s : Sy} (hs : sysOk s = true) {r : List Nat} {q : Nat} (h : (setW s r).testBit q = true) : q < s.st.toNat :=
  testBit_lt (setW_small (sysOk_in hs) (sysOk_st hs).1 r) h
theorem PR_lt : ∀ {ss : List Sy}, ss.all sysOk = true → ∀ {r n}, PR ss r n → n < prodL (szP ss)
  | [], _, _, _, h => by rw [show _ = 0 from h]; exact Nat.one_pos
  | s :: ss, hall, r, n, ⟨q, m, hq, hm, e⟩ => by
    rw [List.all_cons, Bool.and_eq_true] at hall
    have h1 := PR_lt hall.2 hm
    have h2 := setW_bit hall.1 hq
    show n < s.st.toNat * prodL (szP ss)
    have h3 : (q + 1) * prodL (szP ss) ≤ s.st.toNat * prodL (szP ss) := Nat.mul_le_mul_right _ h2
    rw [Nat.add_mul] at h3
    omega
theorem nxParts_shift : ∀ (ss : List Sy) (q m l x : Nat), x ∈ nxParts ss (q * prodL (szP ss) + m) l ↔ x ∈ nxParts ss m l
  | [], q, m, l, x => Iff.rfl
  | s :: ss, q, m, l, x => by
    rw [nxParts_cons, nxParts_cons]
    by_cases h0 : prodL (szP ss) = 0
    · have e : q * prodL (szP (s :: ss)) + m = m := by
        show q * (s.st.toNat * prodL (szP ss)) + m = m
        rw [h0]; simp
      rw [e]
    · have e1 : (q * prodL (szP (s :: ss)) + m) / prodL (szP ss) = q * s.st.toNat + m / prodL (szP ss) := by
        show (q * (s.st.toNat * prodL (szP ss)) + m) / prodL (szP ss) = _
        rw [← Nat.mul_assoc, Nat.mul_comm _ (prodL (szP ss)), Nat.mul_add_div (by omega)]
      have e2 : ∀ y, y ∈ nxParts ss (q * prodL (szP (s :: ss)) + m) l ↔ y ∈ nxParts ss m l := fun y => by
        show y ∈ nxParts ss (q * (s.st.toNat * prodL (szP ss)) + m) l ↔ _
        rw [← Nat.mul_assoc]
        exact nxParts_shift ss _ m l y
      have e3 : stepQ s (q * s.st.toNat + m / prodL (szP ss)) l = stepQ s (m / prodL (szP ss)) l := by
        unfold stepQ
        rw [Nat.add_comm, Nat.mul_comm, Nat.add_mul_mod_self_left]
      rw [e1, e3]
      constructor
      · rintro ⟨a, ha, b, hb, e⟩; exact ⟨a, ha, b, (e2 b).1 hb, e⟩
      · rintro ⟨a, ha, b, hb, e⟩; exact ⟨a, ha, b, (e2 b).2 hb, e⟩
/-- One letter more, seen by one part. -/
theorem step_one {s : Sy} (hs : sysOk s = true) {l : Nat} (hl : l < 6) (r : List Nat) (t : Nat) : (setW s (flt s (l :: r))).testBit t = true ↔ ∃ q, (setW s (flt s r)).testBit q = true ∧ t ∈ stepQ s q l := by
  have hz : HasZ s.al (l : Int) = true ↔ l ∈ letters s.al := by
    rw [letters_ok]
    unfold HasZ
    simp [hl]
  rw [flt_cons]
  by_cases h : l ∈ letters s.al
  · rw [if_pos h]
    show (stepSet s (setW s (flt s r)) (l : Int)).testBit t = true ↔ _
    rw [← unionOf_mv s (sysOk_in hs), unionOf_testBit]
    constructor
    · rintro ⟨h1, q, h2, h3⟩
      refine ⟨q, h2, ?_⟩
      unfold stepQ
      rw [if_pos (hz.2 h), Nat.mod_eq_of_lt (setW_bit hs h2), memL_mem]
      exact ⟨h1, h3⟩
    · rintro ⟨q, h2, h3⟩
      unfold stepQ at h3
      rw [if_pos (hz.2 h), Nat.mod_eq_of_lt (setW_bit hs h2), memL_mem] at h3
      exact ⟨h3.1, q, h2, h3.2⟩
  · rw [if_neg h]
    constructor
    · intro h1
      refine ⟨t, h1, ?_⟩
      unfold stepQ
      rw [if_neg (fun k => h (hz.1 k)), Nat.mod_eq_of_lt (setW_bit hs h1), List.mem_singleton]
    · rintro ⟨q, h2, h3⟩
      unfold stepQ at h3
      rw [if_neg (fun k => h (hz.1 k)), Nat.mod_eq_of_lt (setW_bit hs h2), List.mem_singleton] at h3
      rw [h3]
      exact h2
theorem PR_nil : ∀ {ss : List Sy}, ss.all sysOk = true → ∀ n, PR ss [] n ↔ n = 0
  | [], _, n => Iff.rfl
  | s :: ss, hall, n => by
    rw [List.all_cons, Bool.and_eq_true] at hall
    show (∃ q m, (1 : Nat).testBit q = true ∧ PR ss [] m ∧ n = q * prodL (szP ss) + m) ↔ n = 0
    have hb : ∀ q, (1 : Nat).testBit q = true ↔ q = 0 := fun q => by
      have := Nat.testBit_two_pow (n := 0) (m := q)
      rw [show (1 : Nat) = 2 ^ 0 from rfl, this, decide_eq_true_iff]
      omega
    constructor
    · rintro ⟨q, m, h1, h2, e⟩
      rw [(hb q).1 h1, (PR_nil hall.2 m).1 h2] at e
      simpa using e
    · rintro rfl
      exact ⟨0, 0, (hb 0).2 rfl, (PR_nil hall.2 0).2 rfl, by simp⟩
theorem PR_cons : ∀ {ss : List Sy}, ss.all sysOk = true → ∀ {l : Nat}, l < 6 → ∀ (r : List Nat) (n : Nat), PR ss (l :: r) n ↔ ∃ m, PR ss r m ∧ n ∈ nxParts ss m l
  | [], _, l, _, r, n => by
    show n = 0 ↔ ∃ m, m = 0 ∧ n ∈ [0]
    simp
  | s :: ss, hall, l, hl, r, n => by
    rw [List.all_cons, Bool.and_eq_true] at hall
    have hp : 0 < prodL (szP ss) := prodL_pos fun a ha => (szP_ok hall.2 a ha).1
    have hdiv : ∀ q m, m < prodL (szP ss) → (q * prodL (szP ss) + m) / prodL (szP ss) = q := fun q m hm => by
      rw [Nat.mul_comm, Nat.mul_add_div hp, Nat.div_eq_of_lt hm, Nat.add_zero]
    constructor
    · rintro ⟨t, n', h1, h2, rfl⟩
      obtain ⟨q, h3, h4⟩ := (step_one hall.1 hl r t).1 h1
      obtain ⟨m, h5, h6⟩ := (PR_cons hall.2 hl r n').1 h2
      refine ⟨q * prodL (szP ss) + m, ⟨q, m, h3, h5, rfl⟩, ?_⟩
      rw [nxParts_cons, hdiv q m (PR_lt hall.2 h5)]
      exact ⟨t, h4, n', (nxParts_shift ss q m l n').2 h6, rfl⟩
    · rintro ⟨_, ⟨q, m, h3, h5, rfl⟩, hn⟩
      rw [nxParts_cons, hdiv q m (PR_lt hall.2 h5)] at hn
      obtain ⟨t, h4, n', h6, rfl⟩ := hn
      exact ⟨t, n', (step_one hall.1 hl r t).2 ⟨q, h3, h4⟩, (PR_cons hall.2 hl r n').2 ⟨m, h5, (nxParts_shift ss q m l n').1 h6⟩, rfl⟩
theorem RW_PR {ss : List Sy} (hall : ss.all sysOk = true) : ∀ (r : List Nat) (n : Nat), RW (fun m => m ∈ [0]) (letters (allAl ss)) (nxParts ss) r n ↔ (∀ l ∈ r, l ∈ letters (allAl ss)) ∧ PR ss r n
  | [], n => by
    show n ∈ [0] ↔ _
    rw [PR_nil hall, List.mem_singleton]
    exact ⟨fun h => ⟨fun l hl => (by cases hl), h⟩, fun h => h.2⟩
  | l :: r, n => by
    show (l ∈ letters (allAl ss) ∧ ∃ m, RW _ _ _ r m ∧ n ∈ nxParts ss m l) ↔ _
    constructor
    · rintro ⟨h1, m, h2, h3⟩
      obtain ⟨h4, h5⟩ := (RW_PR hall r m).1 h2
      refine ⟨fun x hx => ?_, (PR_cons hall (letters_lt h1).1 r n).2 ⟨m, h5, h3⟩⟩
      rcases List.mem_cons.1 hx with rfl | hx
      · exact h1
      · exact h4 x hx
    · rintro ⟨h1, h2⟩
      have hl := h1 l List.mem_cons_self
      obtain ⟨m, h3, h4⟩ := (PR_cons hall (letters_lt hl).1 r n).1 h2
      exact ⟨hl, m, (RW_PR hall r m).2 ⟨fun x hx => h1 x (List.mem_cons_of_mem _ hx), h3⟩, h4⟩
end Go.Proofs.YtdkjnemakkppfaaDoor

/- Plain: the system of two systems that run together. -/
namespace Go.Proofs.YtdkjnemakkppfaaDoor
open AG

/-- A node that a word reaches. -/
def Rn (ss : List Sy) (n : Nat) : Prop := ∃ r, RW (fun m => m ∈ [0]) (letters (allAl ss)) (nxParts ss) r n
theorem Rn.zero (ss : List Sy) : Rn ss 0 := ⟨[], List.mem_singleton.2 rfl⟩
theorem Rn.step {ss : List Sy} {n l m : Nat} (h : Rn ss n) (hl : l ∈ letters (allAl ss)) (hm : m ∈ nxParts ss n l) : Rn ss m := by
  obtain ⟨r, hr⟩ := h
  exact ⟨l :: r, hl, n, hr, hm⟩
theorem Rn.lt {ss : List Sy} (hall : ss.all sysOk = true) {n : Nat} (h : Rn ss n) : n < prodL (szP ss) := by
  obtain ⟨r, hr⟩ := h
  exact PR_lt hall ((RW_PR hall r n).1 hr).2
open Classical in
/-- The reached nodes in their order. -/
noncomputable def rnL (ss : List Sy) : List Nat := (List.range (prodL (szP ss))).filter fun n => decide (Rn ss n)
open Classical in
/-- How many of the first n nodes are reached. -/
noncomputable def rkN (ss : List Sy) (n : Nat) : Nat := ((List.range n).filter fun m => decide (Rn ss m)).length
open Classical in
theorem rnL_mem {ss : List Sy} (hall : ss.all sysOk = true) {n : Nat} : n ∈ rnL ss ↔ Rn ss n := by
  unfold rnL
  rw [List.mem_filter, List.mem_range, decide_eq_true_iff]
  exact ⟨fun h => h.2, fun h => ⟨h.lt hall, h⟩⟩
theorem rnL_sorted (ss : List Sy) : (rnL ss).Pairwise (· < ·) := List.Pairwise.filter _ List.pairwise_lt_range
open Classical in
theorem rkN_succ (ss : List Sy) (n : Nat) : (Rn ss n → rkN ss (n + 1) = rkN ss n + 1) ∧ (¬ Rn ss n → rkN ss (n + 1) = rkN ss n) := by
  unfold rkN
  rw [List.range_succ, List.filter_append, List.length_append]
  constructor
  · intro h
    simp [h]
  · intro h
    simp [h]
theorem rkN_all (ss : List Sy) : rkN ss (prodL (szP ss)) = (rnL ss).length := rfl
theorem rkN_mono (ss : List Sy) : ∀ {a b : Nat}, a ≤ b → rkN ss a ≤ rkN ss b := by
  intro a b h
  obtain ⟨k, rfl⟩ := Nat.exists_eq_add_of_le h
  clear h
  induction k with
  | zero => exact Nat.le_refl _
  | succ k ih =>
    by_cases hr : Rn ss (a + k)
    · have := (rkN_succ ss (a + k)).1 hr
      rw [← Nat.add_assoc]; omega
    · have := (rkN_succ ss (a + k)).2 hr
      rw [← Nat.add_assoc]; omega
theorem rkN_lt {ss : List Sy} {a b : Nat} (ha : Rn ss a) (h : a < b) : rkN ss a < rkN ss b := by
  have h1 := (rkN_succ ss a).1 ha
  have h2 := rkN_mono ss (show a + 1 ≤ b from h)
  omega
open Classical in
theorem filter_below : ∀ (N k : Nat) (p : Nat → Bool), k ≤ N → ((List.range N).filter p).filter (fun m => decide (m < k)) = (List.range k).filter p := by
  intro N k p hk
  rw [List.filter_filter]
  obtain ⟨d, rfl⟩ := Nat.exists_eq_add_of_le hk
  clear hk
  induction d with
  | zero =>
    refine List.filter_congr fun x hx => ?_
    rw [Nat.add_zero, List.mem_range] at hx
    simp [hx]
  | succ d ih =>
    rw [← Nat.add_assoc, List.range_succ, List.filter_append, ih]
    have : ¬ (k + d < k) := by omega
    simp [this]
/-- The node of a number. -/
theorem rnL_get {ss : List Sy} (hall : ss.all sysOk = true) {i : Nat} (hi : i < (rnL ss).length) : rkN ss (rnL ss)[i] = i := by
  have hs := rnL_sorted ss
  have hm : (rnL ss)[i] ∈ rnL ss := List.getElem_mem hi
  have hlt := ((rnL_mem hall).1 hm).lt hall
  unfold rkN
  rw [← filter_below (prodL (szP ss)) _ _ (Nat.le_of_lt hlt)]
  show ((rnL ss).filter fun m => decide (m < (rnL ss)[i])).length = i
  have : ((rnL ss).filter fun m => decide (m < (rnL ss)[i])) = (rnL ss).take i := by
    generalize rnL ss = l at *
    generalize hx : l[i] = x at *
    have e : l = l.take i ++ l.drop i := (List.take_append_drop i l).symm
    have h1 : (l.take i).filter (fun m => decide (m < x)) = l.take i := by
      rw [List.filter_eq_self]
      intro a ha
      obtain ⟨j, hj, rfl⟩ := List.getElem_of_mem ha
      rw [List.length_take] at hj
      rw [List.getElem_take, ← hx]
      exact decide_eq_true (List.pairwise_iff_getElem.1 hs j i (by omega) hi (by omega))
    have h2 : (l.drop i).filter (fun m => decide (m < x)) = [] := by
      rw [List.filter_eq_nil_iff]
      intro a ha
      obtain ⟨j, hj, rfl⟩ := List.getElem_of_mem ha
      rw [List.length_drop] at hj
      rw [List.getElem_drop]
      rw [← hx]
      simp only [decide_eq_true_eq]
      by_cases h0 : j = 0
      · subst h0; simp
      · have := List.pairwise_iff_getElem.1 hs i (i + j) hi (by omega) (by omega)
        omega
    conv => lhs; rw [e]
    rw [List.filter_append, h1, h2, List.append_nil]
  rw [this, List.length_take]
  omega

/-- The nodes next to a node lie in order. -/
theorem stepQ_sorted (s : Sy) (q l : Nat) : (stepQ s q l).Pairwise (· < ·) := by
  unfold stepQ
  split
  · exact memL_sorted _
  · simp
theorem nxParts_cons_eq (s : Sy) (ss : List Sy) (l node : Nat) : nxParts (s :: ss) node l = (stepQ s (node / prodL (szP ss)) l).flatMap fun q => (nxParts ss node l).map fun r => q * prodL (szP ss) + r := by
  unfold nxParts
  show (pst (s :: ss) l node (ss.length + 1)).re = _
  rw [pst_cons_last]
  obtain ⟨h1, h2⟩ := pst_parts ss l node
  unfold pstep joinN
  simp only
  rw [h1, h2]
theorem flat_sorted {P : Nat} {re : List Nat} (hre : re.Pairwise (· < ·)) (hlt : ∀ r ∈ re, r < P) : ∀ {qs : List Nat}, qs.Pairwise (· < ·) → (qs.flatMap fun q => re.map fun r => q * P + r).Pairwise (· < ·)
  | [], _ => List.Pairwise.nil
  | q :: qs, h => by
    rw [List.flatMap_cons, List.pairwise_append]
    rw [List.pairwise_cons] at h
    refine ⟨?_, flat_sorted hre hlt h.2, ?_⟩
    · rw [List.pairwise_map]
      exact hre.imp fun h => by omega
    · intro a ha b hb
      obtain ⟨r, hr, rfl⟩ := List.mem_map.1 ha
      obtain ⟨q', hq', hb⟩ := List.mem_flatMap.1 hb
      obtain ⟨r', hr', rfl⟩ := List.mem_map.1 hb
      have h1 := h.1 q' hq'
      have h2 := hlt r hr
      have h3 : (q + 1) * P ≤ q' * P := Nat.mul_le_mul_right _ h1
      rw [Nat.add_mul] at h3
      omega
theorem nxParts_sorted : ∀ {ss : List Sy}, ss.all sysOk = true → ∀ n l, (nxParts ss n l).Pairwise (· < ·)
  | [], _, n, l => by show [0].Pairwise (· < ·); simp
  | s :: ss, hall, n, l => by
    rw [List.all_cons, Bool.and_eq_true] at hall
    rw [nxParts_cons_eq]
    exact flat_sorted (nxParts_sorted hall.2 n l) (nxParts_lt hall.2 n l) (stepQ_sorted _ _ _)
theorem sorted_ext : ∀ {a b : List Nat}, a.Pairwise (· < ·) → b.Pairwise (· < ·) → (∀ x, x ∈ a ↔ x ∈ b) → a = b
  | [], [], _, _, _ => rfl
  | [], y :: b, _, _, h => absurd ((h y).2 List.mem_cons_self) (by simp)
  | x :: a, [], _, _, h => absurd ((h x).1 List.mem_cons_self) (by simp)
  | x :: a, y :: b, ha, hb, h => by
    rw [List.pairwise_cons] at ha hb
    have e : x = y := by
      have h1 := (h x).1 List.mem_cons_self
      have h2 := (h y).2 List.mem_cons_self
      rcases List.mem_cons.1 h1 with h1 | h1
      · exact h1
      · rcases List.mem_cons.1 h2 with h2 | h2
        · exact h2.symm
        · have := ha.1 y h2
          have := hb.1 x h1
          omega
    subst e
    rw [sorted_ext ha.2 hb.2 fun z => ?_]
    constructor
    · intro hz
      rcases List.mem_cons.1 ((h z).1 (List.mem_cons_of_mem _ hz)) with rfl | hz'
      · exact absurd (ha.1 _ hz) (Nat.lt_irrefl _)
      · exact hz'
    · intro hz
      rcases List.mem_cons.1 ((h z).2 (List.mem_cons_of_mem _ hz)) with rfl | hz'
      · exact absurd (hb.1 _ hz) (Nat.lt_irrefl _)
      · exact hz'
theorem chP1_sorted {s : Sy} (hs : sysOk s = true) (q l : Nat) : (chP1 s q l).Pairwise (· < ·) := by
  unfold chP1
  split
  · have hp := (edges_pairwise hs).filter fun e => e.f.toNat == q && e.l.toNat == l
    rw [List.pairwise_map]
    refine hp.imp_of_mem ?_
    intro a b ha hb hlt
    rw [List.mem_filter] at ha hb
    simp only [Bool.and_eq_true, beq_iff_eq] at ha hb
    have h1 := sysOk_in hs a ha.1
    have h2 := sysOk_in hs b hb.1
    have e1 : a.f = b.f := by omega
    have e2 : a.l = b.l := by omega
    unfold edgeLt at hlt
    rw [if_neg (by simpa using e1), if_neg (by simpa using e2)] at hlt
    have h3 := of_decide_eq_true hlt
    omega
  · simp
theorem stepN_sorted {a : Nat} {c out : List Nat} (hc : c.Pairwise (· < ·)) (hlt : ∀ x ∈ c, x < a) (ho : out.Pairwise (· < ·)) : (stepN a c out).Pairwise (· < ·) := flat_sorted hc hlt ho
theorem nxK_sorted {ss : List Nat} {C : Nat → List Nat} (hC : ∀ i, i < ss.length → (C i).Pairwise (· < ·) ∧ ∀ x ∈ C i, x < ss.getD i 1) : ∀ k, k ≤ ss.length → (nxK ss C k).Pairwise (· < ·)
  | 0, _ => by show [0].Pairwise (· < ·); simp
  | k + 1, hk => stepN_sorted (hC k (by omega)).1 (hC k (by omega)).2 (nxK_sorted hC k (by omega))
/-- Both lay the nodes next to a node in one order. -/
theorem nx_eq {xs : List Sy} (hall : xs.all sysOk = true) (n l : Nat) : nxN (szP xs) (chP xs) n l = nxParts xs n l := by
  refine sorted_ext ?_ (nxParts_sorted hall n l) fun m => nx_same xs hall n l m
  unfold nxN
  refine nxK_sorted (fun i hi => ?_) _ (Nat.le_refl _)
  have hi' : i < xs.length := by unfold szP at hi; rwa [List.length_map] at hi
  have hs := List.all_eq_true.1 hall _ (List.getElem_mem hi')
  rw [chP_at hi']
  refine ⟨chP1_sorted hs _ _, fun x hx => ?_⟩
  have hd := decS_lt (ss := szP xs) (fun a ha => (szP_ok hall a ha).1) n i hi
  have e : (szP xs)[i] = xs[i].st.toNat := by simp [szP]
  rw [e] at hd
  have := chP1_lt hs hd x hx
  rw [List.getD_eq_getElem?_getD, List.getElem?_eq_getElem hi, Option.getD_some, e]
  exact this

/-- The edges of the composition that leave a node. -/
noncomputable def cmRow (ss : List Sy) (n : Nat) : List Ed := (letters (allAl ss)).flatMap fun l => (nxParts ss n l).map fun m => ⟨(rkN ss n : Int), (l : Int), (rkN ss m : Int)⟩
noncomputable def cmEs (ss : List Sy) : List Ed := (rnL ss).flatMap fun n => cmRow ss n
noncomputable def cmSy (ss : List Sy) : Sy := ⟨allAl ss, ((rnL ss).length : Nat), cmEs ss⟩
/-- Two systems can be composed. -/
noncomputable def cmOk (s t : Sy) : Bool := sysOk s && (sysOk t && decide ((rnL [s, t]).length ≤ 16))
noncomputable def cmX (s t : Sy) : Sy := if cmOk s t = true then cmSy [s, t] else ⟨0, 0, []⟩

/-- A search for the reached nodes under way: all up to the i-th are gone through. -/
structure RnB (ss : List Sy) (ps : List Nat) (i : Nat) : Prop where
  nodup : ps.Nodup
  zero : 0 ∈ ps
  sound : ∀ p ∈ ps, Rn ss p
  done : ∀ j (h : j < ps.length), j < i → ∀ l ∈ letters (allAl ss), ∀ m ∈ nxParts ss ps[j] l, m ∈ ps
theorem RnB.all {ss : List Sy} {ps : List Nat} (h : RnB ss ps ps.length) (n : Nat) : n ∈ ps ↔ Rn ss n := by
  constructor
  · exact h.sound n
  · rintro ⟨r, hr⟩
    induction r generalizing n with
    | nil => rw [List.mem_singleton.1 hr]; exact h.zero
    | cons l r ih =>
      obtain ⟨hl, m, hm, hn⟩ := hr
      obtain ⟨j, hj, rfl⟩ := List.getElem_of_mem (ih m hm)
      exact h.done j hj hj l hl n hn
theorem RnB.perm {ss : List Sy} (hall : ss.all sysOk = true) {ps : List Nat} (h : RnB ss ps ps.length) : ps.Perm (rnL ss) := by
  refine (List.perm_ext_iff_of_nodup h.nodup ?_).2 fun n => ?_
  · exact (rnL_sorted ss).imp fun h => Nat.ne_of_lt h
  · rw [h.all, rnL_mem hall]
theorem RnB.many {ss : List Sy} (hall : ss.all sysOk = true) {ps : List Nat} {i : Nat} (h : RnB ss ps i) : ps.length ≤ (rnL ss).length := by
  have : ∀ (l m : List Nat), l.Nodup → (∀ x ∈ l, x ∈ m) → l.length ≤ m.length := by
    intro l
    induction l with
    | nil => intro m _ _; exact Nat.zero_le _
    | cons a l ih =>
      intro m hd hs
      rw [List.nodup_cons] at hd
      have ha := hs a List.mem_cons_self
      have h1 := ih (m.erase a) hd.2 fun x hx => by
        refine (List.mem_erase_of_ne ?_).2 (hs x (List.mem_cons_of_mem _ hx))
        rintro rfl
        exact hd.1 hx
      rw [List.length_erase_of_mem ha] at h1
      have := List.length_pos_of_mem ha
      rw [List.length_cons]
      omega
  exact this ps _ h.nodup fun x hx => (rnL_mem hall).2 (h.sound x hx)

end Go.Proofs.YtdkjnemakkppfaaDoor

/- Plain: what systems composed do. -/
namespace Go.Proofs.YtdkjnemakkppfaaDoor
open AG

theorem edgeLt_f {a b : Ed} (h : a.f < b.f) : edgeLt a b = true := by unfold edgeLt; rw [if_pos (by omega)]; exact decide_eq_true h
theorem edgeLt_l {a b : Ed} (h0 : a.f = b.f) (h : a.l < b.l) : edgeLt a b = true := by unfold edgeLt; rw [if_neg (by simpa using h0), if_pos (by omega)]; exact decide_eq_true h
theorem edgeLt_t {a b : Ed} (h0 : a.f = b.f) (h1 : a.l = b.l) (h : a.t < b.t) : edgeLt a b = true := by unfold edgeLt; rw [if_neg (by simpa using h0), if_neg (by simpa using h1)]; exact decide_eq_true h
theorem edgeLt_asymm {a b : Ed} (h : edgeLt a b = true) (h' : edgeLt b a = true) : False := by
  unfold edgeLt at h h'
  by_cases e1 : a.f = b.f
  · rw [if_neg (by simpa using e1)] at h
    rw [if_neg (by simpa using e1.symm)] at h'
    by_cases e2 : a.l = b.l
    · rw [if_neg (by simpa using e2)] at h
      rw [if_neg (by simpa using e2.symm)] at h'
      have := of_decide_eq_true h
      have := of_decide_eq_true h'
      omega
    · rw [if_pos e2] at h
      rw [if_pos (fun h => e2 h.symm)] at h'
      have := of_decide_eq_true h
      have := of_decide_eq_true h'
      omega
  · rw [if_pos e1] at h
    rw [if_pos (fun h => e1 h.symm)] at h'
    have := of_decide_eq_true h
    have := of_decide_eq_true h'
    omega
section
variable {ss : List Sy}
theorem cmEs_sorted (hall : ss.all sysOk = true) : (cmEs ss).Pairwise fun a b => edgeLt a b = true := by
  unfold cmEs
  rw [List.pairwise_flatMap]
  refine ⟨fun n hn => ?_, (rnL_sorted ss).imp_of_mem fun {a b} ha hb hab x hx y hy => ?_⟩
  · have hn := (rnL_mem hall).1 hn
    unfold cmRow
    rw [List.pairwise_flatMap]
    refine ⟨fun l hl => ?_, (letters_sorted _).imp fun {a b} hab x hx y hy => ?_⟩
    · rw [List.pairwise_map]
      refine (nxParts_sorted hall n l).imp_of_mem fun {a b} ha hb hab => edgeLt_t rfl rfl ?_
      exact Int.ofNat_lt.2 (rkN_lt (hn.step hl ha) hab)
    · obtain ⟨p, -, rfl⟩ := List.mem_map.1 hx
      obtain ⟨q, -, rfl⟩ := List.mem_map.1 hy
      exact edgeLt_l rfl (Int.ofNat_lt.2 hab)
  · unfold cmRow at hx hy
    obtain ⟨l, -, hx⟩ := List.mem_flatMap.1 hx
    obtain ⟨p, -, rfl⟩ := List.mem_map.1 hx
    obtain ⟨l', -, hy⟩ := List.mem_flatMap.1 hy
    obtain ⟨q, -, rfl⟩ := List.mem_map.1 hy
    exact edgeLt_f (Int.ofNat_lt.2 (rkN_lt ((rnL_mem hall).1 ha) hab))
end

end Go.Proofs.YtdkjnemakkppfaaDoor

/- Plain: compositions of trimmed systems, with neutral systems, turned around, deterministic, and where they are stuck. -/
namespace Go.Proofs.YtdkjnemakkppfaaDoor
open AG

theorem all_two {s t : Sy} (hs : sysOk s = true) (ht : sysOk t = true) : ([s, t] : List Sy).all sysOk = true := by rw [List.all_cons, List.all_cons, hs, ht]; rfl
theorem rnL_le (ss : List Sy) : (rnL ss).length ≤ prodL (szP ss) := by
  unfold rnL
  exact Nat.le_trans (List.length_filter_le _ _) (by rw [List.length_range]; exact Nat.le_refl _)
end Go.Proofs.YtdkjnemakkppfaaDoor
