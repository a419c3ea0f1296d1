/- Lemmas, part 5: several texts in one. -/
import Derived.Test.YtdkjnemakkppfaaDoorX4
import Derived.Test.YtdkjnemakkppfaaDoorX1
import Derived.Test.YtdkjnemakkppfaaDoorX3
set_option linter.unusedSimpArgs false
set_option linter.unusedVariables false

/- The program's FirstTraceOutside. -/
namespace Go.Proofs.YtdkjnemakkppfaaDoor
open Go.RowKit Go.BigFrame AG

theorem setFar_cell (w : World) (p : Addr) (v : Value) {q : Addr} (h : q.block ≠ p.block) : (w.setCell p v).cell? q = w.cell? q := World.cell?_of_block (w := w) (Below.heap_setCell _ _ _ _ h)
theorem MvAt.far {w : World} {B g : Nat} {m : Nat → Nat → Nat} (h : MvAt w B g m) (p : Addr) (v : Value) (hp : g ≠ p.block) : MvAt (w.setCell p v) B g m := ⟨h.1, fun q l h1 h2 => by rw [setFar_cell _ _ _ hp]; exact h.2 q l h1 h2⟩

end Go.Proofs.YtdkjnemakkppfaaDoor

/- The program's search in two automata: firstOfBoth. -/
namespace Go.Proofs.YtdkjnemakkppfaaDoor
open Go.RowKit Go.BigFrame AG

theorem TabA.far {w : World} {g n : Nat} {a : Au} (h : TabA w g n a) (p : Addr) (v : Value) (hne : g ≠ p.block) : TabA (w.setCell p v) g n a :=
  ⟨by simpa using h.1, fun q l h1 h2 => by rw [setFar_cell _ _ _ (by simpa using hne)]; exact h.2 q l h1 h2⟩
end Go.Proofs.YtdkjnemakkppfaaDoor

/- Plain: the reference's search for a first word: distances from the goals, then forward. -/
namespace Go.Proofs.YtdkjnemakkppfaaDoor
open AG

section
variable (L : List Nat) (nx : Nat → Nat → List Nat) (fd : Nat → Bool)
/-- Next to a node at a distance. -/
def nearB (f : Nat → Option Nat) (d n : Nat) : Bool := L.any fun l => (nx n l).any fun m => decide (f m = some d)
/-- The distances up to d. -/
def lay : Nat → Nat → Option Nat
  | 0, n => if fd n = true then some 0 else none
  | d + 1, n => match lay d n with
    | some e => some e
    | none => if nearB L nx (lay d) d n = true then some (d + 1) else none
end
section
variable {L : List Nat} {nx : Nat → Nat → List Nat} {fd : Nat → Bool} {N D s : Nat}
theorem near_iff {f : Nat → Option Nat} {d n : Nat} : nearB L nx f d n = true ↔ ∃ l ∈ L, ∃ m ∈ nx n l, f m = some d := by
  unfold nearB
  rw [List.any_eq_true]
  constructor
  · rintro ⟨l, hl, h⟩
    obtain ⟨m, hm, h⟩ := List.any_eq_true.1 h
    exact ⟨l, hl, m, hm, by simpa using h⟩
  · rintro ⟨l, hl, m, hm, h⟩
    exact ⟨l, hl, List.any_eq_true.2 ⟨m, hm, by simpa using h⟩⟩
theorem lay_succ (d n : Nat) : lay L nx fd (d + 1) n = match lay L nx fd d n with
    | some e => some e
    | none => if nearB L nx (lay L nx fd d) d n = true then some (d + 1) else none := rfl
theorem lay_le : ∀ {d n e : Nat}, lay L nx fd d n = some e → e ≤ d
  | 0, n, e, h => by
    unfold lay at h
    split at h
    · injection h with h; omega
    · cases h
  | d + 1, n, e, h => by
    rw [lay_succ] at h
    cases h1 : lay L nx fd d n with
    | some e' =>
      rw [h1] at h
      injection h with h
      have := lay_le h1
      omega
    | none =>
      rw [h1] at h
      dsimp only at h
      split at h
      · injection h with h; omega
      · cases h
theorem lay_up {d n e : Nat} (h : lay L nx fd d n = some e) : lay L nx fd (d + 1) n = some e := by rw [lay_succ, h]
theorem lay_mono {d n e : Nat} (h : lay L nx fd d n = some e) : ∀ k, lay L nx fd (d + k) n = some e
  | 0 => h
  | k + 1 => lay_up (lay_mono h k)
theorem lay_mono' {d d' n e : Nat} (h : lay L nx fd d n = some e) (hd : d ≤ d') : lay L nx fd d' n = some e := by
  have := lay_mono h (d' - d)
  rwa [show d + (d' - d) = d' from by omega] at this
theorem lay_at : ∀ {d n e : Nat}, lay L nx fd d n = some e → lay L nx fd e n = some e
  | 0, n, e, h => by
    have := lay_le h
    obtain rfl : e = 0 := by omega
    exact h
  | d + 1, n, e, h => by
    cases h1 : lay L nx fd d n with
    | some e' =>
      rw [lay_up h1] at h
      injection h with h
      subst h
      exact lay_at h1
    | none =>
      have h0 := h
      rw [lay_succ, h1] at h
      dsimp only at h
      split at h
      · injection h with h
        subst h
        exact h0
      · cases h
theorem lay_zero {d n : Nat} : lay L nx fd d n = some 0 ↔ fd n = true := by
  constructor
  · intro h
    have := lay_at h
    unfold lay at this
    split at this
    · assumption
    · cases this
  · intro h
    have : lay L nx fd 0 n = some 0 := by unfold lay; rw [if_pos h]
    exact lay_mono' this (Nat.zero_le _)
theorem lay_new {d n : Nat} (h : lay L nx fd d n = none) (hn : ∃ l ∈ L, ∃ m ∈ nx n l, lay L nx fd d m = some d) : lay L nx fd (d + 1) n = some (d + 1) := by
  rw [lay_succ, h]
  dsimp only
  rw [if_pos (near_iff.2 hn)]
theorem lay_step {d n e : Nat} (h : lay L nx fd d n = some (e + 1)) : ∃ l ∈ L, ∃ m ∈ nx n l, lay L nx fd d m = some e := by
  have hd := lay_le h
  have h1 := lay_at h
  cases h2 : lay L nx fd e n with
  | some e' =>
    rw [lay_up h2] at h1
    injection h1 with h1
    have := lay_le h2
    omega
  | none =>
    rw [lay_succ, h2] at h1
    dsimp only at h1
    split at h1
    · rename_i hn
      obtain ⟨l, hl, m, hm, h3⟩ := near_iff.1 hn
      exact ⟨l, hl, m, hm, lay_mono' h3 (by omega)⟩
    · cases h1
/-- The distances do not change any more. -/
def Still (L : List Nat) (nx : Nat → Nat → List Nat) (fd : Nat → Bool) (N D : Nat) : Prop := ∀ n, n < N → lay L nx fd (D + 1) n = lay L nx fd D n
theorem lay_back (hs : Still L nx fd N D) {n l m e : Nat} (hn : n < N) (hl : l ∈ L) (hm : m ∈ nx n l) (h : lay L nx fd D m = some e) : ∃ e', e' ≤ e + 1 ∧ lay L nx fd D n = some e' := by
  have he := lay_le h
  cases h2 : lay L nx fd e n with
  | some e' => exact ⟨e', by have := lay_le h2; omega, lay_mono' h2 he⟩
  | none =>
    have h3 := lay_new h2 ⟨l, hl, m, hm, lay_at h⟩
    rcases Nat.lt_or_ge e D with hlt | hge
    · exact ⟨e + 1, Nat.le_refl _, lay_mono' h3 hlt⟩
    · obtain rfl : e = D := by omega
      rw [hs n hn] at h3
      exact ⟨_, Nat.le_refl _, h3⟩
theorem RW_lt (hN : ∀ n, n < N → ∀ l ∈ L, ∀ m ∈ nx n l, m < N) (hs : s < N) : ∀ {q : List Nat} {n : Nat}, RW (fun m => m ∈ [s]) L nx q n → n < N
  | [], n, h => by
    change n ∈ [s] at h
    rw [List.mem_singleton.1 h]
    exact hs
  | l :: q, n, h => by
    obtain ⟨hl, m, hm, hn⟩ := h
    exact hN m (RW_lt hN hs hm) l hl n hn
theorem lay_from (hst : Still L nx fd N D) (hN : ∀ n, n < N → ∀ l ∈ L, ∀ m ∈ nx n l, m < N) (hs : s < N) : ∀ {q : List Nat} {n e : Nat}, RW (fun m => m ∈ [s]) L nx q n → lay L nx fd D n = some e → ∃ e', e' ≤ q.length + e ∧ lay L nx fd D s = some e'
  | [], n, e, h, h1 => by
    change n ∈ [s] at h
    rw [List.mem_singleton.1 h] at h1
    exact ⟨e, by simp, h1⟩
  | l :: q, n, e, h, h1 => by
    obtain ⟨hl, m, hm, hn⟩ := h
    obtain ⟨e1, h2, h3⟩ := lay_back hst (RW_lt hN hs hm) hl hn h1
    obtain ⟨e2, h4, h5⟩ := lay_from hst hN hs hm h3
    exact ⟨e2, by rw [List.length_cons]; omega, h5⟩
/-- The nodes at a distance to which a letter leads from some nodes. -/
def clo (L : List Nat) (nx : Nat → Nat → List Nat) (fd : Nat → Bool) (D : Nat) (at_ : List Nat) (l d : Nat) : List Nat := dd ((at_.flatMap fun n => nx n l).filter fun m => decide (lay L nx fd D m = some d))
theorem clo_mem {at_ : List Nat} {l d m : Nat} : m ∈ clo L nx fd D at_ l d ↔ ∃ n ∈ at_, m ∈ nx n l ∧ lay L nx fd D m = some d := by
  unfold clo
  rw [dd_mem, List.mem_filter, List.mem_flatMap, decide_eq_true_iff]
  constructor
  · rintro ⟨⟨n, h1, h2⟩, h3⟩
    exact ⟨n, h1, h2, h3⟩
  · rintro ⟨n, h1, h2, h3⟩
    exact ⟨⟨n, h1, h2⟩, h3⟩
theorem rlt_of_len : ∀ {r q : List Nat}, r.length < q.length → rlt r q
  | [], [], h => by simp at h
  | [], _ :: _, _ => trivial
  | _ :: _, [], h => by simp at h
  | _ :: r, _ :: q, h => .inl (rlt_of_len (by simpa using h))
/-- The state of the way forward: d letters are still to come. -/
structure Fwd (L : List Nat) (nx : Nat → Nat → List Nat) (fd : Nat → Bool) (D s D0 : Nat) (r at_ : List Nat) (d : Nat) : Prop where
  len : r.length + d = D0
  mem : ∀ n, n ∈ at_ ↔ RW (fun m => m ∈ [s]) L nx r n ∧ lay L nx fd D n = some d
  least : ∀ p n, p.length = r.length → RW (fun m => m ∈ [s]) L nx p n → lay L nx fd D n = some d → rle r p
  ne : ∃ n, n ∈ at_
theorem Fwd.start {D0 : Nat} (h : lay L nx fd D s = some D0) : Fwd L nx fd D s D0 [] [s] D0 := by
  refine ⟨by simp, fun n => ?_, fun p n hp _ _ => ?_, ⟨s, by simp⟩⟩
  · rw [List.mem_singleton]
    constructor
    · rintro rfl
      exact ⟨List.mem_singleton.2 rfl, h⟩
    · rintro ⟨h1, _⟩
      exact List.mem_singleton.1 h1
  · rw [List.eq_nil_of_length_eq_zero hp]
    exact rle_refl _
theorem Fwd.some_ {D0 d : Nat} {r at_ : List Nat} (h : Fwd L nx fd D s D0 r at_ (d + 1)) : ∃ k, ∃ (hk : k < L.length), clo L nx fd D at_ L[k] d ≠ [] := by
  obtain ⟨n, hn⟩ := h.ne
  obtain ⟨_, h2⟩ := (h.mem n).1 hn
  obtain ⟨l, hl, m, hm, h3⟩ := lay_step h2
  obtain ⟨k, hk, e⟩ := List.mem_iff_getElem.1 hl
  refine ⟨k, hk, fun h0 => ?_⟩
  have : m ∈ clo L nx fd D at_ L[k] d := clo_mem.2 ⟨n, hn, by rw [e]; exact hm, h3⟩
  rw [h0] at this
  cases this
theorem Fwd.next (hst : Still L nx fd N D) (hN : ∀ n, n < N → ∀ l ∈ L, ∀ m ∈ nx n l, m < N) (hs : s < N) (hL : L.Pairwise (· < ·)) {D0 d k : Nat} {r at_ : List Nat} (h : Fwd L nx fd D s D0 r at_ (d + 1)) (h0 : lay L nx fd D s = some D0)
    (hk : k < L.length) (hne : clo L nx fd D at_ L[k] d ≠ []) (hmin : ∀ j (hj : j < L.length), j < k → clo L nx fd D at_ L[j] d = []) : Fwd L nx fd D s D0 (L[k] :: r) (clo L nx fd D at_ L[k] d) d := by
  have hlen := h.len
  have key : ∀ {p : List Nat} {m l n : Nat}, p.length = r.length → RW (fun m => m ∈ [s]) L nx p m → l ∈ L → n ∈ nx m l → lay L nx fd D n = some d → lay L nx fd D m = some (d + 1) := by
    intro p m l n hp hm hl hn h1
    obtain ⟨e1, h2, h3⟩ := lay_back hst (RW_lt hN hs hm) hl hn h1
    obtain ⟨e2, h4, h5⟩ := lay_from hst hN hs hm h3
    rw [h0] at h5
    injection h5 with h5
    obtain rfl : e1 = d + 1 := by omega
    exact h3
  refine ⟨by rw [List.length_cons]; omega, fun n => ?_, fun p n hp hn h1 => ?_, ?_⟩
  · rw [clo_mem]
    constructor
    · rintro ⟨m, hm, h1, h2⟩
      exact ⟨⟨List.getElem_mem hk, m, ((h.mem m).1 hm).1, h1⟩, h2⟩
    · rintro ⟨⟨_, m, hm, h1⟩, h2⟩
      exact ⟨m, (h.mem m).2 ⟨hm, key rfl hm (List.getElem_mem hk) h1 h2⟩, h1, h2⟩
  · cases p with
    | nil => simp at hp
    | cons l p =>
      obtain ⟨hl, m, hm, hn⟩ := hn
      have hpl : p.length = r.length := by simpa using hp
      have hm1 := key hpl hm hl hn h1
      rcases h.least p m hpl hm hm1 with hlt | rfl
      · exact .inl (.inl hlt)
      · obtain ⟨j, hj, rfl⟩ := List.mem_iff_getElem.1 hl
        rcases Nat.lt_trichotomy j k with hjk | rfl | hjk
        · have := hmin j hj hjk
          have hmem : n ∈ clo L nx fd D at_ L[j] d := clo_mem.2 ⟨m, (h.mem m).2 ⟨hm, hm1⟩, hn, h1⟩
          rw [this] at hmem
          cases hmem
        · exact rle_refl _
        · exact .inl (.inr ⟨rfl, List.pairwise_iff_getElem.1 hL k j hk hj hjk⟩)
  · cases hc : clo L nx fd D at_ L[k] d with
    | nil => exact absurd hc hne
    | cons x xs => exact ⟨x, List.mem_cons_self⟩
theorem Fwd.done (hst : Still L nx fd N D) (hN : ∀ n, n < N → ∀ l ∈ L, ∀ m ∈ nx n l, m < N) (hs : s < N) {D0 : Nat} {r at_ : List Nat} (h : Fwd L nx fd D s D0 r at_ 0) (h0 : lay L nx fd D s = some D0) : FirstW (fun m => m ∈ [s]) L nx (fun n => fd n = true) r := by
  have hlen := h.len
  obtain ⟨n, hn⟩ := h.ne
  obtain ⟨h1, h2⟩ := (h.mem n).1 hn
  refine ⟨⟨n, h1, lay_zero.1 h2⟩, fun q m hm hf => ?_⟩
  have h3 : lay L nx fd D m = some 0 := lay_zero.2 hf
  obtain ⟨e, h4, h5⟩ := lay_from hst hN hs hm h3
  rw [h0] at h5
  injection h5 with h5
  by_cases he : q.length = r.length
  · exact h.least q m he hm h3
  · exact .inl (rlt_of_len (by omega))
end

end Go.Proofs.YtdkjnemakkppfaaDoor

/- Plain: the nodes of a product as numbers. -/
namespace Go.Proofs.YtdkjnemakkppfaaDoor
open AG

def prodL : List Nat → Nat
  | [] => 1
  | a :: l => a * prodL l
/-- The states of a node. -/
def decS : List Nat → Nat → List Nat
  | [], _ => []
  | a :: l, n => (n / prodL l % a) :: decS l n
theorem decS_len : ∀ (ss : List Nat) (n : Nat), (decS ss n).length = ss.length
  | [], _ => rfl
  | a :: l, n => by
    show (decS l n).length + 1 = l.length + 1
    rw [decS_len l n]
theorem decS_get : ∀ (ss : List Nat) (n i : Nat) (h : i < ss.length), (decS ss n)[i]'(by rw [decS_len]; exact h) = n / prodL (ss.drop (i + 1)) % ss[i]
  | a :: l, n, 0, _ => rfl
  | a :: l, n, i + 1, h => by
    exact decS_get l n i (by simpa using h)
theorem prodL_pos : ∀ {ss : List Nat}, (∀ a ∈ ss, 1 ≤ a) → 1 ≤ prodL ss
  | [], _ => Nat.le_refl _
  | a :: l, h => by
    have h1 := prodL_pos (ss := l) fun x hx => h x (List.mem_cons_of_mem _ hx)
    have h2 := h a List.mem_cons_self
    exact Nat.mul_le_mul h2 h1
theorem prodL_drop {ss : List Nat} {i : Nat} (h : i < ss.length) : prodL (ss.drop i) = ss[i] * prodL (ss.drop (i + 1)) := by
  rw [List.drop_eq_getElem_cons h]
  rfl
theorem decS_step {ss : List Nat} {n i : Nat} (h : i < ss.length) : n / prodL (ss.drop (i + 1)) / ss[i] = n / prodL (ss.drop i) := by
  rw [Nat.div_div_eq_div_mul, prodL_drop h, Nat.mul_comm]
theorem decS_lt {ss : List Nat} (hs : ∀ a ∈ ss, 1 ≤ a) (n i : Nat) (h : i < ss.length) : (decS ss n).getD i 0 < ss[i] := by
  rw [List.getD_eq_getElem?_getD, List.getElem?_eq_getElem (by rw [decS_len]; exact h), Option.getD_some, decS_get ss n i h]
  exact Nat.mod_lt _ (hs _ (List.getElem_mem h))
/-- One member more. -/
def stepN (a : Nat) (c out : List Nat) : List Nat := out.flatMap fun o => c.map fun x => o * a + x
/-- The nodes to which the choices of the first k members lead. -/
def nxK (ss : List Nat) (C : Nat → List Nat) : Nat → List Nat
  | 0 => [0]
  | k + 1 => stepN (ss.getD k 1) (C k) (nxK ss C k)
theorem stepN_mem {a : Nat} {c out : List Nat} {m : Nat} : m ∈ stepN a c out ↔ ∃ o ∈ out, ∃ x ∈ c, m = o * a + x := by
  unfold stepN
  rw [List.mem_flatMap]
  constructor
  · rintro ⟨o, ho, h⟩
    obtain ⟨x, hx, rfl⟩ := List.mem_map.1 h
    exact ⟨o, ho, x, hx, rfl⟩
  · rintro ⟨o, ho, x, hx, rfl⟩
    exact ⟨o, ho, List.mem_map_of_mem hx⟩
theorem stepN_take {a : Nat} {c out : List Nat} {k : Nat} (h : k < out.length) : stepN a c (out.take (k + 1)) = stepN a c (out.take k) ++ c.map fun x => out[k] * a + x := by
  unfold stepN
  rw [List.take_succ_eq_append_getElem h, List.flatMap_append]
  simp
theorem stepN_len (a : Nat) (c : List Nat) : ∀ out : List Nat, (stepN a c out).length = out.length * c.length
  | [] => by simp [stepN]
  | o :: out => by
    have ih := stepN_len a c out
    have e : stepN a c (o :: out) = (c.map fun x => o * a + x) ++ stepN a c out := rfl
    rw [e, List.length_append, List.length_map, ih, List.length_cons, Nat.add_mul]
    omega
/-- The product of the first k sizes. -/
def prodT (ss : List Nat) : Nat → Nat
  | 0 => 1
  | k + 1 => prodT ss k * ss.getD k 1
theorem nxK_lt {ss : List Nat} {C : Nat → List Nat} : ∀ {k : Nat}, k ≤ ss.length → (∀ i, i < ss.length → ∀ x ∈ C i, x < ss.getD i 1) → ∀ m ∈ nxK ss C k, m < prodT ss k
  | 0, _, _, m, h => by
    rw [List.mem_singleton.1 h]
    exact Nat.one_pos
  | k + 1, hk, hC, m, h => by
    obtain ⟨o, ho, x, hx, rfl⟩ := stepN_mem.1 h
    have h1 := nxK_lt (by omega) hC o ho
    have h2 := hC k (by omega) x hx
    show o * ss.getD k 1 + x < prodT ss k * ss.getD k 1
    have h3 : (o + 1) * ss.getD k 1 ≤ prodT ss k * ss.getD k 1 := Nat.mul_le_mul_right _ h1
    rw [Nat.add_mul] at h3
    omega
theorem nxK_len {ss : List Nat} {C : Nat → List Nat} {b : Nat} (hC : ∀ i, (C i).length ≤ b) : ∀ k, (nxK ss C k).length ≤ b ^ k
  | 0 => Nat.le_refl _
  | k + 1 => by
    show (stepN _ _ _).length ≤ _
    rw [stepN_len, Nat.pow_succ]
    exact Nat.mul_le_mul (nxK_len hC k) (hC k)
theorem prodT_succ (a : Nat) (l : List Nat) : ∀ k, prodT (a :: l) (k + 1) = a * prodT l k
  | 0 => by simp [prodT]
  | k + 1 => by
    rw [prodT, prodT_succ a l k, prodT, Nat.mul_assoc]
    rfl
theorem prodT_all : ∀ ss : List Nat, prodT ss ss.length = prodL ss
  | [] => rfl
  | a :: l => by
    show prodT (a :: l) (l.length + 1) = _
    rw [prodT_succ, prodT_all l]
    rfl
theorem prodT_le {ss : List Nat} {b : Nat} (hs : ∀ a ∈ ss, a ≤ b) (hb : 1 ≤ b) : ∀ k, prodT ss k ≤ b ^ k
  | 0 => Nat.le_refl _
  | k + 1 => by
    rw [prodT, Nat.pow_succ]
    refine Nat.mul_le_mul (prodT_le hs hb k) ?_
    rw [List.getD_eq_getElem?_getD]
    cases e : ss[k]? with
    | none => exact hb
    | some x => exact hs x (List.mem_of_getElem? e)
/-- The nodes to which a letter leads from a node. -/
def nxN (ss : List Nat) (ch : Nat → Nat → Nat → List Nat) (n l : Nat) : List Nat := nxK ss (fun i => ch i ((decS ss n).getD i 0) l) ss.length
end Go.Proofs.YtdkjnemakkppfaaDoor

/- Plain: the states together to which a letter leads some systems that run together. -/
namespace AG

/-- The states to which a letter leads one system. -/
noncomputable def stepQ (s : Sy) (node l : Nat) : List Nat := if HasZ s.al (l : Int) = true then memL (mv s (node % s.st.toNat) l) else [node % s.st.toNat]
def joinN (qs re : List Nat) (wt : Nat) : List Nat := qs.flatMap fun q => re.map fun r => q * wt + r
structure PSt where
  re : List Nat
  wt : Nat
  nd : Nat
noncomputable def pstep (s : Sy) (l : Nat) (x : PSt) : PSt := ⟨joinN (stepQ s x.nd l) x.re x.wt, x.wt * s.st.toNat, x.nd / s.st.toNat⟩
/-- The last k systems are gone through. -/
noncomputable def pst (ss : List Sy) (l node : Nat) : Nat → PSt
  | 0 => ⟨[0], 1, node⟩
  | k + 1 => match ss[ss.length - 1 - k]? with
    | some s => pstep s l (pst ss l node k)
    | none => pst ss l node k
noncomputable def nxParts (ss : List Sy) (node l : Nat) : List Nat := (pst ss l node ss.length).re
theorem pst_succ {ss : List Sy} {l node k i : Nat} (hk : k < ss.length) (hi : i + k + 1 = ss.length) : ∃ h : i < ss.length, pst ss l node (k + 1) = pstep ss[i] l (pst ss l node k) := by
  refine ⟨by omega, ?_⟩
  rw [pst, show ss.length - 1 - k = i from by omega, List.getElem?_eq_getElem (by omega)]

theorem stepQ_lt {s : Sy} (hs : sysOk s = true) (node l : Nat) : ∀ q ∈ stepQ s node l, q < s.st.toNat := by
  have hst := sysOk_st hs
  intro q hq
  unfold stepQ at hq
  split at hq
  · obtain ⟨_, hb⟩ := memL_mem.1 hq
    exact testBit_lt (mv_small (sysOk_in hs) _ _) hb
  · rw [List.mem_singleton.1 hq]
    exact Nat.mod_lt _ (by omega)
theorem stepQ_len {s : Sy} (node l : Nat) : (stepQ s node l).length ≤ 16 := by
  unfold stepQ
  split
  · exact memL_len _
  · simp
theorem joinN_len (qs re : List Nat) (wt : Nat) : (joinN qs re wt).length = qs.length * re.length := by
  unfold joinN
  induction qs with
  | nil => simp
  | cons q qs ih => rw [List.flatMap_cons, List.length_append, ih, List.length_map, List.length_cons, Nat.add_mul]; omega
theorem joinN_take {qs re : List Nat} {wt j : Nat} (hj : j < qs.length) : joinN (qs.take (j + 1)) re wt = joinN (qs.take j) re wt ++ re.map fun r => qs[j] * wt + r := by
  unfold joinN
  rw [List.take_succ_eq_append_getElem hj, List.flatMap_append]
  simp
theorem map_take {re : List Nat} {f : Nat → Nat} {k : Nat} (hk : k < re.length) : (re.take (k + 1)).map f = (re.take k).map f ++ [f re[k]] := by
  rw [List.take_succ_eq_append_getElem hk, List.map_append]
  rfl
/-- How great the numbers get. -/
theorem pst_ok {ss : List Sy} (hall : ss.all sysOk = true) (l node : Nat) : ∀ k, k ≤ ss.length → (pst ss l node k).wt ≤ 16 ^ k ∧ (pst ss l node k).nd ≤ node ∧ (pst ss l node k).re.length ≤ 16 ^ k ∧ ∀ r ∈ (pst ss l node k).re, r < (pst ss l node k).wt
  | 0, _ => by simp [pst]
  | k + 1, hk => by
    obtain ⟨h1, h2, h3, h4⟩ := pst_ok hall l node k (by omega)
    obtain ⟨hi, e⟩ := pst_succ (ss := ss) (l := l) (node := node) (k := k) (i := ss.length - 1 - k) (by omega) (by omega)
    have hs : sysOk ss[ss.length - 1 - k] = true := List.all_eq_true.1 hall _ (List.getElem_mem _)
    have hst := sysOk_st hs
    rw [e]
    generalize ss[ss.length - 1 - k] = s at *
    generalize pst ss l node k = x at *
    have hn : s.st.toNat ≤ 16 := by omega
    unfold pstep
    simp only
    refine ⟨?_, Nat.le_trans (Nat.div_le_self _ _) h2, ?_, ?_⟩
    · rw [Nat.pow_succ]; exact Nat.mul_le_mul h1 hn
    · rw [joinN_len, Nat.pow_succ, Nat.mul_comm]
      exact Nat.mul_le_mul h3 (stepQ_len _ _)
    · intro r hr
      unfold joinN at hr
      obtain ⟨q, hq, hr⟩ := List.mem_flatMap.1 hr
      obtain ⟨p, hp, rfl⟩ := List.mem_map.1 hr
      have hq2 := stepQ_lt hs _ _ q hq
      have hp2 := h4 p hp
      have : (q + 1) * x.wt ≤ s.st.toNat * x.wt := Nat.mul_le_mul_right _ hq2
      rw [Nat.add_mul] at this
      rw [Nat.mul_comm x.wt]
      omega

end AG

/- Plain: systems that run together: the nodes of both searches, how long first words are. -/
namespace Go.Proofs.YtdkjnemakkppfaaDoor
open AG

/- Two ways to write the steps that have the same members on the nodes below N. -/
/- How long a first word is. -/
/-- The sizes of some systems. -/
def szP (xs : List Sy) : List Nat := xs.map fun s => s.st.toNat
/-- The states to which the reference's edges lead from a state. -/
def chP1 (s : Sy) (q l : Nat) : List Nat := if Has s.al l = true then (s.es.filter fun e => e.f.toNat == q && e.l.toNat == l).map (fun e => e.t.toNat) else [q]
def chP (xs : List Sy) (i q l : Nat) : List Nat := match xs[i]? with | some s => chP1 s q l | none => []
theorem chP_at {xs : List Sy} {i : Nat} (h : i < xs.length) (q l : Nat) : chP xs i q l = chP1 xs[i] q l := by unfold chP; rw [List.getElem?_eq_getElem h]
theorem chP1_mem {s : Sy} (hs : sysOk s = true) {q l : Nat} (hq : q < s.st.toNat) (m : Nat) : m ∈ chP1 s q l ↔ m ∈ stepQ s q l := by
  unfold chP1 stepQ
  have h1 : HasZ s.al (l : Int) = Has s.al l := by unfold HasZ; simp
  rw [h1, Nat.mod_eq_of_lt hq]
  split
  · rw [memL_mem, mv_testBit, List.mem_map]
    constructor
    · rintro ⟨e, he, rfl⟩
      rw [List.mem_filter] at he
      simp only [Bool.and_eq_true, beq_iff_eq] at he
      have := sysOk_in hs e he.1
      exact ⟨by omega, by omega, e, he.1, he.2.1, he.2.2, rfl⟩
    · rintro ⟨-, -, e, he, h2, h3, h4⟩
      refine ⟨e, ?_, h4⟩
      rw [List.mem_filter]
      simp only [Bool.and_eq_true, beq_iff_eq]
      exact ⟨he, h2, h3⟩
  · rfl
theorem chP1_lt {s : Sy} (hs : sysOk s = true) {q l : Nat} (hq : q < s.st.toNat) : ∀ m ∈ chP1 s q l, m < s.st.toNat := fun m hm => stepQ_lt hs q l m ((chP1_mem hs hq m).1 hm)
theorem chP1_len {s : Sy} (hs : sysOk s = true) (q l : Nat) : (chP1 s q l).length ≤ 16 := by
  unfold chP1
  split
  · refine nodup_bound 16 _ ?_ ?_
    · have hp := (edges_pairwise hs).filter fun e => e.f.toNat == q && e.l.toNat == l
      rw [List.nodup_iff_pairwise_ne, List.pairwise_map]
      refine hp.imp_of_mem ?_
      intro a b ha hb hlt
      rw [List.mem_filter] at ha hb
      simp only [Bool.and_eq_true, beq_iff_eq] at ha hb
      have h1 := sysOk_in hs a ha.1
      have h2 := sysOk_in hs b hb.1
      have e1 : a.f = b.f := by omega
      have e2 : a.l = b.l := by omega
      unfold edgeLt at hlt
      rw [if_neg (by simpa using e1), if_neg (by simpa using e2)] at hlt
      have h3 := of_decide_eq_true hlt
      omega
    · intro x hx
      obtain ⟨e, he, rfl⟩ := List.mem_map.1 hx
      have := sysOk_in hs e (List.mem_filter.1 he).1
      omega
  · simp

/- The program's nodes, from the first system on. -/
theorem pst_cons (s : Sy) (ss : List Sy) (l node : Nat) : ∀ k, k ≤ ss.length → pst (s :: ss) l node k = pst ss l node k
  | 0, _ => rfl
  | k + 1, hk => by
    obtain ⟨h1, e1⟩ := pst_succ (ss := s :: ss) (l := l) (node := node) (k := k) (i := ss.length - k) (by simp; omega) (by simp; omega)
    obtain ⟨h2, e2⟩ := pst_succ (ss := ss) (l := l) (node := node) (k := k) (i := ss.length - 1 - k) (by omega) (by omega)
    rw [e1, e2, pst_cons s ss l node k (by omega)]
    congr 1
    rw [List.getElem_cons]
    split
    · omega
    · congr 1; omega
theorem pst_cons_last (s : Sy) (ss : List Sy) (l node : Nat) : pst (s :: ss) l node (ss.length + 1) = pstep s l (pst ss l node ss.length) := by
  obtain ⟨h1, e1⟩ := pst_succ (ss := s :: ss) (l := l) (node := node) (k := ss.length) (i := 0) (by simp) (by simp)
  rw [e1, pst_cons s ss l node _ (Nat.le_refl _)]
  rfl
theorem pst_parts : ∀ (ss : List Sy) (l node : Nat), (pst ss l node ss.length).wt = prodL (szP ss) ∧ (pst ss l node ss.length).nd = node / prodL (szP ss)
  | [], l, node => ⟨rfl, (Nat.div_one node).symm⟩
  | s :: ss, l, node => by
    obtain ⟨h1, h2⟩ := pst_parts ss l node
    show (pst (s :: ss) l node (ss.length + 1)).wt = s.st.toNat * prodL (szP ss) ∧ (pst (s :: ss) l node (ss.length + 1)).nd = node / (s.st.toNat * prodL (szP ss))
    rw [pst_cons_last]
    unfold pstep
    simp only
    rw [h1, h2]
    exact ⟨Nat.mul_comm _ _, by rw [Nat.div_div_eq_div_mul, Nat.mul_comm]⟩
theorem nxParts_cons (s : Sy) (ss : List Sy) (l node m : Nat) : m ∈ nxParts (s :: ss) node l ↔ ∃ q ∈ stepQ s (node / prodL (szP ss)) l, ∃ r ∈ nxParts ss node l, m = q * prodL (szP ss) + r := by
  unfold nxParts
  show m ∈ (pst (s :: ss) l node (ss.length + 1)).re ↔ _
  rw [pst_cons_last]
  obtain ⟨h1, h2⟩ := pst_parts ss l node
  unfold pstep joinN
  simp only
  rw [h1, h2, List.mem_flatMap]
  constructor
  · rintro ⟨q, hq, h⟩
    obtain ⟨r, hr, rfl⟩ := List.mem_map.1 h
    exact ⟨q, hq, r, hr, rfl⟩
  · rintro ⟨q, hq, r, hr, rfl⟩
    exact ⟨q, hq, List.mem_map_of_mem hr⟩

/- The reference's nodes, from the first system on. -/
theorem nxK_cons (a : Nat) (ss : List Nat) (C : Nat → List Nat) : ∀ (k m : Nat), m ∈ nxK (a :: ss) C (k + 1) ↔ ∃ q ∈ C 0, ∃ r ∈ nxK ss (fun i => C (i + 1)) k, m = q * prodT ss k + r
  | 0, m => by
    show m ∈ stepN a (C 0) [0] ↔ _
    rw [stepN_mem]
    constructor
    · rintro ⟨o, ho, x, hx, rfl⟩
      rw [List.mem_singleton.1 ho]
      exact ⟨x, hx, 0, List.mem_singleton.2 rfl, by simp [prodT]⟩
    · rintro ⟨q, hq, r, hr, rfl⟩
      rw [show r = 0 from List.mem_singleton.1 hr]
      exact ⟨0, List.mem_singleton.2 rfl, q, hq, by simp [prodT]⟩
  | k + 1, m => by
    show m ∈ stepN (ss.getD k 1) (C (k + 1)) (nxK (a :: ss) C (k + 1)) ↔ _
    rw [stepN_mem]
    constructor
    · rintro ⟨o, ho, x, hx, rfl⟩
      obtain ⟨q, hq, r, hr, rfl⟩ := (nxK_cons a ss C k o).1 ho
      refine ⟨q, hq, r * ss.getD k 1 + x, stepN_mem.2 ⟨r, hr, x, hx, rfl⟩, ?_⟩
      rw [prodT, Nat.add_mul, Nat.mul_assoc, Nat.add_assoc]
    · rintro ⟨q, hq, r', hr', rfl⟩
      obtain ⟨r, hr, x, hx, rfl⟩ := stepN_mem.1 hr'
      refine ⟨q * prodT ss k + r, (nxK_cons a ss C k _).2 ⟨q, hq, r, hr, rfl⟩, x, hx, ?_⟩
      rw [prodT, Nat.add_mul, Nat.mul_assoc, Nat.add_assoc]
theorem nxN_cons (a : Nat) (ss : List Nat) (ch : Nat → Nat → Nat → List Nat) (n l m : Nat) : m ∈ nxN (a :: ss) ch n l ↔ ∃ q ∈ ch 0 (n / prodL ss % a) l, ∃ r ∈ nxN ss (fun i => ch (i + 1)) n l, m = q * prodL ss + r := by
  unfold nxN
  show m ∈ nxK (a :: ss) _ (ss.length + 1) ↔ _
  rw [nxK_cons, prodT_all]
  rfl
/-- Both have the same nodes next to a node. -/
theorem nx_same : ∀ (xs : List Sy), xs.all sysOk = true → ∀ n l m, m ∈ nxN (szP xs) (chP xs) n l ↔ m ∈ nxParts xs n l
  | [], _, n, l, m => Iff.rfl
  | s :: ss, hall, n, l, m => by
    rw [List.all_cons, Bool.and_eq_true] at hall
    show m ∈ nxN (s.st.toNat :: szP ss) (chP (s :: ss)) n l ↔ _
    rw [nxN_cons, nxParts_cons]
    have hst := sysOk_st hall.1
    have hlt : n / prodL (szP ss) % s.st.toNat < s.st.toNat := Nat.mod_lt _ (by omega)
    have h1 : ∀ q, q ∈ chP (s :: ss) 0 (n / prodL (szP ss) % s.st.toNat) l ↔ q ∈ stepQ s (n / prodL (szP ss)) l := fun q => by
      rw [chP_at (by simp), List.getElem_cons_zero, chP1_mem hall.1 hlt]
      unfold stepQ
      rw [Nat.mod_mod]
    have h2 : ∀ r, r ∈ nxN (szP ss) (fun i => chP (s :: ss) (i + 1)) n l ↔ r ∈ nxParts ss n l := fun r => by
      rw [← nx_same ss hall.2 n l r]
      rfl
    constructor
    · rintro ⟨q, hq, r, hr, rfl⟩
      exact ⟨q, (h1 q).1 hq, r, (h2 r).1 hr, rfl⟩
    · rintro ⟨q, hq, r, hr, rfl⟩
      exact ⟨q, (h1 q).2 hq, r, (h2 r).2 hr, rfl⟩
theorem nxParts_lt {xs : List Sy} (hall : xs.all sysOk = true) (n l : Nat) : ∀ m ∈ nxParts xs n l, m < prodL (szP xs) := by
  obtain ⟨h1, h2, h3, h4⟩ := pst_ok hall l n xs.length (Nat.le_refl _)
  rw [(pst_parts xs l n).1] at h4
  exact h4
theorem szP_ok {xs : List Sy} (hall : xs.all sysOk = true) : ∀ a ∈ szP xs, 1 ≤ a ∧ a ≤ 16 := fun a ha => by
  obtain ⟨s, hs, rfl⟩ := List.mem_map.1 ha
  have := sysOk_st (List.all_eq_true.1 hall s hs)
  omega
theorem prodP_4096 {xs : List Sy} (hall : xs.all sysOk = true) (h3 : xs.length ≤ 3) : 1 ≤ prodL (szP xs) ∧ prodL (szP xs) ≤ 4096 := by
  refine ⟨prodL_pos fun a ha => (szP_ok hall a ha).1, ?_⟩
  have h1 := prodT_le (ss := szP xs) (b := 16) (fun a ha => (szP_ok hall a ha).2) (by decide) (szP xs).length
  rw [prodT_all] at h1
  have h2 : 16 ^ (szP xs).length ≤ 16 ^ 3 := Nat.pow_le_pow_right (by decide) (by unfold szP; rw [List.length_map]; exact h3)
  omega

end Go.Proofs.YtdkjnemakkppfaaDoor

/- Plain: the traces of systems that run together, and where they are stuck. -/
namespace Go.Proofs.YtdkjnemakkppfaaDoor
open AG

def flt (s : Sy) (r : List Nat) : List Nat := r.filter fun l => decide (l ∈ letters s.al)
theorem flt_cons (s : Sy) (l : Nat) (r : List Nat) : flt s (l :: r) = if l ∈ letters s.al then l :: flt s r else flt s r := by
  unfold flt
  rw [List.filter_cons]
  by_cases h : l ∈ letters s.al <;> simp [h]
theorem allAl_ok {ss : List Sy} (hall : ss.all sysOk = true) : alphaOk (allAl ss) = true := alphaOk_range.2 (allAl_range ss hall)

/-- A node to which a word leads parts. -/
def PR : List Sy → List Nat → Nat → Prop
  | [], _, n => n = 0
  | s :: ss, r, n => ∃ q m, (setW s (flt s r)).testBit q = true ∧ PR ss r m ∧ n = q * prodL (szP ss) + m
theorem setW_bit {s : Sy} (hs : sysOk s = true) {r : List Nat} {q : Nat} (h : (setW s r).testBit q = true) : q < s.st.toNat :=
  testBit_lt (setW_small (sysOk_in hs) (sysOk_st hs).1 r) h
theorem PR_lt : ∀ {ss : List Sy}, ss.all sysOk = true → ∀ {r n}, PR ss r n → n < prodL (szP ss)
  | [], _, _, _, h => by rw [show _ = 0 from h]; exact Nat.one_pos
  | s :: ss, hall, r, n, ⟨q, m, hq, hm, e⟩ => by
    rw [List.all_cons, Bool.and_eq_true] at hall
    have h1 := PR_lt hall.2 hm
    have h2 := setW_bit hall.1 hq
    show n < s.st.toNat * prodL (szP ss)
    have h3 : (q + 1) * prodL (szP ss) ≤ s.st.toNat * prodL (szP ss) := Nat.mul_le_mul_right _ h2
    rw [Nat.add_mul] at h3
    omega
theorem nxParts_shift : ∀ (ss : List Sy) (q m l x : Nat), x ∈ nxParts ss (q * prodL (szP ss) + m) l ↔ x ∈ nxParts ss m l
  | [], q, m, l, x => Iff.rfl
  | s :: ss, q, m, l, x => by
    rw [nxParts_cons, nxParts_cons]
    by_cases h0 : prodL (szP ss) = 0
    · have e : q * prodL (szP (s :: ss)) + m = m := by
        show q * (s.st.toNat * prodL (szP ss)) + m = m
        rw [h0]; simp
      rw [e]
    · have e1 : (q * prodL (szP (s :: ss)) + m) / prodL (szP ss) = q * s.st.toNat + m / prodL (szP ss) := by
        show (q * (s.st.toNat * prodL (szP ss)) + m) / prodL (szP ss) = _
        rw [← Nat.mul_assoc, Nat.mul_comm _ (prodL (szP ss)), Nat.mul_add_div (by omega)]
      have e2 : ∀ y, y ∈ nxParts ss (q * prodL (szP (s :: ss)) + m) l ↔ y ∈ nxParts ss m l := fun y => by
        show y ∈ nxParts ss (q * (s.st.toNat * prodL (szP ss)) + m) l ↔ _
        rw [← Nat.mul_assoc]
        exact nxParts_shift ss _ m l y
      have e3 : stepQ s (q * s.st.toNat + m / prodL (szP ss)) l = stepQ s (m / prodL (szP ss)) l := by
        unfold stepQ
        rw [Nat.add_comm, Nat.mul_comm, Nat.add_mul_mod_self_left]
      rw [e1, e3]
      constructor
      · rintro ⟨a, ha, b, hb, e⟩; exact ⟨a, ha, b, (e2 b).1 hb, e⟩
      · rintro ⟨a, ha, b, hb, e⟩; exact ⟨a, ha, b, (e2 b).2 hb, e⟩
/-- One letter more, seen by one part. -/
theorem step_one {s : Sy} (hs : sysOk s = true) {l : Nat} (hl : l < 6) (r : List Nat) (t : Nat) : (setW s (flt s (l :: r))).testBit t = true ↔ ∃ q, (setW s (flt s r)).testBit q = true ∧ t ∈ stepQ s q l := by
  have hz : HasZ s.al (l : Int) = true ↔ l ∈ letters s.al := by
    rw [letters_ok]
    unfold HasZ
    simp [hl]
  rw [flt_cons]
  by_cases h : l ∈ letters s.al
  · rw [if_pos h]
    show (stepSet s (setW s (flt s r)) (l : Int)).testBit t = true ↔ _
    rw [← unionOf_mv s (sysOk_in hs), unionOf_testBit]
    constructor
    · rintro ⟨h1, q, h2, h3⟩
      refine ⟨q, h2, ?_⟩
      unfold stepQ
      rw [if_pos (hz.2 h), Nat.mod_eq_of_lt (setW_bit hs h2), memL_mem]
      exact ⟨h1, h3⟩
    · rintro ⟨q, h2, h3⟩
      unfold stepQ at h3
      rw [if_pos (hz.2 h), Nat.mod_eq_of_lt (setW_bit hs h2), memL_mem] at h3
      exact ⟨h3.1, q, h2, h3.2⟩
  · rw [if_neg h]
    constructor
    · intro h1
      refine ⟨t, h1, ?_⟩
      unfold stepQ
      rw [if_neg (fun k => h (hz.1 k)), Nat.mod_eq_of_lt (setW_bit hs h1), List.mem_singleton]
    · rintro ⟨q, h2, h3⟩
      unfold stepQ at h3
      rw [if_neg (fun k => h (hz.1 k)), Nat.mod_eq_of_lt (setW_bit hs h2), List.mem_singleton] at h3
      rw [h3]
      exact h2
theorem PR_nil : ∀ {ss : List Sy}, ss.all sysOk = true → ∀ n, PR ss [] n ↔ n = 0
  | [], _, n => Iff.rfl
  | s :: ss, hall, n => by
    rw [List.all_cons, Bool.and_eq_true] at hall
    show (∃ q m, (1 : Nat).testBit q = true ∧ PR ss [] m ∧ n = q * prodL (szP ss) + m) ↔ n = 0
    have hb : ∀ q, (1 : Nat).testBit q = true ↔ q = 0 := fun q => by
      have := Nat.testBit_two_pow (n := 0) (m := q)
      rw [show (1 : Nat) = 2 ^ 0 from rfl, this, decide_eq_true_iff]
      omega
    constructor
    · rintro ⟨q, m, h1, h2, e⟩
      rw [(hb q).1 h1, (PR_nil hall.2 m).1 h2] at e
      simpa using e
    · rintro rfl
      exact ⟨0, 0, (hb 0).2 rfl, (PR_nil hall.2 0).2 rfl, by simp⟩
theorem PR_cons : ∀ {ss : List Sy}, ss.all sysOk = true → ∀ {l : Nat}, l < 6 → ∀ (r : List Nat) (n : Nat), PR ss (l :: r) n ↔ ∃ m, PR ss r m ∧ n ∈ nxParts ss m l
  | [], _, l, _, r, n => by
    show n = 0 ↔ ∃ m, m = 0 ∧ n ∈ [0]
    simp
  | s :: ss, hall, l, hl, r, n => by
    rw [List.all_cons, Bool.and_eq_true] at hall
    have hp : 0 < prodL (szP ss) := prodL_pos fun a ha => (szP_ok hall.2 a ha).1
    have hdiv : ∀ q m, m < prodL (szP ss) → (q * prodL (szP ss) + m) / prodL (szP ss) = q := fun q m hm => by
      rw [Nat.mul_comm, Nat.mul_add_div hp, Nat.div_eq_of_lt hm, Nat.add_zero]
    constructor
    · rintro ⟨t, n', h1, h2, rfl⟩
      obtain ⟨q, h3, h4⟩ := (step_one hall.1 hl r t).1 h1
      obtain ⟨m, h5, h6⟩ := (PR_cons hall.2 hl r n').1 h2
      refine ⟨q * prodL (szP ss) + m, ⟨q, m, h3, h5, rfl⟩, ?_⟩
      rw [nxParts_cons, hdiv q m (PR_lt hall.2 h5)]
      exact ⟨t, h4, n', (nxParts_shift ss q m l n').2 h6, rfl⟩
    · rintro ⟨_, ⟨q, m, h3, h5, rfl⟩, hn⟩
      rw [nxParts_cons, hdiv q m (PR_lt hall.2 h5)] at hn
      obtain ⟨t, h4, n', h6, rfl⟩ := hn
      exact ⟨t, n', (step_one hall.1 hl r t).2 ⟨q, h3, h4⟩, (PR_cons hall.2 hl r n').2 ⟨m, h5, (nxParts_shift ss q m l n').1 h6⟩, rfl⟩
theorem RW_PR {ss : List Sy} (hall : ss.all sysOk = true) : ∀ (r : List Nat) (n : Nat), RW (fun m => m ∈ [0]) (letters (allAl ss)) (nxParts ss) r n ↔ (∀ l ∈ r, l ∈ letters (allAl ss)) ∧ PR ss r n
  | [], n => by
    show n ∈ [0] ↔ _
    rw [PR_nil hall, List.mem_singleton]
    exact ⟨fun h => ⟨fun l hl => (by cases hl), h⟩, fun h => h.2⟩
  | l :: r, n => by
    show (l ∈ letters (allAl ss) ∧ ∃ m, RW _ _ _ r m ∧ n ∈ nxParts ss m l) ↔ _
    constructor
    · rintro ⟨h1, m, h2, h3⟩
      obtain ⟨h4, h5⟩ := (RW_PR hall r m).1 h2
      refine ⟨fun x hx => ?_, (PR_cons hall (letters_lt h1).1 r n).2 ⟨m, h5, h3⟩⟩
      rcases List.mem_cons.1 hx with rfl | hx
      · exact h1
      · exact h4 x hx
    · rintro ⟨h1, h2⟩
      have hl := h1 l List.mem_cons_self
      obtain ⟨m, h3, h4⟩ := (PR_cons hall (letters_lt hl).1 r n).1 h2
      exact ⟨hl, m, (RW_PR hall r m).2 ⟨fun x hx => h1 x (List.mem_cons_of_mem _ hx), h3⟩, h4⟩
theorem PR_det : ∀ {ss : List Sy}, (∀ s ∈ ss, detB s = true) → ∀ {r : List Nat} {n m : Nat}, PR ss r n → PR ss r m → n = m
  | [], _, r, n, m, h, k => by rw [show n = 0 from h, show m = 0 from k]
  | s :: ss, hd, r, n, m, ⟨q, n', h1, h2, e⟩, ⟨q', m', k1, k2, e'⟩ => by
    have e1 := PR_det (fun x hx => hd x (List.mem_cons_of_mem _ hx)) h2 k2
    have e2 : q = q' := by
      rcases det_one (hd s List.mem_cons_self) (flt s r) with h0 | ⟨p, _, hp, _⟩
      · rw [h0] at h1
        simp at h1
      · rw [hp, Nat.testBit_two_pow, decide_eq_true_iff] at h1 k1
        omega
    rw [e, e', e1, e2]

end Go.Proofs.YtdkjnemakkppfaaDoor

/- Plain: the system of two systems that run together. -/
namespace Go.Proofs.YtdkjnemakkppfaaDoor
open AG

/-- A node that a word reaches. -/
def Rn (ss : List Sy) (n : Nat) : Prop := ∃ r, RW (fun m => m ∈ [0]) (letters (allAl ss)) (nxParts ss) r n
theorem Rn.zero (ss : List Sy) : Rn ss 0 := ⟨[], List.mem_singleton.2 rfl⟩
theorem Rn.step {ss : List Sy} {n l m : Nat} (h : Rn ss n) (hl : l ∈ letters (allAl ss)) (hm : m ∈ nxParts ss n l) : Rn ss m := by
  obtain ⟨r, hr⟩ := h
  exact ⟨l :: r, hl, n, hr, hm⟩
theorem Rn.lt {ss : List Sy} (hall : ss.all sysOk = true) {n : Nat} (h : Rn ss n) : n < prodL (szP ss) := by
  obtain ⟨r, hr⟩ := h
  exact PR_lt hall ((RW_PR hall r n).1 hr).2
open Classical in
/-- The reached nodes in their order. -/
noncomputable def rnL (ss : List Sy) : List Nat := (List.range (prodL (szP ss))).filter fun n => decide (Rn ss n)
open Classical in
/-- How many of the first n nodes are reached. -/
noncomputable def rkN (ss : List Sy) (n : Nat) : Nat := ((List.range n).filter fun m => decide (Rn ss m)).length
open Classical in
theorem rnL_mem {ss : List Sy} (hall : ss.all sysOk = true) {n : Nat} : n ∈ rnL ss ↔ Rn ss n := by
  unfold rnL
  rw [List.mem_filter, List.mem_range, decide_eq_true_iff]
  exact ⟨fun h => h.2, fun h => ⟨h.lt hall, h⟩⟩
theorem rnL_sorted (ss : List Sy) : (rnL ss).Pairwise (· < ·) := List.Pairwise.filter _ List.pairwise_lt_range
open Classical in
theorem rkN_succ (ss : List Sy) (n : Nat) : (Rn ss n → rkN ss (n + 1) = rkN ss n + 1) ∧ (¬ Rn ss n → rkN ss (n + 1) = rkN ss n) := by
  unfold rkN
  rw [List.range_succ, List.filter_append, List.length_append]
  constructor
  · intro h
    simp [h]
  · intro h
    simp [h]
theorem rkN_all (ss : List Sy) : rkN ss (prodL (szP ss)) = (rnL ss).length := rfl
theorem rkN_mono (ss : List Sy) : ∀ {a b : Nat}, a ≤ b → rkN ss a ≤ rkN ss b := by
  intro a b h
  obtain ⟨k, rfl⟩ := Nat.exists_eq_add_of_le h
  clear h
  induction k with
  | zero => exact Nat.le_refl _
  | succ k ih =>
    by_cases hr : Rn ss (a + k)
    · have := (rkN_succ ss (a + k)).1 hr
      rw [← Nat.add_assoc]; omega
    · have := (rkN_succ ss (a + k)).2 hr
      rw [← Nat.add_assoc]; omega
theorem rkN_lt {ss : List Sy} {a b : Nat} (ha : Rn ss a) (h : a < b) : rkN ss a < rkN ss b := by
  have h1 := (rkN_succ ss a).1 ha
  have h2 := rkN_mono ss (show a + 1 ≤ b from h)
  omega
theorem rkN_inj {ss : List Sy} {a b : Nat} (ha : Rn ss a) (hb : Rn ss b) (h : rkN ss a = rkN ss b) : a = b := by
  rcases Nat.lt_trichotomy a b with k | k | k
  · have := rkN_lt ha k; omega
  · exact k
  · have := rkN_lt hb k; omega
theorem rkN_below {ss : List Sy} (hall : ss.all sysOk = true) {n : Nat} (h : Rn ss n) : rkN ss n < (rnL ss).length := by
  rw [← rkN_all]
  exact rkN_lt h (h.lt hall)
open Classical in
theorem filter_below : ∀ (N k : Nat) (p : Nat → Bool), k ≤ N → ((List.range N).filter p).filter (fun m => decide (m < k)) = (List.range k).filter p := by
  intro N k p hk
  rw [List.filter_filter]
  obtain ⟨d, rfl⟩ := Nat.exists_eq_add_of_le hk
  clear hk
  induction d with
  | zero =>
    refine List.filter_congr fun x hx => ?_
    rw [Nat.add_zero, List.mem_range] at hx
    simp [hx]
  | succ d ih =>
    rw [← Nat.add_assoc, List.range_succ, List.filter_append, ih]
    have : ¬ (k + d < k) := by omega
    simp [this]
/-- The node of a number. -/
theorem rnL_get {ss : List Sy} (hall : ss.all sysOk = true) {i : Nat} (hi : i < (rnL ss).length) : rkN ss (rnL ss)[i] = i := by
  have hs := rnL_sorted ss
  have hm : (rnL ss)[i] ∈ rnL ss := List.getElem_mem hi
  have hlt := ((rnL_mem hall).1 hm).lt hall
  unfold rkN
  rw [← filter_below (prodL (szP ss)) _ _ (Nat.le_of_lt hlt)]
  show ((rnL ss).filter fun m => decide (m < (rnL ss)[i])).length = i
  have : ((rnL ss).filter fun m => decide (m < (rnL ss)[i])) = (rnL ss).take i := by
    generalize rnL ss = l at *
    generalize hx : l[i] = x at *
    have e : l = l.take i ++ l.drop i := (List.take_append_drop i l).symm
    have h1 : (l.take i).filter (fun m => decide (m < x)) = l.take i := by
      rw [List.filter_eq_self]
      intro a ha
      obtain ⟨j, hj, rfl⟩ := List.getElem_of_mem ha
      rw [List.length_take] at hj
      rw [List.getElem_take, ← hx]
      exact decide_eq_true (List.pairwise_iff_getElem.1 hs j i (by omega) hi (by omega))
    have h2 : (l.drop i).filter (fun m => decide (m < x)) = [] := by
      rw [List.filter_eq_nil_iff]
      intro a ha
      obtain ⟨j, hj, rfl⟩ := List.getElem_of_mem ha
      rw [List.length_drop] at hj
      rw [List.getElem_drop]
      rw [← hx]
      simp only [decide_eq_true_eq]
      by_cases h0 : j = 0
      · subst h0; simp
      · have := List.pairwise_iff_getElem.1 hs i (i + j) hi (by omega) (by omega)
        omega
    conv => lhs; rw [e]
    rw [List.filter_append, h1, h2, List.append_nil]
  rw [this, List.length_take]
  omega

/-- The nodes next to a node lie in order. -/
theorem stepQ_sorted (s : Sy) (q l : Nat) : (stepQ s q l).Pairwise (· < ·) := by
  unfold stepQ
  split
  · exact memL_sorted _
  · simp
theorem nxParts_cons_eq (s : Sy) (ss : List Sy) (l node : Nat) : nxParts (s :: ss) node l = (stepQ s (node / prodL (szP ss)) l).flatMap fun q => (nxParts ss node l).map fun r => q * prodL (szP ss) + r := by
  unfold nxParts
  show (pst (s :: ss) l node (ss.length + 1)).re = _
  rw [pst_cons_last]
  obtain ⟨h1, h2⟩ := pst_parts ss l node
  unfold pstep joinN
  simp only
  rw [h1, h2]
theorem flat_sorted {P : Nat} {re : List Nat} (hre : re.Pairwise (· < ·)) (hlt : ∀ r ∈ re, r < P) : ∀ {qs : List Nat}, qs.Pairwise (· < ·) → (qs.flatMap fun q => re.map fun r => q * P + r).Pairwise (· < ·)
  | [], _ => List.Pairwise.nil
  | q :: qs, h => by
    rw [List.flatMap_cons, List.pairwise_append]
    rw [List.pairwise_cons] at h
    refine ⟨?_, flat_sorted hre hlt h.2, ?_⟩
    · rw [List.pairwise_map]
      exact hre.imp fun h => by omega
    · intro a ha b hb
      obtain ⟨r, hr, rfl⟩ := List.mem_map.1 ha
      obtain ⟨q', hq', hb⟩ := List.mem_flatMap.1 hb
      obtain ⟨r', hr', rfl⟩ := List.mem_map.1 hb
      have h1 := h.1 q' hq'
      have h2 := hlt r hr
      have h3 : (q + 1) * P ≤ q' * P := Nat.mul_le_mul_right _ h1
      rw [Nat.add_mul] at h3
      omega
theorem nxParts_sorted : ∀ {ss : List Sy}, ss.all sysOk = true → ∀ n l, (nxParts ss n l).Pairwise (· < ·)
  | [], _, n, l => by show [0].Pairwise (· < ·); simp
  | s :: ss, hall, n, l => by
    rw [List.all_cons, Bool.and_eq_true] at hall
    rw [nxParts_cons_eq]
    exact flat_sorted (nxParts_sorted hall.2 n l) (nxParts_lt hall.2 n l) (stepQ_sorted _ _ _)
theorem sorted_ext : ∀ {a b : List Nat}, a.Pairwise (· < ·) → b.Pairwise (· < ·) → (∀ x, x ∈ a ↔ x ∈ b) → a = b
  | [], [], _, _, _ => rfl
  | [], y :: b, _, _, h => absurd ((h y).2 List.mem_cons_self) (by simp)
  | x :: a, [], _, _, h => absurd ((h x).1 List.mem_cons_self) (by simp)
  | x :: a, y :: b, ha, hb, h => by
    rw [List.pairwise_cons] at ha hb
    have e : x = y := by
      have h1 := (h x).1 List.mem_cons_self
      have h2 := (h y).2 List.mem_cons_self
      rcases List.mem_cons.1 h1 with h1 | h1
      · exact h1
      · rcases List.mem_cons.1 h2 with h2 | h2
        · exact h2.symm
        · have := ha.1 y h2
          have := hb.1 x h1
          omega
    subst e
    rw [sorted_ext ha.2 hb.2 fun z => ?_]
    constructor
    · intro hz
      rcases List.mem_cons.1 ((h z).1 (List.mem_cons_of_mem _ hz)) with rfl | hz'
      · exact absurd (ha.1 _ hz) (Nat.lt_irrefl _)
      · exact hz'
    · intro hz
      rcases List.mem_cons.1 ((h z).2 (List.mem_cons_of_mem _ hz)) with rfl | hz'
      · exact absurd (hb.1 _ hz) (Nat.lt_irrefl _)
      · exact hz'
theorem chP1_sorted {s : Sy} (hs : sysOk s = true) (q l : Nat) : (chP1 s q l).Pairwise (· < ·) := by
  unfold chP1
  split
  · have hp := (edges_pairwise hs).filter fun e => e.f.toNat == q && e.l.toNat == l
    rw [List.pairwise_map]
    refine hp.imp_of_mem ?_
    intro a b ha hb hlt
    rw [List.mem_filter] at ha hb
    simp only [Bool.and_eq_true, beq_iff_eq] at ha hb
    have h1 := sysOk_in hs a ha.1
    have h2 := sysOk_in hs b hb.1
    have e1 : a.f = b.f := by omega
    have e2 : a.l = b.l := by omega
    unfold edgeLt at hlt
    rw [if_neg (by simpa using e1), if_neg (by simpa using e2)] at hlt
    have h3 := of_decide_eq_true hlt
    omega
  · simp
theorem stepN_sorted {a : Nat} {c out : List Nat} (hc : c.Pairwise (· < ·)) (hlt : ∀ x ∈ c, x < a) (ho : out.Pairwise (· < ·)) : (stepN a c out).Pairwise (· < ·) := flat_sorted hc hlt ho
theorem nxK_sorted {ss : List Nat} {C : Nat → List Nat} (hC : ∀ i, i < ss.length → (C i).Pairwise (· < ·) ∧ ∀ x ∈ C i, x < ss.getD i 1) : ∀ k, k ≤ ss.length → (nxK ss C k).Pairwise (· < ·)
  | 0, _ => by show [0].Pairwise (· < ·); simp
  | k + 1, hk => stepN_sorted (hC k (by omega)).1 (hC k (by omega)).2 (nxK_sorted hC k (by omega))
/-- Both lay the nodes next to a node in one order. -/
theorem nx_eq {xs : List Sy} (hall : xs.all sysOk = true) (n l : Nat) : nxN (szP xs) (chP xs) n l = nxParts xs n l := by
  refine sorted_ext ?_ (nxParts_sorted hall n l) fun m => nx_same xs hall n l m
  unfold nxN
  refine nxK_sorted (fun i hi => ?_) _ (Nat.le_refl _)
  have hi' : i < xs.length := by unfold szP at hi; rwa [List.length_map] at hi
  have hs := List.all_eq_true.1 hall _ (List.getElem_mem hi')
  rw [chP_at hi']
  refine ⟨chP1_sorted hs _ _, fun x hx => ?_⟩
  have hd := decS_lt (ss := szP xs) (fun a ha => (szP_ok hall a ha).1) n i hi
  have e : (szP xs)[i] = xs[i].st.toNat := by simp [szP]
  rw [e] at hd
  have := chP1_lt hs hd x hx
  rw [List.getD_eq_getElem?_getD, List.getElem?_eq_getElem hi, Option.getD_some, e]
  exact this

/-- The edges of the composition that leave a node. -/
noncomputable def cmRow (ss : List Sy) (n : Nat) : List Ed := (letters (allAl ss)).flatMap fun l => (nxParts ss n l).map fun m => ⟨(rkN ss n : Int), (l : Int), (rkN ss m : Int)⟩
noncomputable def cmEs (ss : List Sy) : List Ed := (rnL ss).flatMap fun n => cmRow ss n
noncomputable def cmSy (ss : List Sy) : Sy := ⟨allAl ss, ((rnL ss).length : Nat), cmEs ss⟩
/-- Two systems can be composed. -/
noncomputable def cmOk (s t : Sy) : Bool := sysOk s && (sysOk t && decide ((rnL [s, t]).length ≤ 16))
noncomputable def cmX (s t : Sy) : Sy := if cmOk s t = true then cmSy [s, t] else ⟨0, 0, []⟩

/-- A search for the reached nodes under way: all up to the i-th are gone through. -/
structure RnB (ss : List Sy) (ps : List Nat) (i : Nat) : Prop where
  nodup : ps.Nodup
  zero : 0 ∈ ps
  sound : ∀ p ∈ ps, Rn ss p
  done : ∀ j (h : j < ps.length), j < i → ∀ l ∈ letters (allAl ss), ∀ m ∈ nxParts ss ps[j] l, m ∈ ps
theorem RnB.all {ss : List Sy} {ps : List Nat} (h : RnB ss ps ps.length) (n : Nat) : n ∈ ps ↔ Rn ss n := by
  constructor
  · exact h.sound n
  · rintro ⟨r, hr⟩
    induction r generalizing n with
    | nil => rw [List.mem_singleton.1 hr]; exact h.zero
    | cons l r ih =>
      obtain ⟨hl, m, hm, hn⟩ := hr
      obtain ⟨j, hj, rfl⟩ := List.getElem_of_mem (ih m hm)
      exact h.done j hj hj l hl n hn
theorem RnB.perm {ss : List Sy} (hall : ss.all sysOk = true) {ps : List Nat} (h : RnB ss ps ps.length) : ps.Perm (rnL ss) := by
  refine (List.perm_ext_iff_of_nodup h.nodup ?_).2 fun n => ?_
  · exact (rnL_sorted ss).imp fun h => Nat.ne_of_lt h
  · rw [h.all, rnL_mem hall]
theorem RnB.many {ss : List Sy} (hall : ss.all sysOk = true) {ps : List Nat} {i : Nat} (h : RnB ss ps i) : ps.length ≤ (rnL ss).length := by
  have : ∀ (l m : List Nat), l.Nodup → (∀ x ∈ l, x ∈ m) → l.length ≤ m.length := by
    intro l
    induction l with
    | nil => intro m _ _; exact Nat.zero_le _
    | cons a l ih =>
      intro m hd hs
      rw [List.nodup_cons] at hd
      have ha := hs a List.mem_cons_self
      have h1 := ih (m.erase a) hd.2 fun x hx => by
        refine (List.mem_erase_of_ne ?_).2 (hs x (List.mem_cons_of_mem _ hx))
        rintro rfl
        exact hd.1 hx
      rw [List.length_erase_of_mem ha] at h1
      have := List.length_pos_of_mem ha
      rw [List.length_cons]
      omega
  exact this ps _ h.nodup fun x hx => (rnL_mem hall).2 (h.sound x hx)

end Go.Proofs.YtdkjnemakkppfaaDoor

/- Plain: what systems composed do. -/
namespace Go.Proofs.YtdkjnemakkppfaaDoor
open AG

theorem edgeLt_f {a b : Ed} (h : a.f < b.f) : edgeLt a b = true := by unfold edgeLt; rw [if_pos (by omega)]; exact decide_eq_true h
theorem edgeLt_l {a b : Ed} (h0 : a.f = b.f) (h : a.l < b.l) : edgeLt a b = true := by unfold edgeLt; rw [if_neg (by simpa using h0), if_pos (by omega)]; exact decide_eq_true h
theorem edgeLt_t {a b : Ed} (h0 : a.f = b.f) (h1 : a.l = b.l) (h : a.t < b.t) : edgeLt a b = true := by unfold edgeLt; rw [if_neg (by simpa using h0), if_neg (by simpa using h1)]; exact decide_eq_true h
theorem edgeLt_irrefl (a : Ed) : edgeLt a a = false := by unfold edgeLt; simp
theorem edgeLt_asymm {a b : Ed} (h : edgeLt a b = true) (h' : edgeLt b a = true) : False := by
  unfold edgeLt at h h'
  by_cases e1 : a.f = b.f
  · rw [if_neg (by simpa using e1)] at h
    rw [if_neg (by simpa using e1.symm)] at h'
    by_cases e2 : a.l = b.l
    · rw [if_neg (by simpa using e2)] at h
      rw [if_neg (by simpa using e2.symm)] at h'
      have := of_decide_eq_true h
      have := of_decide_eq_true h'
      omega
    · rw [if_pos e2] at h
      rw [if_pos (fun h => e2 h.symm)] at h'
      have := of_decide_eq_true h
      have := of_decide_eq_true h'
      omega
  · rw [if_pos e1] at h
    rw [if_pos (fun h => e1 h.symm)] at h'
    have := of_decide_eq_true h
    have := of_decide_eq_true h'
    omega
theorem flatMap_cong {α β : Type} {l : List α} {f g : α → List β} (h : ∀ a ∈ l, f a = g a) : l.flatMap f = l.flatMap g := by
  rw [List.flatMap_def, List.flatMap_def, List.map_congr_left h]
/-- Edges in order are known by their members. -/
theorem edges_ext : ∀ {a b : List Ed}, (a.Pairwise fun x y => edgeLt x y = true) → (b.Pairwise fun x y => edgeLt x y = true) → (∀ x, x ∈ a ↔ x ∈ b) → a = b
  | [], [], _, _, _ => rfl
  | [], y :: b, _, _, h => absurd ((h y).2 List.mem_cons_self) (by simp)
  | x :: a, [], _, _, h => absurd ((h x).1 List.mem_cons_self) (by simp)
  | x :: a, y :: b, ha, hb, h => by
    rw [List.pairwise_cons] at ha hb
    have e : x = y := by
      have h1 := (h x).1 List.mem_cons_self
      have h2 := (h y).2 List.mem_cons_self
      rcases List.mem_cons.1 h1 with h1 | h1
      · exact h1
      · rcases List.mem_cons.1 h2 with h2 | h2
        · exact h2.symm
        · exact (edgeLt_asymm (ha.1 y h2) (hb.1 x h1)).elim
    subst e
    rw [edges_ext ha.2 hb.2 fun z => ?_]
    have hn : ∀ {c : List Ed}, (∀ y ∈ c, edgeLt x y = true) → x ∉ c := fun {c} hc hx => by
      have := hc x hx
      rw [edgeLt_irrefl] at this
      cases this
    constructor
    · intro hz
      rcases List.mem_cons.1 ((h z).1 (List.mem_cons_of_mem _ hz)) with rfl | hz'
      · exact absurd hz (hn ha.1)
      · exact hz'
    · intro hz
      rcases List.mem_cons.1 ((h z).2 (List.mem_cons_of_mem _ hz)) with rfl | hz'
      · exact absurd hz (hn hb.1)
      · exact hz'

section
variable {ss : List Sy}
theorem cmEs_mem (hall : ss.all sysOk = true) {e : Ed} : e ∈ cmEs ss ↔ ∃ n l m, Rn ss n ∧ l ∈ letters (allAl ss) ∧ m ∈ nxParts ss n l ∧ e = ⟨(rkN ss n : Int), (l : Int), (rkN ss m : Int)⟩ := by
  unfold cmEs cmRow
  rw [List.mem_flatMap]
  constructor
  · rintro ⟨n, hn, h⟩
    obtain ⟨l, hl, h⟩ := List.mem_flatMap.1 h
    obtain ⟨m, hm, rfl⟩ := List.mem_map.1 h
    exact ⟨n, l, m, (rnL_mem hall).1 hn, hl, hm, rfl⟩
  · rintro ⟨n, l, m, hn, hl, hm, rfl⟩
    exact ⟨n, (rnL_mem hall).2 hn, List.mem_flatMap.2 ⟨l, hl, List.mem_map.2 ⟨m, hm, rfl⟩⟩⟩
theorem cmEs_sorted (hall : ss.all sysOk = true) : (cmEs ss).Pairwise fun a b => edgeLt a b = true := by
  unfold cmEs
  rw [List.pairwise_flatMap]
  refine ⟨fun n hn => ?_, (rnL_sorted ss).imp_of_mem fun {a b} ha hb hab x hx y hy => ?_⟩
  · have hn := (rnL_mem hall).1 hn
    unfold cmRow
    rw [List.pairwise_flatMap]
    refine ⟨fun l hl => ?_, (letters_sorted _).imp fun {a b} hab x hx y hy => ?_⟩
    · rw [List.pairwise_map]
      refine (nxParts_sorted hall n l).imp_of_mem fun {a b} ha hb hab => edgeLt_t rfl rfl ?_
      exact Int.ofNat_lt.2 (rkN_lt (hn.step hl ha) hab)
    · obtain ⟨p, -, rfl⟩ := List.mem_map.1 hx
      obtain ⟨q, -, rfl⟩ := List.mem_map.1 hy
      exact edgeLt_l rfl (Int.ofNat_lt.2 hab)
  · unfold cmRow at hx hy
    obtain ⟨l, -, hx⟩ := List.mem_flatMap.1 hx
    obtain ⟨p, -, rfl⟩ := List.mem_map.1 hx
    obtain ⟨l', -, hy⟩ := List.mem_flatMap.1 hy
    obtain ⟨q, -, rfl⟩ := List.mem_map.1 hy
    exact edgeLt_f (Int.ofNat_lt.2 (rkN_lt ((rnL_mem hall).1 ha) hab))
theorem rnL_pos (hall : ss.all sysOk = true) : 1 ≤ (rnL ss).length := List.length_pos_of_mem ((rnL_mem hall).2 (Rn.zero ss))
theorem cmSy_ok (hall : ss.all sysOk = true) (h16 : (rnL ss).length ≤ 16) : sysOk (cmSy ss) = true := by
  have h1 := rnL_pos hall
  refine sysOk_of (allAl_ok hall) ⟨by show (1 : Int) ≤ ((rnL ss).length : Nat); omega, by show (((rnL ss).length : Nat) : Int) ≤ 16; omega⟩ (fun e he => ?_) (cmEs_sorted hall)
  obtain ⟨n, l, m, hn, hl, hm, rfl⟩ := (cmEs_mem hall).1 he
  have k1 := rkN_below hall hn
  have k2 := rkN_below hall (hn.step hl hm)
  obtain ⟨k3, k4⟩ := letters_lt hl
  show (decide _ && Has (allAl ss) ((l : Int).toNat)) = true
  rw [Int.toNat_natCast, (letters_ok.1 hl).2, Bool.and_true, decide_eq_true_iff]
  show (0 : Int) ≤ (rkN ss n : Int) ∧ (rkN ss n : Int) < ((rnL ss).length : Nat) ∧ (0 : Int) ≤ (rkN ss m : Int) ∧ (rkN ss m : Int) < ((rnL ss).length : Nat) ∧ (0 : Int) ≤ (l : Int) ∧ (l : Int) < 6
  omega
end

/-- Nodes that correspond in their order. -/
theorem cm_iso {ss ts : List Sy} (hs : ss.all sysOk = true) (ht : ts.all sysOk = true) (hal : allAl ss = allAl ts) (f : Nat → Nat) (h0 : f 0 = 0) (hm : ∀ a b, Rn ss a → Rn ss b → a < b → f a < f b)
    (hn : ∀ n, Rn ss n → ∀ l ∈ letters (allAl ss), ∀ m, m ∈ nxParts ts (f n) l ↔ ∃ k ∈ nxParts ss n l, m = f k) : cmSy ss = cmSy ts ∧ (rnL ss).length = (rnL ts).length := by
  have h1 : ∀ r n, RW (fun m => m ∈ [0]) (letters (allAl ss)) (nxParts ss) r n → RW (fun m => m ∈ [0]) (letters (allAl ts)) (nxParts ts) r (f n) := by
    intro r
    induction r with
    | nil => intro n h; rw [List.mem_singleton.1 h, h0]; exact List.mem_singleton.2 rfl
    | cons l r ih =>
      rintro n ⟨hl, m, hr, hx⟩
      exact ⟨by rw [← hal]; exact hl, f m, ih m hr, (hn m ⟨r, hr⟩ l hl _).2 ⟨n, hx, rfl⟩⟩
  have h2 : ∀ r m, RW (fun m => m ∈ [0]) (letters (allAl ts)) (nxParts ts) r m → ∃ n, RW (fun m => m ∈ [0]) (letters (allAl ss)) (nxParts ss) r n ∧ m = f n := by
    intro r
    induction r with
    | nil => intro m h; exact ⟨0, List.mem_singleton.2 rfl, by rw [List.mem_singleton.1 h, h0]⟩
    | cons l r ih =>
      rintro m ⟨hl, k, hr, hx⟩
      obtain ⟨n, hn', rfl⟩ := ih k hr
      have hl' : l ∈ letters (allAl ss) := by rw [hal]; exact hl
      obtain ⟨j, hj, rfl⟩ := (hn n ⟨r, hn'⟩ l hl' m).1 hx
      exact ⟨j, ⟨hl', n, hn', hj⟩, rfl⟩
  have hL : rnL ts = (rnL ss).map f := by
    refine sorted_ext (rnL_sorted ts) ?_ fun x => ?_
    · rw [List.pairwise_map]
      exact (rnL_sorted ss).imp_of_mem fun {a b} ha hb hab => hm a b ((rnL_mem hs).1 ha) ((rnL_mem hs).1 hb) hab
    · rw [rnL_mem ht, List.mem_map]
      constructor
      · rintro ⟨r, hr⟩
        obtain ⟨n, hn', rfl⟩ := h2 r x hr
        exact ⟨n, (rnL_mem hs).2 ⟨r, hn'⟩, rfl⟩
      · rintro ⟨n, hn', rfl⟩
        obtain ⟨r, hr⟩ := (rnL_mem hs).1 hn'
        exact ⟨r, h1 r n hr⟩
  have hk : ∀ n, Rn ss n → rkN ts (f n) = rkN ss n := fun n hn' => by
    obtain ⟨i, hi, rfl⟩ := List.getElem_of_mem ((rnL_mem hs).2 hn')
    have hi' : i < (rnL ts).length := by rw [hL, List.length_map]; exact hi
    have e : (rnL ts)[i] = f (rnL ss)[i] := by simp [hL]
    rw [rnL_get hs hi, ← e, rnL_get ht hi']
  have hnx : ∀ n, Rn ss n → ∀ l ∈ letters (allAl ss), nxParts ts (f n) l = (nxParts ss n l).map f := fun n hn' l hl => by
    refine sorted_ext (nxParts_sorted ht _ _) ?_ fun x => ?_
    · rw [List.pairwise_map]
      exact (nxParts_sorted hs n l).imp_of_mem fun {a b} ha hb hab => hm a b (hn'.step hl ha) (hn'.step hl hb) hab
    · rw [hn n hn' l hl x, List.mem_map]
      exact ⟨fun ⟨k, h, e⟩ => ⟨k, h, e.symm⟩, fun ⟨k, h, e⟩ => ⟨k, h, e.symm⟩⟩
  have hlen : (rnL ss).length = (rnL ts).length := by rw [hL, List.length_map]
  have hes : cmEs ss = cmEs ts := by
    unfold cmEs
    rw [hL, List.flatMap_map]
    refine flatMap_cong fun n hn' => ?_
    have hn' := (rnL_mem hs).1 hn'
    unfold cmRow
    rw [← hal]
    refine flatMap_cong fun l hl => ?_
    rw [hnx n hn' l hl, List.map_map]
    refine List.map_congr_left fun m hm' => ?_
    show (⟨_, _, _⟩ : Ed) = ⟨_, _, _⟩
    rw [hk n hn', hk m (hn'.step hl hm')]
  exact ⟨by unfold cmSy; rw [hal, hlen, hes], hlen⟩

end Go.Proofs.YtdkjnemakkppfaaDoor

/- Plain: compositions of three, of trimmed systems, with neutral systems, and where compositions are stuck. -/
namespace Go.Proofs.YtdkjnemakkppfaaDoor
open AG

/-- One system alone: its node is its state. -/
theorem nxParts_one {s : Sy} (n l : Nat) : nxParts [s] n l = stepQ s n l := by
  rw [nxParts_cons_eq]
  show ((stepQ s (n / 1) l).flatMap fun q => ([0] : List Nat).map fun r => q * 1 + r) = _
  rw [Nat.div_one]
  simp
theorem prod_one (s : Sy) : prodL (szP [s]) = s.st.toNat := by show s.st.toNat * 1 = _; rw [Nat.mul_one]
/-- The steps of a composition. -/
theorem stepQ_cm {ss : List Sy} (hall : ss.all sysOk = true) (h16 : (rnL ss).length ≤ 16) {n : Nat} (hn : Rn ss n) {l : Nat} (hl6 : l < 6) (x : Nat) : x ∈ stepQ (cmSy ss) (rkN ss n) l ↔ if l ∈ letters (allAl ss) then ∃ m ∈ nxParts ss n l, x = rkN ss m else x = rkN ss n := by
  have hlt := rkN_below hall hn
  have hz : HasZ (cmSy ss).al (l : Int) = true ↔ l ∈ letters (allAl ss) := by
    rw [letters_ok]
    unfold HasZ
    show (decide ((0 : Int) ≤ (l : Int)) && Has (allAl ss) (l : Int).toNat) = true ↔ _
    simp [hl6]
  have hmod : rkN ss n % (cmSy ss).st.toNat = rkN ss n := by
    show rkN ss n % (((rnL ss).length : Nat) : Int).toNat = _
    rw [Int.toNat_natCast, Nat.mod_eq_of_lt hlt]
  unfold stepQ
  rw [hmod]
  by_cases hl : l ∈ letters (allAl ss)
  · rw [if_pos (hz.2 hl), if_pos hl, memL_mem, mv_testBit]
    constructor
    · rintro ⟨-, -, e, he, h1, h2, h3⟩
      obtain ⟨n', l', m, hn', hl', hm, rfl⟩ := (cmEs_mem hall).1 he
      have e1 : rkN ss n' = rkN ss n := by simpa using h1
      have e2 : l' = l := by simpa using h2
      have e3 : rkN ss m = x := by simpa using h3
      subst e2
      obtain rfl := rkN_inj hn' hn e1
      exact ⟨m, hm, e3.symm⟩
    · rintro ⟨m, hm, rfl⟩
      have := rkN_below hall (hn.step hl hm)
      exact ⟨by omega, by omega, _, (cmEs_mem hall).2 ⟨n, l, m, hn, hl, hm, rfl⟩, Int.toNat_natCast _, Int.toNat_natCast _, Int.toNat_natCast _⟩
  · rw [if_neg (fun h => hl (hz.1 h)), if_neg hl, List.mem_singleton]


/- Lists of systems that are taken together. -/
theorem prod_append (xs ys : List Sy) : prodL (szP (xs ++ ys)) = prodL (szP xs) * prodL (szP ys) := by
  induction xs with
  | nil => show prodL (szP ys) = 1 * _; rw [Nat.one_mul]
  | cons x xs ih =>
    show x.st.toNat * prodL (szP (xs ++ ys)) = x.st.toNat * prodL (szP xs) * prodL (szP ys)
    rw [ih, Nat.mul_assoc]
theorem prodP_pos {ss : List Sy} (hall : ss.all sysOk = true) : 0 < prodL (szP ss) := prodL_pos fun a ha => (szP_ok hall a ha).1
theorem nxParts_append {ys : List Sy} (l n : Nat) : ∀ (xs : List Sy) (m : Nat), m ∈ nxParts (xs ++ ys) n l ↔ ∃ a ∈ nxParts xs (n / prodL (szP ys)) l, ∃ b ∈ nxParts ys n l, m = a * prodL (szP ys) + b
  | [], m => by
    show m ∈ nxParts ys n l ↔ ∃ a ∈ [0], ∃ b ∈ nxParts ys n l, m = a * prodL (szP ys) + b
    constructor
    · intro h; exact ⟨0, List.mem_singleton.2 rfl, m, h, by simp⟩
    · rintro ⟨a, ha, b, hb, rfl⟩
      rw [List.mem_singleton.1 ha, Nat.zero_mul, Nat.zero_add]
      exact hb
  | x :: xs, m => by
    show m ∈ nxParts (x :: (xs ++ ys)) n l ↔ _
    rw [nxParts_cons, prod_append]
    have e : n / (prodL (szP xs) * prodL (szP ys)) = n / prodL (szP ys) / prodL (szP xs) := by rw [Nat.div_div_eq_div_mul, Nat.mul_comm]
    rw [e]
    constructor
    · rintro ⟨q, hq, r, hr, rfl⟩
      obtain ⟨a, ha, b, hb, rfl⟩ := (nxParts_append l n xs r).1 hr
      refine ⟨q * prodL (szP xs) + a, (nxParts_cons x xs l _ _).2 ⟨q, hq, a, ha, rfl⟩, b, hb, ?_⟩
      rw [Nat.add_mul, Nat.mul_assoc, Nat.add_assoc]
    · rintro ⟨a', ha', b, hb, rfl⟩
      obtain ⟨q, hq, a, ha, rfl⟩ := (nxParts_cons x xs l _ _).1 ha'
      refine ⟨q, hq, a * prodL (szP ys) + b, (nxParts_append l n xs _).2 ⟨a, ha, b, hb, rfl⟩, ?_⟩
      rw [Nat.add_mul, Nat.mul_assoc, Nat.add_assoc]
theorem PR_append {ys : List Sy} (r : List Nat) : ∀ (xs : List Sy) (n : Nat), PR (xs ++ ys) r n ↔ ∃ a b, PR xs r a ∧ PR ys r b ∧ n = a * prodL (szP ys) + b
  | [], n => by
    show PR ys r n ↔ ∃ a b, a = 0 ∧ PR ys r b ∧ n = a * prodL (szP ys) + b
    constructor
    · intro h; exact ⟨0, n, rfl, h, by simp⟩
    · rintro ⟨a, b, rfl, h, rfl⟩; simpa using h
  | x :: xs, n => by
    show (∃ q m, (setW x (flt x r)).testBit q = true ∧ PR (xs ++ ys) r m ∧ n = q * prodL (szP (xs ++ ys)) + m) ↔ ∃ a b, (∃ q m, (setW x (flt x r)).testBit q = true ∧ PR xs r m ∧ a = q * prodL (szP xs) + m) ∧ PR ys r b ∧ n = a * prodL (szP ys) + b
    rw [prod_append]
    constructor
    · rintro ⟨q, m, hq, hm, rfl⟩
      obtain ⟨a, b, ha, hb, rfl⟩ := (PR_append r xs m).1 hm
      exact ⟨_, b, ⟨q, a, hq, ha, rfl⟩, hb, by rw [Nat.add_mul, Nat.mul_assoc, Nat.add_assoc]⟩
    · rintro ⟨a', b, ⟨q, a, hq, ha, rfl⟩, hb, rfl⟩
      exact ⟨q, a * prodL (szP ys) + b, hq, (PR_append r xs _).2 ⟨a, b, ha, hb, rfl⟩, by rw [Nat.add_mul, Nat.mul_assoc, Nat.add_assoc]⟩
theorem letters_part {ss : List Sy} {s : Sy} (hall : ss.all sysOk = true) (hs : s ∈ ss) {l : Nat} (h : l ∈ letters s.al) : l ∈ letters (allAl ss) := by
  rw [letters_ok] at h ⊢
  exact ⟨h.1, Has_part hall hs l h.2⟩
theorem flt_filter {s : Sy} {A : Int} (h : ∀ l ∈ letters s.al, l ∈ letters A) (r : List Nat) : flt s (r.filter fun l => decide (l ∈ letters A)) = flt s r := by
  unfold flt
  rw [List.filter_filter]
  refine List.filter_congr fun x _ => ?_
  by_cases hx : x ∈ letters s.al
  · simp [hx, h x hx]
  · simp [hx]
theorem PR_filter {A : Int} (r : List Nat) : ∀ (ss : List Sy) (n : Nat), (∀ s ∈ ss, ∀ l ∈ letters s.al, l ∈ letters A) → (PR ss (r.filter fun l => decide (l ∈ letters A)) n ↔ PR ss r n)
  | [], n, _ => Iff.rfl
  | s :: ss, n, h => by
    show (∃ q m, (setW s (flt s (r.filter _))).testBit q = true ∧ PR ss (r.filter _) m ∧ _) ↔ ∃ q m, (setW s (flt s r)).testBit q = true ∧ PR ss r m ∧ _
    rw [flt_filter (h s List.mem_cons_self) r]
    constructor
    · rintro ⟨q, m, h1, h2, h3⟩; exact ⟨q, m, h1, (PR_filter r ss m fun x hx => h x (List.mem_cons_of_mem _ hx)).1 h2, h3⟩
    · rintro ⟨q, m, h1, h2, h3⟩; exact ⟨q, m, h1, (PR_filter r ss m fun x hx => h x (List.mem_cons_of_mem _ hx)).2 h2, h3⟩
theorem Rn_of_PR {ss : List Sy} (hall : ss.all sysOk = true) {r : List Nat} {n : Nat} (h : PR ss r n) : Rn ss n :=
  ⟨_, (RW_PR hall (r.filter fun l => decide (l ∈ letters (allAl ss))) n).2 ⟨fun l hl => by simpa using (List.mem_filter.1 hl).2, (PR_filter r ss n fun s hs l hl => letters_part hall hs hl).2 h⟩⟩
theorem all_append {xs ys : List Sy} (h : (xs ++ ys).all sysOk = true) : xs.all sysOk = true ∧ ys.all sysOk = true := by
  rw [List.all_append, Bool.and_eq_true] at h
  exact h
/-- A reached node, split in two. -/
theorem Rn_split {xs ys : List Sy} (hall : (xs ++ ys).all sysOk = true) {n : Nat} (h : Rn (xs ++ ys) n) : Rn xs (n / prodL (szP ys)) ∧ Rn ys (n % prodL (szP ys)) := by
  obtain ⟨h1, h2⟩ := all_append hall
  obtain ⟨r, hr⟩ := h
  obtain ⟨a, b, ha, hb, rfl⟩ := (PR_append r xs n).1 ((RW_PR hall r n).1 hr).2
  have hlt := PR_lt h2 hb
  have hp := prodP_pos h2
  rw [Nat.mul_comm, Nat.mul_add_div hp, Nat.div_eq_of_lt hlt, Nat.add_zero, Nat.mul_add_mod, Nat.mod_eq_of_lt hlt]
  exact ⟨Rn_of_PR h1 ha, Rn_of_PR h2 hb⟩
theorem nxParts_mod {ss : List Sy} (n l x : Nat) : x ∈ nxParts ss (n % prodL (szP ss)) l ↔ x ∈ nxParts ss n l := by
  have := nxParts_shift ss (n / prodL (szP ss)) (n % prodL (szP ss)) l x
  rw [Nat.mul_comm, Nat.div_add_mod] at this
  exact this.symm
theorem nxParts_out : ∀ {ss : List Sy}, ss.all sysOk = true → ∀ {l n : Nat}, (∀ s ∈ ss, l ∉ letters s.al) → n < prodL (szP ss) → l < 6 → ∀ x, x ∈ nxParts ss n l ↔ x = n
  | [], _, l, n, _, hn, _, x => by
    have : n = 0 := by have : n < 1 := hn; omega
    rw [this]
    show x ∈ [0] ↔ _
    rw [List.mem_singleton]
  | s :: ss, hall, l, n, hout, hn, h6, x => by
    rw [List.all_cons, Bool.and_eq_true] at hall
    have hp := prodP_pos hall.2
    have hn' : n < s.st.toNat * prodL (szP ss) := hn
    have hq : n / prodL (szP ss) < s.st.toNat := Nat.div_lt_of_lt_mul (by rw [Nat.mul_comm]; exact hn')
    have hz : HasZ s.al (l : Int) = false := by
      rw [← Bool.not_eq_true]
      intro h
      refine hout s List.mem_cons_self (letters_ok.2 ⟨h6, ?_⟩)
      unfold HasZ at h
      simpa using h
    rw [nxParts_cons]
    have h2 : ∀ r, r ∈ nxParts ss n l ↔ r = n % prodL (szP ss) := fun r => by
      rw [← nxParts_mod n l r]
      exact nxParts_out hall.2 (fun y hy => hout y (List.mem_cons_of_mem _ hy)) (Nat.mod_lt _ hp) h6 r
    have h1 : ∀ q, q ∈ stepQ s (n / prodL (szP ss)) l ↔ q = n / prodL (szP ss) := fun q => by
      unfold stepQ
      rw [if_neg (by rw [hz]; decide), Nat.mod_eq_of_lt hq, List.mem_singleton]
    have hdm : n / prodL (szP ss) * prodL (szP ss) + n % prodL (szP ss) = n := by rw [Nat.mul_comm]; exact Nat.div_add_mod n _
    constructor
    · rintro ⟨q, hq, r, hr, rfl⟩
      rw [(h1 q).1 hq, (h2 r).1 hr, hdm]
    · rintro rfl
      exact ⟨_, (h1 _).2 rfl, _, (h2 _).2 rfl, hdm.symm⟩

theorem letters_all {ss : List Sy} (hall : ss.all sysOk = true) {l : Nat} : l ∈ letters (allAl ss) ↔ ∃ s ∈ ss, l ∈ letters s.al := by
  constructor
  · intro h
    rw [letters_ok, (Has_all ss l hall).1] at h
    obtain ⟨h6, h⟩ := h
    unfold cntAl at h
    have h := of_decide_eq_true h
    obtain ⟨s, hs, h2⟩ := List.countP_pos_iff.1 h
    exact ⟨s, hs, letters_ok.2 ⟨h6, h2⟩⟩
  · rintro ⟨s, hs, h⟩
    exact letters_part hall hs h
/-- The steps of a composition are those of its parts. -/
theorem stepQ_cm_nx {ss : List Sy} (hall : ss.all sysOk = true) (h16 : (rnL ss).length ≤ 16) {n : Nat} (hn : Rn ss n) {l : Nat} (hl6 : l < 6) (x : Nat) : x ∈ stepQ (cmSy ss) (rkN ss n) l ↔ ∃ m ∈ nxParts ss n l, x = rkN ss m := by
  rw [stepQ_cm hall h16 hn hl6]
  split
  · exact Iff.rfl
  · next h =>
    have := nxParts_out hall (l := l) (n := n) (fun s hs hl => h (letters_part hall hs hl)) (hn.lt hall) hl6
    constructor
    · rintro rfl; exact ⟨n, (this n).2 rfl, rfl⟩
    · rintro ⟨m, hm, rfl⟩; rw [(this m).1 hm]
theorem Rn_next {ss : List Sy} (hall : ss.all sysOk = true) {n : Nat} (hn : Rn ss n) {l m : Nat} (hl6 : l < 6) (hm : m ∈ nxParts ss n l) : Rn ss m := by
  by_cases hl : l ∈ letters (allAl ss)
  · exact hn.step hl hm
  · rw [(nxParts_out hall (l := l) (n := n) (fun s hs h => hl (letters_part hall hs h)) (hn.lt hall) hl6 m).1 hm]
    exact hn
theorem cm_alone {ss : List Sy} (hall : ss.all sysOk = true) (h16 : (rnL ss).length ≤ 16) : ([cmSy ss] : List Sy).all sysOk = true := by
  rw [List.all_cons, cmSy_ok hall h16]; rfl
theorem allAl_cons {s : Sy} {ss : List Sy} (hall : (s :: ss).all sysOk = true) {l : Nat} : l ∈ letters (allAl (s :: ss)) ↔ l ∈ letters s.al ∨ ∃ x ∈ ss, l ∈ letters x.al := by
  rw [letters_all hall]
  simp
theorem has_far {A : Int} (h : 0 ≤ A ∧ A ≤ 63) {c : Nat} (hc : 6 ≤ c) : Has A c = false := by
  obtain ⟨n, rfl⟩ := Int.eq_ofNat_of_zero_le h.1
  rw [Has_nat]
  refine Nat.testBit_lt_two_pow (Nat.lt_of_lt_of_le (show n < 2 ^ 6 by omega) (Nat.pow_le_pow_right (by decide) hc))
theorem allAl_ext {ss ts : List Sy} (hs : ss.all sysOk = true) (ht : ts.all sysOk = true) (h : ∀ l, l ∈ letters (allAl ss) ↔ l ∈ letters (allAl ts)) : allAl ss = allAl ts := by
  refine Has_ext (allAl_range _ hs) (allAl_range _ ht) fun c => ?_
  by_cases h6 : c < 6
  · have := h c
    rw [letters_ok, letters_ok] at this
    rw [Bool.eq_iff_iff]
    exact ⟨fun h => (this.1 ⟨h6, h⟩).2, fun h => (this.2 ⟨h6, h⟩).2⟩
  · rw [has_far (allAl_range _ hs) (by omega), has_far (allAl_range _ ht) (by omega)]

/-- The first systems taken together. -/
theorem cm_left {xs ys : List Sy} (hall : (xs ++ ys).all sysOk = true) (h16 : (rnL xs).length ≤ 16) : cmSy (xs ++ ys) = cmSy (cmSy xs :: ys) ∧ (rnL (xs ++ ys)).length = (rnL (cmSy xs :: ys)).length := by
  obtain ⟨h1, h2⟩ := all_append hall
  have hcm := cmSy_ok h1 h16
  have hall2 : (cmSy xs :: ys).all sysOk = true := by rw [List.all_cons, hcm, h2]; rfl
  have hp := prodP_pos h2
  have hlt : ∀ {n}, Rn (xs ++ ys) n → rkN xs (n / prodL (szP ys)) < (rnL xs).length := fun h => rkN_below h1 (Rn_split hall h).1
  have hst : (cmSy xs).st.toNat = (rnL xs).length := Int.toNat_natCast _
  refine cm_iso hall hall2 ?_ (fun n => rkN xs (n / prodL (szP ys)) * prodL (szP ys) + n % prodL (szP ys)) ?_ ?_ ?_
  · refine allAl_ext hall hall2 fun l => ?_
    rw [letters_all hall, allAl_cons hall2]
    show _ ↔ l ∈ letters (allAl xs) ∨ _
    rw [letters_all h1]
    constructor
    · rintro ⟨s, hs, h⟩
      rcases List.mem_append.1 hs with hs | hs
      · exact .inl ⟨s, hs, h⟩
      · exact .inr ⟨s, hs, h⟩
    · rintro (⟨s, hs, h⟩ | ⟨s, hs, h⟩)
      · exact ⟨s, List.mem_append_left _ hs, h⟩
      · exact ⟨s, List.mem_append_right _ hs, h⟩
  · show rkN xs (0 / _) * _ + 0 % _ = 0
    rw [Nat.zero_div, Nat.zero_mod]
    show 0 * _ + 0 = 0
    rw [Nat.zero_mul]
  · intro a b ha hb hab
    have k1 := Nat.div_add_mod a (prodL (szP ys))
    have k2 := Nat.div_add_mod b (prodL (szP ys))
    have k3 := Nat.mod_lt a hp
    have k4 := Nat.mod_lt b hp
    have k5 : a / prodL (szP ys) ≤ b / prodL (szP ys) := Nat.div_le_div_right (Nat.le_of_lt hab)
    rcases Nat.lt_or_eq_of_le k5 with k | k
    · have := rkN_lt (Rn_split hall ha).1 k
      have h3 : (rkN xs (a / prodL (szP ys)) + 1) * prodL (szP ys) ≤ rkN xs (b / prodL (szP ys)) * prodL (szP ys) := Nat.mul_le_mul_right _ this
      rw [Nat.add_mul] at h3
      show rkN xs (a / prodL (szP ys)) * prodL (szP ys) + a % prodL (szP ys) < rkN xs (b / prodL (szP ys)) * prodL (szP ys) + b % prodL (szP ys)
      omega
    · show rkN xs (a / prodL (szP ys)) * prodL (szP ys) + a % prodL (szP ys) < rkN xs (b / prodL (szP ys)) * prodL (szP ys) + b % prodL (szP ys)
      rw [← k]
      rw [← k] at k2
      omega
  · intro n hn l hl m
    have hl6 := (letters_lt hl).1
    have hna := (Rn_split hall hn).1
    have e1 : (rkN xs (n / prodL (szP ys)) * prodL (szP ys) + n % prodL (szP ys)) / prodL (szP ys) = rkN xs (n / prodL (szP ys)) := by
      rw [Nat.mul_comm, Nat.mul_add_div hp, Nat.div_eq_of_lt (Nat.mod_lt _ hp), Nat.add_zero]
    have e2 : ∀ x, x ∈ nxParts ys (rkN xs (n / prodL (szP ys)) * prodL (szP ys) + n % prodL (szP ys)) l ↔ x ∈ nxParts ys n l := fun x => by
      rw [← nxParts_mod n l x]
      exact nxParts_shift ys _ _ l x
    rw [nxParts_cons, e1]
    have key : ∀ a b, Rn xs a → b < prodL (szP ys) → rkN xs ((a * prodL (szP ys) + b) / prodL (szP ys)) * prodL (szP ys) + (a * prodL (szP ys) + b) % prodL (szP ys) = rkN xs a * prodL (szP ys) + b := fun a b _ hb => by
      rw [Nat.mul_comm a, Nat.mul_add_div hp, Nat.div_eq_of_lt hb, Nat.add_zero, Nat.mul_add_mod, Nat.mod_eq_of_lt hb]
    constructor
    · rintro ⟨q, hq, r, hr, rfl⟩
      obtain ⟨a, ha, rfl⟩ := (stepQ_cm_nx h1 h16 hna hl6 q).1 hq
      have hr' := (e2 r).1 hr
      exact ⟨a * prodL (szP ys) + r, (nxParts_append l n xs _).2 ⟨a, ha, r, hr', rfl⟩, (key a r (Rn_next h1 hna hl6 ha) (nxParts_lt h2 n l r hr')).symm⟩
    · rintro ⟨k, hk, rfl⟩
      obtain ⟨a, ha, b, hb, rfl⟩ := (nxParts_append l n xs k).1 hk
      exact ⟨rkN xs a, (stepQ_cm_nx h1 h16 hna hl6 _).2 ⟨a, ha, rfl⟩, b, (e2 b).2 hb, key a b (Rn_next h1 hna hl6 ha) (nxParts_lt h2 n l b hb)⟩

/-- The last systems taken together. -/
theorem cm_right {xs ys : List Sy} (hall : (xs ++ ys).all sysOk = true) (h16 : (rnL ys).length ≤ 16) : cmSy (xs ++ ys) = cmSy (xs ++ [cmSy ys]) ∧ (rnL (xs ++ ys)).length = (rnL (xs ++ [cmSy ys])).length := by
  obtain ⟨h1, h2⟩ := all_append hall
  have hcm := cmSy_ok h2 h16
  have hall2 : (xs ++ [cmSy ys]).all sysOk = true := by rw [List.all_append, h1, cm_alone h2 h16]; rfl
  have hp := prodP_pos h2
  have hK := rnL_pos h2
  have hlt : ∀ {n}, Rn (xs ++ ys) n → rkN ys (n % prodL (szP ys)) < (rnL ys).length := fun h => rkN_below h2 (Rn_split hall h).2
  have hP : prodL (szP [cmSy ys]) = (rnL ys).length := by rw [prod_one]; exact Int.toNat_natCast _
  refine cm_iso hall hall2 ?_ (fun n => n / prodL (szP ys) * (rnL ys).length + rkN ys (n % prodL (szP ys))) ?_ ?_ ?_
  · refine allAl_ext hall hall2 fun l => ?_
    rw [letters_all hall, letters_all hall2]
    constructor
    · rintro ⟨s, hs, h⟩
      rcases List.mem_append.1 hs with hs | hs
      · exact ⟨s, List.mem_append_left _ hs, h⟩
      · exact ⟨_, List.mem_append_right _ (List.mem_singleton.2 rfl), letters_part h2 hs h⟩
    · rintro ⟨s, hs, h⟩
      rcases List.mem_append.1 hs with hs | hs
      · exact ⟨s, List.mem_append_left _ hs, h⟩
      · rw [List.mem_singleton.1 hs] at h
        obtain ⟨x, hx, h'⟩ := (letters_all h2).1 h
        exact ⟨x, List.mem_append_right _ hx, h'⟩
  · show 0 / _ * _ + rkN ys (0 % _) = 0
    rw [Nat.zero_div, Nat.zero_mod, Nat.zero_mul]
    rfl
  · intro a b ha hb hab
    have k1 := Nat.div_add_mod a (prodL (szP ys))
    have k2 := Nat.div_add_mod b (prodL (szP ys))
    have k5 : a / prodL (szP ys) ≤ b / prodL (szP ys) := Nat.div_le_div_right (Nat.le_of_lt hab)
    have j1 := hlt ha
    show a / prodL (szP ys) * (rnL ys).length + rkN ys (a % prodL (szP ys)) < b / prodL (szP ys) * (rnL ys).length + rkN ys (b % prodL (szP ys))
    rcases Nat.lt_or_eq_of_le k5 with k | k
    · have h3 : (a / prodL (szP ys) + 1) * (rnL ys).length ≤ b / prodL (szP ys) * (rnL ys).length := Nat.mul_le_mul_right _ k
      rw [Nat.add_mul] at h3
      omega
    · have : a % prodL (szP ys) < b % prodL (szP ys) := by rw [← k] at k2; omega
      have := rkN_lt (Rn_split hall ha).2 this
      rw [← k]
      omega
  · intro n hn l hl m
    have hl6 := (letters_lt hl).1
    have hnb := (Rn_split hall hn).2
    have e1 : (n / prodL (szP ys) * (rnL ys).length + rkN ys (n % prodL (szP ys))) / (rnL ys).length = n / prodL (szP ys) := by
      rw [Nat.mul_comm, Nat.mul_add_div hK, Nat.div_eq_of_lt (hlt hn), Nat.add_zero]
    have e2 : ∀ x, x ∈ nxParts [cmSy ys] (n / prodL (szP ys) * (rnL ys).length + rkN ys (n % prodL (szP ys))) l ↔ x ∈ stepQ (cmSy ys) (rkN ys (n % prodL (szP ys))) l := fun x => by
      have := nxParts_shift [cmSy ys] (n / prodL (szP ys)) (rkN ys (n % prodL (szP ys))) l x
      rw [hP] at this
      rw [this, nxParts_one]
    rw [nxParts_append l _ xs m, hP, e1]
    have key : ∀ a b, b < prodL (szP ys) → (a * prodL (szP ys) + b) / prodL (szP ys) * (rnL ys).length + rkN ys ((a * prodL (szP ys) + b) % prodL (szP ys)) = a * (rnL ys).length + rkN ys b := fun a b hb => by
      rw [Nat.mul_comm a, Nat.mul_add_div hp, Nat.div_eq_of_lt hb, Nat.add_zero, Nat.mul_add_mod, Nat.mod_eq_of_lt hb]
    constructor
    · rintro ⟨a, ha, b', hb', rfl⟩
      obtain ⟨b, hb, rfl⟩ := (stepQ_cm_nx h2 h16 hnb hl6 b').1 ((e2 b').1 hb')
      have hb2 := (nxParts_mod n l b).1 hb
      exact ⟨a * prodL (szP ys) + b, (nxParts_append l n xs _).2 ⟨a, ha, b, hb2, rfl⟩, (key a b (nxParts_lt h2 n l b hb2)).symm⟩
    · rintro ⟨k, hk, rfl⟩
      obtain ⟨a, ha, b, hb, rfl⟩ := (nxParts_append l n xs k).1 hk
      exact ⟨a, ha, rkN ys b, (e2 _).2 ((stepQ_cm_nx h2 h16 hnb hl6 _).2 ⟨b, (nxParts_mod n l b).2 hb, rfl⟩), key a b (nxParts_lt h2 n l b hb)⟩

end Go.Proofs.YtdkjnemakkppfaaDoor

/- Plain: compositions of trimmed systems, with neutral systems, turned around, deterministic, and where they are stuck. -/
namespace Go.Proofs.YtdkjnemakkppfaaDoor
open AG

theorem flt_self {s : Sy} {r : List Nat} (h : ∀ l ∈ r, l ∈ letters s.al) : flt s r = r := by
  unfold flt
  rw [List.filter_eq_self]
  exact fun l hl => decide_eq_true (h l hl)
theorem PR_one {s : Sy} {r : List Nat} {n : Nat} : PR [s] r n ↔ (setW s (flt s r)).testBit n = true := by
  show (∃ q m, (setW s (flt s r)).testBit q = true ∧ m = 0 ∧ n = q * 1 + m) ↔ _
  constructor
  · rintro ⟨q, m, h, rfl, rfl⟩; simpa using h
  · intro h; exact ⟨n, 0, h, rfl, by simp⟩
theorem all_one {s : Sy} (hs : sysOk s = true) : ([s] : List Sy).all sysOk = true := by rw [List.all_cons, hs]; rfl
theorem all_two {s t : Sy} (hs : sysOk s = true) (ht : sysOk t = true) : ([s, t] : List Sy).all sysOk = true := by rw [List.all_cons, List.all_cons, hs, ht]; rfl
theorem Rn_one {s : Sy} (hs : sysOk s = true) (n : Nat) : Rn [s] n ↔ (reachAll s).testBit n = true := by
  constructor
  · rintro ⟨r, hr⟩
    exact setW_reach hs _ _ (PR_one.1 ((RW_PR (all_one hs) r n).1 hr).2)
  · intro h
    obtain ⟨r, hr, hb⟩ := reach_word hs h
    exact Rn_of_PR (all_one hs) (r := r) (PR_one.2 (by rw [flt_self hr]; exact hb))
theorem rkN_one {s : Sy} (hs : sysOk s = true) : ∀ n, rkN [s] n = rankN (reachAll s) n
  | 0 => rfl
  | n + 1 => by
    rw [rankN, ← rkN_one hs n]
    by_cases h : Rn [s] n
    · rw [(rkN_succ [s] n).1 h, if_pos ((Rn_one hs n).1 h)]
    · rw [(rkN_succ [s] n).2 h, if_neg (fun k => h ((Rn_one hs n).2 k)), Nat.add_zero]
/-- A system alone is composed to itself without its states that are not reached. -/
theorem trim_cm {s : Sy} (hs : sysOk s = true) : trimSy s (reachAll s) = cmSy [s] := by
  have hall := all_one hs
  have h1 : (rnL [s]).length = rankN (reachAll s) s.st.toNat := by rw [← rkN_all, rkN_one hs, prod_one]
  have h2 : (trimSy s (reachAll s)).es = cmEs [s] := by
    refine edges_ext (edges_pairwise (trim_ok hs)) (cmEs_sorted hall) fun x => ?_
    rw [trim_mem, cmEs_mem hall]
    constructor
    · rintro ⟨e, he, h1, h2, rfl⟩
      have hin := sysOk_in hs e he
      refine ⟨e.f.toNat, e.l.toNat, e.t.toNat, (Rn_one hs _).2 h1, by rw [allAl_one hs]; exact letters_ok.2 ⟨by omega, hin.2.2.2.2.2.2.1⟩, ?_, ?_⟩
      · rw [nxParts_one]
        have hz : HasZ s.al ((e.l.toNat : Nat) : Int) = true := by unfold HasZ; rw [Int.toNat_natCast, hin.2.2.2.2.2.2.1, Bool.and_true]; exact decide_eq_true (by omega)
        unfold stepQ
        rw [if_pos hz, memL_mem, mv_testBit, Nat.mod_eq_of_lt (by omega)]
        exact ⟨by omega, by omega, e, he, rfl, rfl, rfl⟩
      · rw [rkN_one hs, rkN_one hs]
        unfold trimE
        congr 1
        omega
    · rintro ⟨n, l, m, hn, hl, hm, rfl⟩
      rw [allAl_one hs] at hl
      rw [nxParts_one] at hm
      have hnR := (Rn_one hs n).1 hn
      have hn' := hn.lt hall
      rw [prod_one] at hn'
      have hz : HasZ s.al (l : Int) = true := by unfold HasZ; simp [(letters_ok.1 hl).2]
      unfold stepQ at hm
      rw [if_pos hz, memL_mem, mv_testBit, Nat.mod_eq_of_lt hn'] at hm
      obtain ⟨-, -, e, he, rfl, rfl, rfl⟩ := hm
      refine ⟨e, he, hnR, reach_step hs he hnR, ?_⟩
      have hin := sysOk_in hs e he
      rw [rkN_one hs, rkN_one hs]
      unfold trimE
      congr 1
      omega
  show (⟨s.al, ((rankN (reachAll s) s.st.toNat : Nat) : Int), (trimSy s (reachAll s)).es⟩ : Sy) = ⟨allAl [s], ((rnL [s]).length : Nat), cmEs [s]⟩
  rw [h1, h2, allAl_one hs]
theorem rnL_one16 {s : Sy} (hs : sysOk s = true) : (rnL [s]).length ≤ 16 := by
  have := sysOk_st hs
  rw [← rkN_all, rkN_one hs, prod_one]
  have := rankN_le (reachAll s) s.st.toNat
  omega

/-- Trimmed systems are composed as the systems themselves. -/
theorem cm_trim {s t : Sy} (hs : sysOk s = true) (ht : sysOk t = true) : cmSy [trimSy s (reachAll s), trimSy t (reachAll t)] = cmSy [s, t] ∧ (rnL [trimSy s (reachAll s), trimSy t (reachAll t)]).length = (rnL [s, t]).length := by
  rw [trim_cm hs, trim_cm ht]
  have h1 := cm_left (xs := [s]) (ys := [t]) (all_two hs ht) (rnL_one16 hs)
  have h2 := cm_right (xs := [cmSy [s]]) (ys := [t]) (all_two (cmSy_ok (all_one hs) (rnL_one16 hs)) ht) (rnL_one16 ht)
  exact ⟨(h1.1.trans h2.1).symm, (h1.2.trans h2.2).symm⟩
/-- Compositions are trimmed. -/
theorem trim_of_cm {ss : List Sy} (hall : ss.all sysOk = true) (h16 : (rnL ss).length ≤ 16) : trimSy (cmSy ss) (reachAll (cmSy ss)) = cmSy ss := by
  rw [trim_cm (cmSy_ok hall h16)]
  have h := cm_left (xs := ss) (ys := []) (by rw [List.append_nil]; exact hall) h16
  rw [List.append_nil] at h
  exact h.1.symm
theorem rnL_le (ss : List Sy) : (rnL ss).length ≤ prodL (szP ss) := by
  unfold rnL
  exact Nat.le_trans (List.length_filter_le _ _) (by rw [List.length_range]; exact Nat.le_refl _)
/-- Deterministic systems have a deterministic composition. -/
theorem det_cm {ss : List Sy} (hall : ss.all sysOk = true) (h16 : (rnL ss).length ≤ 16) (hd : ∀ s ∈ ss, detB s = true) : detB (cmSy ss) = true := by
  have hok := cmSy_ok hall h16
  refine (detB_iff _).2 ⟨hok, (detAt_iff hok).2 ?_⟩
  intro a ha b hb _ hf hl
  obtain ⟨n, l, m, hn, hl', hm, rfl⟩ := (cmEs_mem hall).1 ha
  obtain ⟨n2, l2, m2, hn2, hl2, hm2, rfl⟩ := (cmEs_mem hall).1 hb
  have e1 : rkN ss n = rkN ss n2 := Int.ofNat_inj.1 hf
  have e2 : l = l2 := Int.ofNat_inj.1 hl
  subst e2
  obtain rfl := rkN_inj hn hn2 e1
  obtain ⟨r, hr⟩ := hn
  have k1 := (RW_PR hall (l :: r) m).1 ⟨hl', n, hr, hm⟩
  have k2 := (RW_PR hall (l :: r) m2).1 ⟨hl', n, hr, hm2⟩
  rw [PR_det hd k1.2 k2.2]

end Go.Proofs.YtdkjnemakkppfaaDoor

/- Plain: compositions as the laws ask for them. -/
namespace Go.Proofs.YtdkjnemakkppfaaDoor
open AG

theorem cmOk_parts {s t : Sy} (h : cmOk s t = true) : sysOk s = true ∧ sysOk t = true ∧ (rnL [s, t]).length ≤ 16 := by
  unfold cmOk at h
  simp only [Bool.and_eq_true, decide_eq_true_eq] at h
  exact h
theorem cmOk_of {s t : Sy} (hs : sysOk s = true) (ht : sysOk t = true) (h : (rnL [s, t]).length ≤ 16) : cmOk s t = true := by
  unfold cmOk
  rw [hs, ht, decide_eq_true h]
  rfl
theorem cmX_ok {s t : Sy} (h : cmOk s t = true) : cmX s t = cmSy [s, t] := by unfold cmX; rw [if_pos h]
theorem cmX_bad {s t : Sy} (h : cmOk s t = false) : cmX s t = ⟨0, 0, []⟩ := by unfold cmX; rw [h]; rfl
theorem cmX_sys {s t : Sy} (h : cmOk s t = true) : sysOk (cmX s t) = true := by
  obtain ⟨h1, h2, h3⟩ := cmOk_parts h
  rw [cmX_ok h]
  exact cmSy_ok (all_two h1 h2) h3
/-- Three systems can be grouped. -/
theorem cm_three {s t u : Sy} (h : cmOk s t = true) (k : cmOk t u = true) : cmOk (cmX s t) u = cmOk s (cmX t u) ∧ cmX (cmX s t) u = cmX s (cmX t u) := by
  obtain ⟨h1, h2, h3⟩ := cmOk_parts h
  obtain ⟨k1, k2, k3⟩ := cmOk_parts k
  have hall : ([s, t] ++ [u]).all sysOk = true := by rw [List.all_append, all_two h1 h2, all_one k2]; rfl
  have l1 := cm_left (xs := [s, t]) (ys := [u]) hall h3
  have l2 := cm_right (xs := [s]) (ys := [t, u]) hall k3
  have e1 : cmSy [cmSy [s, t], u] = cmSy [s, cmSy [t, u]] := l1.1.symm.trans l2.1
  have e2 : (rnL [cmSy [s, t], u]).length = (rnL [s, cmSy [t, u]]).length := l1.2.symm.trans l2.2
  have o1 := cmX_sys h
  have o2 := cmX_sys k
  rw [cmX_ok h] at o1 ⊢
  rw [cmX_ok k] at o2 ⊢
  have e3 : cmOk (cmSy [s, t]) u = cmOk s (cmSy [t, u]) := by
    unfold cmOk
    rw [o1, o2, h1, k2, e2]
  refine ⟨e3, ?_⟩
  unfold cmX
  rw [e3, e1]

/- How many edges a composition has. -/
end Go.Proofs.YtdkjnemakkppfaaDoor

/- Plain: a valid system has few edges. -/
namespace Go.Proofs.YtdkjnemakkppfaaDoor
open AG

theorem sorted_few : ∀ {l : List Nat} {a N : Nat}, l.Pairwise (· < ·) → (∀ x ∈ l, a ≤ x ∧ x < N) → l.length ≤ N - a
  | [], _, _, _, _ => Nat.zero_le _
  | x :: l, a, N, h, hb => by
    rw [List.pairwise_cons] at h
    have h1 := hb x List.mem_cons_self
    have h2 := sorted_few (a := x + 1) (N := N) h.2 fun y hy => ⟨h.1 y hy, (hb y (List.mem_cons_of_mem _ hy)).2⟩
    rw [List.length_cons]
    omega
theorem edges_few {s : Sy} (h : sysOk s = true) : s.es.length ≤ 1536 := by
  have hin := sysOk_in h
  have hp := edges_pairwise h
  have h1 : (s.es.map fun e => e.f.toNat * 96 + e.l.toNat * 16 + e.t.toNat).Pairwise (· < ·) := by
    rw [List.pairwise_map]
    refine hp.imp_of_mem ?_
    intro a b ha hb hlt
    have h2 := hin a ha
    have h3 := hin b hb
    unfold edgeLt at hlt
    split at hlt
    · have := of_decide_eq_true hlt; omega
    · split at hlt
      · have := of_decide_eq_true hlt; omega
      · have := of_decide_eq_true hlt; omega
  have h2 := sorted_few (a := 0) (N := 1536) h1 fun x hx => by
    obtain ⟨e, he, rfl⟩ := List.mem_map.1 hx
    have := hin e he
    exact ⟨Nat.zero_le _, by omega⟩
  simpa using h2

end Go.Proofs.YtdkjnemakkppfaaDoor
