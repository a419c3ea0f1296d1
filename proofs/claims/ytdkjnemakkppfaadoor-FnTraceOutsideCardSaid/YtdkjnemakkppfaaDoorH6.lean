/- Lemmas, part 6: several texts in one. -/
import Derived.Test.YtdkjnemakkppfaaDoorH3
import Derived.Test.YtdkjnemakkppfaaDoorH4
import Derived.Test.YtdkjnemakkppfaaDoorH1
import Derived.Test.YtdkjnemakkppfaaDoorH2
import Derived.ProofKit
import Derived.Deep.Slices
import Derived.Deep.Fields
import Derived.ChangeSame
import Derived.Test.YtdkjnemakkppfaaDoorH5
import Derived.ChangeSlices
set_option linter.unusedSimpArgs false
set_option linter.unusedVariables false

/- Plain: the reference's search for a first word: distances from the goals, then forward. -/
namespace Go.Proofs.YtdkjnemakkppfaaDoor
open AG

section
variable (L : List Nat) (nx : Nat → Nat → List Nat) (fd : Nat → Bool)
/-- Next to a node at a distance. -/
def nearB (f : Nat → Option Nat) (d n : Nat) : Bool := L.any fun l => (nx n l).any fun m => decide (f m = some d)
/-- The distances up to d. -/
def lay : Nat → Nat → Option Nat
  | 0, n => if fd n = true then some 0 else none
  | d + 1, n => match lay d n with
    | some e => some e
    | none => if nearB L nx (lay d) d n = true then some (d + 1) else none
end
section
variable {L : List Nat} {nx : Nat → Nat → List Nat} {fd : Nat → Bool} {N D s : Nat}
theorem near_iff {f : Nat → Option Nat} {d n : Nat} : nearB L nx f d n = true ↔ ∃ l ∈ L, ∃ m ∈ nx n l, f m = some d := by
  unfold nearB
  rw [List.any_eq_true]
  constructor
  · rintro ⟨l, hl, h⟩
    obtain ⟨m, hm, h⟩ := List.any_eq_true.1 h
    exact ⟨l, hl, m, hm, by simpa using h⟩
  · rintro ⟨l, hl, m, hm, h⟩
    exact ⟨l, hl, List.any_eq_true.2 ⟨m, hm, by simpa using h⟩⟩
theorem lay_succ (d n : Nat) : lay L nx fd (d + 1) n = match lay L nx fd d n with
    | some e => some e
    | none => if nearB L nx (lay L nx fd d) d n = true then some (d + 1) else none := rfl
theorem lay_le : ∀ {d n e : Nat}, lay L nx fd d n = some e → e ≤ d
  | 0, n, e, h => by
    unfold lay at h
    split at h
    · injection h with h; omega
    · cases h
  | d + 1, n, e, h => by
    rw [lay_succ] at h
    cases h1 : lay L nx fd d n with
    | some e' =>
      rw [h1] at h
      injection h with h
      have := lay_le h1
      omega
    | none =>
      rw [h1] at h
      dsimp only at h
      split at h
      · injection h with h; omega
      · cases h
theorem lay_up {d n e : Nat} (h : lay L nx fd d n = some e) : lay L nx fd (d + 1) n = some e := by rw [lay_succ, h]
theorem lay_mono {d n e : Nat} (h : lay L nx fd d n = some e) : ∀ k, lay L nx fd (d + k) n = some e
  | 0 => h
  | k + 1 => lay_up (lay_mono h k)
theorem lay_mono' {d d' n e : Nat} (h : lay L nx fd d n = some e) (hd : d ≤ d') : lay L nx fd d' n = some e := by
  have := lay_mono h (d' - d)
  rwa [show d + (d' - d) = d' from by omega] at this
theorem lay_at : ∀ {d n e : Nat}, lay L nx fd d n = some e → lay L nx fd e n = some e
  | 0, n, e, h => by
    have := lay_le h
    obtain rfl : e = 0 := by omega
    exact h
  | d + 1, n, e, h => by
    cases h1 : lay L nx fd d n with
    | some e' =>
      rw [lay_up h1] at h
      injection h with h
      subst h
      exact lay_at h1
    | none =>
      have h0 := h
      rw [lay_succ, h1] at h
      dsimp only at h
      split at h
      · injection h with h
        subst h
        exact h0
      · cases h
theorem lay_zero {d n : Nat} : lay L nx fd d n = some 0 ↔ fd n = true := by
  constructor
  · intro h
    have := lay_at h
    unfold lay at this
    split at this
    · assumption
    · cases this
  · intro h
    have : lay L nx fd 0 n = some 0 := by unfold lay; rw [if_pos h]
    exact lay_mono' this (Nat.zero_le _)
theorem lay_new {d n : Nat} (h : lay L nx fd d n = none) (hn : ∃ l ∈ L, ∃ m ∈ nx n l, lay L nx fd d m = some d) : lay L nx fd (d + 1) n = some (d + 1) := by
  rw [lay_succ, h]
  dsimp only
  rw [if_pos (near_iff.2 hn)]
theorem lay_step {d n e : Nat} (h : lay L nx fd d n = some (e + 1)) : ∃ l ∈ L, ∃ m ∈ nx n l, lay L nx fd d m = some e := by
  have hd := lay_le h
  have h1 := lay_at h
  cases h2 : lay L nx fd e n with
  | some e' =>
    rw [lay_up h2] at h1
    injection h1 with h1
    have := lay_le h2
    omega
  | none =>
    rw [lay_succ, h2] at h1
    dsimp only at h1
    split at h1
    · rename_i hn
      obtain ⟨l, hl, m, hm, h3⟩ := near_iff.1 hn
      exact ⟨l, hl, m, hm, lay_mono' h3 (by omega)⟩
    · cases h1
/-- The distances do not change any more. -/
def Still (L : List Nat) (nx : Nat → Nat → List Nat) (fd : Nat → Bool) (N D : Nat) : Prop := ∀ n, n < N → lay L nx fd (D + 1) n = lay L nx fd D n
theorem lay_back (hs : Still L nx fd N D) {n l m e : Nat} (hn : n < N) (hl : l ∈ L) (hm : m ∈ nx n l) (h : lay L nx fd D m = some e) : ∃ e', e' ≤ e + 1 ∧ lay L nx fd D n = some e' := by
  have he := lay_le h
  cases h2 : lay L nx fd e n with
  | some e' => exact ⟨e', by have := lay_le h2; omega, lay_mono' h2 he⟩
  | none =>
    have h3 := lay_new h2 ⟨l, hl, m, hm, lay_at h⟩
    rcases Nat.lt_or_ge e D with hlt | hge
    · exact ⟨e + 1, Nat.le_refl _, lay_mono' h3 hlt⟩
    · obtain rfl : e = D := by omega
      rw [hs n hn] at h3
      exact ⟨_, Nat.le_refl _, h3⟩
theorem RW_lt (hN : ∀ n, n < N → ∀ l ∈ L, ∀ m ∈ nx n l, m < N) (hs : s < N) : ∀ {q : List Nat} {n : Nat}, RW (fun m => m ∈ [s]) L nx q n → n < N
  | [], n, h => by
    change n ∈ [s] at h
    rw [List.mem_singleton.1 h]
    exact hs
  | l :: q, n, h => by
    obtain ⟨hl, m, hm, hn⟩ := h
    exact hN m (RW_lt hN hs hm) l hl n hn
theorem lay_from (hst : Still L nx fd N D) (hN : ∀ n, n < N → ∀ l ∈ L, ∀ m ∈ nx n l, m < N) (hs : s < N) : ∀ {q : List Nat} {n e : Nat}, RW (fun m => m ∈ [s]) L nx q n → lay L nx fd D n = some e → ∃ e', e' ≤ q.length + e ∧ lay L nx fd D s = some e'
  | [], n, e, h, h1 => by
    change n ∈ [s] at h
    rw [List.mem_singleton.1 h] at h1
    exact ⟨e, by simp, h1⟩
  | l :: q, n, e, h, h1 => by
    obtain ⟨hl, m, hm, hn⟩ := h
    obtain ⟨e1, h2, h3⟩ := lay_back hst (RW_lt hN hs hm) hl hn h1
    obtain ⟨e2, h4, h5⟩ := lay_from hst hN hs hm h3
    exact ⟨e2, by rw [List.length_cons]; omega, h5⟩
/-- The nodes at a distance to which a letter leads from some nodes. -/
def clo (L : List Nat) (nx : Nat → Nat → List Nat) (fd : Nat → Bool) (D : Nat) (at_ : List Nat) (l d : Nat) : List Nat := dd ((at_.flatMap fun n => nx n l).filter fun m => decide (lay L nx fd D m = some d))
theorem clo_mem {at_ : List Nat} {l d m : Nat} : m ∈ clo L nx fd D at_ l d ↔ ∃ n ∈ at_, m ∈ nx n l ∧ lay L nx fd D m = some d := by
  unfold clo
  rw [dd_mem, List.mem_filter, List.mem_flatMap, decide_eq_true_iff]
  constructor
  · rintro ⟨⟨n, h1, h2⟩, h3⟩
    exact ⟨n, h1, h2, h3⟩
  · rintro ⟨n, h1, h2, h3⟩
    exact ⟨⟨n, h1, h2⟩, h3⟩
theorem rlt_of_len : ∀ {r q : List Nat}, r.length < q.length → rlt r q
  | [], [], h => by simp at h
  | [], _ :: _, _ => trivial
  | _ :: _, [], h => by simp at h
  | _ :: r, _ :: q, h => .inl (rlt_of_len (by simpa using h))
/-- The state of the way forward: d letters are still to come. -/
structure Fwd (L : List Nat) (nx : Nat → Nat → List Nat) (fd : Nat → Bool) (D s D0 : Nat) (r at_ : List Nat) (d : Nat) : Prop where
  len : r.length + d = D0
  mem : ∀ n, n ∈ at_ ↔ RW (fun m => m ∈ [s]) L nx r n ∧ lay L nx fd D n = some d
  least : ∀ p n, p.length = r.length → RW (fun m => m ∈ [s]) L nx p n → lay L nx fd D n = some d → rle r p
  ne : ∃ n, n ∈ at_
theorem Fwd.start {D0 : Nat} (h : lay L nx fd D s = some D0) : Fwd L nx fd D s D0 [] [s] D0 := by
  refine ⟨by simp, fun n => ?_, fun p n hp _ _ => ?_, ⟨s, by simp⟩⟩
  · rw [List.mem_singleton]
    constructor
    · rintro rfl
      exact ⟨List.mem_singleton.2 rfl, h⟩
    · rintro ⟨h1, _⟩
      exact List.mem_singleton.1 h1
  · rw [List.eq_nil_of_length_eq_zero hp]
    exact rle_refl _
theorem Fwd.some_ {D0 d : Nat} {r at_ : List Nat} (h : Fwd L nx fd D s D0 r at_ (d + 1)) : ∃ k, ∃ (hk : k < L.length), clo L nx fd D at_ L[k] d ≠ [] := by
  obtain ⟨n, hn⟩ := h.ne
  obtain ⟨_, h2⟩ := (h.mem n).1 hn
  obtain ⟨l, hl, m, hm, h3⟩ := lay_step h2
  obtain ⟨k, hk, e⟩ := List.mem_iff_getElem.1 hl
  refine ⟨k, hk, fun h0 => ?_⟩
  have : m ∈ clo L nx fd D at_ L[k] d := clo_mem.2 ⟨n, hn, by rw [e]; exact hm, h3⟩
  rw [h0] at this
  cases this
theorem Fwd.next (hst : Still L nx fd N D) (hN : ∀ n, n < N → ∀ l ∈ L, ∀ m ∈ nx n l, m < N) (hs : s < N) (hL : L.Pairwise (· < ·)) {D0 d k : Nat} {r at_ : List Nat} (h : Fwd L nx fd D s D0 r at_ (d + 1)) (h0 : lay L nx fd D s = some D0)
    (hk : k < L.length) (hne : clo L nx fd D at_ L[k] d ≠ []) (hmin : ∀ j (hj : j < L.length), j < k → clo L nx fd D at_ L[j] d = []) : Fwd L nx fd D s D0 (L[k] :: r) (clo L nx fd D at_ L[k] d) d := by
  have hlen := h.len
  have key : ∀ {p : List Nat} {m l n : Nat}, p.length = r.length → RW (fun m => m ∈ [s]) L nx p m → l ∈ L → n ∈ nx m l → lay L nx fd D n = some d → lay L nx fd D m = some (d + 1) := by
    intro p m l n hp hm hl hn h1
    obtain ⟨e1, h2, h3⟩ := lay_back hst (RW_lt hN hs hm) hl hn h1
    obtain ⟨e2, h4, h5⟩ := lay_from hst hN hs hm h3
    rw [h0] at h5
    injection h5 with h5
    obtain rfl : e1 = d + 1 := by omega
    exact h3
  refine ⟨by rw [List.length_cons]; omega, fun n => ?_, fun p n hp hn h1 => ?_, ?_⟩
  · rw [clo_mem]
    constructor
    · rintro ⟨m, hm, h1, h2⟩
      exact ⟨⟨List.getElem_mem hk, m, ((h.mem m).1 hm).1, h1⟩, h2⟩
    · rintro ⟨⟨_, m, hm, h1⟩, h2⟩
      exact ⟨m, (h.mem m).2 ⟨hm, key rfl hm (List.getElem_mem hk) h1 h2⟩, h1, h2⟩
  · cases p with
    | nil => simp at hp
    | cons l p =>
      obtain ⟨hl, m, hm, hn⟩ := hn
      have hpl : p.length = r.length := by simpa using hp
      have hm1 := key hpl hm hl hn h1
      rcases h.least p m hpl hm hm1 with hlt | rfl
      · exact .inl (.inl hlt)
      · obtain ⟨j, hj, rfl⟩ := List.mem_iff_getElem.1 hl
        rcases Nat.lt_trichotomy j k with hjk | rfl | hjk
        · have := hmin j hj hjk
          have hmem : n ∈ clo L nx fd D at_ L[j] d := clo_mem.2 ⟨m, (h.mem m).2 ⟨hm, hm1⟩, hn, h1⟩
          rw [this] at hmem
          cases hmem
        · exact rle_refl _
        · exact .inl (.inr ⟨rfl, List.pairwise_iff_getElem.1 hL k j hk hj hjk⟩)
  · cases hc : clo L nx fd D at_ L[k] d with
    | nil => exact absurd hc hne
    | cons x xs => exact ⟨x, List.mem_cons_self⟩
theorem Fwd.done (hst : Still L nx fd N D) (hN : ∀ n, n < N → ∀ l ∈ L, ∀ m ∈ nx n l, m < N) (hs : s < N) {D0 : Nat} {r at_ : List Nat} (h : Fwd L nx fd D s D0 r at_ 0) (h0 : lay L nx fd D s = some D0) : FirstW (fun m => m ∈ [s]) L nx (fun n => fd n = true) r := by
  have hlen := h.len
  obtain ⟨n, hn⟩ := h.ne
  obtain ⟨h1, h2⟩ := (h.mem n).1 hn
  refine ⟨⟨n, h1, lay_zero.1 h2⟩, fun q m hm hf => ?_⟩
  have h3 : lay L nx fd D m = some 0 := lay_zero.2 hf
  obtain ⟨e, h4, h5⟩ := lay_from hst hN hs hm h3
  rw [h0] at h5
  injection h5 with h5
  by_cases he : q.length = r.length
  · exact h.least q m he hm h3
  · exact .inl (rlt_of_len (by omega))
end

end Go.Proofs.YtdkjnemakkppfaaDoor

/- Plain: systems that run together: the nodes of both searches, how long first words are. -/
namespace Go.Proofs.YtdkjnemakkppfaaDoor
open AG

/- Two ways to write the steps that have the same members on the nodes below N. -/
/- How long a first word is. -/
theorem RW_path {I : Nat → Prop} {L : List Nat} {nx : Nat → Nat → List Nat} : ∀ (r : List Nat) (n : Nat), RW I L nx r n → ∃ ms : List Nat, ∃ hl : ms.length = r.length + 1, ∀ i (hi : i < ms.length), RW I L nx (r.drop i) ms[i] ∧ ∀ u, RW I L nx u ms[i] → RW I L nx (r.take i ++ u) n
  | [], n, h => ⟨[n], rfl, fun i hi => by
    obtain rfl : i = 0 := by simpa using hi
    exact ⟨h, fun u hu => hu⟩⟩
  | l :: r, n, h => by
    obtain ⟨hl, m, hm, hx⟩ := h
    obtain ⟨ms, hml, hms⟩ := RW_path r m hm
    refine ⟨n :: ms, by simp [hml], fun i hi => ?_⟩
    cases i with
    | zero => exact ⟨⟨hl, m, hm, hx⟩, fun u hu => hu⟩
    | succ i =>
      obtain ⟨h1, h2⟩ := hms i (by simpa using hi)
      exact ⟨h1, fun u hu => ⟨hl, m, h2 u hu, hx⟩⟩
/- The program's nodes, from the first system on. -/
/- The reference's nodes, from the first system on. -/
end Go.Proofs.YtdkjnemakkppfaaDoor

/- How a slice of edges, a system, a slice of systems read as data: opened to cells. -/
namespace AG
open Go Go.RowKit Go.ChangeShapes Go.WideShapes Go.Deep

section
variable {H : Type} {enc : TypeId × Value → H} {P : Program} {w : World} {base : Nat} {spare : Nat → Bool} {held : Bool}
theorem add_at (b o n : Nat) : (⟨b, o, none⟩ : Addr).add n = ⟨b, o + n, none⟩ := by
  unfold Addr.add
  split
  · subst_vars; rfl
  · rfl

end

section
variable {H : Type} {enc : TypeId × Value → H} {P : Program}
/-- An argument reads behind the call as it did. -/
theorem trod_later {t : TypeId} (hl : laidOutB P = true) (hr : P.readableRec t = true) (hrow : t < P.types.size) {W W' : World} {v : Value} {d : DataW H} {ps : List MemPlace} {sp : Nat → Bool}
    (h : DataW.Trod enc P W 0 (fun _ => true) true t v d ps) (hb : Below W.heap.size W W') (hlt : ∀ x ∈ ps, x.block < W.heap.size) (hsp : ∀ x ∈ ps, sp x.block = true) : DataW.Trod enc P W' 0 sp true t v d ps :=
  WideElems.Trod_stays hl hr hrow h (fun x hx => hb.same (hlt x hx)) hsp
/-- The row's last step where of the world behind the call 'Below' is known. -/
theorem post_of_below {f : Func} {s : ChangeSpec} {apart fresh handsOn again : Bool} {W W' : World} {args : Array Value} {v : Value} {ds gs : List (DataW H)} {before pa pv : List MemPlace}
    (hW : DataW.Whole enc P f.params.toList s.vars apart W args.toList ds gs before)
    (hres : ∀ (b : Nat) (sp : Nat → Bool) (hd : Bool), DataW.TrodAll enc P W' b sp hd f.resultTypes.toList (v.resultList f.resultTypes.size) (s.fn H (ds ++ gs)).results [])
    (hargs : ∀ sp : Nat → Bool, (∀ p ∈ before, sp p.block = true) → DataW.TrodAll enc P W' 0 sp true f.params.toList args.toList (s.fn H (ds ++ gs)).args pa)
    (hvars : ∀ sp : Nat → Bool, (∀ p ∈ before, sp p.block = true) → DataW.TrodVars enc P W' sp s.vars (s.fn H (ds ++ gs)).vars pv)
    (hps : before = pa ++ pv) (hb : Below W.heap.size W W')
    (hok : ∀ (j : Nat) (t : TypeId) (r : Value), f.resultTypes[j]? = some t → (v.resultList f.resultTypes.size)[j]? = some r → Value.okWide P W' .any 0 t r) :
    s.post enc P f apart fresh handsOn again W args v W' := by
  have hlt : ∀ p ∈ before, p.block < W.heap.size := fun p hp => hW.lt p hp
  have hold : ∀ p ∈ before, (fun b => decide (b < W.heap.size)) p.block = true := fun p hp => by simpa using hlt p hp
  refine ⟨ds, gs, before, [], pa, pv, hW, hres _ _ _, hargs _ hold, hvars _ hold, World.keptBut_mono (fun p hp => ⟨hp, ?_⟩) (hb.frame (· ∈ before)), fun _ => ?_⟩
  · rw [hps, List.mem_append] at hp
    exact Or.inr hp
  · obtain ⟨_, _, _, _, _, hz, hn⟩ := hW
    refine ⟨hok, _, _, ([] ++ pa) ++ pv, ⟨[] ++ pa, pv, trodAll_append (hargs _ (fun _ _ => rfl)) (hres _ _ _), hvars _ (fun _ _ => rfl), rfl, ?_, ?_⟩, ?_⟩
    · intro b off hp
      have hin : MemPlace.cell b off ∈ before := by rw [hps]; simpa using hp
      rw [hb.frozen (hlt _ hin)]
      exact hz b off hin
    · intro ha
      have := hn ha
      rw [hps] at this
      simpa using this
    · intro p hp _
      rw [hps]
      simpa using hp
end
end AG

/- A slice of bytes that came in. -/
namespace Go.Proofs.YtdkjnemakkppfaaDoor
open Go.RowKit Go.ChangeShapes Go.WideShapes AG

theorem cells_u8 : Tryd.prog.cellsOf 5 = 1 := by kernel_rfl

theorem open_code {H : Type} {enc : TypeId × Value → H} {W : World} {A : Option Addr} {n c fuel : Nat} {x : DataW H × List MemPlace} (h : DataW.trod enc Tryd.prog W 0 (fun _ => true) true fuel 35 [.slice A n c] = some x) :
    n ≤ c ∧ c ≤ 9223372036854775807 ∧ CodeAt W A n := by
  rcases open_ints Tryd.underlying35 Tryd.underlying5 cells_u8 h with ⟨hcs, _⟩ | ⟨a, len, cap, zs, hcs, _, hl, hm, hz, _, hcell, hwf⟩
  · simp only [List.cons.injEq, Value.slice.injEq, and_true] at hcs
    obtain ⟨rfl, rfl, rfl⟩ := hcs
    exact ⟨Nat.le_refl _, by omega, fun h => by omega⟩
  · simp only [List.cons.injEq, Value.slice.injEq, and_true] at hcs
    obtain ⟨rfl, rfl, rfl⟩ := hcs
    unfold maxLen at hm
    simp only [if_true] at hz
    refine ⟨hl, by omega, fun hn => ?_⟩
    obtain ⟨b, o, sp⟩ := a
    have hsp : sp = none := by simpa [Addr.add] using World.cell?_spot (hcell 0 (by omega))
    subst hsp
    refine ⟨b, o, rfl, World.block_lt_of_cell? _ _ (by simpa [Addr.add] using hcell 0 (by omega)), fun i hi => ?_⟩
    have h1 := hcell i (by omega)
    rw [add_at] at h1
    have hmem : zs.getD i 0 ∈ zs := by
      have : i < zs.length := by omega
      rw [List.getD_eq_getElem?_getD, List.getElem?_eq_getElem this]
      exact List.getElem_mem _
    have h2 := hwf _ hmem
    have h3 : 0 ≤ zs.getD i 0 ∧ zs.getD i 0 < 256 := by
      have h4 : IntKind.u8.min ≤ zs.getD i 0 ∧ zs.getD i 0 ≤ IntKind.u8.max := by simpa [Lit.wf] using h2
      have e1 : IntKind.u8.min = 0 := by decide
      have e2 : IntKind.u8.max = 255 := by decide
      omega
    obtain ⟨y, hy⟩ := Int.eq_ofNat_of_zero_le h3.1
    rw [hy] at h1
    exact ⟨y, by omega, h1⟩

end Go.Proofs.YtdkjnemakkppfaaDoor

/- The drawing kit once more: systems that are read from texts of one-digit numbers. -/
namespace Go.Proofs.YtdkjnemakkppfaaDoor
open Go.RowKit Go.BigFrame AG

def OnePost (s : ByteArray) (w : World) (e : Ending) (w' : World) : Prop := ∃ (n : Int) (b : Bool), e = .returned (.tuple #[.int .i64 n, .bool b]) ∧ n ≤ 9 ∧ (b = true → s.size = 1) ∧ w = w'

set_option maxHeartbeats 2000000 in
theorem l19Num_one (s : ByteArray) (w : World) (hz : s.size ≤ 1) : Calls Tryd.prog 118 #[.string s] w (OnePost s w) := by
  by_cases h0 : s.size = 0
  · go_enter Tryd.func118, Tryd.ntmps118
    go_wp2
    go_ret2
    exact ⟨_, _, rfl, by decide, fun h => (by cases h), rfl⟩
  · have hp : 0 < s.size := by omega
    have h1 : s.size = 1 := by omega
    have hpos : (0 : Int) < (s.size : Int) := by omega
    obtain ⟨y, hy, hy2⟩ := byte_some s 0 hp
    have a1 : ((s.size : Int) == 0) = false := by rw [beq_eq_false_iff_ne]; omega
    by_cases h45 : y = 45
    · have hneg2 : ((y : Int) == 45) = true := by rw [beq_iff_eq]; omega
      obtain ⟨t, ht⟩ : ∃ t, s.extract 1 s.size = t := ⟨_, rfl⟩
      have htz : t.size = 0 := by rw [← ht, ByteArray.size_extract]; omega
      have hle : (1 : Int) ≤ (s.size : Int) := by omega
      have a2 : ((t.size : Int) == 0) = true := by rw [beq_iff_eq]; omega
      replace h1 := hid h1
      replace h45 := hid h45
      go_enter Tryd.func118, Tryd.ntmps118
      go_wp2
      go_ret2
      exact ⟨_, _, rfl, by decide, fun h => (by cases h), rfl⟩
    · have hneg2 : ((y : Int) == 45) = false := by rw [beq_eq_false_iff_ne]; omega
      have a2 : decide (17 < (s.size : Int)) = false := by simp; omega
      have a4 : decide (1 < (s.size : Int)) = false := by simp; omega
      have hs1 := hid h1
      obtain ⟨g, hg⟩ : ∃ g : Bool, Hid (g = ((y : Int) == 48)) := ⟨_, hid rfl⟩
      clear h1
      replace h45 := hid h45
      have a3 : ((y : Int) == 48) = g := hg.out.symm
      replace hg := hid hg
      cases g
      all_goals
        go_enter Tryd.func118, Tryd.ntmps118
        go_wp2_with fail
        go_loopw [5, 6] (fun v i wr => ∃ (x : Int) (k : Nat), v = .int .i64 x ∧ i = .int .i64 k ∧ k ≤ s.size ∧ (k = 0 → x = 0) ∧ x ≤ 9 ∧ w = wr) (fun _ i _ => s.size - (intOf i).toNat)
        case atStart => exact ⟨0, 0, rfl, rfl, by omega, fun _ => rfl, by omega, rfl⟩
        case round =>
          obtain ⟨x, k, rfl, rfl, hk, hx0, hx9, rfl⟩ := hrel
          by_cases hlt : k < s.size
          · have hk0 : k = 0 := by have := hs1.out; omega
            subst hk0
            have hx := hx0 rfl
            subst hx
            have hx0' := hid hx0
            clear hx0
            by_cases hz1 : (y : Int) < 48
            · go_wp2
              go_ret2
              exact ⟨_, _, rfl, by decide, fun h => (by cases h), rfl⟩
            · by_cases hz2 : 57 < (y : Int)
              · go_wp2
                go_ret2
                exact ⟨_, _, rfl, by decide, fun h => (by cases h), rfl⟩
              · go_wp2
                go_roundw
                case rel => exact ⟨(y : Int) - 48, 1, by go_num, by go_num, by omega, fun h => (by cases h), by omega, by first | trivial | rfl⟩
                case measure => simp [intOf]; omega
          · replace hx0 := hid hx0
            go_wp2
            go_ret2
            exact ⟨_, _, rfl, hx9, fun _ => hs1.out, rfl⟩

/-- The pieces of a text, cut at every byte c, as far as byte k; and where the next one begins. -/
def cutAt (s : ByteArray) (c k : Nat) : Bool := if h : k < s.size then decide ((s[k]'h).toNat = c) else true
def cutP (s : ByteArray) (c : Nat) : Nat → List ByteArray × Nat
  | 0 => ([], 0)
  | k + 1 => if cutAt s c k = true then ((cutP s c k).1 ++ [s.extract (cutP s c k).2 k], k + 1) else cutP s c k
theorem cutP_put {s : ByteArray} {c k a : Nat} {ws : List ByteArray} (h : cutP s c k = (ws, a)) (he : ∀ h : k < s.size, (s[k]'h).toNat = c) : cutP s c (k + 1) = (ws ++ [s.extract a k], k + 1) := by
  have : cutAt s c k = true := by
    unfold cutAt
    split
    · rename_i hk; exact decide_eq_true (he hk)
    · rfl
  unfold cutP
  rw [if_pos this, h]
theorem cutP_skip {s : ByteArray} {c k a : Nat} {ws : List ByteArray} (h : cutP s c k = (ws, a)) (hk : k < s.size) (he : (s[k]'hk).toNat ≠ c) : cutP s c (k + 1) = (ws, a) := by
  have : cutAt s c k = false := by
    unfold cutAt
    rw [dif_pos hk]
    exact decide_eq_false he
  unfold cutP
  rw [if_neg (by rw [this]; decide), h]
def CutEq (s : ByteArray) (c : Nat) (w : World) (e : Ending) (w' : World) : Prop := ∃ v ws, e = .returned v ∧ ws = (cutP s c (s.size + 1)).1 ∧ CutSt w w' v ws s.size (s.size + 1)

set_option maxRecDepth 100000 in
set_option maxHeartbeats 2000000 in
theorem l19Cut_eq (s : ByteArray) (c : Nat) (w : World) (hz : s.size ≤ 1000000) : Calls Tryd.prog 116 #[.string s, .int .u8 c] w (CutEq s c w) := by
  obtain ⟨i0, hi, hz0, hz1, hz2⟩ := info_parts infoStrD
  have h0 : CutSt w (w.alloc (.cells #[] 9)) (.slice (some ⟨w.heap.size, 0, none⟩) 0 0) [] s.size 0 :=
    ⟨⟨rfl, .inr ⟨w.heap.size, 0, #[], rfl, Nat.le_refl _, heap_alloc_self _ _, Nat.le_refl _, Nat.zero_le _, rfl, rfl⟩⟩, Nat.le_refl _, fun x hx => (by cases hx), (Below.refl _ _).alloc (Nat.le_refl _) _⟩
  replace h0 := hid h0
  go_enter Tryd.func116, Tryd.ntmps116
  go_wp2_with fail
  go_loopw [5, 6, 7] (fun v f i wr => ∃ (ws : List ByteArray) (a k : Nat), i = .int .i64 k ∧ f = .int .i64 a ∧ cutP s c k = (ws, a) ∧ (a ≤ k ∨ k = s.size + 1) ∧ k ≤ s.size + 1 ∧ CutSt w wr v ws s.size k) (fun _ _ i _ => s.size + 1 - (intOf i).toNat)
  case atStart => exact ⟨[], 0, 0, rfl, rfl, rfl, by omega, by omega, h0.out⟩
  case round =>
    obtain ⟨ws, a, k, rfl, rfl, hcp, ha, hk, hs⟩ := hrel
    replace hcp := hid hcp
    have hzr := hs.below.size
    have hln := hs.len
    by_cases hlt : k ≤ s.size
    · have hak : a ≤ k := by omega
      have b1 : (0 : Int) ≤ (a : Int) := by omega
      have b2 : (a : Int) ≤ (k : Int) := by omega
      have b3 : (k : Int) ≤ (s.size : Int) := by omega
      have hxs : (s.extract a k).size ≤ s.size := by rw [ByteArray.size_extract]; omega
      have hown := hs.own
      unfold OwnStrs at hown
      replace hown := hid hown
      replace hs := hid hs
      by_cases hend : k = s.size
      · have e1 : ((k : Int) == (s.size : Int)) = true := by simp; omega
        have hcp' := hid (cutP_put (c := c) hcp.out (fun h => by omega))
        replace hxs := hid hxs
        replace hend := hid hend
        go_wp2_with (at_builtin; refine wpList_append_lies _ (by rfl) _ _ 92 (by rfl) w.heap.size 9 i0 (.string ⟨#[]⟩) 1 16 Tryd.underlying92 hi hz0 hz1 hz2 rfl (by decide) _ ws.length _ (by rfl) (hown.out.alloc _) ⟨wr.heap.size, 0, none⟩ 1 1 [.string (s.extract a k)] (by rfl) (by rfl) (World.news_of_block (heap_alloc_new wr _)) ?c1 (by omega) ?c3 ?c4 ?c5 _ rfl ?_)
        case c1 => simp [Value.oneCell']
        case c3 => unfold maxLen; omega
        case c4 => omega
        case c5 => simp; omega
        intro gg cap w5 hown5 hgrow hat hlt5
        have hfin := hid (hs.out.add hxs.out hown5 hgrow)
        clear hown5 hgrow hat
        go_wp2_with fail
        go_roundw
        case rel => exact ⟨_, k + 1, k + 1, by go_num, by go_num, hcp'.out, by omega, by omega, hfin.out⟩
        case measure => simp [intOf]; omega
      · have e1 : ((k : Int) == (s.size : Int)) = false := by simp; omega
        have b4' : k < s.size := by omega
        obtain ⟨y, hy, hy2⟩ := byte_some s k b4'
        have b4 : (0 : Int) ≤ (k : Int) ∧ (k : Int) < (s.size : Int) := by omega
        replace hend := hid hend
        by_cases hyc : y = c
        · have e2 : ((y : Int) == (c : Int)) = true := by simp; omega
          have hcp' := hid (cutP_put (c := c) hcp.out (fun h => by omega))
          replace hyc := hid hyc
          replace hxs := hid hxs
          go_wp2_with (at_builtin; refine wpList_append_lies _ (by rfl) _ _ 92 (by rfl) w.heap.size 9 i0 (.string ⟨#[]⟩) 1 16 Tryd.underlying92 hi hz0 hz1 hz2 rfl (by decide) _ ws.length _ (by rfl) (hown.out.alloc _) ⟨wr.heap.size, 0, none⟩ 1 1 [.string (s.extract a k)] (by rfl) (by rfl) (World.news_of_block (heap_alloc_new wr _)) ?c1 (by omega) ?c3 ?c4 ?c5 _ rfl ?_)
          case c1 => simp [Value.oneCell']
          case c3 => unfold maxLen; omega
          case c4 => omega
          case c5 => simp; omega
          intro gg cap w5 hown5 hgrow hat hlt5
          have hfin := hid (hs.out.add hxs.out hown5 hgrow)
          clear hown5 hgrow hat
          go_wp2_with fail
          go_roundw
          case rel => exact ⟨_, k + 1, k + 1, by go_num, by go_num, hcp'.out, by omega, by omega, hfin.out⟩
          case measure => simp [intOf]; omega
        · have e2 : ((y : Int) == (c : Int)) = false := by simp; omega
          have hcp' := hid (cutP_skip (c := c) hcp.out b4' (by omega))
          replace hyc := hid hyc
          go_wp2_with fail
          go_roundw
          case rel => exact ⟨ws, a, k + 1, by go_num, rfl, hcp'.out, by omega, by omega, ⟨hs.out.own, by have := hs.out.len; omega, hs.out.small, hs.out.below⟩⟩
          case measure => simp [intOf]; omega
    · go_wp2_with fail
      go_ret
      exact ⟨_, ws, rfl, by rw [show s.size + 1 = k from by omega, hcp.out], ⟨hs.own, by have := hs.len; omega, hs.small, hs.below⟩⟩


theorem l19Num_if (s : ByteArray) (w : World) (hz : s.size ≤ 1000000) : Calls Tryd.prog 118 #[.string s] w fun e w' => ∃ (n : Int) (b : Bool), e = .returned (.tuple #[.int .i64 n, .bool b]) ∧ (s.size ≤ 1 → n ≤ 9 ∧ (b = true → s.size = 1)) ∧ w = w' := by
  by_cases h : s.size ≤ 1
  · exact (l19Num_one s w h).mono fun e w' ⟨n, b, h1, h2, h3, h4⟩ => ⟨n, b, h1, fun _ => ⟨h2, h3⟩, h4⟩
  · exact (l19Num_any s w hz).mono fun e w' ⟨n, b, h1, h2⟩ => ⟨n, b, h1, fun hc => absurd hc h, h2⟩
def EdSPost (w : World) (e : Ending) (w' : World) : Prop := ∃ (x : Ed) (b : Bool), e = .returned (.tuple #[x.val, .bool b]) ∧ (b = true → x.t ≤ 9) ∧ Below w.heap.size w w'

set_option maxRecDepth 100000 in
set_option maxHeartbeats 4000000 in
theorem l2Parse_small (s : ByteArray) (w : World) (hz : s.size ≤ 3) : Calls Tryd.prog 119 #[.string s] w (EdSPost w) := by
  have hres := Blk.new w 59 #[.int .i64 0, .int .i64 0, .int .i64 0]
  have hb0 : Below w.heap.size w (w.alloc (.cells #[.int .i64 0, .int .i64 0, .int .i64 0] 59)) := (Below.refl _ _).alloc (Nat.le_refl _) _
  generalize hw0 : w.alloc (.cells #[.int .i64 0, .int .i64 0, .int .i64 0] 59) = w0 at hres hb0
  replace hres := hid hres
  go_enter Tryd.func119, Tryd.ntmps119
  go_wp2_with fail
  clear hw0
  go_loopw [4] (fun i wr => ∃ (k : Nat), i = .int .i64 k ∧ k ≤ s.size ∧ w0 = wr) (fun i _ => s.size - (intOf i).toNat)
  case atStart => exact ⟨0, rfl, by omega, rfl⟩
  case round =>
    obtain ⟨k, rfl, hk, rfl⟩ := hrel
    have d0 := hres.out.cell 0
    have d1 := hres.out.cell 1
    have d2 := hres.out.cell 2
    have f0 := hres.out.frozen 0
    have f1 := hres.out.frozen 1
    have f2 := hres.out.frozen 2
    simp only [List.getElem?_toArray, List.getElem?_cons_zero, List.getElem?_cons_succ] at d0 d1 d2
    by_cases hlt : k < s.size
    · obtain ⟨y, hy, hy2⟩ := byte_some s k hlt
      have b4 : (0 : Int) ≤ (k : Int) ∧ (k : Int) < (s.size : Int) := by omega
      have t1 : (s.extract 0 k).size ≤ 1000000 := by rw [ByteArray.size_extract]; omega
      have t2 : (s.extract (k + 1) s.size).size ≤ 1000000 := by rw [ByteArray.size_extract]; omega
      obtain ⟨s1, hs1⟩ : ∃ s1, s.extract 0 k = s1 := ⟨_, rfl⟩
      obtain ⟨s2, hs2⟩ : ∃ s2, s.extract (k + 1) s.size = s2 := ⟨_, rfl⟩
      have t1' : s1.size = k := by rw [← hs1, ByteArray.size_extract]; omega
      have t2' : s2.size = s.size - (k + 1) := by rw [← hs2, ByteArray.size_extract]; omega
      rw [hs1] at t1
      rw [hs2] at t2
      have b5 : ((k : Int) + 1) ≤ (s.size : Int) := by omega
      by_cases h1 : y < 97
      · go_wp2_with fail
        go_roundw
        case rel => exact ⟨k + 1, by go_num, by omega, by first | trivial | rfl⟩
        case measure => simp [intOf]; omega
      · by_cases h2 : 102 < y
        · go_wp2_with fail
          go_roundw
          case rel => exact ⟨k + 1, by go_num, by omega, by first | trivial | rfl⟩
          case measure => simp [intOf]; omega
        · go_wp2_with fail
          refine (l19Num_if s1 w0 t1).mono ?_
          rintro e w' ⟨n1, c1, rfl, hq1, rfl⟩
          go_wp2_with fail
          refine (l19Num_if s2 w0 t2).mono ?_
          rintro e w' ⟨n2, c2, rfl, hq2, rfl⟩
          have hn2 : c1 = true → n2 ≤ 9 := by
            intro hc
            by_cases hk0 : k = 0
            · have := (hq1 (by omega)).2 hc
              omega
            · exact (hq2 (by omega)).1
          replace hn2 := hid hn2
          replace hq1 := hid hq1
          replace hq2 := hid hq2
          cases c1
          · go_wp2_with (refine (l1At_any s k _ hlt).mono ?_; rintro e w1 ⟨rfl, rfl⟩)
            refine bodyPost_ret (v := .tuple #[.agg #[.int .i64 n1, .int .i64 (lz s k), .int .i64 n2], .bool false]) (by simp [results, Tryd.results119, go_sem, d0, d1, d2]) rfl ?_
            exact ⟨⟨n1, lz s k, n2⟩, _, rfl, fun h => (by cases h), by (repeat (first | exact Below.refl _ _ | assumption | refine Below.drew ?_ | refine Below.alloc ?_ (by first | omega | (simp; done) | (simp; omega)) _ | refine Below.setCell ?_ (by first | omega | (simp; done) | (simp; omega)) _))⟩
          · go_wp2_with (refine (l1At_any s k _ hlt).mono ?_; rintro e w1 ⟨rfl, rfl⟩)
            refine bodyPost_ret (v := .tuple #[.agg #[.int .i64 n1, .int .i64 (lz s k), .int .i64 n2], .bool c2]) (by simp [results, Tryd.results119, go_sem, d0, d1, d2]) rfl ?_
            exact ⟨⟨n1, lz s k, n2⟩, _, rfl, fun _ => by first | exact hn2.out trivial | exact hn2.out rfl, by (repeat (first | exact Below.refl _ _ | assumption | refine Below.drew ?_ | refine Below.alloc ?_ (by first | omega | (simp; done) | (simp; omega)) _ | refine Below.setCell ?_ (by first | omega | (simp; done) | (simp; omega)) _))⟩
    · go_wp2_with fail
      refine bodyPost_ret (v := .tuple #[.agg #[.int .i64 0, .int .i64 0, .int .i64 0], .bool false]) (by simp [results, Tryd.results119, go_sem, d0, d1, d2]) rfl ?_
      exact ⟨⟨0, 0, 0⟩, _, rfl, fun h => (by cases h), by (repeat (first | exact Below.refl _ _ | assumption | refine Below.drew ?_ | refine Below.alloc ?_ (by first | omega | (simp; done) | (simp; omega)) _ | refine Below.setCell ?_ (by first | omega | (simp; done) | (simp; omega)) _))⟩

end Go.Proofs.YtdkjnemakkppfaaDoor

/- The drawing kit once more: ParseSystem of texts of one-digit numbers; l2Texts. -/
namespace Go.Proofs.YtdkjnemakkppfaaDoor
open Go.RowKit Go.BigFrame AG

/-- A system of few states: no edge leads further than state 9. -/
def QT (s : Sy) : Prop := s.st ≤ 9 ∧ ∀ e ∈ s.es, e.t ≤ 9
def textOk (t : ByteArray) : Bool := (cutP t 32 (t.size + 1)).1.all (fun p => decide (p.size ≤ 3)) && (match (cutP t 32 (t.size + 1)).1 with
  | _ :: p :: _ => decide (p.size ≤ 1)
  | _ => true)
theorem textOk_get {t : ByteArray} (h : textOk t = true) {ps : List ByteArray} (hp : ps = (cutP t 32 (t.size + 1)).1) : (∀ i, ∀ (hi : i < ps.length), (ps[i]).size ≤ 3) ∧ ∀ (hi : 1 < ps.length), (ps[1]).size ≤ 1 := by
  unfold textOk at h
  rw [← hp, Bool.and_eq_true] at h
  obtain ⟨h1, h2⟩ := h
  refine ⟨fun i hi => of_decide_eq_true (List.all_eq_true.1 h1 _ (List.getElem_mem hi)), fun hi => ?_⟩
  match ps, hi, h2 with
  | _ :: p :: _, _, h2 => exact of_decide_eq_true h2
/-- Some system and a Bool come back; where the Bool is true the system has few states. -/
def SyBQ (L : Nat) (w : World) (e : Ending) (w' : World) : Prop :=
  ∃ (s : Sy) (A : Option Addr) (c : Nat) (b : Bool), e = .returned (.tuple #[s.val A c, .bool b]) ∧ (b = true → QT s) ∧ s.es.length ≤ c ∧ c ≤ 9223372036854775807 ∧ s.es.length ≤ L ∧ EdsAt w' w'.heap.size A s.es ∧ FreshA w.heap.size A ∧ Below w.heap.size w w'
theorem SyBQ.ret {L : Nat} {w w1 : World} {s : Sy} {A : Option Addr} {c : Nat} (b : Bool) (hq : b = true → QT s) (h1 : s.es.length ≤ c) (h2 : c ≤ 9223372036854775807) (h3 : s.es.length ≤ L) (h4 : EdsAt w1 w1.heap.size A s.es) (h5 : FreshA (w.heap.size + 1) A)
    (h7 : Below w.heap.size w w1) (v1 v2 v3 : Value) :
    SyBQ L w (.returned (.tuple #[.agg #[.int .i64 s.al, .int .i64 s.st, .slice A s.es.length c], .bool b])) (((w1.setCell ⟨w.heap.size, 0, none⟩ v1).setCell ⟨w.heap.size, 1, none⟩ v2).setCell ⟨w.heap.size, 2, none⟩ v3) := by
  have hne : ∀ b o, A = some ⟨b, o, none⟩ → 0 < s.es.length → b ≠ w.heap.size := fun b o hA _ => by have := h5 b o hA; omega
  refine ⟨s, A, c, b, rfl, hq, h1, h2, h3, ?_, fun b o hA => by have := h5 b o hA; omega, ?_⟩
  · simpa [World.setCell] using ((h4.stored v1 hne).stored v2 hne).stored v3 hne
  · (repeat (first | exact Below.refl _ _ | assumption | refine Below.drew ?_ | refine Below.alloc ?_ (by first | omega | (simp; done) | (simp; omega)) _ | refine Below.setCell ?_ (by first | omega | (simp; done) | (simp; omega)) _))

set_option maxRecDepth 100000 in
set_option maxHeartbeats 8000000 in
theorem parseSystem_few (t : ByteArray) (w : World) (hz : t.size ≤ 900) (hto : textOk t = true) : Calls Tryd.prog 84 #[.string t] w (SyBQ 1000 w) := by
  obtain ⟨i0, hi, hz0, hz1, hz2⟩ := info_parts infoEd
  have hres := Blk.new w 28 #[.int .i64 0, .int .i64 0, .slice none 0 0]
  have hb0 : Below w.heap.size w (w.alloc (.cells #[.int .i64 0, .int .i64 0, .slice none 0 0] 28)) := (Below.refl _ _).alloc (Nat.le_refl _) _
  have hsz0 : (w.alloc (.cells #[.int .i64 0, .int .i64 0, .slice none 0 0] 28)).heap.size = w.heap.size + 1 := by simp
  generalize hw0 : w.alloc (.cells #[.int .i64 0, .int .i64 0, .slice none 0 0] 28) = w0 at hres hb0 hsz0
  replace hres := hid hres
  replace hto := hid hto
  have hzero : ∀ w1, Below w0.heap.size w0 w1 → Hid (SyBQ 1000 w (.returned (.tuple #[.agg #[.int .i64 0, .int .i64 0, .slice none 0 0], .bool false])) (((w1.setCell ⟨w.heap.size, 0, none⟩ (.int .i64 0)).setCell ⟨w.heap.size, 1, none⟩ (.int .i64 0)).setCell ⟨w.heap.size, 2, none⟩ (.slice none 0 0))) := fun w1 h =>
    hid (SyBQ.ret (s := ⟨0, 0, []⟩) (A := none) (c := 0) false (fun h => by cases h) (by simp) (by omega) (by simp) (fun h => by simp at h) (fun b o h => by cases h) (hb0.trans (h.mono (by omega))) _ _ _)
  replace hsz0 := hid hsz0
  have hrb : ∀ w1, Below w0.heap.size w0 w1 → Hid (Blk w1 w.heap.size 28 #[.int .i64 0, .int .i64 0, .slice none 0 0]) := fun w1 h => hid (hres.out.below h (by have := hsz0.out; omega))
  go_enter Tryd.func84, Tryd.ntmps84
  go_wp2_with fail
  refine (l19Cut_eq t 32 w0 (by omega)).mono ?_
  rintro e w1 ⟨pv, ps, rfl, hpe, hcut⟩
  have hto' := hid (textOk_get hto.out hpe)
  clear hpe
  have hb1 := hcut.below
  have hplen := hcut.len
  obtain ⟨Ap, cp, hpv, hcp, hcp'⟩ := own_slice hcut.own
  subst hpv
  replace hcut := hid hcut
  by_cases hlen : ps.length < 2
  · have hfin := hzero w1 hb1
    have hbl := hrb w1 hb1
    have d0 := hbl.out.cell 0
    have d1 := hbl.out.cell 1
    have d2 := hbl.out.cell 2
    have f0 := hbl.out.frozen 0
    have f1 := hbl.out.frozen 1
    have f2 := hbl.out.frozen 2
    simp only [List.getElem?_toArray, List.getElem?_cons_zero, List.getElem?_cons_succ] at d0 d1 d2
    have hlt := hbl.out.lt
    clear hw0
    go_wp2
    refine bodyPost_ret (v := .tuple #[.agg #[.int .i64 0, .int .i64 0, .slice none 0 0], .bool false]) (by simp [results, Tryd.results84, go_sem, d0, d1, d2]) rfl ?_
    exact hfin.out
  · obtain ⟨gp, cap, hve, hg1, hg2, -, -, hP⟩ := own_strs hcut.out.own (by omega)
    injection hve with hv1 hv2 hv3
    subst hv1
    subst hv3
    have s0 := hP 0 (by omega)
    have hsm : ∀ i (h : i < ps.length), (ps[i]'h).size ≤ 900 := fun i h => by have := hcut.out.small _ (List.getElem_mem h); omega
    replace hsm := hid hsm
    replace hP := hid hP
    have i1 : (1 : Int) < (ps.length : Int) := by omega
    have i0' : (0 : Int) < (ps.length : Int) := by omega
    go_wp2_with fail
    refine (parseAlpha_any _ w1).mono ?_
    rintro e w2 ⟨al, ok, rfl, hb2⟩
    have s1 : w2.cell? ⟨gp, 1, none⟩ = some (.string ps[1]) := by rw [hb2.cell (by simpa using hg2)]; exact hP.out 1 (by omega)
    have hb02 := hb1.trans (hb2.mono hb1.size)
    clear s0
    go_wp2_with fail
    refine (l19Num_one ps[1] w2 (hto'.out.2 (by omega))).mono ?_
    rintro e w' ⟨st, fine, rfl, hst9, -, rfl⟩
    replace hst9 := hid hst9
    clear s1 hw0
    have hfin := hzero w2 hb02
    have hbl := hrb w2 hb02
    have d0 := hbl.out.cell 0
    have d1 := hbl.out.cell 1
    have d2 := hbl.out.cell 2
    have f0 := hbl.out.frozen 0
    have f1 := hbl.out.frozen 1
    have f2 := hbl.out.frozen 2
    simp only [List.getElem?_toArray, List.getElem?_cons_zero, List.getElem?_cons_succ] at d0 d1 d2
    have hlt := hbl.out.lt
    cases ok
    · go_wp2
      refine bodyPost_ret (v := .tuple #[.agg #[.int .i64 0, .int .i64 0, .slice none 0 0], .bool false]) (by simp [results, Tryd.results84, go_sem, d0, d1, d2]) rfl ?_
      exact hfin.out
    · cases fine
      · go_wp2
        refine bodyPost_ret (v := .tuple #[.agg #[.int .i64 0, .int .i64 0, .slice none 0 0], .bool false]) (by simp [results, Tryd.results84, go_sem, d0, d1, d2]) rfl ?_
        exact hfin.out
      · clear d0 d1 d2 f0 f1 f2 hfin hbl
        go_wp2_with fail
        have hs0 : PsSt w2 (w2.alloc (.cells #[.int .i64 al, .int .i64 st, .slice none 0 0] 28)) al st (.slice none 0 0) [] 2 :=
          ⟨Blk.new _ _ _, World.ownsRow_nil _ _ _ _, by simp, (Below.refl _ _).alloc (Nat.le_refl _) _⟩
        replace hs0 := hid hs0
        go_loopw [10] (fun i wr => ∃ (k : Nat) (v : Value) (es : List Ed), i = .int .i64 k ∧ 2 ≤ k ∧ k ≤ ps.length ∧ (∀ e ∈ es, e.t ≤ 9) ∧ PsSt w2 wr al st v es k) (fun i _ => ps.length - (intOf i).toNat)
        case atStart => exact ⟨2, _, [], rfl, by omega, by omega, fun e h => (by cases h), hs0.out⟩
        case round =>
          obtain ⟨k, v, es, rfl, hk2, hk, hes, hs⟩ := hrel
          replace hes := hid hes
          have hbr := hs.below
          have hln := hs.len
          have hb0r := hb02.trans (hbr.mono hb02.size)
          replace hs := hid hs
          by_cases hkl : k < ps.length
          · have s1 : wr.cell? ⟨gp, k, none⟩ = some (.string ps[k]) := by rw [hbr.cell (by have := hb2.size; simp; omega), hb2.cell (by simpa using hg2)]; exact hP.out k hkl
            have i2 : (0 : Int) ≤ (k : Int) ∧ (k : Int) < (ps.length : Int) := by omega
            go_wp2_with fail
            refine (l2Parse_small ps[k] wr (hto'.out.1 k hkl)).mono ?_
            rintro e w3 ⟨x, good, rfl, hx9, hb3⟩
            replace hx9 := hid hx9
            have hb03 := hb0r.trans (hb3.mono hb0r.size)
            have hs3 := hid (hs.out.later hb3)
            clear s1 hs
            unfold Ed.val
            cases good
            · have b4 : Below w0.heap.size w0 (w3.alloc (.cells #[.int .i64 x.f, .int .i64 x.l, .int .i64 x.t] 59)) := hb03.alloc hb03.size _
              have hfin := hzero _ b4
              have hbl := hrb _ b4
              have d0 := hbl.out.cell 0
              have d1 := hbl.out.cell 1
              have d2 := hbl.out.cell 2
              have f0 := hbl.out.frozen 0
              have f1 := hbl.out.frozen 1
              have f2 := hbl.out.frozen 2
              simp only [List.getElem?_toArray, List.getElem?_cons_zero, List.getElem?_cons_succ] at d0 d1 d2
              have hlt := hbl.out.lt
              generalize hw4 : w3.alloc (.cells #[.int .i64 x.f, .int .i64 x.l, .int .i64 x.t] 59) = w4 at *
              go_wp2
              refine bodyPost_ret (v := .tuple #[.agg #[.int .i64 0, .int .i64 0, .slice none 0 0], .bool false]) (by simp [results, Tryd.results84, go_sem, d0, d1, d2]) rfl ?_
              exact hfin.out
            · have hs4 := hid (hs3.out.later ((Below.refl _ w3).alloc (Nat.le_refl _) (.cells #[.int .i64 x.f, .int .i64 x.l, .int .i64 x.t] 59)))
              have hnb := Blk.new w3 59 #[.int .i64 x.f, .int .i64 x.l, .int .i64 x.t]
              have hsz4 : w3.heap.size < (w3.alloc (.cells #[.int .i64 x.f, .int .i64 x.l, .int .i64 x.t] 59)).heap.size := by simp
              have b4 : Below w0.heap.size w0 (w3.alloc (.cells #[.int .i64 x.f, .int .i64 x.l, .int .i64 x.t] 59)) := hb03.alloc hb03.size _
              generalize hw4 : w3.alloc (.cells #[.int .i64 x.f, .int .i64 x.l, .int .i64 x.t] 59) = w4 at *
              have m0 := hnb.cell 0
              have m1 := hnb.cell 1
              have m2 := hnb.cell 2
              simp only [List.getElem?_toArray, List.getElem?_cons_zero, List.getElem?_cons_succ] at m0 m1 m2
              have c2 := hs4.out.blk.cell 2
              simp only [List.getElem?_toArray, List.getElem?_cons_zero, List.getElem?_cons_succ] at c2
              have hgl := hs4.out.blk.lt
              have hown := hs4.out.own
              unfold OwnEds at hown
              have ag : v.ownBlock ≠ some w2.heap.size := fun e => by have := (hown.lt _ e).1; omega
              replace hown := hid hown
              replace hnb := hid hnb
              go_wp2_with (at_builtin; refine wpList_append_lies _ (by rfl) _ _ 26 (by rfl) (w2.heap.size + 1) 59 i0 (.agg #[.int .i64 0, .int .i64 0, .int .i64 0]) 3 24 Tryd.underlying26 hi hz0 hz1 hz2 rfl (by decide) v es.length (edCells es) (by rfl) (hown.out.alloc _) ⟨w4.heap.size, 0, none⟩ 1 1 [.int .i64 x.f, .int .i64 x.l, .int .i64 x.t] (by rfl) (by rfl) (World.news_of_block (heap_alloc_new w4 _)) ?c1 (by omega) ?c3 ?c4 ?c5 _ rfl ?_)
              case c1 => simp [Value.oneCell']
              case c3 => unfold maxLen; omega
              case c4 => omega
              case c5 => simp; omega
              intro gg cap5 w5 hown5 hgrow hat hlt5
              have hs5 := hid ((hs4.out.later ((Below.refl _ w4).alloc (Nat.le_refl _) _)).add (x := x) hown5 hgrow)
              have c2' : w5.cell? ⟨w2.heap.size, 2, none⟩ = some v := by rw [hgrow.cell_far _ (by simp; omega) (Ne.symm ag), World.cell?_alloc_lt (h := by simpa using hgl)]; exact c2
              have f2' : w5.frozen? ⟨w2.heap.size, 2, none⟩ = false := by rw [hgrow.frozen_far _ (by simp; omega) (Ne.symm ag)]; exact (hs4.out.blk.alloc _).frozen 2
              clear hown5 hgrow hat c2 m0 m1 m2 hw4
              go_wp2_with fail
              have hes' : Hid (∀ e ∈ es ++ [x], e.t ≤ 9) := hid (fun e he => by
                rcases List.mem_append.1 he with he | he
                · exact hes.out e he
                · rw [List.mem_singleton.1 he]; first | exact hx9.out trivial | exact hx9.out rfl)
              go_roundw
              case rel => exact ⟨k + 1, _, _, by go_num, by omega, by omega, hes'.out, hs5.out⟩
              case measure => simp [intOf]; omega
          · obtain ⟨Av, cv, hve, h1, h2⟩ := own_slice hs.out.own
            subst hve
            obtain ⟨A', c', hv', -, -, hE, hF⟩ := hs.out.own.read
            cases hv'
            have c0 := hs.out.blk.cell 0
            have c1 := hs.out.blk.cell 1
            have c2 := hs.out.blk.cell 2
            simp only [List.getElem?_toArray, List.getElem?_cons_zero, List.getElem?_cons_succ] at c0 c1 c2
            replace hE := hid hE
            replace hF := hid hF
            go_wp2_with fail
            refine (formatSystem_any ⟨al, st, es⟩ Av cv wr h1 h2 (by show es.length ≤ 10000; omega) hE.out).mono ?_
            rintro e w3 ⟨x, rfl, hx, hb3⟩
            have hb03 := hb0r.trans (hb3.mono hb0r.size)
            have hs3 := hid (hs.out.later hb3)
            have hE3 := hid (hE.out.later hb3)
            clear c0 c1 c2
            have c0 := hs3.out.blk.cell 0
            have c1 := hs3.out.blk.cell 1
            have c2 := hs3.out.blk.cell 2
            simp only [List.getElem?_toArray, List.getElem?_cons_zero, List.getElem?_cons_succ] at c0 c1 c2
            have hfin := hzero w3 hb03
            have hfin2 := hid (SyBQ.ret (w := w) (L := 1000) (s := ⟨al, st, es⟩) (A := Av) (c := cv) true (fun _ => ⟨hst9.out, hes.out⟩) h1 h2 (by show es.length ≤ 1000; omega) hE3.out (fun b o hA => by have := hF.out b o hA; have := hb02.size; have := hsz0.out; omega) (hb0.trans (hb03.mono (by have := hsz0.out; omega))) (.int .i64 al) (.int .i64 st) (.slice Av es.length cv))
            have hbl := hrb w3 hb03
            have d0 := hbl.out.cell 0
            have d1 := hbl.out.cell 1
            have d2 := hbl.out.cell 2
            have f0 := hbl.out.frozen 0
            have f1 := hbl.out.frozen 1
            have f2 := hbl.out.frozen 2
            simp only [List.getElem?_toArray, List.getElem?_cons_zero, List.getElem?_cons_succ] at d0 d1 d2
            have hlt := hbl.out.lt
            go_wp2
            all_goals first
              | (refine bodyPost_ret (v := .tuple #[.agg #[.int .i64 al, .int .i64 st, .slice Av es.length cv], .bool true]) (by simp [results, Tryd.results84, go_sem, d0, d1, d2]; done) rfl ?_; exact hfin2.out)
              | (refine bodyPost_ret (v := .tuple #[.agg #[.int .i64 0, .int .i64 0, .slice none 0 0], .bool false]) (by simp [results, Tryd.results84, go_sem, d0, d1, d2]; done) rfl ?_; exact hfin.out)


def isText2 : Value → Bool
  | .string x => decide (x.size ≤ 60) && textOk x
  | _ => false
theorem texts_of2 (w : World) (T : TypeId) (cs : Array Value) (h : cs.toList.all isText2 = true) :
    ∃ xs : List ByteArray, xs.length = cs.size ∧ (∀ x ∈ xs, x.size ≤ 60 ∧ textOk x = true) ∧ ∀ i (hi : i < xs.length), (w.alloc (.cells cs T)).cell? ⟨w.heap.size, 0 + i, none⟩ = some (.string xs[i]) := by
  have key : ∀ l : List Value, l.all isText2 = true → ∃ xs : List ByteArray, l = xs.map Value.string ∧ ∀ x ∈ xs, x.size ≤ 60 ∧ textOk x = true := by
    intro l
    induction l with
    | nil => exact fun _ => ⟨[], rfl, fun x hx => (by cases hx)⟩
    | cons v l ih =>
      intro hl
      rw [List.all_cons, Bool.and_eq_true] at hl
      obtain ⟨xs, e, hx⟩ := ih hl.2
      cases v with
      | string x =>
        have hv := hl.1
        unfold isText2 at hv
        rw [Bool.and_eq_true, decide_eq_true_eq] at hv
        exact ⟨x :: xs, by rw [e]; rfl, fun y hy => by
          rcases List.mem_cons.1 hy with rfl | hy
          · exact hv
          · exact hx y hy⟩
      | _ => have hv := hl.1; cases hv
  obtain ⟨xs, h1, h2⟩ := key _ h
  have hlen : xs.length = cs.size := by
    have := congrArg List.length h1
    simpa using this.symm
  refine ⟨xs, hlen, h2, fun i hi => ?_⟩
  rw [Nat.zero_add, World.cell?_alloc_at _ _ _ _ rfl, ← Array.getElem?_toList, h1, List.getElem?_map, List.getElem?_eq_getElem hi]
  rfl
theorem texts_post2 (w : World) (T : TypeId) (cs : Array Value) (e : Ending) (he : e = .returned (.slice (some ⟨w.heap.size, 0, none⟩) 11 11)) (hn : cs.size = 11) (h : cs.toList.all isText2 = true) :
    ∃ xs : List ByteArray, xs.length = 11 ∧ (∀ x ∈ xs, x.size ≤ 60 ∧ textOk x = true) ∧ e = .returned (.slice (some ⟨w.heap.size, 0, none⟩) 11 11) ∧ (∀ i (hi : i < xs.length), (w.alloc (.cells cs T)).cell? ⟨w.heap.size, 0 + i, none⟩ = some (.string xs[i])) ∧ w.heap.size < (w.alloc (.cells cs T)).heap.size ∧ Below w.heap.size w (w.alloc (.cells cs T)) := by
  obtain ⟨xs, h1, h2, h3⟩ := texts_of2 w T cs h
  exact ⟨xs, h1.trans hn, h2, he, h3, by simp, (Below.refl _ _).alloc (Nat.le_refl _) _⟩
set_option maxHeartbeats 1000000 in
theorem l2Texts_few (w : World) :
    Calls Tryd.prog 86 #[] w fun e w' => ∃ xs : List ByteArray, xs.length = 11 ∧ (∀ x ∈ xs, x.size ≤ 60 ∧ textOk x = true) ∧ e = .returned (.slice (some ⟨w.heap.size, 0, none⟩) 11 11) ∧ (∀ i (hi : i < xs.length), w'.cell? ⟨w.heap.size, 0 + i, none⟩ = some (.string xs[i])) ∧ w.heap.size < w'.heap.size ∧ Below w.heap.size w w' := by
  go_enter Tryd.func86, Tryd.ntmps86
  go_wp2
  go_ret
  exact texts_post2 w _ _ _ rfl rfl (by kernel_rfl)

end Go.Proofs.YtdkjnemakkppfaaDoor

/- The drawing kit once more: l2Random and l2Draw, with few states. -/
namespace Go.Proofs.YtdkjnemakkppfaaDoor
open Go.RowKit Go.BigFrame AG

/-- Some system with Q comes back; the reader has moved on to P at most. -/
def SyUpQ (Q : Sy → Prop) (R P L : Nat) (w : World) (e : Ending) (w' : World) : Prop :=
  ∃ (s : Sy) (A : Option Addr) (c : Nat), e = .returned (s.val A c) ∧ Q s ∧ s.es.length ≤ c ∧ c ≤ 9223372036854775807 ∧ s.es.length ≤ L ∧ EdsAt w' w'.heap.size A s.es ∧ FreshA w.heap.size A ∧ RdUp w' R P ∧ KeepB (fun b => b = R) w w'
theorem RndSt.postQ {Q : Sy → Prop} {w wr : World} {R P : Nat} {al st : Int} {lv : Value} {ls : List Nat} {N : Nat} {v : Value} {es : List Ed} (h : RndSt w wr R P (w.heap.size + 1) al st lv ls N v es) (hq : Q ⟨al, st, es⟩) (hN : N ≤ 1536) (hR : R < w.heap.size) (v1 v2 v3 : Value) :
    SyUpQ Q R (P + 1536) 1536 w (.returned (.agg #[.int .i64 al, .int .i64 st, v])) (((wr.setCell ⟨w.heap.size, 0, none⟩ v1).setCell ⟨w.heap.size, 1, none⟩ v2).setCell ⟨w.heap.size, 2, none⟩ v3) := by
  obtain ⟨A, c, hv, h1, h2, h3, h4⟩ := h.own.read
  have hl := h.len
  have hk : KeepB (fun b => b = w.heap.size) wr (((wr.setCell ⟨w.heap.size, 0, none⟩ v1).setCell ⟨w.heap.size, 1, none⟩ v2).setCell ⟨w.heap.size, 2, none⟩ v3) := (((KeepB.refl _ wr).setCell _ _ (by simp)).setCell _ _ (by simp)).setCell _ _ (by simp)
  refine ⟨⟨al, st, es⟩, A, c, by rw [hv]; rfl, hq, h1, h2, by show es.length ≤ 1536; omega, ?_, fun b o hA => by have := h4 b o hA; omega, (h.rd.more (by omega)).keep hk (by omega), ?_⟩
  · have hne : ∀ b o, A = some ⟨b, o, none⟩ → 0 < es.length → b ≠ w.heap.size := fun b o hA _ => by have := h4 b o hA; omega
    simpa [World.setCell] using ((h3.stored v1 hne).stored v2 hne).stored v3 hne
  · exact (((h.keep).setCell _ _ (by simp)).setCell _ _ (by simp)).setCell _ _ (by simp)


set_option maxRecDepth 100000 in
set_option maxHeartbeats 4000000 in
theorem l2Random_few (R P : Nat) (al st few : Int) (w : World) (hP : P + 100000 ≤ 1125899906842624) (hst : st ≤ 16) (hf : few ≤ 9223372036854775807) (hr : RdUp w R P) :
    Calls Tryd.prog 82 #[.pointer (some ⟨R, 0, none⟩), .int .i64 al, .int .i64 st, .int .i64 few] w (SyUpQ (fun s => s.st = st ∧ ∀ e ∈ s.es, e.t < st) R (P + 1536) 1536 w) := by
  obtain ⟨i0, hi, hz0, hz1, hz2⟩ := info_parts infoEd
  have hR := hr.lt
  replace hr := hid hr
  go_enter Tryd.func82, Tryd.ntmps82
  go_wp2_with fail
  refine (l1Letters_any al _).mono ?_
  rintro e w2 ⟨lv, rfl, hown, hb2⟩
  simp only [World.size_alloc] at hown hb2
  have H0 := hid (RndSt.begin (st := st) hr.out hown hb2)
  clear hown hb2
  obtain ⟨ls, hls⟩ : ∃ ls, Hid (ls = letters al) := ⟨_, hid rfl⟩
  rw [← hls.out] at H0
  have hl6 : ls.length ≤ 6 := by rw [hls.out]; exact lettersTo_len al 6
  obtain ⟨Al, cl, hvl, hcl, hcl'⟩ := own_slice H0.out.list
  subst hvl
  go_wp2_with fail
  go_loopw [11] (fun i wr => ∃ (k N : Nat) (v : Value) (es : List Ed), i = .int .i64 k ∧ k ≤ 16 ∧ N ≤ k * 96 ∧ (∀ e ∈ es, e.t < st) ∧ RndSt w wr R P (w.heap.size + 1) al st (.slice Al ls.length cl) ls N v es) (fun i _ => st.toNat - (intOf i).toNat)
  case atStart => exact ⟨0, 0, _, [], rfl, by omega, by omega, fun e h => (by cases h), H0.out⟩
  case round =>
    obtain ⟨k, N, v, es, rfl, hk, hN, hes, hs⟩ := hrel
    replace hs := hid hs
    replace hes := hid hes
    by_cases hlt : (k : Int) < st
    · go_wp2_with fail
      obtain ⟨wo, rfl⟩ : ∃ wo : World, wo = wr := ⟨_, rfl⟩
      go_loopw [12] (fun i wr => ∃ (m N : Nat) (v : Value) (es : List Ed), i = .int .i64 m ∧ m ≤ ls.length ∧ N ≤ k * 96 + m * 16 ∧ (∀ e ∈ es, e.t < st) ∧ RndSt w wr R P (w.heap.size + 1) al st (.slice Al ls.length cl) ls N v es) (fun i _ => ls.length - (intOf i).toNat)
      case atStart => exact ⟨0, N, v, es, rfl, by omega, by omega, hes.out, hs.out⟩
      case round =>
        clear hs hN hes
        obtain ⟨m, N, v, es, rfl, hm, hN, hes, hs⟩ := hrel
        replace hs := hid hs
        replace hes := hid hes
        by_cases hlm : m < ls.length
        · go_wp2_with fail
          obtain ⟨wo2, rfl⟩ : ∃ wo2 : World, wo2 = wr := ⟨_, rfl⟩
          go_loopw [13] (fun i wr => ∃ (t N : Nat) (v : Value) (es : List Ed), i = .int .i64 t ∧ t ≤ 16 ∧ N ≤ k * 96 + m * 16 + t ∧ (∀ e ∈ es, e.t < st) ∧ RndSt w wr R P (w.heap.size + 1) al st (.slice Al ls.length cl) ls N v es) (fun i _ => st.toNat - (intOf i).toNat)
          case atStart => exact ⟨0, N, v, es, rfl, by omega, by omega, hes.out, hs.out⟩
          case round =>
            clear hs hN hes
            obtain ⟨t, N, v, es, rfl, ht, hN, hes, hs⟩ := hrel
            replace hes := hid hes
            have hrd := hid hs.rd
            replace hs := hid hs
            by_cases hlt2 : (t : Int) < st
            · go_wp2_with fail
              refine (pick_up R (P + N) few wr (by omega) hf hrd.out).mono ?_
              rintro e w3 ⟨j, rfl, hj0, hj1, hr3, hk3⟩
              have h3 := hid (hs.out.pick hR (by omega) hr3 hk3)
              have hle0 := hs.out.len
              clear hs hrd hr3 hk3 hj1
              by_cases hj : j = 0
              · subst hj
                obtain ⟨gl, cl2, hve, hgl, hgl', -, -, hLc⟩ := own_nats h3.out.list (by omega)
                injection hve with hv1 hv2 hv3
                subst hv1
                subst hv3
                have l0 := hLc m hlm
                obtain ⟨l, hll⟩ : ∃ l : Nat, l = ls[m] := ⟨_, rfl⟩
                rw [← hll] at l0
                replace hll := hid hll
                replace hLc := hid hLc
                have hown := h3.out.own
                unfold OwnEds at hown
                have hbl := h3.out.blk.lt
                have c2 := h3.out.blk.cell 2
                simp only [List.getElem?_toArray, List.getElem?_cons_zero, List.getElem?_cons_succ] at c2
                have m1 : (0 : Int) ≤ (m : Int) := by omega
                have m2 : (m : Int) < (ls.length : Int) := by omega
                have ag : v.ownBlock ≠ some (w.heap.size + 1) := fun e => by have := (hown.lt _ e).1; omega
                have al' : v.ownBlock ≠ some gl := fun e => own_ne_own h3.out.list hown (by decide) gl gl rfl e rfl
                have hle := h3.out.len
                replace hown := hid hown
                have q0 := GK.BI.cell c2
                have q1 := GK.BI.cell l0
                clear c2 l0
                go_wp2_with fail
                refine GK.wp_region 10 [10, 11, 12] 200 (KeepB fun _ => False) (GK.BI w3) (fun _ _ _ => True) (by kernel_rfl) (by kernel_rfl) (GK.BI.way w3) (by decide) (Below.refl _ _).drew ?_
                simp only [List.take_succ_cons, List.take_zero]
                (repeat (refine GK.grow_quiet w3 (by rfl) (by rfl) ?_; intro K hK; go_big_quiet_op; go_big_quiet_on))
                refine GK.grow_new (K := fun _ => False) (by rfl) _ (fun b => .slice (some ⟨b, 0, none⟩) 1 1) 59 #[.int .i64 (k : Nat), .int .i64 (l : Nat), .int .i64 (t : Nat)] (fun _ => by go_simp) rfl (fun _ _ o h => GK.BI.alloc o h) (fun _ _ h => GK.BI.size h) (fun _ h => h.elim) (fun b hb => ?_)
                simp only [Act.put, List.setIfInBounds_toArray, List.set_cons_zero, List.set_cons_succ]
                refine GK.grow_nil ?_
                intro w4 hw4 hf
                obtain ⟨g', hge, hge2, hblk⟩ := hf _ List.mem_cons_self
                cases hge
                clear hf
                simp only [List.filterMap_cons, List.filterMap_nil, List.getElem?_cons_zero, List.getElem?_cons_succ]
                have hown4 := own_later hown.out hw4
                have z4 := Below.size hw4
                have c2 : w4.cell? ⟨w.heap.size + 1, 2, none⟩ = some v := by rw [Below.cell hw4 (by simpa using hbl)]; exact h3.out.blk.cell 2
                have f2 : w4.frozen? ⟨w.heap.size + 1, 2, none⟩ = false := by rw [Below.frozen hw4 (by simpa using hbl)]; exact h3.out.blk.frozen 2
                have hS4 := hid (h3.out.later hw4)
                clear q0 q1
                refine wpList_append_lies _ (by rfl) _ _ 26 (by rfl) (w.heap.size + 1 + 1) 59 i0 (.agg #[.int .i64 0, .int .i64 0, .int .i64 0]) 3 24 Tryd.underlying26 hi hz0 hz1 hz2 rfl (by decide) v es.length (edCells es) (by rfl) hown4 ⟨b, 0, none⟩ 1 1 [.int .i64 (k : Nat), .int .i64 (l : Nat), .int .i64 (t : Nat)] (by rfl) (by rfl) (World.news_of_block hblk) ?c1 (by omega) ?c3 ?c4 ?c5 w4.heap.size rfl ?_
                case c1 => simp [Value.oneCell']
                case c3 => unfold maxLen; omega
                case c4 => omega
                case c5 => omega
                intro gg cap w5 hown5 hgrow hat hlt5
                have c2' : w5.cell? ⟨w.heap.size + 1, 2, none⟩ = some v := by rw [hgrow.cell_far _ (by simp; omega) (Ne.symm ag)]; exact c2
                have f2' : w5.frozen? ⟨w.heap.size + 1, 2, none⟩ = false := by rw [hgrow.frozen_far _ (by simp; omega) (Ne.symm ag)]; exact f2
                have hes' : Hid (∀ e ∈ es ++ [(⟨k, l, t⟩ : Ed)], e.t < st) := hid (fun e he => by
                  rcases List.mem_append.1 he with he | he
                  · exact hes.out e he
                  · rw [List.mem_singleton.1 he]; exact hlt2)
                have hfin := hid (hS4.out.add' (x := ⟨k, l, t⟩) (by omega) hR (by omega) hown5 hgrow)
                clear hown4 hown5 hgrow c2 f2
                go_wp2_with fail
                go_roundw
                case rel => exact ⟨t + 1, N + 1, _, _, by go_num, by omega, by omega, hes'.out, hfin.out⟩
                case measure => simp [intOf]; omega
              · have hjb : ((j : Int) == 0) = false := by simp; omega
                replace hj := hid hj
                go_wp2_with fail
                go_roundw
                case rel => exact ⟨t + 1, N + 1, v, es, by go_num, by omega, by omega, hes.out, h3.out⟩
                case measure => simp [intOf]; omega
            · go_wp2_with fail
              go_roundw
              case rel => exact ⟨m + 1, N, v, es, by go_num, by omega, by omega, hes.out, hs.out⟩
              case measure => simp [intOf]; omega
        · go_wp2_with fail
          go_roundw
          case rel => exact ⟨k + 1, N, v, es, by go_num, by omega, by omega, hes.out, hs.out⟩
          case measure => simp [intOf]; omega
    · obtain ⟨Av, cv, hve, -, -⟩ := own_slice hs.out.own
      subst hve
      have c0 := hs.out.blk.cell 0
      have c1 := hs.out.blk.cell 1
      have c2 := hs.out.blk.cell 2
      have d0 := hs.out.res.cell 0
      have d1 := hs.out.res.cell 1
      have d2 := hs.out.res.cell 2
      have f0 := hs.out.res.frozen 0
      have f1 := hs.out.res.frozen 1
      have f2 := hs.out.res.frozen 2
      simp only [List.getElem?_toArray, List.getElem?_cons_zero, List.getElem?_cons_succ] at c0 c1 c2 d0 d1 d2
      have hfin := hid (hs.out.postQ (Q := fun s => s.st = st ∧ ∀ e ∈ s.es, e.t < st) ⟨rfl, hes.out⟩ (by omega) hR (.int .i64 al) (.int .i64 st) (.slice Av es.length cv))
      have hvl := hs.out.res.lt
      go_wp2
      refine bodyPost_ret (v := .agg #[.int .i64 al, .int .i64 st, .slice Av es.length cv]) (by simp [results, Tryd.results82, go_sem, d0, d1, d2]) rfl ?_
      exact hfin.out

theorem SyUpQ.ret {Q : Sy → Prop} {R P L : Nat} {w w1 : World} {s : Sy} {A : Option Addr} {c : Nat} (hq : Q s) (h1 : s.es.length ≤ c) (h2 : c ≤ 9223372036854775807) (h3 : s.es.length ≤ L) (h4 : EdsAt w1 w1.heap.size A s.es) (h5 : FreshA (w.heap.size + 1) A)
    (h6 : RdUp w1 R P) (h7 : KeepB (fun b => b = R) w w1) (hR : R < w.heap.size) (v1 v2 v3 : Value) :
    SyUpQ Q R P L w (.returned (.agg #[.int .i64 s.al, .int .i64 s.st, .slice A s.es.length c])) (((w1.setCell ⟨w.heap.size, 0, none⟩ v1).setCell ⟨w.heap.size, 1, none⟩ v2).setCell ⟨w.heap.size, 2, none⟩ v3) := by
  have hk : KeepB (fun b => b = w.heap.size) w1 (((w1.setCell ⟨w.heap.size, 0, none⟩ v1).setCell ⟨w.heap.size, 1, none⟩ v2).setCell ⟨w.heap.size, 2, none⟩ v3) := (((KeepB.refl _ w1).setCell _ _ (by simp)).setCell _ _ (by simp)).setCell _ _ (by simp)
  have hne : ∀ b o, A = some ⟨b, o, none⟩ → 0 < s.es.length → b ≠ w.heap.size := fun b o hA _ => by have := h5 b o hA; omega
  refine ⟨s, A, c, rfl, hq, h1, h2, h3, ?_, fun b o hA => by have := h5 b o hA; omega, h6.keep hk (by omega), ?_⟩
  · simpa [World.setCell] using ((h4.stored v1 hne).stored v2 hne).stored v3 hne
  · exact ((h7.setCell _ _ (by simp)).setCell _ _ (by simp)).setCell _ _ (by simp)

set_option maxRecDepth 100000 in
set_option maxHeartbeats 4000000 in
theorem l2Draw_few (R P : Nat) (w : World) (hP : P + 200000 ≤ 1125899906842624) (hr : RdUp w R P) :
    Calls Tryd.prog 48 #[.pointer (some ⟨R, 0, none⟩)] w (SyUpQ QT R (P + 2000) 1536 w) := by
  have hR := hr.lt
  have hres := Blk.new w 28 #[.int .i64 0, .int .i64 0, .slice none 0 0]
  have hb0 : Below w.heap.size w (w.alloc (.cells #[.int .i64 0, .int .i64 0, .slice none 0 0] 28)) := (Below.refl _ _).alloc (Nat.le_refl _) _
  generalize hw0 : w.alloc (.cells #[.int .i64 0, .int .i64 0, .slice none 0 0] 28) = w0 at hres hb0
  have hz0 : w0.heap.size = w.heap.size + 1 := by rw [← hw0]; simp
  have hr0 := hid (hr.later hb0)
  replace hr := hid hr
  replace hres := hid hres
  replace hz0 := hid hz0
  go_enter Tryd.func48, Tryd.ntmps48
  go_wp2_with fail
  refine (pick_up R P 3 w0 (by omega) (by omega) hr0.out).mono ?_
  rintro e wp ⟨j, rfl, hj0, hj1, hrp, hkp⟩
  clear hw0 hj1
  by_cases hj : j = 0
  · subst hj
    replace hrp := hid hrp
    replace hkp := hid hkp
    go_wp2_with fail
    refine (l2Texts_few wp).mono ?_
    rintro e wt ⟨xs, hxl, hxs, rfl, hcell, hlt, hbt⟩
    have hrt := hid (hrp.out.later hbt)
    have hRt := hrp.out.lt
    replace hcell := hid hcell
    replace hxs := hid hxs
    replace hxl := hid hxl
    go_wp2_with fail
    refine (of_up R (P + 1) wp.heap.size 0 11 11 xs wt hxl.out (by omega) (by omega) (by omega) (by omega) hlt (fun i h => hcell.out i h) hrt.out).mono ?_
    rintro e wo ⟨x, hx, rfl, hro, hko⟩
    have hx60 : x.size ≤ 900 := by have := (hxs.out x hx).1; omega
    have hxo := hid (hxs.out x hx).2
    replace hro := hid hro
    replace hko := hid hko
    clear hx
    go_wp2_with fail
    refine (parseSystem_few x wo hx60 hxo.out).mono ?_
    rintro e wq ⟨s, A, c, ok, rfl, hqt, h1, h2, h3, h4, h5, h6⟩
    replace hqt := hid hqt
    unfold Sy.val
    have kq0 : KeepB (fun b => b = R) w0 wq := ((hkp.out.trans (KeepB.of_below hbt)).trans hko.out).trans (KeepB.of_below h6)
    have hnb := Blk.new wq 28 #[.int .i64 s.al, .int .i64 s.st, .slice A s.es.length c]
    have hba : Below wq.heap.size wq (wq.alloc (.cells #[.int .i64 s.al, .int .i64 s.st, .slice A s.es.length c] 28)) := (Below.refl _ _).alloc (Nat.le_refl _) _
    have hrq := hid ((hro.out.later h6).later hba)
    have hkq := hid (kq0.trans (KeepB.of_below hba))
    replace h4 := hid (h4.later hba)
    have h5' : Hid (FreshA (w.heap.size + 1) A) := hid (fun b o hA => by have := h5 b o hA; have := (hkp.out.trans (KeepB.of_below hbt)).size; have := hko.out.size; have := hz0.out; omega)
    clear h5 h6
    have hsq : wq.heap.size < (wq.alloc (.cells #[.int .i64 s.al, .int .i64 s.st, .slice A s.es.length c] 28)).heap.size := by simp
    generalize hwa : wq.alloc (.cells #[.int .i64 s.al, .int .i64 s.st, .slice A s.es.length c] 28) = wa at *
    cases ok
    · go_wp2_with fail
      clear hwa
      refine (num_lit R (P + 2) [3, 6, 7, 5, 1, 0, 12] wa _ (by decide) (by decide) (by omega) hrq.out).mono ?_
      rintro e w1 ⟨al, hal, rfl, hr1, hk1⟩
      replace hr1 := hid hr1
      replace hk1 := hid hk1
      clear hal
      go_wp2_with fail
      refine (num_lit R (P + 2 + 1) [3, 2, 4, 1, 5] w1 _ (by decide) (by decide) (by omega) hr1.out).mono ?_
      rintro e w2 ⟨st, hst, rfl, hr2, hk2⟩
      have hst9 : Hid (st ≤ 9) := hid (by simp at hst; omega)
      have hst2 : st ≤ 16 := by have := hst9.out; omega
      replace hr2 := hid hr2
      replace hk2 := hid hk2
      clear hst
      go_wp2_with fail
      refine (num_lit R (P + 2 + 2) [3, 2, 4, 6] w2 _ (by decide) (by decide) (by omega) hr2.out).mono ?_
      rintro e w3 ⟨few, hfew, rfl, hr3, hk3⟩
      have hf : few ≤ 9223372036854775807 := by simp at hfew; omega
      replace hr3 := hid hr3
      replace hk3 := hid hk3
      clear hfew
      go_wp2_with fail
      refine (l2Random_few R (P + 2 + 3) al st few w3 (by omega) hst2 hf hr3.out).mono ?_
      rintro e w4 ⟨s, A, c, rfl, hqr, h1, h2, h3, h4, h5, h6, h7⟩
      have hq : QT s := ⟨by rw [hqr.1]; exact hst9.out, fun e he => by have := hqr.2 e he; have := hst9.out; omega⟩
      replace hqr := hid hqr
      unfold Sy.val
      have K1 : KeepB (fun b => b = R) w0 w3 := ((hkq.out.trans hk1.out).trans hk2.out).trans hk3.out
      have K2 : KeepB (fun b => b = R) w0 w4 := K1.trans h7
      have hbl := hres.out.keep K2 (by omega)
      have d0 := hbl.cell 0
      have d1 := hbl.cell 1
      have d2 := hbl.cell 2
      have f0 := hbl.frozen 0
      have f1 := hbl.frozen 1
      have f2 := hbl.frozen 2
      simp only [List.getElem?_toArray, List.getElem?_cons_zero, List.getElem?_cons_succ] at d0 d1 d2
      have hfin := hid (SyUpQ.ret (w := w) hq h1 h2 h3 h4 (fun b o hA => by have := h5 b o hA; have := K1.size; have := hz0.out; omega) (h6.more (by omega : P + 2 + 3 + 1536 ≤ P + 2000)) ((KeepB.of_below hb0).trans K2) hR (.int .i64 s.al) (.int .i64 s.st) (.slice A s.es.length c))
      have hlt := hbl.lt
      clear h4 h5 h6 h7 hbl K1 K2
      go_wp2
      refine bodyPost_ret (v := .agg #[.int .i64 s.al, .int .i64 s.st, .slice A s.es.length c]) (by simp [results, Tryd.results48, go_sem, d0, d1, d2]) rfl ?_
      exact hfin.out
    · have c0 := hnb.cell 0
      have c1 := hnb.cell 1
      have c2 := hnb.cell 2
      have hbl := hres.out.keep hkq.out (by omega)
      have d0 := hbl.cell 0
      have d1 := hbl.cell 1
      have d2 := hbl.cell 2
      have f0 := hbl.frozen 0
      have f1 := hbl.frozen 1
      have f2 := hbl.frozen 2
      simp only [List.getElem?_toArray, List.getElem?_cons_zero, List.getElem?_cons_succ] at d0 d1 d2 c0 c1 c2
      have hfin := hid (SyUpQ.ret (w := w) (by first | exact hqt.out trivial | exact hqt.out rfl) h1 h2 (show s.es.length ≤ 1536 by omega) h4.out h5'.out (hrq.out.more (by omega : P + 1 + 1 ≤ P + 2000)) ((KeepB.of_below hb0).trans hkq.out) hR (.int .i64 s.al) (.int .i64 s.st) (.slice A s.es.length c))
      have hlt2 := hbl.lt
      replace hnb := hid hnb
      replace hbl := hid hbl
      go_wp2
      refine bodyPost_ret (v := .agg #[.int .i64 s.al, .int .i64 s.st, .slice A s.es.length c]) (by simp [results, Tryd.results48, go_sem, d0, d1, d2]) rfl ?_
      exact hfin.out
  · have hjb : ((j : Int) == 0) = false := by simp; omega
    replace hj := hid hj
    have hrq := hid hrp
    have hkq := hid hkp
    clear hrp hkp
    go_wp2_with fail
    refine (num_lit R (P + 1) [3, 6, 7, 5, 1, 0, 12] wp _ (by decide) (by decide) (by omega) hrq.out).mono ?_
    rintro e w1 ⟨al, hal, rfl, hr1, hk1⟩
    replace hr1 := hid hr1
    replace hk1 := hid hk1
    clear hal
    go_wp2_with fail
    refine (num_lit R (P + 1 + 1) [3, 2, 4, 1, 5] w1 _ (by decide) (by decide) (by omega) hr1.out).mono ?_
    rintro e w2 ⟨st, hst, rfl, hr2, hk2⟩
    have hst9 : Hid (st ≤ 9) := hid (by simp at hst; omega)
    have hst2 : st ≤ 16 := by have := hst9.out; omega
    replace hr2 := hid hr2
    replace hk2 := hid hk2
    clear hst
    go_wp2_with fail
    refine (num_lit R (P + 1 + 2) [3, 2, 4, 6] w2 _ (by decide) (by decide) (by omega) hr2.out).mono ?_
    rintro e w3 ⟨few, hfew, rfl, hr3, hk3⟩
    have hf : few ≤ 9223372036854775807 := by simp at hfew; omega
    replace hr3 := hid hr3
    replace hk3 := hid hk3
    clear hfew
    go_wp2_with fail
    refine (l2Random_few R (P + 1 + 3) al st few w3 (by omega) hst2 hf hr3.out).mono ?_
    rintro e w4 ⟨s, A, c, rfl, hqr, h1, h2, h3, h4, h5, h6, h7⟩
    have hq : QT s := ⟨by rw [hqr.1]; exact hst9.out, fun e he => by have := hqr.2 e he; have := hst9.out; omega⟩
    replace hqr := hid hqr
    unfold Sy.val
    have K1 : KeepB (fun b => b = R) w0 w3 := ((hkq.out.trans hk1.out).trans hk2.out).trans hk3.out
    have K2 : KeepB (fun b => b = R) w0 w4 := K1.trans h7
    have hbl := hres.out.keep K2 (by omega)
    have d0 := hbl.cell 0
    have d1 := hbl.cell 1
    have d2 := hbl.cell 2
    have f0 := hbl.frozen 0
    have f1 := hbl.frozen 1
    have f2 := hbl.frozen 2
    simp only [List.getElem?_toArray, List.getElem?_cons_zero, List.getElem?_cons_succ] at d0 d1 d2
    have hfin := hid (SyUpQ.ret (w := w) hq h1 h2 h3 h4 (fun b o hA => by have := h5 b o hA; have := K1.size; have := hz0.out; omega) (h6.more (by omega : P + 1 + 3 + 1536 ≤ P + 2000)) ((KeepB.of_below hb0).trans K2) hR (.int .i64 s.al) (.int .i64 s.st) (.slice A s.es.length c))
    have hlt := hbl.lt
    clear h4 h5 h6 h7 hbl K1 K2
    go_wp2
    refine bodyPost_ret (v := .agg #[.int .i64 s.al, .int .i64 s.st, .slice A s.es.length c]) (by simp [results, Tryd.results48, go_sem, d0, d1, d2]) rfl ?_
    exact hfin.out

end Go.Proofs.YtdkjnemakkppfaaDoor

/- The drawing kit once more: l6Change keeps few states. -/
namespace Go.Proofs.YtdkjnemakkppfaaDoor
open Go.RowKit Go.BigFrame AG

theorem OutSt.finQ {Q : Sy → Prop} {w wr : World} {R P B gs ρ L : Nat} {al st : Int} {A : Option Addr} {c : Nat} {es : List Ed} (h : OutSt w wr R P B gs al st (.slice A es.length c) es L) (hq : Q ⟨al, st, es⟩) (hR : R < w.heap.size) (hρ : w.heap.size ≤ ρ) (hρB : ρ < B) (v1 v2 v3 : Value) :
    SyUpQ Q R P L w (.returned (.agg #[.int .i64 al, .int .i64 st, .slice A es.length c])) (((wr.setCell ⟨ρ, 0, none⟩ v1).setCell ⟨ρ, 1, none⟩ v2).setCell ⟨ρ, 2, none⟩ v3) := by
  obtain ⟨A', c', hv, h1, h2, h3, h4⟩ := h.own.read
  cases hv
  have hk : KeepB (fun b => b = ρ) wr (((wr.setCell ⟨ρ, 0, none⟩ v1).setCell ⟨ρ, 1, none⟩ v2).setCell ⟨ρ, 2, none⟩ v3) := (((KeepB.refl _ wr).setCell _ _ (by simp)).setCell _ _ (by simp)).setCell _ _ (by simp)
  have hne : ∀ b o, A = some ⟨b, o, none⟩ → 0 < es.length → b ≠ ρ := fun b o hA _ => by have := h4 b o hA; omega
  refine ⟨⟨al, st, es⟩, A, c, rfl, hq, h1, h2, h.len, ?_, fun b o hA => by have := h4 b o hA; omega, h.rd.keep hk (by omega), ?_⟩
  · simpa [World.setCell] using ((h3.stored v1 hne).stored v2 hne).stored v3 hne
  · exact ((h.keep.setCell _ _ (by simp; omega)).setCell _ _ (by simp; omega)).setCell _ _ (by simp; omega)

theorem OutSt.finQ' {Q : Sy → Prop} {w wr : World} {R P B gs ρ L n : Nat} {al st : Int} {A : Option Addr} {c : Nat} {es : List Ed} (hn : es.length = n) (h : OutSt w wr R P B gs al st (.slice A n c) es L) (hq : Q ⟨al, st, es⟩) (hR : R < w.heap.size) (hρ : w.heap.size ≤ ρ) (hρB : ρ < B) (v1 v2 v3 : Value) :
    SyUpQ Q R P L w (.returned (.agg #[.int .i64 al, .int .i64 st, .slice A n c])) (((wr.setCell ⟨ρ, 0, none⟩ v1).setCell ⟨ρ, 1, none⟩ v2).setCell ⟨ρ, 2, none⟩ v3) := by
  subst hn
  exact h.finQ hq hR hρ hρB v1 v2 v3
/-- What l6Change holds: the copy as far as it is made, and the edge x. -/
structure ChSq (w0 wr : World) (R P gs ge : Nat) (al st : Int) (v : Value) (es : List Ed) (L : Nat) (x : Ed) : Prop where
  out : OutSt w0 wr R P w0.heap.size gs al st v es L
  ed : Blk wr ge 59 #[.int .i64 x.f, .int .i64 x.l, .int .i64 x.t]
  far : ∀ k, v.ownBlock = some k → ge < k
  lt : gs < ge
  few : (∀ e ∈ es, e.t ≤ 9) ∧ x.t ≤ 9
theorem ChSq.call {w0 wr w1 : World} {R P P' gs ge : Nat} {al st : Int} {v : Value} {es : List Ed} {L : Nat} {x : Ed} (h : ChSq w0 wr R P gs ge al st v es L x) (hk : KeepB (fun b => b = R) wr w1) (hr : RdUp w1 R P') (hR : R < w0.heap.size) : ChSq w0 w1 R P' gs ge al st v es L x :=
  ⟨h.out.call hk hr hR, h.ed.keep hk (by have := h.lt; have := h.out.hgs; omega), h.far, h.lt, h.few⟩
theorem ChSq.later {w0 wr w1 : World} {R P gs ge : Nat} {al st : Int} {v : Value} {es : List Ed} {L : Nat} {x : Ed} (h : ChSq w0 wr R P gs ge al st v es L x) (hb : Below wr.heap.size wr w1) (hR : R < w0.heap.size) : ChSq w0 w1 R P gs ge al st v es L x := h.call (KeepB.of_below hb) (h.out.rd.later hb) hR
theorem ChSq.more {w0 wr : World} {R P P' gs ge : Nat} {al st : Int} {v : Value} {es : List Ed} {L L' : Nat} {x : Ed} (h : ChSq w0 wr R P gs ge al st v es L x) (hP : P ≤ P') (hL : L ≤ L') : ChSq w0 wr R P' gs ge al st v es L' x :=
  ⟨⟨h.out.blk, h.out.own, by have := h.out.len; omega, h.out.rd.more hP, h.out.keep, h.out.hB, h.out.hgs⟩, h.ed, h.far, h.lt, h.few⟩
theorem ChSq.add {w0 wr w1 : World} {R P gs ge : Nat} {al st : Int} {v v' : Value} {es : List Ed} {L : Nat} {x y : Ed} (h : ChSq w0 wr R P gs ge al st v es L x) (hy : y.t ≤ 9) (hR : R < w0.heap.size)
    (hown : w1.ownsRow w0.heap.size 59 3 v' (es.length + 1) (edCells es ++ [.int .i64 y.f, .int .i64 y.l, .int .i64 y.t])) (hg : wr.grownBy w1 v.ownBlock) (hat : v'.ownBlock = v.ownBlock ∨ v'.ownBlock = some wr.heap.size) :
    ChSq w0 (w1.setCell ⟨gs, 2, none⟩ v') R P gs ge al st v' (es ++ [y]) (L + 1) x := by
  have h1 := h.lt
  have hge := h.ed.lt
  have k1 : KeepB (fun b => v.ownBlock = some b) wr w1 := (KeepB.refl _ wr).grown hg (fun k hk _ => hk)
  have k2 : KeepB (fun b => v.ownBlock = some b ∨ b = gs) wr (w1.setCell ⟨gs, 2, none⟩ v') := (k1.mono fun _ h => .inl h).setCell _ _ fun _ => .inr rfl
  refine ⟨h.out.add hR hown hg hat, h.ed.keep k2 (by rintro (hk | hk); (have := h.far _ hk; omega); omega), fun k hk => ?_, h1, ⟨fun e he => ?_, h.few.2⟩⟩
  case refine_2 =>
    rcases List.mem_append.1 he with he | he
    · exact h.few.1 e he
    · rw [List.mem_singleton.1 he]; exact hy
  rcases hat with e | e
  · rw [e] at hk; exact h.far k hk
  · rw [e] at hk; injection hk with hk; omega

set_option maxRecDepth 100000 in
set_option maxHeartbeats 16000000 in
theorem l6Change_few (R P L : Nat) (s : Sy) (A : Option Addr) (c : Nat) (w : World) (hP : P + 9000000 ≤ 1125899906842624) (hl : s.es.length ≤ c) (hc : c ≤ 9223372036854775807) (hL : s.es.length ≤ L) (hL2 : L ≤ 40000)
    (hqs : QT s) (hs : EdsAt w w.heap.size A s.es) (hf : FreshA (R + 1) A) (hr : RdUp w R P) :
    Calls Tryd.prog 49 #[.pointer (some ⟨R, 0, none⟩), s.val A c] w (SyUpQ QT R (P + 4000000) (2 * L + 1) w) := by
  obtain ⟨i0, hi, hz0, hz1, hz2⟩ := info_parts infoEd
  have hR := hr.lt
  replace hqs := hid hqs
  unfold Sy.val
  have hres := (Blk.new (w.alloc (.cells #[.int .i64 s.al, .int .i64 s.st, .slice A s.es.length c] 28)) 28 #[.int .i64 0, .int .i64 0, .slice none 0 0])
  have hpar := (Blk.new w 28 #[.int .i64 s.al, .int .i64 s.st, .slice A s.es.length c]).alloc (.cells #[.int .i64 0, .int .i64 0, .slice none 0 0] 28)
  have hb0 : Below w.heap.size w ((w.alloc (.cells #[.int .i64 s.al, .int .i64 s.st, .slice A s.es.length c] 28)).alloc (.cells #[.int .i64 0, .int .i64 0, .slice none 0 0] 28)) := ((Below.refl _ _).alloc (Nat.le_refl _) _).alloc (by simp) _
  have hsz0 : ((w.alloc (.cells #[.int .i64 s.al, .int .i64 s.st, .slice A s.es.length c] 28)).alloc (.cells #[.int .i64 0, .int .i64 0, .slice none 0 0] 28)).heap.size = w.heap.size + 2 := by simp
  simp only [World.size_alloc] at hres
  generalize hw0 : (w.alloc (.cells #[.int .i64 s.al, .int .i64 s.st, .slice A s.es.length c] 28)).alloc (.cells #[.int .i64 0, .int .i64 0, .slice none 0 0] 28) = w0 at hres hb0 hsz0 hpar
  have p0 := hpar.cell 0
  have p1 := hpar.cell 1
  have p2 := hpar.cell 2
  simp only [List.getElem?_toArray, List.getElem?_cons_zero, List.getElem?_cons_succ] at p0 p1 p2
  have hR0 : R < w0.heap.size := by omega
  have hr0 := hr.later hb0
  have hs0 := hid (hs.later hb0)
  have hpp := hid (show _ ∧ _ ∧ _ from ⟨p0, p1, p2⟩)
  have hO1 : OutSt w0 (w0.alloc (.cells #[.int .i64 s.al, .int .i64 s.st, .slice none 0 0] 28)) R P w0.heap.size w0.heap.size s.al s.st (.slice none 0 0) [] 0 :=
    ⟨Blk.new _ _ _, World.ownsRow_nil _ _ _ _, Nat.le_refl _, hr0.later ((Below.refl _ _).alloc (Nat.le_refl _) _), (KeepB.refl _ _).alloc _, Nat.le_refl _, Nat.le_refl _⟩
  have hgs : w0.heap.size < (w0.alloc (.cells #[.int .i64 s.al, .int .i64 s.st, .slice none 0 0] 28)).heap.size := by simp
  have hO1' := hid hO1
  have hpk : ∀ wx, KeepB (fun b => b = R) w0 wx → Hid (wx.cell? ⟨w.heap.size, 0, none⟩ = some (.int .i64 s.al) ∧ wx.cell? ⟨w.heap.size, 1, none⟩ = some (.int .i64 s.st) ∧ wx.cell? ⟨w.heap.size, 2, none⟩ = some (.slice A s.es.length c)) := fun wx hk =>
    hid ⟨by rw [KeepB.cell_ hk (p := ⟨w.heap.size, 0, none⟩) (by show w.heap.size < _; omega) (by show ¬ w.heap.size = R; omega)]; exact hpp.out.1, by rw [KeepB.cell_ hk (p := ⟨w.heap.size, 1, none⟩) (by show w.heap.size < _; omega) (by show ¬ w.heap.size = R; omega)]; exact hpp.out.2.1, by rw [KeepB.cell_ hk (p := ⟨w.heap.size, 2, none⟩) (by show w.heap.size < _; omega) (by show ¬ w.heap.size = R; omega)]; exact hpp.out.2.2⟩
  replace hres := hid hres
  replace hsz0 := hid hsz0
  replace hf := hid hf
  have hp1 := hpk _ hO1'.out.keep
  have a0 := hp1.out.1
  have a1 := hp1.out.2.1
  have a2 := hp1.out.2.2
  clear hs hr hr0 hO1 hpar hgs
  go_enter Tryd.func49, Tryd.ntmps49
  go_wp2_with fail
  refine (pick_up R P ((s.es.length : Int) + 2) _ (by omega) (by omega) hO1'.out.rd).mono ?_
  rintro e w2 ⟨q, rfl, hq0, hq1, hr2, hk2⟩
  have hO2 := hid (hO1'.out.call hk2 hr2 hR0)
  clear hr2 hk2 hO1' hw0 p0 p1 p2 hq0 hq1 a0 a1 a2 hp1
  have hneR : w.heap.size ≠ R := by omega
  have hp2 := hpk w2 hO2.out.keep
  have c1 := hp2.out.2.1
  have q1 := RI.cell hO2.out.rd c1 hneR
  go_wp2_with fail
  clear c1
  refine GK.wp_region 10 [10] 200 (KeepB fun b => b = R) (RI w2 R (P + 1)) (fun _ u _ => ∃ x : Int, u = .int .i64 x ∧ x ≤ 9) (by kernel_rfl) (by kernel_rfl) (RI.way w2 R _) (by decide) (RI.drew hO2.out.rd) ?_
  simp only [List.take_succ_cons, List.take_zero]
  (repeat (refine GK.grow_quiet w2 (by rfl) (by rfl) ?_; intro K hK; go_big_quiet_op; go_big_quiet_on))
  refine GK.grow_call (by rfl) (fun u w w' _ h => h) (fun m wq hm hbq hf => ?_) ?_
  · go_simp
    exact ⟨rfl, (pick_upF R (P + 1 + m * 10000) s.st wq (by omega) hbq.2).mono fun e w' ⟨x, h2, _, hx, h3, h4⟩ => ⟨_, h2, RI.call hbq h4 h3 (by omega), x, rfl, by have := hqs.out.1; omega⟩⟩
  rintro u ⟨_, _, _, x1, rfl, hx1⟩
  replace hx1 := hid hx1
  simp only [Act.put, List.setIfInBounds_toArray, List.set_cons_zero, List.set_cons_succ]
  (repeat (refine GK.grow_quiet w2 (by rfl) (by rfl) ?_; intro K hK; go_big_quiet_op; go_big_quiet_on))
  refine GK.grow_call (by rfl) (fun u w w' _ h => h) (fun m wq hm hbq hf => ?_) ?_
  · go_simp
    exact ⟨rfl, (pick_upF R (P + 1 + m * 10000) s.st wq (by omega) hbq.2).mono fun e w' ⟨x, h2, _, hx, h3, h4⟩ => ⟨_, h2, RI.call hbq h4 h3 (by omega), x, rfl, by have := hqs.out.1; omega⟩⟩
  rintro u ⟨_, _, _, x2, rfl, hx2⟩
  replace hx2 := hid hx2
  simp only [Act.put, List.setIfInBounds_toArray, List.set_cons_zero, List.set_cons_succ]
  (repeat (refine GK.grow_quiet w2 (by rfl) (by rfl) ?_; intro K hK; go_big_quiet_op; go_big_quiet_on))
  have hO2h := hO2.out.keep.size
  have hO2b := hO2.out.blk.lt
  refine GK.grow_new (K := fun b => b = R) (by rfl) w2.heap.size (fun b => .pointer (some ⟨b, 0, none⟩)) 59 #[.int .i64 0, .int .i64 0, .int .i64 0] (fun _ => by go_simp) rfl (fun _ _ o h => RI.alloc o h) (fun _ _ h => RI.size h) (fun k hk => by omega) (fun ge hge => ?_)
  simp only [Act.put, List.setIfInBounds_toArray, List.set_cons_zero, List.set_cons_succ]
  refine GK.grow_nil ?_
  intro w3 hw3 hfx
  obtain ⟨g', z1, z2, hblk⟩ := hfx _ List.mem_cons_self
  cases z1
  clear hfx q1
  simp only [List.filterMap_cons, List.filterMap_nil, List.getElem?_cons_zero, List.getElem?_cons_succ]
  have hblk3 : Blk w3 ge 59 #[.int .i64 0, .int .i64 0, .int .i64 0] := hblk
  have hO3 := hO2.out.call hw3.1 hw3.2 hR0
  have hE4 : ChSq w0 (((w3.setCell ⟨ge, 0, none⟩ (.int .i64 x1)).setCell ⟨ge, 1, none⟩ (.int .i64 0)).setCell ⟨ge, 2, none⟩ (.int .i64 x2)) R (P + 1 + 10 * 10000) w0.heap.size ge s.al s.st (.slice none 0 0) [] 0 ⟨x1, 0, x2⟩ := by
    have hk : KeepB (fun b => b = ge) w3 (((w3.setCell ⟨ge, 0, none⟩ (.int .i64 x1)).setCell ⟨ge, 1, none⟩ (.int .i64 0)).setCell ⟨ge, 2, none⟩ (.int .i64 x2)) := (((KeepB.refl _ w3).setCell _ _ (by simp)).setCell _ _ (by simp)).setCell _ _ (by simp)
    refine ⟨⟨hO3.blk.keep hk (by omega), World.ownsRow_nil _ _ _ _, Nat.le_refl _, hO3.rd.keep hk (by omega), ((hO3.keep.setCell _ _ (by simp; omega)).setCell _ _ (by simp; omega)).setCell _ _ (by simp; omega), Nat.le_refl _, Nat.le_refl _⟩, ?_, (fun k hk => by cases hk), by omega, ⟨fun e h => (by cases h), hx2.out⟩⟩
    simpa using ((hblk3.set_ 0 (.int .i64 x1)).set_ 1 (.int .i64 0)).set_ 2 (.int .i64 x2)
  have d0 := hblk3.cell 0
  have d1 := hblk3.cell 1
  have d2 := hblk3.cell 2
  have f0 := hblk3.frozen 0
  have f1 := hblk3.frozen 1
  have f2 := hblk3.frozen 2
  simp only [List.getElem?_toArray, List.getElem?_cons_zero, List.getElem?_cons_succ] at d0 d1 d2
  have hgl3 := hblk3.lt
  obtain ⟨w4, hw4⟩ : ∃ w4, ((w3.setCell ⟨ge, 0, none⟩ (.int .i64 x1)).setCell ⟨ge, 1, none⟩ (.int .i64 0)).setCell ⟨ge, 2, none⟩ (.int .i64 x2) = w4 := ⟨_, rfl⟩
  rw [hw4] at hE4
  replace hE4 := hid hE4
  have hp4 := hpk w4 hE4.out.out.keep
  have c0 := hp4.out.1
  clear hO3 hblk hblk3 hw3
  go_wp2_with fail
  refine (l1Letters_any s.al w4).mono ?_
  rintro e w5 ⟨lv, rfl, hown, hb5⟩
  clear hw4 d0 d1 d2 f0 f1 f2 c0
  have hE5 := hid ((hE4.out.later hb5 hR0).more (P' := P + 200000) (L' := 0) (by omega) (by omega))
  obtain ⟨ls, hls⟩ : ∃ ls, Hid (ls = letters s.al) := ⟨_, hid rfl⟩
  rw [← hls.out] at hown
  have hl6 : ls.length ≤ 6 := by rw [hls.out]; exact lettersTo_len s.al 6
  obtain ⟨Al, cl, hvl, hcl, hcl'⟩ := own_slice hown
  subst hvl
  have hRl : R < w4.heap.size := by have := hE4.out.out.keep.size; omega
  replace hown := hid hown
  go_upto_region 5 with fail
  go_cut [9] (fun sm wx => ∃ b : Bool, sm = .bool b ∧ (b = true → 0 < ls.length) ∧ ChSq w0 wx R (P + 200001) w0.heap.size ge s.al s.st (.slice none 0 0) [] 0 ⟨x1, 0, x2⟩ ∧ OwnNats wx w4.heap.size (.slice Al ls.length cl) ls)
  case first =>
    by_cases hl0 : ls.length = 0
    · go_wp2_with fail
      go_meet
      exact ⟨false, rfl, by simp, hE5.out.more (by omega) (by omega), hown.out⟩
    · have e0 : (0 : Int) < (ls.length : Int) := by omega
      replace hl0 := hid hl0
      go_wp2_with fail
      refine (pick_up R (P + 200000) 2 w5 (by omega) (by omega) hE5.out.out.rd).mono ?_
      rintro e w6 ⟨j, rfl, hj0, hj1, hr6, hk6⟩
      have hE6 := hid (hE5.out.call hk6 hr6 hR0)
      have hown6 := hid (own_keep hown.out hk6 (fun g hg => by have := (World.ownsRow.lt hown.out g hg).1; omega))
      clear hr6 hk6 hj1
      by_cases hj : j = 0
      · subst hj
        go_wp2_with fail
        go_meet
        exact ⟨true, rfl, fun _ => by omega, hE6.out, hown6.out⟩
      · have hjb : ((j : Int) == 0) = false := by simpa using hj
        replace hj := hid hj
        go_wp2_with fail
        go_meet
        exact ⟨false, rfl, by simp, hE6.out, hown6.out⟩
  case rest =>
    clear hE5 hown
    obtain ⟨b, rfl, hbl, hE, hown⟩ := hcut
    replace hE := hid hE
    replace hown := hid hown
    go_upto_if 42 with fail
    go_cut [] (fun wx => ∃ y : Ed, ChSq w0 wx R (P + 200002) w0.heap.size ge s.al s.st (.slice none 0 0) [] 0 y)
    case first =>
      cases b
      · go_wp2_with fail
        go_meet
        exact ⟨_, hE.out.more (by omega) (by omega)⟩
      · have hl0 := hbl rfl
        clear hbl
        have hE6 := hE
        go_wp2_with fail
        refine (pick_up R (P + 200001) ls.length _ (by omega) (by omega) hE.out.out.rd).mono ?_
        rintro e w7 ⟨j, rfl, hj0, hj1, hr7, hk7⟩
        obtain ⟨q2, rfl⟩ := Int.eq_ofNat_of_zero_le hj0
        have hql : q2 < ls.length := by omega
        have hE7 := hid (hE.out.call hk7 hr7 hR0)
        have hown7 := hid (own_keep hown.out hk7 (fun g hg => by have := (World.ownsRow.lt hown.out g hg).1; omega))
        clear hr7 hk7 hj0 hj1
        obtain ⟨g, cap, hve, hg1, hg2, -, -, hLL⟩ := own_nats hown7.out (by omega)
        cases hve
        have l0 := hLL q2 hql
        obtain ⟨l, hl'⟩ : ∃ l : Nat, l = ls[q2] := ⟨_, rfl⟩
        rw [← hl'] at l0
        replace hl' := hid hl'
        replace hLL := hid hLL
        have i1 : (0 : Int) ≤ (q2 : Int) ∧ (q2 : Int) < (ls.length : Int) := by omega
        have d1 := hE7.out.ed.cell 1
        have f1 := hE7.out.ed.frozen 1
        simp only [List.getElem?_toArray, List.getElem?_cons_zero, List.getElem?_cons_succ] at d1
        have hgl7 := hE7.out.ed.lt
        go_wp2_with fail
        go_meet
        have hk : KeepB (fun b => b = ge) w7 (w7.setCell ⟨ge, 1, none⟩ (.int .i64 (l : Nat))) := (KeepB.refl _ w7).setCell _ _ (by simp)
        have h7 := hE7.out
        have hgl := h7.lt
        exact ⟨⟨x1, l, x2⟩, ⟨h7.out.blk.keep hk (by omega), World.ownsRow_nil _ _ _ _, Nat.le_refl _, h7.out.rd.keep hk (by omega), h7.out.keep.setCell _ _ (by simp; omega), Nat.le_refl _, Nat.le_refl _⟩, by simpa using h7.ed.set_ 1 (.int .i64 (l : Nat)), (fun k hk => by cases hk), hgl, h7.few⟩
    case rest =>
      clear hE hown hbl
      obtain ⟨y, hE⟩ := hcut
      replace hE := hid hE
      go_wp2_with fail
      go_loopw [9, 10] (fun mv iv wr => ∃ (m : Bool) (k : Nat) (v : Value) (es : List Ed), mv = .bool m ∧ iv = .int .i64 k ∧ k ≤ s.es.length ∧ ChSq w0 wr R (P + 200002) w0.heap.size ge s.al s.st v es (2 * k) y) (fun _ iv _ => s.es.length - (intOf iv).toNat)
      case atStart => exact ⟨b, 0, _, [], rfl, rfl, by omega, hE.out⟩
      case round =>
        obtain ⟨m, k, v, es, rfl, rfl, hk, hs⟩ := hrel
        clear hE
        replace hs := hid hs
        have hpw := hpk wr hs.out.out.keep
        have p2 := hpw.out.2.2
        by_cases hlt : k < s.es.length
        · have hlt' : (k : Int) < (s.es.length : Int) := by omega
          obtain ⟨sb, so, hA, hsb, hEs⟩ := hs0.out (by omega)
          have hsR : sb ≠ R := by have := hf.out sb so hA; omega
          obtain ⟨z, hz⟩ : ∃ z, Hid (z = s.es[k]) := ⟨_, hid rfl⟩
          have hzc : ∀ wx, KeepB (fun b => b = R) w0 wx → Hid (wx.cell? ⟨sb, so + k * 3, none⟩ = some (.int .i64 z.f) ∧ wx.cell? ⟨sb, so + k * 3 + 1, none⟩ = some (.int .i64 z.l) ∧ wx.cell? ⟨sb, so + k * 3 + 2, none⟩ = some (.int .i64 z.t)) := fun wx hkx => by
            have e := hEs k hlt
            rw [hz.out]
            exact hid ⟨by rw [KeepB.cell_ hkx hsb hsR]; exact e.1, by rw [KeepB.cell_ hkx hsb hsR]; exact e.2.1, by rw [KeepB.cell_ hkx hsb hsR]; exact e.2.2⟩
          have i1 : (0 : Int) ≤ (k : Int) ∧ (k : Int) < (s.es.length : Int) := by omega
          subst hA
          replace hEs := hid hEs
          replace hf := hid hf
          go_upto_region 11 with fail
          clear p2 hpw
          go_cut [67] (fun tv wx => ∃ tb : Bool, tv = .bool tb ∧ ChSq w0 wx R (P + 200002) w0.heap.size ge s.al s.st v es (2 * k) y)
          case first =>
            cases m
            · refine GK.wp_region 10 [] 200 (KeepB fun _ => False) (GK.BI wr) (fun _ u _ => u = .bool (edgeLt y z)) (by kernel_rfl) (by kernel_rfl) (GK.BI.way wr) (by decide) (Below.refl _ _).drew ?_
              simp only [List.take_succ_cons, List.take_zero]
              (repeat (refine GK.grow_quiet wr (by rfl) (by rfl) ?_; intro K hK; go_big_quiet_op; go_big_quiet_on))
              (repeat (refine GK.grow_skip (by rfl) ?_; simp only [Act.put, List.setIfInBounds_toArray, List.set_cons_zero, List.set_cons_succ]))
              (repeat (refine GK.grow_quiet wr (by rfl) (by rfl) ?_; intro K hK; go_big_quiet_op; go_big_quiet_on))
              refine GK.grow_nil ?_
              intro w4 hw4 _
              replace hw4 : Below wr.heap.size wr w4 := hw4
              simp only [List.filterMap_cons, List.filterMap_nil, List.getElem?_cons_zero, List.getElem?_cons_succ]
              have hS4 := hid (hs.out.later hw4 hR0)
              go_wp2_with fail
              go_meet
              exact ⟨_, rfl, hS4.out⟩
            · have hzw := hzc wr hs.out.out.keep
              have hpw := hpk wr hs.out.out.keep
              have q0 := GK.BI.cell hzw.out.1
              have q1 := GK.BI.cell hzw.out.2.1
              have q2 := GK.BI.cell hzw.out.2.2
              have q3 := GK.BI.cell hpw.out.2.2
              have y0 := hs.out.ed.cell 0
              have y1 := hs.out.ed.cell 1
              have y2 := hs.out.ed.cell 2
              simp only [List.getElem?_toArray, List.getElem?_cons_zero, List.getElem?_cons_succ] at y0 y1 y2
              replace y0 := GK.BI.cell y0
              replace y1 := GK.BI.cell y1
              replace y2 := GK.BI.cell y2
              refine GK.wp_region 10 [] 200 (KeepB fun _ => False) (GK.BI wr) (fun _ u _ => u = .bool (edgeLt y z)) (by kernel_rfl) (by kernel_rfl) (GK.BI.way wr) (by decide) (Below.refl _ _).drew ?_
              simp only [List.take_succ_cons, List.take_zero]
              (repeat (refine GK.grow_quiet wr (by rfl) (by rfl) ?_; intro K hK; go_big_quiet_op; go_big_quiet_on))
              refine GK.grow_call (by rfl) (fun u w w' _ h => h) (fun mm wq hm hbq hf => ?_) ?_
              · go_simp
                exact ⟨rfl, (l2Before_any y z wq).mono fun e w' ⟨h2, h3⟩ => ⟨h2, GK.BI.after hbq h3⟩⟩
              rintro u ⟨_, _, _, rfl⟩
              simp only [Act.put, List.setIfInBounds_toArray, List.set_cons_zero, List.set_cons_succ]
              (repeat (refine GK.grow_quiet wr (by rfl) (by rfl) ?_; intro K hK; go_big_quiet_op; go_big_quiet_on))
              refine GK.grow_nil ?_
              intro w4 hw4 _
              replace hw4 : Below wr.heap.size wr w4 := hw4
              simp only [List.filterMap_cons, List.filterMap_nil, List.getElem?_cons_zero, List.getElem?_cons_succ]
              have hS4 := hid (hs.out.later hw4 hR0)
              clear q0 q1 q2 q3 y0 y1 y2
              go_wp2_with fail
              go_meet
              exact ⟨_, rfl, hS4.out⟩
          case rest =>
            clear hs
            obtain ⟨tb, rfl, hs⟩ := hcut
            replace hs := hid hs
            go_upto_if 67 with fail
            go_cut [9] (fun mv wx => ∃ (m : Bool) (v : Value) (es : List Ed), mv = .bool m ∧ ChSq w0 wx R (P + 200002) w0.heap.size ge s.al s.st v es (2 * k + 1) y)
            case first =>
              cases tb
              · go_wp2_with fail
                go_meet
                exact ⟨_, _, _, rfl, hs.out.more (Nat.le_refl _) (by omega)⟩
              · obtain ⟨Av, cv, hve, hcv, hcv'⟩ := own_slice hs.out.out.own
                subst hve
                have g2 := hs.out.out.blk.cell 2
                have y0 := hs.out.ed.cell 0
                have y1 := hs.out.ed.cell 1
                have y2 := hs.out.ed.cell 2
                simp only [List.getElem?_toArray, List.getElem?_cons_zero, List.getElem?_cons_succ] at g2 y0 y1 y2
                have gl := hs.out.out.blk.lt
                have el := hs.out.ed.lt
                have hown := hid hs.out.out.own
                have hlen := hs.out.out.len
                go_wp2_with (at_builtin; refine wpList_append_own_at _ (by rfl) _ _ 26 (by rfl) w0.heap.size 59 i0 (.agg #[.int .i64 0, .int .i64 0, .int .i64 0]) 3 24 Tryd.underlying26 hi hz0 hz1 hz2 rfl (by decide) _ es.length (edCells es) (by rfl) (hown.out.alloc _) ⟨wc.heap.size, 0, none⟩ 1 1 [.int .i64 y.f, .int .i64 y.l, .int .i64 y.t] (by rfl) (by rfl) (World.news_of_block (heap_alloc_new wc _)) ?c1 ?c3 ?c4 ?c5 ?_)
                case c1 => simp [Value.oneCell']
                case c3 => unfold maxLen; omega
                case c4 => omega
                case c5 => have := hs.out.out.keep.size; simp; omega
                intro v9 w9 hown9 hgrow9 hnil9 hat9
                obtain ⟨A9, c9, hv9, -, -⟩ := own_slice hown9
                subst hv9
                have hL := hs.out.later ((Below.refl _ wc).alloc (Nat.le_refl _) (.cells #[.int .i64 y.f, .int .i64 y.l, .int .i64 y.t] 59)) hR0
                have ag := hL.out.ne
                have gll := hL.out.blk.lt
                have g2' : w9.cell? ⟨w0.heap.size, 2, none⟩ = some (.slice Av es.length cv) := by rw [hgrow9.cell_far _ gll (Ne.symm ag)]; exact hL.out.blk.cell 2
                have f2' : w9.frozen? ⟨w0.heap.size, 2, none⟩ = false := by rw [hgrow9.frozen_far _ gll (Ne.symm ag)]; exact hL.out.blk.frozen 2
                have h9 := hid (hL.add hL.few.2 hR0 hown9 hgrow9 (by rw [World.size_alloc]; exact hat9))
                clear hown9 hgrow9 hnil9 hat9 hL g2 y0 y1 y2 ag
                go_wp2_with fail
                go_meet
                exact ⟨false, _, _, rfl, h9.out⟩
            case rest =>
              clear hs
              obtain ⟨m, v, es, rfl, hs⟩ := hcut
              replace hs := hid hs
              go_upto_region 14 with fail
              go_cut [83] (fun tv wx => ∃ tb : Bool, tv = .bool tb ∧ ChSq w0 wx R (P + 200002) w0.heap.size ge s.al s.st v es (2 * k + 1) y)
              case first =>
                cases m
                · refine GK.wp_region 10 [] 200 (KeepB fun _ => False) (GK.BI wc) (fun _ _ _ => True) (by kernel_rfl) (by kernel_rfl) (GK.BI.way wc) (by decide) (Below.refl _ _).drew ?_
                  simp only [List.take_succ_cons, List.take_zero]
                  (repeat (refine GK.grow_quiet wc (by rfl) (by rfl) ?_; intro K hK; go_big_quiet_op; go_big_quiet_on))
                  (repeat (refine GK.grow_skip (by rfl) ?_; simp only [Act.put, List.setIfInBounds_toArray, List.set_cons_zero, List.set_cons_succ]))
                  (repeat (refine GK.grow_quiet wc (by rfl) (by rfl) ?_; intro K hK; go_big_quiet_op; go_big_quiet_on))
                  refine GK.grow_nil ?_
                  intro w4 hw4 _
                  replace hw4 : Below wc.heap.size wc w4 := hw4
                  simp only [List.filterMap_cons, List.filterMap_nil, List.getElem?_cons_zero, List.getElem?_cons_succ]
                  have hS4 := hid (hs.out.later hw4 hR0)
                  go_wp2_with fail
                  go_meet
                  exact ⟨_, rfl, hS4.out⟩
                · have hzw := hzc wc hs.out.out.keep
                  have hpw := hpk wc hs.out.out.keep
                  have q0 := GK.BI.cell hzw.out.1
                  have q1 := GK.BI.cell hzw.out.2.1
                  have q2 := GK.BI.cell hzw.out.2.2
                  have q3 := GK.BI.cell hpw.out.2.2
                  have y0 := hs.out.ed.cell 0
                  have y1 := hs.out.ed.cell 1
                  have y2 := hs.out.ed.cell 2
                  simp only [List.getElem?_toArray, List.getElem?_cons_zero, List.getElem?_cons_succ] at y0 y1 y2
                  replace y0 := GK.BI.cell y0
                  replace y1 := GK.BI.cell y1
                  replace y2 := GK.BI.cell y2
                  refine GK.wp_region 10 [] 200 (KeepB fun _ => False) (GK.BI wc) (fun _ _ _ => True) (by kernel_rfl) (by kernel_rfl) (GK.BI.way wc) (by decide) (Below.refl _ _).drew ?_
                  simp only [List.take_succ_cons, List.take_zero]
                  (repeat (refine GK.grow_quiet wc (by rfl) (by rfl) ?_; intro K hK; go_big_quiet_op; go_big_quiet_on))
                  by_cases a1 : y.f = z.f <;> by_cases a2 : y.l = z.l <;> by_cases a3 : y.t = z.t
                  all_goals
                    (repeat (refine GK.grow_quiet wc (by rfl) (by rfl) ?_; intro K hK; go_big_quiet_op; go_big_quiet_on))
                    refine GK.grow_nil ?_
                    intro w4 hw4 _
                    replace hw4 : Below wc.heap.size wc w4 := hw4
                    simp only [List.filterMap_cons, List.filterMap_nil, List.getElem?_cons_zero, List.getElem?_cons_succ]
                    have hS4 := hid (hs.out.later hw4 hR0)
                    clear q0 q1 q2 q3 y0 y1 y2
                    go_wp2_with fail
                    go_meet
                    exact ⟨_, rfl, hS4.out⟩
              case rest =>
                clear hs
                obtain ⟨tb, rfl, hs⟩ := hcut
                replace hs := hid hs
                go_upto_if 83 with fail
                go_cut [9] (fun mv wx => ∃ (m : Bool), mv = .bool m ∧ ChSq w0 wx R (P + 200002) w0.heap.size ge s.al s.st v es (2 * k + 1) y)
                case first =>
                  cases tb
                  · go_wp2_with fail
                    go_meet
                    exact ⟨_, rfl, hs.out⟩
                  · go_wp2_with fail
                    go_meet
                    exact ⟨_, rfl, hs.out⟩
                case rest =>
                  clear hs
                  obtain ⟨m, rfl, hs⟩ := hcut
                  replace hs := hid hs
                  by_cases hg : (k : Int) = q
                  · have hgb : ((k : Int) != q) = false := by simp [hg]
                    replace hg := hid hg
                    go_wp2_with fail
                    go_roundw
                    case rel => exact ⟨m, k + 1, _, _, rfl, by go_num, by omega, hs.out.more (Nat.le_refl _) (by omega)⟩
                    case measure => simp [intOf]; omega
                  · have hgb : ((k : Int) != q) = true := by simp [hg]
                    replace hg := hid hg
                    obtain ⟨Av, cv, hve, hcv, hcv'⟩ := own_slice hs.out.out.own
                    subst hve
                    have hzw := hzc wc hs.out.out.keep
                    have hpw := hpk wc hs.out.out.keep
                    have q0 := GK.BI.cell hzw.out.1
                    have q1 := GK.BI.cell hzw.out.2.1
                    have q2 := GK.BI.cell hzw.out.2.2
                    have q3 := GK.BI.cell hpw.out.2.2
                    have g2 := hs.out.out.blk.cell 2
                    simp only [List.getElem?_toArray, List.getElem?_cons_zero, List.getElem?_cons_succ] at g2
                    replace g2 := GK.BI.cell g2
                    have ag := hid hs.out.out.ne
                    have hlen := hs.out.out.len
                    go_wp2_with fail
                    refine GK.wp_region 8 [8, 9, 10] 200 (KeepB fun _ => False) (GK.BI wc) (fun _ _ _ => True) (by kernel_rfl) (by kernel_rfl) (GK.BI.way wc) (by decide) (Below.refl _ _).drew ?_
                    simp only [List.take_succ_cons, List.take_zero]
                    (repeat (refine GK.grow_quiet wc (by rfl) (by rfl) ?_; intro K hK; go_big_quiet_op; go_big_quiet_on))
                    refine GK.grow_new (K := fun _ => False) (by rfl) _ (fun b => .slice (some ⟨b, 0, none⟩) 1 1) 59 #[.int .i64 z.f, .int .i64 z.l, .int .i64 z.t] (fun _ => by go_simp) rfl (fun _ _ o h => GK.BI.alloc o h) (fun _ _ h => GK.BI.size h) (fun _ h => h.elim) (fun nb hnb => ?_)
                    simp only [Act.put, List.setIfInBounds_toArray, List.set_cons_zero, List.set_cons_succ]
                    refine GK.grow_nil ?_
                    intro w4 hw4 hfx
                    obtain ⟨g', hge', hge2', hblk⟩ := hfx _ List.mem_cons_self
                    cases hge'
                    clear hfx q0 q1 q2 q3 g2
                    replace hw4 : Below wc.heap.size wc w4 := hw4
                    simp only [List.filterMap_cons, List.filterMap_nil, List.getElem?_cons_zero, List.getElem?_cons_succ]
                    have hS4 := hid (hs.out.later hw4 hR0)
                    have hb0s := hS4.out.out.keep.size
                    refine wpList_append_own_at _ (by rfl) _ _ 26 (by rfl) w0.heap.size 59 i0 (.agg #[.int .i64 0, .int .i64 0, .int .i64 0]) 3 24 Tryd.underlying26 hi hz0 hz1 hz2 rfl (by decide) _ es.length (edCells es) (by rfl) hS4.out.out.own ⟨nb, 0, none⟩ 1 1 [.int .i64 z.f, .int .i64 z.l, .int .i64 z.t] (by rfl) (by rfl) (World.news_of_block hblk) ?c1 ?c3 ?c4 ?c5 ?_
                    case c1 => simp [Value.oneCell']
                    case c3 => unfold maxLen; omega
                    case c4 => omega
                    case c5 => omega
                    intro v9 w9 hown9 hgrow9 hnil9 hat9
                    obtain ⟨A9, c9, hv9, -, -⟩ := own_slice hown9
                    subst hv9
                    have gll := hS4.out.out.blk.lt
                    have g2' : w9.cell? ⟨w0.heap.size, 2, none⟩ = some (.slice Av es.length cv) := by rw [hgrow9.cell_far _ gll (Ne.symm ag.out)]; exact hS4.out.out.blk.cell 2
                    have f2' : w9.frozen? ⟨w0.heap.size, 2, none⟩ = false := by rw [hgrow9.frozen_far _ gll (Ne.symm ag.out)]; exact hS4.out.out.blk.frozen 2
                    have h9 := hid ((hS4.out.add (y := z) (by rw [hz.out]; exact hqs.out.2 _ (List.getElem_mem hlt)) hR0 hown9 hgrow9 hat9).more (P' := P + 200002) (L' := 2 * (k + 1)) (Nat.le_refl _) (by omega))
                    clear hown9 hgrow9 hnil9 hat9
                    go_wp2_with fail
                    go_roundw
                    case rel => exact ⟨m, k + 1, _, _, rfl, by go_num, by omega, h9.out⟩
                    case measure => simp [intOf]; omega
        · have hlt' : ¬ (k : Int) < (s.es.length : Int) := by omega
          cases m
          · obtain ⟨Av, cv, hve, hcv, hcv'⟩ := own_slice hs.out.out.own
            subst hve
            have hbl := hres.out.keep hs.out.out.keep (by omega)
            have d0 := hbl.cell 0
            have d1 := hbl.cell 1
            have d2 := hbl.cell 2
            have f0 := hbl.frozen 0
            have f1 := hbl.frozen 1
            have f2 := hbl.frozen 2
            have r0 := hs.out.out.blk.cell 0
            have r1 := hs.out.out.blk.cell 1
            have r2 := hs.out.out.blk.cell 2
            simp only [List.getElem?_toArray, List.getElem?_cons_zero, List.getElem?_cons_succ] at d0 d1 d2 r0 r1 r2
            have hlt9 := hbl.lt
            have hlt8 := hs.out.out.blk.lt
            have hfin := hid ((hs.out.out.up hb0 (P' := P + 4000000) (L' := 2 * L + 1) (by omega) (by omega)).finQ (Q := QT) (ρ := w.heap.size + 1) ⟨hqs.out.1, hs.out.few.1⟩ hR (by omega) (by have := hsz0.out; omega) (.int .i64 s.al) (.int .i64 s.st) (.slice Av es.length cv))
            clear hbl
            go_wp2
            refine bodyPost_ret (v := .agg #[.int .i64 s.al, .int .i64 s.st, .slice Av es.length cv]) (by simp [results, Tryd.results49, go_sem, d0, d1, d2]) rfl ?_
            exact hfin.out
          · obtain ⟨Av, cv, hve, hcv, hcv'⟩ := own_slice hs.out.out.own
            subst hve
            have g2 := hs.out.out.blk.cell 2
            have y0 := hs.out.ed.cell 0
            have y1 := hs.out.ed.cell 1
            have y2 := hs.out.ed.cell 2
            simp only [List.getElem?_toArray, List.getElem?_cons_zero, List.getElem?_cons_succ] at g2 y0 y1 y2
            have gl := hs.out.out.blk.lt
            have el := hs.out.ed.lt
            have hown := hid hs.out.out.own
            have hlen := hs.out.out.len
            go_wp2_with (at_builtin; refine wpList_append_own_at _ (by rfl) _ _ 26 (by rfl) w0.heap.size 59 i0 (.agg #[.int .i64 0, .int .i64 0, .int .i64 0]) 3 24 Tryd.underlying26 hi hz0 hz1 hz2 rfl (by decide) _ es.length (edCells es) (by rfl) (hown.out.alloc _) ⟨wr.heap.size, 0, none⟩ 1 1 [.int .i64 y.f, .int .i64 y.l, .int .i64 y.t] (by rfl) (by rfl) (World.news_of_block (heap_alloc_new wr _)) ?c1 ?c3 ?c4 ?c5 ?_)
            case c1 => simp [Value.oneCell']
            case c3 => unfold maxLen; omega
            case c4 => omega
            case c5 => have := hs.out.out.keep.size; simp; omega
            intro v9 w9 hown9 hgrow9 hnil9 hat9
            obtain ⟨A9, c9, hv9, -, -⟩ := own_slice hown9
            subst hv9
            have hL := hs.out.later ((Below.refl _ wr).alloc (Nat.le_refl _) (.cells #[.int .i64 y.f, .int .i64 y.l, .int .i64 y.t] 59)) hR0
            have ag := hL.out.ne
            have gll := hL.out.blk.lt
            have g2' : w9.cell? ⟨w0.heap.size, 2, none⟩ = some (.slice Av es.length cv) := by rw [hgrow9.cell_far _ gll (Ne.symm ag)]; exact hL.out.blk.cell 2
            have f2' : w9.frozen? ⟨w0.heap.size, 2, none⟩ = false := by rw [hgrow9.frozen_far _ gll (Ne.symm ag)]; exact hL.out.blk.frozen 2
            have h9 := hid (hL.add hL.few.2 hR0 hown9 hgrow9 (by rw [World.size_alloc]; exact hat9))
            clear hown9 hgrow9 hnil9 hat9 hL g2 y0 y1 y2 ag
            have hbl := hres.out.keep h9.out.out.keep (by omega)
            have d0 := hbl.cell 0
            have d1 := hbl.cell 1
            have d2 := hbl.cell 2
            have f0 := hbl.frozen 0
            have f1 := hbl.frozen 1
            have f2 := hbl.frozen 2
            have r0 := h9.out.out.blk.cell 0
            have r1 := h9.out.out.blk.cell 1
            have r2 := h9.out.out.blk.cell 2
            simp only [List.getElem?_toArray, List.getElem?_cons_zero, List.getElem?_cons_succ] at d0 d1 d2 r0 r1 r2
            have hlt9 := hbl.lt
            have hlt8 := h9.out.out.blk.lt
            have hfin := hid ((h9.out.out.up hb0 (P' := P + 4000000) (L' := 2 * L + 1) (by omega) (by omega)).finQ' (Q := QT) (ρ := w.heap.size + 1) (n := es.length + 1) (by simp) ⟨hqs.out.1, h9.out.few.1⟩ hR (by omega) (by have := hsz0.out; omega) (.int .i64 s.al) (.int .i64 s.st) (.slice A9 (es.length + 1) c9))
            obtain ⟨w10, hw10⟩ : ∃ w10, w9.setCell ⟨w0.heap.size, 2, none⟩ (.slice A9 (es.length + 1) c9) = w10 := ⟨_, rfl⟩
            rw [hw10] at hfin d0 d1 d2 f0 f1 f2 r0 r1 r2 hlt9 hlt8
            clear hbl
            go_wp2
            refine bodyPost_ret (v := .agg #[.int .i64 s.al, .int .i64 s.st, .slice A9 (es.length + 1) c9]) (by simp [results, Tryd.results49, go_sem, d0, d1, d2]) rfl ?_
            exact hfin.out

end Go.Proofs.YtdkjnemakkppfaaDoor
