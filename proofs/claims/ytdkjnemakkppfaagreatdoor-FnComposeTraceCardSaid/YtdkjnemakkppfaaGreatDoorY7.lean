/- Lemmas, part 7: several texts in one. -/
import Derived.Test.YtdkjnemakkppfaaGreatDoorY6
import Derived.Test.YtdkjnemakkppfaaGreatDoorY4
import Derived.Test.YtdkjnemakkppfaaGreatDoorY5
import Derived.Test.YtdkjnemakkppfaaGreatDoorY3
import Derived.Test.YtdkjnemakkppfaaGreatDoorY2
import Derived.Deep.Upon
import Derived.Deep.AppendSrc
set_option linter.unusedSimpArgs false
set_option linter.unusedVariables false

/- Plain: the system of two systems that run together. -/
namespace Go.Proofs.YtdkjnemakkppfaaGreatDoor
open AG

/-- A node that a word reaches. -/
def Rn (ss : List Sy) (n : Nat) : Prop := ∃ r, RW (fun m => m ∈ [0]) (letters (allAl ss)) (nxParts ss) r n
theorem Rn.zero (ss : List Sy) : Rn ss 0 := ⟨[], List.mem_singleton.2 rfl⟩
theorem Rn.step {ss : List Sy} {n l m : Nat} (h : Rn ss n) (hl : l ∈ letters (allAl ss)) (hm : m ∈ nxParts ss n l) : Rn ss m := by
  obtain ⟨r, hr⟩ := h
  exact ⟨l :: r, hl, n, hr, hm⟩
theorem Rn.lt {ss : List Sy} (hall : ss.all sysOk = true) {n : Nat} (h : Rn ss n) : n < prodL (szP ss) := by
  obtain ⟨r, hr⟩ := h
  exact PR_lt hall ((RW_PR hall r n).1 hr).2
open Classical in
/-- The reached nodes in their order. -/
noncomputable def rnL (ss : List Sy) : List Nat := (List.range (prodL (szP ss))).filter fun n => decide (Rn ss n)
open Classical in
/-- How many of the first n nodes are reached. -/
noncomputable def rkN (ss : List Sy) (n : Nat) : Nat := ((List.range n).filter fun m => decide (Rn ss m)).length
open Classical in
theorem rnL_mem {ss : List Sy} (hall : ss.all sysOk = true) {n : Nat} : n ∈ rnL ss ↔ Rn ss n := by
  unfold rnL
  rw [List.mem_filter, List.mem_range, decide_eq_true_iff]
  exact ⟨fun h => h.2, fun h => ⟨h.lt hall, h⟩⟩
theorem rnL_sorted (ss : List Sy) : (rnL ss).Pairwise (· < ·) := List.Pairwise.filter _ List.pairwise_lt_range
open Classical in
theorem rkN_succ (ss : List Sy) (n : Nat) : (Rn ss n → rkN ss (n + 1) = rkN ss n + 1) ∧ (¬ Rn ss n → rkN ss (n + 1) = rkN ss n) := by
  unfold rkN
  rw [List.range_succ, List.filter_append, List.length_append]
  constructor
  · intro h
    simp [h]
  · intro h
    simp [h]
theorem rkN_all (ss : List Sy) : rkN ss (prodL (szP ss)) = (rnL ss).length := rfl
theorem rkN_mono (ss : List Sy) : ∀ {a b : Nat}, a ≤ b → rkN ss a ≤ rkN ss b := by
  intro a b h
  obtain ⟨k, rfl⟩ := Nat.exists_eq_add_of_le h
  clear h
  induction k with
  | zero => exact Nat.le_refl _
  | succ k ih =>
    by_cases hr : Rn ss (a + k)
    · have := (rkN_succ ss (a + k)).1 hr
      rw [← Nat.add_assoc]; omega
    · have := (rkN_succ ss (a + k)).2 hr
      rw [← Nat.add_assoc]; omega
theorem rkN_lt {ss : List Sy} {a b : Nat} (ha : Rn ss a) (h : a < b) : rkN ss a < rkN ss b := by
  have h1 := (rkN_succ ss a).1 ha
  have h2 := rkN_mono ss (show a + 1 ≤ b from h)
  omega
theorem rkN_inj {ss : List Sy} {a b : Nat} (ha : Rn ss a) (hb : Rn ss b) (h : rkN ss a = rkN ss b) : a = b := by
  rcases Nat.lt_trichotomy a b with k | k | k
  · have := rkN_lt ha k; omega
  · exact k
  · have := rkN_lt hb k; omega
theorem rkN_below {ss : List Sy} (hall : ss.all sysOk = true) {n : Nat} (h : Rn ss n) : rkN ss n < (rnL ss).length := by
  rw [← rkN_all]
  exact rkN_lt h (h.lt hall)
open Classical in
theorem filter_below : ∀ (N k : Nat) (p : Nat → Bool), k ≤ N → ((List.range N).filter p).filter (fun m => decide (m < k)) = (List.range k).filter p := by
  intro N k p hk
  rw [List.filter_filter]
  obtain ⟨d, rfl⟩ := Nat.exists_eq_add_of_le hk
  clear hk
  induction d with
  | zero =>
    refine List.filter_congr fun x hx => ?_
    rw [Nat.add_zero, List.mem_range] at hx
    simp [hx]
  | succ d ih =>
    rw [← Nat.add_assoc, List.range_succ, List.filter_append, ih]
    have : ¬ (k + d < k) := by omega
    simp [this]
/-- The node of a number. -/
theorem rnL_get {ss : List Sy} (hall : ss.all sysOk = true) {i : Nat} (hi : i < (rnL ss).length) : rkN ss (rnL ss)[i] = i := by
  have hs := rnL_sorted ss
  have hm : (rnL ss)[i] ∈ rnL ss := List.getElem_mem hi
  have hlt := ((rnL_mem hall).1 hm).lt hall
  unfold rkN
  rw [← filter_below (prodL (szP ss)) _ _ (Nat.le_of_lt hlt)]
  show ((rnL ss).filter fun m => decide (m < (rnL ss)[i])).length = i
  have : ((rnL ss).filter fun m => decide (m < (rnL ss)[i])) = (rnL ss).take i := by
    generalize rnL ss = l at *
    generalize hx : l[i] = x at *
    have e : l = l.take i ++ l.drop i := (List.take_append_drop i l).symm
    have h1 : (l.take i).filter (fun m => decide (m < x)) = l.take i := by
      rw [List.filter_eq_self]
      intro a ha
      obtain ⟨j, hj, rfl⟩ := List.getElem_of_mem ha
      rw [List.length_take] at hj
      rw [List.getElem_take, ← hx]
      exact decide_eq_true (List.pairwise_iff_getElem.1 hs j i (by omega) hi (by omega))
    have h2 : (l.drop i).filter (fun m => decide (m < x)) = [] := by
      rw [List.filter_eq_nil_iff]
      intro a ha
      obtain ⟨j, hj, rfl⟩ := List.getElem_of_mem ha
      rw [List.length_drop] at hj
      rw [List.getElem_drop]
      rw [← hx]
      simp only [decide_eq_true_eq]
      by_cases h0 : j = 0
      · subst h0; simp
      · have := List.pairwise_iff_getElem.1 hs i (i + j) hi (by omega) (by omega)
        omega
    conv => lhs; rw [e]
    rw [List.filter_append, h1, h2, List.append_nil]
  rw [this, List.length_take]
  omega

/-- The nodes next to a node lie in order. -/
theorem stepQ_sorted (s : Sy) (q l : Nat) : (stepQ s q l).Pairwise (· < ·) := by
  unfold stepQ
  split
  · exact memL_sorted _
  · simp
theorem nxParts_cons_eq (s : Sy) (ss : List Sy) (l node : Nat) : nxParts (s :: ss) node l = (stepQ s (node / prodL (szP ss)) l).flatMap fun q => (nxParts ss node l).map fun r => q * prodL (szP ss) + r := by
  unfold nxParts
  show (pst (s :: ss) l node (ss.length + 1)).re = _
  rw [pst_cons_last]
  obtain ⟨h1, h2⟩ := pst_parts ss l node
  unfold pstep joinN
  simp only
  rw [h1, h2]
theorem flat_sorted {P : Nat} {re : List Nat} (hre : re.Pairwise (· < ·)) (hlt : ∀ r ∈ re, r < P) : ∀ {qs : List Nat}, qs.Pairwise (· < ·) → (qs.flatMap fun q => re.map fun r => q * P + r).Pairwise (· < ·)
  | [], _ => List.Pairwise.nil
  | q :: qs, h => by
    rw [List.flatMap_cons, List.pairwise_append]
    rw [List.pairwise_cons] at h
    refine ⟨?_, flat_sorted hre hlt h.2, ?_⟩
    · rw [List.pairwise_map]
      exact hre.imp fun h => by omega
    · intro a ha b hb
      obtain ⟨r, hr, rfl⟩ := List.mem_map.1 ha
      obtain ⟨q', hq', hb⟩ := List.mem_flatMap.1 hb
      obtain ⟨r', hr', rfl⟩ := List.mem_map.1 hb
      have h1 := h.1 q' hq'
      have h2 := hlt r hr
      have h3 : (q + 1) * P ≤ q' * P := Nat.mul_le_mul_right _ h1
      rw [Nat.add_mul] at h3
      omega
theorem nxParts_sorted : ∀ {ss : List Sy}, ss.all sysOk = true → ∀ n l, (nxParts ss n l).Pairwise (· < ·)
  | [], _, n, l => by show [0].Pairwise (· < ·); simp
  | s :: ss, hall, n, l => by
    rw [List.all_cons, Bool.and_eq_true] at hall
    rw [nxParts_cons_eq]
    exact flat_sorted (nxParts_sorted hall.2 n l) (nxParts_lt hall.2 n l) (stepQ_sorted _ _ _)
theorem sorted_ext : ∀ {a b : List Nat}, a.Pairwise (· < ·) → b.Pairwise (· < ·) → (∀ x, x ∈ a ↔ x ∈ b) → a = b
  | [], [], _, _, _ => rfl
  | [], y :: b, _, _, h => absurd ((h y).2 List.mem_cons_self) (by simp)
  | x :: a, [], _, _, h => absurd ((h x).1 List.mem_cons_self) (by simp)
  | x :: a, y :: b, ha, hb, h => by
    rw [List.pairwise_cons] at ha hb
    have e : x = y := by
      have h1 := (h x).1 List.mem_cons_self
      have h2 := (h y).2 List.mem_cons_self
      rcases List.mem_cons.1 h1 with h1 | h1
      · exact h1
      · rcases List.mem_cons.1 h2 with h2 | h2
        · exact h2.symm
        · have := ha.1 y h2
          have := hb.1 x h1
          omega
    subst e
    rw [sorted_ext ha.2 hb.2 fun z => ?_]
    constructor
    · intro hz
      rcases List.mem_cons.1 ((h z).1 (List.mem_cons_of_mem _ hz)) with rfl | hz'
      · exact absurd (ha.1 _ hz) (Nat.lt_irrefl _)
      · exact hz'
    · intro hz
      rcases List.mem_cons.1 ((h z).2 (List.mem_cons_of_mem _ hz)) with rfl | hz'
      · exact absurd (hb.1 _ hz) (Nat.lt_irrefl _)
      · exact hz'
theorem chP1_sorted {s : Sy} (hs : sysOk s = true) (q l : Nat) : (chP1 s q l).Pairwise (· < ·) := by
  unfold chP1
  split
  · have hp := (edges_pairwise hs).filter fun e => e.f.toNat == q && e.l.toNat == l
    rw [List.pairwise_map]
    refine hp.imp_of_mem ?_
    intro a b ha hb hlt
    rw [List.mem_filter] at ha hb
    simp only [Bool.and_eq_true, beq_iff_eq] at ha hb
    have h1 := sysOk_in hs a ha.1
    have h2 := sysOk_in hs b hb.1
    have e1 : a.f = b.f := by omega
    have e2 : a.l = b.l := by omega
    unfold edgeLt at hlt
    rw [if_neg (by simpa using e1), if_neg (by simpa using e2)] at hlt
    have h3 := of_decide_eq_true hlt
    omega
  · simp
theorem stepN_sorted {a : Nat} {c out : List Nat} (hc : c.Pairwise (· < ·)) (hlt : ∀ x ∈ c, x < a) (ho : out.Pairwise (· < ·)) : (stepN a c out).Pairwise (· < ·) := flat_sorted hc hlt ho
theorem nxK_sorted {ss : List Nat} {C : Nat → List Nat} (hC : ∀ i, i < ss.length → (C i).Pairwise (· < ·) ∧ ∀ x ∈ C i, x < ss.getD i 1) : ∀ k, k ≤ ss.length → (nxK ss C k).Pairwise (· < ·)
  | 0, _ => by show [0].Pairwise (· < ·); simp
  | k + 1, hk => stepN_sorted (hC k (by omega)).1 (hC k (by omega)).2 (nxK_sorted hC k (by omega))
/-- Both lay the nodes next to a node in one order. -/
theorem nx_eq {xs : List Sy} (hall : xs.all sysOk = true) (n l : Nat) : nxN (szP xs) (chP xs) n l = nxParts xs n l := by
  refine sorted_ext ?_ (nxParts_sorted hall n l) fun m => nx_same xs hall n l m
  unfold nxN
  refine nxK_sorted (fun i hi => ?_) _ (Nat.le_refl _)
  have hi' : i < xs.length := by unfold szP at hi; rwa [List.length_map] at hi
  have hs := List.all_eq_true.1 hall _ (List.getElem_mem hi')
  rw [chP_at hi']
  refine ⟨chP1_sorted hs _ _, fun x hx => ?_⟩
  have hd := decS_lt (ss := szP xs) (fun a ha => (szP_ok hall a ha).1) n i hi
  have e : (szP xs)[i] = xs[i].st.toNat := by simp [szP]
  rw [e] at hd
  have := chP1_lt hs hd x hx
  rw [List.getD_eq_getElem?_getD, List.getElem?_eq_getElem hi, Option.getD_some, e]
  exact this

/-- The edges of the composition that leave a node. -/
noncomputable def cmRow (ss : List Sy) (n : Nat) : List Ed := (letters (allAl ss)).flatMap fun l => (nxParts ss n l).map fun m => ⟨(rkN ss n : Int), (l : Int), (rkN ss m : Int)⟩
noncomputable def cmEs (ss : List Sy) : List Ed := (rnL ss).flatMap fun n => cmRow ss n
noncomputable def cmSy (ss : List Sy) : Sy := ⟨allAl ss, ((rnL ss).length : Nat), cmEs ss⟩
/-- Two systems can be composed. -/
noncomputable def cmOk (s t : Sy) : Bool := sysOk s && (sysOk t && decide ((rnL [s, t]).length ≤ 16))
noncomputable def cmX (s t : Sy) : Sy := if cmOk s t = true then cmSy [s, t] else ⟨0, 0, []⟩

/-- A search for the reached nodes under way: all up to the i-th are gone through. -/
structure RnB (ss : List Sy) (ps : List Nat) (i : Nat) : Prop where
  nodup : ps.Nodup
  zero : 0 ∈ ps
  sound : ∀ p ∈ ps, Rn ss p
  done : ∀ j (h : j < ps.length), j < i → ∀ l ∈ letters (allAl ss), ∀ m ∈ nxParts ss ps[j] l, m ∈ ps
theorem RnB.all {ss : List Sy} {ps : List Nat} (h : RnB ss ps ps.length) (n : Nat) : n ∈ ps ↔ Rn ss n := by
  constructor
  · exact h.sound n
  · rintro ⟨r, hr⟩
    induction r generalizing n with
    | nil => rw [List.mem_singleton.1 hr]; exact h.zero
    | cons l r ih =>
      obtain ⟨hl, m, hm, hn⟩ := hr
      obtain ⟨j, hj, rfl⟩ := List.getElem_of_mem (ih m hm)
      exact h.done j hj hj l hl n hn
theorem RnB.perm {ss : List Sy} (hall : ss.all sysOk = true) {ps : List Nat} (h : RnB ss ps ps.length) : ps.Perm (rnL ss) := by
  refine (List.perm_ext_iff_of_nodup h.nodup ?_).2 fun n => ?_
  · exact (rnL_sorted ss).imp fun h => Nat.ne_of_lt h
  · rw [h.all, rnL_mem hall]
theorem RnB.many {ss : List Sy} (hall : ss.all sysOk = true) {ps : List Nat} {i : Nat} (h : RnB ss ps i) : ps.length ≤ (rnL ss).length := by
  have : ∀ (l m : List Nat), l.Nodup → (∀ x ∈ l, x ∈ m) → l.length ≤ m.length := by
    intro l
    induction l with
    | nil => intro m _ _; exact Nat.zero_le _
    | cons a l ih =>
      intro m hd hs
      rw [List.nodup_cons] at hd
      have ha := hs a List.mem_cons_self
      have h1 := ih (m.erase a) hd.2 fun x hx => by
        refine (List.mem_erase_of_ne ?_).2 (hs x (List.mem_cons_of_mem _ hx))
        rintro rfl
        exact hd.1 hx
      rw [List.length_erase_of_mem ha] at h1
      have := List.length_pos_of_mem ha
      rw [List.length_cons]
      omega
  exact this ps _ h.nodup fun x hx => (rnL_mem hall).2 (h.sound x hx)

end Go.Proofs.YtdkjnemakkppfaaGreatDoor

/- Plain: what systems composed do. -/
namespace Go.Proofs.YtdkjnemakkppfaaGreatDoor
open AG

theorem edgeLt_f {a b : Ed} (h : a.f < b.f) : edgeLt a b = true := by unfold edgeLt; rw [if_pos (by omega)]; exact decide_eq_true h
theorem edgeLt_l {a b : Ed} (h0 : a.f = b.f) (h : a.l < b.l) : edgeLt a b = true := by unfold edgeLt; rw [if_neg (by simpa using h0), if_pos (by omega)]; exact decide_eq_true h
theorem edgeLt_t {a b : Ed} (h0 : a.f = b.f) (h1 : a.l = b.l) (h : a.t < b.t) : edgeLt a b = true := by unfold edgeLt; rw [if_neg (by simpa using h0), if_neg (by simpa using h1)]; exact decide_eq_true h
theorem edgeLt_irrefl (a : Ed) : edgeLt a a = false := by unfold edgeLt; simp
theorem edgeLt_asymm {a b : Ed} (h : edgeLt a b = true) (h' : edgeLt b a = true) : False := by
  unfold edgeLt at h h'
  by_cases e1 : a.f = b.f
  · rw [if_neg (by simpa using e1)] at h
    rw [if_neg (by simpa using e1.symm)] at h'
    by_cases e2 : a.l = b.l
    · rw [if_neg (by simpa using e2)] at h
      rw [if_neg (by simpa using e2.symm)] at h'
      have := of_decide_eq_true h
      have := of_decide_eq_true h'
      omega
    · rw [if_pos e2] at h
      rw [if_pos (fun h => e2 h.symm)] at h'
      have := of_decide_eq_true h
      have := of_decide_eq_true h'
      omega
  · rw [if_pos e1] at h
    rw [if_pos (fun h => e1 h.symm)] at h'
    have := of_decide_eq_true h
    have := of_decide_eq_true h'
    omega
theorem flatMap_cong {α β : Type} {l : List α} {f g : α → List β} (h : ∀ a ∈ l, f a = g a) : l.flatMap f = l.flatMap g := by
  rw [List.flatMap_def, List.flatMap_def, List.map_congr_left h]
/-- Edges in order are known by their members. -/
theorem edges_ext : ∀ {a b : List Ed}, (a.Pairwise fun x y => edgeLt x y = true) → (b.Pairwise fun x y => edgeLt x y = true) → (∀ x, x ∈ a ↔ x ∈ b) → a = b
  | [], [], _, _, _ => rfl
  | [], y :: b, _, _, h => absurd ((h y).2 List.mem_cons_self) (by simp)
  | x :: a, [], _, _, h => absurd ((h x).1 List.mem_cons_self) (by simp)
  | x :: a, y :: b, ha, hb, h => by
    rw [List.pairwise_cons] at ha hb
    have e : x = y := by
      have h1 := (h x).1 List.mem_cons_self
      have h2 := (h y).2 List.mem_cons_self
      rcases List.mem_cons.1 h1 with h1 | h1
      · exact h1
      · rcases List.mem_cons.1 h2 with h2 | h2
        · exact h2.symm
        · exact (edgeLt_asymm (ha.1 y h2) (hb.1 x h1)).elim
    subst e
    rw [edges_ext ha.2 hb.2 fun z => ?_]
    have hn : ∀ {c : List Ed}, (∀ y ∈ c, edgeLt x y = true) → x ∉ c := fun {c} hc hx => by
      have := hc x hx
      rw [edgeLt_irrefl] at this
      cases this
    constructor
    · intro hz
      rcases List.mem_cons.1 ((h z).1 (List.mem_cons_of_mem _ hz)) with rfl | hz'
      · exact absurd hz (hn ha.1)
      · exact hz'
    · intro hz
      rcases List.mem_cons.1 ((h z).2 (List.mem_cons_of_mem _ hz)) with rfl | hz'
      · exact absurd hz (hn hb.1)
      · exact hz'

section
variable {ss : List Sy}
theorem cmEs_mem (hall : ss.all sysOk = true) {e : Ed} : e ∈ cmEs ss ↔ ∃ n l m, Rn ss n ∧ l ∈ letters (allAl ss) ∧ m ∈ nxParts ss n l ∧ e = ⟨(rkN ss n : Int), (l : Int), (rkN ss m : Int)⟩ := by
  unfold cmEs cmRow
  rw [List.mem_flatMap]
  constructor
  · rintro ⟨n, hn, h⟩
    obtain ⟨l, hl, h⟩ := List.mem_flatMap.1 h
    obtain ⟨m, hm, rfl⟩ := List.mem_map.1 h
    exact ⟨n, l, m, (rnL_mem hall).1 hn, hl, hm, rfl⟩
  · rintro ⟨n, l, m, hn, hl, hm, rfl⟩
    exact ⟨n, (rnL_mem hall).2 hn, List.mem_flatMap.2 ⟨l, hl, List.mem_map.2 ⟨m, hm, rfl⟩⟩⟩
theorem cmEs_sorted (hall : ss.all sysOk = true) : (cmEs ss).Pairwise fun a b => edgeLt a b = true := by
  unfold cmEs
  rw [List.pairwise_flatMap]
  refine ⟨fun n hn => ?_, (rnL_sorted ss).imp_of_mem fun {a b} ha hb hab x hx y hy => ?_⟩
  · have hn := (rnL_mem hall).1 hn
    unfold cmRow
    rw [List.pairwise_flatMap]
    refine ⟨fun l hl => ?_, (letters_sorted _).imp fun {a b} hab x hx y hy => ?_⟩
    · rw [List.pairwise_map]
      refine (nxParts_sorted hall n l).imp_of_mem fun {a b} ha hb hab => edgeLt_t rfl rfl ?_
      exact Int.ofNat_lt.2 (rkN_lt (hn.step hl ha) hab)
    · obtain ⟨p, -, rfl⟩ := List.mem_map.1 hx
      obtain ⟨q, -, rfl⟩ := List.mem_map.1 hy
      exact edgeLt_l rfl (Int.ofNat_lt.2 hab)
  · unfold cmRow at hx hy
    obtain ⟨l, -, hx⟩ := List.mem_flatMap.1 hx
    obtain ⟨p, -, rfl⟩ := List.mem_map.1 hx
    obtain ⟨l', -, hy⟩ := List.mem_flatMap.1 hy
    obtain ⟨q, -, rfl⟩ := List.mem_map.1 hy
    exact edgeLt_f (Int.ofNat_lt.2 (rkN_lt ((rnL_mem hall).1 ha) hab))
theorem rnL_pos (hall : ss.all sysOk = true) : 1 ≤ (rnL ss).length := List.length_pos_of_mem ((rnL_mem hall).2 (Rn.zero ss))
theorem cmSy_ok (hall : ss.all sysOk = true) (h16 : (rnL ss).length ≤ 16) : sysOk (cmSy ss) = true := by
  have h1 := rnL_pos hall
  refine sysOk_of (allAl_ok hall) ⟨by show (1 : Int) ≤ ((rnL ss).length : Nat); omega, by show (((rnL ss).length : Nat) : Int) ≤ 16; omega⟩ (fun e he => ?_) (cmEs_sorted hall)
  obtain ⟨n, l, m, hn, hl, hm, rfl⟩ := (cmEs_mem hall).1 he
  have k1 := rkN_below hall hn
  have k2 := rkN_below hall (hn.step hl hm)
  obtain ⟨k3, k4⟩ := letters_lt hl
  show (decide _ && Has (allAl ss) ((l : Int).toNat)) = true
  rw [Int.toNat_natCast, (letters_ok.1 hl).2, Bool.and_true, decide_eq_true_iff]
  show (0 : Int) ≤ (rkN ss n : Int) ∧ (rkN ss n : Int) < ((rnL ss).length : Nat) ∧ (0 : Int) ≤ (rkN ss m : Int) ∧ (rkN ss m : Int) < ((rnL ss).length : Nat) ∧ (0 : Int) ≤ (l : Int) ∧ (l : Int) < 6
  omega
theorem stepSet_testBit (s : Sy) (S : Nat) (l : Int) (t : Nat) : (stepSet s S l).testBit t = true ↔ t < 16 ∧ ∃ e ∈ s.es, e.l = l ∧ S.testBit e.f.toNat = true ∧ e.t.toNat = t := by
  unfold stepSet
  exact bitsOf_testBit _ _ _
theorem one_testBit (q : Nat) : (1 : Nat).testBit q = true ↔ q = 0 := by
  have := Nat.testBit_two_pow (n := 0) (m := q)
  rw [show (1 : Nat) = 2 ^ 0 from rfl, this, decide_eq_true_iff]
  omega
/-- The states to which a word leads the composition. -/
theorem setW_cm (hall : ss.all sysOk = true) (h16 : (rnL ss).length ≤ 16) : ∀ (r : List Nat), ∀ i : Nat, (setW (cmSy ss) r).testBit i = true ↔ ∃ n, RW (fun m => m ∈ [0]) (letters (allAl ss)) (nxParts ss) r n ∧ rkN ss n = i
  | [], i => by
    show (1 : Nat).testBit i = true ↔ ∃ n, n ∈ [0] ∧ rkN ss n = i
    rw [one_testBit]
    constructor
    · rintro rfl; exact ⟨0, List.mem_singleton.2 rfl, rfl⟩
    · rintro ⟨n, hn, rfl⟩
      rw [List.mem_singleton.1 hn]
      rfl
  | l :: r, i => by
    show (stepSet (cmSy ss) (setW (cmSy ss) r) (l : Int)).testBit i = true ↔ _
    rw [stepSet_testBit]
    constructor
    · rintro ⟨hi, e, he, h1, h2, h3⟩
      obtain ⟨n, l', m, hn, hl', hm, rfl⟩ := (cmEs_mem hall).1 he
      have e1 : l' = l := Int.ofNat_inj.1 h1
      subst e1
      have h2' : (setW (cmSy ss) r).testBit (rkN ss n) = true := by simpa using h2
      obtain ⟨n', hn', e'⟩ := (setW_cm hall h16 r _).1 h2'
      obtain rfl : n' = n := rkN_inj ⟨r, hn'⟩ hn e'
      exact ⟨m, ⟨hl', n', hn', hm⟩, by simpa using h3⟩
    · rintro ⟨m, ⟨hl, n, hn, hm⟩, rfl⟩
      have hr : Rn ss n := ⟨r, hn⟩
      have := rkN_below hall (hr.step hl hm)
      refine ⟨by omega, _, (cmEs_mem hall).2 ⟨n, l, m, hr, hl, hm, rfl⟩, rfl, ?_, Int.toNat_natCast _⟩
      rw [Int.toNat_natCast]
      exact (setW_cm hall h16 r _).2 ⟨n, hn, rfl⟩
theorem setW_cm_ne (hall : ss.all sysOk = true) (h16 : (rnL ss).length ≤ 16) (r : List Nat) : setW (cmSy ss) r ≠ 0 ↔ ∃ n, RW (fun m => m ∈ [0]) (letters (allAl ss)) (nxParts ss) r n := by
  constructor
  · intro h
    obtain ⟨i, hi⟩ := Nat.exists_testBit_of_ne_zero h
    obtain ⟨n, hn, -⟩ := (setW_cm hall h16 r i).1 hi
    exact ⟨n, hn⟩
  · rintro ⟨n, hn⟩ h
    have := (setW_cm hall h16 r _).2 ⟨n, hn, rfl⟩
    rw [h] at this
    simp at this
/-- The composition has the traces of its parts. -/
theorem setW_cm_parts (hall : ss.all sysOk = true) (h16 : (rnL ss).length ≤ 16) (r : List Nat) : setW (cmSy ss) r ≠ 0 ↔ (∀ l ∈ r, l ∈ letters (allAl ss)) ∧ ∀ s ∈ ss, setW s (flt s r) ≠ 0 := by
  rw [setW_cm_ne hall h16, ← PR_some]
  constructor
  · rintro ⟨n, h⟩; exact ⟨((RW_PR hall r n).1 h).1, n, ((RW_PR hall r n).1 h).2⟩
  · rintro ⟨h, n, hn⟩; exact ⟨n, (RW_PR hall r n).2 ⟨h, hn⟩⟩
theorem hasTr_cm (hp : partsOk ss = true) (h16 : (rnL ss).length ≤ 16) {w : ByteArray} (hw : within w (allAl ss) = true) : hasTr (cmSy ss) w = trParts ss w := by
  obtain ⟨r, rfl, hr, hl⟩ := word_ex hw
  have hall := partsOk_all hp
  rw [hasTr_wordS (cmSy_ok hall h16) hr hl, Bool.eq_iff_iff, decide_eq_true_iff, setW_cm_ne hall h16, tr_node hp hr hl]
end

/-- Nodes that correspond in their order. -/
theorem cm_iso {ss ts : List Sy} (hs : ss.all sysOk = true) (ht : ts.all sysOk = true) (hal : allAl ss = allAl ts) (f : Nat → Nat) (h0 : f 0 = 0) (hm : ∀ a b, Rn ss a → Rn ss b → a < b → f a < f b)
    (hn : ∀ n, Rn ss n → ∀ l ∈ letters (allAl ss), ∀ m, m ∈ nxParts ts (f n) l ↔ ∃ k ∈ nxParts ss n l, m = f k) : cmSy ss = cmSy ts ∧ (rnL ss).length = (rnL ts).length := by
  have h1 : ∀ r n, RW (fun m => m ∈ [0]) (letters (allAl ss)) (nxParts ss) r n → RW (fun m => m ∈ [0]) (letters (allAl ts)) (nxParts ts) r (f n) := by
    intro r
    induction r with
    | nil => intro n h; rw [List.mem_singleton.1 h, h0]; exact List.mem_singleton.2 rfl
    | cons l r ih =>
      rintro n ⟨hl, m, hr, hx⟩
      exact ⟨by rw [← hal]; exact hl, f m, ih m hr, (hn m ⟨r, hr⟩ l hl _).2 ⟨n, hx, rfl⟩⟩
  have h2 : ∀ r m, RW (fun m => m ∈ [0]) (letters (allAl ts)) (nxParts ts) r m → ∃ n, RW (fun m => m ∈ [0]) (letters (allAl ss)) (nxParts ss) r n ∧ m = f n := by
    intro r
    induction r with
    | nil => intro m h; exact ⟨0, List.mem_singleton.2 rfl, by rw [List.mem_singleton.1 h, h0]⟩
    | cons l r ih =>
      rintro m ⟨hl, k, hr, hx⟩
      obtain ⟨n, hn', rfl⟩ := ih k hr
      have hl' : l ∈ letters (allAl ss) := by rw [hal]; exact hl
      obtain ⟨j, hj, rfl⟩ := (hn n ⟨r, hn'⟩ l hl' m).1 hx
      exact ⟨j, ⟨hl', n, hn', hj⟩, rfl⟩
  have hL : rnL ts = (rnL ss).map f := by
    refine sorted_ext (rnL_sorted ts) ?_ fun x => ?_
    · rw [List.pairwise_map]
      exact (rnL_sorted ss).imp_of_mem fun {a b} ha hb hab => hm a b ((rnL_mem hs).1 ha) ((rnL_mem hs).1 hb) hab
    · rw [rnL_mem ht, List.mem_map]
      constructor
      · rintro ⟨r, hr⟩
        obtain ⟨n, hn', rfl⟩ := h2 r x hr
        exact ⟨n, (rnL_mem hs).2 ⟨r, hn'⟩, rfl⟩
      · rintro ⟨n, hn', rfl⟩
        obtain ⟨r, hr⟩ := (rnL_mem hs).1 hn'
        exact ⟨r, h1 r n hr⟩
  have hk : ∀ n, Rn ss n → rkN ts (f n) = rkN ss n := fun n hn' => by
    obtain ⟨i, hi, rfl⟩ := List.getElem_of_mem ((rnL_mem hs).2 hn')
    have hi' : i < (rnL ts).length := by rw [hL, List.length_map]; exact hi
    have e : (rnL ts)[i] = f (rnL ss)[i] := by simp [hL]
    rw [rnL_get hs hi, ← e, rnL_get ht hi']
  have hnx : ∀ n, Rn ss n → ∀ l ∈ letters (allAl ss), nxParts ts (f n) l = (nxParts ss n l).map f := fun n hn' l hl => by
    refine sorted_ext (nxParts_sorted ht _ _) ?_ fun x => ?_
    · rw [List.pairwise_map]
      exact (nxParts_sorted hs n l).imp_of_mem fun {a b} ha hb hab => hm a b (hn'.step hl ha) (hn'.step hl hb) hab
    · rw [hn n hn' l hl x, List.mem_map]
      exact ⟨fun ⟨k, h, e⟩ => ⟨k, h, e.symm⟩, fun ⟨k, h, e⟩ => ⟨k, h, e.symm⟩⟩
  have hlen : (rnL ss).length = (rnL ts).length := by rw [hL, List.length_map]
  have hes : cmEs ss = cmEs ts := by
    unfold cmEs
    rw [hL, List.flatMap_map]
    refine flatMap_cong fun n hn' => ?_
    have hn' := (rnL_mem hs).1 hn'
    unfold cmRow
    rw [← hal]
    refine flatMap_cong fun l hl => ?_
    rw [hnx n hn' l hl, List.map_map]
    refine List.map_congr_left fun m hm' => ?_
    show (⟨_, _, _⟩ : Ed) = ⟨_, _, _⟩
    rw [hk n hn', hk m (hn'.step hl hm')]
  exact ⟨by unfold cmSy; rw [hal, hlen, hes], hlen⟩

end Go.Proofs.YtdkjnemakkppfaaGreatDoor

/- Plain: compositions of three, of trimmed systems, with neutral systems, and where compositions are stuck. -/
namespace Go.Proofs.YtdkjnemakkppfaaGreatDoor
open AG

/-- One system alone: its node is its state. -/
theorem nxParts_one {s : Sy} (n l : Nat) : nxParts [s] n l = stepQ s n l := by
  rw [nxParts_cons_eq]
  show ((stepQ s (n / 1) l).flatMap fun q => ([0] : List Nat).map fun r => q * 1 + r) = _
  rw [Nat.div_one]
  simp
theorem prod_one (s : Sy) : prodL (szP [s]) = s.st.toNat := by show s.st.toNat * 1 = _; rw [Nat.mul_one]
/-- The steps of a composition. -/
theorem stepQ_cm {ss : List Sy} (hall : ss.all sysOk = true) (h16 : (rnL ss).length ≤ 16) {n : Nat} (hn : Rn ss n) {l : Nat} (hl6 : l < 6) (x : Nat) : x ∈ stepQ (cmSy ss) (rkN ss n) l ↔ if l ∈ letters (allAl ss) then ∃ m ∈ nxParts ss n l, x = rkN ss m else x = rkN ss n := by
  have hlt := rkN_below hall hn
  have hz : HasZ (cmSy ss).al (l : Int) = true ↔ l ∈ letters (allAl ss) := by
    rw [letters_ok]
    unfold HasZ
    show (decide ((0 : Int) ≤ (l : Int)) && Has (allAl ss) (l : Int).toNat) = true ↔ _
    simp [hl6]
  have hmod : rkN ss n % (cmSy ss).st.toNat = rkN ss n := by
    show rkN ss n % (((rnL ss).length : Nat) : Int).toNat = _
    rw [Int.toNat_natCast, Nat.mod_eq_of_lt hlt]
  unfold stepQ
  rw [hmod]
  by_cases hl : l ∈ letters (allAl ss)
  · rw [if_pos (hz.2 hl), if_pos hl, memL_mem, mv_testBit]
    constructor
    · rintro ⟨-, -, e, he, h1, h2, h3⟩
      obtain ⟨n', l', m, hn', hl', hm, rfl⟩ := (cmEs_mem hall).1 he
      have e1 : rkN ss n' = rkN ss n := by simpa using h1
      have e2 : l' = l := by simpa using h2
      have e3 : rkN ss m = x := by simpa using h3
      subst e2
      obtain rfl := rkN_inj hn' hn e1
      exact ⟨m, hm, e3.symm⟩
    · rintro ⟨m, hm, rfl⟩
      have := rkN_below hall (hn.step hl hm)
      exact ⟨by omega, by omega, _, (cmEs_mem hall).2 ⟨n, l, m, hn, hl, hm, rfl⟩, Int.toNat_natCast _, Int.toNat_natCast _, Int.toNat_natCast _⟩
  · rw [if_neg (fun h => hl (hz.1 h)), if_neg hl, List.mem_singleton]


/- Lists of systems that are taken together. -/
theorem prodP_pos {ss : List Sy} (hall : ss.all sysOk = true) : 0 < prodL (szP ss) := prodL_pos fun a ha => (szP_ok hall a ha).1
theorem letters_part {ss : List Sy} {s : Sy} (hall : ss.all sysOk = true) (hs : s ∈ ss) {l : Nat} (h : l ∈ letters s.al) : l ∈ letters (allAl ss) := by
  rw [letters_ok] at h ⊢
  exact ⟨h.1, Has_part hall hs l h.2⟩
theorem flt_filter {s : Sy} {A : Int} (h : ∀ l ∈ letters s.al, l ∈ letters A) (r : List Nat) : flt s (r.filter fun l => decide (l ∈ letters A)) = flt s r := by
  unfold flt
  rw [List.filter_filter]
  refine List.filter_congr fun x _ => ?_
  by_cases hx : x ∈ letters s.al
  · simp [hx, h x hx]
  · simp [hx]
theorem PR_filter {A : Int} (r : List Nat) : ∀ (ss : List Sy) (n : Nat), (∀ s ∈ ss, ∀ l ∈ letters s.al, l ∈ letters A) → (PR ss (r.filter fun l => decide (l ∈ letters A)) n ↔ PR ss r n)
  | [], n, _ => Iff.rfl
  | s :: ss, n, h => by
    show (∃ q m, (setW s (flt s (r.filter _))).testBit q = true ∧ PR ss (r.filter _) m ∧ _) ↔ ∃ q m, (setW s (flt s r)).testBit q = true ∧ PR ss r m ∧ _
    rw [flt_filter (h s List.mem_cons_self) r]
    constructor
    · rintro ⟨q, m, h1, h2, h3⟩; exact ⟨q, m, h1, (PR_filter r ss m fun x hx => h x (List.mem_cons_of_mem _ hx)).1 h2, h3⟩
    · rintro ⟨q, m, h1, h2, h3⟩; exact ⟨q, m, h1, (PR_filter r ss m fun x hx => h x (List.mem_cons_of_mem _ hx)).2 h2, h3⟩
theorem Rn_of_PR {ss : List Sy} (hall : ss.all sysOk = true) {r : List Nat} {n : Nat} (h : PR ss r n) : Rn ss n :=
  ⟨_, (RW_PR hall (r.filter fun l => decide (l ∈ letters (allAl ss))) n).2 ⟨fun l hl => by simpa using (List.mem_filter.1 hl).2, (PR_filter r ss n fun s hs l hl => letters_part hall hs hl).2 h⟩⟩
theorem all_append {xs ys : List Sy} (h : (xs ++ ys).all sysOk = true) : xs.all sysOk = true ∧ ys.all sysOk = true := by
  rw [List.all_append, Bool.and_eq_true] at h
  exact h
theorem stepQ_mod (s : Sy) (q l : Nat) : stepQ s (q % s.st.toNat) l = stepQ s q l := by unfold stepQ; rw [Nat.mod_mod]
theorem nxParts_mod {ss : List Sy} (n l x : Nat) : x ∈ nxParts ss (n % prodL (szP ss)) l ↔ x ∈ nxParts ss n l := by
  have := nxParts_shift ss (n / prodL (szP ss)) (n % prodL (szP ss)) l x
  rw [Nat.mul_comm, Nat.div_add_mod] at this
  exact this.symm
theorem nxParts_out : ∀ {ss : List Sy}, ss.all sysOk = true → ∀ {l n : Nat}, (∀ s ∈ ss, l ∉ letters s.al) → n < prodL (szP ss) → l < 6 → ∀ x, x ∈ nxParts ss n l ↔ x = n
  | [], _, l, n, _, hn, _, x => by
    have : n = 0 := by have : n < 1 := hn; omega
    rw [this]
    show x ∈ [0] ↔ _
    rw [List.mem_singleton]
  | s :: ss, hall, l, n, hout, hn, h6, x => by
    rw [List.all_cons, Bool.and_eq_true] at hall
    have hp := prodP_pos hall.2
    have hn' : n < s.st.toNat * prodL (szP ss) := hn
    have hq : n / prodL (szP ss) < s.st.toNat := Nat.div_lt_of_lt_mul (by rw [Nat.mul_comm]; exact hn')
    have hz : HasZ s.al (l : Int) = false := by
      rw [← Bool.not_eq_true]
      intro h
      refine hout s List.mem_cons_self (letters_ok.2 ⟨h6, ?_⟩)
      unfold HasZ at h
      simpa using h
    rw [nxParts_cons]
    have h2 : ∀ r, r ∈ nxParts ss n l ↔ r = n % prodL (szP ss) := fun r => by
      rw [← nxParts_mod n l r]
      exact nxParts_out hall.2 (fun y hy => hout y (List.mem_cons_of_mem _ hy)) (Nat.mod_lt _ hp) h6 r
    have h1 : ∀ q, q ∈ stepQ s (n / prodL (szP ss)) l ↔ q = n / prodL (szP ss) := fun q => by
      unfold stepQ
      rw [if_neg (by rw [hz]; decide), Nat.mod_eq_of_lt hq, List.mem_singleton]
    have hdm : n / prodL (szP ss) * prodL (szP ss) + n % prodL (szP ss) = n := by rw [Nat.mul_comm]; exact Nat.div_add_mod n _
    constructor
    · rintro ⟨q, hq, r, hr, rfl⟩
      rw [(h1 q).1 hq, (h2 r).1 hr, hdm]
    · rintro rfl
      exact ⟨_, (h1 _).2 rfl, _, (h2 _).2 rfl, hdm.symm⟩

theorem letters_all {ss : List Sy} (hall : ss.all sysOk = true) {l : Nat} : l ∈ letters (allAl ss) ↔ ∃ s ∈ ss, l ∈ letters s.al := by
  constructor
  · intro h
    rw [letters_ok, (Has_all ss l hall).1] at h
    obtain ⟨h6, h⟩ := h
    unfold cntAl at h
    have h := of_decide_eq_true h
    obtain ⟨s, hs, h2⟩ := List.countP_pos_iff.1 h
    exact ⟨s, hs, letters_ok.2 ⟨h6, h2⟩⟩
  · rintro ⟨s, hs, h⟩
    exact letters_part hall hs h
/-- The steps of a composition are those of its parts. -/
theorem stepQ_cm_nx {ss : List Sy} (hall : ss.all sysOk = true) (h16 : (rnL ss).length ≤ 16) {n : Nat} (hn : Rn ss n) {l : Nat} (hl6 : l < 6) (x : Nat) : x ∈ stepQ (cmSy ss) (rkN ss n) l ↔ ∃ m ∈ nxParts ss n l, x = rkN ss m := by
  rw [stepQ_cm hall h16 hn hl6]
  split
  · exact Iff.rfl
  · next h =>
    have := nxParts_out hall (l := l) (n := n) (fun s hs hl => h (letters_part hall hs hl)) (hn.lt hall) hl6
    constructor
    · rintro rfl; exact ⟨n, (this n).2 rfl, rfl⟩
    · rintro ⟨m, hm, rfl⟩; rw [(this m).1 hm]
theorem has_far {A : Int} (h : 0 ≤ A ∧ A ≤ 63) {c : Nat} (hc : 6 ≤ c) : Has A c = false := by
  obtain ⟨n, rfl⟩ := Int.eq_ofNat_of_zero_le h.1
  rw [Has_nat]
  refine Nat.testBit_lt_two_pow (Nat.lt_of_lt_of_le (show n < 2 ^ 6 by omega) (Nat.pow_le_pow_right (by decide) hc))
theorem allAl_ext {ss ts : List Sy} (hs : ss.all sysOk = true) (ht : ts.all sysOk = true) (h : ∀ l, l ∈ letters (allAl ss) ↔ l ∈ letters (allAl ts)) : allAl ss = allAl ts := by
  refine Has_ext (allAl_range _ hs) (allAl_range _ ht) fun c => ?_
  by_cases h6 : c < 6
  · have := h c
    rw [letters_ok, letters_ok] at this
    rw [Bool.eq_iff_iff]
    exact ⟨fun h => (this.1 ⟨h6, h⟩).2, fun h => (this.2 ⟨h6, h⟩).2⟩
  · rw [has_far (allAl_range _ hs) (by omega), has_far (allAl_range _ ht) (by omega)]

end Go.Proofs.YtdkjnemakkppfaaGreatDoor

/- Both versions of TracesWithin and SameTraces. -/
namespace Go.Proofs.YtdkjnemakkppfaaGreatDoor
open Go.RowKit Go.BigFrame AG

theorem specFTO_any (s t : Sy) (A B : Option Addr) (c d : Nat) (w : World) (hl : s.es.length ≤ c) (hc : c ≤ 9223372036854775807) (hm : t.es.length ≤ d) (hd : d ≤ 9223372036854775807) (hr : EdsAt w w.heap.size A s.es) (hs : EdsAt w w.heap.size B t.es) :
    Calls Tryz.prog 70 #[s.val A c, t.val B d] w fun e w' => ∃ o, e = .returned (pathV o) ∧ IsOut s t o ∧ Below w.heap.size w w' :=
  (specFirstTraceOutside_any s t A B c d w hl hc hm hd hr hs).mono fun e w' ⟨o, he, hf, hb⟩ => ⟨o, he, by
    unfold IsFirst at hf
    by_cases hC : cmpOk s t = true
    · rw [if_pos hC] at hf
      have hsy : sysOk s = true ∧ sysOk t = true := by
        have := hC
        unfold cmpOk at this
        simp only [Bool.and_eq_true] at this
        exact ⟨this.1, this.2.1⟩
      exact out_of_first (spec_hits (s := s) (t := t)) hC hf
    · rw [if_neg hC] at hf
      unfold IsOut
      rw [if_neg hC]
      exact hf, hb⟩

/-- Every trace of s is one of t. -/
noncomputable def withinB (s t : Sy) : Bool := open Classical in cmpOk s t && decide (∀ q, ¬ AG.Outside s t q)
theorem within_of {s t : Sy} {o : Option (List Nat)} (h : IsOut s t o) : (cmpOk s t && !o.isSome) = withinB s t := by
  unfold IsOut at h
  unfold withinB
  cases hC : cmpOk s t
  · rfl
  · rw [if_pos hC] at h
    cases o with
    | none => simpa using h
    | some r => simp; exact ⟨r, h.1⟩
noncomputable def sameB (s t : Sy) : Bool := withinB s t && withinB t s

set_option maxRecDepth 100000 in
set_option maxHeartbeats 1000000 in
theorem specTracesWithin_any (s t : Sy) (A B : Option Addr) (c d : Nat) (w : World) (hl : s.es.length ≤ c) (hc : c ≤ 9223372036854775807) (hm : t.es.length ≤ d) (hd : d ≤ 9223372036854775807) (hr : EdsAt w w.heap.size A s.es) (hs : EdsAt w w.heap.size B t.es) :
    Calls Tryz.prog 25 #[s.val A c, t.val B d] w fun e w' => e = .returned (.bool (withinB s t)) ∧ Below w.heap.size w w' := by
  unfold Sy.val
  replace hr := hid hr
  replace hs := hid hs
  go_enter Tryz.func25, Tryz.ntmps25
  go_wp2_with fail
  obtain ⟨w0, hw0, hz0, hB0, hS, hU⟩ := boxed2 w #[Value.int IntKind.i64 s.al, Value.int IntKind.i64 s.st, Value.slice A s.es.length c] 25 #[Value.int IntKind.i64 t.al, Value.int IntKind.i64 t.st, Value.slice B t.es.length d] 25
  rw [hw0]
  clear hw0
  have p0 := hS 0 _ rfl _ (Below.refl _ _)
  have p1 := hS 1 _ rfl _ (Below.refl _ _)
  have p2 := hS 2 _ rfl _ (Below.refl _ _)
  have q0 := hU 0 _ rfl _ (Below.refl _ _)
  have q1 := hU 1 _ rfl _ (Below.refl _ _)
  have q2 := hU 2 _ rfl _ (Below.refl _ _)
  have hr0 := hid (hr.out.later hB0)
  have hs0 := hid (hs.out.later hB0)
  go_wp2_with fail
  refine (specFTO_any s t A B c d w0 hl hc hm hd hr0.out hs0.out).mono ?_
  rintro e w1 ⟨o, rfl, ho, hb1⟩
  have b1 := hb1.mono hz0
  clear p0 p1 p2 q0 q1 q2
  have p0 := hS 0 _ rfl _ b1
  have p1 := hS 1 _ rfl _ b1
  have p2 := hS 2 _ rfl _ b1
  have q0 := hU 0 _ rfl _ b1
  have q1 := hU 1 _ rfl _ b1
  have q2 := hU 2 _ rfl _ b1
  have B1 : Below w.heap.size w w1 := hB0.trans (b1.mono (by omega))
  have hr1 := hid (hr.out.later B1)
  have hs1 := hid (hs.out.later B1)
  have hwi := within_of ho
  obtain ⟨Sv, Fv, hpv, hfv⟩ : ∃ Sv Fv, pathV o = .tuple #[.string Sv, .bool Fv] ∧ Fv = o.isSome := ⟨_, _, rfl, rfl⟩
  rw [hpv]
  rw [← hfv] at hwi
  replace hwi := hid hwi
  clear ho hpv hfv
  have z1 := hb1.size
  go_wp2_with fail
  refine (l6Comparable_any s t A B c d w1 hl hc hm hd hr1.out hs1.out).mono ?_
  rintro e w2 ⟨rfl, hb2⟩
  have B2 : Below w.heap.size w w2 := B1.trans (hb2.mono (by omega))
  cases hC : cmpOk s t
  · replace hC := hid hC
    go_wp2_with fail
    go_ret
    exact ⟨ret_bool (by rw [← hwi.out, hC.out]; rfl), B2⟩
  · replace hC := hid hC
    go_wp2_with fail
    go_ret
    exact ⟨ret_bool (by rw [← hwi.out, hC.out]; rfl), B2⟩

set_option maxRecDepth 100000 in
set_option maxHeartbeats 1000000 in
theorem implTracesWithin_any (s t : Sy) (A B : Option Addr) (c d : Nat) (w : World) (hl : s.es.length ≤ c) (hc : c ≤ 9223372036854775807) (hm : t.es.length ≤ d) (hd : d ≤ 9223372036854775807) (hT : Tab w) (hr : EdsAt w w.heap.size A s.es) (hs : EdsAt w w.heap.size B t.es) :
    Calls Tryz.prog 24 #[s.val A c, t.val B d] w fun e w' => e = .returned (.bool (withinB s t)) ∧ Below w.heap.size w w' := by
  unfold Sy.val
  replace hr := hid hr
  replace hs := hid hs
  replace hT := hid hT
  go_enter Tryz.func24, Tryz.ntmps24
  go_wp2_with fail
  obtain ⟨w0, hw0, hz0, hB0, hS, hU⟩ := boxed2 w #[Value.int IntKind.i64 s.al, Value.int IntKind.i64 s.st, Value.slice A s.es.length c] 25 #[Value.int IntKind.i64 t.al, Value.int IntKind.i64 t.st, Value.slice B t.es.length d] 25
  rw [hw0]
  clear hw0
  have p0 := hS 0 _ rfl _ (Below.refl _ _)
  have p1 := hS 1 _ rfl _ (Below.refl _ _)
  have p2 := hS 2 _ rfl _ (Below.refl _ _)
  have q0 := hU 0 _ rfl _ (Below.refl _ _)
  have q1 := hU 1 _ rfl _ (Below.refl _ _)
  have q2 := hU 2 _ rfl _ (Below.refl _ _)
  have hr0 := hid (hr.out.later hB0)
  have hs0 := hid (hs.out.later hB0)
  have hT0 := hid (hT.out.later hB0)
  go_wp2_with fail
  refine (implFirstTraceOutside_any s t A B c d w0 hl hc hm hd hT0.out hr0.out hs0.out).mono ?_
  rintro e w1 ⟨o, rfl, ho, hb1⟩
  have b1 := hb1.mono hz0
  clear p0 p1 p2 q0 q1 q2
  have p0 := hS 0 _ rfl _ b1
  have p1 := hS 1 _ rfl _ b1
  have p2 := hS 2 _ rfl _ b1
  have q0 := hU 0 _ rfl _ b1
  have q1 := hU 1 _ rfl _ b1
  have q2 := hU 2 _ rfl _ b1
  have B1 : Below w.heap.size w w1 := hB0.trans (b1.mono (by omega))
  have hr1 := hid (hr.out.later B1)
  have hs1 := hid (hs.out.later B1)
  have hwi := within_of ho
  obtain ⟨Sv, Fv, hpv, hfv⟩ : ∃ Sv Fv, pathV o = .tuple #[.string Sv, .bool Fv] ∧ Fv = o.isSome := ⟨_, _, rfl, rfl⟩
  rw [hpv]
  rw [← hfv] at hwi
  replace hwi := hid hwi
  clear ho hpv hfv
  have z1 := hb1.size
  go_wp2_with fail
  refine (sameAlphabets_any s t A B c d w1 hl hc hm hd hr1.out hs1.out).mono ?_
  rintro e w2 ⟨rfl, hb2⟩
  have B2 : Below w.heap.size w w2 := B1.trans (hb2.mono (by omega))
  cases hC : cmpOk s t
  · replace hC := hid hC
    go_wp2_with fail
    go_ret
    exact ⟨ret_bool (by rw [← hwi.out, hC.out]; rfl), B2⟩
  · replace hC := hid hC
    go_wp2_with fail
    go_ret
    exact ⟨ret_bool (by rw [← hwi.out, hC.out]; rfl), B2⟩

set_option maxRecDepth 100000 in
set_option maxHeartbeats 1000000 in
theorem implSameTraces_any (s t : Sy) (A B : Option Addr) (c d : Nat) (w : World) (hl : s.es.length ≤ c) (hc : c ≤ 9223372036854775807) (hm : t.es.length ≤ d) (hd : d ≤ 9223372036854775807) (hT : Tab w) (hr : EdsAt w w.heap.size A s.es) (hs : EdsAt w w.heap.size B t.es) :
    Calls Tryz.prog 29 #[s.val A c, t.val B d] w fun e w' => e = .returned (.bool (sameB s t)) ∧ Below w.heap.size w w' := by
  unfold Sy.val
  replace hr := hid hr
  replace hs := hid hs
  replace hT := hid hT
  have hval : Hid (sameB s t = (withinB s t && withinB t s)) := hid rfl
  go_enter Tryz.func29, Tryz.ntmps29
  go_wp2_with fail
  obtain ⟨w0, hw0, hz0, hB0, hS, hU⟩ := boxed2 w #[Value.int IntKind.i64 s.al, Value.int IntKind.i64 s.st, Value.slice A s.es.length c] 25 #[Value.int IntKind.i64 t.al, Value.int IntKind.i64 t.st, Value.slice B t.es.length d] 25
  rw [hw0]
  clear hw0
  have p0 := hS 0 _ rfl _ (Below.refl _ _)
  have p1 := hS 1 _ rfl _ (Below.refl _ _)
  have p2 := hS 2 _ rfl _ (Below.refl _ _)
  have q0 := hU 0 _ rfl _ (Below.refl _ _)
  have q1 := hU 1 _ rfl _ (Below.refl _ _)
  have q2 := hU 2 _ rfl _ (Below.refl _ _)
  have hr0 := hid (hr.out.later hB0)
  have hs0 := hid (hs.out.later hB0)
  have hT0 := hid (hT.out.later hB0)
  go_wp2_with fail
  refine (implTracesWithin_any s t A B c d w0 hl hc hm hd hT0.out hr0.out hs0.out).mono ?_
  rintro e w1 ⟨rfl, hb1⟩
  have b1 := hb1.mono hz0
  clear p0 p1 p2 q0 q1 q2
  have B1 : Below w.heap.size w w1 := hB0.trans (b1.mono (by omega))
  have z1 := hb1.size
  cases hW : withinB s t
  · replace hW := hid hW
    go_wp2_with fail
    go_ret
    exact ⟨ret_bool (by rw [hval.out, hW.out]; rfl), B1⟩
  · replace hW := hid hW
    have p0 := hS 0 _ rfl _ b1
    have p1 := hS 1 _ rfl _ b1
    have p2 := hS 2 _ rfl _ b1
    have q0 := hU 0 _ rfl _ b1
    have q1 := hU 1 _ rfl _ b1
    have q2 := hU 2 _ rfl _ b1
    have hr1 := hid (hr.out.later B1)
    have hs1 := hid (hs.out.later B1)
    have hT1 := hid (hT.out.later B1)
    go_wp2_with fail
    refine (implTracesWithin_any t s B A d c w1 hm hd hl hc hT1.out hs1.out hr1.out).mono ?_
    rintro e w2 ⟨rfl, hb2⟩
    have B2 : Below w.heap.size w w2 := B1.trans (hb2.mono (by omega))
    go_wp2_with fail
    go_ret
    exact ⟨ret_bool (by rw [hval.out, hW.out]; rfl), B2⟩

end Go.Proofs.YtdkjnemakkppfaaGreatDoor

/- Plain: compositions of trimmed systems, with neutral systems, turned around, deterministic, and where they are stuck. -/
namespace Go.Proofs.YtdkjnemakkppfaaGreatDoor
open AG

theorem flt_self {s : Sy} {r : List Nat} (h : ∀ l ∈ r, l ∈ letters s.al) : flt s r = r := by
  unfold flt
  rw [List.filter_eq_self]
  exact fun l hl => decide_eq_true (h l hl)
theorem PR_one {s : Sy} {r : List Nat} {n : Nat} : PR [s] r n ↔ (setW s (flt s r)).testBit n = true := by
  show (∃ q m, (setW s (flt s r)).testBit q = true ∧ m = 0 ∧ n = q * 1 + m) ↔ _
  constructor
  · rintro ⟨q, m, h, rfl, rfl⟩; simpa using h
  · intro h; exact ⟨n, 0, h, rfl, by simp⟩
theorem all_one {s : Sy} (hs : sysOk s = true) : ([s] : List Sy).all sysOk = true := by rw [List.all_cons, hs]; rfl
theorem all_two {s t : Sy} (hs : sysOk s = true) (ht : sysOk t = true) : ([s, t] : List Sy).all sysOk = true := by rw [List.all_cons, List.all_cons, hs, ht]; rfl
theorem Rn_one {s : Sy} (hs : sysOk s = true) (n : Nat) : Rn [s] n ↔ (reachAll s).testBit n = true := by
  constructor
  · rintro ⟨r, hr⟩
    exact setW_reach hs _ _ (PR_one.1 ((RW_PR (all_one hs) r n).1 hr).2)
  · intro h
    obtain ⟨r, hr, hb⟩ := reach_word hs h
    exact Rn_of_PR (all_one hs) (r := r) (PR_one.2 (by rw [flt_self hr]; exact hb))
theorem rkN_one {s : Sy} (hs : sysOk s = true) : ∀ n, rkN [s] n = rankN (reachAll s) n
  | 0 => rfl
  | n + 1 => by
    rw [rankN, ← rkN_one hs n]
    by_cases h : Rn [s] n
    · rw [(rkN_succ [s] n).1 h, if_pos ((Rn_one hs n).1 h)]
    · rw [(rkN_succ [s] n).2 h, if_neg (fun k => h ((Rn_one hs n).2 k)), Nat.add_zero]
/-- A system alone is composed to itself without its states that are not reached. -/
theorem trim_cm {s : Sy} (hs : sysOk s = true) : trimSy s (reachAll s) = cmSy [s] := by
  have hall := all_one hs
  have h1 : (rnL [s]).length = rankN (reachAll s) s.st.toNat := by rw [← rkN_all, rkN_one hs, prod_one]
  have h2 : (trimSy s (reachAll s)).es = cmEs [s] := by
    refine edges_ext (edges_pairwise (trim_ok hs)) (cmEs_sorted hall) fun x => ?_
    rw [trim_mem, cmEs_mem hall]
    constructor
    · rintro ⟨e, he, h1, h2, rfl⟩
      have hin := sysOk_in hs e he
      refine ⟨e.f.toNat, e.l.toNat, e.t.toNat, (Rn_one hs _).2 h1, by rw [allAl_one hs]; exact letters_ok.2 ⟨by omega, hin.2.2.2.2.2.2.1⟩, ?_, ?_⟩
      · rw [nxParts_one]
        have hz : HasZ s.al ((e.l.toNat : Nat) : Int) = true := by unfold HasZ; rw [Int.toNat_natCast, hin.2.2.2.2.2.2.1, Bool.and_true]; exact decide_eq_true (by omega)
        unfold stepQ
        rw [if_pos hz, memL_mem, mv_testBit, Nat.mod_eq_of_lt (by omega)]
        exact ⟨by omega, by omega, e, he, rfl, rfl, rfl⟩
      · rw [rkN_one hs, rkN_one hs]
        unfold trimE
        congr 1
        omega
    · rintro ⟨n, l, m, hn, hl, hm, rfl⟩
      rw [allAl_one hs] at hl
      rw [nxParts_one] at hm
      have hnR := (Rn_one hs n).1 hn
      have hn' := hn.lt hall
      rw [prod_one] at hn'
      have hz : HasZ s.al (l : Int) = true := by unfold HasZ; simp [(letters_ok.1 hl).2]
      unfold stepQ at hm
      rw [if_pos hz, memL_mem, mv_testBit, Nat.mod_eq_of_lt hn'] at hm
      obtain ⟨-, -, e, he, rfl, rfl, rfl⟩ := hm
      refine ⟨e, he, hnR, reach_step hs he hnR, ?_⟩
      have hin := sysOk_in hs e he
      rw [rkN_one hs, rkN_one hs]
      unfold trimE
      congr 1
      omega
  show (⟨s.al, ((rankN (reachAll s) s.st.toNat : Nat) : Int), (trimSy s (reachAll s)).es⟩ : Sy) = ⟨allAl [s], ((rnL [s]).length : Nat), cmEs [s]⟩
  rw [h1, h2, allAl_one hs]
theorem rnL_one16 {s : Sy} (hs : sysOk s = true) : (rnL [s]).length ≤ 16 := by
  have := sysOk_st hs
  rw [← rkN_all, rkN_one hs, prod_one]
  have := rankN_le (reachAll s) s.st.toNat
  omega

theorem rnL_le (ss : List Sy) : (rnL ss).length ≤ prodL (szP ss) := by
  unfold rnL
  exact Nat.le_trans (List.length_filter_le _ _) (by rw [List.length_range]; exact Nat.le_refl _)
/-- A system that changes nothing. -/
theorem cm_neutral {s t : Sy} (hs : sysOk s = true) (ht : sysOk t = true) (h1 : t.st = 1) (hal : ∀ l ∈ letters t.al, l ∈ letters s.al) (hst : ∀ n l x, l < 6 → (x ∈ stepQ t n l ↔ x = 0)) : cmSy [s, t] = cmSy [s] ∧ (rnL [s, t]).length = (rnL [s]).length := by
  have hall := all_two hs ht
  have hP : prodL (szP [t]) = 1 := by rw [prod_one, h1]; rfl
  have := cm_iso (all_one hs) hall (allAl_ext (all_one hs) hall fun l => by
    rw [letters_all (all_one hs), letters_all hall]
    simp only [List.mem_cons, List.not_mem_nil, or_false, exists_eq_left, exists_eq_or_imp]
    exact ⟨fun h => .inl h, fun h => h.elim id (hal l)⟩) (fun n => n) rfl (fun a b _ _ h => h) (fun n hn l hl m => by
    have hl6 := (letters_lt hl).1
    rw [nxParts_cons, hP, Nat.div_one, nxParts_one]
    constructor
    · rintro ⟨q, hq, r, hr, rfl⟩
      rw [(hst _ _ _ hl6).1 hr]
      exact ⟨q, by rw [nxParts_one]; exact hq, by simp⟩
    · rintro ⟨k, hk, rfl⟩
      exact ⟨m, by rw [nxParts_one] at hk; exact hk, 0, (hst _ _ _ hl6).2 rfl, by simp⟩)
  exact ⟨this.1.symm, this.2.symm⟩

/-- What a composition can do does not hang on the order of its parts. -/
theorem cm_words {ss ts : List Sy} (hs : ss.all sysOk = true) (ht : ts.all sysOk = true) (hk : (rnL ss).length ≤ 16) (hk' : (rnL ts).length ≤ 16) (hp : ss.Perm ts) (r : List Nat) : setW (cmSy ss) r ≠ 0 ↔ setW (cmSy ts) r ≠ 0 := by
  rw [setW_cm_parts hs hk, setW_cm_parts ht hk', allAl_perm hp hs]
  constructor
  · rintro ⟨h1, h2⟩; exact ⟨h1, fun s h => h2 s (hp.mem_iff.2 h)⟩
  · rintro ⟨h1, h2⟩; exact ⟨h1, fun s h => h2 s (hp.mem_iff.1 h)⟩
theorem out_none {s t : Sy} (h : ∀ r, setW s r ≠ 0 → setW t r ≠ 0) : ∀ q, ¬ AG.Outside s t q := fun q hq => h q hq.2.1 hq.2.2
open Classical in
theorem within_words {s t : Sy} (hs : sysOk s = true) (ht : sysOk t = true) (hal : s.al = t.al) (h : ∀ r, setW s r ≠ 0 → setW t r ≠ 0) : withinB s t = true := by
  unfold withinB cmpOk
  rw [hs, ht, decide_eq_true hal, decide_eq_true (out_none h)]
  rfl
open Classical in
theorem within_inv {s t : Sy} (h : withinB s t = true) : sysOk s = true ∧ sysOk t = true ∧ s.al = t.al ∧ ∀ r, (∀ l ∈ r, l ∈ letters s.al) → setW s r ≠ 0 → setW t r ≠ 0 := by
  unfold withinB cmpOk at h
  simp only [Bool.and_eq_true, decide_eq_true_eq] at h
  exact ⟨h.1.1, h.1.2.1, h.1.2.2, fun r hr h1 h2 => h.2 r ⟨hr, h1, h2⟩⟩
theorem cm_turned {s t : Sy} (hs : sysOk s = true) (ht : sysOk t = true) (hk : (rnL [s, t]).length ≤ 16) (hk' : (rnL [t, s]).length ≤ 16) : sameB (cmSy [s, t]) (cmSy [t, s]) = true := by
  have hp : ([s, t] : List Sy).Perm [t, s] := List.Perm.swap t s []
  have a1 := all_two hs ht
  have a2 := all_two ht hs
  unfold sameB
  rw [within_words (cmSy_ok a1 hk) (cmSy_ok a2 hk') (allAl_perm hp a1) fun r => (cm_words a1 a2 hk hk' hp r).1, within_words (cmSy_ok a2 hk') (cmSy_ok a1 hk) (allAl_perm hp a1).symm fun r => (cm_words a1 a2 hk hk' hp r).2]
  rfl
/-- Inclusion is kept. -/
theorem cm_within {s t u : Sy} (h : withinB s t = true) (hu : sysOk u = true) (hk : (rnL [s, u]).length ≤ 16) (hk' : (rnL [t, u]).length ≤ 16) : withinB (cmSy [s, u]) (cmSy [t, u]) = true := by
  obtain ⟨hs, ht, hal, hw⟩ := within_inv h
  have a1 := all_two hs hu
  have a2 := all_two ht hu
  have hA : allAl [s, u] = allAl [t, u] := by show orB (orB 0 s.al) u.al = orB (orB 0 t.al) u.al; rw [hal]
  refine within_words (cmSy_ok a1 hk) (cmSy_ok a2 hk') hA fun r => ?_
  rw [setW_cm_parts a1 hk, setW_cm_parts a2 hk', ← hA]
  rintro ⟨h1, h2⟩
  refine ⟨h1, fun x hx => ?_⟩
  rcases List.mem_cons.1 hx with rfl | hx
  · have e : flt x r = flt s r := by unfold flt; rw [hal]
    rw [e]
    exact hw _ (fun l hl => flt_mem l hl) (h2 s List.mem_cons_self)
  · exact h2 x (List.mem_cons_of_mem _ hx)
open Classical in
/-- A system composed with itself. -/
theorem cm_self {s : Sy} (hs : sysOk s = true) (hk : (rnL [s, s]).length ≤ 16) : sameB s (cmSy [s, s]) = true := by
  have a1 := all_two hs hs
  have hA : (cmSy [s, s]).al = s.al := allAl_two hs
  have key : ∀ r, (∀ l ∈ r, l ∈ letters s.al) → (setW (cmSy [s, s]) r ≠ 0 ↔ setW s r ≠ 0) := fun r hr => by
    rw [setW_cm_parts a1 hk, allAl_two hs]
    constructor
    · rintro ⟨-, h⟩
      have := h s List.mem_cons_self
      rw [flt_self hr] at this
      exact this
    · intro h
      refine ⟨hr, fun x hx => ?_⟩
      have : x = s := by simpa using hx
      rw [this, flt_self hr]
      exact h
  have w1 : withinB s (cmSy [s, s]) = true := by
    unfold withinB cmpOk
    rw [hs, cmSy_ok a1 hk, hA, decide_eq_true rfl, decide_eq_true (fun q hq => hq.2.2 |> fun h => (key q hq.1).2 hq.2.1 h)]
    rfl
  have w2 : withinB (cmSy [s, s]) s = true := by
    unfold withinB cmpOk
    rw [hs, cmSy_ok a1 hk, hA, decide_eq_true rfl, decide_eq_true (fun q hq => hq.2.2 |> fun h => (key q (by have := hq.1; rw [hA] at this; exact this)).1 hq.2.1 h)]
    rfl
  unfold sameB
  rw [w1, w2]
  rfl

/-- Two searches with the same hits find the same. -/
theorem PathPost_hits {I I' : Nat → Prop} {L L' : List Nat} {nx nx' : Nat → Nat → List Nat} {G G' : Nat → Prop} (h : ∀ r, (∃ n, RW I L nx r n ∧ G n) ↔ ∃ n, RW I' L' nx' r n ∧ G' n) {o : Option (List Nat)} (hp : PathPost I L nx G o) : PathPost I' L' nx' G' o := by
  cases o with
  | none =>
    intro q n hq hg
    obtain ⟨m, hm, hg'⟩ := (h q).2 ⟨n, hq, hg⟩
    exact hp q m hm hg'
  | some r =>
    obtain ⟨h1, h2⟩ := hp
    refine ⟨(h r).1 h1, fun q n hq hg => ?_⟩
    obtain ⟨m, hm, hg'⟩ := (h q).2 ⟨n, hq, hg⟩
    exact h2 q m hm hg'
theorem RW_cm {ss : List Sy} (hall : ss.all sysOk = true) (h16 : (rnL ss).length ≤ 16) (r : List Nat) (i : Nat) : RW (fun m => m ∈ [0]) (letters (allAl [cmSy ss])) (nxParts [cmSy ss]) r i ↔ ∃ n, RW (fun m => m ∈ [0]) (letters (allAl ss)) (nxParts ss) r n ∧ rkN ss n = i := by
  have hcm := cmSy_ok hall h16
  have hA : allAl [cmSy ss] = allAl ss := allAl_one hcm
  rw [RW_PR (all_one hcm), PR_one, ← setW_cm hall h16, hA]
  constructor
  · rintro ⟨h1, h2⟩
    rw [flt_self (s := cmSy ss) h1] at h2
    exact h2
  · intro h
    obtain ⟨n, hn, -⟩ := (setW_cm hall h16 r i).1 h
    have h1 := ((RW_PR hall r n).1 hn).1
    exact ⟨h1, by rw [flt_self (s := cmSy ss) h1]; exact h⟩
/-- A composition is stuck as its parts. -/
theorem dead_cm {ss : List Sy} (hall : ss.all sysOk = true) (h16 : (rnL ss).length ≤ 16) {o : Option (List Nat)} (h : DeadP ss o) : DeadP [cmSy ss] o := by
  have hcm := cmSy_ok hall h16
  have hA : allAl [cmSy ss] = allAl ss := allAl_one hcm
  refine PathPost_hits (fun r => ?_) h
  have hst : ∀ n, Rn ss n → (stuckP [cmSy ss] (letters (allAl [cmSy ss])) (rkN ss n) = true ↔ stuckP ss (letters (allAl ss)) n = true) := fun n hn => by
    unfold stuckP
    rw [hA, List.all_eq_true, List.all_eq_true]
    have key : ∀ l ∈ letters (allAl ss), (nxParts [cmSy ss] (rkN ss n) l).isEmpty = true ↔ (nxParts ss n l).isEmpty = true := fun l hl => by
      rw [List.isEmpty_iff, List.isEmpty_iff, List.eq_nil_iff_forall_not_mem, List.eq_nil_iff_forall_not_mem, nxParts_one]
      constructor
      · intro h m hm; exact h _ ((stepQ_cm_nx hall h16 hn (letters_lt hl).1 _).2 ⟨m, hm, rfl⟩)
      · intro h m hm
        obtain ⟨k, hk, -⟩ := (stepQ_cm_nx hall h16 hn (letters_lt hl).1 _).1 hm
        exact h k hk
    exact ⟨fun h l hl => (key l hl).1 (h l hl), fun h l hl => (key l hl).2 (h l hl)⟩
  constructor
  · rintro ⟨n, hn, hg⟩
    exact ⟨rkN ss n, (RW_cm hall h16 r _).2 ⟨n, hn, rfl⟩, (hst n ⟨r, hn⟩).2 hg⟩
  · rintro ⟨i, hi, hg⟩
    obtain ⟨n, hn, rfl⟩ := (RW_cm hall h16 r i).1 hi
    exact ⟨n, hn, (hst n ⟨r, hn⟩).1 hg⟩

end Go.Proofs.YtdkjnemakkppfaaGreatDoor

/- Plain: compositions as the laws ask for them. -/
namespace Go.Proofs.YtdkjnemakkppfaaGreatDoor
open AG

theorem cmOk_parts {s t : Sy} (h : cmOk s t = true) : sysOk s = true ∧ sysOk t = true ∧ (rnL [s, t]).length ≤ 16 := by
  unfold cmOk at h
  simp only [Bool.and_eq_true, decide_eq_true_eq] at h
  exact h
theorem cmOk_of {s t : Sy} (hs : sysOk s = true) (ht : sysOk t = true) (h : (rnL [s, t]).length ≤ 16) : cmOk s t = true := by
  unfold cmOk
  rw [hs, ht, decide_eq_true h]
  rfl
theorem cmX_ok {s t : Sy} (h : cmOk s t = true) : cmX s t = cmSy [s, t] := by unfold cmX; rw [if_pos h]
theorem cmX_bad {s t : Sy} (h : cmOk s t = false) : cmX s t = ⟨0, 0, []⟩ := by unfold cmX; rw [h]; rfl
theorem cmX_sys {s t : Sy} (h : cmOk s t = true) : sysOk (cmX s t) = true := by
  obtain ⟨h1, h2, h3⟩ := cmOk_parts h
  rw [cmX_ok h]
  exact cmSy_ok (all_two h1 h2) h3
/-- The system of one state without letters. -/
def emptySy : Sy := ⟨0, 1, []⟩
theorem emptySy_ok : sysOk emptySy = true := by unfold sysOk emptySy alphaOk edgesOkTo; simp
theorem stepQ_empty (n l x : Nat) : x ∈ stepQ emptySy n l ↔ x = 0 := by
  have hz : HasZ emptySy.al (l : Int) = false := by
    unfold HasZ Has emptySy
    simp
  unfold stepQ
  rw [if_neg (by rw [hz]; decide), List.mem_singleton]
  show x = n % (1 : Int).toNat ↔ _
  rw [show (1 : Int).toNat = 1 from rfl, Nat.mod_one]
/-- The system of one state in which all letters of an alphabet lead back. -/
def freeSy (al : Int) : Sy := ⟨al, 1, (letters al).map fun (l : Nat) => ⟨0, (l : Int), 0⟩⟩
theorem freeSy_ok {al : Int} (h : alphaOk al = true) : sysOk (freeSy al) = true := by
  refine sysOk_of h ⟨Int.le_refl _, show (1 : Int) ≤ 16 by decide⟩ (fun e he => ?_) ?_
  · obtain ⟨l, hl, rfl⟩ := List.mem_map.1 he
    obtain ⟨h1, h2⟩ := letters_lt hl
    show (decide _ && Has al (l : Int).toNat) = true
    rw [Int.toNat_natCast, h2, Bool.and_true, decide_eq_true_iff]
    show (0 : Int) ≤ 0 ∧ (0 : Int) < 1 ∧ (0 : Int) ≤ 0 ∧ (0 : Int) < 1 ∧ (0 : Int) ≤ (l : Int) ∧ (l : Int) < 6
    omega
  · show ((letters al).map fun (l : Nat) => (⟨0, (l : Int), 0⟩ : Ed)).Pairwise _
    rw [List.pairwise_map]
    refine (letters_sorted al).imp ?_
    intro a b h
    exact edgeLt_l rfl (show ((a : Nat) : Int) < ((b : Nat) : Int) from Int.ofNat_lt.2 h)
theorem stepQ_free {al : Int} (n l x : Nat) (h6 : l < 6) : x ∈ stepQ (freeSy al) n l ↔ x = 0 := by
  have hm : n % (freeSy al).st.toNat = 0 := by show n % (1 : Int).toNat = 0; rw [show (1 : Int).toNat = 1 from rfl, Nat.mod_one]
  unfold stepQ
  rw [hm]
  by_cases hz : HasZ (freeSy al).al (l : Int) = true
  · rw [if_pos hz, memL_mem, mv_testBit]
    constructor
    · rintro ⟨-, -, e, he, -, -, h3⟩
      obtain ⟨l', -, rfl⟩ := List.mem_map.1 he
      exact h3.symm
    · rintro rfl
      refine ⟨by omega, by omega, ⟨0, (l : Int), 0⟩, List.mem_map.2 ⟨l, letters_ok.2 ⟨h6, ?_⟩, rfl⟩, rfl, Int.toNat_natCast _, rfl⟩
      unfold HasZ at hz
      rw [Bool.and_eq_true, Int.toNat_natCast] at hz
      exact hz.2
  · rw [if_neg hz, List.mem_singleton]
/-- Composed with these a system is trimmed. -/
theorem cm_empty {s : Sy} (hs : sysOk s = true) : cmOk s emptySy = true ∧ cmX s emptySy = trimSy s (reachAll s) := by
  have h := cm_neutral hs emptySy_ok rfl (fun l hl => by
    have := (letters_lt hl).2
    unfold Has emptySy at this
    simp at this) fun n l x _ => stepQ_empty n l x
  have ho := cmOk_of hs emptySy_ok (by rw [h.2]; exact rnL_one16 hs)
  exact ⟨ho, by rw [cmX_ok ho, h.1, trim_cm hs]⟩
theorem cm_free {s : Sy} (hs : sysOk s = true) : cmOk s (freeSy s.al) = true ∧ cmX s (freeSy s.al) = trimSy s (reachAll s) := by
  have hf := freeSy_ok (alphaOk_range.2 (sysOk_alpha hs))
  have h := cm_neutral hs hf rfl (fun l hl => hl) fun n l x h => stepQ_free n l x h
  have ho := cmOk_of hs hf (by rw [h.2]; exact rnL_one16 hs)
  exact ⟨ho, by rw [cmX_ok ho, h.1, trim_cm hs]⟩

/- How many edges a composition has. -/
theorem len_flatMap {α β : Type} (l : List α) (f : α → List β) : (l.flatMap f).length = (l.map fun a => (f a).length).sum := by
  induction l with
  | nil => rfl
  | cons a l ih => rw [List.flatMap_cons, List.length_append, ih, List.map_cons, List.sum_cons]
theorem sum_perm {l m : List Nat} (h : l.Perm m) : l.sum = m.sum := by
  induction h with
  | nil => rfl
  | cons a _ ih => rw [List.sum_cons, List.sum_cons, ih]
  | swap a b l => rw [List.sum_cons, List.sum_cons, List.sum_cons, List.sum_cons]; omega
  | trans _ _ h1 h2 => exact h1.trans h2
theorem cmEs_len (ss : List Sy) : (cmEs ss).length = ((rnL ss).map fun n => ((letters (allAl ss)).map fun l => (nxParts ss n l).length).sum).sum := by
  unfold cmEs
  rw [len_flatMap]
  congr 1
  refine List.map_congr_left fun n _ => ?_
  unfold cmRow
  rw [len_flatMap]
  congr 1
  refine List.map_congr_left fun l _ => ?_
  rw [List.length_map]
/-- Nodes that correspond, in whatever order. -/
theorem cm_count {ss ts : List Sy} (hs : ss.all sysOk = true) (ht : ts.all sysOk = true) (hal : allAl ss = allAl ts) (f : Nat → Nat) (h0 : f 0 = 0) (hinj : ∀ a b, Rn ss a → Rn ss b → f a = f b → a = b)
    (hn : ∀ n, Rn ss n → ∀ l ∈ letters (allAl ss), ∀ m, m ∈ nxParts ts (f n) l ↔ ∃ k ∈ nxParts ss n l, m = f k) : (rnL ss).length = (rnL ts).length ∧ (cmEs ss).length = (cmEs ts).length := by
  have h1 : ∀ r n, RW (fun m => m ∈ [0]) (letters (allAl ss)) (nxParts ss) r n → RW (fun m => m ∈ [0]) (letters (allAl ts)) (nxParts ts) r (f n) := by
    intro r
    induction r with
    | nil => intro n h; rw [List.mem_singleton.1 h, h0]; exact List.mem_singleton.2 rfl
    | cons l r ih =>
      rintro n ⟨hl, m, hr, hx⟩
      exact ⟨by rw [← hal]; exact hl, f m, ih m hr, (hn m ⟨r, hr⟩ l hl _).2 ⟨n, hx, rfl⟩⟩
  have h2 : ∀ r m, RW (fun m => m ∈ [0]) (letters (allAl ts)) (nxParts ts) r m → ∃ n, RW (fun m => m ∈ [0]) (letters (allAl ss)) (nxParts ss) r n ∧ m = f n := by
    intro r
    induction r with
    | nil => intro m h; exact ⟨0, List.mem_singleton.2 rfl, by rw [List.mem_singleton.1 h, h0]⟩
    | cons l r ih =>
      rintro m ⟨hl, k, hr, hx⟩
      obtain ⟨n, hn', rfl⟩ := ih k hr
      have hl' : l ∈ letters (allAl ss) := by rw [hal]; exact hl
      obtain ⟨j, hj, rfl⟩ := (hn n ⟨r, hn'⟩ l hl' m).1 hx
      exact ⟨j, ⟨hl', n, hn', hj⟩, rfl⟩
  have nd : ∀ {l : List Nat}, l.Pairwise (· < ·) → l.Nodup := fun h => h.imp fun h => Nat.ne_of_lt h
  have ndm : ∀ {l : List Nat}, l.Pairwise (· < ·) → (∀ a ∈ l, Rn ss a) → (l.map f).Nodup := fun {l} h hr => by
    rw [List.nodup_iff_pairwise_ne, List.pairwise_map]
    exact h.imp_of_mem fun {a b} ha hb hab e => by
      have := hinj a b (hr a ha) (hr b hb) e
      omega
  have hL : (rnL ts).Perm ((rnL ss).map f) := by
    refine (List.perm_ext_iff_of_nodup (nd (rnL_sorted ts)) (ndm (rnL_sorted ss) fun a ha => (rnL_mem hs).1 ha)).2 fun x => ?_
    rw [rnL_mem ht, List.mem_map]
    constructor
    · rintro ⟨r, hr⟩
      obtain ⟨n, hn', rfl⟩ := h2 r x hr
      exact ⟨n, (rnL_mem hs).2 ⟨r, hn'⟩, rfl⟩
    · rintro ⟨n, hn', rfl⟩
      obtain ⟨r, hr⟩ := (rnL_mem hs).1 hn'
      exact ⟨r, h1 r n hr⟩
  have hlen : (rnL ss).length = (rnL ts).length := by rw [hL.length_eq, List.length_map]
  refine ⟨hlen, ?_⟩
  rw [cmEs_len, cmEs_len, sum_perm (hL.map _), List.map_map, ← hal]
  congr 1
  refine List.map_congr_left fun n hn' => ?_
  have hn' := (rnL_mem hs).1 hn'
  show _ = ((letters (allAl ss)).map fun l => (nxParts ts (f n) l).length).sum
  congr 1
  refine List.map_congr_left fun l hl => ?_
  have : (nxParts ts (f n) l).Perm ((nxParts ss n l).map f) := by
    refine (List.perm_ext_iff_of_nodup (nd (nxParts_sorted ht _ _)) (ndm (nxParts_sorted hs n l) fun a ha => hn'.step hl ha)).2 fun x => ?_
    rw [hn n hn' l hl x, List.mem_map]
    exact ⟨fun ⟨k, h, e⟩ => ⟨k, h, e.symm⟩, fun ⟨k, h, e⟩ => ⟨k, h, e.symm⟩⟩
  rw [this.length_eq, List.length_map]
/-- Two systems turned around. -/
theorem cm_turn {s t : Sy} (hs : sysOk s = true) (ht : sysOk t = true) : (rnL [s, t]).length = (rnL [t, s]).length ∧ (cmEs [s, t]).length = (cmEs [t, s]).length := by
  have a1 := all_two hs ht
  have a2 := all_two ht hs
  have p1 : prodL (szP [t]) = t.st.toNat := prod_one t
  have p2 : prodL (szP [s]) = s.st.toNat := prod_one s
  have z1 := sysOk_st hs
  have z2 := sysOk_st ht
  have hq : ∀ n, Rn [s, t] n → n / t.st.toNat < s.st.toNat := fun n hn => by
    have := hn.lt a1
    have e : prodL (szP [s, t]) = s.st.toNat * t.st.toNat := by show s.st.toNat * (t.st.toNat * 1) = _; rw [Nat.mul_one]
    rw [e] at this
    exact Nat.div_lt_of_lt_mul (by rw [Nat.mul_comm]; exact this)
  refine cm_count a1 a2 (allAl_perm (List.Perm.swap t s []) a1) (fun n => n % t.st.toNat * s.st.toNat + n / t.st.toNat) ?_ ?_ ?_
  · show 0 % _ * _ + 0 / _ = 0
    rw [Nat.zero_mod, Nat.zero_div, Nat.zero_mul]
  · intro a b ha hb e
    have h1 := hq a ha
    have h2 := hq b hb
    have e' : a % t.st.toNat * s.st.toNat + a / t.st.toNat = b % t.st.toNat * s.st.toNat + b / t.st.toNat := e
    have d1 : (a % t.st.toNat * s.st.toNat + a / t.st.toNat) / s.st.toNat = a % t.st.toNat := by rw [Nat.mul_comm, Nat.mul_add_div (by omega), Nat.div_eq_of_lt h1, Nat.add_zero]
    have d2 : (b % t.st.toNat * s.st.toNat + b / t.st.toNat) / s.st.toNat = b % t.st.toNat := by rw [Nat.mul_comm, Nat.mul_add_div (by omega), Nat.div_eq_of_lt h2, Nat.add_zero]
    have m1 : a % t.st.toNat = b % t.st.toNat := by rw [← d1, ← d2, e']
    rw [m1] at e'
    have m2 : a / t.st.toNat = b / t.st.toNat := by omega
    rw [← Nat.div_add_mod a t.st.toNat, ← Nat.div_add_mod b t.st.toNat, m1, m2]
  · intro n hn l hl m
    have h1 := hq n hn
    have e1 : (n % t.st.toNat * s.st.toNat + n / t.st.toNat) / s.st.toNat = n % t.st.toNat := by rw [Nat.mul_comm, Nat.mul_add_div (by omega), Nat.div_eq_of_lt h1, Nat.add_zero]
    have e2 : (n % t.st.toNat * s.st.toNat + n / t.st.toNat) % s.st.toNat = n / t.st.toNat := by rw [Nat.mul_comm, Nat.mul_add_mod, Nat.mod_eq_of_lt h1]
    have k1 : ∀ x, x ∈ nxParts [s] (n % t.st.toNat * s.st.toNat + n / t.st.toNat) l ↔ x ∈ stepQ s (n / t.st.toNat) l := fun x => by
      rw [nxParts_one, ← stepQ_mod, e2]
    have k2 : ∀ x, x ∈ nxParts [t] n l ↔ x ∈ stepQ t (n % t.st.toNat) l := fun x => by rw [nxParts_one, stepQ_mod]
    rw [nxParts_cons, p2, e1]
    have key : ∀ a b, b < t.st.toNat → a * t.st.toNat + b = a * t.st.toNat + b ∧ (a * t.st.toNat + b) % t.st.toNat * s.st.toNat + (a * t.st.toNat + b) / t.st.toNat = b * s.st.toNat + a := fun a b hb => ⟨rfl, by
      rw [Nat.mul_comm a, Nat.mul_add_mod, Nat.mod_eq_of_lt hb, Nat.mul_add_div (by omega), Nat.div_eq_of_lt hb, Nat.add_zero]⟩
    constructor
    · rintro ⟨b, hb, a, ha, rfl⟩
      have ha' := (k1 a).1 ha
      have hbt := stepQ_lt ht _ _ b hb
      exact ⟨a * t.st.toNat + b, (nxParts_cons s [t] l n _).2 ⟨a, by rw [p1]; exact ha', b, (k2 b).2 hb, by rw [p1]⟩, (key a b hbt).2.symm⟩
    · rintro ⟨k, hk, rfl⟩
      obtain ⟨a, ha, b, hb, rfl⟩ := (nxParts_cons s [t] l n k).1 hk
      rw [p1] at ha ⊢
      have hb' := (k2 b).1 hb
      exact ⟨b, hb', a, (k1 a).2 ha, (key a b (stepQ_lt ht _ _ b hb')).2⟩
theorem cmOk_turn {s t : Sy} : cmOk s t = cmOk t s := by
  unfold cmOk
  cases hs : sysOk s
  · cases sysOk t <;> rfl
  · cases ht : sysOk t
    · rfl
    · rw [(cm_turn hs ht).1]

end Go.Proofs.YtdkjnemakkppfaaGreatDoor

/- Plain: a valid system has few edges. -/
namespace Go.Proofs.YtdkjnemakkppfaaGreatDoor
open AG

theorem sorted_few : ∀ {l : List Nat} {a N : Nat}, l.Pairwise (· < ·) → (∀ x ∈ l, a ≤ x ∧ x < N) → l.length ≤ N - a
  | [], _, _, _, _ => Nat.zero_le _
  | x :: l, a, N, h, hb => by
    rw [List.pairwise_cons] at h
    have h1 := hb x List.mem_cons_self
    have h2 := sorted_few (a := x + 1) (N := N) h.2 fun y hy => ⟨h.1 y hy, (hb y (List.mem_cons_of_mem _ hy)).2⟩
    rw [List.length_cons]
    omega
theorem edges_few {s : Sy} (h : sysOk s = true) : s.es.length ≤ 1536 := by
  have hin := sysOk_in h
  have hp := edges_pairwise h
  have h1 : (s.es.map fun e => e.f.toNat * 96 + e.l.toNat * 16 + e.t.toNat).Pairwise (· < ·) := by
    rw [List.pairwise_map]
    refine hp.imp_of_mem ?_
    intro a b ha hb hlt
    have h2 := hin a ha
    have h3 := hin b hb
    unfold edgeLt at hlt
    split at hlt
    · have := of_decide_eq_true hlt; omega
    · split at hlt
      · have := of_decide_eq_true hlt; omega
      · have := of_decide_eq_true hlt; omega
  have h2 := sorted_few (a := 0) (N := 1536) h1 fun x hx => by
    obtain ⟨e, he, rfl⟩ := List.mem_map.1 hx
    have := hin e he
    exact ⟨Nat.zero_le _, by omega⟩
  simpa using h2

end Go.Proofs.YtdkjnemakkppfaaGreatDoor

/- A statement that draws its order and whose calls may write some old blocks one after the other: one walk in the order of the text serves every order, if what holds behind m operations is told (I m). -/
namespace AG
open Go Go.RowKit

/-- The ways on of a world: what one operation may do (S), and what holds behind m operations (I m). -/
structure Way (S : World → World → Prop) (I : Nat → World → Prop) : Prop where
  refl : ∀ w, S w w
  trans : ∀ a b c, S a b → S b c → S a c
  more : ∀ m w, I m w → I (m + 1) w

theorem Way.mono {S : World → World → Prop} {I : Nat → World → Prop} (y : Way S I) {m : Nat} {w : World} (h : I m w) : ∀ k, I (m + k) w
  | 0 => h
  | k + 1 => y.more _ _ (y.mono h k)

namespace GK
section
variable {P : Program} {ops : Array Oper} {md : Region.Mode} {n M : Nat} {S : World → World → Prop} {I : Nat → World → Prop} {sp : Nat → Value → World → Prop}

/-- What the check says of the first n operations. -/
structure Ok (md : Region.Mode) (ops : Array Oper) (n : Nat) : Prop where
  sel : Region.noSelect ops = true
  size : n ≤ ops.size
  back : ∀ j, j < n → ∀ k ∈ predsOf md ops j, k < j
  one : ∀ i k t, i < n → k < n → dstOf ops i = some t → dstOf ops k = some t → i = k
  seen : ∀ j k t, j < n → k < n → dstOf ops k = some t → t ∈ looksOf ops j → k ∈ predsOf md ops j

/-- The frames of two ways look the same to an operation whose callers have all come up. -/
theorem Ok.same {L : Nat → Bool} {val vh : Nat → Value} {a0 ar a : Act} {j : Nat} {oj : Oper} (g : Ok md ops n) (hr : Pt ops n L val a0 ar) (hl : Pt ops n (fun k => decide (k < j)) vh a0 a) (hj : j < n)
    (ho : ops[j]? = some oj) (hp : ∀ k ∈ predsOf md ops j, L k = true) (hv : ∀ k, k < j → L k = true → vh k = val k) :
    execOp a.eval oj = execOp ar.eval oj ∧ Region.wanted oj (yielded ops a.tmps) = Region.wanted oj (yielded ops ar.tmps) := by
  refine look_same (Region.noSelect_spec g.sel j oj · · ho) fun t ht => hl.agree hr fun k hk hd => ?_
  have hm := g.seen j k t hj hk hd (by simpa [looksOf, ho] using ht)
  have hlt := g.back j hj k hm
  have hLk := hp k hm
  exact ⟨by simp [hlt, hLk], fun _ => hv k hlt hLk⟩

/-- A fact that stays whatever the operations do. -/
def Steady (S : World → World → Prop) (F : World → Prop) : Prop := ∀ w w', S w w' → F w → F w'

/-- The walk in the order of the text; L: the operations that have been carried out already (none, for who walks). -/
def Res (P : Program) (md : Region.Mode) (ops : Array Oper) (S : World → World → Prop) (I : Nat → World → Prop) (M : Nat) (sp : Nat → Value → World → Prop) (L : Nat → Bool) (val : Nat → Value) (wr : World)
    (Q : List (Nat × (World → Prop)) → Act → Prop) : List Oper → Nat → List (Nat × (World → Prop)) → Act → Prop
  | [], _, Γ, a => Q Γ a
  | o :: rest, i, Γ, a =>
    if Region.wanted o (yielded ops a.tmps) = true then
      (∃ v, (∀ m w, m < M → I m w → fnUpon (fun u w' => u = v ∧ w' = w) ((execOp a.eval o).run P w)) ∧ (L i = true → val i = v) ∧ Res P md ops S I M sp L val wr Q rest (i + 1) Γ (a.put o.dst v)) ∨
      (∃ Z : Value → World → Prop, (∀ u, Steady S (Z u)) ∧ (∀ m w, m < M → I m w → FactsAt md ops i Γ w → fnUpon (fun u w' => (S w w' ∧ I (m + 1) w') ∧ Z u w') ((execOp a.eval o).run P w)) ∧ (L i = true → Z (val i) wr) ∧
        ∀ u, (L i = true → u = val i) → (L i = false → ∃ m w', I m w' ∧ Z u w') → Res P md ops S I M sp L val wr Q rest (i + 1) ((i, Z u) :: Γ) (a.put o.dst u)) ∨
      ((∀ u, Steady S (sp i u)) ∧ (∀ m w, m < M → I m w → FactsAt md ops i Γ w → callUpon P w (fun e w' => ∃ u, e = .returned u ∧ (S w w' ∧ I (m + 1) w') ∧ sp i u w') ((execOp a.eval o).run P w)) ∧ (L i = true → sp i (val i) wr) ∧
        ∀ u, (L i = true → u = val i) → (L i = false → ∃ m w', I m w' ∧ sp i u w') → Res P md ops S I M sp L val wr Q rest (i + 1) ((i, sp i u) :: Γ) (a.put o.dst u))
    else (L i = true → val i = undef) ∧ Res P md ops S I M sp L val wr Q rest (i + 1) Γ (a.put o.dst undef)

variable {Q : List (Nat × (World → Prop)) → Act → Prop}

/-- Behind the place of what was carried out last: only the world has moved on. -/
theorem Res.later {L L' : Nat → Bool} {val val' : Nat → Value} {wr w1 : World} (hb : S wr w1) : ∀ (l : List Oper) (i : Nat) (Γ : List (Nat × (World → Prop))) (a : Act),
    (∀ k, i ≤ k → L' k = L k ∧ val' k = val k) → Res P md ops S I M sp L val wr Q l i Γ a → Res P md ops S I M sp L' val' w1 Q l i Γ a := by
  intro l
  induction l with
  | nil => intro i Γ a _ h; exact h
  | cons o rest ih =>
    intro i Γ a he h
    obtain ⟨hL, hv⟩ := he i (Nat.le_refl i)
    have he' : ∀ k, i + 1 ≤ k → L' k = L k ∧ val' k = val k := fun k hk => he k (by omega)
    unfold Res at h ⊢
    rw [hL, hv]
    split
    · rename_i hw
      rw [if_pos hw] at h
      rcases h with ⟨v, h1, h2, h3⟩ | ⟨Z, hs, h1, h2, h3⟩ | ⟨hs, h1, h2, h3⟩
      · exact .inl ⟨v, h1, h2, ih _ _ _ he' h3⟩
      · exact .inr (.inl ⟨Z, hs, h1, fun h => hs _ _ _ hb (h2 h), fun u hu hu' => ih _ _ _ he' (h3 u hu hu')⟩)
      · exact .inr (.inr ⟨hs, h1, fun h => hs _ _ _ hb (h2 h), fun u hu hu' => ih _ _ _ he' (h3 u hu hu')⟩)
    · rename_i hw
      rw [if_neg hw] at h
      exact ⟨h.1, ih _ _ _ he' h.2⟩

/-- Some way leads to operation j. -/
theorem Res.reach {L : Nat → Bool} {val : Nat → Value} {wr : World} {a0 : Act} {j : Nat} {oj : Oper} (y : Way S I) (g : Ok md ops n) (hj : j < n) (ho : ops[j]? = some oj) :
    ∀ (l : List Oper) (i : Nat) (Γ : List (Nat × (World → Prop))) (a : Act) (vh : Nat → Value) (mh : Nat) (wh : World), (∀ m, m < l.length → l[m]? = ops[i + m]?) → i + l.length = n → i ≤ j → Res P md ops S I M sp L val wr Q l i Γ a →
      Pt ops n (fun k => decide (k < i)) vh a0 a → (∀ k, k < i → L k = true → vh k = val k) → (∀ p ∈ Γ, Steady S p.2) → (∀ p ∈ Γ, L p.1 = true → p.2 wr) → mh + l.length ≤ M → S wr wh → I mh wh → (∀ p ∈ Γ, p.2 wh) →
      ∃ rest Γj aj vj, Res P md ops S I M sp L val wr Q (oj :: rest) j Γj aj ∧ Pt ops n (fun k => decide (k < j)) vj a0 aj ∧ (∀ k, k < j → L k = true → vj k = val k) ∧ (∀ p ∈ Γj, L p.1 = true → p.2 wr) := by
  intro l
  induction l with
  | nil => intro i Γ a vh mh wh _ hn hij; simp at hn; omega
  | cons o rest ih =>
    intro i Γ a vh mh wh hl hn hij h hpt hv hst hlr hmh hrh hBh hfh
    have hio : ops[i]? = some o := by simpa using (hl 0 (by simp)).symm
    by_cases e : i = j
    · subst e
      obtain rfl : o = oj := Option.some.inj (hio.symm.trans ho)
      exact ⟨rest, Γ, a, vh, h, hpt, hv, hlr⟩
    · have hlt : i < j := by omega
      have hin : i < n := by omega
      have hl' : ∀ m, m < rest.length → rest[m]? = ops[i + 1 + m]? := fun m hm => by
        have := hl (m + 1) (by simp; omega)
        simpa [Nat.add_assoc, Nat.add_comm 1 m] using this
      have hn' : i + 1 + rest.length = n := by simp at hn; omega
      have hm1 : mh + rest.length ≤ M ∧ mh + 1 + rest.length ≤ M ∧ mh < M := by simp at hmh; omega
      have hput : ∀ u, Pt ops n (fun k => decide (k < i + 1)) (upd vh i u) a0 (a.put o.dst u) := fun u => by
        have := hpt.put (u := u) g.one hin (by simp) hio
        have e2 : ins (fun k => decide (k < i)) i = fun k => decide (k < i + 1) := by
          funext k; simp only [ins]; rw [Bool.eq_iff_iff]; simp; omega
        rwa [e2] at this
      have hvu : ∀ u, (L i = true → u = val i) → ∀ k, k < i + 1 → L k = true → upd vh i u k = val k := fun u hu k hk hLk => by
        unfold upd
        by_cases e : k = i
        · subst e; rw [if_pos rfl]; exact hu hLk
        · rw [if_neg e]; exact hv k (by omega) hLk
      unfold Res at h
      split at h
      · rcases h with ⟨v, h1, h2, h3⟩ | ⟨Z, hs, h1, h2, h3⟩ | ⟨hs, h1, h2, h3⟩
        · exact ih _ _ _ _ mh wh hl' hn' (by omega) h3 (hput v) (hvu v fun h => (h2 h).symm) hst hlr hm1.1 hrh hBh hfh
        · cases hLi : L i with
          | true =>
            refine ih _ _ _ _ mh wh hl' hn' (by omega) (h3 (val i) (fun _ => rfl) (fun h => by rw [hLi] at h; cases h)) (hput _) (hvu _ fun _ => rfl) ?_ ?_ hm1.1 hrh hBh ?_
            · exact fun p hp => by rcases List.mem_cons.1 hp with rfl | hp; exact hs _; exact hst p hp
            · exact fun p hp hL => by rcases List.mem_cons.1 hp with rfl | hp; exact h2 hLi; exact hlr p hp hL
            · exact fun p hp => by rcases List.mem_cons.1 hp with rfl | hp; exact hs _ _ _ hrh (h2 hLi); exact hfh p hp
          | false =>
            have hx := h1 mh wh hm1.2.2 hBh fun p hp _ => hfh p hp
            have hgo : ∀ u w', (S wh w' ∧ I (mh + 1) w') ∧ Z u w' → _ := fun u w' hz =>
              ih (i + 1) ((i, Z u) :: Γ) (a.put o.dst u) (upd vh i u) (mh + 1) w' hl' hn' (by omega) (h3 u (fun h => by rw [hLi] at h; cases h) (fun _ => ⟨_, w', hz.1.2, hz.2⟩)) (hput u)
                (hvu u fun h => by rw [hLi] at h; cases h) (fun p hp => by rcases List.mem_cons.1 hp with rfl | hp; exact hs _; exact hst p hp)
                (fun p hp hL => by rcases List.mem_cons.1 hp with rfl | hp; (rw [hLi] at hL; cases hL); exact hlr p hp hL) hm1.2.1 (y.trans _ _ _ hrh hz.1.1) hz.1.2
                (fun p hp => by rcases List.mem_cons.1 hp with rfl | hp; exact hz.2; exact hst p hp _ _ hz.1.1 (hfh p hp))
            generalize (execOp a.eval o).run P wh = r at hx
            cases r with
            | ok x w' => cases x <;> simp only [fnUpon] at hx <;> exact hgo _ _ hx
            | halt x w' => exact hx.elim
        · cases hLi : L i with
          | true =>
            refine ih _ _ _ _ mh wh hl' hn' (by omega) (h3 (val i) (fun _ => rfl) (fun h => by rw [hLi] at h; cases h)) (hput _) (hvu _ fun _ => rfl) ?_ ?_ hm1.1 hrh hBh ?_
            · exact fun p hp => by rcases List.mem_cons.1 hp with rfl | hp; exact hs _; exact hst p hp
            · exact fun p hp hL => by rcases List.mem_cons.1 hp with rfl | hp; exact h2 hLi; exact hlr p hp hL
            · exact fun p hp => by rcases List.mem_cons.1 hp with rfl | hp; exact hs _ _ _ hrh (h2 hLi); exact hfh p hp
          | false =>
            have hx := h1 mh wh hm1.2.2 hBh fun p hp _ => hfh p hp
            have hgo : ∀ u w', (S wh w' ∧ I (mh + 1) w') ∧ sp i u w' → _ := fun u w' hz =>
              ih (i + 1) ((i, sp i u) :: Γ) (a.put o.dst u) (upd vh i u) (mh + 1) w' hl' hn' (by omega) (h3 u (fun h => by rw [hLi] at h; cases h) (fun _ => ⟨_, w', hz.1.2, hz.2⟩)) (hput u)
                (hvu u fun h => by rw [hLi] at h; cases h) (fun p hp => by rcases List.mem_cons.1 hp with rfl | hp; exact hs _; exact hst p hp)
                (fun p hp hL => by rcases List.mem_cons.1 hp with rfl | hp; (rw [hLi] at hL; cases hL); exact hlr p hp hL) hm1.2.1 (y.trans _ _ _ hrh hz.1.1) hz.1.2
                (fun p hp => by rcases List.mem_cons.1 hp with rfl | hp; exact hz.2; exact hst p hp _ _ hz.1.1 (hfh p hp))
            generalize (execOp a.eval o).run P wh = r at hx
            cases r with
            | ok x w' =>
              cases x <;> simp only [callUpon] at hx
              obtain ⟨_, hc⟩ := hx
              obtain ⟨e', w'', _, ⟨u, _, hz⟩, _⟩ := hc []
              exact hgo u w'' hz
            | halt x w' => exact hx.elim
      · exact ih _ _ _ _ mh wh hl' hn' (by omega) h.2 (hput undef) (hvu undef fun hL => (h.1 hL).symm) hst hlr hm1.1 hrh hBh hfh

theorem Res.mark {L : Nat → Bool} {val : Nat → Value} {wr w1 : World} {a0 ar : Act} {j mr m1 : Nat} {oj : Oper} {u : Value} (g : Ok md ops n) (hj : j < n) (ho : ops[j]? = some oj) (hLj : L j = false)
    (hp : ∀ k ∈ predsOf md ops j, L k = true) (hdep : ∀ k, depB md ops j k = true → L k = true) (hr : Pt ops n L val a0 ar) (hmr : mr < M) (hBr : I mr wr) (hb : S wr w1) (hB1 : I m1 w1) (hout : Outc P ops sp j oj ar wr u w1) :
    ∀ (l : List Oper) (i : Nat) (Γ : List (Nat × (World → Prop))) (a : Act) (vh : Nat → Value), (∀ m, m < l.length → l[m]? = ops[i + m]?) → i + l.length = n → i ≤ j → Res P md ops S I M sp L val wr Q l i Γ a →
      Pt ops n (fun k => decide (k < i)) vh a0 a → (∀ k, k < i → L k = true → vh k = val k) → (∀ p ∈ Γ, L p.1 = true → p.2 wr) → Res P md ops S I M sp (ins L j) (upd val j u) w1 Q l i Γ a := by
  intro l
  induction l with
  | nil => intro i Γ a vh _ hn hij; simp at hn; omega
  | cons o rest ih =>
    intro i Γ a vh hl hn hij h hpt hv hlr
    have hio : ops[i]? = some o := by simpa using (hl 0 (by simp)).symm
    by_cases e : i = j
    · subst e
      obtain rfl : o = oj := Option.some.inj (hio.symm.trans ho)
      obtain ⟨hex, hwt⟩ := g.same hr hpt hj ho hp hv
      have hins : ins L i i = true := by simp [ins]
      have hupd : upd val i u i = u := by simp [upd]
      have hafter : ∀ k, i + 1 ≤ k → ins L i k = L k ∧ upd val i u k = val k := fun k hk => by
        have : k ≠ i := by omega
        simp [ins, upd, this]
      have hF : FactsAt md ops i Γ wr := fun p hp' hd => hlr p hp' (hdep _ hd)
      unfold Res at h ⊢
      rw [hins, hupd]
      unfold Outc at hout
      rw [← hex, ← hwt] at hout
      split
      · rename_i hw
        rw [if_pos hw] at h hout
        rcases h with ⟨v, h1, h2, h3⟩ | ⟨Z, hs, h1, h2, h3⟩ | ⟨hs, h1, h2, h3⟩
        · have hx := h1 mr wr hmr hBr
          have huv : u = v := by
            generalize (execOp a.eval o).run P wr = r at hx hout
            cases r with
            | ok x w' => cases x <;> simp only [fnUpon] at hx <;> simp only at hout <;> rw [← hout.1, hx.1]
            | halt x w' => exact hx.elim
          exact .inl ⟨v, h1, fun _ => huv, Res.later hb _ _ _ _ hafter h3⟩
        · have hx := h1 mr wr hmr hBr hF
          have hz : Z u w1 := by
            generalize (execOp a.eval o).run P wr = r at hx hout
            cases r with
            | ok x w' => cases x <;> simp only [fnUpon] at hx <;> simp only at hout <;> (obtain ⟨rfl, rfl⟩ := hout; exact hx.2)
            | halt x w' => exact hx.elim
          refine .inr (.inl ⟨Z, hs, h1, fun _ => hz, fun u' hu' _ => ?_⟩)
          obtain rfl := hu' rfl
          exact Res.later hb _ _ _ _ hafter (h3 u' (fun h => by rw [hLj] at h; cases h) (fun _ => ⟨m1, w1, hB1, hz⟩))
        · have hx := h1 mr wr hmr hBr hF
          have hz : sp i u w1 := by
            generalize (execOp a.eval o).run P wr = r at hx hout
            cases r with
            | ok x w' => cases x <;> simp only [callUpon] at hx; exact hout
            | halt x w' => exact hx.elim
          refine .inr (.inr ⟨hs, h1, fun _ => hz, fun u' hu' _ => ?_⟩)
          obtain rfl := hu' rfl
          exact Res.later hb _ _ _ _ hafter (h3 u' (fun h => by rw [hLj] at h; cases h) (fun _ => ⟨m1, w1, hB1, hz⟩))
      · rename_i hw
        rw [if_neg hw] at h hout
        exact ⟨fun _ => hout.1.symm, Res.later hb _ _ _ _ hafter h.2⟩
    · have hlt : i < j := by omega
      have hin : i < n := by omega
      have hl' : ∀ m, m < rest.length → rest[m]? = ops[i + 1 + m]? := fun m hm => by
        have := hl (m + 1) (by simp; omega)
        simpa [Nat.add_assoc, Nat.add_comm 1 m] using this
      have hn' : i + 1 + rest.length = n := by simp at hn; omega
      have hput : ∀ u, Pt ops n (fun k => decide (k < i + 1)) (upd vh i u) a0 (a.put o.dst u) := fun u => by
        have := hpt.put (u := u) g.one hin (by simp) hio
        have e2 : ins (fun k => decide (k < i)) i = fun k => decide (k < i + 1) := by
          funext k; simp only [ins]; rw [Bool.eq_iff_iff]; simp; omega
        rwa [e2] at this
      have hvu : ∀ u, (L i = true → u = val i) → ∀ k, k < i + 1 → L k = true → upd vh i u k = val k := fun u hu k hk hLk => by
        unfold upd
        by_cases e : k = i
        · subst e; rw [if_pos rfl]; exact hu hLk
        · rw [if_neg e]; exact hv k (by omega) hLk
      have hins : ins L j i = L i := by simp [ins, e]
      have hupd : upd val j u i = val i := by simp [upd, e]
      unfold Res at h ⊢
      rw [hins, hupd]
      split
      · rename_i hw
        rw [if_pos hw] at h
        rcases h with ⟨v, h1, h2, h3⟩ | ⟨Z, hs, h1, h2, h3⟩ | ⟨hs, h1, h2, h3⟩
        · exact .inl ⟨v, h1, h2, ih _ _ _ _ hl' hn' (by omega) h3 (hput v) (hvu v fun h => (h2 h).symm) hlr⟩
        · exact .inr (.inl ⟨Z, hs, h1, fun h => hs _ _ _ hb (h2 h), fun u' hu hu' => ih _ _ _ _ hl' hn' (by omega) (h3 u' hu hu') (hput u') (hvu u' hu) fun p hp hL => by
            rcases List.mem_cons.1 hp with rfl | hp
            · rw [hu hL]; exact h2 hL
            · exact hlr p hp hL⟩)
        · exact .inr (.inr ⟨hs, h1, fun h => hs _ _ _ hb (h2 h), fun u' hu hu' => ih _ _ _ _ hl' hn' (by omega) (h3 u' hu hu') (hput u') (hvu u' hu) fun p hp hL => by
            rcases List.mem_cons.1 hp with rfl | hp
            · rw [hu hL]; exact h2 hL
            · exact hlr p hp hL⟩)
      · rename_i hw
        rw [if_neg hw] at h
        exact ⟨h.1, ih _ _ _ _ hl' hn' (by omega) h.2 (hput undef) (hvu undef fun hL => (h.1 hL).symm) hlr⟩

/-- All have come up. -/
theorem Res.over {L : Nat → Bool} {val : Nat → Value} {wr : World} {a0 : Act} (g : Ok md ops n) (hL : ∀ k, k < n → L k = true) :
    ∀ (l : List Oper) (i : Nat) (Γ : List (Nat × (World → Prop))) (a : Act) (vh : Nat → Value), (∀ m, m < l.length → l[m]? = ops[i + m]?) → i + l.length = n → Res P md ops S I M sp L val wr Q l i Γ a →
      Pt ops n (fun k => decide (k < i)) vh a0 a → (∀ k, k < i → vh k = val k) → (∀ p ∈ Γ, p.2 wr) → ∃ Γ' a' vh', Q Γ' a' ∧ Pt ops n (fun k => decide (k < n)) vh' a0 a' ∧ (∀ k, k < n → vh' k = val k) ∧ ∀ p ∈ Γ', p.2 wr := by
  intro l
  induction l with
  | nil =>
    intro i Γ a vh _ hn h hpt hv hf
    obtain rfl : i = n := by simpa using hn
    exact ⟨Γ, a, vh, h, hpt, hv, hf⟩
  | cons o rest ih =>
    intro i Γ a vh hl hn h hpt hv hf
    have hio : ops[i]? = some o := by simpa using (hl 0 (by simp)).symm
    have hin : i < n := by simp at hn; omega
    have hLi := hL i hin
    have hl' : ∀ m, m < rest.length → rest[m]? = ops[i + 1 + m]? := fun m hm => by
      have := hl (m + 1) (by simp; omega)
      simpa [Nat.add_assoc, Nat.add_comm 1 m] using this
    have hn' : i + 1 + rest.length = n := by simp at hn; omega
    have hput : ∀ u, Pt ops n (fun k => decide (k < i + 1)) (upd vh i u) a0 (a.put o.dst u) := fun u => by
      have := hpt.put (u := u) g.one hin (by simp) hio
      have e2 : ins (fun k => decide (k < i)) i = fun k => decide (k < i + 1) := by
        funext k; simp only [ins]; rw [Bool.eq_iff_iff]; simp; omega
      rwa [e2] at this
    have hvu : ∀ u, u = val i → ∀ k, k < i + 1 → upd vh i u k = val k := fun u hu k hk => by
      unfold upd
      by_cases e : k = i
      · subst e; rw [if_pos rfl]; exact hu
      · rw [if_neg e]; exact hv k (by omega)
    unfold Res at h
    split at h
    · rcases h with ⟨v, h1, h2, h3⟩ | ⟨Z, hs, h1, h2, h3⟩ | ⟨hs, h1, h2, h3⟩
      · exact ih _ _ _ _ hl' hn' h3 (hput v) (hvu v (h2 hLi).symm) hf
      · exact ih _ _ _ _ hl' hn' (h3 (val i) (fun _ => rfl) (fun h => by rw [hLi] at h; cases h)) (hput _) (hvu _ rfl) fun p hp => by
          rcases List.mem_cons.1 hp with rfl | hp
          exact h2 hLi; exact hf p hp
      · exact ih _ _ _ _ hl' hn' (h3 (val i) (fun _ => rfl) (fun h => by rw [hLi] at h; cases h)) (hput _) (hvu _ rfl) fun p hp => by
          rcases List.mem_cons.1 hp with rfl | hp
          exact h2 hLi; exact hf p hp
    · exact ih _ _ _ _ hl' hn' h.2 (hput undef) (hvu undef (h.1 hLi).symm) hf

/-- One operation comes up. -/
theorem Res.step {Qx : Exit → Act → World → Prop} {L : Nat → Bool} {val : Nat → Value} {wr : World} {a0 ar : Act} {j mr : Nat} {oj : Oper} {l : List Oper} (y : Way S I) (g : Ok md ops n) (hj : j < n) (ho : ops[j]? = some oj)
    (hLj : L j = false) (hp : ∀ k ∈ predsOf md ops j, L k = true) (hdep : ∀ k, depB md ops j k = true → L k = true) (hr : Pt ops n L val a0 ar) (hmr : mr + n ≤ M) (hBr : I mr wr) (hl : ∀ m, m < l.length → l[m]? = ops[m]?) (hn : l.length = n)
    (h : Res P md ops S I M sp L val wr Q l 0 [] a0) :
    wpOp P ops Qx j (fun a' w' => ∃ u, a' = ar.put oj.dst u ∧ I (mr + 1) w' ∧ Res P md ops S I M sp (ins L j) (upd val j u) w' Q l 0 [] a0) ar wr := by
  have pt0 : ∀ v, Pt ops n (fun k => decide (k < 0)) v a0 a0 := fun v => ⟨rfl, fun k t _ hS => by simp at hS, fun _ _ => rfl⟩
  have hl0 : ∀ m, m < l.length → l[m]? = ops[0 + m]? := fun m hm => by rw [Nat.zero_add]; exact hl m hm
  have hmM : mr < M := by omega
  have after : ∀ u w1, S wr w1 → I (mr + 1) w1 → Outc P ops sp j oj ar wr u w1 → (∃ u', ar.put oj.dst u = ar.put oj.dst u' ∧ I (mr + 1) w1 ∧ Res P md ops S I M sp (ins L j) (upd val j u') w1 Q l 0 [] a0) := fun u w1 hb hB1 hout =>
    ⟨u, rfl, hB1, Res.mark g hj ho hLj hp hdep hr hmM hBr hb hB1 hout l 0 [] a0 val hl0 (by omega) (Nat.zero_le _) h (pt0 _) (fun k hk => by omega) (fun p hp => by cases hp)⟩
  obtain ⟨rest, Γ, a, vh, hres, hpt, hv, hlr⟩ := Res.reach (j := j) y g hj ho l 0 [] a0 val mr wr hl0 (by omega) (Nat.zero_le _) h (pt0 _) (fun k hk => by omega) (fun p hp => by cases hp) (fun p hp => by cases hp) (by omega) (y.refl _) hBr (fun p hp => by cases hp)
  obtain ⟨hex, hwt⟩ := g.same hr hpt hj ho hp hv
  have hF : FactsAt md ops j Γ wr := fun p hp' hd => hlr p hp' (hdep _ hd)
  unfold wpOp
  simp only [ho]
  unfold Res at hres
  rw [hex, hwt] at hres
  split
  · rename_i hw
    rw [if_pos hw] at hres
    refine .inl ?_
    unfold Oper.wp
    have hout : ∀ u w1, (match (execOp ar.eval oj).run P wr with | .ok (.value v) w' => v = u ∧ w' = w1 | .ok .skip w' => undef = u ∧ w' = w1 | .ok (.enter _ _) _ => sp j u w1 | _ => False) → Outc P ops sp j oj ar wr u w1 := fun u w1 h => by
      unfold Outc; rw [if_pos hw]; exact h
    rcases hres with ⟨v, h1, h2, h3⟩ | ⟨Z, hs, h1, h2, h3⟩ | ⟨hs, h1, h2, h3⟩
    · have hx := h1 mr wr hmM hBr
      cases hrun : (execOp ar.eval oj).run P wr with
      | ok x w' =>
        rw [hrun] at hx hout
        cases x <;> simp only [fnUpon] at hx <;> simp only [Oper.upon]
        case value v' => exact after _ _ (by rw [hx.2]; exact y.refl _) (by rw [hx.2]; exact y.more _ _ hBr) (hout _ _ ⟨rfl, rfl⟩)
        case skip => exact after _ _ (by rw [hx.2]; exact y.refl _) (by rw [hx.2]; exact y.more _ _ hBr) (hout _ _ ⟨rfl, rfl⟩)
      | halt x w' => rw [hrun] at hx; exact hx.elim
    · have hx := h1 mr wr hmM hBr hF
      cases hrun : (execOp ar.eval oj).run P wr with
      | ok x w' =>
        rw [hrun] at hx hout
        cases x <;> simp only [fnUpon] at hx <;> simp only [Oper.upon]
        case value v' => exact after _ _ hx.1.1 hx.1.2 (hout _ _ ⟨rfl, rfl⟩)
        case skip => exact after _ _ hx.1.1 hx.1.2 (hout _ _ ⟨rfl, rfl⟩)
      | halt x w' => rw [hrun] at hx; exact hx.elim
    · have hx := h1 mr wr hmM hBr hF
      cases hrun : (execOp ar.eval oj).run P wr with
      | ok x w' =>
        rw [hrun] at hx hout
        cases x <;> simp only [callUpon] at hx
        simp only [Oper.upon]
        obtain ⟨rfl, hc⟩ := hx
        exact hc.mono fun e w'' ⟨u, he, hb, hz⟩ => by subst he; exact after u w'' hb.1 hb.2 (hout _ _ hz)
      | halt x w' => rw [hrun] at hx; exact hx.elim
  · rename_i hw
    rw [if_neg hw] at hres
    exact after _ _ (y.refl _) (y.more _ _ hBr) (by unfold Outc; rw [if_neg hw]; exact ⟨rfl, rfl⟩)

/-- Operations that the walk need not wait for (Z) have been carried out; the others behind the first n have not. -/
structure HInv (md : Region.Mode) (ops : Array Oper) (n : Nat) (Z : Nat → Bool) (listed : Array Bool) : Prop where
  size : listed.size = ops.size
  closed : ∀ j oj, ops[j]? = some oj → listed.getD j false = true → ∀ e ∈ oj.after, Region.binds md e = true → listed.getD e.on false = true
  tail : ∀ t, n ≤ t → t < ops.size → Z t = false → listed.getD t true = false
  zin : ∀ t, n ≤ t → t < ops.size → Z t = true → listed.getD t false = true
theorem HInv.set {Z : Nat → Bool} {i : Nat} {listed : Array Bool} (inv : HInv md ops n Z listed) (hi : i ∈ Region.ready md ops listed) (hin : i < n) : HInv md ops n Z (listed.setIfInBounds i true) := by
  obtain ⟨_, oi, hoi, hall⟩ := mem_ready.1 hi
  refine ⟨by simp [inv.size], fun j oj hj hl e he hb => ?_, fun t ht ht' hz => by rw [getD_set_ne true (by omega)]; exact inv.tail t ht ht' hz, fun t ht ht' hz => getD_set_true (inv.zin t ht ht' hz)⟩
  by_cases hij : i = j
  · subst hij
    have : oj = oi := Option.some.inj (hj.symm.trans hoi)
    subst this
    exact getD_set_true (hall e he hb)
  · rw [getD_set_ne false hij] at hl
    exact getD_set_true (inv.closed j oj hj hl e he hb)
def canonZ (ops : Array Oper) (n : Nat) (Z : Nat → Bool) : Array Bool := ((List.range ops.size).map fun k => decide (k < n) || Z k).toArray
/-- The operations that operation j waits for, at once or through others. -/
def needs (md : Region.Mode) (ops : Array Oper) (j : Nat) : List Nat := upset md ops ops.size (predsOf md ops j)

theorem grow_any {Qx : Exit → Act → World → Prop} {a0 : Act} {l : List Oper} {Z : Nat → Bool} {m1 : Nat} (y : Way S I) (g : Ok md ops n) (hM : 2 * n ≤ M) (hwait : ∀ t, n ≤ t → t < ops.size → Z t = false → ∀ i, i < n → i ∈ needs md ops t) (hl : ∀ m, m < l.length → l[m]? = ops[m]?) (hn : l.length = n)
    (hQ : ∀ Γ a w, Q Γ a → I n w → (∀ p ∈ Γ, p.2 w) → wpAny P md ops Qx m1 (canonZ ops n Z) a w) :
    ∀ (f : Nat) (listed : Array Bool) (ar : Act) (mr : Nat) (wr : World) (val : Nat → Value), (List.range n).countP (fun k => !listed.getD k false) = f → HInv md ops n Z listed → Pt ops n (fun k => listed.getD k false) val a0 ar → mr + f = n → I mr wr →
      Res P md ops S I M sp (fun k => listed.getD k false) val wr Q l 0 [] a0 → wpAny P md ops Qx (f + m1) listed ar wr := by
  intro f
  induction f with
  | zero =>
    intro listed ar mr wr val hc inv hpt hmr hB h
    have hall : ∀ k, k < n → listed.getD k false = true := fun k hk => by
      have := List.countP_eq_zero.1 hc k (List.mem_range.2 hk)
      simpa using this
    obtain ⟨Γ, a, vh, hq, hpa, hv, hf⟩ := Res.over g hall l 0 [] a0 val (fun m hm => by rw [Nat.zero_add]; exact hl m hm) (by omega) h ⟨rfl, fun k t _ hS => by simp at hS, fun _ _ => rfl⟩ (fun k hk => by omega) (fun p hp => by cases hp)
    have hcan : listed = canonZ ops n Z := by
      apply Array.ext_getElem?
      intro k
      unfold canonZ
      by_cases hks : k < ops.size
      · have hks' : k < listed.size := by rw [inv.size]; exact hks
        by_cases hkn : k < n
        · have := hall k hkn
          simp [hks, hks', hkn] at this ⊢
          exact this
        · cases hz : Z k
          · have := inv.tail k (by omega) hks hz
            simp [hks, hks', hkn, hz] at this ⊢
            exact this
          · have := inv.zin k (by omega) hks hz
            simp [hks, hks', hkn, hz] at this ⊢
            exact this
      · have hks' : ¬ k < listed.size := by rw [inv.size]; exact hks
        simp [hks, hks']
    have hfr : ar = a := by
      have h1 : ar.defers = a.defers := hpt.defers.trans hpa.defers.symm
      have h2 : ar.tmps = a.tmps := Array.ext_getElem? fun t => hpt.agree hpa fun k hk _ => ⟨by simp [hk, hall k hk], fun _ => (hv k hk).symm⟩
      cases ar; cases a; simp_all
    obtain rfl : mr = n := by omega
    rw [Nat.zero_add, hcan, hfr]
    exact hQ Γ a wr hq hB hf
  | succ f ih =>
    intro listed ar mr wr val hc inv hpt hmr hB h
    have hex : ∃ k, k < n ∧ listed.getD k false = false := by
      have : 0 < (List.range n).countP (fun k => !listed.getD k false) := by omega
      obtain ⟨k, hk, hp⟩ := List.countP_pos_iff.1 this
      exact ⟨k, List.mem_range.1 hk, by simpa using hp⟩
    obtain ⟨k0, hk0, hun0⟩ := hex
    obtain ⟨m, hm, hm1, hm2⟩ := least_of (p := fun k => !listed.getD k false) k0 (by simpa using hun0)
    have hmn : m < n := by omega
    have hms : m < listed.size := by rw [inv.size]; have := g.size; omega
    have hun : listed.getD m true = false := getD_in hms (by simpa using hm1)
    have hready : m ∈ Region.ready md ops listed := by
      have hmo : m < ops.size := by have := g.size; omega
      refine mem_ready.2 ⟨hun, ops[m], by simp [hmo], fun e he hb => ?_⟩
      have : e.on < m := g.back m hmn _ (by
        unfold predsOf
        rw [Array.getElem?_eq_getElem hmo]
        exact List.mem_map.2 ⟨e, List.mem_filter.2 ⟨by simpa using he, hb⟩, rfl⟩)
      have := hm2 _ this
      simpa using this
    have e1 : f + 1 + m1 = (f + m1) + 1 := by omega
    rw [e1]
    refine ⟨fun h0 => absurd (h0 ▸ hready) (by simp), fun j hj => ?_⟩
    obtain ⟨hju, oj, hoj, hall⟩ := mem_ready.1 hj
    have hjs : j < ops.size := (Array.getElem?_eq_some_iff.1 hoj).1
    have hp : ∀ k ∈ predsOf md ops j, listed.getD k false = true := fun k hk => by
      unfold predsOf at hk
      rw [hoj] at hk
      obtain ⟨e, he, rfl⟩ := List.mem_map.1 hk
      obtain ⟨he1, he2⟩ := List.mem_filter.1 he
      exact hall e (by simpa using he1) he2
    have hcl : ∀ i, listed.getD i false = true → ∀ k ∈ predsOf md ops i, listed.getD k false = true := fun i hi k hk => by
      unfold predsOf at hk
      cases hoi : ops[i]? with
      | none => rw [hoi] at hk; cases hk
      | some oi =>
        rw [hoi] at hk
        obtain ⟨e, he, rfl⟩ := List.mem_map.1 hk
        obtain ⟨he1, he2⟩ := List.mem_filter.1 he
        exact inv.closed i oi hoi hi e (by simpa using he1) he2
    have hjn : j < n := by
      rcases Nat.lt_or_ge j n with h | h
      · exact h
      · cases hz : Z j
        · have := upset_in hcl _ _ hp m (hwait j h hjs hz m hmn)
          rw [getD_both hun] at this
          cases this
        · have h1 := inv.zin j h hjs hz
          have hjl : j < listed.size := by rw [inv.size]; exact hjs
          simp [hjl] at h1 hju
          rw [h1] at hju
          cases hju
    have hdep : ∀ k, depB md ops j k = true → listed.getD k false = true := fun k hk => by
      unfold depB at hk
      exact upset_in hcl _ _ hp k (by simpa using hk)
    have hset : (fun k => (listed.setIfInBounds j true).getD k false) = ins (fun k => listed.getD k false) j := by
      funext k
      unfold ins
      by_cases e : k = j
      · subst e
        have : k < listed.size := by rw [inv.size]; exact hjs
        simp [this]
      · rw [getD_set_ne false (Ne.symm e)]
        simp [e]
    have hjf : listed.getD j false = false := getD_both hju
    refine wpOp_mono (fun a' w' ⟨u, he, hB', hres⟩ => ?_) (Res.step (Qx := Qx) y g hjn hoj hjf hp hdep hpt (by omega) hB hl hn h)
    subst he
    have hpt' := hpt.put (u := u) g.one hjn hjf hoj
    rw [← hset] at hres hpt'
    refine ih _ _ (mr + 1) _ _ ?_ (inv.set hj hjn) hpt' (by omega) hB' hres
    have := count_off n (fun k => !listed.getD k false) j hjn (by simpa using hjf)
    rw [hc] at this
    have e3 : (List.range n).countP (fun k => !(listed.setIfInBounds j true).getD k false) = (List.range n).countP (fun k => (!listed.getD k false) && k != j) := List.countP_congr fun k _ => by
      have := congrFun hset k
      simp only [ins] at this
      rw [this]
      by_cases e : k = j <;> simp [e]
    omega

theorem Res.fresh {val val' : Nat → Value} {wr w1 : World} : ∀ (l : List Oper) (i : Nat) (Γ : List (Nat × (World → Prop))) (a : Act), Res P md ops S I M sp (fun _ => false) val wr Q l i Γ a → Res P md ops S I M sp (fun _ => false) val' w1 Q l i Γ a := by
  intro l
  induction l with
  | nil => intro i Γ a h; exact h
  | cons o rest ih =>
    intro i Γ a h
    unfold Res at h ⊢
    split
    · rename_i hw
      rw [if_pos hw] at h
      rcases h with ⟨v, h1, h2, h3⟩ | ⟨Z, hs, h1, h2, h3⟩ | ⟨hs, h1, h2, h3⟩
      · exact .inl ⟨v, h1, (fun h => by cases h), ih _ _ _ h3⟩
      · exact .inr (.inl ⟨Z, hs, h1, (fun h => by cases h), fun u _ hu' => ih _ _ _ (h3 u (fun h => by cases h) hu')⟩)
      · exact .inr (.inr ⟨hs, h1, (fun h => by cases h), fun u _ hu' => ih _ _ _ (h3 u (fun h => by cases h) hu')⟩)
    · rename_i hw
      rw [if_neg hw] at h
      exact ⟨(fun h => by cases h), ih _ _ _ h.2⟩
end

/-- The walk that a prover makes: nothing has been carried out yet. -/
abbrev wpGrow (P : Program) (ops : Array Oper) (S : World → World → Prop) (I : Nat → World → Prop) (M : Nat) (w0 : World) (sp : Nat → Value → World → Prop) (Q : List (Nat × (World → Prop)) → Act → Prop) (l : List Oper) (i : Nat) (Γ : List (Nat × (World → Prop))) (a : Act) : Prop :=
  Res P .any ops S I M sp (fun _ => false) (fun _ => undef) w0 Q l i Γ a

def seqT (md : Region.Mode) (ops : Array Oper) : List Nat → Array Bool → Bool
  | [], listed => (Region.ready md ops listed).isEmpty
  | k :: τ, listed => decide (Region.ready md ops listed = [k]) && seqT md ops τ (listed.setIfInBounds k true)
theorem wpAny_of_seqT {P : Program} {md : Region.Mode} {ops : Array Oper} {Q' : Exit → Act → World → Prop} : ∀ (τ : List Nat) (listed : Array Bool) (a : Act) (w : World), (∀ k ∈ τ, k < ops.size) →
    seqT md ops τ listed = true → wpList P ops Q' (τ.filterMap (ops[·]?)) a w → wpAny P md ops Q' τ.length listed a w
  | [], _, _, _, _, hB, h => ⟨by simpa [seqT] using hB, h⟩
  | k :: τ, listed, a, w, hl, hB, h => by
    have hk : k < ops.size := hl k List.mem_cons_self
    have h0 : ops[k]? = some ops[k] := Array.getElem?_eq_getElem hk
    simp only [seqT, Bool.and_eq_true, decide_eq_true_eq] at hB
    rw [List.filterMap_cons, h0] at h
    refine ⟨fun h1 => (by rw [hB.1] at h1; cases h1), fun i hi => ?_⟩
    rw [hB.1] at hi
    have hik : i = k := by simpa using hi
    subst hik
    have hw : wpOp P ops Q' i (wpList P ops Q' (τ.filterMap (ops[·]?))) a w := by unfold wpOp; simp only [h0]; exact h
    exact wpOp_mono (fun a' w' h' => wpAny_of_seqT τ _ a' w' (fun k hk => hl k (List.mem_cons_of_mem _ hk)) hB.2 h') hw

def okB (md : Region.Mode) (ops : Array Oper) (n : Nat) : Bool :=
  Region.noSelect ops && decide (n ≤ ops.size) &&
  (List.range n).all fun j => (predsOf md ops j).all (fun k => decide (k < j)) && (List.range n).all fun k =>
    match dstOf ops k with
    | none => true
    | some t => (k == j || dstOf ops j != some t) && (!(looksOf ops j).contains t || (predsOf md ops j).contains k)
theorem okB_ok {md : Region.Mode} {ops : Array Oper} {n : Nat} (h : okB md ops n = true) : Ok md ops n := by
  unfold okB at h
  simp only [Bool.and_eq_true, decide_eq_true_eq] at h
  obtain ⟨⟨h1, h2⟩, h4⟩ := h
  have key : ∀ j, j < n → _ := fun j hj => List.all_eq_true.1 h4 j (List.mem_range.2 hj)
  simp only [Bool.and_eq_true] at key
  refine ⟨h1, h2, fun j hj k hk => by simpa using List.all_eq_true.1 (key j hj).1 k hk, fun i k t hi hk hdi hdk => ?_, fun j k t hj hk hd ht => ?_⟩
  · have := List.all_eq_true.1 (key i hi).2 k (List.mem_range.2 hk)
    simp only [hdk, hdi, Bool.and_eq_true, Bool.or_eq_true, beq_iff_eq, bne_self_eq_false, Bool.false_eq_true, or_false] at this
    exact this.1.symm
  · have := List.all_eq_true.1 (key j hj).2 k (List.mem_range.2 hk)
    simp only [hd, Bool.and_eq_true, Bool.or_eq_true] at this
    rcases this.2 with h | h
    · simp [ht] at h
    · simpa using h
def waitB (md : Region.Mode) (ops : Array Oper) (n : Nat) (Z : Nat → Bool) : Bool :=
  (List.range ops.size).all fun t => decide (t < n) || Z t || (List.range n).all fun i => (needs md ops t).contains i
theorem waitB_ok {md : Region.Mode} {ops : Array Oper} {n : Nat} {Z : Nat → Bool} (h : waitB md ops n Z = true) : ∀ t, n ≤ t → t < ops.size → Z t = false → ∀ i, i < n → i ∈ needs md ops t := fun t h1 h2 hz i hi => by
  have := List.all_eq_true.1 h t (List.mem_range.2 h2)
  have h3 : ¬ t < n := by omega
  simp only [hz, h3, decide_false, Bool.false_or] at this
  simpa using List.all_eq_true.1 this i (List.mem_range.2 hi)
/-- No operation is taken ahead; those behind the first n come in the order τ. -/
def growTB (md : Region.Mode) (ops : Array Oper) (n : Nat) (τ : List Nat) : Bool :=
  okB md ops n && waitB md ops n (fun _ => false) && seqT md ops τ (canonZ ops n fun _ => false) && decide (n + τ.length = ops.size) && τ.all fun k => decide (k < ops.size)
theorem wp_region {P : Program} {id : Nat} {Qx : Exit → Act → World → Prop} {a : Act} {w : World} {l : List Oper} (n : Nat) (τ : List Nat) (M : Nat) (S : World → World → Prop) (I : Nat → World → Prop) (sp : Nat → Value → World → Prop) (hm : P.follows .mixedOrders = true) (hg : growTB .any l.toArray n τ = true)
    (y : Way S I) (hM : 2 * n ≤ M) (hC : I 0 w.drew)
    (h : wpGrow P l.toArray S I M w sp (fun Γ a' => ∀ w', I n w' → (∀ p ∈ Γ, p.2 w') → wpList P l.toArray Qx (τ.filterMap (l[·]?)) a' w') (l.take n) 0 [] a) : (Code.region id l.toArray true).wp P Qx a w := by
  unfold growTB at hg
  simp only [Bool.and_eq_true, decide_eq_true_eq] at hg
  obtain ⟨⟨⟨⟨g1, g2⟩, g3⟩, g4⟩, g5⟩ := hg
  have g := okB_ok g1
  have hsz : n ≤ l.length := by simpa using g.size
  have htl : (l.take n).length = n := by simp; omega
  have hrep : (fun k => (Array.replicate l.toArray.size false).getD k false) = fun _ => false := funext fun k => getD_replicate_false _ _
  have key0 : ∀ L a w, wpAny P .any l.toArray Qx (n + τ.length) L a w → wpAny P .any l.toArray Qx l.toArray.size L a w := fun _ _ _ h => by rwa [← g4]
  refine wp_region_any hm (key0 _ _ _ ?_)
  refine grow_any (Qx := Qx) (P := P) (sp := sp) (S := S) (I := I) (M := M) (a0 := a) (l := l.take n) (Z := fun _ => false) (m1 := τ.length) (Q := fun Γ a' => ∀ w', I n w' → (∀ p ∈ Γ, p.2 w') → wpList P l.toArray Qx (τ.filterMap (l[·]?)) a' w') y g hM (waitB_ok g2) (fun m hm' => by rw [htl] at hm'; simp [hm']) htl (fun Γ a' w' hq hb hf =>
    wpAny_of_seqT τ _ a' w' (fun k hk => of_decide_eq_true (List.all_eq_true.1 g5 k hk)) g3 (by simpa using hq w' hb hf)) n _ a 0 { w with drawn := w.drawn + 1 } (fun _ => undef) ?_ ?_ ?_ (by omega) (show I 0 w.drew from hC) ?_
  · rw [List.countP_eq_length.2 (fun k _ => by rw [getD_replicate_false]; rfl)]; simp
  · exact ⟨by simp, fun j oj _ hl => (by rw [getD_replicate_false] at hl; cases hl), fun t _ ht _ => getD_in (by simpa using ht) (getD_replicate_false _ _), fun t _ _ hz => by cases hz⟩
  · rw [hrep]; exact ⟨rfl, fun k t _ hS => by simp at hS, fun _ _ => rfl⟩
  · rw [hrep]
    exact Res.fresh _ _ _ _ h

/-- Every world of a kind, as a family (what is not so is replaced by w1). -/
noncomputable def FamI (J : World → Prop) (w1 x : World) : World := open Classical in if J x then x else w1
theorem FamI.is {J : World → Prop} {w1 : World} (h : J w1) (x : World) : J (FamI J w1 x) := by
  unfold FamI
  split
  · assumption
  · exact h
theorem FamI.of {J : World → Prop} {w w1 : World} (h : J w) : ∃ x, w = FamI J w1 x := ⟨w, by unfold FamI; rw [if_pos h]⟩

/-- Some m below M. -/
def Upto (I : Nat → World → Prop) (M : Nat) (w : World) : Prop := ∃ m, m < M ∧ I m w

section
variable {P : Program} {ops : Array Oper} {M : Nat} {S : World → World → Prop} {I : Nat → World → Prop} {sp : Nat → Value → World → Prop} {w0 w1 : World}
variable {Q : List (Nat × (World → Prop)) → Act → Prop} {o : Oper} {rest : List Oper} {i : Nat} {Γ : List (Nat × (World → Prop))} {a : Act}
theorem grow_nil (h : Q Γ a) : wpGrow P ops S I M w0 sp Q [] i Γ a := h
theorem grow_skip (hw : Region.wanted o (yielded ops a.tmps) = false) (h : wpGrow P ops S I M w0 sp Q rest (i + 1) Γ (a.put o.dst undef)) : wpGrow P ops S I M w0 sp Q (o :: rest) i Γ a := by
  unfold wpGrow Res
  rw [if_neg (by simp [hw])]
  exact ⟨(fun h => by cases h), h⟩

theorem grow_quiet (w1 : World) (hw : Region.wanted o (yielded ops a.tmps) = true) (hf : fnOp o = true)
    (h : ∀ K : Act → Prop, (∀ a, wpGrow P ops S I M w0 sp Q rest (i + 1) Γ a → K a) → o.quiet P a (fun w => ∃ x, w = FamI (Upto I M) w1 x) K) : wpGrow P ops S I M w0 sp Q (o :: rest) i Γ a := by
  obtain ⟨v, h1, h2⟩ := h _ fun _ h => h
  unfold wpGrow Res
  rw [if_pos hw]
  refine .inl ⟨v, fun m w hm hb => ?_, (fun h => by cases h), h2⟩
  have hq := h1 w (FamI.of ⟨m, hm, hb⟩)
  unfold Oper.quietAt at hq
  cases hr : (execOp a.eval o).run P w with
  | ok x w' =>
    rw [hr] at hq
    cases x <;> simp only [Oper.quietUpon] at hq
    case value u => exact ⟨hq.2, hq.1⟩
    case skip => exact ⟨hq.2.symm, hq.1⟩
    case enter f args => exact absurd hr (fnOp_run hf _ _ _ _ _)
  | halt x w' => rw [hr] at hq; exact hq.elim

/-- An operation that makes a block: its value hangs on the block's number alone. -/
theorem grow_new {K : Nat → Prop} (hw : Region.wanted o (yielded ops a.tmps) = true) (B : Nat) (mk : Nat → Value) (T : TypeId) (cs : Array Value) (hrun : ∀ w, (execOp a.eval o).run P w = .ok (.value (mk w.heap.size)) (w.alloc (.cells cs T)))
    (hS : S = KeepB K) (hI : ∀ m w o, I m w → I (m + 1) (w.alloc o)) (hB : ∀ m w, I m w → B ≤ w.heap.size) (hK : ∀ k, K k → k < B)
    (h : ∀ b, B ≤ b → wpGrow P ops S I M w0 sp Q rest (i + 1) ((i, fun w' => ∃ b', mk b = mk b' ∧ B ≤ b' ∧ w'.heap[b']? = some (.cells cs T (0, 0))) :: Γ) (a.put o.dst (mk b))) : wpGrow P ops S I M w0 sp Q (o :: rest) i Γ a := by
  subst hS
  unfold wpGrow Res
  rw [if_pos hw]
  refine .inr (.inl ⟨fun u w' => ∃ b', u = mk b' ∧ B ≤ b' ∧ w'.heap[b']? = some (.cells cs T (0, 0)), fun u w w' hb ⟨b', h1, h2, h3⟩ => ⟨b', h1, h2, ?_⟩, fun m w hm hb _ => ?_, (fun h => by cases h), fun u _ hu => ?_⟩)
  · rw [hb.block b' (by
      rcases Nat.lt_or_ge b' w.heap.size with h | h
      · exact h
      · rw [Array.getElem?_eq_none h] at h3; cases h3) (fun hk => by have := hK _ hk; omega), h3]
  · rw [hrun]
    exact ⟨⟨(KeepB.refl _ _).alloc _, hI _ _ _ hb⟩, w.heap.size, rfl, hB _ _ hb, heap_alloc_new w _⟩
  · obtain ⟨_, w', _, b', rfl, h2, _⟩ := hu rfl
    exact h b' h2

/-- A call of a Go function. -/
theorem grow_call (hw : Region.wanted o (yielded ops a.tmps) = true) (hs : ∀ u, Steady S (sp i u))
    (hc : ∀ m w, m < M → I m w → FactsAt .any ops i Γ w → callUpon P w (fun e w' => ∃ u, e = .returned u ∧ (S w w' ∧ I (m + 1) w') ∧ sp i u w') ((execOp a.eval o).run P w))
    (h : ∀ u, (∃ m w', I m w' ∧ sp i u w') → wpGrow P ops S I M w0 sp Q rest (i + 1) ((i, sp i u) :: Γ) (a.put o.dst u)) : wpGrow P ops S I M w0 sp Q (o :: rest) i Γ a := by
  unfold wpGrow Res
  rw [if_pos hw]
  exact .inr (.inr ⟨hs, hc, (fun h => by cases h), fun u _ hu => h u (hu rfl)⟩)
/-- A call of a Go function whose value is known. -/
theorem grow_val (v : Value) (hw : Region.wanted o (yielded ops a.tmps) = true) (hsp : sp i = fun u _ => u = v)
    (hc : ∀ m w, m < M → I m w → FactsAt .any ops i Γ w → callUpon P w (fun e w' => e = .returned v ∧ S w w' ∧ I (m + 1) w') ((execOp a.eval o).run P w))
    (h : wpGrow P ops S I M w0 sp Q rest (i + 1) ((i, fun _ => v = v) :: Γ) (a.put o.dst v)) : wpGrow P ops S I M w0 sp Q (o :: rest) i Γ a := by
  refine grow_call hw (fun u => by rw [hsp]; exact fun _ _ _ h => h) (fun m w hm hb hf => ?_) fun u ⟨_, w', _, hu⟩ => ?_
  · have hx := hc m w hm hb hf
    generalize (execOp a.eval o).run P w = r at hx ⊢
    cases r with
    | ok x w' =>
      cases x <;> simp only [callUpon] at hx ⊢
      exact ⟨hx.1, hx.2.mono fun e w'' ⟨he, hb⟩ => ⟨v, he, hb, by rw [hsp]⟩⟩
    | halt x w' => exact hx.elim
  · rw [hsp] at hu
    subst hu
    rw [hsp]
    exact h
end
/-- Worlds that are as w0 but for what has been made since. -/
def BI (w0 : World) : Nat → World → Prop := fun _ w => Below w0.heap.size w0 w
theorem BI.way (w0 : World) : Way (KeepB fun _ => False) (BI w0) := ⟨fun w => KeepB.refl _ w, fun _ _ _ h k => h.trans k, fun _ _ h => h⟩
theorem BI.fam (w0 x : World) : Below w0.heap.size w0 (FamI (Upto (BI w0) 200) w0 x) := by
  obtain ⟨_, _, h⟩ := FamI.is (J := Upto (BI w0) 200) (w1 := w0) ⟨0, by omega, Below.refl _ _⟩ x
  exact h
theorem BI.cell {w0 : World} {b o : Nat} {v : Value} (h : w0.cell? ⟨b, o, none⟩ = some v) (x : World) : (FamI (Upto (BI w0) 200) w0 x).cell? ⟨b, o, none⟩ = some v := by
  rw [(BI.fam w0 x).cell (World.block_lt_of_cell? _ _ h)]
  exact h
theorem BI.after {w0 w w' : World} {m : Nat} (h : BI w0 m w) (hb : Below w.heap.size w w') : KeepB (fun _ => False) w w' ∧ BI w0 (m + 1) w' := ⟨KeepB.of_below hb, h.trans (hb.mono h.size)⟩
theorem BI.alloc {w0 w : World} {m : Nat} (o : Obj) (h : BI w0 m w) : BI w0 (m + 1) (w.alloc o) := (h.after ((Below.refl _ _).alloc (Nat.le_refl _) _)).2
theorem BI.size {w0 w : World} {m : Nat} (h : BI w0 m w) : w0.heap.size ≤ w.heap.size := Below.size h
end GK
end AG

/- A slice is copied: append(empty, s...). -/
namespace AG
open Go Go.RowKit

theorem run_append_copy {P : Program} (w : World) (base : Nat) (t ty e : TypeId) (i : TypeInfo) (z : Value) (size bytes : Nat) (ht : P.underlying t = some (.slice e)) (hi : P.info? e = some i) (hz : i.zero = some z)
    (hsize : i.size = size) (hby : i.bytes = bytes) (hzs : z.cells.size = size) (g : Nat) (hg : w.heap[g]? = some (.cells #[] e (0, 0))) (hbg : base ≤ g) (hbase : base ≤ w.heap.size)
    (A : Option Addr) (m c : Nat) (news : List Value) (hl : news.length = m * size) (hA : 0 < m → ∃ a, A = some a ∧ ∀ j u, news[j]? = some u → w.cell? (a.add j) = some u) (h1 : ∀ u ∈ news, u.oneCell' = true)
    (h63 : m ≤ maxLen) (hbytes : m * bytes ≤ 140737488355328) :
    ∃ v' w', (Builtin.append_ #[t, t] ty #[.slice (some ⟨g, 0, none⟩) 0 0, .slice A m c]).run P w = .ok v' w' ∧ w'.ownsRow base e size v' m news ∧ Below w.heap.size w w' := by
  subst hsize
  subst hby
  by_cases hm : m = 0
  · subst hm
    have hn : news = [] := List.eq_nil_of_length_eq_zero (by simpa using hl)
    subst hn
    have hs : Src P i.size t (.slice A 0 c) 0 [] w := by
      cases A with
      | none => exact Src.ofNil w ht c
      | some a => exact Src.ofSlice w ht a 0 c [] (by simp) (fun j u hj => by simp at hj) (fun u hu => by cases hu)
    exact ⟨_, w, run_append_nothing w t t ty e i ht hi (some ⟨g, 0, none⟩) 0 0 (Nat.le_refl _) _ hs, ⟨by simp, .inr ⟨g, 0, #[], rfl, hbg, hg, Nat.le_refl _, Nat.zero_le _, by simp, by simp⟩⟩, Below.refl _ _⟩
  · obtain ⟨a, rfl, hnews⟩ := hA (by omega)
    have hsmall : m ≤ 9223372036854775807 := by simp only [maxLen] at h63; omega
    have hr := run_append_grow (P := P) w t ty e i z ht hi hz ⟨g, 0, none⟩ 0 0 [] (by simp) (fun j u hj => by simp at hj) a m c news hl hnews (by omega) (by omega) (growslice_fits (by omega) (by simpa using hbytes))
    simp only [Nat.zero_add] at hr
    refine ⟨_, _, hr, ⟨hl, .inr ⟨w.heap.size, _, _, rfl, hbase, heap_alloc_new w.drew _, grownCap_ge w m 0 e, grownCap_le_maxLen w m 0 e h63, ?_, ?_⟩⟩, ?_⟩
    · have := grownCap_ge w m 0 e
      simp only [Array.size_append, List.size_toArray, size_zeroCells, hzs, List.length_nil, Nat.zero_add, hl, ← Nat.add_mul]
      congr 1
      omega
    · have e1 : ([].toArray ++ news.toArray ++ Builtin.zeroCells z.cells (grownCap w m 0 e - m)).toList = news ++ (Builtin.zeroCells z.cells (grownCap w m 0 e - m)).toList := by simp
      rw [e1, ← hl]
      exact List.take_left
    · exact (Below.refl w.heap.size w).drew.alloc (Nat.le_refl _) _

namespace GK
section
variable {P : Program} {ops : Array Oper} {M : Nat} {S : World → World → Prop} {I : Nat → World → Prop} {sp : Nat → Value → World → Prop} {w0 w1 : World}
variable {Q : List (Nat × (World → Prop)) → Act → Prop} {o : Oper} {rest : List Oper} {i : Nat} {Γ : List (Nat × (World → Prop))} {a : Act}
theorem grow_fact (Z : Value → World → Prop) (hw : Region.wanted o (yielded ops a.tmps) = true) (hs : ∀ u, Steady S (Z u))
    (hc : ∀ m w, m < M → I m w → FactsAt .any ops i Γ w → fnUpon (fun u w' => (S w w' ∧ I (m + 1) w') ∧ Z u w') ((execOp a.eval o).run P w))
    (h : ∀ u, (∃ m w', I m w' ∧ Z u w') → wpGrow P ops S I M w0 sp Q rest (i + 1) ((i, Z u) :: Γ) (a.put o.dst u)) : wpGrow P ops S I M w0 sp Q (o :: rest) i Γ a := by
  unfold wpGrow Res
  rw [if_pos hw]
  exact .inr (.inl ⟨Z, hs, hc, (fun h => by cases h), fun u _ hu => h u (hu rfl)⟩)

theorem own_steady {base : Nat} {e : TypeId} {size m : Nat} {news : List Value} (u : Value) : Steady (KeepB fun _ => False) (fun w => w.ownsRow base e size u m news) := fun _ _ h k => own_keep k h fun _ _ h => h

/-- append(empty, s...): a copy is made. -/
theorem grow_copy (hw : Region.wanted o (yielded ops a.tmps) = true) (s x : Operand) (t : TypeId) (ho : o.op = .call { callee := .builtin .append, args := #[s, x], argTypes := #[t, t] })
    (e : TypeId) (ti : TypeInfo) (z : Value) (size bytes : Nat) (ht : P.underlying t = some (.slice e)) (hi : P.info? e = some ti) (hz : ti.zero = some z)
    (hsize : ti.size = size) (hby : ti.bytes = bytes) (hzs : z.cells.size = size) (g : Nat) (hs : a.eval s = .slice (some ⟨g, 0, none⟩) 0 0) (hgf : ∀ w, FactsAt .any ops i Γ w → w1.heap.size ≤ g ∧ w.heap[g]? = some (.cells #[] e (0, 0)))
    (A : Option Addr) (m c : Nat) (news : List Value) (hx : a.eval x = .slice A m c) (hl : news.length = m * size) (hA : 0 < m → ∃ a, A = some a ∧ ∀ j u, news[j]? = some u → w1.cell? (a.add j) = some u) (h1 : ∀ u ∈ news, u.oneCell' = true)
    (h63 : m ≤ maxLen) (hbytes : m * bytes ≤ 140737488355328)
    (h : ∀ u, (∃ w', Below w1.heap.size w1 w' ∧ w'.ownsRow w1.heap.size e size u m news) → wpGrow P ops (KeepB fun _ => False) (BI w1) M w0 sp Q rest (i + 1) ((i, fun w' => w'.ownsRow w1.heap.size e size u m news) :: Γ) (a.put o.dst u)) :
    wpGrow P ops (KeepB fun _ => False) (BI w1) M w0 sp Q (o :: rest) i Γ a := by
  refine grow_fact (fun u w' => w'.ownsRow w1.heap.size e size u m news) hw own_steady (fun k w hk hb hf => ?_) fun u ⟨_, w', h1, h2⟩ => h u ⟨w', h1, h2⟩
  obtain ⟨g1, g2⟩ := hgf w hf
  obtain ⟨v', w', hr, h2, h3⟩ := run_append_copy (P := P) w w1.heap.size t o.type e ti z size bytes ht hi hz hsize hby hzs g g2 g1 hb.size A m c news hl (fun hm => by
    obtain ⟨a, ha, hc⟩ := hA hm
    refine ⟨a, ha, fun j u hj => ?_⟩
    have h4 := hc j u hj
    rw [Below.cell hb (World.block_lt_of_cell? _ _ h4)]
    exact h4) h1 h63 hbytes
  unfold execOp
  simp only [ho, resolve, invoke, builtin, Sem.run_bind, Sem.run_pure, Result.andThen_ok, List.map_toArray, List.map_cons, List.map_nil, hs, hx, hr]
  exact ⟨hb.after h3, h2⟩
end
end GK
end AG
