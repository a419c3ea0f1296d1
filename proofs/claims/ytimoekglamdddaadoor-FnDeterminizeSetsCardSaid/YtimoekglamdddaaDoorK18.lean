/- Lemmas, part 18: several texts in one. -/
import Derived.Test.YtimoekglamdddaaDoorK14
import Derived.Test.YtimoekglamdddaaDoorK10
import Derived.Test.YtimoekglamdddaaDoorK17
import Derived.Test.YtimoekglamdddaaDoorK5
import Derived.Test.YtimoekglamdddaaDoorK4
import Derived.Test.YtimoekglamdddaaDoorK6
import Derived.Test.YtimoekglamdddaaDoorK7
import Derived.Test.YtimoekglamdddaaDoorK12
set_option linter.unusedSimpArgs false
set_option linter.unusedVariables false

/- Plain: an automaton of sets is trimmed as it stands, and its state that does not accept leads nowhere else. -/
namespace Go.Proofs.YtimoekglamdddaaDoor
open AG

/-- What trimming makes of an automaton. -/
noncomputable def trimOpt (a : Au) : Option (List Nat × List (List Nat)) := numRes (goA a) (letters a.al) 0 a.nx.length
noncomputable def trimA (a : Au) : Au := match trimOpt a with
  | some x => ⟨a.al, toRows x.2, x.1.map fun q => a.ac.getD q false⟩
  | none => ⟨a.al, [], []⟩

theorem numRes_small {nx : Nat → Nat → Nat} {L : List Nat} {n0 lim : Nat} {x : List Nat × List (List Nat)} (h : numRes nx L n0 lim = some x) : numRes nx L n0 x.1.length = some x := by
  obtain ⟨h1, h2, -⟩ := numRes_spec h
  have hle := (numRes_len h).1
  have e : nsAt nx L n0 x.1.length = x.1 := by
    rcases Nat.lt_or_ge x.1.length (nsAt nx L n0 x.1.length).length with hl | hl
    · obtain ⟨m, hm⟩ := nsAt_pre nx L n0 x.1.length (lim - x.1.length)
      rw [show x.1.length + (lim - x.1.length) = lim from by omega, ← h1] at hm
      have := congrArg List.length hm
      rw [List.length_append] at this
      omega
    · have := nsAt_stop hl (lim - x.1.length)
      rw [show x.1.length + (lim - x.1.length) = lim from by omega, ← h1] at this
      exact this.symm
  unfold numRes
  rw [e, if_pos (Nat.le_refl _), ← h2]

theorem idxOf_range {N : List Nat} (h : N.Nodup) : N.map (fun a => N.idxOf a) = List.range N.length := by
  refine List.ext_getElem (by simp) fun i h1 h2 => ?_
  rw [List.getElem_map, List.getElem_range]
  exact h.idxOf_getElem i (by simpa using h1)

theorem trimOpt_pr {s : Sy} {al : Int} {x : List Nat × List (List Nat)} (h : prNum s al = some x) : trimOpt (prAu al x) = some (List.range x.1.length, x.2) := by
  obtain ⟨-, -, h3, h4, h5, h6⟩ := numRes_spec h
  have hs := numRes_small h
  unfold trimOpt
  have hl : (prAu al x).nx.length = x.1.length := by
    show (toRows x.2).length = _
    rw [toRows_len, (numRes_len h).2.1]
  rw [hl]
  have := numRes_map (f := fun a => x.1.idxOf a) (nx := prNx s (hidA s.al al)) (nx' := goA (prAu al x)) (P := fun a => a ∈ x.1) (L := letters al) (n0 := reachSet s (hidA s.al al) 1) (lim := x.1.length) h4
    (fun a b ha hb e => by
      have h1 := List.getElem_idxOf (List.idxOf_lt_length_iff.2 ha)
      have h2 := List.getElem_idxOf (List.idxOf_lt_length_iff.2 hb)
      rw [← h1, ← h2]
      simp only [e])
    (fun a ha l hl => ⟨h6 a ha l hl, goA_pr h ha hl⟩)
  rw [h5, hs] at this
  show numRes (goA (prAu al x)) (letters al) 0 x.1.length = _
  rw [this, Option.map_some, idxOf_range h3]

theorem trim_pr {s : Sy} {al : Int} (h : prK s al = true) : trimA (prA s al) = prA s al ∧ (trimOpt (prA s al)).isSome = true := by
  obtain ⟨hk, x, hx, e⟩ := prK_true h
  rw [e]
  have ht := trimOpt_pr hx
  have hm : (List.range x.1.length).map (fun q => (prAu al x).ac.getD q false) = (prAu al x).ac := by
    unfold prAu
    dsimp only
    refine List.ext_getElem (by simp) fun i h1 h2 => ?_
    have hi : i < x.1.length := by simpa using h1
    rw [List.getElem_map, List.getElem_range, getD_map_of_lt _ _ _ _ hi, List.getElem_map]
  constructor
  · unfold trimA
    rw [ht]
    dsimp only
    rw [hm]
    rfl
  · rw [ht]
    rfl

theorem reach_of0 (s : Sy) (h : Int) : reachSet s h 0 = 0 := by
  refine Nat.eq_of_testBit_eq fun j => ?_
  rw [Nat.zero_testBit]
  cases hj : (reachSet s h 0).testBit j with
  | false => rfl
  | true =>
    unfold reachSet at hj
    have := ((bitsOf_testBit _ 16 j).1 hj).2 (fun _ => False) (fun x hx => by simp at hx) (fun _ _ _ h => h)
    exact this.elim
/-- The set without states stays as it is. -/
theorem dead_pr {s : Sy} {al : Int} {x : List Nat × List (List Nat)} (h : prNum s al = some x) {q : Nat} (hq : q < x.1.length) (ha : (prAu al x).ac.getD q false = false) : ∀ r : List Nat, (∀ l ∈ r, l ∈ letters al) → runA (prAu al x) q r = q
  | [], _ => rfl
  | l :: r, hr => by
    have ih := dead_pr h hq ha r fun y hy => hr y (List.mem_cons_of_mem _ hy)
    show goA (prAu al x) (runA (prAu al x) q r) l = q
    rw [ih]
    have h0 : x.1[q] = 0 := by
      have e : (x.1.map fun S => decide (S ≠ 0)).getD q false = false := ha
      rw [getD_map_of_lt _ _ _ _ hq] at e
      simpa using e
    have e := goA_pr h (List.getElem_mem hq) (hr l List.mem_cons_self)
    have hi := (numRes_spec h).2.2.1.idxOf_getElem q hq
    rw [hi] at e
    rw [e]
    unfold prNx
    rw [h0, stepSet_of0, reach_of0, ← h0]
    exact hi
theorem dead_prA {s : Sy} {al : Int} (h : prK s al = true) {q : Nat} (hq : q < (prA s al).nx.length) (ha : (prA s al).ac.getD q false = false) (r : List Nat) (hr : ∀ l ∈ r, l ∈ letters (prA s al).al) : (prA s al).ac.getD (runA (prA s al) q r) false = false := by
  obtain ⟨hk, x, hx, e⟩ := prK_true h
  rw [e] at hq ha hr ⊢
  have hl : (prAu al x).nx.length = x.1.length := by
    show (toRows x.2).length = _
    rw [toRows_len, (numRes_len hx).2.1]
  rw [dead_pr hx (by omega) ha r hr]
  exact ha

end Go.Proofs.YtimoekglamdddaaDoor

/- The program's searches in one automaton: their closures, leadsToAccepting. -/
namespace Go.Proofs.YtimoekglamdddaaDoor
open Go.RowKit Go.BigFrame AG

theorem RW_run {a : Au} {from_ : Nat} {L : List Nat} : ∀ (r : List Nat) (n : Nat), RW (fun n => n ∈ [from_]) L (fun q l => [goA a q l]) r n ↔ (∀ l ∈ r, l ∈ L) ∧ n = runA a from_ r
  | [], n => by
    show n ∈ [from_] ↔ _
    simp [runA]
  | l :: r, n => by
    show (l ∈ L ∧ ∃ m, RW (fun n => n ∈ [from_]) L (fun q l => [goA a q l]) r m ∧ n ∈ [goA a m l]) ↔ _
    constructor
    · rintro ⟨hl, m, hm, hn⟩
      obtain ⟨h1, h2⟩ := (RW_run r m).1 hm
      refine ⟨fun x hx => ?_, ?_⟩
      · rcases List.mem_cons.1 hx with rfl | hx
        · exact hl
        · exact h1 x hx
      · rw [List.mem_singleton.1 hn, h2]
        rfl
    · rintro ⟨h1, h2⟩
      exact ⟨h1 l List.mem_cons_self, runA a from_ r, (RW_run r _).2 ⟨fun x hx => h1 x (List.mem_cons_of_mem _ hx), rfl⟩, by rw [h2]; exact List.mem_singleton.2 rfl⟩

set_option maxRecDepth 100000 in
set_option maxHeartbeats 4000000 in
theorem leadsNext_any (a : Au) (m g bT base q l : Nat) (v : Value) (ns : List Nat) (w : World) (hq : q < m) (hm : m ≤ 4096) (hl : l < 6) (hT : TabA w g m a) (hc : w.cell? ⟨bT, 0, none⟩ = some (.slice (some ⟨g, 0, none⟩) m m)) (hns : ns.length ≤ 4294967296) (hb : base ≤ w.heap.size) (hown : w.ownsRow base 3 1 v ns.length (natVals ns)) :
    Calls Tryd.prog 138 #[.int .i64 (q : Nat), .int .i64 (l : Nat), v, .pointer (some ⟨bT, 0, none⟩)] w fun e w' =>
      ∃ v', e = .returned v' ∧ w'.ownsRow base 3 1 v' (ns ++ [goA a q l]).length (natVals (ns ++ [goA a q l])) ∧ KeepB (fun b => v.ownBlock = some b) w w' := by
  obtain ⟨i0, hi, hz0, hz1, hz2⟩ := info_parts infoInt
  obtain ⟨t, ht⟩ : ∃ t, Hid (t = goA a q l) := ⟨_, hid rfl⟩
  have c1 := hT.2 q l hq hl
  rw [← ht.out] at c1 ⊢
  obtain ⟨Av, cv, rfl, -, -⟩ := own_slice hown
  have k1 : (0 : Int) ≤ (q : Int) ∧ (q : Int) < (m : Int) ∧ (0 : Int) ≤ (l : Int) ∧ (l : Int) < 6 := by omega
  replace hown := hid hown
  replace hT := hid hT
  go_enter Tryd.func138, Tryd.ntmps138
  go_wp2_with (at_builtin; refine wpList_append_own_at _ rfl _ _ 61 rfl base 3 i0 (.int .i64 0) 1 8 Tryd.underlying61 hi hz0 hz1 hz2 rfl (by decide) _ _ _ rfl (hown.out.alloc _) ⟨w.heap.size, 0, none⟩ 1 1 [.int .i64 (t : Nat)] rfl rfl (cell_one_new _ _ _) (by intro u hu; simp at hu; subst hu; rfl) (by unfold maxLen; omega) (by omega) (by simp; omega) ?_; intro v5 w5 hO5 hg5 _ hat5; obtain ⟨A5, c5, ev5, -, -⟩ := own_slice hO5; subst ev5; replace hO5 := hid hO5; replace hg5 := hid hg5)
  go_ret
  refine ⟨_, rfl, ?_, ((KeepB.refl _ w).alloc _).grown hg5.out fun k hk _ => hk⟩
  have := hO5.out
  rw [List.length_append]
  unfold natVals at this ⊢
  rw [List.map_append]
  exact this
theorem leadsNext_ok {a : Au} {m g bT : Nat} {w : World} (hok : auOk a = true) (hm : m = a.nx.length) (hT : TabA w g m a) (hc : w.cell? ⟨bT, 0, none⟩ = some (.slice (some ⟨g, 0, none⟩) m m)) :
    NextOk w m (letters a.al) (fun q l => [goA a q l]) 138 #[.pointer (some ⟨bT, 0, none⟩)] := by
  have h12 := ((auOk_iff a).1 hok).2.2.1
  refine ⟨fun args w' => by go_simp, fun q hq l _ n hn => ?_, fun q _ l _ => by simp, fun w' q l v ns base hb hq hl hns hB hB' hown => ?_⟩
  · rw [List.mem_singleton.1 hn, hm]
    exact goA_lt hok (by rw [← hm]; exact hq)
  · exact leadsNext_any a m g bT base q l v ns w' hq (by omega) (letters_lt hl).1 (hT.later hb) ((hb.cell (World.block_lt_of_cell? _ _ hc)).trans hc) hns hB' hown

set_option maxRecDepth 100000 in
set_option maxHeartbeats 4000000 in
theorem fromNext_any (a : Au) (m g bT base q l : Nat) (v : Value) (ns : List Nat) (w : World) (hq : q < m) (hm : m ≤ 4096) (hl : l < 6) (hT : TabA w g m a) (hc : w.cell? ⟨bT, 0, none⟩ = some (.slice (some ⟨g, 0, none⟩) m m)) (hns : ns.length ≤ 4294967296) (hb : base ≤ w.heap.size) (hown : w.ownsRow base 3 1 v ns.length (natVals ns)) :
    Calls Tryd.prog 142 #[.int .i64 (q : Nat), .int .i64 (l : Nat), v, .pointer (some ⟨bT, 0, none⟩)] w fun e w' =>
      ∃ v', e = .returned v' ∧ w'.ownsRow base 3 1 v' (ns ++ [goA a q l]).length (natVals (ns ++ [goA a q l])) ∧ KeepB (fun b => v.ownBlock = some b) w w' := by
  obtain ⟨i0, hi, hz0, hz1, hz2⟩ := info_parts infoInt
  obtain ⟨t, ht⟩ : ∃ t, Hid (t = goA a q l) := ⟨_, hid rfl⟩
  have c1 := hT.2 q l hq hl
  rw [← ht.out] at c1 ⊢
  obtain ⟨Av, cv, rfl, -, -⟩ := own_slice hown
  have k1 : (0 : Int) ≤ (q : Int) ∧ (q : Int) < (m : Int) ∧ (0 : Int) ≤ (l : Int) ∧ (l : Int) < 6 := by omega
  replace hown := hid hown
  replace hT := hid hT
  go_enter Tryd.func142, Tryd.ntmps142
  go_wp2_with (at_builtin; refine wpList_append_own_at _ rfl _ _ 61 rfl base 3 i0 (.int .i64 0) 1 8 Tryd.underlying61 hi hz0 hz1 hz2 rfl (by decide) _ _ _ rfl (hown.out.alloc _) ⟨w.heap.size, 0, none⟩ 1 1 [.int .i64 (t : Nat)] rfl rfl (cell_one_new _ _ _) (by intro u hu; simp at hu; subst hu; rfl) (by unfold maxLen; omega) (by omega) (by simp; omega) ?_; intro v5 w5 hO5 hg5 _ hat5; obtain ⟨A5, c5, ev5, -, -⟩ := own_slice hO5; subst ev5; replace hO5 := hid hO5; replace hg5 := hid hg5)
  go_ret
  refine ⟨_, rfl, ?_, ((KeepB.refl _ w).alloc _).grown hg5.out fun k hk _ => hk⟩
  have := hO5.out
  rw [List.length_append]
  unfold natVals at this ⊢
  rw [List.map_append]
  exact this
theorem fromNext_ok {a : Au} {m g bT : Nat} {w : World} (hok : auOk a = true) (hm : m = a.nx.length) (hT : TabA w g m a) (hc : w.cell? ⟨bT, 0, none⟩ = some (.slice (some ⟨g, 0, none⟩) m m)) :
    NextOk w m (letters a.al) (fun q l => [goA a q l]) 142 #[.pointer (some ⟨bT, 0, none⟩)] := by
  have h12 := ((auOk_iff a).1 hok).2.2.1
  refine ⟨fun args w' => by go_simp, fun q hq l _ n hn => ?_, fun q _ l _ => by simp, fun w' q l v ns base hb hq hl hns hB hB' hown => ?_⟩
  · rw [List.mem_singleton.1 hn, hm]
    exact goA_lt hok (by rw [← hm]; exact hq)
  · exact fromNext_any a m g bT base q l v ns w' hq (by omega) (letters_lt hl).1 (hT.later hb) ((hb.cell (World.block_lt_of_cell? _ _ hc)).trans hc) hns hB' hown

set_option maxRecDepth 100000 in
set_option maxHeartbeats 1000000 in
theorem accGoal_any (a : Au) (B : Option Addr) (d bA q : Nat) (w : World) (hq : q < a.ac.length) (hB : BoolsAt w w.heap.size B a.ac) (hc : w.cell? ⟨bA, 2, none⟩ = some (.slice B a.ac.length d)) :
    Calls Tryd.prog 139 #[.int .i64 (q : Nat), .pointer (some ⟨bA, 0, none⟩)] w fun e w' => e = .returned (.bool (a.ac.getD q false)) ∧ Below w.heap.size w w' := by
  obtain ⟨b, o, hA, hbB, hE⟩ := hB (by omega)
  subst hA
  have c0 := hE q hq
  have hg : Hid (a.ac.getD q false = a.ac[q]) := hid (by rw [List.getD_eq_getElem?_getD, List.getElem?_eq_getElem hq]; rfl)
  rw [hg.out]
  obtain ⟨t, ht⟩ : ∃ t, t = a.ac[q] := ⟨_, rfl⟩
  rw [← ht] at c0 ⊢
  have k1 : (0 : Int) ≤ (q : Int) ∧ (q : Int) < (a.ac.length : Int) := by omega
  replace hE := hid hE
  replace hB := hid hB
  replace ht := hid ht
  go_enter Tryd.func139, Tryd.ntmps139
  go_wp2
  go_ret
  exact ⟨rfl, Below.refl _ _⟩
/-- Some word leads from a state to an accepting one. -/
def leadsP (a : Au) (q : Nat) : Prop := ∃ r : List Nat, (∀ l ∈ r, l ∈ letters a.al) ∧ a.ac.getD (runA a q r) false = true

def LeadsPost (a : Au) (q : Nat) (w : World) (e : Ending) (w' : World) : Prop := ∃ t : Bool, e = .returned (.bool t) ∧ (t = true ↔ leadsP a q) ∧ Below w.heap.size w w'

set_option maxRecDepth 100000 in
set_option maxHeartbeats 4000000 in
theorem leadsToAccepting_any (a : Au) (A B : Option Addr) (c d q : Nat) (w : World) (hok : auOk a = true) (hq : q < a.nx.length) (ha : AuAt w A c B d a) :
    Calls Tryd.prog 91 #[a.val A c B d, .int .i64 (q : Nat)] w (LeadsPost a q w) := by
  obtain ⟨halp, hn1, hn12, hn3, -⟩ := (auOk_iff a).1 hok
  obtain ⟨w0, hw0, hz0, hB0, hS⟩ := boxed w #[Value.int IntKind.i64 a.al, Value.slice A a.nx.length c, Value.slice B a.ac.length d] 29
  have ha0 := hid (ha.later hB0)
  have p0 := hS 0 _ rfl _ (Below.refl _ _)
  have p1 := hS 1 _ rfl _ (Below.refl _ _)
  have p2 := hS 2 _ rfl _ (Below.refl _ _)
  replace ha := hid ha
  have hok' := hid hok
  have hn3' := hid hn3
  clear hok hn3
  replace halp := hid halp
  unfold AG.Au.val
  go_enter Tryd.func91, Tryd.ntmps91
  go_wp2_with fail
  refine (tableOf_any a A B c d w0 (by omega) (tabOk_of hok'.out) ha0.out).mono ?_
  rintro e w1 ⟨g, rfl, hg, hb1⟩
  have hB1 := hB0.trans (hb1.mono hB0.size)
  clear p0 p1 p2
  replace hg := hid hg
  have hz1 := hb1.size
  go_upto_region 2 with fail
  obtain ⟨w2, hw2, hz2, hB2', hU⟩ := boxed w1 #[.slice (some ⟨g, 0, none⟩) a.nx.length a.nx.length] 141
  rw [hw2]
  clear hw2
  have hB2 := hB1.trans (hB2'.mono hB1.size)
  have hb02 := hb1.trans (hB2'.mono hz1)
  have hg2 := hid (hg.out.later hB2')
  have ha2 := hid (ha0.out.later hb02)
  have hU' := hid (fun w' (hb : Below w2.heap.size w2 w') => hU 0 _ rfl w' (hb.mono hz2))
  have hS0 := hid (fun w' (hb : Below w2.heap.size w2 w') => hS 0 _ rfl w' ((hb02.trans (hb.mono hb02.size)).mono hz0))
  have hS2 := hid (fun w' (hb : Below w2.heap.size w2 w') => hS 2 _ rfl w' ((hb02.trans (hb.mono hb02.size)).mono hz0))
  have y0 := fun x => hU'.out _ (Fam.below w2.heap.size w2 x)
  have y1 := fun x => hS0.out _ (Fam.below w2.heap.size w2 x)
  clear hU
  refine wp_region_grow 15 w2.heap.size w2 (fun i u w' => if i = 6 then OwnNats w' w2.heap.size u (letters a.al) else ∃ o, u = pathV o ∧ (o.isSome = true ↔ leadsP a q)) (by kernel_rfl) (by kernel_rfl) (Nat.le_refl _) (Below.refl _ _) ?_
  simp only [List.take_succ_cons, List.take_zero, List.drop_succ_cons, List.drop_zero]
  (repeat (refine grow_quiet (by rfl) (by rfl) (by rfl) ?_; intro K hK; go_big_quiet_op; go_big_quiet_on))
  refine grow_new (by rfl) (fun b => .slice (some ⟨b, 0, none⟩) 1 1) 3 #[.int .i64 (q : Nat)] (fun _ => by go_simp) (fun _ => rfl) (Nat.le_refl _) fun bI hbI => ?_
  simp only [Act.put, List.setIfInBounds_toArray, List.set_cons_zero, List.set_cons_succ]
  (repeat (refine grow_quiet (by rfl) (by rfl) (by rfl) ?_; intro K hK; go_big_quiet_op; go_big_quiet_on))
  refine grow_call (by rfl) (by rfl) (fun u v v' hb h => ?_) (fun wq hbq _ => ?_) fun u hu => ?_
  · exact own_keep h (.of_below (K := fun _ => False) hb) fun _ _ h => h
  · go_simp
    refine ⟨rfl, (lettersOf_any a.al wq).mono ?_⟩
    rintro e w5 ⟨v, rfl, ho, hb5⟩
    exact ⟨v, rfl, hb5, own_base ho hbq.size⟩
  simp only [Act.put, List.setIfInBounds_toArray, List.set_cons_zero, List.set_cons_succ]
  (repeat (refine grow_quiet (by rfl) (by rfl) (by rfl) ?_; intro K hK; go_big_quiet_op; go_big_quiet_on))
  refine grow_call (by rfl) (by rfl) (fun v x x' hb h => h) (fun wq hbq hfx => ?_) fun u2 hu2 => ?_
  · have hlet : OwnNats wq w2.heap.size u (letters a.al) := hfx _ List.mem_cons_self (by kernel_rfl)
    obtain ⟨bI', eI, -, hI⟩ := hfx _ (List.mem_cons_of_mem _ List.mem_cons_self) (by kernel_rfl)
    cases eI
    have hcT := hid (hU'.out wq hbq)
    have hcA := hid (hS2.out wq hbq)
    have hgq := hid (hg2.out.later hbq)
    have haq := hid (ha2.out.later hbq)
    go_simp
    refine ⟨rfl, ?_⟩
    have hIo : wq.ownsRow 0 3 1 (.slice (some ⟨bI, 0, none⟩) 1 1) [q].length (natVals [q]) := ⟨rfl, .inr ⟨bI, 1, #[.int .i64 (q : Nat)], rfl, Nat.zero_le _, hI, Nat.le_refl _, by decide, rfl, rfl⟩⟩
    have hgo : GoalOk wq a.nx.length (fun n => a.ac.getD n false) 139 #[.pointer (some ⟨w.heap.size, 0, none⟩)] :=
      ⟨fun args w' => by go_simp, fun w' n hb hn => accGoal_any a B d w.heap.size n w' (by have := hn3'.out; omega) (haq.out.later hb).acc ((hb.cell (World.block_lt_of_cell? _ _ hcA.out)).trans hcA.out)⟩
    refine (firstPath_any wq a.nx.length (fun n => a.ac.getD n false) 139 _ hgo (letters a.al) (letters_sorted _) (fun l h => (letters_lt h).1) (fun q l => [goA a q l]) 138 _
      (leadsNext_ok hok'.out rfl hgq.out hcT.out) [q] (by simp) (fun n hn => by rw [List.mem_singleton] at hn; omega) (by simp) _ u hIo (own_base hlet (Nat.zero_le _)) (by omega)).mono ?_
    rintro e w6 ⟨o, rfl, hp, hb6⟩
    refine ⟨_, rfl, hb6, o, rfl, ?_⟩
    cases o with
    | none =>
      constructor
      · intro h; cases h
      · rintro ⟨r, h1, h2⟩
        exact absurd h2 (hp r _ ((RW_run r _).2 ⟨h1, rfl⟩))
    | some r =>
      refine ⟨fun _ => ?_, fun _ => rfl⟩
      obtain ⟨n, hn, hG⟩ := hp.1
      obtain ⟨h1, h2⟩ := (RW_run r n).1 hn
      exact ⟨r, h1, by rw [← h2]; exact hG⟩
  obtain ⟨w6', -, o, rfl, hout⟩ := hu2
  obtain ⟨Sv, Fv, hpv, hF⟩ : ∃ Sv Fv, pathV o = .tuple #[.string Sv, .bool Fv] ∧ Fv = o.isSome := ⟨_, _, rfl, rfl⟩
  rw [hpv]
  rw [← hF] at hout
  replace hout := hid hout
  replace hF := hid hF
  clear hpv
  simp only [Act.put, List.setIfInBounds_toArray, List.set_cons_zero, List.set_cons_succ]
  (repeat (refine grow_quiet (by rfl) (by rfl) (by rfl) ?_; intro K hK; go_big_quiet_op; go_big_quiet_on))
  refine grow_nil ?_
  intro w7 hb7 hf
  clear hf y0 y1
  have hB7 := hB2.trans (hb7.mono hB2.size)
  go_wp2_with fail
  go_ret
  exact ⟨Fv, rfl, hout.out, hB7⟩

end Go.Proofs.YtimoekglamdddaaDoor

/- The program's trim: what can be reached, numbered anew. -/
namespace Go.Proofs.YtimoekglamdddaaDoor
open Go.RowKit Go.BigFrame Go.Maps AG

theorem infoBoolT : (Tryd.prog.info? 4).map (fun i => (i.zero, i.size, i.bytes)) = some (some (.bool false), 1, 1) := by kernel_rfl

set_option maxRecDepth 100000 in
set_option maxHeartbeats 1000000 in
theorem trimStep_any (a : Au) (m g bT q l : Nat) (w : World) (hq : q < m) (hm : m ≤ 4096) (hl : l < 6) (hT : TabA w g m a) (hc : w.cell? ⟨bT, 0, none⟩ = some (.slice (some ⟨g, 0, none⟩) m m)) :
    Calls Tryd.prog 137 #[.int .i64 (q : Nat), .int .i64 (l : Nat), .pointer (some ⟨bT, 0, none⟩)] w fun e w' => e = .returned (.int .i64 (goA a q l : Nat)) ∧ Below w.heap.size w w' := by
  obtain ⟨t, ht⟩ : ∃ t, Hid (t = goA a q l) := ⟨_, hid rfl⟩
  have c1 := hT.2 q l hq hl
  rw [← ht.out] at c1 ⊢
  have k1 : (0 : Int) ≤ (q : Int) ∧ (q : Int) < (m : Int) ∧ (0 : Int) ≤ (l : Int) ∧ (l : Int) < 6 := by omega
  replace hT := hid hT
  go_enter Tryd.func137, Tryd.ntmps137
  go_wp2
  go_ret
  exact ⟨rfl, Below.refl _ _⟩
theorem trimStep_ok {a : Au} {m g bT : Nat} {w : World} (hok : auOk a = true) (hm : m = a.nx.length) (hT : TabA w g m a) (hc : w.cell? ⟨bT, 0, none⟩ = some (.slice (some ⟨g, 0, none⟩) m m)) :
    NumOk w (fun q => q < m) (letters a.al) (goA a) 137 #[.pointer (some ⟨bT, 0, none⟩)] := by
  have h12 := ((auOk_iff a).1 hok).2.2.1
  refine ⟨fun args w' => by go_simp, fun w' q l hb hq hl => ?_, fun q l hq _ => ?_, fun q hq => ?_⟩
  · exact trimStep_any a m g bT q l w' hq (by omega) (letters_lt hl).1 (hT.later hb) ((hb.cell (World.block_lt_of_cell? _ _ hc)).trans hc)
  · have := goA_lt (l := l) hok (show q < a.nx.length by omega)
    omega
  · omega

/-- What trim holds in memory. -/
structure TrimSt (w3 wr : World) (gO : Nat) (al : Int) (vR vA : Value) (acs : List Bool) : Prop where
  below : Below w3.heap.size w3 wr
  ge : w3.heap.size ≤ gO
  acc : wr.ownsRow w3.heap.size 4 1 vA acs.length (boolVals acs)
  blk : Blk wr gO 29 #[.int .i64 al, vR, vA]
theorem TrimSt.later {w3 wr w' : World} {gO : Nat} {al : Int} {vR vA : Value} {acs : List Bool} (h : TrimSt w3 wr gO al vR vA acs) (hb : Below wr.heap.size wr w') : TrimSt w3 w' gO al vR vA acs :=
  ⟨h.below.trans (hb.mono h.below.size), h.ge, own_later_ h.acc hb, h.blk.below hb h.blk.lt⟩
theorem TrimSt.put {w3 wr w1 : World} {gO : Nat} {al : Int} {vR vA vA' : Value} {acs : List Bool} {t : Bool} (h : TrimSt w3 wr gO al vR vA acs) (hg : wr.grownBy w1 vA.ownBlock)
    (ho : w1.ownsRow w3.heap.size 4 1 vA' (acs.length + 1) (boolVals acs ++ [.bool t])) : TrimSt w3 (w1.setCell ⟨gO, 2, none⟩ vA') gO al vR vA' (acs ++ [t]) := by
  have hkA : KeepB (fun b => vA.ownBlock = some b) wr w1 := (KeepB.refl _ wr).grown hg fun k hk _ => hk
  have hblk1 : Blk w1 gO 29 #[.int .i64 al, vR, vA] := h.blk.keep hkA fun e => own_ne h.acc h.blk (by decide) _ e rfl
  have hkB : KeepB (fun b => b = gO) w1 (w1.setCell ⟨gO, 2, none⟩ vA') := (KeepB.refl _ w1).setCell _ _ fun _ => rfl
  have hb1 : Below w3.heap.size w3 w1 := hkA.below h.below h.below.size fun b e => own_block h.acc b e
  refine ⟨hkB.below hb1 hb1.size fun b e => by rw [e]; exact h.ge, h.ge, ?_, by simpa using hblk1.set_ 2 vA'⟩
  have h2 : w1.ownsRow w3.heap.size 4 1 vA' (acs ++ [t]).length (boolVals (acs ++ [t])) := by
    unfold boolVals at ho ⊢
    rw [List.length_append, List.map_append]
    exact ho
  exact own_keep h2 hkB (own_ne h2 hblk1 (by decide))

def TrimsTo (a : Au) (w : World) (e : Ending) (w' : World) : Prop :=
  Below w.heap.size w w' ∧ ∃ v1 v2 xs, e = .returned (.agg #[.int .i64 a.al, v1, v2]) ∧ AuOwn w' w.heap.size v1 v2 (trimA a) xs

set_option maxRecDepth 100000 in
set_option maxHeartbeats 4000000 in
theorem trim_any (a : Au) (A B : Option Addr) (c d : Nat) (x : List Nat × List (List Nat)) (w : World) (hok : auOk a = true) (hx : trimOpt a = some x) (ha : AuAt w A c B d a) :
    Calls Tryd.prog 90 #[a.val A c B d] w (TrimsTo a w) := by
  obtain ⟨halp, hn1, hn12, hn3, -⟩ := (auOk_iff a).1 hok
  obtain ⟨b0, hbi, hb0, hb1', hb2'⟩ := info_parts infoBoolT
  obtain ⟨w0, hw0, hz0, hB0, hS, -⟩ := boxed2 w #[Value.int IntKind.i64 a.al, Value.slice A a.nx.length c, Value.slice B a.ac.length d] 29 #[Value.int IntKind.i64 0, Value.slice none 0 0, Value.slice none 0 0] 29
  have hres : Blk w0 (w.heap.size + 1) 29 #[Value.int IntKind.i64 0, Value.slice none 0 0, Value.slice none 0 0] := by
    rw [← hw0]
    have := Blk.new (w.alloc (.cells #[Value.int IntKind.i64 a.al, Value.slice A a.nx.length c, Value.slice B a.ac.length d] 29)) 29 #[Value.int IntKind.i64 0, Value.slice none 0 0, Value.slice none 0 0]
    simpa using this
  have ha0 := hid (ha.later hB0)
  have p0 := hS 0 _ rfl _ (Below.refl _ _)
  have p1 := hS 1 _ rfl _ (Below.refl _ _)
  have p2 := hS 2 _ rfl _ (Below.refl _ _)
  replace ha := hid ha
  replace hres := hid hres
  have hok' := hid hok
  have hn3' := hid hn3
  clear hok hn3
  replace halp := hid halp
  have hxl12 : x.1.length ≤ a.nx.length := (numRes_len hx).1
  have hxq : Hid (∀ q ∈ x.1, q < a.nx.length) := hid (by
    rw [(numRes_spec hx).1]
    exact nsAt_all (P := fun q => q < a.nx.length) (by omega) (fun q hq l _ => goA_lt hok'.out hq) _)
  have htr : Hid (trimA a = ⟨a.al, toRows x.2, x.1.map fun q => a.ac.getD q false⟩) := hid (by unfold trimA; rw [hx])
  replace hx := hid hx
  unfold AG.Au.val
  go_enter Tryd.func90, Tryd.ntmps90
  go_wp2_with fail
  refine (tableOf_any a A B c d w0 (by omega) (tabOk_of hok'.out) ha0.out).mono ?_
  rintro e w1 ⟨g, rfl, hg, hb1⟩
  have hB1 := hB0.trans (hb1.mono hB0.size)
  clear p0 p1 p2
  replace hg := hid hg
  have hz1 := hb1.size
  go_upto_region 2 with fail
  obtain ⟨w2, hw2, hz2, hB2', hU⟩ := boxed w1 #[.slice (some ⟨g, 0, none⟩) a.nx.length a.nx.length] 141
  rw [hw2]
  clear hw2 hw0
  have hB2 := hB1.trans (hB2'.mono hB1.size)
  have hb02 := hb1.trans (hB2'.mono hz1)
  have hg2 := hid (hg.out.later hB2')
  have ha2 := hid (ha0.out.later hb02)
  have hres2 := hid (hres.out.below hb02 hres.out.lt)
  have hU' := hid (fun w' (hb : Below w2.heap.size w2 w') => hU 0 _ rfl w' (hb.mono hz2))
  have hS0 := hid (fun w' (hb : Below w2.heap.size w2 w') => hS 0 _ rfl w' ((hb02.trans (hb.mono hb02.size)).mono hz0))
  have hS2 := hid (fun w' (hb : Below w2.heap.size w2 w') => hS 2 _ rfl w' ((hb02.trans (hb.mono hb02.size)).mono hz0))
  have y0 := fun x => hU'.out _ (Fam.below w2.heap.size w2 x)
  have y1 := fun x => hS0.out _ (Fam.below w2.heap.size w2 x)
  have hz2g : w.heap.size + 2 ≤ w2.heap.size := Nat.le_trans hz0 hb02.size
  clear hU
  refine wp_region_grow 14 w2.heap.size w2 (fun i u w' => if i = 2 then OwnNats w' w2.heap.size u (letters a.al) else ∃ v1 v2 xs, u = numV v1 v2 true ∧ OwnNats w' w2.heap.size v1 x.1 ∧ RowsOwn w' w2.heap.size v2 xs ∧ xs.map (·.r) = toRows x.2) (by kernel_rfl) (by kernel_rfl) (Nat.le_refl _) (Below.refl _ _) ?_
  simp only [List.take_succ_cons, List.take_zero, List.drop_succ_cons, List.drop_zero]
  (repeat (refine grow_quiet (by rfl) (by rfl) (by rfl) ?_; intro K hK; go_big_quiet_op; go_big_quiet_on))
  refine grow_call (by rfl) (by rfl) (fun u v v' hb h => ?_) (fun wq hbq _ => ?_) fun u hu => ?_
  · exact own_keep h (.of_below (K := fun _ => False) hb) fun _ _ h => h
  · go_simp
    refine ⟨rfl, (lettersOf_any a.al wq).mono ?_⟩
    rintro e w5 ⟨v, rfl, ho, hb5⟩
    exact ⟨v, rfl, hb5, own_base ho hbq.size⟩
  simp only [Act.put, List.setIfInBounds_toArray, List.set_cons_zero, List.set_cons_succ]
  (repeat (refine grow_quiet (by rfl) (by rfl) (by rfl) ?_; intro K hK; go_big_quiet_op; go_big_quiet_on))
  refine grow_call (by rfl) (by rfl) (fun v x x' hb h => ?_) (fun wq hbq hfx => ?_) fun u2 hu2 => ?_
  · obtain ⟨v1, v2, xs, h1, h2, h3, h4⟩ := h
    exact ⟨v1, v2, xs, h1, own_keep h2 (.of_below (K := fun _ => False) hb) fun _ _ h => h, h3.later hb, h4⟩
  · have hlet : OwnNats wq w2.heap.size u (letters a.al) := hfx _ List.mem_cons_self (by kernel_rfl)
    have hcT := hid (hU'.out wq hbq)
    have hgq := hid (hg2.out.later hbq)
    obtain ⟨AL, cL, rfl, hcL, hcL', hLL⟩ := OwnNats.read hlet
    go_simp
    refine ⟨rfl, ?_⟩
    have hnum := numbered_any wq (fun q => q < a.nx.length) (letters a.al) (goA a) 137 _ 0 a.nx.length AL cL (trimStep_ok hok'.out rfl hgq.out hcT.out) (by omega) hn1 (by omega) (lettersTo_len _ 6) hcL hcL' hLL
    refine hnum.mono ?_
    rintro e w6 ⟨hb6, h6⟩
    rw [show numRes (goA a) (letters a.al) 0 a.nx.length = some x from hx.out] at h6
    obtain ⟨v1, v2, xs, rfl, h1, h2, h3⟩ := h6
    exact ⟨_, rfl, hb6, v1, v2, rfl, own_base h1 hbq.size, xs, h2.base hbq.size, h3⟩
  obtain ⟨w6', -, v1, v2, xs, rfl, ho1, ho2, hxr⟩ := hu2
  obtain ⟨A1, c1, rfl, hc1, hc1', -⟩ := OwnNats.read ho1
  obtain ⟨A2, c2, rfl, hc2, hc2'⟩ := own_slice ho2.own
  clear ho1 ho2
  unfold numV
  simp only [Act.put, List.setIfInBounds_toArray, List.set_cons_zero, List.set_cons_succ]
  (repeat (refine grow_quiet (by rfl) (by rfl) (by rfl) ?_; intro K hK; go_big_quiet_op; go_big_quiet_on))
  refine grow_nil ?_
  intro w3 hb3 hf
  have hf6 := hf _ List.mem_cons_self
  dsimp only at hf6
  rw [if_neg (by decide)] at hf6
  obtain ⟨v1, v2, xs', he, hs1, hs2, hxr'⟩ := hf6
  injection he with he
  injection he with he
  injection he with he1 he
  injection he with he2 he
  subst he1
  subst he2
  clear he hf y0 y1
  obtain ⟨A1', c1', he, -, -, hN1⟩ := OwnNats.read hs1
  injection he with e1 e2 e3
  subst e1
  have hB3 := hB2.trans (hb3.mono hB2.size)
  have hxl : xs'.length = xs.length := by
    have h1 := congrArg List.length hxr
    have h2 := congrArg List.length hxr'
    rw [List.length_map] at h1 h2
    omega
  have hz3 := hb3.size
  have hst0 : Hid (TrimSt w3 (w3.alloc (.cells #[.int .i64 a.al, .slice A2 xs.length c2, .slice none 0 0] 29)) w3.heap.size a.al (.slice A2 xs.length c2) (.slice none 0 0) []) :=
    hid ⟨(Below.refl _ _).alloc (Nat.le_refl _) _, Nat.le_refl _, World.ownsRow_nil _ _ _ _, Blk.new _ _ _⟩
  have p0 := hS0.out w3 hb3
  have ha3 := hid (ha2.out.later hb3)
  have hres3 := hid (hres2.out.below hb3 hres2.out.lt)
  have hS2' := hid (fun w' (hb : Below w3.heap.size w3 w') => hS2.out w' (hb3.trans (hb.mono hz3)))
  replace hN1 := hid hN1
  replace hs1 := hid hs1
  replace hs2 := hid hs2
  replace hxr := hid hxr
  replace hxr' := hid hxr'
  clear hS
  go_wp2_with fail
  go_loopw [29] (fun iv wr => ∃ (i : Nat) (vA : Value), iv = .int .i64 (i : Nat) ∧ i ≤ x.1.length ∧ TrimSt w3 wr w3.heap.size a.al (.slice A2 xs.length c2) vA ((x.1.take i).map fun q => a.ac.getD q false)) (fun iv _ => x.1.length - (intOf iv).toNat)
  case atStart => exact ⟨0, _, rfl, Nat.zero_le _, hst0.out⟩
  case round =>
    clear hst0 p0
    obtain ⟨i, vA, rfl, hi, hst⟩ := hrel
    have hBm := hst.below
    have hzm := hBm.size
    have hBw := hB3.trans (hBm.mono hB3.size)
    obtain ⟨acs, hacs⟩ : ∃ acs, acs = (x.1.take i).map fun q => a.ac.getD q false := ⟨_, rfl⟩
    rw [← hacs] at hst
    have hal : acs.length = i := by rw [hacs, List.length_map, List.length_take]; omega
    obtain ⟨AA, cA, rfl, hcA, hcA'⟩ := own_slice hst.acc
    have hgO := hst.blk.lt
    by_cases hlt : i < x.1.length
    · obtain ⟨bN, oN, hA1, hbN, hEN⟩ := hN1.out (by omega)
      subst hA1
      have a0 := (hBm.cell (p := ⟨bN, oN + i, none⟩) (by simpa using hbN)).trans (hEN i hlt)
      obtain ⟨q, hq⟩ : ∃ q, Hid (q = x.1[i]) := ⟨_, hid rfl⟩
      rw [← hq.out] at a0
      have hqn : q < a.nx.length := hxq.out q (by rw [hq.out]; exact List.getElem_mem hlt)
      have hqa : q < a.ac.length := by have := hn3'.out; omega
      obtain ⟨bB, oB, hB', hbB, hEB⟩ := (ha3.out.later hBm).acc (by omega)
      subst hB'
      have a1 := hEB q hqa
      obtain ⟨t, ht⟩ : ∃ t, Hid (t = a.ac[q]) := ⟨_, hid rfl⟩
      rw [← ht.out] at a1
      have a2 : wr.cell? ⟨w.heap.size, 2, none⟩ = some (.slice (some ⟨bB, oB, none⟩) a.ac.length d) := hS2'.out wr hBm
      have a3 := hst.blk.cell 2
      simp only [List.getElem?_toArray, List.getElem?_cons_zero, List.getElem?_cons_succ] at a3
      have hlw : w.heap.size < wr.heap.size := by omega
      have y0 : ∀ x', (Fam wr.heap.size wr x').cell? ⟨w3.heap.size, 2, none⟩ = some (.slice AA acs.length cA) := fun x' => by rw [(Fam.below wr.heap.size wr x').cell (by simpa using hgO)]; exact a3
      have y1 : ∀ x', (Fam wr.heap.size wr x').cell? ⟨w.heap.size, 2, none⟩ = some (.slice (some ⟨bB, oB, none⟩) a.ac.length d) := fun x' => by rw [(Fam.below wr.heap.size wr x').cell (by simpa using hlw)]; exact a2
      have y2 : ∀ x', (Fam wr.heap.size wr x').cell? ⟨bB, oB + q, none⟩ = some (.bool t) := fun x' => by rw [(Fam.below wr.heap.size wr x').cell (by simpa using hbB)]; exact a1
      have hacs2 : Hid (acs ++ [t] = (x.1.take (i + 1)).map fun q => a.ac.getD q false) := hid (by
        rw [hacs, List.take_succ_eq_append_getElem hlt, List.map_append, List.map_singleton, ← hq.out, ht.out]
        congr 2
        rw [List.getD_eq_getElem?_getD, List.getElem?_eq_getElem hqa]
        rfl)
      have k1 : (0 : Int) ≤ (i : Int) ∧ (i : Int) < (x.1.length : Int) ∧ (0 : Int) ≤ (q : Int) ∧ (q : Int) < (a.ac.length : Int) := by omega
      have hst' := hid hst
      replace hacs := hid hacs
      replace hEN := hid hEN
      replace hEB := hid hEB
      replace hal := hid hal
      clear hst a1 a2 a3
      go_wp2_with fail
      refine wp_region_grow 8 wr.heap.size wr (fun _ _ _ => True) (by kernel_rfl) (by kernel_rfl) (Nat.le_refl _) (Below.refl _ _) ?_
      simp only [List.take_succ_cons, List.take_zero, List.drop_succ_cons, List.drop_zero]
      (repeat (refine grow_quiet (by rfl) (by rfl) (by rfl) ?_; intro K hK; go_big_quiet_op; go_big_quiet_on))
      refine grow_new (by rfl) (fun b => .slice (some ⟨b, 0, none⟩) 1 1) 4 #[.bool t] (fun _ => by go_simp) (fun _ => rfl) (Nat.le_refl _) fun g3 hg3 => ?_
      simp only [Act.put, List.setIfInBounds_toArray, List.set_cons_zero, List.set_cons_succ]
      refine grow_nil ?_
      intro w7 hb7 hf
      obtain ⟨g3', hge, -, hblk3⟩ := hf _ List.mem_cons_self
      cases hge
      have hnew3 := hid (Blk.news hblk3)
      clear hblk3 hf y0 y1 y2
      have hst7 := hst'.out.later hb7
      have hoA := hid hst7.acc
      have hz7 := hst7.below.size
      have hbk7 := hid hst7.blk
      have hst7' := hid hst7
      have hal' : acs.length ≤ 12 := by have := hal.out; omega
      clear hst7
      go_wp2_with (at_builtin; refine wpList_append_own_at _ rfl _ _ 27 rfl w3.heap.size 4 b0 (.bool false) 1 1 Tryd.underlying27 hbi hb0 hb1' hb2' rfl (by decide) _ _ _ rfl (hoA.out) ⟨g3, 0, none⟩ 1 1 [.bool t] rfl rfl hnew3.out (by intro u hu; simp at hu; subst hu; rfl) (by unfold maxLen; omega) (by omega) (by first | omega | (simp; omega)) ?_; intro v8 w8 hO8 hg8 _ hat8; obtain ⟨Av8, cv8, ev8, -, -⟩ := own_slice hO8; subst ev8; have hbk8 : Blk w8 w3.heap.size 29 _ := hbk7.out.keep ((KeepB.refl (fun b => (Value.slice AA acs.length cA).ownBlock = some b) _).grown hg8 (fun k hk _ => hk)) (fun e => own_ne hoA.out hbk7.out (by decide) _ e rfl); have d2 := hbk8.cell 2; have z2 := hbk8.frozen 2; simp only [List.getElem?_toArray, List.getElem?_cons_zero, List.getElem?_cons_succ] at d2; have hst8 := hid (hst7'.out.put (t := t) hg8 hO8); replace hbk8 := hid hbk8; clear hO8 hg8 hat8)
      go_roundw
      case rel =>
        have h8 := hst8.out
        rw [hacs2.out] at h8
        exact ⟨i + 1, _, by go_num, by omega, h8⟩
      case measure => simp [intOf]; omega
    · obtain rfl : i = x.1.length := by omega
      have hbk := hst.blk
      have d0 := hbk.cell 0
      have d1 := hbk.cell 1
      have d2 := hbk.cell 2
      have hresr := hres3.out.below hBm hres3.out.lt
      have q0 := hresr.cell 0
      have q1 := hresr.cell 1
      have q2 := hresr.cell 2
      have f0 := hresr.frozen 0
      have f1 := hresr.frozen 1
      have f2 := hresr.frozen 2
      simp only [List.getElem?_toArray, List.getElem?_cons_zero, List.getElem?_cons_succ] at q0 q1 q2 d0 d1 d2
      have hau : Hid (AuOwn wr w2.heap.size (.slice A2 xs.length c2) (.slice AA acs.length cA) (trimA a) xs') := hid (by
        rw [htr.out]
        rw [List.take_length] at hacs
        refine ⟨hs2.out.later hBm, hxr'.out, ?_⟩
        show wr.ownsRow w2.heap.size 4 1 _ (x.1.map fun q => a.ac.getD q false).length (boolVals (x.1.map fun q => a.ac.getD q false))
        rw [← hacs]
        exact own_base hst.acc hz3)
      have hlt2 : w.heap.size + 1 < w2.heap.size := by omega
      replace hst := hid hst
      replace hbk := hid hbk
      replace hBm := hid hBm
      replace hresr := hid hresr
      replace hacs := hid hacs
      obtain ⟨nA, hnA⟩ : ∃ nA, nA = acs.length := ⟨_, rfl⟩
      rw [← hnA] at hau d2
      replace hnA := hid hnA
      replace hal := hid hal
      go_wp2
      refine bodyPost_ret (v := .agg #[.int .i64 a.al, .slice A2 xs.length c2, .slice AA nA cA]) (by simp [results, Tryd.results90, go_sem, q0, q1, q2]) rfl ?_
      exact ⟨by (repeat (first | exact Below.refl _ _ | assumption | refine Below.drew ?_ | refine Below.alloc ?_ (by first | omega | (simp; done) | (simp; omega)) _ | refine Below.setCell ?_ (by first | omega | (simp; done) | (simp; omega)) _)), _, _, xs', rfl, (((hau.out.setFar hlt2 _).setFar hlt2 _).setFar hlt2 _).base (by omega)⟩

end Go.Proofs.YtimoekglamdddaaDoor

/- The program's TrimAutomaton and IsPrefixClosed. -/
namespace Go.Proofs.YtimoekglamdddaaDoor
open Go.RowKit Go.BigFrame Go.Maps AG

/-- What does not accept leads to nothing that accepts. -/
def deadOk (a : Au) : Prop := ∀ i, ∀ (hi : i < a.nx.length), a.ac.getD i false = false → ∀ T ∈ a.nx[i], ¬ leadsP a T.toNat
theorem deadOk_pr {s : Sy} {al : Int} (h : prK s al = true) : deadOk (prA s al) := by
  intro i hi ha T hT hl
  have hok := auOk_prA h
  have hr := ((auOk_iff _).1 hok).2.2.2.2 _ (List.getElem_mem hi)
  obtain ⟨k, hk, rfl⟩ := List.getElem_of_mem hT
  have hk' : k < (letters (prA s al).al).length := by rw [← hr.1]; exact hk
  have hlm := List.getElem_mem hk'
  have hg : goA (prA s al) i (letters (prA s al).al)[k] = ((prA s al).nx[i])[k].toNat := by
    unfold goA
    have hnd : (letters (prA s al).al).Nodup := (letters_sorted _).imp fun h => Nat.ne_of_lt h
    rw [if_pos hlm, hnd.idxOf_getElem k hk', List.getD_eq_getElem?_getD, List.getD_eq_getElem?_getD, List.getElem?_eq_getElem hi, Option.getD_some, List.getElem?_eq_getElem hk, Option.getD_some]
  rw [← hg] at hl
  obtain ⟨r, hr1, hr2⟩ := hl
  have h2 := dead_prA h hi ha (r ++ [(letters (prA s al).al)[k]]) (by
    intro l hl
    rcases List.mem_append.1 hl with hl | hl
    · exact hr1 l hl
    · rw [List.mem_singleton.1 hl]; exact hlm)
  have hrun : ∀ (r : List Nat) (l : Nat), runA (prA s al) i (r ++ [l]) = runA (prA s al) (goA (prA s al) i l) r := by
    intro r l
    induction r with
    | nil => rfl
    | cons x r ih => show goA _ (runA _ i (r ++ [l])) x = goA _ (runA _ (goA _ i l) r) x; rw [ih]
  rw [hrun, hr2] at h2
  cases h2

set_option maxRecDepth 100000 in
set_option maxHeartbeats 4000000 in
theorem implTrimAutomaton_any (a : Au) (A B : Option Addr) (c d : Nat) (x : List Nat × List (List Nat)) (w : World) (hok : auOk a = true) (hx : trimOpt a = some x) (ha : AuAt w A c B d a) :
    Calls Tryd.prog 35 #[a.val A c B d] w (PrPost w (trimA a) true) := by
  obtain ⟨w0, hw0, hz0, hB0, hS, -⟩ := boxed2 w #[Value.int IntKind.i64 a.al, Value.slice A a.nx.length c, Value.slice B a.ac.length d] 29 #[Value.int IntKind.i64 0, Value.slice none 0 0, Value.slice none 0 0] 29
  have hres : Blk w0 (w.heap.size + 1) 29 #[Value.int IntKind.i64 0, Value.slice none 0 0, Value.slice none 0 0] := by
    rw [← hw0]
    have := Blk.new (w.alloc (.cells #[Value.int IntKind.i64 a.al, Value.slice A a.nx.length c, Value.slice B a.ac.length d] 29)) 29 #[Value.int IntKind.i64 0, Value.slice none 0 0, Value.slice none 0 0]
    simpa using this
  have ha0 := hid (ha.later hB0)
  have p0 := hS 0 _ rfl _ (Below.refl _ _)
  have p1 := hS 1 _ rfl _ (Below.refl _ _)
  have p2 := hS 2 _ rfl _ (Below.refl _ _)
  obtain ⟨b, hb⟩ : ∃ b, Hid (b = trimA a) := ⟨_, hid rfl⟩
  have hbal : Hid (b.al = a.al) := hid (by rw [hb.out]; unfold trimA; rw [hx])
  have hok' := hid hok
  clear hok
  replace ha := hid ha
  replace hres := hid hres
  replace hx := hid hx
  rw [← hb.out]
  unfold AG.Au.val
  go_enter Tryd.func35, Tryd.ntmps35
  go_wp2_with fail
  refine (implAutomatonValid_any a A B c d w0 ha0.out).mono ?_
  rintro e w1 ⟨rfl, hb1⟩
  rw [hok'.out]
  have hB1 := hB0.trans (hb1.mono hB0.size)
  have hz1 := hb1.size
  clear p0 p1 p2 hw0
  have p0 := hS 0 _ rfl _ (hb1.mono hz0)
  have p1 := hS 1 _ rfl _ (hb1.mono hz0)
  have p2 := hS 2 _ rfl _ (hb1.mono hz0)
  go_wp2_with fail
  refine (trim_any a A B c d x w1 hok'.out hx.out (ha0.out.later hb1)).mono ?_
  rintro e w2 ⟨hb2, v1, v2, xs, rfl, hau⟩
  rw [← hb.out] at hau
  obtain ⟨A', c', B', d', rfl, rfl, -⟩ := hau.at_
  have hresr := hres.out.below (hb1.trans (hb2.mono hz1)) hres.out.lt
  have hB2 := hB1.trans (hb2.mono hB1.size)
  have hz2 := hb2.size
  have q0 := hresr.cell 0
  have q1 := hresr.cell 1
  have q2 := hresr.cell 2
  have f0 := hresr.frozen 0
  have f1 := hresr.frozen 1
  have f2 := hresr.frozen 2
  simp only [List.getElem?_toArray, List.getElem?_cons_zero, List.getElem?_cons_succ] at q0 q1 q2
  have hlt2 : w.heap.size + 1 < w1.heap.size := by omega
  replace hau := hid hau
  replace hresr := hid hresr
  clear p0 p1 p2 hS
  go_wp2
  refine bodyPost_ret (v := .tuple #[.agg #[.int .i64 a.al, .slice A' b.nx.length c', .slice B' b.ac.length d'], .bool true]) (by simp [results, Tryd.results35, go_sem, q0, q1, q2]) rfl ?_
  exact ⟨by (repeat (first | exact Below.refl _ _ | assumption | refine Below.drew ?_ | refine Below.alloc ?_ (by first | omega | (simp; done) | (simp; omega)) _ | refine Below.setCell ?_ (by first | omega | (simp; done) | (simp; omega)) _)), _, _, xs, by rw [hbal.out], (((hau.out.setFar hlt2 _).setFar hlt2 _).setFar hlt2 _).base (by omega)⟩

set_option maxRecDepth 100000 in
set_option maxHeartbeats 8000000 in
theorem implIsPrefixClosed_any (a : Au) (A B : Option Addr) (c d : Nat) (x : List Nat × List (List Nat)) (w : World) (hok : auOk a = true) (hx : trimOpt a = some x) (htr : trimA a = a) (hd : deadOk a) (ha : AuAt w A c B d a) :
    Calls Tryd.prog 36 #[a.val A c B d] w fun e w' => e = .returned (.bool true) ∧ Below w.heap.size w w' := by
  obtain ⟨w0, hw0, hz0, hB0, hS⟩ := boxed w #[Value.int IntKind.i64 a.al, Value.slice A a.nx.length c, Value.slice B a.ac.length d] 29
  have ha0 := hid (ha.later hB0)
  have p0 := hS 0 _ rfl _ (Below.refl _ _)
  have p1 := hS 1 _ rfl _ (Below.refl _ _)
  have p2 := hS 2 _ rfl _ (Below.refl _ _)
  have hn12 : a.nx.length ≤ 12 := ((auOk_iff a).1 hok).2.2.1
  have hn3 := hid ((auOk_iff a).1 hok).2.2.2.1
  have hrs := hid ((auOk_iff a).1 hok).2.2.2.2
  have hok' := hid hok
  clear hok
  replace ha := hid ha
  replace hx := hid hx
  replace htr := hid htr
  replace hd := hid hd
  unfold AG.Au.val
  go_enter Tryd.func36, Tryd.ntmps36
  go_wp2_with fail
  refine (implAutomatonValid_any a A B c d w0 ha0.out).mono ?_
  rintro e w1 ⟨rfl, hb1⟩
  rw [hok'.out]
  have hB1 := hB0.trans (hb1.mono hB0.size)
  have hz1 := hb1.size
  clear p0 p1 p2 hw0
  have p0 := hS 0 _ rfl _ (hb1.mono hz0)
  have p1 := hS 1 _ rfl _ (hb1.mono hz0)
  have p2 := hS 2 _ rfl _ (hb1.mono hz0)
  go_wp2_with fail
  refine (trim_any a A B c d x w1 hok'.out hx.out (ha0.out.later hb1)).mono ?_
  rintro e w2 ⟨hb2, v1, v2, xs, rfl, hau⟩
  rw [htr.out] at hau
  obtain ⟨A', c', B', d', rfl, rfl, hat⟩ := hau.at_
  have hB2 := hB1.trans (hb2.mono hB1.size)
  have hz2 := hb2.size
  replace hat := hid hat
  clear hau p0 p1 p2 hS
  go_upto_region 4 with fail
  obtain ⟨w3, hw3, hz3, hB3', hS⟩ := boxed w2 #[.int .i64 a.al, .slice A' a.nx.length c', .slice B' a.ac.length d'] 29
  rw [hw3]
  clear hw3
  have hB3 := hB2.trans (hB3'.mono hB2.size)
  have hat3 := hid (hat.out.later hB3')
  have hS1 := hid (fun w' (hb : Below w3.heap.size w3 w') => hS 1 _ rfl w' (hb.mono hz3))
  have hSall := hid (fun w' (hb : Below w3.heap.size w3 w') => (⟨hS 0 _ rfl w' (hb.mono hz3), hS 1 _ rfl w' (hb.mono hz3), hS 2 _ rfl w' (hb.mono hz3)⟩ : _ ∧ _ ∧ _))
  have p1 := hS1.out w3 (Below.refl _ _)
  clear hS
  go_wp2_with fail
  go_loopw [16] (fun iv wr => ∃ i : Nat, iv = .int .i64 (i : Nat) ∧ i ≤ a.nx.length ∧ Below w3.heap.size w3 wr) (fun iv _ => a.nx.length - (intOf iv).toNat)
  case atStart => exact ⟨0, rfl, Nat.zero_le _, Below.refl _ _⟩
  case round =>
    clear p1
    obtain ⟨i, rfl, hi, hBm⟩ := hrel
    obtain ⟨wo, rfl⟩ : ∃ wo : World, wo = wr := ⟨_, rfl⟩
    by_cases hlt : i < a.nx.length
    · obtain ⟨bR, oR, hA1, hbR, hER⟩ := hat3.out.rows (by omega)
      obtain ⟨Ai, ci, e1, e2, e3, e4⟩ := hER i hlt
      subst hA1
      have a0 := (hBm.cell (p := ⟨bR, oR + i, none⟩) (by simpa using hbR)).trans e1
      have hrow := hid (hrs.out _ (List.getElem_mem hlt))
      have hdi := hid (hd.out i hlt)
      obtain ⟨r, hr⟩ : ∃ r, Hid (r = a.nx[i]) := ⟨_, hid rfl⟩
      rw [← hr.out] at a0 e2 e4 hrow hdi
      have k1 : (0 : Int) ≤ (i : Int) ∧ (i : Int) < (a.nx.length : Int) := by omega
      have hia : i < a.ac.length := by have := hn3.out; omega
      replace hER := hid hER
      replace e4 := hid e4
      replace hr := hid hr
      clear e1
      go_wp2_with fail
      go_loopw [23] (fun kv wr => ∃ k : Nat, kv = .int .i64 (k : Nat) ∧ k ≤ r.length ∧ Below wo.heap.size wo wr) (fun kv _ => r.length - (intOf kv).toNat)
      case atStart => exact ⟨0, rfl, Nat.zero_le _, Below.refl _ _⟩
      case round =>
        clear a0
        obtain ⟨k, rfl, hk, hBk⟩ := hrel
        have hB3k := hBm.trans (hBk.mono hBm.size)
        by_cases hkl : k < r.length
        · obtain ⟨bI, oI, hAi, hbI, hEI⟩ := e4.out (by omega)
          subst hAi
          have b0 := (hB3k.cell (p := ⟨bI, oI + k, none⟩) (by simpa using hbI)).trans (hEI k hkl)
          obtain ⟨T, hT⟩ : ∃ T, Hid (T = r[k].toNat) := ⟨_, hid rfl⟩
          have hrk := hrow.out.2 r[k] (List.getElem_mem hkl)
          have hTi : r[k] = ((T : Nat) : Int) := by rw [hT.out]; omega
          rw [hTi] at b0
          have hTn : T < a.nx.length := by omega
          obtain ⟨bB, oB, hB', hbB, hEB⟩ := hat3.out.acc (by omega)
          subst hB'
          have c0 := (hB3k.cell (p := ⟨bB, oB + i, none⟩) (by simpa using hbB)).trans (hEB i hia)
          obtain ⟨t, ht⟩ : ∃ t, Hid (t = a.ac[i]) := ⟨_, hid rfl⟩
          rw [← ht.out] at c0
          obtain ⟨p0, p1, p2⟩ := hSall.out wr hB3k
          have k2 : (0 : Int) ≤ (k : Int) ∧ (k : Int) < (r.length : Int) ∧ (i : Int) < (a.ac.length : Int) := by omega
          have hlead := hid (hdi.out)
          replace hEI := hid hEI
          replace hEB := hid hEB
          replace hTi := hid hTi
          replace hrk := hid hrk
          cases t
          case true =>
            go_wp2_with fail
            go_roundw
            case rel => exact ⟨k + 1, by go_num, by omega, hBk⟩
            case measure => simp [intOf]; omega
          case false =>
            go_wp2_with fail
            refine (leadsToAccepting_any a _ _ c' d' T wr hok'.out hTn (hat3.out.later hB3k)).mono ?_
            rintro e w5 ⟨t', rfl, hiff, hb5⟩
            have ht' : t' = false := by
              cases t'
              · rfl
              · refine absurd (hiff.1 rfl) ?_
                rw [hT.out]
                refine hlead.out ?_ _ (List.getElem_mem hkl)
                rw [List.getD_eq_getElem?_getD, List.getElem?_eq_getElem hia, Option.getD_some, ← ht.out]
            subst ht'
            have hBk5 := hBk.trans (hb5.mono hBk.size)
            replace hiff := hid hiff
            clear p0 p1 p2 b0 c0
            go_wp2_with fail
            go_roundw
            case rel => exact ⟨k + 1, by go_num, by omega, hBk5⟩
            case measure => simp [intOf]; omega
        · go_wp2_with fail
          go_roundw
          case rel => exact ⟨i + 1, by go_num, by omega, hB3k⟩
          case measure => simp [intOf]; omega
    · have hBe := hB3.trans (hBm.mono hB3.size)
      go_wp2_with fail
      go_ret
      exact ⟨rfl, hBe⟩

end Go.Proofs.YtimoekglamdddaaDoor

/- The laws FnDeterminizeSafe, FnProjectSafe. -/
namespace Go.Proofs.YtimoekglamdddaaDoor
open Go.RowKit Go.BigFrame Go.Maps AG

theorem acc_empty {s : Sy} {al : Int} (h : prK s al = true) : accB (prA s al) ⟨#[]⟩ = true := by
  have h1 := accB_pr h (r := []) (by simp) (by simp)
  have hw : wordS [] = ⟨#[]⟩ := rfl
  rw [hw] at h1
  rw [h1, decide_eq_true_eq]
  intro h0
  have hb : (reachSet s (hidA s.al al) 1).testBit 0 = true := (bitsOf_testBit _ 16 0).2 ⟨by omega, fun R h1 _ => h1 0 rfl⟩
  rw [show reachSet s (hidA s.al al) 1 = 0 from h0] at hb
  simp at hb

set_option maxRecDepth 100000 in
set_option maxHeartbeats 16000000 in
theorem FnDeterminizeSafe_any (A : Option Addr) (n c : Nat) (w : World) (hn : n ≤ c) (hc : c ≤ 9223372036854775807) (hT : Tab w) (hx : CodeAt w A n) :
    Calls Tryd.prog 9 #[.slice A n c] w fun e w' => e = .returned (.bool true) ∧ Below w.heap.size w w' := by
  replace hT := hid hT
  replace hx := hid hx
  by_cases hlen : 1048576 < n
  · have hgt : (1048576 : Int) < (n : Int) := by omega
    go_enter Tryd.func9, Tryd.ntmps9
    go_wp2
    go_ret
    exact ⟨rfl, Below.refl _ _⟩
  have hgt : ¬ ((1048576 : Int) < (n : Int)) := by omega
  go_enter Tryd.func9, Tryd.ntmps9
  go_wp2_with fail
  have BW_w : Below w.heap.size w w := Below.refl _ _
  refine (drawDeterminize_any A n c w hn hc hx.out).mono ?_
  rintro e w1 ⟨s, As, cs, rfl, a1, a2, a3, a4, -, hb_w1⟩
  unfold Sy.val
  have BW_w1 := BW_w.trans (hb_w1.mono BW_w.size)
  have es := hid a4
  have BEs_w1 : Below w1.heap.size w1 w1 := Below.refl _ _
  clear a4
  obtain ⟨a, ha⟩ : ∃ a, Hid (a = prA s s.al) := ⟨_, hid rfl⟩
  obtain ⟨ok, hok⟩ : ∃ ok, Hid (ok = prK s s.al) := ⟨_, hid rfl⟩
  go_upto_region 4 with fail
  obtain ⟨w2, hw_w2, hz_w2, hb_w2, hS_w2⟩ := boxed w1 #[.int .i64 s.al, .int .i64 s.st, .slice As s.es.length cs] 34
  rw [hw_w2]
  clear hw_w2
  have hs0 := fun w' (hb : Below w2.heap.size w2 w') => hS_w2 0 _ rfl w' (hb.mono hz_w2)
  have hs1 := fun w' (hb : Below w2.heap.size w2 w') => hS_w2 1 _ rfl w' (hb.mono hz_w2)
  have hs2 := fun w' (hb : Below w2.heap.size w2 w') => hS_w2 2 _ rfl w' (hb.mono hz_w2)
  replace hs0 := hid hs0
  replace hs1 := hid hs1
  replace hs2 := hid hs2
  clear hS_w2
  have BW_w2 := BW_w1.trans (hb_w2.mono BW_w1.size)
  have BEs_w2 := BEs_w1.trans (hb_w2.mono BEs_w1.size)
  have Bs_w2 : Below w2.heap.size w2 w2 := Below.refl _ _
  have ps0 := hs0.out _ Bs_w2
  have ps1 := hs1.out _ Bs_w2
  have ps2 := hs2.out _ Bs_w2
  go_wp2_with fail
  have hc_a := hid (implDeterminize_any s As cs w2 a1 a2 (hT.out.later BW_w2) (es.out.later BEs_w2))
  rw [← ha.out, ← hok.out] at hc_a
  refine hc_a.out.mono ?_
  clear hc_a
  clear ps0 ps1 ps2
  rintro e w3 ⟨hb_w3, v1, v2, xs, rfl, hau⟩
  obtain ⟨Aa, ca, Ba, da, rfl, rfl, ta⟩ := hau.at_
  replace ta := hid ta
  clear hau
  have BW_w3 := BW_w2.trans (hb_w3.mono BW_w2.size)
  have BEs_w3 := BEs_w2.trans (hb_w3.mono BEs_w2.size)
  have Bs_w3 := Bs_w2.trans (hb_w3.mono Bs_w2.size)
  have BTa_w3 : Below w3.heap.size w3 w3 := Below.refl _ _
  go_upto_region 5 with fail
  obtain ⟨w4, hw_w4, hz_w4, hb_w4, hS_w4⟩ := boxed w3 #[.int .i64 a.al, .slice Aa a.nx.length ca, .slice Ba a.ac.length da] 29
  rw [hw_w4]
  clear hw_w4
  have ha0 := fun w' (hb : Below w4.heap.size w4 w') => hS_w4 0 _ rfl w' (hb.mono hz_w4)
  have ha1 := fun w' (hb : Below w4.heap.size w4 w') => hS_w4 1 _ rfl w' (hb.mono hz_w4)
  have ha2 := fun w' (hb : Below w4.heap.size w4 w') => hS_w4 2 _ rfl w' (hb.mono hz_w4)
  replace ha0 := hid ha0
  replace ha1 := hid ha1
  replace ha2 := hid ha2
  clear hS_w4
  have BW_w4 := BW_w3.trans (hb_w4.mono BW_w3.size)
  have BEs_w4 := BEs_w3.trans (hb_w4.mono BEs_w3.size)
  have Bs_w4 := Bs_w3.trans (hb_w4.mono Bs_w3.size)
  have BTa_w4 := BTa_w3.trans (hb_w4.mono BTa_w3.size)
  have Ba_w4 : Below w4.heap.size w4 w4 := Below.refl _ _
  have ps0 := hs0.out _ Bs_w4
  have ps1 := hs1.out _ Bs_w4
  have ps2 := hs2.out _ Bs_w4
  go_wp2_with fail
  have hc_x := hid (specDeterminize_any s As cs w4 a1 a2 (es.out.later BEs_w4))
  rw [← ha.out, ← hok.out] at hc_x
  refine hc_x.out.mono ?_
  clear hc_x
  clear ps0 ps1 ps2
  rintro e w5 ⟨hb_w5, v1, v2, xs, rfl, hau⟩
  obtain ⟨Ax, cx, Bx, dx, rfl, rfl, tx⟩ := hau.at_
  replace tx := hid tx
  clear hau
  have BW_w5 := BW_w4.trans (hb_w5.mono BW_w4.size)
  have BEs_w5 := BEs_w4.trans (hb_w5.mono BEs_w4.size)
  have Bs_w5 := Bs_w4.trans (hb_w5.mono Bs_w4.size)
  have BTa_w5 := BTa_w4.trans (hb_w5.mono BTa_w4.size)
  have Ba_w5 := Ba_w4.trans (hb_w5.mono Ba_w4.size)
  have BTx_w5 : Below w5.heap.size w5 w5 := Below.refl _ _
  go_upto_region 6 with fail
  obtain ⟨w6, hw_w6, hz_w6, hb_w6, hS_w6⟩ := boxed w5 #[.int .i64 a.al, .slice Ax a.nx.length cx, .slice Bx a.ac.length dx] 29
  rw [hw_w6]
  clear hw_w6
  have hx0 := fun w' (hb : Below w6.heap.size w6 w') => hS_w6 0 _ rfl w' (hb.mono hz_w6)
  have hx1 := fun w' (hb : Below w6.heap.size w6 w') => hS_w6 1 _ rfl w' (hb.mono hz_w6)
  have hx2 := fun w' (hb : Below w6.heap.size w6 w') => hS_w6 2 _ rfl w' (hb.mono hz_w6)
  replace hx0 := hid hx0
  replace hx1 := hid hx1
  replace hx2 := hid hx2
  clear hS_w6
  have BW_w6 := BW_w5.trans (hb_w6.mono BW_w5.size)
  have BEs_w6 := BEs_w5.trans (hb_w6.mono BEs_w5.size)
  have Bs_w6 := Bs_w5.trans (hb_w6.mono Bs_w5.size)
  have BTa_w6 := BTa_w5.trans (hb_w6.mono BTa_w5.size)
  have Ba_w6 := Ba_w5.trans (hb_w6.mono Ba_w5.size)
  have BTx_w6 := BTx_w5.trans (hb_w6.mono BTx_w5.size)
  have Bx_w6 : Below w6.heap.size w6 w6 := Below.refl _ _
  have pa0 := ha0.out _ Ba_w6
  have pa1 := ha1.out _ Ba_w6
  have pa2 := ha2.out _ Ba_w6
  have px0 := hx0.out _ Bx_w6
  have px1 := hx1.out _ Bx_w6
  have px2 := hx2.out _ Bx_w6
  go_wp2_with fail
  refine (agAutomata_any a a Aa Ba Ax Bx ca da cx dx w6 (ta.out.later BTa_w6) (tx.out.later BTx_w6)).mono ?_
  clear pa0 pa1 pa2 px0 px1 px2
  rintro e w7 ⟨rfl, hb_w7⟩
  have BW_w7 := BW_w6.trans (hb_w7.mono BW_w6.size)
  have BEs_w7 := BEs_w6.trans (hb_w7.mono BEs_w6.size)
  have Bs_w7 := Bs_w6.trans (hb_w7.mono Bs_w6.size)
  have BTa_w7 := BTa_w6.trans (hb_w7.mono BTa_w6.size)
  have Ba_w7 := Ba_w6.trans (hb_w7.mono Ba_w6.size)
  have BTx_w7 := BTx_w6.trans (hb_w7.mono BTx_w6.size)
  have Bx_w7 := Bx_w6.trans (hb_w7.mono Bx_w6.size)
  rw [decide_eq_true rfl]
  cases hokc : ok
  case false =>
    rw [hokc] at hok
    have pa0 := ha0.out _ Ba_w7
    have pa1 := ha1.out _ Ba_w7
    have pa2 := ha2.out _ Ba_w7
    have px0 := hx0.out _ Bx_w7
    have px1 := hx1.out _ Bx_w7
    have px2 := hx2.out _ Bx_w7
    go_wp2_with fail
    refine (agAutomata_any a a Aa Ba Ax Bx ca da cx dx w7 (ta.out.later BTa_w7) (tx.out.later BTx_w7)).mono ?_
    clear pa0 pa1 pa2 px0 px1 px2
    rintro e w8 ⟨rfl, hb_w8⟩
    have BW_w8 := BW_w7.trans (hb_w8.mono BW_w7.size)
    have BEs_w8 := BEs_w7.trans (hb_w8.mono BEs_w7.size)
    have Bs_w8 := Bs_w7.trans (hb_w8.mono Bs_w7.size)
    have BTa_w8 := BTa_w7.trans (hb_w8.mono BTa_w7.size)
    have Ba_w8 := Ba_w7.trans (hb_w8.mono Ba_w7.size)
    have BTx_w8 := BTx_w7.trans (hb_w8.mono BTx_w7.size)
    have Bx_w8 := Bx_w7.trans (hb_w8.mono Bx_w7.size)
    rw [decide_eq_true rfl]
    go_wp2_with fail
    go_ret
    exact ⟨rfl, BW_w8⟩
  case true =>
  have hpk : Hid (prK s s.al = true) := hid (by rw [← hok.out, hokc])
  have haok : Hid (auOk a = true) := hid (by rw [ha.out]; exact auOk_prA hpk.out)
  have htr : Hid (a = trimA a) := hid (by rw [ha.out]; exact (trim_pr hpk.out).1.symm)
  obtain ⟨tx, htx⟩ : ∃ tx, Hid (trimOpt a = some tx) := by
    have h := (trim_pr hpk.out).2
    rw [← ha.out] at h
    obtain ⟨tx, h⟩ := Option.isSome_iff_exists.1 h
    exact ⟨tx, hid h⟩
  have hdead : Hid (deadOk a) := hid (by rw [ha.out]; exact deadOk_pr hpk.out)
  have hacc : Hid (accB a ⟨#[]⟩ = true) := hid (by rw [ha.out]; exact acc_empty hpk.out)
  subst hokc
  have pa0 := ha0.out _ Ba_w7
  have pa1 := ha1.out _ Ba_w7
  have pa2 := ha2.out _ Ba_w7
  go_wp2_with fail
  have hc_y := hid (implTrimAutomaton_any a Aa Ba ca da tx w7 haok.out htx.out (ta.out.later BTa_w7))
  rw [← htr.out] at hc_y
  refine hc_y.out.mono ?_
  clear hc_y
  clear pa0 pa1 pa2
  rintro e w9 ⟨hb_w9, v1, v2, xs, rfl, hau⟩
  obtain ⟨Ay, cy, By, dy, rfl, rfl, ty⟩ := hau.at_
  replace ty := hid ty
  clear hau
  have BW_w9 := BW_w7.trans (hb_w9.mono BW_w7.size)
  have BEs_w9 := BEs_w7.trans (hb_w9.mono BEs_w7.size)
  have Bs_w9 := Bs_w7.trans (hb_w9.mono Bs_w7.size)
  have BTa_w9 := BTa_w7.trans (hb_w9.mono BTa_w7.size)
  have Ba_w9 := Ba_w7.trans (hb_w9.mono Ba_w7.size)
  have BTx_w9 := BTx_w7.trans (hb_w9.mono BTx_w7.size)
  have Bx_w9 := Bx_w7.trans (hb_w9.mono Bx_w7.size)
  have BTy_w9 : Below w9.heap.size w9 w9 := Below.refl _ _
  go_upto_region 9 with fail
  obtain ⟨w10, hw_w10, hz_w10, hb_w10, hS_w10⟩ := boxed w9 #[.int .i64 a.al, .slice Ay a.nx.length cy, .slice By a.ac.length dy] 29
  rw [hw_w10]
  clear hw_w10
  have hy0 := fun w' (hb : Below w10.heap.size w10 w') => hS_w10 0 _ rfl w' (hb.mono hz_w10)
  have hy1 := fun w' (hb : Below w10.heap.size w10 w') => hS_w10 1 _ rfl w' (hb.mono hz_w10)
  have hy2 := fun w' (hb : Below w10.heap.size w10 w') => hS_w10 2 _ rfl w' (hb.mono hz_w10)
  replace hy0 := hid hy0
  replace hy1 := hid hy1
  replace hy2 := hid hy2
  clear hS_w10
  have BW_w10 := BW_w9.trans (hb_w10.mono BW_w9.size)
  have BEs_w10 := BEs_w9.trans (hb_w10.mono BEs_w9.size)
  have Bs_w10 := Bs_w9.trans (hb_w10.mono Bs_w9.size)
  have BTa_w10 := BTa_w9.trans (hb_w10.mono BTa_w9.size)
  have Ba_w10 := Ba_w9.trans (hb_w10.mono Ba_w9.size)
  have BTx_w10 := BTx_w9.trans (hb_w10.mono BTx_w9.size)
  have Bx_w10 := Bx_w9.trans (hb_w10.mono Bx_w9.size)
  have BTy_w10 := BTy_w9.trans (hb_w10.mono BTy_w9.size)
  have By_w10 : Below w10.heap.size w10 w10 := Below.refl _ _
  have py0 := hy0.out _ By_w10
  have py1 := hy1.out _ By_w10
  have py2 := hy2.out _ By_w10
  have pa0 := ha0.out _ Ba_w10
  have pa1 := ha1.out _ Ba_w10
  have pa2 := ha2.out _ Ba_w10
  go_wp2_with fail
  refine (agAutomata_any a a Ay By Aa Ba cy dy ca da w10 (ty.out.later BTy_w10) (ta.out.later BTa_w10)).mono ?_
  clear py0 py1 py2 pa0 pa1 pa2
  rintro e w11 ⟨rfl, hb_w11⟩
  have BW_w11 := BW_w10.trans (hb_w11.mono BW_w10.size)
  have BEs_w11 := BEs_w10.trans (hb_w11.mono BEs_w10.size)
  have Bs_w11 := Bs_w10.trans (hb_w11.mono Bs_w10.size)
  have BTa_w11 := BTa_w10.trans (hb_w11.mono BTa_w10.size)
  have Ba_w11 := Ba_w10.trans (hb_w11.mono Ba_w10.size)
  have BTx_w11 := BTx_w10.trans (hb_w11.mono BTx_w10.size)
  have Bx_w11 := Bx_w10.trans (hb_w11.mono Bx_w10.size)
  have BTy_w11 := BTy_w10.trans (hb_w11.mono BTy_w10.size)
  have By_w11 := By_w10.trans (hb_w11.mono By_w10.size)
  rw [decide_eq_true rfl]
  have pa0 := ha0.out _ Ba_w11
  have pa1 := ha1.out _ Ba_w11
  have pa2 := ha2.out _ Ba_w11
  go_wp2_with fail
  refine (implIsPrefixClosed_any a Aa Ba ca da tx w11 haok.out htx.out htr.out.symm hdead.out (ta.out.later BTa_w11)).mono ?_
  clear pa0 pa1 pa2
  rintro e w12 ⟨rfl, hb_w12⟩
  have BW_w12 := BW_w11.trans (hb_w12.mono BW_w11.size)
  have BEs_w12 := BEs_w11.trans (hb_w12.mono BEs_w11.size)
  have Bs_w12 := Bs_w11.trans (hb_w12.mono Bs_w11.size)
  have BTa_w12 := BTa_w11.trans (hb_w12.mono BTa_w11.size)
  have Ba_w12 := Ba_w11.trans (hb_w12.mono Ba_w11.size)
  have BTx_w12 := BTx_w11.trans (hb_w12.mono BTx_w11.size)
  have Bx_w12 := Bx_w11.trans (hb_w12.mono Bx_w11.size)
  have BTy_w12 := BTy_w11.trans (hb_w12.mono BTy_w11.size)
  have By_w12 := By_w11.trans (hb_w12.mono By_w11.size)
  have pa0 := ha0.out _ Ba_w12
  have pa1 := ha1.out _ Ba_w12
  have pa2 := ha2.out _ Ba_w12
  go_wp2_with fail
  refine (implAcceptsWord_any a Aa Ba ca da ⟨#[]⟩ w12 (by decide) (ta.out.later BTa_w12)).mono ?_
  clear pa0 pa1 pa2
  rintro e w13 ⟨rfl, hb_w13⟩
  have BW_w13 := BW_w12.trans (hb_w13.mono BW_w12.size)
  have BEs_w13 := BEs_w12.trans (hb_w13.mono BEs_w12.size)
  have Bs_w13 := Bs_w12.trans (hb_w13.mono Bs_w12.size)
  have BTa_w13 := BTa_w12.trans (hb_w13.mono BTa_w12.size)
  have Ba_w13 := Ba_w12.trans (hb_w13.mono Ba_w12.size)
  have BTx_w13 := BTx_w12.trans (hb_w13.mono BTx_w12.size)
  have Bx_w13 := Bx_w12.trans (hb_w13.mono Bx_w12.size)
  have BTy_w13 := BTy_w12.trans (hb_w13.mono BTy_w12.size)
  have By_w13 := By_w12.trans (hb_w13.mono By_w12.size)
  rw [hacc.out]
  go_wp2_with fail
  go_ret
  exact ⟨rfl, BW_w13⟩


set_option maxRecDepth 100000 in
set_option maxHeartbeats 16000000 in
theorem FnProjectSafe_any (A : Option Addr) (n c : Nat) (w : World) (hn : n ≤ c) (hc : c ≤ 9223372036854775807) (hT : Tab w) (hx : CodeAt w A n) :
    Calls Tryd.prog 10 #[.slice A n c] w fun e w' => e = .returned (.bool true) ∧ Below w.heap.size w w' := by
  replace hT := hid hT
  replace hx := hid hx
  by_cases hlen : 1048576 < n
  · have hgt : (1048576 : Int) < (n : Int) := by omega
    go_enter Tryd.func10, Tryd.ntmps10
    go_wp2
    go_ret
    exact ⟨rfl, Below.refl _ _⟩
  have hgt : ¬ ((1048576 : Int) < (n : Int)) := by omega
  go_enter Tryd.func10, Tryd.ntmps10
  go_wp2_with fail
  have BW_w : Below w.heap.size w w := Below.refl _ _
  refine (drawProjectSystem_any A n c w hn hc hx.out).mono ?_
  rintro e w1 ⟨s, As, cs, al, rfl, a1, a2, a3, a4, -, hb_w1⟩
  unfold Sy.val
  have BW_w1 := BW_w.trans (hb_w1.mono BW_w.size)
  have es := hid a4
  have BEs_w1 : Below w1.heap.size w1 w1 := Below.refl _ _
  clear a4
  obtain ⟨a, ha⟩ : ∃ a, Hid (a = prA s al) := ⟨_, hid rfl⟩
  obtain ⟨ok, hok⟩ : ∃ ok, Hid (ok = prK s al) := ⟨_, hid rfl⟩
  go_upto_region 4 with fail
  obtain ⟨w2, hw_w2, hz_w2, hb_w2, hS_w2⟩ := boxed w1 #[.int .i64 s.al, .int .i64 s.st, .slice As s.es.length cs] 34
  rw [hw_w2]
  clear hw_w2
  have hs0 := fun w' (hb : Below w2.heap.size w2 w') => hS_w2 0 _ rfl w' (hb.mono hz_w2)
  have hs1 := fun w' (hb : Below w2.heap.size w2 w') => hS_w2 1 _ rfl w' (hb.mono hz_w2)
  have hs2 := fun w' (hb : Below w2.heap.size w2 w') => hS_w2 2 _ rfl w' (hb.mono hz_w2)
  replace hs0 := hid hs0
  replace hs1 := hid hs1
  replace hs2 := hid hs2
  clear hS_w2
  have BW_w2 := BW_w1.trans (hb_w2.mono BW_w1.size)
  have BEs_w2 := BEs_w1.trans (hb_w2.mono BEs_w1.size)
  have Bs_w2 : Below w2.heap.size w2 w2 := Below.refl _ _
  have ps0 := hs0.out _ Bs_w2
  have ps1 := hs1.out _ Bs_w2
  have ps2 := hs2.out _ Bs_w2
  go_wp2_with fail
  have hc_a := hid (implProjectSystem_any s As cs al w2 a1 a2 (hT.out.later BW_w2) (es.out.later BEs_w2))
  rw [← ha.out, ← hok.out] at hc_a
  refine hc_a.out.mono ?_
  clear hc_a
  clear ps0 ps1 ps2
  rintro e w3 ⟨hb_w3, v1, v2, xs, rfl, hau⟩
  obtain ⟨Aa, ca, Ba, da, rfl, rfl, ta⟩ := hau.at_
  replace ta := hid ta
  clear hau
  have BW_w3 := BW_w2.trans (hb_w3.mono BW_w2.size)
  have BEs_w3 := BEs_w2.trans (hb_w3.mono BEs_w2.size)
  have Bs_w3 := Bs_w2.trans (hb_w3.mono Bs_w2.size)
  have BTa_w3 : Below w3.heap.size w3 w3 := Below.refl _ _
  go_upto_region 5 with fail
  obtain ⟨w4, hw_w4, hz_w4, hb_w4, hS_w4⟩ := boxed w3 #[.int .i64 a.al, .slice Aa a.nx.length ca, .slice Ba a.ac.length da] 29
  rw [hw_w4]
  clear hw_w4
  have ha0 := fun w' (hb : Below w4.heap.size w4 w') => hS_w4 0 _ rfl w' (hb.mono hz_w4)
  have ha1 := fun w' (hb : Below w4.heap.size w4 w') => hS_w4 1 _ rfl w' (hb.mono hz_w4)
  have ha2 := fun w' (hb : Below w4.heap.size w4 w') => hS_w4 2 _ rfl w' (hb.mono hz_w4)
  replace ha0 := hid ha0
  replace ha1 := hid ha1
  replace ha2 := hid ha2
  clear hS_w4
  have BW_w4 := BW_w3.trans (hb_w4.mono BW_w3.size)
  have BEs_w4 := BEs_w3.trans (hb_w4.mono BEs_w3.size)
  have Bs_w4 := Bs_w3.trans (hb_w4.mono Bs_w3.size)
  have BTa_w4 := BTa_w3.trans (hb_w4.mono BTa_w3.size)
  have Ba_w4 : Below w4.heap.size w4 w4 := Below.refl _ _
  have ps0 := hs0.out _ Bs_w4
  have ps1 := hs1.out _ Bs_w4
  have ps2 := hs2.out _ Bs_w4
  go_wp2_with fail
  have hc_x := hid (specProjectSystem_any s As cs al w4 a1 a2 (es.out.later BEs_w4))
  rw [← ha.out, ← hok.out] at hc_x
  refine hc_x.out.mono ?_
  clear hc_x
  clear ps0 ps1 ps2
  rintro e w5 ⟨hb_w5, v1, v2, xs, rfl, hau⟩
  obtain ⟨Ax, cx, Bx, dx, rfl, rfl, tx⟩ := hau.at_
  replace tx := hid tx
  clear hau
  have BW_w5 := BW_w4.trans (hb_w5.mono BW_w4.size)
  have BEs_w5 := BEs_w4.trans (hb_w5.mono BEs_w4.size)
  have Bs_w5 := Bs_w4.trans (hb_w5.mono Bs_w4.size)
  have BTa_w5 := BTa_w4.trans (hb_w5.mono BTa_w4.size)
  have Ba_w5 := Ba_w4.trans (hb_w5.mono Ba_w4.size)
  have BTx_w5 : Below w5.heap.size w5 w5 := Below.refl _ _
  go_upto_region 6 with fail
  obtain ⟨w6, hw_w6, hz_w6, hb_w6, hS_w6⟩ := boxed w5 #[.int .i64 a.al, .slice Ax a.nx.length cx, .slice Bx a.ac.length dx] 29
  rw [hw_w6]
  clear hw_w6
  have hx0 := fun w' (hb : Below w6.heap.size w6 w') => hS_w6 0 _ rfl w' (hb.mono hz_w6)
  have hx1 := fun w' (hb : Below w6.heap.size w6 w') => hS_w6 1 _ rfl w' (hb.mono hz_w6)
  have hx2 := fun w' (hb : Below w6.heap.size w6 w') => hS_w6 2 _ rfl w' (hb.mono hz_w6)
  replace hx0 := hid hx0
  replace hx1 := hid hx1
  replace hx2 := hid hx2
  clear hS_w6
  have BW_w6 := BW_w5.trans (hb_w6.mono BW_w5.size)
  have BEs_w6 := BEs_w5.trans (hb_w6.mono BEs_w5.size)
  have Bs_w6 := Bs_w5.trans (hb_w6.mono Bs_w5.size)
  have BTa_w6 := BTa_w5.trans (hb_w6.mono BTa_w5.size)
  have Ba_w6 := Ba_w5.trans (hb_w6.mono Ba_w5.size)
  have BTx_w6 := BTx_w5.trans (hb_w6.mono BTx_w5.size)
  have Bx_w6 : Below w6.heap.size w6 w6 := Below.refl _ _
  have pa0 := ha0.out _ Ba_w6
  have pa1 := ha1.out _ Ba_w6
  have pa2 := ha2.out _ Ba_w6
  have px0 := hx0.out _ Bx_w6
  have px1 := hx1.out _ Bx_w6
  have px2 := hx2.out _ Bx_w6
  go_wp2_with fail
  refine (agAutomata_any a a Aa Ba Ax Bx ca da cx dx w6 (ta.out.later BTa_w6) (tx.out.later BTx_w6)).mono ?_
  clear pa0 pa1 pa2 px0 px1 px2
  rintro e w7 ⟨rfl, hb_w7⟩
  have BW_w7 := BW_w6.trans (hb_w7.mono BW_w6.size)
  have BEs_w7 := BEs_w6.trans (hb_w7.mono BEs_w6.size)
  have Bs_w7 := Bs_w6.trans (hb_w7.mono Bs_w6.size)
  have BTa_w7 := BTa_w6.trans (hb_w7.mono BTa_w6.size)
  have Ba_w7 := Ba_w6.trans (hb_w7.mono Ba_w6.size)
  have BTx_w7 := BTx_w6.trans (hb_w7.mono BTx_w6.size)
  have Bx_w7 := Bx_w6.trans (hb_w7.mono Bx_w6.size)
  rw [decide_eq_true rfl]
  cases hokc : ok
  case false =>
    rw [hokc] at hok
    have pa0 := ha0.out _ Ba_w7
    have pa1 := ha1.out _ Ba_w7
    have pa2 := ha2.out _ Ba_w7
    have px0 := hx0.out _ Bx_w7
    have px1 := hx1.out _ Bx_w7
    have px2 := hx2.out _ Bx_w7
    go_wp2_with fail
    refine (agAutomata_any a a Aa Ba Ax Bx ca da cx dx w7 (ta.out.later BTa_w7) (tx.out.later BTx_w7)).mono ?_
    clear pa0 pa1 pa2 px0 px1 px2
    rintro e w8 ⟨rfl, hb_w8⟩
    have BW_w8 := BW_w7.trans (hb_w8.mono BW_w7.size)
    have BEs_w8 := BEs_w7.trans (hb_w8.mono BEs_w7.size)
    have Bs_w8 := Bs_w7.trans (hb_w8.mono Bs_w7.size)
    have BTa_w8 := BTa_w7.trans (hb_w8.mono BTa_w7.size)
    have Ba_w8 := Ba_w7.trans (hb_w8.mono Ba_w7.size)
    have BTx_w8 := BTx_w7.trans (hb_w8.mono BTx_w7.size)
    have Bx_w8 := Bx_w7.trans (hb_w8.mono Bx_w7.size)
    rw [decide_eq_true rfl]
    go_wp2_with fail
    go_ret
    exact ⟨rfl, BW_w8⟩
  case true =>
  have hpk : Hid (prK s al = true) := hid (by rw [← hok.out, hokc])
  have haok : Hid (auOk a = true) := hid (by rw [ha.out]; exact auOk_prA hpk.out)
  have htr : Hid (a = trimA a) := hid (by rw [ha.out]; exact (trim_pr hpk.out).1.symm)
  obtain ⟨tx, htx⟩ : ∃ tx, Hid (trimOpt a = some tx) := by
    have h := (trim_pr hpk.out).2
    rw [← ha.out] at h
    obtain ⟨tx, h⟩ := Option.isSome_iff_exists.1 h
    exact ⟨tx, hid h⟩
  have hdead : Hid (deadOk a) := hid (by rw [ha.out]; exact deadOk_pr hpk.out)
  have hacc : Hid (accB a ⟨#[]⟩ = true) := hid (by rw [ha.out]; exact acc_empty hpk.out)
  have haal : a.al = al := by rw [ha.out]; exact prA_al hpk.out
  have heqb : (a.al == al) = true := by simpa using haal
  replace haal := hid haal
  subst hokc
  have pa0 := ha0.out _ Ba_w7
  have pa1 := ha1.out _ Ba_w7
  have pa2 := ha2.out _ Ba_w7
  go_wp2_with fail
  have hc_y := hid (implTrimAutomaton_any a Aa Ba ca da tx w7 haok.out htx.out (ta.out.later BTa_w7))
  rw [← htr.out] at hc_y
  refine hc_y.out.mono ?_
  clear hc_y
  clear pa0 pa1 pa2
  rintro e w9 ⟨hb_w9, v1, v2, xs, rfl, hau⟩
  obtain ⟨Ay, cy, By, dy, rfl, rfl, ty⟩ := hau.at_
  replace ty := hid ty
  clear hau
  have BW_w9 := BW_w7.trans (hb_w9.mono BW_w7.size)
  have BEs_w9 := BEs_w7.trans (hb_w9.mono BEs_w7.size)
  have Bs_w9 := Bs_w7.trans (hb_w9.mono Bs_w7.size)
  have BTa_w9 := BTa_w7.trans (hb_w9.mono BTa_w7.size)
  have Ba_w9 := Ba_w7.trans (hb_w9.mono Ba_w7.size)
  have BTx_w9 := BTx_w7.trans (hb_w9.mono BTx_w7.size)
  have Bx_w9 := Bx_w7.trans (hb_w9.mono Bx_w7.size)
  have BTy_w9 : Below w9.heap.size w9 w9 := Below.refl _ _
  go_upto_region 9 with fail
  obtain ⟨w10, hw_w10, hz_w10, hb_w10, hS_w10⟩ := boxed w9 #[.int .i64 a.al, .slice Ay a.nx.length cy, .slice By a.ac.length dy] 29
  rw [hw_w10]
  clear hw_w10
  have hy0 := fun w' (hb : Below w10.heap.size w10 w') => hS_w10 0 _ rfl w' (hb.mono hz_w10)
  have hy1 := fun w' (hb : Below w10.heap.size w10 w') => hS_w10 1 _ rfl w' (hb.mono hz_w10)
  have hy2 := fun w' (hb : Below w10.heap.size w10 w') => hS_w10 2 _ rfl w' (hb.mono hz_w10)
  replace hy0 := hid hy0
  replace hy1 := hid hy1
  replace hy2 := hid hy2
  clear hS_w10
  have BW_w10 := BW_w9.trans (hb_w10.mono BW_w9.size)
  have BEs_w10 := BEs_w9.trans (hb_w10.mono BEs_w9.size)
  have Bs_w10 := Bs_w9.trans (hb_w10.mono Bs_w9.size)
  have BTa_w10 := BTa_w9.trans (hb_w10.mono BTa_w9.size)
  have Ba_w10 := Ba_w9.trans (hb_w10.mono Ba_w9.size)
  have BTx_w10 := BTx_w9.trans (hb_w10.mono BTx_w9.size)
  have Bx_w10 := Bx_w9.trans (hb_w10.mono Bx_w9.size)
  have BTy_w10 := BTy_w9.trans (hb_w10.mono BTy_w9.size)
  have By_w10 : Below w10.heap.size w10 w10 := Below.refl _ _
  have py0 := hy0.out _ By_w10
  have py1 := hy1.out _ By_w10
  have py2 := hy2.out _ By_w10
  have pa0 := ha0.out _ Ba_w10
  have pa1 := ha1.out _ Ba_w10
  have pa2 := ha2.out _ Ba_w10
  go_wp2_with fail
  refine (agAutomata_any a a Ay By Aa Ba cy dy ca da w10 (ty.out.later BTy_w10) (ta.out.later BTa_w10)).mono ?_
  clear py0 py1 py2 pa0 pa1 pa2
  rintro e w11 ⟨rfl, hb_w11⟩
  have BW_w11 := BW_w10.trans (hb_w11.mono BW_w10.size)
  have BEs_w11 := BEs_w10.trans (hb_w11.mono BEs_w10.size)
  have Bs_w11 := Bs_w10.trans (hb_w11.mono Bs_w10.size)
  have BTa_w11 := BTa_w10.trans (hb_w11.mono BTa_w10.size)
  have Ba_w11 := Ba_w10.trans (hb_w11.mono Ba_w10.size)
  have BTx_w11 := BTx_w10.trans (hb_w11.mono BTx_w10.size)
  have Bx_w11 := Bx_w10.trans (hb_w11.mono Bx_w10.size)
  have BTy_w11 := BTy_w10.trans (hb_w11.mono BTy_w10.size)
  have By_w11 := By_w10.trans (hb_w11.mono By_w10.size)
  rw [decide_eq_true rfl]
  have pa0 := ha0.out _ Ba_w11
  have pa1 := ha1.out _ Ba_w11
  have pa2 := ha2.out _ Ba_w11
  go_wp2_with fail
  refine (implIsPrefixClosed_any a Aa Ba ca da tx w11 haok.out htx.out htr.out.symm hdead.out (ta.out.later BTa_w11)).mono ?_
  clear pa0 pa1 pa2
  rintro e w12 ⟨rfl, hb_w12⟩
  have BW_w12 := BW_w11.trans (hb_w12.mono BW_w11.size)
  have BEs_w12 := BEs_w11.trans (hb_w12.mono BEs_w11.size)
  have Bs_w12 := Bs_w11.trans (hb_w12.mono Bs_w11.size)
  have BTa_w12 := BTa_w11.trans (hb_w12.mono BTa_w11.size)
  have Ba_w12 := Ba_w11.trans (hb_w12.mono Ba_w11.size)
  have BTx_w12 := BTx_w11.trans (hb_w12.mono BTx_w11.size)
  have Bx_w12 := Bx_w11.trans (hb_w12.mono Bx_w11.size)
  have BTy_w12 := BTy_w11.trans (hb_w12.mono BTy_w11.size)
  have By_w12 := By_w11.trans (hb_w12.mono By_w11.size)
  have pa0 := ha0.out _ Ba_w12
  have pa1 := ha1.out _ Ba_w12
  have pa2 := ha2.out _ Ba_w12
  go_wp2_with fail
  refine (implAcceptsWord_any a Aa Ba ca da ⟨#[]⟩ w12 (by decide) (ta.out.later BTa_w12)).mono ?_
  clear pa0 pa1 pa2
  rintro e w13 ⟨rfl, hb_w13⟩
  have BW_w13 := BW_w12.trans (hb_w13.mono BW_w12.size)
  have BEs_w13 := BEs_w12.trans (hb_w13.mono BEs_w12.size)
  have Bs_w13 := Bs_w12.trans (hb_w13.mono Bs_w12.size)
  have BTa_w13 := BTa_w12.trans (hb_w13.mono BTa_w12.size)
  have Ba_w13 := Ba_w12.trans (hb_w13.mono Ba_w12.size)
  have BTx_w13 := BTx_w12.trans (hb_w13.mono BTx_w12.size)
  have Bx_w13 := Bx_w12.trans (hb_w13.mono Bx_w12.size)
  have BTy_w13 := BTy_w12.trans (hb_w13.mono BTy_w12.size)
  have By_w13 := By_w12.trans (hb_w13.mono By_w12.size)
  rw [hacc.out]
  go_wp2_with fail
  go_ret
  exact ⟨rfl, BW_w13⟩


end Go.Proofs.YtimoekglamdddaaDoor
