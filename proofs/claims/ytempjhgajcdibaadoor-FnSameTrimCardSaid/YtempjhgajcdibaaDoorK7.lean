/- Lemmas, part 7: several texts in one. -/
import Derived.Test.YtempjhgajcdibaaDoorK6
import Derived.Test.YtempjhgajcdibaaDoorK1
import Derived.Test.YtempjhgajcdibaaDoorK2
set_option linter.unusedSimpArgs false
set_option linter.unusedVariables false

/- Plain: the nodes of a list that have not been seen. -/
namespace AG

theorem snocInd {P : List Nat → Prop} (h0 : P []) (h1 : ∀ l n, P l → P (l ++ [n])) (l : List Nat) : P l := by
  have key : ∀ r : List Nat, P r.reverse := by
    intro r
    induction r with
    | nil => exact h0
    | cons n r ih => rw [List.reverse_cons]; exact h1 _ _ ih
  have := key l.reverse
  rwa [List.reverse_reverse] at this

def frsStep (S : Nat → Bool) (fr : List Nat) (n : Nat) : List Nat := if (S n || fr.contains n) = true then fr else fr ++ [n]
/-- The nodes of ns that S has not, each once, in order. -/
def frs (S : Nat → Bool) (ns : List Nat) : List Nat := ns.foldl (frsStep S) []
theorem frs_nil (S : Nat → Bool) : frs S [] = [] := rfl
theorem frs_snoc (S : Nat → Bool) (ns : List Nat) (n : Nat) : frs S (ns ++ [n]) = frsStep S (frs S ns) n := by unfold frs; rw [List.foldl_append]; rfl
theorem frs_take (S : Nat → Bool) (ns : List Nat) {k : Nat} (h : k < ns.length) : frs S (ns.take (k + 1)) = frsStep S (frs S (ns.take k)) ns[k] := by
  rw [List.take_succ_eq_append_getElem h, frs_snoc]
theorem frs_mem (S : Nat → Bool) : ∀ (ns : List Nat) (x : Nat), x ∈ frs S ns ↔ x ∈ ns ∧ S x = false := by
  intro ns
  refine snocInd (P := fun ns => ∀ x, x ∈ frs S ns ↔ x ∈ ns ∧ S x = false) ?_ ?_ ns
  · intro x; simp [frs_nil]
  · intro ns n ih x
    rw [frs_snoc]
    unfold frsStep
    by_cases h : (S n || (frs S ns).contains n) = true
    · rw [if_pos h, ih, List.mem_append, List.mem_singleton]
      constructor
      · rintro ⟨a, b⟩; exact ⟨.inl a, b⟩
      · rintro ⟨a | rfl, b⟩
        · exact ⟨a, b⟩
        · simp only [Bool.or_eq_true, b, Bool.false_eq_true, false_or, List.contains_iff_mem] at h
          exact (ih x).1 h
    · rw [if_neg h, List.mem_append, List.mem_singleton, ih, List.mem_append, List.mem_singleton]
      simp only [Bool.or_eq_true, not_or, Bool.not_eq_true] at h
      constructor
      · rintro (⟨a, b⟩ | rfl)
        · exact ⟨.inl a, b⟩
        · exact ⟨.inr rfl, h.1⟩
      · rintro ⟨a | rfl, b⟩
        · exact .inl ⟨a, b⟩
        · exact .inr rfl
theorem frs_len (S : Nat → Bool) (ns : List Nat) : (frs S ns).length ≤ ns.length := by
  refine snocInd (P := fun ns => (frs S ns).length ≤ ns.length) ?_ ?_ ns
  · simp [frs_nil]
  · intro ns n ih
    rw [frs_snoc]
    unfold frsStep
    split
    · simp; omega
    · simp; exact ih
theorem frs_nodup (S : Nat → Bool) (ns : List Nat) : (frs S ns).Nodup := by
  refine snocInd (P := fun ns => (frs S ns).Nodup) ?_ ?_ ns
  · simp [frs_nil]
  · intro ns n ih
    rw [frs_snoc]
    unfold frsStep
    split
    · exact ih
    · rename_i h
      rw [List.nodup_append]
      refine ⟨ih, by simp, fun a ha b hb e => h ?_⟩
      rw [List.mem_singleton] at hb
      subst hb e
      simp [ha]
end AG

/- The program's search: the closure that takes up a word's nodes. -/
namespace Go.Proofs.YtempjhgajcdibaaDoor
open Go.RowKit Go.BigFrame AG

/-- The marks of the nodes that have been seen. -/
def SeenAt (cs : Array Value) (size : Nat) (S : Nat → Bool) : Prop := cs.size = size ∧ ∀ n, n < size → cs[n]? = some (.bool (S n))
theorem SeenAt.set_ {cs : Array Value} {size : Nat} {S S' : Nat → Bool} {n : Nat} (h : SeenAt cs size S) (hn : n < size) (hS : ∀ x, S' x = (S x || decide (x = n))) : SeenAt (cs.setIfInBounds n (.bool true)) size S' := by
  refine ⟨by simpa using h.1, fun x hx => ?_⟩
  rw [hS]
  by_cases e : x = n
  · subst e
    rw [Array.getElem?_setIfInBounds_self_of_lt (by rw [h.1]; exact hx)]
    simp
  · rw [Array.getElem?_setIfInBounds_ne (Ne.symm e), h.2 x hx]
    simp [e]

def natVals (ns : List Nat) : List Value := ns.map fun (n : Nat) => Value.int .i64 (n : Int)

/-- What the search holds in memory. -/
structure FPst (w wr : World) (size : Nat) (gv : Value) (bS bG bP gS : Nat) (sv : Value) (ss : List StV) (S : Nat → Bool) : Prop where
  below : Below w.heap.size w wr
  blkS : Blk wr bS 98 #[.slice (some ⟨gS, 0, none⟩) size size]
  blkG : Blk wr bG 62 #[gv]
  blkP : Blk wr bP 134 #[sv]
  seen : ∃ cs, Blk wr gS 4 cs ∧ SeenAt cs size S
  geS : w.heap.size ≤ gS
  geP : w.heap.size ≤ bP
  own : wr.ownsRow w.heap.size 136 3 sv ss.length (stCells ss)
  nodes : ∀ x ∈ ss, wr.ownsRow w.heap.size 3 1 (.slice x.A x.st.nodes.length x.c) x.st.nodes.length (natVals x.st.nodes)

/-- A goal of the search, as a function value. -/
structure GoalOk (w : World) (size : Nat) (G : Nat → Bool) (fG : FuncId) (capG : Array Value) : Prop where
  run : ∀ args w', (callFunc fG args).run Tryd.prog w' = .ok (.enter fG args) w'
  call : ∀ w' q, Below w.heap.size w w' → q < size → Calls Tryd.prog fG (#[.int .i64 (q : Nat)] ++ capG) w' fun e w'' => e = .returned (.bool (G q)) ∧ Below w'.heap.size w' w''

/-- What the closure leaves. -/
def VisPost (w w1 : World) (size : Nat) (gv : Value) (bS bG bP gS : Nat) (sv : Value) (ss : List StV) (S : Nat → Bool) (par : Int) (l : Nat) (fr : List Nat) (w2 : World) : Prop :=
  ∃ sv' ss', FPst w w2 size gv bS bG bP gS sv' ss' (fun n => S n || fr.contains n) ∧ ((fr = [] ∧ ss' = ss) ∨ (fr ≠ [] ∧ ∃ A c, ss' = ss ++ [⟨⟨par, l, fr⟩, A, c⟩])) ∧ KeepB (fun b => b = gS ∨ b = bP ∨ sv.ownBlock = some b) w1 w2

theorem FPst.keep {w w1 wr : World} {size : Nat} {gv : Value} {bS bG bP gS : Nat} {sv : Value} {ss : List StV} {S S' : Nat → Bool} {cs : Array Value} (h : FPst w w1 size gv bS bG bP gS sv ss S) (hk : KeepB (fun b => b = gS) w1 wr)
    (hb : Blk wr gS 4 cs) (hs : SeenAt cs size S') : FPst w wr size gv bS bG bP gS sv ss S' := by
  obtain ⟨cs0, hb0, -⟩ := h.seen
  exact ⟨hk.below h.below h.below.size (fun b hb => by rw [hb]; exact h.geS), h.blkS.keep hk (fun e => h.blkS.ne hb0 (by decide) e), h.blkG.keep hk (fun e => h.blkG.ne hb0 (by decide) e), h.blkP.keep hk (fun e => h.blkP.ne hb0 (by decide) e), ⟨cs, hb, hs⟩, h.geS, h.geP,
    own_keep h.own hk (own_ne h.own hb0 (by decide)), fun x hx => own_keep (h.nodes x hx) hk (own_ne (h.nodes x hx) hb0 (by decide))⟩

theorem cell_three_new (w : World) (x y z : Value) (t : TypeId) : ∀ j u, [x, y, z][j]? = some u → (w.alloc (.cells #[x, y, z] t)).cell? ((⟨w.heap.size, 0, none⟩ : Addr).add j) = some u := by
  intro j u hj
  match j, hj with
  | 0, hj =>
    simp at hj
    subst hj
    simp [Addr.add]
  | 1, hj =>
    simp at hj
    subst hj
    simp [Addr.add]
  | 2, hj =>
    simp at hj
    subst hj
    simp [Addr.add]
theorem infoStep : (Tryd.prog.info? 136).map (fun i => (i.zero, i.size, i.bytes)) = some (some (.agg #[.int .i64 0, .int .i64 0, .slice none 0 0]), 3, 40) := by kernel_rfl

theorem VisPost.mk {w w1 wr w6 : World} {size : Nat} {gv : Value} {bS bG bP gS : Nat} {sv v6 : Value} {ss : List StV} {S : Nat → Bool} {cs : Array Value} {par : Int} {l : Nat} {fr : List Nat} {A : Option Addr} {c : Nat} {o : Obj} (h : FPst w w1 size gv bS bG bP gS sv ss S) (hk : KeepB (fun b => b = gS) w1 wr)
    (hb : Blk wr gS 4 cs) (hs : SeenAt cs size (fun n => S n || fr.contains n)) (hfr : fr ≠ []) (hfv : wr.ownsRow w1.heap.size 3 1 (.slice A fr.length c) fr.length (natVals fr))
    (hO6 : w6.ownsRow w.heap.size 136 3 v6 (ss.length + 1) (stCells ss ++ [.int .i64 par, .int .i64 (l : Nat), .slice A fr.length c])) (hg6 : (wr.alloc o).grownBy w6 sv.ownBlock) :
    VisPost w w1 size gv bS bG bP gS sv ss S par l fr (w6.setCell ⟨bP, 0, none⟩ v6) := by
  have hr := h.keep hk hb hs
  have hkA : KeepB (fun b => sv.ownBlock = some b) wr w6 := ((KeepB.refl _ wr).alloc o).grown hg6 fun k hk _ => hk
  have hP6 : Blk w6 bP 134 #[sv] := hr.blkP.keep hkA fun e => own_ne hr.own hr.blkP (by decide) bP e rfl
  have hk7 : KeepB (fun b => b = bP) w6 (w6.setCell ⟨bP, 0, none⟩ v6) := (KeepB.refl _ w6).setCell _ _ fun _ => rfl
  have hkB : KeepB (fun b => b = bP ∨ sv.ownBlock = some b) wr (w6.setCell ⟨bP, 0, none⟩ v6) := (hkA.mono fun k h => .inr h).trans (hk7.mono fun k h => .inl h)
  have nB : ∀ {g t cs}, Blk wr g t cs → t ≠ 134 → t ≠ 136 → ¬ (g = bP ∨ sv.ownBlock = some g) := fun hg h1 h2 e => by
    rcases e with e | e
    · exact hg.ne hr.blkP h1 e
    · exact own_ne hr.own hg (Ne.symm h2) _ e rfl
  have nO : ∀ {base e size v n xs}, wr.ownsRow base e size v n xs → e ≠ 134 → e ≠ 136 → ∀ g, v.ownBlock = some g → ¬ (g = bP ∨ sv.ownBlock = some g) := fun ho h1 h2 g hg e => by
    rcases e with e | e
    · exact own_ne ho hr.blkP h1 g hg e
    · exact own_ne_own ho hr.own h2 g g hg e rfl
  obtain ⟨cs', hb', hs'⟩ := hr.seen
  refine ⟨v6, ss ++ [⟨⟨par, l, fr⟩, A, c⟩], ⟨?_, hr.blkS.keep hkB (nB hr.blkS (by decide) (by decide)), hr.blkG.keep hkB (nB hr.blkG (by decide) (by decide)), ?_, ⟨cs', hb'.keep hkB (nB hb' (by decide) (by decide)), hs'⟩, hr.geS, hr.geP, ?_, ?_⟩, .inr ⟨hfr, A, c, rfl⟩, ?_⟩
  · refine hkB.below hr.below hr.below.size fun b e => ?_
    rcases e with e | e
    · rw [e]; exact hr.geP
    · exact own_block hr.own b e
  · have := hP6.set_ 0 v6
    simpa using this
  · rw [List.length_append, stCells_append]
    exact own_keep hO6 hk7 (own_ne hO6 hP6 (by decide))
  · intro x hx
    rcases List.mem_append.1 hx with hx | hx
    · exact own_keep (hr.nodes x hx) hkB (nO (hr.nodes x hx) (by decide) (by decide))
    · rw [List.mem_singleton] at hx
      subst hx
      exact own_base (own_keep hfv hkB (nO hfv (by decide) (by decide))) h.below.size
  · refine (hk.mono fun k h => .inl h).trans ⟨hkB.os, hkB.tape, hkB.output, hkB.size, fun k hk' hne => hkB.block k hk' fun e => hne (.inr e)⟩

set_option maxRecDepth 100000 in
set_option maxHeartbeats 4000000 in
theorem visit_any (w : World) (size : Nat) (G : Nat → Bool) (fG : FuncId) (capG : Array Value) (hG : GoalOk w size G fG capG) (bS bG bP gS : Nat) (sv : Value) (ss : List StV) (S : Nat → Bool) (par : Int) (l : Nat) (nv : Value) (ns : List Nat) (w1 : World)
    (hst : FPst w w1 size (.func (.func fG) #[] capG) bS bG bP gS sv ss S) (hnv : w1.ownsRow 0 3 1 nv ns.length (natVals ns)) (hns : ∀ n ∈ ns, n < size) (hnl : ns.length ≤ 4294967296) (hsl : ss.length ≤ 4294967296) :
    Calls Tryd.prog 132 #[.int .i64 par, .int .i64 (l : Nat), nv, .pointer (some ⟨bS, 0, none⟩), .pointer (some ⟨bG, 0, none⟩), .pointer (some ⟨bP, 0, none⟩)] w1 fun e w2 => e = .returned (.bool ((frs S ns).any G)) ∧ VisPost w w1 size (.func (.func fG) #[] capG) bS bG bP gS sv ss S par l (frs S ns) w2 := by
  have hcf := hG.run
  obtain ⟨A, c, rfl, hnc, hnc'⟩ := own_slice hnv
  obtain ⟨i0, hi, hz0, hz1, hz2⟩ := info_parts infoInt
  have hneS := hst.blkS
  obtain ⟨cs0, hblk0, hseen0⟩ := hst.seen
  replace hst := hid hst
  replace hnv := hid hnv
  replace hns := hid hns
  replace hblk0 := hid hblk0
  replace hseen0 := hid hseen0
  replace hneS := hid hneS
  go_enter Tryd.func132, Tryd.ntmps132
  go_wp2_with fail
  go_loopw [10, 11, 16] (fun fv found iv wr => ∃ (k : Nat) (cs : Array Value), iv = .int .i64 k ∧ k ≤ ns.length ∧ found = .bool ((frs S (ns.take k)).any G) ∧ wr.ownsRow w1.heap.size 3 1 fv (frs S (ns.take k)).length (natVals (frs S (ns.take k))) ∧
      Blk wr gS 4 cs ∧ SeenAt cs size (fun n => S n || (frs S (ns.take k)).contains n) ∧ KeepB (fun b => b = gS) w1 wr) (fun _ _ iv _ => ns.length - (intOf iv).toNat)
  case atStart => exact ⟨0, cs0, rfl, by omega, rfl, World.ownsRow_nil _ _ _ _, hblk0.out, by simpa [frs_nil] using hseen0.out, KeepB.refl _ _⟩
  case round =>
    obtain ⟨k, cs, rfl, hk, rfl, hown, hblk, hseen, hkp⟩ := hrel
    by_cases hlt : k < ns.length
    · have hnvr := own_keep hnv.out hkp (fun g hg e => own_ne hnv.out hblk0.out (by decide) g hg e)
      obtain ⟨gn, cn, hve, -, -, -, -, hcell⟩ := own_shape hnvr (by omega)
      injection hve with hv1 hv2 hv3
      subst hv1
      subst hv3
      have n0 := hcell k _ (show (natVals ns)[k]? = some (.int .i64 (ns[k] : Nat)) from by unfold natVals; simp [hlt])
      have hns1 := hns.out ns[k] (List.getElem_mem hlt)
      have hstep := frs_take S ns hlt
      obtain ⟨n, hnn⟩ : ∃ n, n = ns[k] := ⟨_, rfl⟩
      rw [← hnn] at n0 hns1 hstep
      have hSr := hneS.out.keep hkp (fun e => hneS.out.ne hblk0.out (by decide) e)
      have s0 := hSr.cell 0
      simp only [List.getElem?_toArray, List.getElem?_cons_zero] at s0
      have m0 := hblk.cell n
      rw [hseen.2 n hns1] at m0
      dsimp only at m0
      have z0 := hblk.frozen n
      obtain ⟨fr, hfr⟩ : ∃ fr, fr = frs S (ns.take k) := ⟨_, rfl⟩
      rw [← hfr] at hown hseen m0 hstep ⊢
      have hfl : fr.length ≤ k := by
        have := frs_len S (ns.take k)
        rw [← hfr] at this
        simp at this
        omega
      have i1 : (0 : Int) ≤ (k : Int) := by omega
      have i2 : (k : Int) < (ns.length : Int) := by omega
      have i3 : (0 : Int) ≤ (n : Int) := by omega
      have i4 : (n : Int) < (size : Int) := by omega
      replace hnvr := hid hnvr
      replace hSr := hid hSr
      replace hcell := hid hcell
      replace hnn := hid hnn
      replace hfr := hid hfr
      replace hown := hid hown
      replace hseen := hid hseen
      replace hblk := hid hblk
      replace hstep := hid hstep
      cases hm : (S n || fr.contains n)
      · rw [hm] at m0
        have hst2 : Hid (frs S (ns.take (k + 1)) = fr ++ [n]) := hid (by rw [hstep.out]; unfold frsStep; rw [if_neg (by rw [hm]; simp)])
        have hany : Hid ((fr ++ [n]).any G = (fr.any G || G n)) := hid (by simp)
        replace hm := hid hm
        have hb1 := hst.out.below
        have hseen2 : Hid (SeenAt (cs.setIfInBounds n (.bool true)) size (fun x => S x || (fr ++ [n]).contains x)) := hid (hseen.out.set_ hns1 fun x => by
          simp only [List.contains_eq_mem, List.mem_append, List.mem_singleton, Bool.or_assoc]
          congr 1
          rw [Bool.eq_iff_iff]
          simp)
        have hzr := hkp.size
        have hkp2 : Hid (KeepB (fun b => b = gS) w1 (wr.setCell ⟨gS, n, none⟩ (.bool true))) := hid (hkp.setCell _ _ fun _ => rfl)
        have hblk2 : Hid (Blk (wr.setCell ⟨gS, n, none⟩ (.bool true)) gS 4 (cs.setIfInBounds n (.bool true))) := hid (hblk.out.set_ _ _)
        have hown2 : Hid ((wr.setCell ⟨gS, n, none⟩ (.bool true)).ownsRow w1.heap.size 3 1 _ fr.length (natVals fr)) := hid (ownsRow_setCell_below hown.out (by have := hblk0.out.lt; simpa using this) _)
        cases hg : fr.any G
        · go_wp2_with (at_builtin; refine wpList_append_own_at _ rfl _ _ 81 rfl w1.heap.size 3 i0 (.int .i64 0) 1 8 Tryd.underlying81 hi hz0 hz1 hz2 rfl (by decide) _ _ _ rfl (hown2.out.alloc _) ⟨wr.heap.size, 0, none⟩ 1 1 [.int .i64 (n : Int)] rfl rfl (by have := cell_one_new (wr.setCell ⟨gS, n, none⟩ (.bool true)) (.int .i64 (n : Int)) 3; simpa using this) (by intro u hu; simp at hu; subst hu; rfl) (by unfold maxLen; omega) (by omega) (by simp; omega) ?_; intro v4 w4 hown4 hgr4 _ hat4; have hkp4 : Hid (KeepB (fun b => b = gS) w1 w4) := hid ((hkp2.out.alloc _).grown hgr4 fun b hb hlt => absurd (own_block hown.out b hb) (by omega)); have hblk4 : Hid (Blk w4 gS 4 (cs.setIfInBounds n (.bool true))) := hid ((hgr4.block gS (hblk2.out.alloc _).lt (fun e => own_ne hown2.out hblk2.out (by decide) gS e.symm rfl)).trans (hblk2.out.alloc _)); have hG4 := hst.out.blkG.keep hkp4.out (fun e => hst.out.blkG.ne hblk0.out (by decide) e); have g0 := hG4.cell 0; simp only [List.getElem?_toArray, List.getElem?_cons_zero] at g0; replace hG4 := hid hG4; replace hown4 := hid hown4; replace hgr4 := hid hgr4; replace hat4 := hid hat4)
          have hb4 := hid (hkp4.out.below hb1 hb1.size fun b hb => by rw [hb]; exact hst.out.geS)
          refine (hG.call w4 n hb4.out hns1).mono ?_
          rintro e w5 ⟨rfl, hb5⟩
          replace hg := hid hg
          have hk5 : Hid (KeepB (fun b => b = gS) w1 w5) := hid (hkp4.out.trans (.of_below hb5))
          have hown5 := hid (own_keep hown4.out (.of_below (K := fun _ => False) hb5) fun _ _ h => h)
          have hblk5 := hid (hblk4.out.below hb5 hblk4.out.lt)
          go_wp2_with fail
          go_roundw
          case rel => exact ⟨k + 1, _, by go_num, by omega, by rw [hst2.out, hany.out, hg.out]; rfl, by rw [hst2.out, List.length_append]; unfold natVals; rw [List.map_append]; exact hown5.out, hblk5.out, by rw [hst2.out]; exact hseen2.out, hk5.out⟩
          case measure => simp [intOf]; omega
        · go_wp2_with (at_builtin; refine wpList_append_own_at _ rfl _ _ 81 rfl w1.heap.size 3 i0 (.int .i64 0) 1 8 Tryd.underlying81 hi hz0 hz1 hz2 rfl (by decide) _ _ _ rfl (hown2.out.alloc _) ⟨wr.heap.size, 0, none⟩ 1 1 [.int .i64 (n : Int)] rfl rfl (by have := cell_one_new (wr.setCell ⟨gS, n, none⟩ (.bool true)) (.int .i64 (n : Int)) 3; simpa using this) (by intro u hu; simp at hu; subst hu; rfl) (by unfold maxLen; omega) (by omega) (by simp; omega) ?_; intro v4 w4 hown4 hgr4 _ hat4; have hkp4 : Hid (KeepB (fun b => b = gS) w1 w4) := hid ((hkp2.out.alloc _).grown hgr4 fun b hb hlt => absurd (own_block hown.out b hb) (by omega)); have hblk4 : Hid (Blk w4 gS 4 (cs.setIfInBounds n (.bool true))) := hid ((hgr4.block gS (hblk2.out.alloc _).lt (fun e => own_ne hown2.out hblk2.out (by decide) gS e.symm rfl)).trans (hblk2.out.alloc _)); have hG4 := hst.out.blkG.keep hkp4.out (fun e => hst.out.blkG.ne hblk0.out (by decide) e); have g0 := hG4.cell 0; simp only [List.getElem?_toArray, List.getElem?_cons_zero] at g0; replace hG4 := hid hG4; replace hown4 := hid hown4; replace hgr4 := hid hgr4; replace hat4 := hid hat4)
          replace hg := hid hg
          go_roundw
          case rel => exact ⟨k + 1, _, by go_num, by omega, by rw [hst2.out, hany.out, hg.out]; rfl, by rw [hst2.out, List.length_append]; unfold natVals; rw [List.map_append]; exact hown4.out, hblk4.out, by rw [hst2.out]; exact hseen2.out, hkp4.out⟩
          case measure => simp [intOf]; omega
      · rw [hm] at m0
        have hst2 : Hid (frs S (ns.take (k + 1)) = fr) := hid (by rw [hstep.out]; unfold frsStep; rw [if_pos hm])
        replace hm := hid hm
        go_wp2_with fail
        go_roundw
        case rel => exact ⟨k + 1, cs, by go_num, by omega, by rw [hst2.out], by rw [hst2.out]; exact hown.out, hblk.out, by rw [hst2.out]; exact hseen.out, hkp⟩
        case measure => simp [intOf]; omega
    · have hkn : ns.take k = ns := List.take_of_length_le (by omega)
      rw [hkn] at hown hseen ⊢
      obtain ⟨fr, hfr⟩ : ∃ fr, fr = frs S ns := ⟨_, rfl⟩
      rw [← hfr] at hown hseen ⊢
      have hfl : fr.length ≤ ns.length := by rw [hfr]; exact frs_len S ns
      have hPr := hst.out.blkP.keep hkp (fun e => hst.out.blkP.ne hblk0.out (by decide) e)
      have p0 := hPr.cell 0
      simp only [List.getElem?_toArray, List.getElem?_cons_zero] at p0
      have hsr := hid (hst.out.keep hkp hblk hseen)
      replace hkn := hid hkn
      replace hfr := hid hfr
      replace hPr := hid hPr
      obtain ⟨fA, fc, rfl, hfc, hfc'⟩ := own_slice hown
      by_cases hf0 : fr.length = 0
      · have hfe : Hid (fr = []) := hid (by simpa using hf0)
        replace hown := hid hown
        have hn0 : ¬ (0 < fr.length) := by omega
        go_wp2_with fail
        go_ret
        exact ⟨by rw [← hfr.out]; rfl, by rw [← hfr.out]; exact ⟨_, ss, hsr.out, .inl ⟨hfe.out, rfl⟩, hkp.mono fun b h => .inl h⟩⟩
      · have hn0 : 0 < fr.length := by omega
        replace hown := hid hown
        have hzr := hkp.size
        have hbs := hst.out.below.size
        have hfne : Hid (fr ≠ []) := hid fun e => hf0 (by rw [e]; rfl)
        obtain ⟨j0, hj, hj0, hj1, hj2⟩ := info_parts infoStep
        go_wp2_with (at_builtin; refine wpList_append_own_at _ rfl _ _ 134 rfl w.heap.size 136 j0 (.agg #[.int .i64 0, .int .i64 0, .slice none 0 0]) 3 40 Tryd.underlying134 hj hj0 hj1 hj2 rfl (by decide) _ _ _ rfl (hsr.out.own.alloc _) ⟨wr.heap.size, 0, none⟩ 1 1 [.int .i64 par, .int .i64 (l : Nat), .slice fA fr.length fc] rfl rfl (cell_three_new _ _ _ _ _) (by intro u hu; simp at hu; rcases hu with rfl | rfl | rfl <;> rfl) (by unfold maxLen; omega) (by omega) (by simp; omega) ?_; intro v6 w6 hO6 hgr6 _ _; obtain ⟨A6, c6, rfl, -, -⟩ := own_slice hO6; have hkA : KeepB (fun b => sv.ownBlock = some b) wr w6 := ((KeepB.refl _ wr).alloc _).grown hgr6 fun k hk _ => hk; have hP6 : Blk w6 bP 134 #[sv] := hPr.out.keep hkA fun e => own_ne hsr.out.own hPr.out (by decide) bP e rfl; have q0 := hP6.cell 0; simp only [List.getElem?_toArray, List.getElem?_cons_zero] at q0; have zq := hP6.frozen 0; replace hP6 := hid hP6; replace hkA := hid hkA; replace hO6 := hid hO6; replace hgr6 := hid hgr6)
        go_ret
        exact ⟨by rw [← hfr.out]; rfl, by rw [← hfr.out]; exact VisPost.mk hst.out hkp hblk hseen hfne.out hown.out hO6.out hgr6.out⟩

end Go.Proofs.YtempjhgajcdibaaDoor

/- Plain: a breadth-first search that looks at its goal when a node is taken up; the reference's search over pairs of sets. -/
namespace AG

section
variable {I : Nat → Prop} {L : List Nat} {nx : Nat → Nat → List Nat} {G : Nat → Prop} {ss : List Stp} {ws : List (List Nat)} {i : Nat}

theorem rle_of_incr (h : ∀ j j' (h : j < ws.length) (h' : j' < ws.length), j < j' → rlt ws[j] ws[j']) {j j' : Nat} (hj : j < ws.length) (hj' : j' < ws.length) (hle : j ≤ j') : rle ws[j] ws[j'] := by
  by_cases e : j = j'
  · subst e; exact .inr rfl
  · exact .inl (h j j' hj hj' (by omega))

/-- The node that is taken up is a goal, none before it was: its word is the first one. -/
theorem Bfs.popped (h : Bfs I L nx (fun _ => False) ss ws i 0) (hi : i < ss.length) (hi' : i < ws.length) (hpre : ∀ j (hj : j < ss.length), j < i → ∀ n ∈ ss[j].nodes, ¬ G n) {n : Nat} (hn : n ∈ ss[i].nodes) (hg : G n) : FirstW I L nx G ws[i] := by
  refine ⟨⟨n, h.reach i hi hi' n hn, hg⟩, fun q m hm hgm => ?_⟩
  rcases h.cover q m hm with ⟨j, g, g', hj, hr⟩ | ⟨j, m', g, g', hm', hny, hr⟩
  · by_cases hji : j < i
    · exact absurd hgm (hpre j g hji m hj)
    · exact rle_trans (rle_of_incr h.incr hi' g' (by omega)) hr
  · have hji : i ≤ j := by unfold before at hny; omega
    exact rle_trans (rle_trans (rle_of_incr h.incr hi' g' hji) (.inl (rlt_cons _ _))) hr

/-- The search has come to its end and no node was a goal. -/
theorem Bfs.nonePopped (h : Bfs I L nx (fun _ => False) ss ws ss.length 0) (hpre : ∀ j (hj : j < ss.length), ∀ n ∈ ss[j].nodes, ¬ G n) : ∀ q n, RW I L nx q n → ¬ G n := by
  intro q n hn
  rcases h.cover q n hn with ⟨j, g, g', hj, _⟩ | ⟨j, m, g, g', hm, hny, _⟩
  · exact hpre j g n hj
  · exact absurd (.inl g) hny
end

/-- A pair of sets as one number. -/
def code (p : Nat × Nat) : Nat := p.1 * 65536 + p.2
theorem code_inj {p q : Nat × Nat} (hp : p.2 < 65536) (hq : q.2 < 65536) (h : code p = code q) : p = q := by
  unfold code at h
  exact Prod.ext (by omega) (by omega)

/-- The pair behind a letter. -/
noncomputable def stepP (a b : Sy) (p : Nat × Nat) (l : Nat) : Nat × Nat := (stepSet a p.1 (l : Int), stepSet b p.2 (l : Int))
/-- The reference's search: its start, its steps, its goal. -/
def pI (n : Nat) : Prop := n = code (1, 1)
noncomputable def pN (a b : Sy) (n l : Nat) : List Nat := if (stepP a b (n / 65536, n % 65536) l).1 = 0 then [] else [code (stepP a b (n / 65536, n % 65536) l)]
def pG (n : Nat) : Prop := n % 65536 = 0
theorem code_parts {p : Nat × Nat} (h : p.2 < 65536) : (code p / 65536, code p % 65536) = p := by
  unfold code
  exact Prod.ext (by show (p.1 * 65536 + p.2) / 65536 = p.1; omega) (by show (p.1 * 65536 + p.2) % 65536 = p.2; omega)

end AG

/- Plain: the reference's search as lists of pairs and words. -/
namespace AG

theorem nodup_bound : ∀ (N : Nat) (l : List Nat), l.Nodup → (∀ x ∈ l, x < N) → l.length ≤ N
  | 0, l, _, h => by
    cases l with
    | nil => exact Nat.le_refl _
    | cons x l => exact absurd (h x List.mem_cons_self) (by omega)
  | N + 1, l, hd, h => by
    by_cases hN : N ∈ l
    · have h1 := nodup_bound N (l.erase N) (hd.erase N) fun x hx => by
        have := (hd.mem_erase_iff).1 hx
        have := h x this.2
        omega
      rw [List.length_erase_of_mem hN] at h1
      omega
    · have := nodup_bound N l hd fun x hx => by
        have h1 := h x hx
        have h2 : x ≠ N := fun e => hN (e ▸ hx)
        omega
      omega

/-- The state of the reference's search. -/
structure PB (a b : Sy) (L : List Nat) (ps : List (Nat × Nat)) (ws : List (List Nat)) (i k : Nat) : Prop where
  bfs : ∃ ss : List Stp, ss.map (·.nodes) = ps.map (fun p => [code p]) ∧ Bfs pI L (pN a b) (fun _ => False) ss ws i k
  small : ∀ p ∈ ps, p.1 < 65536 ∧ p.2 < 65536
  nodup : ps.Nodup

section
variable {a b : Sy} {L : List Nat} {ps : List (Nat × Nat)} {ws : List (List Nat)} {i k : Nat}

theorem nodes_at {ss : List Stp} (h : ss.map (·.nodes) = ps.map (fun p => [code p])) : ss.length = ps.length ∧ ∀ j (hj : j < ss.length) (hj' : j < ps.length), ss[j].nodes = [code ps[j]] := by
  have hl : ss.length = ps.length := by simpa using congrArg List.length h
  refine ⟨hl, fun j hj hj' => ?_⟩
  have := congrArg (·[j]?) h
  simpa [hj, hj'] using this

theorem PB.begin : PB a b L [(1, 1)] [[]] 0 0 :=
  ⟨⟨[⟨-1, 0, [code (1, 1)]⟩], rfl, Bfs.begin (fun n => by simp [pI]) (fun _ _ h => h)⟩, fun p hp => by simp at hp; subst hp; decide, by simp⟩

theorem PB.len (h : PB a b L ps ws i k) : ws.length = ps.length := by
  obtain ⟨ss, hs, hb⟩ := h.bfs
  rw [hb.len, (nodes_at hs).1]

theorem Bfs.wlen {I : Nat → Prop} {L : List Nat} {nx : Nat → Nat → List Nat} {G : Nat → Prop} {ss : List Stp} {ws : List (List Nat)} {i k : Nat} (h : Bfs I L nx G ss ws i k) : ∀ j (hj : j < ws.length), ws[j].length ≤ j := by
  intro j
  induction j using Nat.strongRecOn with
  | _ j ih =>
    intro hj
    by_cases e : j = 0
    · subst e
      rw [h.zero hj]
      exact Nat.le_refl _
    · obtain ⟨p, q, hpj, _, _, hp, _, _, hw⟩ := h.link j (by rw [← h.len]; exact hj) hj (by omega)
      have := ih p hpj hp
      rw [hw, List.length_cons]
      omega
theorem PB.wlen (h : PB a b L ps ws i k) {j : Nat} (hj : j < ws.length) : ws[j].length ≤ j := by
  obtain ⟨ss, _, hb⟩ := h.bfs
  exact hb.wlen j hj

theorem PB.bound (h : PB a b L ps ws i k) : ps.length ≤ 4294967296 := by
  have h1 : (ps.map code).Nodup := by
    refine List.pairwise_map.2 (h.nodup.imp_of_mem fun {x y} hx hy hne he => hne (code_inj (h.small x hx).2 (h.small y hy).2 he))
  have h2 := nodup_bound 4294967296 (ps.map code) h1 fun x hx => by
    obtain ⟨p, hp, rfl⟩ := List.mem_map.1 hx
    have := h.small p hp
    unfold code
    omega
  simpa using h2

theorem PB.over (h : PB a b L ps ws i k) (hk : L.length ≤ k) : PB a b L ps ws (i + 1) 0 := by
  obtain ⟨ss, hs, hb⟩ := h.bfs
  exact ⟨⟨ss, hs, hb.over hk⟩, h.small, h.nodup⟩

theorem PB.skip (h : PB a b L ps ws i k) (hL : L.Pairwise (· < ·)) (hi : i < ps.length) (hk : k < L.length) (hq : (stepP a b ps[i] L[k]).1 = 0 ∨ stepP a b ps[i] L[k] ∈ ps) : PB a b L ps ws i (k + 1) := by
  obtain ⟨ss, hs, hb⟩ := h.bfs
  obtain ⟨hl, hn⟩ := nodes_at hs
  refine ⟨⟨ss, hs, hb.stale hL (by omega) hk fun n hn1 n' hn2 => ?_⟩, h.small, h.nodup⟩
  rw [hn i (by omega) hi, List.mem_singleton] at hn1
  subst hn1
  unfold pN at hn2
  rw [code_parts (h.small _ (List.getElem_mem hi)).2] at hn2
  rcases hq with hq | hq
  · rw [if_pos hq] at hn2
    cases hn2
  · split at hn2
    · cases hn2
    · rw [List.mem_singleton] at hn2
      obtain ⟨j, hj, he⟩ := List.mem_iff_getElem.1 hq
      exact ⟨j, by omega, by rw [hn j (by omega) hj, List.mem_singleton, hn2, he]⟩

theorem PB.add (h : PB a b L ps ws i k) (hL : L.Pairwise (· < ·)) (hi : i < ps.length) (hi' : i < ws.length) (hk : k < L.length) (h0 : (stepP a b ps[i] L[k]).1 ≠ 0) (hq : stepP a b ps[i] L[k] ∉ ps) :
    PB a b L (ps ++ [stepP a b ps[i] L[k]]) (ws ++ [L[k] :: ws[i]]) i (k + 1) := by
  obtain ⟨ss, hs, hb⟩ := h.bfs
  obtain ⟨hl, hn⟩ := nodes_at hs
  have hN : pN a b (code ps[i]) L[k] = [code (stepP a b ps[i] L[k])] := by
    unfold pN
    rw [code_parts (h.small _ (List.getElem_mem hi)).2, if_neg h0]
  refine ⟨⟨ss ++ [⟨i, L[k], [code (stepP a b ps[i] L[k])]⟩], by rw [List.map_append, List.map_append, hs]; rfl, hb.fresh hL (by omega) hi' hk (fun n' hn' => ?_) (fun n hn1 n' hn2 => ?_) (fun _ _ h => h)⟩, fun p hp => ?_, ?_⟩
  · exact ⟨code ps[i], by rw [hn i (by omega) hi]; exact List.mem_singleton.2 rfl, by rw [hN]; exact hn'⟩
  · rw [hn i (by omega) hi, List.mem_singleton] at hn1
    subst hn1
    rw [hN] at hn2
    exact .inl hn2
  · rcases List.mem_append.1 hp with hp | hp
    · exact h.small p hp
    · rw [List.mem_singleton] at hp
      subst hp
      exact ⟨stepSet_lt _ _ _, stepSet_lt _ _ _⟩
  · rw [List.nodup_append]
    refine ⟨h.nodup, by simp, fun x hx y hy e => ?_⟩
    rw [List.mem_singleton] at hy
    subst hy e
    exact hq hx

theorem PB.found (h : PB a b L ps ws i 0) (hi : i < ps.length) (hi' : i < ws.length) (hpre : ∀ j (hj : j < ps.length), j < i → ps[j].2 ≠ 0) (h0 : ps[i].2 = 0) : FirstW pI L (pN a b) pG ws[i] := by
  obtain ⟨ss, hs, hb⟩ := h.bfs
  obtain ⟨hl, hn⟩ := nodes_at hs
  refine hb.popped (by omega) hi' (fun j hj hji n hnj hg => ?_) (n := code ps[i]) (by rw [hn i (by omega) hi]; exact List.mem_singleton.2 rfl) ?_
  · rw [hn j hj (by omega), List.mem_singleton] at hnj
    subst hnj
    have := h.small _ (List.getElem_mem (show j < ps.length by omega))
    refine hpre j (by omega) hji ?_
    unfold pG code at hg
    omega
  · unfold pG code
    omega

theorem PB.none (h : PB a b L ps ws ps.length 0) (hpre : ∀ j (hj : j < ps.length), ps[j].2 ≠ 0) : ∀ q n, RW pI L (pN a b) q n → ¬ pG n := by
  obtain ⟨ss, hs, hb⟩ := h.bfs
  obtain ⟨hl, hn⟩ := nodes_at hs
  rw [← hl] at hb
  refine hb.nonePopped fun j hj n hnj hg => ?_
  rw [hn j hj (by omega), List.mem_singleton] at hnj
  subst hnj
  have := h.small _ (List.getElem_mem (show j < ps.length by omega))
  refine hpre j (by omega) ?_
  unfold pG code at hg
  omega
end

end AG

/- Plain: the program's breadth-first search. -/
namespace AG

/-- The state of the search. -/
structure SB (I : Nat → Prop) (L : List Nat) (nx : Nat → Nat → List Nat) (G : Nat → Bool) (size : Nat) (ss : List Stp) (ws : List (List Nat)) (S : Nat → Bool) (i k : Nat) : Prop where
  bfs : Bfs I L nx (fun n => G n = true) ss ws i k
  seen : ∀ n, S n = true ↔ ∃ x ∈ ss, n ∈ x.nodes
  small : ∀ x ∈ ss, ∀ n ∈ x.nodes, n < size
  ne : ∀ x ∈ ss, x.nodes ≠ []
  nodup : (ss.flatMap (·.nodes)).Nodup

section
variable {I : Nat → Prop} {L : List Nat} {nx : Nat → Nat → List Nat} {G : Nat → Bool} {size : Nat} {ss : List Stp} {ws : List (List Nat)} {S : Nat → Bool} {i k : Nat}

theorem flat_len : ∀ {ss : List Stp}, (∀ x ∈ ss, x.nodes ≠ []) → ss.length ≤ (ss.flatMap (·.nodes)).length
  | [], _ => Nat.le_refl _
  | x :: ss, h => by
    have h1 := flat_len (ss := ss) fun y hy => h y (List.mem_cons_of_mem _ hy)
    have h2 : 0 < x.nodes.length := List.length_pos_iff.2 (h x List.mem_cons_self)
    rw [List.flatMap_cons, List.length_append, List.length_cons]
    omega
theorem flat_nodup : ∀ {ss : List Stp} {x : Stp}, (ss.flatMap (·.nodes)).Nodup → x ∈ ss → x.nodes.Nodup
  | y :: ss, x, h, hx => by
    rw [List.flatMap_cons, List.nodup_append] at h
    rcases List.mem_cons.1 hx with rfl | hx
    · exact h.1
    · exact flat_nodup h.2.1 hx
theorem SB.bound (h : SB I L nx G size ss ws S i k) : ss.length ≤ size := by
  refine Nat.le_trans (flat_len h.ne) (nodup_bound size _ h.nodup fun x hx => ?_)
  obtain ⟨y, hy, hxy⟩ := List.mem_flatMap.1 hx
  exact h.small y hy x hxy
theorem SB.nodesLen (h : SB I L nx G size ss ws S i k) {x : Stp} (hx : x ∈ ss) : x.nodes.length ≤ size := by
  exact nodup_bound size _ (flat_nodup h.nodup hx) (h.small x hx)

theorem SB.begin {I0 : List Nat} (h0 : I0 ≠ []) (hs : ∀ n ∈ I0, n < size) (hg : (frs (fun _ => false) I0).any G = false) :
    SB (fun n => n ∈ I0) L nx G size [⟨-1, 0, frs (fun _ => false) I0⟩] [[]] (fun n => (frs (fun _ => false) I0).contains n) 0 0 := by
  have hm : ∀ n, n ∈ frs (fun _ => false) I0 ↔ n ∈ I0 := fun n => by rw [frs_mem]; simp
  refine ⟨Bfs.begin hm fun n hn e => ?_, fun n => by simp, fun x hx n hn => ?_, fun x hx e => ?_, by simpa using frs_nodup _ _⟩
  · rw [List.any_eq_false] at hg
    exact hg n hn e
  · rw [List.mem_singleton] at hx
    subst hx
    exact hs n ((hm n).1 hn)
  · rw [List.mem_singleton] at hx
    subst hx
    obtain ⟨a, ha⟩ := List.exists_mem_of_ne_nil _ h0
    have := (hm a).2 ha
    simp only at e
    rw [e] at this
    cases this
/-- The goal is among the first nodes. -/
theorem first_now {I0 : List Nat} (hg : (frs (fun _ => false) I0).any G = true) : FirstW (fun n => n ∈ I0) L nx (fun n => G n = true) [] := by
  rw [List.any_eq_true] at hg
  obtain ⟨n, hn, h⟩ := hg
  exact ⟨⟨n, ((frs_mem _ _ _).1 hn).1, h⟩, fun q m _ _ => rle_nil q⟩

/-- What the nodes of step i reach by letter number k. -/
def reachedL (nx : Nat → Nat → List Nat) (l : Nat) (ns : List Nat) : List Nat := ns.flatMap fun n => nx n l
theorem reachedL_snoc (l : Nat) (ns : List Nat) (n : Nat) : reachedL nx l (ns ++ [n]) = reachedL nx l ns ++ nx n l := by unfold reachedL; rw [List.flatMap_append]; simp
theorem reachedL_mem {l : Nat} {ns : List Nat} {x : Nat} : x ∈ reachedL nx l ns ↔ ∃ n ∈ ns, x ∈ nx n l := by unfold reachedL; rw [List.mem_flatMap]

theorem SB.over (h : SB I L nx G size ss ws S i k) (hk : L.length ≤ k) : SB I L nx G size ss ws S (i + 1) 0 := ⟨h.bfs.over hk, h.seen, h.small, h.ne, h.nodup⟩

theorem SB.old (h : SB I L nx G size ss ws S i k) (hL : L.Pairwise (· < ·)) (hi : i < ss.length) (hk : k < L.length) (hf : frs S (reachedL nx L[k] ss[i].nodes) = []) : SB I L nx G size ss ws S i (k + 1) := by
  refine ⟨h.bfs.stale hL hi hk fun n hn n' hn' => ?_, h.seen, h.small, h.ne, h.nodup⟩
  have hno : ¬ n' ∈ frs S (reachedL nx L[k] ss[i].nodes) := by rw [hf]; simp
  rw [frs_mem] at hno
  have hS : S n' = true := by
    cases hS : S n'
    · exact absurd ⟨reachedL_mem.2 ⟨n, hn, hn'⟩, hS⟩ hno
    · rfl
  obtain ⟨x, hx, hxn⟩ := (h.seen n').1 hS
  obtain ⟨j, hj, rfl⟩ := List.mem_iff_getElem.1 hx
  exact ⟨j, hj, hxn⟩

theorem SB.add (h : SB I L nx G size ss ws S i k) (hL : L.Pairwise (· < ·)) (hi : i < ss.length) (hi' : i < ws.length) (hk : k < L.length) (hnx : ∀ q, q < size → ∀ n ∈ nx q L[k], n < size) {fr : List Nat} (hf : fr = frs S (reachedL nx L[k] ss[i].nodes))
    (hne : fr ≠ []) (hg : fr.any G = false) :
    SB I L nx G size (ss ++ [⟨i, L[k], fr⟩]) (ws ++ [L[k] :: ws[i]]) (fun n => S n || fr.contains n) i (k + 1) := by
  have hm : ∀ n, n ∈ fr ↔ n ∈ reachedL nx L[k] ss[i].nodes ∧ S n = false := fun n => by rw [hf, frs_mem]
  refine ⟨h.bfs.fresh hL hi hi' hk (fun n' hn' => ?_) (fun n hn n' hn' => ?_) (fun n' hn' e => ?_), fun n => ?_, fun x hx n hn => ?_, fun x hx => ?_, ?_⟩
  · exact reachedL_mem.1 ((hm n').1 hn').1
  · cases hS : S n'
    · exact .inl ((hm n').2 ⟨reachedL_mem.2 ⟨n, hn, hn'⟩, hS⟩)
    · obtain ⟨x, hx, hxn⟩ := (h.seen n').1 hS
      obtain ⟨j, hj, rfl⟩ := List.mem_iff_getElem.1 hx
      exact .inr ⟨j, hj, hxn⟩
  · rw [List.any_eq_false] at hg
    exact hg n' hn' e
  · rw [Bool.or_eq_true, h.seen]
    constructor
    · rintro (⟨x, hx, hn⟩ | hn)
      · exact ⟨x, List.mem_append_left _ hx, hn⟩
      · exact ⟨_, List.mem_append_right _ (List.mem_singleton.2 rfl), by simpa using hn⟩
    · rintro ⟨x, hx, hn⟩
      rcases List.mem_append.1 hx with hx | hx
      · exact .inl ⟨x, hx, hn⟩
      · rw [List.mem_singleton] at hx
        subst hx
        exact .inr (by simpa using hn)
  · rcases List.mem_append.1 hx with hx | hx
    · exact h.small x hx n hn
    · rw [List.mem_singleton] at hx
      subst hx
      obtain ⟨q, hq, hnq⟩ := reachedL_mem.1 ((hm n).1 hn).1
      exact hnx q (h.small _ (List.getElem_mem hi) q hq) n hnq
  · rcases List.mem_append.1 hx with hx | hx
    · exact h.ne x hx
    · rw [List.mem_singleton] at hx
      subst hx
      exact hne
  · rw [List.flatMap_append, List.nodup_append]
    refine ⟨h.nodup, by simp only [List.flatMap_cons, List.flatMap_nil, List.append_nil]; rw [hf]; exact frs_nodup _ _, fun a ha b hb e => ?_⟩
    subst e
    simp only [List.flatMap_cons, List.flatMap_nil, List.append_nil] at hb
    obtain ⟨x, hx, hxa⟩ := List.mem_flatMap.1 ha
    have h1 := (h.seen a).2 ⟨x, hx, hxa⟩
    have h2 := ((hm a).1 hb).2
    rw [h1] at h2
    cases h2

theorem SB.found (h : SB I L nx G size ss ws S i k) (hL : L.Pairwise (· < ·)) (hi : i < ss.length) (hi' : i < ws.length) (hk : k < L.length) (hg : (frs S (reachedL nx L[k] ss[i].nodes)).any G = true) :
    FirstW I L nx (fun n => G n = true) (L[k] :: ws[i]) := by
  rw [List.any_eq_true] at hg
  obtain ⟨n', hn', hG⟩ := hg
  obtain ⟨n, hn, hnn⟩ := reachedL_mem.1 ((frs_mem _ _ _).1 hn').1
  exact h.bfs.found hL hi hi' hk hn hnn hG
theorem SB.none (h : SB I L nx G size ss ws S ss.length 0) : ∀ q n, RW I L nx q n → ¬ G n = true := h.bfs.none
end
end AG

/- The program's search: firstPath. -/
namespace Go.Proofs.YtempjhgajcdibaaDoor
open Go.RowKit Go.BigFrame AG

/-- The steps of a search, as a function value: it appends to a list the nodes to which a letter leads. -/
structure NextOk (w : World) (size : Nat) (L : List Nat) (nx : Nat → Nat → List Nat) (fN : FuncId) (capN : Array Value) : Prop where
  run : ∀ args w', (callFunc fN args).run Tryd.prog w' = .ok (.enter fN args) w'
  lt : ∀ q, q < size → ∀ l ∈ L, ∀ n ∈ nx q l, n < size
  len : ∀ q, q < size → ∀ l ∈ L, (nx q l).length ≤ 4096
  call : ∀ w' (q l : Nat) (v : Value) (ns : List Nat) (base : Nat), Below w.heap.size w w' → q < size → l ∈ L → ns.length ≤ 4294967296 → w.heap.size ≤ base → base ≤ w'.heap.size → w'.ownsRow base 3 1 v ns.length (natVals ns) →
    Calls Tryd.prog fN (#[.int .i64 (q : Nat), .int .i64 (l : Nat), v] ++ capN) w' fun e w'' => ∃ v', e = .returned v' ∧ w''.ownsRow base 3 1 v' (ns ++ nx q l).length (natVals (ns ++ nx q l)) ∧ KeepB (fun b => v.ownBlock = some b) w' w''

theorem infoBool : (Tryd.prog.info? 4).map (fun i => (i.zero, i.size, i.bytes)) = some (some (.bool false), 1, 1) := by kernel_rfl

/-- The search in memory and as plain lists. -/
def SrchAt (w : World) (size : Nat) (G : Nat → Bool) (L : List Nat) (nx : Nat → Nat → List Nat) (I0 : List Nat) (gv : Value) (bS bG bP gS : Nat) (wr : World) (i k : Nat) (sv : Value) (ss : List StV) (ws : List (List Nat)) (S : Nat → Bool) : Prop :=
  FPst w wr size gv bS bG bP gS sv ss S ∧ SB (fun n => n ∈ I0) L nx G size (ss.map (·.st)) ws S i k

theorem PathOk.of {I : Nat → Prop} {L : List Nat} {nx : Nat → Nat → List Nat} {G : Nat → Prop} {ss : List StV} {ws : List (List Nat)} {i k : Nat} (h : Bfs I L nx G (ss.map (·.st)) ws i k) (hL6 : ∀ l ∈ L, l < 6) : PathOk ss ws := by
  refine ⟨by rw [h.len]; simp, h.zero, fun h0 => ?_, fun j hj hj' h0 => ?_⟩
  · have := h.root (by simpa using h0)
    simpa using this
  · obtain ⟨p, q, hpj, _, h1, hp, hq, h2, hw⟩ := h.link j (by simpa using hj) hj' h0
    simp only [List.getElem_map] at h1 h2
    exact ⟨p, hpj, h1, by rw [h2]; exact hL6 _ (List.getElem_mem _), hp, by rw [hw, h2]⟩
theorem PathOk.add {ss : List StV} {ws : List (List Nat)} (h : PathOk ss ws) {i l : Nat} (hi : i < ws.length) (hl : l < 6) (x : StV) (hx : x.st.par = (i : Int)) (hx' : x.st.let_ = l) : PathOk (ss ++ [x]) (ws ++ [l :: ws[i]]) := by
  have hlen := h.len
  have hpos : 0 < ws.length := by omega
  refine ⟨by simp [hlen], fun h0 => ?_, fun h0 => ?_, fun j hj hj' h0 => ?_⟩
  · rw [List.getElem_append_left hpos]; exact h.zero hpos
  · rw [List.getElem_append_left (by omega)]; exact h.root (by omega)
  · by_cases e : j < ws.length
    · obtain ⟨p, hpj, h1, h2, hp, hw⟩ := h.link j (by omega) e h0
      refine ⟨p, hpj, ?_, ?_, by simp; omega, ?_⟩
      · rw [List.getElem_append_left (by omega)]; exact h1
      · rw [List.getElem_append_left (by omega)]; exact h2
      · rw [List.getElem_append_left e, List.getElem_append_left hp, List.getElem_append_left (by omega)]; exact hw
    · obtain rfl : j = ws.length := by simp at hj'; omega
      refine ⟨i, hi, ?_, ?_, by simp; omega, ?_⟩
      · simp [hlen, hx]
      · simp [hlen, hx', hl]
      · rw [List.getElem_append_left hi]
        simp [hlen, hx']

theorem FPst.later {w w1 w2 : World} {size : Nat} {gv : Value} {bS bG bP gS : Nat} {sv : Value} {ss : List StV} {S : Nat → Bool} (h : FPst w w1 size gv bS bG bP gS sv ss S) (hb : Below w1.heap.size w1 w2) : FPst w w2 size gv bS bG bP gS sv ss S := by
  obtain ⟨cs, hc, hs⟩ := h.seen
  have hk : KeepB (fun b => b = gS) w1 w2 := .of_below hb
  exact h.keep hk (hc.below hb hc.lt) hs

theorem reachedL_len {nx : Nat → Nat → List Nat} {l size : Nat} : ∀ {ns : List Nat}, (∀ q ∈ ns, (nx q l).length ≤ 4096) → (reachedL nx l ns).length ≤ ns.length * 4096
  | [], _ => by simp [reachedL]
  | q :: ns, h => by
    have h1 := h q List.mem_cons_self
    have h2 := reachedL_len (size := size) (ns := ns) fun x hx => h x (List.mem_cons_of_mem _ hx)
    unfold reachedL at h2 ⊢
    rw [List.flatMap_cons, List.length_append, List.length_cons]
    omega

/-- What the search hands back: the first word to a goal, or none. -/
def PathPost (I : Nat → Prop) (L : List Nat) (nx : Nat → Nat → List Nat) (G : Nat → Prop) (o : Option (List Nat)) : Prop :=
  match o with
  | some r => FirstW I L nx G r
  | none => ∀ q n, RW I L nx q n → ¬ G n
def pathV (o : Option (List Nat)) : Value := .tuple #[.string (match o with | some r => wordS r | none => ⟨#[]⟩), .bool o.isSome]

theorem seen_start (size : Nat) : SeenAt (madeCells #[.bool false] size) size (fun _ => false) := by
  refine ⟨by simp [madeCells], fun n hn => ?_⟩
  have h1 := toList_madeCells_one (Value.bool false) size
  rw [← Array.getElem?_toList, h1, List.getElem?_replicate, if_pos hn]

theorem fp_start (w : World) (size : Nat) (gv : Value) :
    ∃ w4, (((w.alloc (Obj.cells #[gv] 62)).alloc (Obj.cells (madeCells #[Value.bool false] size) 4)).alloc (Obj.cells #[Value.slice (some ⟨w.heap.size + 1, 0, none⟩) size size] 98)).alloc (Obj.cells #[Value.slice none 0 0] 134) = w4 ∧
      Below w.heap.size w w4 ∧ FPst w w4 size gv (w.heap.size + 1 + 1) w.heap.size (w.heap.size + 1 + 1 + 1) (w.heap.size + 1) (.slice none 0 0) [] (fun _ => false) := by
  refine ⟨_, rfl, by (repeat (first | exact Below.refl _ _ | assumption | refine Below.drew ?_ | refine Below.alloc ?_ (by first | omega | (simp; done) | (simp; omega)) _ | refine Below.setCell ?_ (by first | omega | (simp; done) | (simp; omega)) _)), by (repeat (first | exact Below.refl _ _ | assumption | refine Below.drew ?_ | refine Below.alloc ?_ (by first | omega | (simp; done) | (simp; omega)) _ | refine Below.setCell ?_ (by first | omega | (simp; done) | (simp; omega)) _)), ?_, ?_, ?_, ⟨_, ?_, seen_start size⟩, by omega, by omega, World.ownsRow_nil _ _ _ _, fun x hx => by cases hx⟩
  · have := (Blk.new ((w.alloc (Obj.cells #[gv] 62)).alloc (Obj.cells (madeCells #[Value.bool false] size) 4)) 98 #[Value.slice (some ⟨w.heap.size + 1, 0, none⟩) size size]).alloc (Obj.cells #[Value.slice none 0 0] 134)
    simpa using this
  · exact ((Blk.new w 62 #[gv]).alloc _).alloc _ |>.alloc _
  · have := Blk.new (((w.alloc (Obj.cells #[gv] 62)).alloc (Obj.cells (madeCells #[Value.bool false] size) 4)).alloc (Obj.cells #[Value.slice (some ⟨w.heap.size + 1, 0, none⟩) size size] 98)) 134 #[Value.slice none 0 0]
    simpa using this
  · have := ((Blk.new (w.alloc (Obj.cells #[gv] 62)) 4 (madeCells #[Value.bool false] size)).alloc (Obj.cells #[Value.slice (some ⟨w.heap.size + 1, 0, none⟩) size size] 98)).alloc (Obj.cells #[Value.slice none 0 0] 134)
    simpa using this

set_option maxRecDepth 100000 in
set_option maxHeartbeats 8000000 in
theorem firstPath_any (w : World) (size : Nat) (G : Nat → Bool) (fG : FuncId) (capG : Array Value) (hG : GoalOk w size G fG capG) (L : List Nat) (hL : L.Pairwise (· < ·)) (hL6 : ∀ l ∈ L, l < 6) (nx : Nat → Nat → List Nat) (fN : FuncId) (capN : Array Value) (hN : NextOk w size L nx fN capN)
    (I0 : List Nat) (h0 : I0 ≠ []) (hI : ∀ n ∈ I0, n < size) (hIl : I0.length ≤ 4294967296) (sv lv : Value) (hsv : w.ownsRow 0 3 1 sv I0.length (natVals I0)) (hlv : w.ownsRow 0 3 1 lv L.length (natVals L)) (hsz : size ≤ 1048576) :
    Calls Tryd.prog 81 #[.int .i64 (size : Nat), sv, lv, .func (.func fN) #[] capN, .func (.func fG) #[] capG] w fun e w' => ∃ o, e = .returned (pathV o) ∧ PathPost (fun n => n ∈ I0) L nx (fun n => G n = true) o ∧ Below w.heap.size w w' := by
  obtain ⟨i0, hi, hz0, hz1, hz2⟩ := info_parts infoBool
  have hmk := fun W => run_make_rowN (P := Tryd.prog) 98 4 i0 _ Tryd.underlying98 hi hz0 .i64 .i64 size size (Nat.le_refl _) (by rw [hz2]; omega) (by omega) W
  obtain ⟨lA, lc, rfl, hlc, hlc'⟩ := own_slice hlv
  have hLlen : L.length ≤ 6 := by
    have := nodup_bound 6 L (hL.imp fun h => Nat.ne_of_lt h) hL6
    exact this
  replace hsv := hid hsv
  replace hlv := hid hlv
  replace hI := hid hI
  go_enter Tryd.func81, Tryd.ntmps81
  go_wp2_with fail
  obtain ⟨w4, hw4, hb4, hst4⟩ := fp_start w size (.func (.func fG) #[] capG)
  rw [hw4]
  have hz4 : w.heap.size + 1 + 1 + 1 < w4.heap.size := by rw [← hw4]; simp
  clear hw4 hmk
  generalize hbS : w.heap.size + 1 + 1 = bS at *
  generalize hbP : bS + 1 = bP at *
  generalize hgS : w.heap.size + 1 = gS at *
  replace hbS := hid hbS
  replace hbP := hid hbP
  replace hgS := hid hgS
  clear hz4
  have hz4 := hb4.size
  have hsv4 := hid (own_keep hsv.out (.of_below (K := fun _ => False) hb4) fun _ _ h => h)
  replace hst4 := hid hst4
  refine (visit_any w size G fG capG hG bS w.heap.size bP gS (.slice none 0 0) [] (fun _ => false) (-1) 0 sv I0 w4 hst4.out hsv4.out hI.out hIl (by simp)).mono ?_
  rintro e w5 ⟨rfl, sv5, ss5, hst5, hss5, hkp5⟩
  have hb5 : Below w.heap.size w w5 := hst5.below
  obtain ⟨fr0, hfr0⟩ : ∃ fr, fr = frs (fun _ => false) I0 := ⟨_, rfl⟩
  rw [← hfr0] at hst5 hss5 ⊢
  have hf0ne : fr0 ≠ [] := by
    intro e
    obtain ⟨a, ha⟩ := List.exists_mem_of_ne_nil _ h0
    have := (frs_mem (fun _ => false) I0 a).2 ⟨ha, rfl⟩
    rw [← hfr0, e] at this
    cases this
  cases hg0 : fr0.any G
  · obtain ⟨A0, c0, rfl⟩ : ∃ A c, ss5 = [⟨⟨-1, 0, fr0⟩, A, c⟩] := by
      rcases hss5 with ⟨e, _⟩ | ⟨_, A, c, e⟩
      · exact absurd e hf0ne
      · exact ⟨A, c, by simpa using e⟩
    have hSB0 : Hid (SB (fun n => n ∈ I0) L nx G size [⟨-1, 0, fr0⟩] [[]] (fun n => fr0.contains n) 0 0) := hid (by
      rw [hfr0]
      exact SB.begin h0 hI.out (by rw [← hfr0]; exact hg0))
    have hst5' : Hid (FPst w w5 size (.func (.func fG) #[] capG) bS w.heap.size bP gS sv5 [⟨⟨-1, 0, fr0⟩, A0, c0⟩] (fun n => fr0.contains n)) := hid (by simpa using hst5)
    replace hfr0 := hid hfr0
    replace hss5 := hid hss5
    replace hst5 := hid hst5
    replace hf0ne := hid hf0ne
    replace h0 := hid h0
    replace hg0 := hid hg0
    replace hkp5 := hid hkp5
    go_wp2_with (rw [hg0.out])
    go_loopw [15] (fun iv wr => ∃ (i : Nat) (sv : Value) (ss : List StV) (ws : List (List Nat)) (S : Nat → Bool), iv = .int .i64 i ∧ i ≤ ss.length ∧ SrchAt w size G L nx I0 (.func (.func fG) #[] capG) bS w.heap.size bP gS wr i 0 sv ss ws S) (fun iv _ => size + 1 - (intOf iv).toNat)
    case atStart => exact ⟨0, sv5, _, _, _, rfl, by simp, hst5'.out, hSB0.out⟩
    case round =>
      obtain ⟨i, sv, ss, ws, S, rfl, hi, hst, hSB⟩ := hrel
      have hbd := hSB.bound
      have hpos := hSB.bfs.pos
      have hwl := hSB.bfs.len
      simp only [List.length_map] at hbd hpos hwl
      have p0 := hst.blkP.cell 0
      simp only [List.getElem?_toArray, List.getElem?_cons_zero] at p0
      obtain ⟨gv, cv, rfl, hgv, hgv', hcv, hcv', hcell⟩ := own_steps hst.own hpos
      replace hst := hid hst
      replace hSB := hid hSB
      replace hcell := hid hcell
      by_cases hlt : i < ss.length
      · go_wp2_with fail
        go_loopw [35] (fun kv wr => ∃ (k : Nat) (sv : Value) (ss : List StV) (ws : List (List Nat)) (S : Nat → Bool), kv = .int .i64 k ∧ k ≤ L.length ∧ i < ss.length ∧ SrchAt w size G L nx I0 (.func (.func fG) #[] capG) bS w.heap.size bP gS wr i k sv ss ws S) (fun kv _ => L.length - (intOf kv).toNat)
        case atStart => exact ⟨0, _, _, _, _, rfl, by omega, hlt, hst.out, hSB.out⟩
        case round =>
          clear hcell hst hSB p0 hgv hgv' hcv hcv' hbd hpos hwl
          obtain ⟨k, sv, ss, ws, S, rfl, hk, hi', hst, hSB⟩ := hrel
          have hbd := hSB.bound
          have hpos := hSB.bfs.pos
          have hwl := hSB.bfs.len
          simp only [List.length_map] at hbd hpos hwl
          by_cases hkl : k < L.length
          · have hlw := own_keep hlv.out (.of_below (K := fun _ => False) hst.below) fun _ _ h => h
            obtain ⟨gl, cl, hve, -, -, -, -, hlcell⟩ := own_shape hlw (by omega)
            injection hve with hv1 hv2 hv3
            subst hv1
            subst hv3
            have l0 := hlcell k _ (show (natVals L)[k]? = some (.int .i64 (L[k] : Nat)) from by unfold natVals; simp [hkl])
            have hlL : L[k] ∈ L := List.getElem_mem hkl
            obtain ⟨l, hll⟩ : ∃ l, l = L[k] := ⟨_, rfl⟩
            rw [← hll] at l0 hlL
            have p0 := hst.blkP.cell 0
            simp only [List.getElem?_toArray, List.getElem?_cons_zero] at p0
            obtain ⟨gv, cv, rfl, hgv, hgv', hcv, hcv', hcell⟩ := own_steps hst.own hpos
            obtain ⟨-, -, c2⟩ := hcell i hi'
            have hnodes := hst.nodes ss[i] (List.getElem_mem hi')
            have hnsz : ss[i].st.nodes.length ≤ size := hSB.nodesLen (x := ss[i].st) (List.mem_map.2 ⟨_, List.getElem_mem hi', rfl⟩)
            have hnlt : ∀ n ∈ ss[i].st.nodes, n < size := hSB.small ss[i].st (List.mem_map.2 ⟨_, List.getElem_mem hi', rfl⟩)
            obtain ⟨ns, hnse⟩ : ∃ ns, ns = ss[i].st.nodes := ⟨_, rfl⟩
            obtain ⟨nA, hnA⟩ : ∃ nA, nA = ss[i].A := ⟨_, rfl⟩
            obtain ⟨nc, hnc⟩ : ∃ nc, nc = ss[i].c := ⟨_, rfl⟩
            rw [← hnse, ← hnA, ← hnc] at c2 hnodes
            rw [← hnse] at hnsz hnlt
            replace hll := hid hll
            replace hnse := hid hnse
            replace hnA := hid hnA
            replace hnc := hid hnc
            replace hst := hid hst
            replace hSB := hid hSB
            replace hcell := hid hcell
            replace hlcell := hid hlcell
            replace hlw := hid hlw
            replace hnodes := hid hnodes
            replace hnlt := hid hnlt
            have i1 : (0 : Int) ≤ (i : Int) := by omega
            have i2 : (i : Int) < (ss.length : Int) := by omega
            have hrun := hN.run
            obtain ⟨wo, rfl⟩ : ∃ wo : World, wo = wr := ⟨_, rfl⟩
            go_wp2_with fail
            go_loopw [18, 45] (fun rv jv wr2 => ∃ j : Nat, jv = .int .i64 j ∧ j ≤ ns.length ∧ wr2.ownsRow wo.heap.size 3 1 rv (reachedL nx l (ns.take j)).length (natVals (reachedL nx l (ns.take j))) ∧ Below wo.heap.size wo wr2) (fun _ jv _ => ns.length - (intOf jv).toNat)
            case atStart => exact ⟨0, rfl, by omega, World.ownsRow_nil _ _ _ _, Below.refl _ _⟩
            case round =>
              obtain ⟨j, rfl, hj, hown, hbo⟩ := hrel
              by_cases hjl : j < ns.length
              · have hnr := own_keep hnodes.out (.of_below (K := fun _ => False) hbo) fun _ _ h => h
                obtain ⟨gn, cn, hve, -, -, -, -, hncell⟩ := own_shape hnr (by omega)
                injection hve with hv1 hv2 hv3
                subst hv1
                subst hv3
                have n0 := hncell j _ (show (natVals ns)[j]? = some (.int .i64 (ns[j] : Nat)) from by unfold natVals; simp [hjl])
                have hql := hnlt.out ns[j] (List.getElem_mem hjl)
                have htk := reachedL_snoc (nx := nx) l (ns.take j) ns[j]
                rw [← List.take_succ_eq_append_getElem hjl] at htk
                obtain ⟨q, hq⟩ : ∃ q, q = ns[j] := ⟨_, rfl⟩
                rw [← hq] at n0 hql htk
                have hrl : (reachedL nx l (ns.take j)).length ≤ 4294967296 := by
                  refine Nat.le_trans (reachedL_len (size := size) fun x hx => hN.len x (hnlt.out x (List.mem_of_mem_take hx)) l hlL) ?_
                  have : (ns.take j).length ≤ 1048576 := by simp; omega
                  omega
                have hbw := hst.out.below.trans (hbo.mono hst.out.below.size)
                have hz1 := hst.out.below.size
                have hz2 := hbo.size
                replace hnr := hid hnr
                replace hncell := hid hncell
                replace hq := hid hq
                replace htk := hid htk
                replace hown := hid hown
                replace hrl := hid hrl
                go_wp2_with fail
                refine (hN.call _ q l _ _ wo.heap.size hbw hql hlL hrl.out hz1 hz2 hown.out).mono ?_
                rintro e w6 ⟨v6, rfl, hown6, hkp6⟩
                have hb6 : Hid (Below wo.heap.size wo w6) := hid (hkp6.below hbo hz2 fun b hb => own_block hown.out b hb)
                replace hown6 := hid hown6
                replace hkp6 := hid hkp6
                go_wp2_with fail
                go_roundw
                case rel => exact ⟨j + 1, by go_num, by omega, by rw [htk.out]; exact hown6.out, hb6.out⟩
                case measure => simp [intOf]; omega
              · have htk : ns.take j = ns := List.take_of_length_le (by omega)
                rw [htk] at hown
                have hbw := hst.out.below.trans (hbo.mono hst.out.below.size)
                have hst2 := hid (hst.out.later hbo)
                obtain ⟨R, hR⟩ : ∃ R, R = reachedL nx l ns := ⟨_, rfl⟩
                rw [← hR] at hown
                have hRl : R.length ≤ 4294967296 := by
                  rw [hR]
                  refine Nat.le_trans (reachedL_len (size := size) fun x hx => hN.len x (hnlt.out x hx) l hlL) ?_
                  omega
                have hRs : Hid (∀ n ∈ R, n < size) := hid fun n hn => by
                  rw [hR] at hn
                  obtain ⟨q, hq, hnq⟩ := reachedL_mem.1 hn
                  exact hN.lt q (hnlt.out q hq) l hlL n hnq
                replace htk := hid htk
                replace hR := hid hR
                have hown0 := hid (own_base hown (Nat.zero_le _))
                replace hown := hid hown
                go_wp2_with fail
                refine (visit_any w size G fG capG hG bS w.heap.size bP gS _ ss S (i : Int) l _ R wr hst2.out hown0.out hRs.out hRl (by omega)).mono ?_
                rintro e w7 ⟨rfl, sv7, ss7, hst7, hss7, hkp7⟩
                have hwi : i < ws.length := by omega
                obtain ⟨fr, hfr⟩ : ∃ fr, fr = frs S R := ⟨_, rfl⟩
                rw [← hfr] at hst7 hss7 ⊢
                have hil : i < (ss.map (fun x : StV => x.st)).length := by simpa using hi'
                have hfr' : Hid (fr = frs S (reachedL nx (L[k]'hkl) ((ss.map (fun x : StV => x.st))[i]'hil).nodes)) := hid (by
                  rw [hfr, hR.out, hnse.out, hll.out, List.getElem_map])
                replace hil := hid hil
                replace hfr := hid hfr
                replace hkp7 := hid hkp7
                cases hg : fr.any G
                · have hnx : Hid (∃ ws' , SrchAt w size G L nx I0 (.func (.func fG) #[] capG) bS w.heap.size bP gS w7 i (k + 1) sv7 ss7 ws' (fun n => S n || fr.contains n) ∧ i < ss7.length) := hid (by
                    rcases hss7 with ⟨e, rfl⟩ | ⟨hne, A7, c7, rfl⟩
                    · refine ⟨ws, ⟨hst7, ?_⟩, hi'⟩
                      have := hSB.out.old hL hil.out hkl (by rw [← hfr'.out]; exact e)
                      have hS : (fun n => S n || fr.contains n) = S := by funext n; rw [e]; simp
                      rw [hS]
                      exact this
                    · have := hSB.out.add hL hil.out hwi hkl (fun q hq n hn => hN.lt q hq _ (List.getElem_mem hkl) n hn) hfr'.out hne hg
                      refine ⟨ws ++ [l :: ws[i]], ⟨hst7, ?_⟩, by simp; omega⟩
                      rw [List.map_append, hll.out]
                      exact this)
                  replace hst7 := hid hst7
                  replace hss7 := hid hss7
                  replace hg := hid hg
                  go_wp2_with (rw [hg.out])
                  go_roundw
                  case rel =>
                    obtain ⟨ws', h1, h2⟩ := hnx.out
                    exact ⟨k + 1, sv7, ss7, ws', _, by go_num, by omega, h2, h1⟩
                  case measure => simp [intOf]; omega
                · have hF := hid (hSB.out.found hL hil.out hwi hkl (by rw [← hfr'.out]; exact hg))
                  obtain ⟨A7, c7, rfl⟩ : ∃ A c, ss7 = ss ++ [⟨⟨i, l, fr⟩, A, c⟩] := by
                    rcases hss7 with ⟨e, _⟩ | ⟨_, A, c, e⟩
                    · rw [e] at hg; cases hg
                    · exact ⟨A, c, e⟩
                  have hpath := hid (PathOk.add (PathOk.of hSB.out.bfs hL6) hwi (hL6 l hlL) ⟨⟨i, l, fr⟩, A7, c7⟩ rfl rfl)
                  obtain ⟨n, hn⟩ : ∃ n, ss.length = n + 1 := ⟨ss.length - 1, by omega⟩
                  have p7 := hst7.blkP.cell 0
                  simp only [List.getElem?_toArray, List.getElem?_cons_zero] at p7
                  obtain ⟨g7, d7, rfl, hg7, hg7', hd7, hd7', hcell7⟩ := own_steps hst7.own (by simp)
                  have hb7 := hst7.below
                  have hlast : Hid ((ws ++ [l :: ws[i]])[n + 1]'(by simp; omega) = l :: ws[i]) := hid (by
                    have : n + 1 = ws.length := by omega
                    simp [this])
                  have hword : Hid (L[k] :: ws[i] = l :: ws[i]) := hid (by rw [hll.out])
                  replace hst7 := hid hst7
                  replace hss7 := hid hss7
                  replace hg := hid hg
                  have hn' := hid (show (ss ++ [(⟨⟨i, l, fr⟩, A7, c7⟩ : StV)]).length = n + 2 by simp; omega)
                  have hc7 := hid (show ∀ j (hj : j < (ss ++ [(⟨⟨i, l, fr⟩, A7, c7⟩ : StV)]).length), w7.cell? ⟨g7, j * 3, none⟩ = some (.int .i64 (ss ++ [(⟨⟨i, l, fr⟩, A7, c7⟩ : StV)])[j].st.par) ∧ w7.cell? ⟨g7, j * 3 + 1, none⟩ = some (.int .i64 ((ss ++ [(⟨⟨i, l, fr⟩, A7, c7⟩ : StV)])[j].st.let_ : Nat)) from fun j hj => ⟨(hcell7 j hj).1, (hcell7 j hj).2.1⟩)
                  have hls := hid (show (ss ++ [(⟨⟨i, l, fr⟩, A7, c7⟩ : StV)]).length ≤ 4294967296 by simp; omega)
                  have hwl' := hid (show n + 1 < (ws ++ [l :: ws[i]]).length by simp; omega)
                  replace hcell7 := hid hcell7
                  replace hn := hid hn
                  replace hd7 := hid hd7
                  go_wp2_with (rw [hg.out])
                  refine (pathWord_any (ss ++ [⟨⟨i, l, fr⟩, A7, c7⟩]) (ws ++ [l :: ws[i]]) g7 d7 n _ w7 hn'.out hn'.out hls.out hpath.out hwl'.out hd7.out hd7' hg7' hc7.out).mono ?_
                  rintro e w8 ⟨he, hb8⟩
                  rw [hlast.out] at he
                  subst he
                  have hb9 := hb7.trans (hb8.mono hb7.size)
                  go_wp2_with fail
                  go_ret2
                  exact ⟨some (l :: ws[i]), rfl, by rw [← hword.out]; exact hF.out, hb9⟩
          · have hov := hid (show SrchAt w size G L nx I0 (.func (.func fG) #[] capG) bS w.heap.size bP gS wr (i + 1) 0 sv ss ws S from ⟨hst, hSB.over (by omega)⟩)
            replace hst := hid hst
            replace hSB := hid hSB
            go_wp2_with fail
            go_roundw
            case rel => exact ⟨i + 1, sv, ss, ws, S, by go_num, by omega, hov.out⟩
            case measure => simp [intOf]; omega
      · have hN := hid (show ∀ q n, RW (fun n => n ∈ I0) L nx q n → ¬ G n = true from by
          have := hSB.out
          obtain rfl : i = (ss.map (·.st)).length := by simp; omega
          exact this.none)
        have hbf := hst.out.below
        go_wp2
        go_ret2
        exact ⟨none, rfl, hN.out, hbf⟩
  · have hfin := hid (first_now (L := L) (nx := nx) (G := G) (I0 := I0) (by rw [← hfr0]; exact hg0))
    replace hfr0 := hid hfr0
    replace hss5 := hid hss5
    replace hst5 := hid hst5
    replace hf0ne := hid hf0ne
    replace h0 := hid h0
    replace hkp5 := hid hkp5
    go_wp2_with fail
    go_ret2
    exact ⟨some [], rfl, hfin.out, hb5⟩

end Go.Proofs.YtempjhgajcdibaaDoor

/- Plain: both searches for a trace outside have one answer. -/
namespace AG

/-- The set of states to which a word leads (its last letter first). -/
noncomputable def setW (s : Sy) : List Nat → Nat
  | [] => 1
  | l :: r => stepSet s (setW s r) (l : Int)

theorem mv_small {s : Sy} (hs : edgesIn s) (q l : Nat) : mv s q l < 2 ^ s.st.toNat := by
  refine Nat.lt_pow_two_of_testBit _ fun i hi => ?_
  rw [← Bool.not_eq_true, mv_testBit]
  rintro ⟨_, e, he, _, _, rfl⟩
  have := hs e he
  omega
theorem unionOf_testBit (m : Nat → Nat → Nat) (S l t : Nat) : (unionOf m S l).testBit t = true ↔ t < 16 ∧ ∃ q, S.testBit q = true ∧ (m q l).testBit t = true := by
  unfold unionOf
  exact bitsOf_testBit _ _ _
theorem unionOf_small {s : Sy} (hs : edgesIn s) (S l : Nat) : unionOf (mv s) S l < 2 ^ s.st.toNat := by
  refine Nat.lt_pow_two_of_testBit _ fun i hi => ?_
  rw [← Bool.not_eq_true, unionOf_testBit]
  rintro ⟨_, q, _, h⟩
  have := testBit_lt (mv_small hs q l) h
  omega
theorem setW_small {s : Sy} (hs : edgesIn s) (h1 : 1 ≤ s.st) : ∀ r, setW s r < 2 ^ s.st.toNat
  | [] => by
    have : 2 ^ 1 ≤ 2 ^ s.st.toNat := Nat.pow_le_pow_right (by omega) (by omega)
    show 1 < _
    omega
  | l :: r => by
    show stepSet s (setW s r) (l : Int) < _
    rw [← unionOf_mv s hs]
    exact unionOf_small hs _ _
theorem setW_lt (s : Sy) : ∀ r, setW s r < 65536
  | [] => by show 1 < _; omega
  | l :: r => stepSet_lt _ _ _
theorem stepSet_zero (s : Sy) (l : Int) : stepSet s 0 l = 0 := by
  refine Nat.eq_of_testBit_eq fun t => ?_
  rw [Nat.zero_testBit, ← Bool.not_eq_true]
  unfold stepSet
  rw [bitsOf_testBit]
  rintro ⟨_, e, _, _, h, _⟩
  simp at h

/-- A word that is a trace of s and none of t. -/
def Outside (s t : Sy) (r : List Nat) : Prop := (∀ l ∈ r, l ∈ letters s.al) ∧ setW s r ≠ 0 ∧ setW t r = 0
def IsOut (s t : Sy) (o : Option (List Nat)) : Prop :=
  if cmpOk s t = true then
    match o with
    | some r => Outside s t r ∧ ∀ q, Outside s t q → rle r q
    | none => ∀ q, ¬ Outside s t q
  else o = none
theorem IsOut.unique {s t : Sy} {o o' : Option (List Nat)} (h : IsOut s t o) (h' : IsOut s t o') : o = o' := by
  unfold IsOut at h h'
  split at h
  · rename_i hc
    rw [if_pos hc] at h'
    cases o with
    | some r =>
      cases o' with
      | some r' => rw [rle_antisymm (h.2 _ h'.1) (h'.2 _ h.1)]
      | none => exact absurd h.1 (h' r)
    | none =>
      cases o' with
      | some r' => exact absurd h'.1 (h r')
      | none => rfl
  · rename_i hc
    rw [if_neg hc] at h'
    rw [h, h']

theorem out_of_first {s t : Sy} {I : Nat → Prop} {L : List Nat} {nx : Nat → Nat → List Nat} {G : Nat → Prop} (hH : ∀ r, (∃ n, RW I L nx r n ∧ G n) ↔ Outside s t r) (hc : cmpOk s t = true) {o : Option (List Nat)}
    (h : match o with | some r => FirstW I L nx G r | none => ∀ q n, RW I L nx q n → ¬ G n) : IsOut s t o := by
  unfold IsOut
  rw [if_pos hc]
  cases o with
  | some r =>
    obtain ⟨h1, h2⟩ := h
    refine ⟨(hH r).1 h1, fun q hq => ?_⟩
    obtain ⟨n, hn, hg⟩ := (hH q).2 hq
    exact h2 q n hn hg
  | none =>
    intro q hq
    obtain ⟨n, hn, hg⟩ := (hH q).2 hq
    exact h q n hn hg

/-- The reference's nodes. -/
theorem spec_nodes {s t : Sy} : ∀ r n, RW pI (letters s.al) (pN s t) r n ↔ (∀ l ∈ r, l ∈ letters s.al) ∧ setW s r ≠ 0 ∧ n = code (setW s r, setW t r) := by
  intro r
  induction r with
  | nil =>
    intro n
    show pI n ↔ _
    unfold pI
    constructor
    · intro h; exact ⟨(fun l hl => by cases hl), (by show (1 : Nat) ≠ 0; decide), h⟩
    · rintro ⟨_, _, h⟩; exact h
  | cons l r ih =>
    intro n
    show (l ∈ letters s.al ∧ ∃ m, RW pI (letters s.al) (pN s t) r m ∧ n ∈ pN s t m l) ↔ _
    constructor
    · rintro ⟨hl, m, hm, hn⟩
      obtain ⟨h1, h2, rfl⟩ := (ih m).1 hm
      unfold pN at hn
      rw [code_parts (setW_lt t r)] at hn
      split at hn
      · cases hn
      · rename_i h0
        rw [List.mem_singleton] at hn
        exact ⟨fun x hx => by rcases List.mem_cons.1 hx with rfl | hx; exact hl; exact h1 x hx, h0, hn⟩
    · rintro ⟨h1, h2, rfl⟩
      have h3 : setW s r ≠ 0 := fun e => h2 (by show stepSet s (setW s r) _ = 0; rw [e, stepSet_zero])
      refine ⟨h1 l List.mem_cons_self, _, (ih _).2 ⟨fun x hx => h1 x (List.mem_cons_of_mem _ hx), h3, rfl⟩, ?_⟩
      unfold pN
      rw [code_parts (setW_lt t r), if_neg (show ¬ (stepP s t (setW s r, setW t r) l).1 = 0 from h2)]
      exact List.mem_singleton.2 rfl
theorem spec_hits {s t : Sy} (r : List Nat) : (∃ n, RW pI (letters s.al) (pN s t) r n ∧ pG n) ↔ Outside s t r := by
  constructor
  · rintro ⟨n, hn, hg⟩
    obtain ⟨h1, h2, rfl⟩ := (spec_nodes r n).1 hn
    refine ⟨h1, h2, ?_⟩
    have := setW_lt t r
    unfold pG code at hg
    omega
  · rintro ⟨h1, h2, h3⟩
    exact ⟨_, (spec_nodes r _).2 ⟨h1, h2, rfl⟩, by unfold pG code; rw [h3]; omega⟩

/-- The program's nodes: a state of s and the set of t. -/
noncomputable def outNx (s t : Sy) (z : Nat) (node l : Nat) : List Nat := (memL (mv s (node / z) l)).map fun q => q * z + unionOf (mv t) (node % z) l
theorem impl_nodes {s t : Sy} (hs : edgesIn s) (ht : edgesIn t) (h1 : 1 ≤ t.st) : ∀ r n, RW (fun n => n ∈ [1]) (letters s.al) (outNx s t (2 ^ t.st.toNat)) r n ↔
    (∀ l ∈ r, l ∈ letters s.al) ∧ ∃ q, (setW s r).testBit q = true ∧ n = q * 2 ^ t.st.toNat + setW t r := by
  intro r
  have hz : 0 < 2 ^ t.st.toNat := Nat.two_pow_pos _
  induction r with
  | nil =>
    intro n
    show n ∈ [1] ↔ _
    rw [List.mem_singleton]
    constructor
    · rintro rfl
      exact ⟨(fun l hl => by cases hl), 0, (by show (1 : Nat).testBit 0 = true; decide), (by show 1 = 0 * _ + 1; omega)⟩
    · rintro ⟨_, q, hq, rfl⟩
      have hq0 : q = 0 := by
        have : (1 : Nat).testBit q = true := hq
        have := testBit_lt (n := 1) (S := 1) (by decide) this
        omega
      subst hq0
      show 0 * _ + 1 = 1
      omega
  | cons l r ih =>
    intro n
    show (l ∈ letters s.al ∧ ∃ m, RW (fun n => n ∈ [1]) (letters s.al) (outNx s t (2 ^ t.st.toNat)) r m ∧ n ∈ outNx s t (2 ^ t.st.toNat) m l) ↔ _
    have hd : ∀ q, (q * 2 ^ t.st.toNat + setW t r) / 2 ^ t.st.toNat = q ∧ (q * 2 ^ t.st.toNat + setW t r) % 2 ^ t.st.toNat = setW t r := fun q => by
      have hlt := setW_small ht h1 r
      constructor
      · rw [Nat.mul_comm, Nat.mul_add_div hz, Nat.div_eq_of_lt hlt]; omega
      · rw [Nat.mul_comm, Nat.mul_add_mod, Nat.mod_eq_of_lt hlt]
    have hS : setW t (l :: r) = unionOf (mv t) (setW t r) l := (unionOf_mv t ht _ _).symm
    have hsS : setW s (l :: r) = unionOf (mv s) (setW s r) l := (unionOf_mv s hs _ _).symm
    constructor
    · rintro ⟨hl, m, hm, hn⟩
      obtain ⟨h2, q, hq, rfl⟩ := (ih m).1 hm
      unfold outNx at hn
      rw [(hd q).1, (hd q).2] at hn
      obtain ⟨q', hq', rfl⟩ := List.mem_map.1 hn
      obtain ⟨h16, hb⟩ := memL_mem.1 hq'
      refine ⟨fun x hx => by rcases List.mem_cons.1 hx with rfl | hx; exact hl; exact h2 x hx, q', ?_, by rw [hS]⟩
      rw [hsS, unionOf_testBit]
      exact ⟨h16, q, hq, hb⟩
    · rintro ⟨h2, q', hq', rfl⟩
      rw [hsS, unionOf_testBit] at hq'
      obtain ⟨h16, q, hq, hb⟩ := hq'
      refine ⟨h2 l List.mem_cons_self, _, (ih _).2 ⟨fun x hx => h2 x (List.mem_cons_of_mem _ hx), q, hq, rfl⟩, ?_⟩
      unfold outNx
      rw [(hd q).1, (hd q).2, hS]
      exact List.mem_map.2 ⟨q', memL_mem.2 ⟨h16, hb⟩, rfl⟩
theorem impl_hits {s t : Sy} (hs : edgesIn s) (ht : edgesIn t) (h1 : 1 ≤ t.st) (r : List Nat) : (∃ n, RW (fun n => n ∈ [1]) (letters s.al) (outNx s t (2 ^ t.st.toNat)) r n ∧ decide (n % 2 ^ t.st.toNat = 0) = true) ↔ Outside s t r := by
  have hlt := setW_small ht h1 r
  constructor
  · rintro ⟨n, hn, hg⟩
    obtain ⟨h2, q, hq, rfl⟩ := (impl_nodes hs ht h1 r n).1 hn
    refine ⟨h2, fun e => ?_, ?_⟩
    · rw [e, Nat.zero_testBit] at hq; cases hq
    · rw [decide_eq_true_eq, Nat.mul_comm, Nat.mul_add_mod, Nat.mod_eq_of_lt hlt] at hg
      exact hg
  · rintro ⟨h2, h3, h4⟩
    obtain ⟨q, hq⟩ := Nat.exists_testBit_of_ne_zero h3
    refine ⟨_, (impl_nodes hs ht h1 r _).2 ⟨h2, q, hq, rfl⟩, ?_⟩
    rw [h4]
    simp
end AG

/- The program's FirstTraceOutside: its closures. -/
namespace Go.Proofs.YtempjhgajcdibaaDoor
open Go.RowKit Go.BigFrame AG

theorem tmod_nat (a b : Nat) : Int.tmod (a : Int) (b : Int) = ((a % b : Nat) : Int) := by
  rw [Int.tmod_eq_emod_of_nonneg (by omega)]
  exact (Int.natCast_emod a b).symm
theorem tdiv_nat (a b : Nat) : Int.tdiv (a : Int) (b : Int) = ((a / b : Nat) : Int) := by
  rw [Int.tdiv_eq_ediv_of_nonneg (by omega)]
  exact (Int.natCast_ediv a b).symm

set_option maxRecDepth 100000 in
set_option maxHeartbeats 400000 in
theorem outGoal_any (q z b : Nat) (w : World) (hz : 0 < z) (hz' : z ≤ 65536) (hq : q ≤ 1048576) (hc : w.cell? ⟨b, 0, none⟩ = some (.int .i64 (z : Nat))) :
    Calls Tryd.prog 83 #[.int .i64 (q : Nat), .pointer (some ⟨b, 0, none⟩)] w fun e w' => e = .returned (.bool (decide (q % z = 0))) ∧ Below w.heap.size w w' := by
  go_enter Tryd.func83, Tryd.ntmps83
  go_wp2
  go_ret
  exact ⟨ret_bool (by rw [Bool.eq_iff_iff]; simp; omega), Below.refl _ _⟩

set_option maxRecDepth 100000 in
set_option maxHeartbeats 4000000 in
theorem outNext_any (s t : Sy) (z bN bZ bM gn gm base q l : Nat) (v : Value) (ns : List Nat) (w : World) (hz : 0 < z) (hz' : z ≤ 65536) (hq : q < 16 * z) (hl : l < 6) (hT : Tab w) (hN : w.cell? ⟨bN, 0, none⟩ = some (.pointer (some ⟨gn, 0, none⟩))) (hZ : w.cell? ⟨bZ, 0, none⟩ = some (.int .i64 (z : Nat)))
    (hM : w.cell? ⟨bM, 0, none⟩ = some (.pointer (some ⟨gm, 0, none⟩))) (hm : MvAt w w.heap.size gm (mv s)) (hn : MvAt w w.heap.size gn (mv t)) (hns : ns.length ≤ 4294967296) (hb : base ≤ w.heap.size) (hbZ : bZ < base) (hown : w.ownsRow base 3 1 v ns.length (natVals ns)) :
    Calls Tryd.prog 78 #[.int .i64 (q : Nat), .int .i64 (l : Nat), v, .pointer (some ⟨bN, 0, none⟩), .pointer (some ⟨bZ, 0, none⟩), .pointer (some ⟨bM, 0, none⟩)] w fun e w' =>
      ∃ v', e = .returned v' ∧ w'.ownsRow base 3 1 v' (ns ++ outNx s t z q l).length (natVals (ns ++ outNx s t z q l)) ∧ KeepB (fun b => v.ownBlock = some b) w w' := by
  obtain ⟨i0, hi, hz0, hz1, hz2⟩ := info_parts infoInt
  obtain ⟨X, hX⟩ : ∃ X, X = unionOf (mv t) (q % z) l := ⟨_, rfl⟩
  have hXl : X < 65536 := by rw [hX]; exact unionOf_lt _ _ _
  obtain ⟨M, hM'⟩ : ∃ M, M = mv s (q / z) l := ⟨_, rfl⟩
  have hMl : M < 65536 := by rw [hM']; exact mv_lt _ _ _
  have hrem := tmod_nat q z
  have hquo := tdiv_nat q z
  have hqz : q / z < 16 := Nat.div_lt_of_lt_mul (by rw [Nat.mul_comm]; exact hq)
  have hqm : q % z < 65536 := Nat.lt_of_lt_of_le (Nat.mod_lt q hz) hz'
  have y0 : ∀ x, (Fam w.heap.size w x).cell? ⟨bN, 0, none⟩ = some (.pointer (some ⟨gn, 0, none⟩)) := fun x => by rw [(Fam.below _ _ x).cell (World.block_lt_of_cell? _ _ hN)]; exact hN
  have y1 : ∀ x, (Fam w.heap.size w x).cell? ⟨bZ, 0, none⟩ = some (.int .i64 (z : Nat)) := fun x => by rw [(Fam.below _ _ x).cell (World.block_lt_of_cell? _ _ hZ)]; exact hZ
  have hzn : ((z : Int) == 0) = false := by simp; omega
  have hzi : (0 : Int) < (z : Int) := by omega
  have hqi : (0 : Int) ≤ (q : Int) := by omega
  replace hX := hid hX
  replace hM' := hid hM'
  replace hm := hid hm
  replace hn := hid hn
  replace hT := hid hT
  replace hown := hid hown
  go_enter Tryd.func78, Tryd.ntmps78
  go_wp2_with fail
  refine wp_region_grow 6 w.heap.size w (fun _ u _ => u = .int .i64 (X : Nat)) (by kernel_rfl) (by kernel_rfl) (Nat.le_refl _) (Below.refl _ _) ?_
  simp only [List.take_succ_cons, List.take_zero, List.drop_succ_cons, List.drop_zero]
  (repeat (refine grow_quiet (by rfl) (by rfl) (by rfl) ?_; intro K hK; go_big_quiet_op; go_big_quiet_on))
  refine grow_val (.int .i64 (X : Nat)) (by rfl) (by rfl) rfl (fun wq hbq _ => ?_) ?_
  · go_simp
    refine ⟨rfl, ?_⟩
    rw [← Int.natCast_emod, hX.out]
    exact step_any (mv t) gn (q % z) l wq hl (fun p => mv_lt t p l) hqm (hT.out.later hbq) (hn.out.later hbq)
  simp only [Act.put, List.setIfInBounds_toArray, List.set_cons_zero, List.set_cons_succ]
  refine grow_nil ?_
  intro w1 hb1 hf
  clear hf y0 y1
  have hzb1 := hb1.size
  have y1 : ∀ x, (Fam w1.heap.size w1 x).cell? ⟨bZ, 0, none⟩ = some (.int .i64 (z : Nat)) := fun x => by rw [((hb1.trans ((Fam.below w1.heap.size w1 x).mono hb1.size))).cell (World.block_lt_of_cell? _ _ hZ)]; exact hZ
  have y2 : ∀ x, (Fam w1.heap.size w1 x).cell? ⟨bM, 0, none⟩ = some (.pointer (some ⟨gm, 0, none⟩)) := fun x => by rw [((hb1.trans ((Fam.below w1.heap.size w1 x).mono hb1.size))).cell (World.block_lt_of_cell? _ _ hM)]; exact hM
  have hqn : ((q : Int) / (z : Int)).toNat = q / z := by rw [← Int.natCast_ediv]; exact Int.toNat_natCast _
  have hq16 : ((q : Int) / (z : Int)) < 16 := by rw [← Int.natCast_ediv]; omega
  have hq0 : (0 : Int) ≤ ((q : Int) / (z : Int)) := by rw [← Int.natCast_ediv]; omega
  have hl0 : (0 : Int) ≤ (l : Int) := by omega
  have hl6 : (l : Int) < 6 := by omega
  have y3 : ∀ x, (Fam w1.heap.size w1 x).cell? ⟨gm, q / z * 6 + l, none⟩ = some (.int .i64 (M : Nat)) := fun x => by
    rw [hM'.out]
    exact (hm.out.keep (hb1.trans ((Fam.below w1.heap.size w1 x).mono hb1.size))).2 _ _ hqz hl
  go_wp2_with fail
  refine wp_region_grow 12 w1.heap.size w1 (fun _ u w' => OwnNats w' w.heap.size u (memL M)) (by kernel_rfl) (by kernel_rfl) (Nat.le_refl _) (Below.refl _ _) ?_
  simp only [List.take_succ_cons, List.take_zero, List.drop_succ_cons, List.drop_zero]
  (repeat (refine grow_quiet (by rfl) (by rfl) (by rfl) ?_; intro K hK; go_big_quiet_op; go_big_quiet_on))
  refine grow_call (by rfl) (by rfl) (fun u w w' hb h => ?_) (fun wq hbq _ => ?_) fun u hu => ?_
  · exact own_keep h (.of_below (K := fun _ => False) hb) fun _ _ h => h
  · go_simp
    refine ⟨rfl, (members_any M hMl wq ((hT.out.later hb1).later hbq)).mono ?_⟩
    rintro e w3 ⟨v, rfl, ho, hb3⟩
    exact ⟨v, rfl, hb3, own_base ho (by have := hbq.size; omega)⟩
  obtain ⟨w3', -, ho3'⟩ := hu
  obtain ⟨A3, c3, rfl, hc3, hc3'⟩ := own_slice ho3'
  clear ho3'
  simp only [Act.put, List.setIfInBounds_toArray, List.set_cons_zero, List.set_cons_succ]
  (repeat (refine grow_quiet (by rfl) (by rfl) (by rfl) ?_; intro K hK; go_big_quiet_op; go_big_quiet_on))
  refine grow_nil ?_
  intro w3 hb3 hf
  have ho3 := hf _ List.mem_cons_self
  clear hf
  replace ho3 := hid ho3
  clear y1 y2 y3
  have hB3 : Below w.heap.size w w3 := hb1.trans (hb3.mono hzb1)
  have hz3 := hB3.size
  go_wp2_with fail
  go_loopw [2, 30] (fun ov jv wr => ∃ j : Nat, jv = .int .i64 j ∧ j ≤ (memL M).length ∧ wr.ownsRow base 3 1 ov (ns ++ ((memL M).take j).map fun p => p * z + X).length (natVals (ns ++ ((memL M).take j).map fun p => p * z + X)) ∧ KeepB (fun b => v.ownBlock = some b) w3 wr ∧ (∀ g, ov.ownBlock = some g → v.ownBlock = some g ∨ w3.heap.size ≤ g)) (fun _ jv _ => (memL M).length - (intOf jv).toNat)
  case atStart => exact ⟨0, rfl, by omega, by simpa using own_keep hown.out (.of_below (K := fun _ => False) hB3) (fun _ _ h => h), KeepB.refl _ _, fun g h => .inl h⟩
  case round =>
    obtain ⟨j, rfl, hj, hown2, hkp, hat⟩ := hrel
    have hml := memL_len M
    have hvb : ∀ g, v.ownBlock = some g → base ≤ g ∧ g < w.heap.size := hown.out.lt
    by_cases hjl : j < (memL M).length
    · have hr3 := own_keep ho3.out hkp fun g hg e => by
        have h1 := (hvb g e).2
        have h2 := own_block ho3.out g hg
        omega
      obtain ⟨g3, d3, hve, -, -, -, -, hcell⟩ := own_shape hr3 (by omega)
      injection hve with hv1 hv2 hv3
      subst hv1
      subst hv3
      have n0 := hcell j _ (show ((memL M).map fun (n : Nat) => Value.int .i64 (n : Int))[j]? = some (.int .i64 ((memL M)[j] : Nat)) from by simp [hjl])
      have hp16 := (memL_mem.1 (List.getElem_mem hjl)).1
      have hbZ' := World.block_lt_of_cell? _ _ hZ
      have z0 : wr.cell? ⟨bZ, 0, none⟩ = some (.int .i64 (z : Nat)) := by
        rw [World.cell?_of_block (w := w3) (hkp.block bZ (by have := hB3.size; simp at hbZ'; omega) fun e => by have := (hvb _ e).1; omega), hB3.cell hbZ']
        exact hZ
      have htk : ((memL M).take (j + 1)).map (fun p => p * z + X) = ((memL M).take j).map (fun p => p * z + X) ++ [(memL M)[j] * z + X] := by
        rw [List.take_succ_eq_append_getElem hjl, List.map_append]
        rfl
      obtain ⟨p, hp⟩ : ∃ p, p = (memL M)[j] := ⟨_, rfl⟩
      rw [← hp] at n0 hp16 htk
      have hpz : p * z ≤ 1048576 := Nat.le_trans (Nat.mul_le_mul (show p ≤ 16 by omega) hz') (by omega)
      have hpi : ((p : Int) * (z : Int)) = ((p * z : Nat) : Int) := (Int.natCast_mul p z).symm
      have hpz1 : ((p : Int) * (z : Int)) ≤ 1048576 := by rw [hpi]; omega
      have hpz2 : (0 : Int) ≤ ((p : Int) * (z : Int)) := by rw [hpi]; omega
      have hval : Hid (((p : Int) * (z : Int) + (X : Int)) = ((p * z + X : Nat) : Int)) := hid (by rw [hpi]; omega)
      have hlen : (ns ++ ((memL M).take j).map fun p => p * z + X).length ≤ 4294967312 := by simp; omega
      replace hpi := hid hpi
      replace hp := hid hp
      replace htk := hid htk
      replace hr3 := hid hr3
      replace hcell := hid hcell
      replace hown2 := hid hown2
      replace hat := hid hat
      replace hvb := hid hvb
      have hzr := hkp.size
      go_wp2_with (at_builtin; refine wpList_append_own_at _ rfl _ _ 81 rfl base 3 i0 (.int .i64 0) 1 8 Tryd.underlying81 hi hz0 hz1 hz2 rfl (by decide) _ _ _ rfl (hown2.out.alloc _) ⟨wr.heap.size, 0, none⟩ 1 1 [.int .i64 ((p : Int) * (z : Int) + (X : Int))] rfl rfl (cell_one_new _ _ _) (by intro u hu; simp at hu; subst hu; rfl) (by unfold maxLen; omega) (by omega) (by simp; omega) ?_; intro v5 w5 hO5 hg5 _ hat5; replace hO5 := hid hO5; replace hg5 := hid hg5; replace hat5 := hid hat5)
      go_roundw
      case rel =>
        refine ⟨j + 1, by go_num, by omega, ?_, (hkp.alloc _).grown hg5.out fun g hg hlt => ?_, fun g hg => ?_⟩
        · have h5 := hO5.out
          rw [hval.out] at h5
          rw [htk.out, ← List.append_assoc, List.length_append]
          unfold natVals at h5 ⊢
          rw [List.map_append]
          exact h5
        · rcases hat.out g hg with h | h
          · exact h
          · omega
        · rcases hat5.out with h | h
          · exact hat.out g (h.symm.trans hg)
          · rw [h] at hg
            injection hg with hg
            right
            simp at hg
            omega
      case measure => simp [intOf]; omega
    · have htk : (memL M).take j = memL M := List.take_of_length_le (by omega)
      rw [htk] at hown2
      have hfin : Hid (((memL M).map fun p => p * z + X) = outNx s t z q l) := hid (by unfold outNx; rw [← hX.out, ← hM'.out])
      rw [hfin.out] at hown2
      replace hown2 := hid hown2
      replace hat := hid hat
      replace hvb := hid hvb
      replace htk := hid htk
      have hkf : Hid (KeepB (fun b => v.ownBlock = some b) w wr) := hid ((KeepB.of_below hB3).trans hkp)
      go_wp2
      go_ret
      exact ⟨_, rfl, hown2.out, hkf.out⟩

end Go.Proofs.YtempjhgajcdibaaDoor
