/- Lemmas, part 8: several texts in one. -/
import Derived.Test.YtdkjnemakkppfaaDoorH7
import Derived.Test.YtdkjnemakkppfaaDoorH1
import Derived.Test.YtdkjnemakkppfaaDoorH3
import Derived.Test.YtdkjnemakkppfaaDoorH2
import Derived.Test.YtdkjnemakkppfaaDoorH4
import Derived.Laws.IdiomStrings
import Derived.Laws.BytesString
import Derived.Maps.AppendAt
import Derived.Deep.Quiet
import Derived.Test.YtdkjnemakkppfaaDoorH5
import Derived.Test.YtdkjnemakkppfaaDoorH6
import Derived.Lib.SmallJoins
set_option linter.unusedSimpArgs false
set_option linter.unusedVariables false

/- The program's FirstTraceOutside. -/
namespace Go.Proofs.YtdkjnemakkppfaaDoor
open Go.RowKit Go.BigFrame AG

theorem setFar_cell (w : World) (p : Addr) (v : Value) {q : Addr} (h : q.block ≠ p.block) : (w.setCell p v).cell? q = w.cell? q := World.cell?_of_block (w := w) (Below.heap_setCell _ _ _ _ h)
theorem MvAt.far {w : World} {B g : Nat} {m : Nat → Nat → Nat} (h : MvAt w B g m) (p : Addr) (v : Value) (hp : g ≠ p.block) : MvAt (w.setCell p v) B g m := ⟨h.1, fun q l h1 h2 => by rw [setFar_cell _ _ _ hp]; exact h.2 q l h1 h2⟩

theorem goal_ok {wq : World} {z bZ size : Nat} (hz : 0 < z) (hz' : z ≤ 65536) (hs : size ≤ 1048576) (hc : wq.cell? ⟨bZ, 0, none⟩ = some (.int .i64 (z : Nat))) :
    GoalOk wq size (fun n => decide (n % z = 0)) 64 #[.pointer (some ⟨bZ, 0, none⟩)] :=
  ⟨fun args w' => by go_simp, fun w' q hb hq => outGoal_any q z bZ w' hz hz' (by omega) ((hb.cell (World.block_lt_of_cell? _ _ hc)).trans hc)⟩

theorem next_ok {s t : Sy} {wq : World} {z sn bN bZ bM gn gm : Nat} (hs : edgesIn s) (ht : edgesIn t) (hsn : s.st = (sn : Int)) (hs16 : sn ≤ 16) (hz : z = 2 ^ t.st.toNat) (hzp : 0 < z) (hzl : z ≤ 65536) (hT : Tab wq)
    (hN : wq.cell? ⟨bN, 0, none⟩ = some (.pointer (some ⟨gn, 0, none⟩))) (hZ : wq.cell? ⟨bZ, 0, none⟩ = some (.int .i64 (z : Nat))) (hM : wq.cell? ⟨bM, 0, none⟩ = some (.pointer (some ⟨gm, 0, none⟩))) (hm : MvAt wq wq.heap.size gm (mv s)) (hn : MvAt wq wq.heap.size gn (mv t)) :
    NextOk wq (sn * z) (letters s.al) (outNx s t z) 60 #[.pointer (some ⟨bN, 0, none⟩), .pointer (some ⟨bZ, 0, none⟩), .pointer (some ⟨bM, 0, none⟩)] := by
  refine ⟨fun args w' => by go_simp, fun q _ l _ n hn => ?_, fun q _ l _ => ?_, fun w' q l v ns base hb hq hl hns hB hB' hown => ?_⟩
  · unfold outNx at hn
    obtain ⟨p, hp, rfl⟩ := List.mem_map.1 hn
    have h1 := testBit_lt (mv_small hs _ _) (memL_mem.1 hp).2
    have h2 := unionOf_small ht (q % z) l
    rw [← hz] at h2
    have h3 : (p + 1) * z ≤ sn * z := Nat.mul_le_mul_right z (by omega)
    rw [Nat.add_mul] at h3
    omega
  · unfold outNx
    rw [List.length_map]
    exact Nat.le_trans (memL_len _) (by omega)
  · have hq16 : q < 16 * z := Nat.lt_of_lt_of_le hq (Nat.mul_le_mul_right z hs16)
    exact outNext_any s t z bN bZ bM gn gm base q l v ns w' hzp hzl hq16 (letters_lt hl).1 (hT.later hb) ((hb.cell (World.block_lt_of_cell? _ _ hN)).trans hN) ((hb.cell (World.block_lt_of_cell? _ _ hZ)).trans hZ)
      ((hb.cell (World.block_lt_of_cell? _ _ hM)).trans hM) (hm.later hb) (hn.later hb) hns hB' (Nat.lt_of_lt_of_le (World.block_lt_of_cell? _ _ hZ) hB) hown

set_option maxRecDepth 100000 in
set_option maxHeartbeats 4000000 in
theorem implFirstTraceOutside_any (s t : Sy) (A B : Option Addr) (c d : Nat) (w : World) (hl : s.es.length ≤ c) (hc : c ≤ 9223372036854775807) (hm : t.es.length ≤ d) (hd : d ≤ 9223372036854775807) (hT : Tab w) (hr : EdsAt w w.heap.size A s.es) (hs : EdsAt w w.heap.size B t.es) :
    Calls Tryd.prog 22 #[s.val A c, t.val B d] w fun e w' => ∃ o, e = .returned (pathV o) ∧ IsOut s t o ∧ Below w.heap.size w w' := by
  unfold Sy.val
  replace hr := hid hr
  replace hs := hid hs
  replace hT := hid hT
  go_enter Tryd.func22, Tryd.ntmps22
  go_wp2_with fail
  obtain ⟨w0, hw0, hz0, hB0, hS, hU⟩ := boxed2 w #[Value.int IntKind.i64 s.al, Value.int IntKind.i64 s.st, Value.slice A s.es.length c] 28 #[Value.int IntKind.i64 t.al, Value.int IntKind.i64 t.st, Value.slice B t.es.length d] 28
  rw [hw0]
  clear hw0
  have p0 := hS 0 _ rfl _ (Below.refl _ _)
  have p1 := hS 1 _ rfl _ (Below.refl _ _)
  have p2 := hS 2 _ rfl _ (Below.refl _ _)
  have q0 := hU 0 _ rfl _ (Below.refl _ _)
  have q1 := hU 1 _ rfl _ (Below.refl _ _)
  have q2 := hU 2 _ rfl _ (Below.refl _ _)
  have hr0 := hid (hr.out.later hB0)
  have hs0 := hid (hs.out.later hB0)
  go_wp2_with fail
  refine (sameAlphabets_any s t A B c d w0 hl hc hm hd hr0.out hs0.out).mono ?_
  rintro e w1 ⟨rfl, hb1⟩
  have b1 := hb1.mono hz0
  clear p0 p1 p2 q0 q1 q2
  have B1 : Below w.heap.size w w1 := hB0.trans (b1.mono (by omega))
  cases hC : cmpOk s t
  · replace hC := hid hC
    go_wp2_with fail
    go_ret2
    exact ⟨none, rfl, by unfold IsOut; rw [hC.out]; rfl, B1⟩
  · replace hC := hid hC
    have hsy := hid (show sysOk s = true ∧ sysOk t = true from by
      have := hC.out
      unfold cmpOk at this
      simp only [Bool.and_eq_true] at this
      exact ⟨this.1, this.2.1⟩)
    have hin1 := hid (sysOk_in hsy.out.1)
    have hin2 := hid (sysOk_in hsy.out.2)
    have z1 := hb1.size
    have hFb : ∀ x, Below (w.heap.size + 2) w0 (Fam w1.heap.size w1 x) := fun x => b1.trans ((Fam.below _ _ x).mono (by omega))
    have y0 := fun x => hS 0 _ rfl _ (hFb x)
    have y1 := fun x => hS 1 _ rfl _ (hFb x)
    have y2 := fun x => hS 2 _ rfl _ (hFb x)
    have u0 := fun x => hU 0 _ rfl _ (hFb x)
    have u1 := fun x => hU 1 _ rfl _ (hFb x)
    have u2 := fun x => hU 2 _ rfl _ (hFb x)
    have hr1 := hid (hr.out.later B1)
    have hs1 := hid (hs.out.later B1)
    replace hFb := hid hFb
    go_wp2_with fail
    refine wp_region_grow2 6 w1.heap.size w1 (fun i u w' => if i = 1 then ∃ g, u = .pointer (some ⟨g, 0, none⟩) ∧ MvAt w' w'.heap.size g (mv s) else ∃ g, u = .pointer (some ⟨g, 0, none⟩) ∧ MvAt w' w'.heap.size g (mv t)) (fun i => i == 4 || i == 5) (by kernel_rfl) (by kernel_rfl) (Nat.le_refl _) (Below.refl _ _) ?_
    simp only [List.take_succ_cons, List.take_zero, List.drop_succ_cons, List.drop_zero]
    (repeat (refine grow_quiet (by rfl) (by rfl) (by rfl) ?_; intro K hK; go_big_quiet_op; go_big_quiet_on))
    refine grow_call (by rfl) (by rfl) (fun u v v' hb h => ?_) (fun wq hbq _ => ?_) fun u hu => ?_
    · obtain ⟨g, e, h⟩ := h
      exact ⟨g, e, h.later hb⟩
    · go_simp
      refine ⟨rfl, (movesOf_any s A c wq hin1.out hl hc (hr1.out.later hbq)).mono ?_⟩
      rintro e w3 ⟨g, rfl, hg, hb3⟩
      exact ⟨_, rfl, hb3, g, rfl, hg⟩
    obtain ⟨wx, -, gm, rfl, -⟩ := hu
    simp only [Act.put, List.setIfInBounds_toArray, List.set_cons_zero, List.set_cons_succ]
    (repeat (refine grow_quiet (by rfl) (by rfl) (by rfl) ?_; intro K hK; go_big_quiet_op; go_big_quiet_on))
    refine grow_call (by rfl) (by rfl) (fun u v v' hb h => ?_) (fun wq hbq _ => ?_) fun u hu => ?_
    · obtain ⟨g, e, h⟩ := h
      exact ⟨g, e, h.later hb⟩
    · go_simp
      refine ⟨rfl, (movesOf_any t B d wq hin2.out hm hd (hs1.out.later hbq)).mono ?_⟩
      rintro e w3 ⟨g, rfl, hg, hb3⟩
      exact ⟨_, rfl, hb3, g, rfl, hg⟩
    obtain ⟨wx', -, gn, rfl, -⟩ := hu
    simp only [Act.put, List.setIfInBounds_toArray, List.set_cons_zero, List.set_cons_succ]
    refine grow_new (by rfl) (fun b => .pointer (some ⟨b, 0, none⟩)) 84 #[.pointer none] (fun _ => by go_simp) (fun _ => rfl) (Nat.le_refl _) fun bM hbM => ?_
    simp only [Act.put, List.setIfInBounds_toArray, List.set_cons_zero, List.set_cons_succ]
    refine grow_new (by rfl) (fun b => .pointer (some ⟨b, 0, none⟩)) 84 #[.pointer none] (fun _ => by go_simp) (fun _ => rfl) (Nat.le_refl _) fun bN hbN => ?_
    simp only [Act.put, List.setIfInBounds_toArray, List.set_cons_zero, List.set_cons_succ]
    refine grow_nil ?_
    intro w2 hb2 hf hap
    have hne : bM ≠ bN := by
      have := hap 4 5 6 7 _ _ (by decide) (by decide) (by decide) rfl rfl rfl rfl rfl rfl
      simpa [blockOf] using this
    obtain ⟨_, e5, -, hN5⟩ := hf _ List.mem_cons_self
    cases e5
    obtain ⟨_, e4, -, hM4⟩ := hf _ (List.mem_cons_of_mem _ List.mem_cons_self)
    cases e4
    obtain ⟨_, e3, hn3⟩ := hf _ (List.mem_cons_of_mem _ (List.mem_cons_of_mem _ List.mem_cons_self))
    cases e3
    obtain ⟨_, e1, hm1⟩ := hf _ (List.mem_cons_of_mem _ (List.mem_cons_of_mem _ (List.mem_cons_of_mem _ List.mem_cons_self)))
    cases e1
    clear hf hap y0 y1 y2 u0 u1 u2
    have hBM : Blk w2 bM 84 #[.pointer none] := hM4
    have hBN : Blk w2 bN 84 #[.pointer none] := hN5
    clear hM4 hN5
    have hgm : ∀ g b m, Blk w2 b 84 #[.pointer none] → MvAt w2 w2.heap.size g m → g ≠ b := fun g b m hb hm e => by
      subst e
      have h1 := hm.2 0 0 (by omega) (by omega)
      have h2 := hb.cell 0
      simp at h2
      simp [h2] at h1
    have g1 := hgm gm bM _ hBM hm1
    have g2 := hgm gm bN _ hBN hm1
    have g3 := hgm gn bM _ hBM hn3
    have g4 := hgm gn bN _ hBN hn3
    clear hgm
    obtain ⟨w3, hw3⟩ : ∃ w3, (w2.setCell ⟨bM, 0, none⟩ (.pointer (some ⟨gm, 0, none⟩))).setCell ⟨bN, 0, none⟩ (.pointer (some ⟨gn, 0, none⟩)) = w3 := ⟨_, rfl⟩
    have hb3 : Below w1.heap.size w1 w3 := by
      rw [← hw3]
      (repeat (first | exact Below.refl _ _ | assumption | refine Below.drew ?_ | refine Below.alloc ?_ (by first | omega | (simp; done) | (simp; omega)) _ | refine Below.setCell ?_ (by first | omega | (simp; done) | (simp; omega)) _))
    have hm3 : MvAt w3 w3.heap.size gm (mv s) := by
      have := MvAt.far (MvAt.far hm1 ⟨bM, 0, none⟩ (.pointer (some ⟨gm, 0, none⟩)) g1) ⟨bN, 0, none⟩ (.pointer (some ⟨gn, 0, none⟩)) g2
      rw [hw3] at this
      refine ⟨?_, this.2⟩
      have := hm1.1
      rw [← hw3]
      simpa using this
    have hn4 : MvAt w3 w3.heap.size gn (mv t) := by
      have := MvAt.far (MvAt.far hn3 ⟨bM, 0, none⟩ (.pointer (some ⟨gm, 0, none⟩)) g3) ⟨bN, 0, none⟩ (.pointer (some ⟨gn, 0, none⟩)) g4
      rw [hw3] at this
      refine ⟨?_, this.2⟩
      have := hn3.1
      rw [← hw3]
      simpa using this
    have hcM : w3.cell? ⟨bM, 0, none⟩ = some (.pointer (some ⟨gm, 0, none⟩)) := by
      rw [← hw3, setFar_cell _ _ _ (by simpa using hne)]
      have := (hBM.set_ 0 (.pointer (some ⟨gm, 0, none⟩))).cell 0
      simpa using this
    have hBN' : Blk (w2.setCell ⟨bM, 0, none⟩ (.pointer (some ⟨gm, 0, none⟩))) bN 84 #[.pointer none] := (Below.heap_setCell _ _ _ _ (Ne.symm hne)).trans hBN
    have hcN : w3.cell? ⟨bN, 0, none⟩ = some (.pointer (some ⟨gn, 0, none⟩)) := by
      rw [← hw3]
      have := (hBN'.set_ 0 (.pointer (some ⟨gn, 0, none⟩))).cell 0
      simpa using this
    have c1 := hBM.cell 0
    have c2 := hBN'.cell 0
    simp only [List.getElem?_toArray, List.getElem?_cons_zero] at c1 c2
    have z1' := hBM.frozen 0
    have z2' := hBN'.frozen 0
    have hb3' := b1.trans (hb3.mono (by omega))
    have k1 := hU 1 _ rfl _ hb3'
    obtain ⟨z, hz⟩ : ∃ z, z = 2 ^ t.st.toNat := ⟨_, rfl⟩
    have hst := sysOk_st hsy.out.2
    have hst1 := sysOk_st hsy.out.1
    have hzw : wrap64 ((2 : Int) ^ t.st.toNat) = ((z : Nat) : Int) := by rw [wrap_pow (by omega), hz]
    rw [← hw3] at k1
    replace hm3 := hid hm3
    replace hn4 := hid hn4
    replace hcM := hid hcM
    replace hcN := hid hcN
    replace hw3 := hid hw3
    replace hz := hid hz
    replace hBM := hid hBM
    replace hBN := hid hBN
    replace hBN' := hid hBN'
    clear hm1 hn3
    have hz32 : Hid (w3.heap.size = w2.heap.size) := hid (by rw [← hw3.out]; simp)
    go_wp2_with fail
    rw [hw3.out]
    obtain ⟨w4, hw4⟩ : ∃ w4, w3.alloc (Obj.cells #[Value.int IntKind.i64 (z : Nat)] 3) = w4 := ⟨_, rfl⟩
    rw [hw4]
    have hb4 : Below w3.heap.size w3 w4 := by
      rw [← hw4]
      (repeat (first | exact Below.refl _ _ | assumption | refine Below.drew ?_ | refine Below.alloc ?_ (by first | omega | (simp; done) | (simp; omega)) _ | refine Below.setCell ?_ (by first | omega | (simp; done) | (simp; omega)) _))
    have hcZ : w4.cell? ⟨w2.heap.size, 0, none⟩ = some (.int .i64 (z : Nat)) := by
      have := (Blk.new w3 3 #[Value.int IntKind.i64 (z : Nat)]).cell 0
      rw [hw4, hz32.out] at this
      simpa using this
    have hm5 := hid (hm3.out.later hb4)
    have hn5 := hid (hn4.out.later hb4)
    have hcM4 := hid ((hb4.cell (World.block_lt_of_cell? _ _ hcM.out)).trans hcM.out)
    have hcN4 := hid ((hb4.cell (World.block_lt_of_cell? _ _ hcN.out)).trans hcN.out)
    have hb14 : Below w1.heap.size w1 w4 := hb3.trans (hb4.mono hb3.size)
    have hb04 := b1.trans (hb14.mono (by omega))
    have hFb : ∀ x, Below (w.heap.size + 2) w0 (Fam w4.heap.size w4 x) := fun x => hb04.trans ((Fam.below _ _ x).mono (by have := hb04.size; omega))
    have y0 := fun x => hS 0 _ rfl _ (hFb x)
    have y1 := fun x => hS 1 _ rfl _ (hFb x)
    have hcZ' := World.block_lt_of_cell? _ _ hcZ
    have y2 : ∀ x, (Fam w4.heap.size w4 x).cell? ⟨w2.heap.size, 0, none⟩ = some (.int .i64 (z : Nat)) := fun x => ((Fam.below _ _ x).cell hcZ').trans hcZ
    have hT4 := hid (hT.out.later (B1.trans (hb14.mono (Nat.le_trans (by omega) z1))))
    obtain ⟨sn, hsn⟩ : ∃ sn : Nat, s.st = (sn : Int) := ⟨s.st.toNat, by omega⟩
    have hzl : z ≤ 65536 := by
      rw [hz.out]
      exact Nat.le_trans (Nat.pow_le_pow_right (by omega) (show t.st.toNat ≤ 16 by omega)) (by decide)
    have hzp : 0 < z := by rw [hz.out]; exact Nat.two_pow_pos _
    have hz2 : 1 < z := by
      rw [hz.out]
      have : 2 ^ 1 ≤ 2 ^ t.st.toNat := Nat.pow_le_pow_right (by omega) (by omega)
      omega
    have hsz : sn * z ≤ 1048576 := Nat.le_trans (Nat.mul_le_mul (show sn ≤ 16 by omega) hzl) (by omega)
    have hsz1 : z ≤ sn * z := Nat.le_mul_of_pos_left z (by omega)
    have hmul : Hid (s.st * (z : Int) = ((sn * z : Nat) : Int)) := hid (by rw [hsn, Int.natCast_mul])
    have hm1 : s.st * (z : Int) ≤ 1048576 := by rw [hmul.out]; omega
    have hm2 : 0 ≤ s.st * (z : Int) := by rw [hmul.out]; omega
    have hs16 : sn ≤ 16 := by omega
    replace hsn := hid hsn
    replace hFb := hid hFb
    replace hw3 := hid hw3
    replace hw4 := hid hw4
    clear hzw k1 c1 c2 z1' z2'
    refine wp_region_grow 13 w4.heap.size w4 (fun i u w' => if i = 7 then OwnNats w' w4.heap.size u (letters s.al) else ∃ o, u = pathV o ∧ IsOut s t o) (by kernel_rfl) (by kernel_rfl) (Nat.le_refl _) (Below.refl _ _) ?_
    simp only [List.take_succ_cons, List.take_zero, List.drop_succ_cons, List.drop_zero]
    (repeat (refine grow_quiet (by rfl) (by rfl) (by rfl) ?_; intro K hK; go_big_quiet_op; go_big_quiet_on))
    refine grow_new (by rfl) (fun b => .slice (some ⟨b, 0, none⟩) 1 1) 3 #[.int .i64 1] (fun _ => by go_simp) (fun _ => rfl) (Nat.le_refl _) fun bI hbI => ?_
    simp only [Act.put, List.setIfInBounds_toArray, List.set_cons_zero, List.set_cons_succ]
    (repeat (refine grow_quiet (by rfl) (by rfl) (by rfl) ?_; intro K hK; go_big_quiet_op; go_big_quiet_on))
    refine grow_call (by rfl) (by rfl) (fun u v v' hb h => ?_) (fun wq hbq _ => ?_) fun u hu => ?_
    · exact own_keep h (.of_below (K := fun _ => False) hb) fun _ _ h => h
    · go_simp
      refine ⟨rfl, (lettersOf_any s.al wq).mono ?_⟩
      rintro e w5 ⟨v, rfl, ho, hb5⟩
      exact ⟨v, rfl, hb5, own_base ho hbq.size⟩
    simp only [Act.put, List.setIfInBounds_toArray, List.set_cons_zero, List.set_cons_succ]
    (repeat (refine grow_quiet (by rfl) (by rfl) (by rfl) ?_; intro K hK; go_big_quiet_op; go_big_quiet_on))
    refine grow_call (by rfl) (by rfl) (fun v x x' hb h => h) (fun wq hbq hfx => ?_) fun u2 hu2 => ?_
    · have hlet : OwnNats wq w4.heap.size u (letters s.al) := hfx _ List.mem_cons_self (by kernel_rfl)
      obtain ⟨bI', eI, -, hI⟩ := hfx _ (List.mem_cons_of_mem _ List.mem_cons_self) (by kernel_rfl)
      cases eI
      have hbz := hid ((hbq.cell hcZ').trans hcZ)
      have hbM' := hid ((hbq.cell (World.block_lt_of_cell? _ _ hcM4.out)).trans hcM4.out)
      have hbN' := hid ((hbq.cell (World.block_lt_of_cell? _ _ hcN4.out)).trans hcN4.out)
      have hTq := hid (hT4.out.later hbq)
      have hmq := hid (hm5.out.later hbq)
      have hnq := hid (hn5.out.later hbq)
      go_simp
      refine ⟨rfl, ?_⟩
      rw [hmul.out]
      have hhit : ∀ r, (∃ n, RW (fun n => n ∈ [1]) (letters s.al) (outNx s t z) r n ∧ decide (n % z = 0) = true) ↔ AG.Outside s t r := by
        rw [hz.out]
        exact impl_hits hin1.out hin2.out hst.1
      have hIo : wq.ownsRow 0 3 1 (.slice (some ⟨bI, 0, none⟩) 1 1) [1].length (natVals [1]) := ⟨rfl, .inr ⟨bI, 1, #[.int .i64 1], rfl, Nat.zero_le _, hI, Nat.le_refl _, by decide, rfl, rfl⟩⟩
      refine (firstPath_any wq (sn * z) (fun n => decide (n % z = 0)) 64 #[.pointer (some ⟨w2.heap.size, 0, none⟩)] (goal_ok hzp hzl hsz hbz.out) (letters s.al) (letters_sorted _) (fun l h => (letters_lt h).1) (outNx s t z) 60 _
        (next_ok hin1.out hin2.out hsn.out hs16 hz.out hzp hzl hTq.out hbN'.out hbz.out hbM'.out hmq.out hnq.out) [1] (by simp) (fun n hn => by rw [List.mem_singleton] at hn; omega) (by simp) _ u hIo (own_base hlet (Nat.zero_le _)) hsz).mono ?_
      rintro e w6 ⟨o, rfl, hp, hb6⟩
      exact ⟨_, rfl, hb6, o, rfl, out_of_first hhit hC.out hp⟩
    obtain ⟨w6', -, o, rfl, hout⟩ := hu2
    obtain ⟨Sv, Fv, hpv⟩ : ∃ Sv Fv, pathV o = .tuple #[.string Sv, .bool Fv] := ⟨_, _, rfl⟩
    rw [hpv]
    have hout' := hid (show ∃ o, (Value.tuple #[.string Sv, .bool Fv]) = pathV o ∧ IsOut s t o from ⟨o, hpv.symm, hout⟩)
    clear hout hpv
    simp only [Act.put, List.setIfInBounds_toArray, List.set_cons_zero, List.set_cons_succ]
    (repeat (refine grow_quiet (by rfl) (by rfl) (by rfl) ?_; intro K hK; go_big_quiet_op; go_big_quiet_on))
    refine grow_nil ?_
    intro w7 hb7 hf
    clear hf y0 y1 y2
    have hB7 : Below w.heap.size w w7 := B1.trans ((hb14.trans (hb7.mono hb14.size)).mono (by omega))
    go_wp2_with fail
    go_ret2
    obtain ⟨o, ho, hout⟩ := hout'.out
    exact ⟨o, by rw [← ho]; rfl, hout, hB7⟩

end Go.Proofs.YtdkjnemakkppfaaDoor

/- The reference's l2Step, l6Comparable. -/
namespace Go.Proofs.YtdkjnemakkppfaaDoor
open Go.RowKit Go.BigFrame AG

set_option maxHeartbeats 1000000 in
theorem l2Step_any (s : Sy) (A : Option Addr) (c : Nat) (S : Nat) (l : Int) (w : World) (hs : edgesIn s) (hl : s.es.length ≤ c) (hc : c ≤ 9223372036854775807) (hr : EdsAt w w.heap.size A s.es) :
    Calls Tryd.prog 66 #[s.val A c, .int .i64 S, .int .i64 l] w fun e w' => e = .returned (.int .i64 (stepSet s S l : Nat)) ∧ Below w.heap.size w w' := by
  unfold Sy.val
  replace hr := hid hr
  replace hs := hid hs
  go_enter Tryd.func66, Tryd.ntmps66
  go_wp2_with fail
  obtain ⟨w0, hw0, hz0, hB0, hS0, hS1, hS2⟩ := boxed3 w (Value.int IntKind.i64 s.al) (Value.int IntKind.i64 s.st) (Value.slice A s.es.length c) 28
  rw [hw0]
  clear hw0
  go_loopw [7, 8] (fun st i wr => ∃ (U k : Nat), st = .int .i64 U ∧ i = .int .i64 k ∧ k ≤ s.es.length ∧ U = stTo s S l k ∧ Below (w.heap.size + 1) w0 wr) (fun _ i _ => s.es.length - (intOf i).toNat)
  case atStart => exact ⟨0, 0, rfl, rfl, by omega, (stTo_zero s S l).symm, Below.refl _ _⟩
  case round =>
    obtain ⟨U, k, rfl, rfl, hk, hU, hb1⟩ := hrel
    have hUl := stTo_lt s S l k
    rw [← hU] at hUl
    replace hU := hid hU
    have q0 := hS0 _ hb1
    have q1 := hS1 _ hb1
    have q2 := hS2 _ hb1
    by_cases hlt : k < s.es.length
    · obtain ⟨b, o, rfl, hB, hE⟩ := hr.out.get hB0 (Nat.le_succ w.heap.size) hlt
      obtain ⟨e0, e1, e2⟩ := hE k hlt
      replace e0 := e0 _ hb1
      replace e1 := e1 _ hb1
      replace e2 := e2 _ hb1
      obtain ⟨f1, f2, f3, f4, f5, f6, f7, _⟩ := hs.out s.es[k] (List.getElem_mem _)
      have hw3 := hid (bits_orN U (2 ^ s.es[k].t.toNat) (by omega) (by have := Nat.pow_lt_pow_right (a := 2) (by omega) (show s.es[k].t.toNat < 16 by omega); omega))
      replace hE := hid hE
      go_wp2_with (first | (go_at_call 73; refine (l1Has_any _ _ _ (by omega) (by omega)).mono ?_; rintro e w' ⟨rfl, rfl⟩) | (go_at_call 92; refine (l1Bit_int _ _ (by omega) (by omega)).mono ?_; rintro e w' ⟨rfl, rfl⟩))
      · go_roundw
        case rel =>
          refine ⟨U ||| 2 ^ s.es[k].t.toNat, k + 1, ?_, by go_num, by omega, ?_, by (repeat (first | exact Below.refl _ _ | assumption | refine Below.drew ?_ | refine Below.alloc ?_ (by first | omega | (simp; done) | (simp; omega)) _ | refine Below.setCell ?_ (by first | omega | (simp; done) | (simp; omega)) _))⟩
          · rw [← hw3.out, Int.natCast_pow]
            rfl
          · rw [stTo_hit hs.out hlt (by assumption) (by rw [← Has_nat]; assumption), hU.out]
        case measure => simp [intOf]; omega
      all_goals
        go_roundw
        case rel => exact ⟨U, k + 1, rfl, by go_num, by omega, by rw [stTo_miss hlt (by rw [← Has_nat]; simp_all), hU.out], by (repeat (first | exact Below.refl _ _ | assumption | refine Below.drew ?_ | refine Below.alloc ?_ (by first | omega | (simp; done) | (simp; omega)) _ | refine Below.setCell ?_ (by first | omega | (simp; done) | (simp; omega)) _))⟩
        case measure => simp [intOf]; omega
    · obtain rfl : k = s.es.length := by omega
      rw [stTo_all] at hU
      go_wp2
      go_ret
      exact ⟨by rw [← hU.out]; rfl, hB0.trans (hb1.mono (by omega))⟩

end Go.Proofs.YtdkjnemakkppfaaDoor

/- The reference's l6Comparable. -/
namespace Go.Proofs.YtdkjnemakkppfaaDoor
open Go.RowKit Go.BigFrame AG

set_option maxHeartbeats 1000000 in
theorem l6Comparable_any (s t : Sy) (A B : Option Addr) (c d : Nat) (w : World) (hl : s.es.length ≤ c) (hc : c ≤ 9223372036854775807) (hm : t.es.length ≤ d) (hd : d ≤ 9223372036854775807) (hr : EdsAt w w.heap.size A s.es) (hs : EdsAt w w.heap.size B t.es) :
    Calls Tryd.prog 65 #[s.val A c, t.val B d] w fun e w' => e = .returned (.bool (cmpOk s t)) ∧ Below w.heap.size w w' := by
  unfold Sy.val
  replace hr := hid hr
  replace hs := hid hs
  have hval : Hid (cmpOk s t = (sysOk s && (sysOk t && decide (s.al = t.al)))) := hid rfl
  go_enter Tryd.func65, Tryd.ntmps65
  go_wp2_with fail
  obtain ⟨w0, hw0, hz0, hB0, hS, hT⟩ := boxed2 w #[Value.int IntKind.i64 s.al, Value.int IntKind.i64 s.st, Value.slice A s.es.length c] 28 #[Value.int IntKind.i64 t.al, Value.int IntKind.i64 t.st, Value.slice B t.es.length d] 28
  rw [hw0]
  clear hw0
  have p0 := hS 0 _ rfl _ (Below.refl _ _)
  have p1 := hS 1 _ rfl _ (Below.refl _ _)
  have p2 := hS 2 _ rfl _ (Below.refl _ _)
  have hr0 := hid (hr.out.later hB0)
  go_wp2_with fail
  refine (specSystemValid_any s A c w0 hl hc hr0.out).mono ?_
  rintro e w1 ⟨rfl, hb1⟩
  have b1 := hb1.mono hz0
  clear p0 p1 p2
  have p0 := hS 0 _ rfl _ b1
  have q0 := hT 0 _ rfl _ b1
  have q1 := hT 1 _ rfl _ b1
  have q2 := hT 2 _ rfl _ b1
  have B1 : Below w.heap.size w w1 := hB0.trans (b1.mono (by omega))
  cases hA : sysOk s
  · replace hA := hid hA
    go_wp2_with fail
    go_ret
    exact ⟨ret_bool (by rw [hval.out, hA.out]; rfl), B1⟩
  · replace hA := hid hA
    have hs1 := hid (hs.out.later B1)
    go_wp2_with fail
    refine (specSystemValid_any t B d w1 hm hd hs1.out).mono ?_
    rintro e w2 ⟨rfl, hb2⟩
    have b2 := b1.trans (hb2.mono (Nat.le_trans hz0 hb1.size))
    clear p0 q0 q1 q2
    have p0 := hS 0 _ rfl _ b2
    have q0 := hT 0 _ rfl _ b2
    have B2 : Below w.heap.size w w2 := hB0.trans (b2.mono (by omega))
    cases hB : sysOk t
    · replace hB := hid hB
      go_wp2_with fail
      go_ret
      exact ⟨ret_bool (by rw [hval.out, hA.out, hB.out]; rfl), B2⟩
    · replace hB := hid hB
      go_wp2_with fail
      go_ret
      exact ⟨ret_bool (by rw [hval.out, hA.out, hB.out, Bool.eq_iff_iff]; simp), B2⟩

end Go.Proofs.YtdkjnemakkppfaaDoor

/- The reference's FirstTraceOutside. -/
namespace Go.Proofs.YtdkjnemakkppfaaDoor
open Go.RowKit Go.BigFrame AG

theorem infoPair : (Tryd.prog.info? 90).map (fun i => (i.zero, i.size, i.bytes)) = some (some (.agg #[.int .i64 0, .int .i64 0]), 2, 16) := by kernel_rfl
theorem infoStr : (Tryd.prog.info? 9).map (fun i => (i.zero, i.size, i.bytes)) = some (some (.string ⟨#[]⟩), 1, 16) := by kernel_rfl

/-- What the search holds: seen pairs, their words. -/
structure Srch (s t : Sy) (B : Nat) (wr : World) (sv wv : Value) (ps : List (Nat × Nat)) (ws : List (List Nat)) (i k : Nat) : Prop where
  own1 : wr.ownsRow B 90 2 sv ps.length (pairCells ps)
  own2 : wr.ownsRow B 9 1 wv ws.length (ws.map fun r => Value.string (wordS r))
  ne : sv.ownBlock ≠ wv.ownBlock
  pb : PB s t (letters s.al) ps ws i k
  pre : ∀ j (hj : j < ps.length), j < i → ps[j].2 ≠ 0
  pos : 0 < ps.length

theorem PairsAt.later {w w' : World} {A : Option Addr} {ps : List (Nat × Nat)} (h : PairsAt w w.heap.size A ps) (hb : Below w.heap.size w w') : PairsAt w' w'.heap.size A ps := fun hl => by
  obtain ⟨b, o, hA, hb', hE⟩ := h hl
  exact ⟨b, o, hA, Nat.lt_of_lt_of_le hb' hb.size, fun i hi => by rw [hb.cell (by simpa using hb'), hb.cell (by simpa using hb')]; exact hE i hi⟩

theorem Blk.news {w : World} {g : Nat} {T : TypeId} {x : Value} (h : w.heap[g]? = some (.cells #[x] T (0, 0))) : ∀ j u, [x][j]? = some u → w.cell? ((⟨g, 0, none⟩ : Addr).add j) = some u := by
  intro j u hj
  match j, hj with
  | 0, hj =>
    simp at hj
    subst hj
    simp [Addr.add, World.cell?, h]

theorem cell_two_new (w : World) (x y : Value) (t : TypeId) : ∀ j u, [x, y][j]? = some u → (w.alloc (.cells #[x, y] t)).cell? ((⟨w.heap.size, 0, none⟩ : Addr).add j) = some u := by
  intro j u hj
  match j, hj with
  | 0, hj =>
    simp at hj
    subst hj
    simp [Addr.add]
  | 1, hj =>
    simp at hj
    subst hj
    simp [Addr.add]

theorem Srch.later {s t : Sy} {B : Nat} {wr w' : World} {sv wv : Value} {ps : List (Nat × Nat)} {ws : List (List Nat)} {i k k' : Nat} (h : Srch s t B wr sv wv ps ws i k) (hb : Below wr.heap.size wr w') (hp : PB s t (letters s.al) ps ws i k') : Srch s t B w' sv wv ps ws i k' :=
  ⟨own_later h.own1 hb, own_later h.own2 hb, h.ne, hp, h.pre, h.pos⟩

theorem Srch.add {s t : Sy} {B : Nat} {wr w2 w8 w9 w10 w11 : World} {sv wv v9 v11 : Value} {ps : List (Nat × Nat)} {ws : List (List Nat)} {i k Z V l : Nat} {o1 : Obj} {S : ByteArray} (h : Srch s t B wr sv wv ps ws i k) (hB : Below B w2 wr) (hBs : B ≤ w2.heap.size)
    (hi : i < ps.length) (hi' : i < ws.length) (hk : k < (letters s.al).length) (hst : stepP s t ps[i] (letters s.al)[k] = (Z, V)) (hZ : Z ≠ 0) (hnew : (Z, V) ∉ ps) (hl : l = (letters s.al)[k]) (hS : S = wordS (l :: ws[i])) (h8 : Below wr.heap.size wr w8)
    (hO9 : w9.ownsRow B 90 2 v9 (ps.length + 1) (pairCells ps ++ [.int .i64 (Z : Nat), .int .i64 (V : Nat)])) (hg9 : (w8.alloc o1).grownBy w9 sv.ownBlock) (hat9 : v9.ownBlock = sv.ownBlock ∨ v9.ownBlock = some (w8.alloc o1).heap.size) (h10 : Below w9.heap.size w9 w10)
    (hO11 : w11.ownsRow B 9 1 v11 (ws.length + 1) (ws.map (fun r => Value.string (wordS r)) ++ [.string S])) (hg11 : w10.grownBy w11 wv.ownBlock) (hat11 : v11.ownBlock = wv.ownBlock ∨ v11.ownBlock = some w10.heap.size) :
    Srch s t B w11 v9 v11 (ps ++ [(Z, V)]) (ws ++ [l :: ws[i]]) i (k + 1) ∧ Below B w2 w11 := by
  have z8 := h8.size
  have z9 := hg9.size
  have z10 := h10.size
  have z11 := hg11.size
  simp only [World.size_alloc] at z9 hat9
  have hneW : v9.ownBlock ≠ wv.ownBlock := by
    rcases hat9 with e | e
    · rw [e]; exact h.ne
    · rw [e]
      intro e'
      have := (h.own2.lt _ e'.symm).2
      omega
  have hO1 : w11.ownsRow B 90 2 v9 (ps.length + 1) (pairCells ps ++ [.int .i64 (Z : Nat), .int .i64 (V : Nat)]) := (own_later hO9 h10).kept hg11 (.inr hneW)
  have hp := h.pb.add (letters_sorted _) hi hi' hk (by rw [hst]; exact hZ) (by rw [hst]; exact hnew)
  rw [hst, ← hl] at hp
  refine ⟨⟨?_, ?_, ?_, hp, ?_, by simp⟩, ?_⟩
  · have : (ps ++ [(Z, V)]).length = ps.length + 1 := by simp
    rw [this, pairCells_append]
    exact hO1
  · have : (ws ++ [l :: ws[i]]).length = ws.length + 1 := by simp
    rw [this, List.map_append, List.map_cons, List.map_nil, ← hS]
    exact hO11
  · intro e
    rcases hat11 with e' | e'
    · exact hneW (e.trans e')
    · have := (hO9.lt _ (e.trans e')).2
      omega
  · intro j hj hji
    have hj' : j < ps.length := by omega
    rw [List.getElem_append_left hj']
    exact h.pre j hj' hji
  · have b8 : Below B w2 (w8.alloc o1) := (hB.trans (h8.mono (Nat.le_trans hBs hB.size))).alloc (by have := hB.size; omega) _
    have b9 : Below B w2 w9 := b8.grown hg9 (by have := b8.size; omega) (fun k hk => (h.own1.lt k hk).1)
    have b10 : Below B w2 w10 := b9.trans (h10.mono (by have := b9.size; omega))
    exact b10.grown hg11 (by have := b10.size; omega) (fun k hk => (h.own2.lt k hk).1)

/-- What the search for the first trace of a that is none of b finds. -/
def IsFirst (s t : Sy) (o : Option (List Nat)) : Prop :=
  if cmpOk s t = true then
    match o with
    | some r => FirstW pI (letters s.al) (pN s t) pG r
    | none => ∀ q n, RW pI (letters s.al) (pN s t) q n → ¬ pG n
  else o = none
/-- .. as the two results. -/
def outV (o : Option (List Nat)) : Value := .tuple #[.string (match o with | some r => wordS r | none => ⟨#[]⟩), .bool o.isSome]

set_option maxRecDepth 100000 in
set_option maxHeartbeats 8000000 in
theorem specFirstTraceOutside_any (s t : Sy) (A B : Option Addr) (c d : Nat) (w : World) (hl : s.es.length ≤ c) (hc : c ≤ 9223372036854775807) (hm : t.es.length ≤ d) (hd : d ≤ 9223372036854775807) (hr : EdsAt w w.heap.size A s.es) (hs : EdsAt w w.heap.size B t.es) :
    Calls Tryd.prog 23 #[s.val A c, t.val B d] w fun e w' => ∃ o, e = .returned (outV o) ∧ IsFirst s t o ∧ Below w.heap.size w w' := by
  unfold Sy.val
  obtain ⟨j2, ha, ha0, ha1, ha2⟩ := info_parts infoPair
  obtain ⟨j1, hs', hs0', hs1', hs2'⟩ := info_parts infoStr
  replace hr := hid hr
  replace hs := hid hs
  go_enter Tryd.func23, Tryd.ntmps23
  go_wp2_with fail
  obtain ⟨w0, hw0, hz0, hB0, hS, hT⟩ := boxed2 w #[Value.int IntKind.i64 s.al, Value.int IntKind.i64 s.st, Value.slice A s.es.length c] 28 #[Value.int IntKind.i64 t.al, Value.int IntKind.i64 t.st, Value.slice B t.es.length d] 28
  rw [hw0]
  clear hw0
  have p0 := hS 0 _ rfl _ (Below.refl _ _)
  have p1 := hS 1 _ rfl _ (Below.refl _ _)
  have p2 := hS 2 _ rfl _ (Below.refl _ _)
  have q0 := hT 0 _ rfl _ (Below.refl _ _)
  have q1 := hT 1 _ rfl _ (Below.refl _ _)
  have q2 := hT 2 _ rfl _ (Below.refl _ _)
  have hr0 := hid (hr.out.later hB0)
  have hs0 := hid (hs.out.later hB0)
  go_wp2_with fail
  refine (l6Comparable_any s t A B c d w0 hl hc hm hd hr0.out hs0.out).mono ?_
  rintro e w1 ⟨rfl, hb1'⟩
  have b1 := hb1'.mono hz0
  clear p0 p1 p2 q0 q1 q2
  have B1 : Below w.heap.size w w1 := hB0.trans (b1.mono (by omega))
  cases hC : cmpOk s t
  · replace hC := hid hC
    go_wp2_with fail
    go_ret2
    exact ⟨none, rfl, by unfold IsFirst; rw [hC.out]; rfl, B1⟩
  · replace hC := hid hC
    have p0 := hS 0 _ rfl _ b1
    go_wp2_with fail
    refine (l1Letters_any s.al w1).mono ?_
    rintro e w2 ⟨vl, rfl, hown, hb2⟩
    have z1 := hb1'.size
    have b2 := b1.trans (hb2.mono (by omega))
    go_wp2_with fail
    obtain ⟨w3, hw3, hz3, hB3, hX, hY⟩ := boxed2 w2 #[Value.int IntKind.i64 1, Value.int IntKind.i64 1] 90 #[Value.string ⟨#[]⟩] 9
    rw [hw3]
    have hst : Srch s t w2.heap.size w3 (.slice (some ⟨w2.heap.size, 0, none⟩) 1 1) (.slice (some ⟨w2.heap.size + 1, 0, none⟩) 1 1) [(1, 1)] [[]] 0 0 := by
      refine ⟨⟨rfl, .inr ⟨w2.heap.size, 1, #[Value.int IntKind.i64 1, Value.int IntKind.i64 1], rfl, Nat.le_refl _, ?_, Nat.le_refl _, by decide, rfl, rfl⟩⟩, ⟨rfl, .inr ⟨w2.heap.size + 1, 1, #[Value.string ⟨#[]⟩], rfl, by omega, ?_, Nat.le_refl _, by decide, rfl, rfl⟩⟩, by simp [Value.ownBlock], PB.begin, fun j hj h => by omega, by simp⟩
      · rw [← hw3, Below.heap_alloc _ _ _ (by simp)]
        exact heap_alloc_self _ _
      · rw [← hw3]
        have := heap_alloc_self (w2.alloc (Obj.cells #[Value.int IntKind.i64 1, Value.int IntKind.i64 1] 90)) (Obj.cells #[Value.string ⟨#[]⟩] 9)
        simpa using this
    clear hw3 hX hY
    replace hst := hid hst
    have hb3 : Below w2.heap.size w2 w3 := hB3
    have z2 := hb2.size
    have hsy := hid (show sysOk s = true ∧ sysOk t = true from by
      have := hC.out
      unfold cmpOk at this
      simp only [Bool.and_eq_true] at this
      exact ⟨this.1, this.2.1⟩)
    obtain ⟨N, hN⟩ : ∃ N : Nat, Hid (N = 4294967297) := ⟨_, hid rfl⟩
    go_wp2_with fail
    go_loopw [7, 8, 9] (fun sv wv iv wr => ∃ ps ws, ∃ i : Nat, iv = .int .i64 i ∧ i ≤ ps.length ∧ Srch s t w2.heap.size wr sv wv ps ws i 0 ∧ Below w2.heap.size w2 wr) (fun _ _ iv _ => N - (intOf iv).toNat)
    case atStart => exact ⟨[(1, 1)], [[]], 0, rfl, by simp, hst.out, hb3⟩
    case round =>
      obtain ⟨ps, ws, i, rfl, hi, hsr, hbr⟩ := hrel
      have hpos := hsr.pos
      have hbd := hsr.pb.bound
      have hwl := hsr.pb.len
      obtain ⟨g1, c1, rfl, hg1, hg1', hc1, hc1', hP, hPc⟩ := own_pairs hsr.own1 hpos
      replace hP := hid hP
      replace hsr := hid hsr
      by_cases hlt : i < ps.length
      · obtain ⟨e0, e1⟩ := hPc i hlt
        replace hPc := hid hPc
        by_cases hgoal : ps[i].2 = 0
        · obtain ⟨g2, c2, rfl, hg2, hg2', hc2, hc2', hW⟩ := own_words hsr.out.own2 (by omega)
          have f0 := hW i (by omega)
          replace hW := hid hW
          have hF := hid (hsr.out.pb.found hlt (by omega) hsr.out.pre hgoal)
          rw [hgoal] at e1
          go_wp2
          go_ret2
          refine ⟨some ws[i], rfl, ?_, ?_⟩
          · unfold IsFirst
            rw [if_pos hC.out]
            exact hF.out
          · exact (B1.trans (hb2.mono (by omega))).trans (hbr.mono (by omega))
        · obtain ⟨Al, cl, hvl, hcl, hcl'⟩ := own_slice hown
          subst hvl
          replace hown := hid hown
          have hg0 : (((ps[i].2 : Nat) : Int) == 0) = false := by simp; omega
          replace hgoal := hid hgoal
          go_wp2_with fail
          go_loopw [7, 8, 10] (fun sv wv kv wr => ∃ ps ws, ∃ k : Nat, kv = .int .i64 k ∧ k ≤ (letters s.al).length ∧ i < ps.length ∧ (∀ h : i < ps.length, ps[i].2 ≠ 0) ∧ Srch s t w2.heap.size wr sv wv ps ws i k ∧ Below w2.heap.size w2 wr) (fun _ _ kv _ => (letters s.al).length - (intOf kv).toNat)
          case atStart => exact ⟨ps, ws, 0, rfl, by omega, hlt, fun _ => hgoal.out, hsr.out, hbr⟩
          case round =>
            clear hP hPc e0 e1 hg0 hc1 hc1' hg1' hg1 hsr hpos hbd hwl
            obtain ⟨ps, ws, k, rfl, hk, hi, hne, hsr, hbr⟩ := hrel
            have hpos := hsr.pos
            have hbd := hsr.pb.bound
            have hwl := hsr.pb.len
            by_cases hkl : k < (letters s.al).length
            · obtain ⟨gl, cl2, hve, hgl, hgl', -, -, hLc⟩ := own_nats hown.out (by omega)
              injection hve with hv1 hv2 hv3
              subst hv1
              subst hv3
              have l0 := hLc k hkl
              obtain ⟨hl6, hlH⟩ := letters_lt (List.getElem_mem hkl)
              obtain ⟨g1, c1, rfl, hg1, hg1', hc1, hc1', hP, hPc⟩ := own_pairs hsr.own1 hpos
              obtain ⟨e0, e1⟩ := hPc i hi
              obtain ⟨X, hX⟩ : ∃ X, X = ps[i].1 := ⟨_, rfl⟩
              obtain ⟨Y, hY⟩ : ∃ Y, Y = ps[i].2 := ⟨_, rfl⟩
              obtain ⟨l, hll⟩ : ∃ l, l = (letters s.al)[k] := ⟨_, rfl⟩
              rw [← hX] at e0
              rw [← hY] at e1
              rw [← hll] at l0 hl6 hlH
              replace hX := hid hX
              replace hY := hid hY
              replace hll := hid hll
              replace hP := hid hP
              replace hPc := hid hPc
              replace hLc := hid hLc
              replace hne := hid hne
              replace hsr := hid hsr
              have hzr := hbr.size
              have hF : ∀ x, Below wr.heap.size wr x → Below w2.heap.size w2 x := fun x h => hbr.trans (h.mono hzr)
              have hG : ∀ x, Below wr.heap.size wr x → Below (w.heap.size + 2) w0 x := fun x h => b2.trans ((hF x h).mono (by omega))
              have hBF : Hid (∀ x, Below wr.heap.size wr x → Below w.heap.size w x) := hid fun x h => hB0.trans ((hG x h).mono (by omega))
              have hkeep : Hid (∀ x, Below wr.heap.size wr x → x.cell? ⟨w.heap.size, 0, none⟩ = some (.int .i64 s.al) ∧ x.cell? ⟨w.heap.size, 1, none⟩ = some (.int .i64 s.st) ∧ x.cell? ⟨w.heap.size, 2, none⟩ = some (.slice A s.es.length c) ∧
                  x.cell? ⟨w.heap.size + 1, 0, none⟩ = some (.int .i64 t.al) ∧ x.cell? ⟨w.heap.size + 1, 1, none⟩ = some (.int .i64 t.st) ∧ x.cell? ⟨w.heap.size + 1, 2, none⟩ = some (.slice B t.es.length d) ∧
                  x.cell? ⟨gl, k, none⟩ = some (.int .i64 (l : Nat)) ∧ x.cell? ⟨g1, i * 2, none⟩ = some (.int .i64 (X : Nat)) ∧ x.cell? ⟨g1, i * 2 + 1, none⟩ = some (.int .i64 (Y : Nat)) ∧ Below wr.heap.size wr x) := hid fun x h =>
                ⟨hS 0 _ rfl _ (hG x h), hS 1 _ rfl _ (hG x h), hS 2 _ rfl _ (hG x h), hT 0 _ rfl _ (hG x h), hT 1 _ rfl _ (hG x h), hT 2 _ rfl _ (hG x h), by rw [(hF x h).cell (by simpa using hgl')]; exact l0, by rw [h.cell (by simpa using hg1')]; exact e0, by rw [h.cell (by simpa using hg1')]; exact e1, h⟩
              replace hF := hid hF
              replace hG := hid hG
              have hin1 := hid (sysOk_in hsy.out.1)
              have hin2 := hid (sysOk_in hsy.out.2)
              have i1 : (0 : Int) ≤ (i : Int) := by omega
              have i2 : (i : Int) < (ps.length : Int) := by omega
              have k1 : (0 : Int) ≤ (k : Int) := by omega
              have k2 : (k : Int) < ((letters s.al).length : Int) := by omega
              have hbself : Below wr.heap.size wr wr := Below.refl _ _
              have hcells := fun x => hkeep.out _ (Fam.below wr.heap.size wr x)
              have y0 := fun x => (hcells x).1
              have y1 := fun x => (hcells x).2.1
              have y2 := fun x => (hcells x).2.2.1
              have y3 := fun x => (hcells x).2.2.2.1
              have y4 := fun x => (hcells x).2.2.2.2.1
              have y5 := fun x => (hcells x).2.2.2.2.2.1
              have y6 := fun x => (hcells x).2.2.2.2.2.2.1
              have y7 := fun x => (hcells x).2.2.2.2.2.2.2.1
              have y8 := fun x => (hcells x).2.2.2.2.2.2.2.2.1
              clear hcells e0 e1 l0
              go_wp2_with fail
              refine wp_region_grow 24 wr.heap.size wr (fun j => if j = 10 then (fun u _ => u = .int .i64 (stepSet s X l : Nat)) else (fun u _ => u = .int .i64 (stepSet t Y l : Nat))) (by kernel_rfl) (by kernel_rfl) (Nat.le_refl _) (Below.refl _ _) ?_
              simp only [List.take_succ_cons, List.take_zero, List.drop_succ_cons, List.drop_zero]
              (repeat (refine grow_quiet (by rfl) (by rfl) (by rfl) ?_; intro K hK; go_big_quiet_op; go_big_quiet_on))
              refine grow_val (.int .i64 (stepSet s X l : Nat)) (by rfl) (by rfl) rfl (fun wq hbq _ => ?_) ?_
              · go_simp
                exact ⟨rfl, l2Step_any s A c X l wq hin1.out hl hc (hr.out.later (hBF.out _ hbq))⟩
              simp only [Act.put, List.setIfInBounds_toArray, List.set_cons_zero, List.set_cons_succ]
              (repeat (refine grow_quiet (by rfl) (by rfl) (by rfl) ?_; intro K hK; go_big_quiet_op; go_big_quiet_on))
              refine grow_val (.int .i64 (stepSet t Y l : Nat)) (by rfl) (by rfl) rfl (fun wq hbq _ => ?_) ?_
              · go_simp
                exact ⟨rfl, l2Step_any t B d Y l wq hin2.out hm hd (hs.out.later (hBF.out _ hbq))⟩
              simp only [Act.put, List.setIfInBounds_toArray, List.set_cons_zero, List.set_cons_succ]
              (repeat (refine grow_quiet (by rfl) (by rfl) (by rfl) ?_; intro K hK; go_big_quiet_op; go_big_quiet_on))
              refine grow_new (by rfl) (fun b => .pointer (some ⟨b, 0, none⟩)) 90 #[.int .i64 0, .int .i64 0] (fun _ => by go_simp) (fun _ => rfl) (Nat.le_refl _) fun g hg => ?_
              simp only [Act.put, List.setIfInBounds_toArray, List.set_cons_zero, List.set_cons_succ]
              refine grow_nil ?_
              intro w6 hb6 hf
              obtain ⟨g', hge, -, hblk⟩ := hf _ List.mem_cons_self
              cases hge
              clear hf y0 y1 y2 y3 y4 y5 y6 y7 y8 i1 i2 k1 k2 hbself
              obtain ⟨Z, hZ⟩ : ∃ Z, Z = stepSet s X l := ⟨_, rfl⟩
              obtain ⟨V, hV⟩ : ∃ V, V = stepSet t Y l := ⟨_, rfl⟩
              rw [← hZ, ← hV]
              replace hZ := hid hZ
              replace hV := hid hV
              have hblk' : Blk w6 g 90 #[.int .i64 0, .int .i64 0] := hblk
              clear hblk
              have c0 := hblk'.cell 0
              have c1 := hblk'.cell 1
              have z0 := hblk'.frozen 0
              have z1' := hblk'.frozen 1
              simp only [List.getElem?_toArray, List.getElem?_cons_zero, List.getElem?_cons_succ] at c0 c1
              have hg6 := hblk'.lt
              replace hblk' := hid hblk'
              have hstep : Hid (stepP s t ps[i] (letters s.al)[k] = (Z, V)) := hid (by unfold stepP; rw [← hX.out, ← hY.out, ← hll.out, hZ.out, hV.out])
              by_cases hZ0 : Z = 0
              · have hzb : (((Z : Nat) : Int) != 0) = false := by simp; omega
                have hzc : (((Z : Nat) : Int) == 0) = true := by simp; omega
                replace hZ0 := hid hZ0
                go_wp2_with fail
                go_roundw
                case rel =>
                  refine ⟨ps, ws, k + 1, by go_num, by omega, hi, hne.out, hsr.out.later ?_ (hsr.out.pb.skip (letters_sorted _) hi hkl (.inl (by rw [hstep.out]; exact hZ0.out))), hbr.trans (Below.mono ?_ hzr)⟩
                  all_goals (repeat (first | exact Below.refl _ _ | assumption | refine Below.drew ?_ | refine Below.alloc ?_ (by first | omega | (simp; done) | (simp; omega)) _ | refine Below.setCell ?_ (by first | omega | (simp; done) | (simp; omega)) _))
                case measure => simp [intOf]; omega
              · go_wp2_with fail
                generalize hw7 : (w6.setCell ⟨g, 0, none⟩ (Value.int IntKind.i64 (Z : Nat))).setCell ⟨g, 1, none⟩ (Value.int IntKind.i64 (V : Nat)) = w7
                have hb7 : Below wr.heap.size wr w7 := by
                  rw [← hw7]
                  (repeat (first | exact Below.refl _ _ | assumption | refine Below.drew ?_ | refine Below.alloc ?_ (by first | omega | (simp; done) | (simp; omega)) _ | refine Below.setCell ?_ (by first | omega | (simp; done) | (simp; omega)) _))
                have hblk7 : Hid (Blk w7 g 90 #[.int .i64 (Z : Nat), .int .i64 (V : Nat)]) := hid (by rw [← hw7]; exact (hblk'.out.set_ 0 _).set_ 1 _)
                clear hw7 c0 c1 z0 z1' hb6 hblk'
                have hP7 := hid ((show PairsAt wr wr.heap.size (some ⟨g1, 0, none⟩) ps from hP.out).later hb7)
                refine (l5Find_any ps (some ⟨g1, 0, none⟩) c1 (Z, V) w7 hc1 hc1' hP7.out).mono ?_
                rintro e w8 ⟨he, hb8⟩
                have h8 : Below wr.heap.size wr w8 := hb7.trans (hb8.mono hb7.size)
                obtain ⟨F, hF⟩ : ∃ F, F = findP ps (Z, V) := ⟨_, rfl⟩
                rw [← hF] at he
                subst he
                replace hF := hid hF
                have hblk8 := hblk7.out.below hb8 hblk7.out.lt
                clear hblk7 hP7
                by_cases hF0 : F < 0
                · have hnew : Hid ((Z, V) ∉ ps) := hid ((findP_neg _ _).1 (by rw [← hF.out]; exact hF0))
                  have hg8 := hblk8.lt
                  have c0 := hblk8.cell 0
                  have c1 := hblk8.cell 1
                  simp only [List.getElem?_toArray, List.getElem?_cons_zero, List.getElem?_cons_succ] at c0 c1
                  have hO1 := own_later hsr.out.own1 h8
                  have hO2 := own_later hsr.out.own2 h8
                  replace hO1 := hid hO1
                  replace hO2 := hid hO2
                  replace hblk8 := hid hblk8
                  have hz8 := h8.size
                  go_wp2_with (at_builtin; refine wpList_append_own_at _ rfl _ _ 91 rfl w2.heap.size 90 j2 (.agg #[.int .i64 0, .int .i64 0]) 2 16 Tryd.underlying91 ha ha0 ha1 ha2 rfl (by decide) _ _ _ rfl (hO1.out.alloc _) ⟨w8.heap.size, 0, none⟩ 1 1 [.int .i64 (Z : Nat), .int .i64 (V : Nat)] rfl rfl (cell_two_new _ _ _ _) (by intro u hu; simp at hu; rcases hu with rfl | rfl <;> rfl) (by unfold maxLen; omega) (by omega) (by simp; omega) ?_; intro v9 w9 hO9 hgr9 _ hat9)
                  have hb9 : Below w2.heap.size w2 w9 := ((hbr.trans (h8.mono hzr)).alloc (by omega) _).grown hgr9 (by simp; omega) (fun k hk => (hO1.out.lt k hk).1)
                  have hO29 := (hO2.out.alloc (Obj.cells #[.int .i64 (Z : Nat), .int .i64 (V : Nat)] 90)).kept hgr9 (.inr (Ne.symm hsr.out.ne))
                  obtain ⟨g2, c2, rfl, hg2, hg2', hc2, hc2', hW⟩ := own_words hO29 (by omega)
                  have y1 : ∀ x, (Fam w9.heap.size w9 x).cell? ⟨g2, i, none⟩ = some (.string (wordS ws[i])) := fun x => by
                    rw [(Fam.below w9.heap.size w9 x).cell (by simpa using hg2')]
                    exact hW i (by omega)
                  have hb9s := hb9.size
                  have y2 : ∀ x, (Fam w9.heap.size w9 x).cell? ⟨gl, k, none⟩ = some (.int .i64 (l : Nat)) := fun x => by
                    rw [(Fam.below w9.heap.size w9 x).cell (by simp; omega), hb9.cell (by simpa using hgl'), hll.out]
                    exact hLc.out k hkl
                  have i1 : (0 : Int) ≤ (i : Int) := by omega
                  have i2 : (i : Int) < (ws.length : Int) := by omega
                  have k1 : (0 : Int) ≤ (k : Int) := by omega
                  have k2 : (k : Int) < ((letters s.al).length : Int) := by omega
                  have hwb : ¬ 9223372036854775807 < (wordS ws[i]).size + 1 := by
                    have := hsr.out.pb.wlen (j := i) (by omega)
                    rw [wordS_size]
                    omega
                  replace hW := hid hW
                  replace hO29 := hid hO29
                  replace hO9 := hid hO9
                  replace hgr9 := hid hgr9
                  replace hat9 := hid hat9
                  clear c0 c1
                  refine wp_region_grow 12 w9.heap.size w9 (fun _ u _ => u = .string ⟨#[letB l]⟩) (by kernel_rfl) (by kernel_rfl) (Nat.le_refl _) (Below.refl _ _) ?_
                  simp only [List.take_succ_cons, List.take_zero, List.drop_succ_cons, List.drop_zero]
                  (repeat (refine grow_quiet (by rfl) (by rfl) (by rfl) ?_; intro K hK; go_big_quiet_op; go_big_quiet_on))
                  refine grow_val (.string ⟨#[letB l]⟩) (by rfl) (by rfl) rfl (fun wq hbq _ => ?_) ?_
                  · go_simp
                    exact ⟨rfl, l1Text_any l hl6 wq⟩
                  simp only [Act.put, List.setIfInBounds_toArray, List.set_cons_zero, List.set_cons_succ]
                  (repeat (refine grow_quiet (by rfl) (by rfl) (by rfl) ?_; intro K hK; go_big_quiet_op; go_big_quiet_on))
                  refine grow_new (by rfl) (fun b => .slice (some ⟨b, 0, none⟩) 1 1) 9 #[.string (wordS ws[i] ++ ⟨#[letB l]⟩)] (fun _ => by go_simp) (fun _ => rfl) (Nat.le_refl _) fun g3 hg3 => ?_
                  simp only [Act.put, List.setIfInBounds_toArray, List.set_cons_zero, List.set_cons_succ]
                  refine grow_nil ?_
                  intro w10 hb10 hf
                  obtain ⟨g3', hge, -, hblk3⟩ := hf _ List.mem_cons_self
                  cases hge
                  have hnew3 := hid (Blk.news hblk3)
                  clear hblk3
                  clear hf y1 y2 i1 i2 k1 k2 hwb
                  have hO210 := hid (own_later hO29.out hb10)
                  have hz10 := hb10.size
                  go_wp2_with (at_builtin; refine wpList_append_own_at _ rfl _ _ 92 rfl w2.heap.size 9 j1 (.string ⟨#[]⟩) 1 16 Tryd.underlying92 hs' hs0' hs1' hs2' rfl (by decide) _ _ _ rfl hO210.out ⟨g3, 0, none⟩ 1 1 [.string (wordS ws[i] ++ ⟨#[letB l]⟩)] rfl rfl hnew3.out (by intro u hu; simp at hu; subst hu; rfl) (by unfold maxLen; omega) (by omega) (by omega) ?_; intro v11 w11 hO11 hgr11 _ hat11)
                  go_roundw
                  case rel =>
                    obtain ⟨hS, hBB⟩ := hsr.out.add hbr (Nat.le_refl _) hi (by omega) hkl hstep.out (by omega) hnew.out hll.out (wordS_cons _ _) h8 hO9.out hgr9.out hat9.out hb10 hO11 hgr11 hat11
                    exact ⟨_, _, k + 1, by go_num, by omega, by simp; omega, fun h => by rw [List.getElem_append_left hi]; exact hne.out hi, hS, hBB⟩
                  case measure => simp [intOf]; omega
                · have hold : Hid ((Z, V) ∈ ps) := hid (by
                    by_cases h : (Z, V) ∈ ps
                    · exact h
                    · exact absurd ((findP_neg _ _).2 h) (by rw [← hF.out]; exact hF0))
                  go_wp2_with fail
                  go_roundw
                  case rel =>
                    refine ⟨ps, ws, k + 1, by go_num, by omega, hi, hne.out, hsr.out.later ?_ (hsr.out.pb.skip (letters_sorted _) hi hkl (.inr (by rw [hstep.out]; exact hold.out))), hbr.trans (Below.mono ?_ hzr)⟩
                    all_goals (repeat (first | exact Below.refl _ _ | assumption | refine Below.drew ?_ | refine Below.alloc ?_ (by first | omega | (simp; done) | (simp; omega)) _ | refine Below.setCell ?_ (by first | omega | (simp; done) | (simp; omega)) _))
                  case measure => simp [intOf]; omega
            · replace hne := hid hne
              have hov : Hid (Srch s t w2.heap.size wr _ _ ps ws (i + 1) 0) := hid ⟨hsr.own1, hsr.own2, hsr.ne, hsr.pb.over (by omega), (fun j hj hji => by
                by_cases e : j = i
                · subst e; exact hne.out hj
                · exact hsr.pre j hj (by omega)), hsr.pos⟩
              replace hsr := hid hsr
              clear hwl hpos
              go_wp2_with fail
              go_roundw
              case rel => exact ⟨ps, ws, i + 1, by go_num, by omega, hov.out, hbr⟩
              case measure => have := hN.out; have := hsr.out.pb.bound; simp only [intOf]; omega
      · obtain rfl : i = ps.length := by omega
        have hN := hid (hsr.out.pb.none fun j hj => hsr.out.pre j hj hj)
        go_wp2
        go_ret2
        refine ⟨none, rfl, ?_, ?_⟩
        · unfold IsFirst
          rw [if_pos hC.out]
          exact hN.out
        · exact (B1.trans (hb2.mono (by omega))).trans (hbr.mono (by omega))

end Go.Proofs.YtdkjnemakkppfaaDoor

/- Both versions of TracesWithin and SameTraces. -/
namespace Go.Proofs.YtdkjnemakkppfaaDoor
open Go.RowKit Go.BigFrame AG

theorem specFTO_any (s t : Sy) (A B : Option Addr) (c d : Nat) (w : World) (hl : s.es.length ≤ c) (hc : c ≤ 9223372036854775807) (hm : t.es.length ≤ d) (hd : d ≤ 9223372036854775807) (hr : EdsAt w w.heap.size A s.es) (hs : EdsAt w w.heap.size B t.es) :
    Calls Tryd.prog 23 #[s.val A c, t.val B d] w fun e w' => ∃ o, e = .returned (pathV o) ∧ IsOut s t o ∧ Below w.heap.size w w' :=
  (specFirstTraceOutside_any s t A B c d w hl hc hm hd hr hs).mono fun e w' ⟨o, he, hf, hb⟩ => ⟨o, he, by
    unfold IsFirst at hf
    by_cases hC : cmpOk s t = true
    · rw [if_pos hC] at hf
      have hsy : sysOk s = true ∧ sysOk t = true := by
        have := hC
        unfold cmpOk at this
        simp only [Bool.and_eq_true] at this
        exact ⟨this.1, this.2.1⟩
      exact out_of_first (spec_hits (s := s) (t := t)) hC hf
    · rw [if_neg hC] at hf
      unfold IsOut
      rw [if_neg hC]
      exact hf, hb⟩

/-- Every trace of s is one of t. -/
noncomputable def withinB (s t : Sy) : Bool := open Classical in cmpOk s t && decide (∀ q, ¬ AG.Outside s t q)
theorem within_of {s t : Sy} {o : Option (List Nat)} (h : IsOut s t o) : (cmpOk s t && !o.isSome) = withinB s t := by
  unfold IsOut at h
  unfold withinB
  cases hC : cmpOk s t
  · rfl
  · rw [if_pos hC] at h
    cases o with
    | none => simpa using h
    | some r => simp; exact ⟨r, h.1⟩
set_option maxRecDepth 100000 in
set_option maxHeartbeats 1000000 in
theorem implTracesWithin_any (s t : Sy) (A B : Option Addr) (c d : Nat) (w : World) (hl : s.es.length ≤ c) (hc : c ≤ 9223372036854775807) (hm : t.es.length ≤ d) (hd : d ≤ 9223372036854775807) (hT : Tab w) (hr : EdsAt w w.heap.size A s.es) (hs : EdsAt w w.heap.size B t.es) :
    Calls Tryd.prog 24 #[s.val A c, t.val B d] w fun e w' => e = .returned (.bool (withinB s t)) ∧ Below w.heap.size w w' := by
  unfold Sy.val
  replace hr := hid hr
  replace hs := hid hs
  replace hT := hid hT
  go_enter Tryd.func24, Tryd.ntmps24
  go_wp2_with fail
  obtain ⟨w0, hw0, hz0, hB0, hS, hU⟩ := boxed2 w #[Value.int IntKind.i64 s.al, Value.int IntKind.i64 s.st, Value.slice A s.es.length c] 28 #[Value.int IntKind.i64 t.al, Value.int IntKind.i64 t.st, Value.slice B t.es.length d] 28
  rw [hw0]
  clear hw0
  have p0 := hS 0 _ rfl _ (Below.refl _ _)
  have p1 := hS 1 _ rfl _ (Below.refl _ _)
  have p2 := hS 2 _ rfl _ (Below.refl _ _)
  have q0 := hU 0 _ rfl _ (Below.refl _ _)
  have q1 := hU 1 _ rfl _ (Below.refl _ _)
  have q2 := hU 2 _ rfl _ (Below.refl _ _)
  have hr0 := hid (hr.out.later hB0)
  have hs0 := hid (hs.out.later hB0)
  have hT0 := hid (hT.out.later hB0)
  go_wp2_with fail
  refine (implFirstTraceOutside_any s t A B c d w0 hl hc hm hd hT0.out hr0.out hs0.out).mono ?_
  rintro e w1 ⟨o, rfl, ho, hb1⟩
  have b1 := hb1.mono hz0
  clear p0 p1 p2 q0 q1 q2
  have p0 := hS 0 _ rfl _ b1
  have p1 := hS 1 _ rfl _ b1
  have p2 := hS 2 _ rfl _ b1
  have q0 := hU 0 _ rfl _ b1
  have q1 := hU 1 _ rfl _ b1
  have q2 := hU 2 _ rfl _ b1
  have B1 : Below w.heap.size w w1 := hB0.trans (b1.mono (by omega))
  have hr1 := hid (hr.out.later B1)
  have hs1 := hid (hs.out.later B1)
  have hwi := within_of ho
  obtain ⟨Sv, Fv, hpv, hfv⟩ : ∃ Sv Fv, pathV o = .tuple #[.string Sv, .bool Fv] ∧ Fv = o.isSome := ⟨_, _, rfl, rfl⟩
  rw [hpv]
  rw [← hfv] at hwi
  replace hwi := hid hwi
  clear ho hpv hfv
  have z1 := hb1.size
  go_wp2_with fail
  refine (sameAlphabets_any s t A B c d w1 hl hc hm hd hr1.out hs1.out).mono ?_
  rintro e w2 ⟨rfl, hb2⟩
  have B2 : Below w.heap.size w w2 := B1.trans (hb2.mono (by omega))
  cases hC : cmpOk s t
  · replace hC := hid hC
    go_wp2_with fail
    go_ret
    exact ⟨ret_bool (by rw [← hwi.out, hC.out]; rfl), B2⟩
  · replace hC := hid hC
    go_wp2_with fail
    go_ret
    exact ⟨ret_bool (by rw [← hwi.out, hC.out]; rfl), B2⟩

end Go.Proofs.YtdkjnemakkppfaaDoor

/- The states behind a word: both StatesAfter and HasTrace. -/
namespace Go.Proofs.YtdkjnemakkppfaaDoor
open Go.RowKit Go.BigFrame AG

set_option maxRecDepth 100000 in
set_option maxHeartbeats 1000000 in
theorem implStatesAfter_any (s : Sy) (A : Option Addr) (c : Nat) (x : ByteArray) (w : World) (hz : x.size ≤ 9223372036854775807) (hl : s.es.length ≤ c) (hc : c ≤ 9223372036854775807) (hT : Tab w) (hr : EdsAt w w.heap.size A s.es) :
    Calls Tryd.prog 69 #[s.val A c, .string x] w fun e w' => e = .returned (.int .i64 (aft s x : Nat)) ∧ Below w.heap.size w w' := by
  unfold Sy.val
  replace hr := hid hr
  replace hT := hid hT
  cases hok : sysOk s
  · have hfin : Hid (aft s x = 0) := hid (by unfold aft; rw [hok]; rfl)
    replace hok := hid hok
    go_enter Tryd.func69, Tryd.ntmps69
    go_wp2_with fail
    obtain ⟨w0, hw0, hz0, hB0, hS0, hS1, hS2⟩ := boxed3 w (Value.int IntKind.i64 s.al) (Value.int IntKind.i64 s.st) (Value.slice A s.es.length c) 28
    rw [hw0]
    clear hw0
    have hr0 := hid ((hr.out.keep hB0).more (show w.heap.size ≤ w0.heap.size by omega))
    refine (implSystemValid_any s A c w0 hl hc hr0.out).mono ?_
    rintro e w1 ⟨rfl, hb1⟩
    rw [hok.out]
    have hB1 : Below w.heap.size w w1 := hB0.trans (hb1.mono (by omega))
    have hb1' := hb1.mono hz0
    go_wp2
    go_ret
    exact ⟨ret_int (by rw [hfin.out]; rfl), hB1⟩
  · cases hwi : within x s.al
    all_goals
      have hok2 := hid hok
      have hwi2 := hid hwi
      replace hok := hid hok
      replace hwi := hid hwi
      go_enter Tryd.func69, Tryd.ntmps69
      go_wp2_with fail
      obtain ⟨w0, hw0, hz0, hB0, hS0, hS1, hS2⟩ := boxed3 w (Value.int IntKind.i64 s.al) (Value.int IntKind.i64 s.st) (Value.slice A s.es.length c) 28
      rw [hw0]
      clear hw0
      have hr0 := hid ((hr.out.keep hB0).more (show w.heap.size ≤ w0.heap.size by omega))
      refine (implSystemValid_any s A c w0 hl hc hr0.out).mono ?_
      rintro e w1 ⟨rfl, hb1⟩
      rw [hok.out]
      have hB1 : Below w.heap.size w w1 := hB0.trans (hb1.mono (by omega))
      have hb1' := hb1.mono hz0
      have hr1 := hid (hr0.out.later hb1)
      have q0 := hS0 _ hb1'
      have q1 := hS1 _ hb1'
      have q2 := hS2 _ hb1'
    · have hfin : Hid (aft s x = 0) := hid (by unfold aft; rw [hok2.out, hwi2.out]; rfl)
      go_wp2_with (go_at_call 93; refine (implWordWithin_any x s.al _ hz).mono ?_; rintro e w' ⟨rfl, rfl⟩; rw [hwi.out])
      go_ret
      exact ⟨ret_int (by rw [hfin.out]; rfl), hB1⟩
    · have hfin : Hid (aft s x = runTo s x x.size) := hid (by unfold aft; rw [hok2.out, hwi2.out]; rfl)
      have h5 := within_size hwi2.out
      go_wp2_with (first
        | (go_at_call 93; refine (implWordWithin_any x s.al _ hz).mono ?_; rintro e w' ⟨rfl, rfl⟩; rw [hwi.out])
        | (go_at_call 59; refine (movesOf_any s A c _ (sysOk_in hok2.out) hl hc hr1.out).mono ?_; rintro e w2 ⟨g, rfl, hg, hb2⟩))
      have hB2 : Below w.heap.size w w2 := hB1.trans (hb2.mono hB1.size)
      have hT2 := hid (hT.out.later hB2)
      replace hg := hid hg
      go_loopw [6, 7] (fun st i wr => ∃ (T k : Nat), st = .int .i64 T ∧ i = .int .i64 k ∧ k ≤ x.size ∧ T = runTo s x k ∧ Below w2.heap.size w2 wr) (fun _ i _ => x.size - (intOf i).toNat)
      case atStart => exact ⟨1, 0, rfl, rfl, by omega, rfl, Below.refl _ _⟩
      case round =>
        obtain ⟨T, k, rfl, rfl, hk, hT', hb⟩ := hrel
        have hTl : T < 65536 := by rw [hT']; exact runTo_lt s x k
        replace hT' := hid hT'
        have hB3 : Below w.heap.size w wr := hB2.trans (hb.mono hB2.size)
        by_cases hlt : k < x.size
        · by_cases hT0 : T = 0
          · have hd : ((T : Int) != 0) = false := by subst hT0; rfl
            have hfin2 := hid (runTo_done (s := s) (w := x) (k := k) (by rw [← hT'.out]; exact hT0) hk)
            replace hT0 := hid hT0
            go_wp2
            go_ret
            exact ⟨ret_int (by rw [hfin.out, hfin2.out, hT0.out]), hB3⟩
          · have hd : ((T : Int) != 0) = true := by simpa using hT0
            replace hT0 := hid hT0
            have hlr := wordOk_at (within_word hwi2.out) hlt
            have hle := ltr_ok hlr
            obtain ⟨l, hll⟩ := Int.eq_ofNat_of_zero_le hlr.1
            have hl6 : l < 6 := by omega
            have hnx : Hid (unionOf (mv s) T l = runTo s x (k + 1)) := hid (by rw [runTo, unionOf_mv s (sysOk_in hok2.out), ← hll, hT'.out])
            have hle2 : Hid (ltr x k = (l : Int)) := hid (by rw [hle, hll])
            have hgr := hid (hg.out.later hb)
            have hTr := hid (hT2.out.later hb)
            have hzr := hb.size
            replace hll := hid hll
            replace hle := hid hle
            go_wp2_with (first
              | (go_at_call 94; refine (letterAt_any x k _ hlt).mono ?_; rintro e w' ⟨rfl, rfl⟩; rw [hle2.out])
              | (go_at_call 61; refine (step_any (mv s) g T l _ hl6 (fun q => mv_lt s q l) hTl hTr.out hgr.out).mono ?_; rintro e w3 ⟨rfl, hb3⟩))
            have hb4 := hb.trans (hb3.mono hzr)
            go_roundw
            case rel => exact ⟨_, k + 1, rfl, by go_num, by omega, hnx.out, hb4⟩
            case measure => simp [intOf]; omega
        · obtain rfl : k = x.size := by omega
          go_wp2
          go_ret
          exact ⟨ret_int (by rw [hfin.out, hT'.out]), hB3⟩

set_option maxRecDepth 100000 in
set_option maxHeartbeats 1000000 in
theorem implHasTrace_any (s : Sy) (A : Option Addr) (c : Nat) (x : ByteArray) (w : World) (hz : x.size ≤ 9223372036854775807) (hl : s.es.length ≤ c) (hc : c ≤ 9223372036854775807) (hT : Tab w) (hr : EdsAt w w.heap.size A s.es) :
    Calls Tryd.prog 26 #[s.val A c, .string x] w fun e w' => e = .returned (.bool (hasTr s x)) ∧ Below w.heap.size w w' := by
  unfold Sy.val
  replace hr := hid hr
  replace hT := hid hT
  have hfin : Hid (hasTr s x = ((aft s x : Int) != 0)) := hid (by unfold hasTr; rw [Bool.eq_iff_iff]; simp)
  go_enter Tryd.func26, Tryd.ntmps26
  go_wp2_with fail
  obtain ⟨w0, hw0, hz0, hB0, hS0, hS1, hS2⟩ := boxed3 w (Value.int IntKind.i64 s.al) (Value.int IntKind.i64 s.st) (Value.slice A s.es.length c) 28
  rw [hw0]
  clear hw0
  have hr0 := hid ((hr.out.keep hB0).more (show w.heap.size ≤ w0.heap.size by omega))
  have hT0 := hid (hT.out.later hB0)
  refine (implStatesAfter_any s A c x w0 hz hl hc hT0.out hr0.out).mono ?_
  rintro e w1 ⟨rfl, hb1⟩
  have hB1 : Below w.heap.size w w1 := hB0.trans (hb1.mono (by omega))
  go_wp2
  go_ret
  exact ⟨ret_bool (by rw [hfin.out]), hB1⟩

end Go.Proofs.YtdkjnemakkppfaaDoor

/- The law FnTraceLeast. -/
namespace Go.Proofs.YtdkjnemakkppfaaDoor
open Go.RowKit Go.BigFrame AG

set_option maxHeartbeats 1000000 in
theorem agComparable_any (s t : Sy) (A B : Option Addr) (c d : Nat) (w : World) (hl : s.es.length ≤ c) (hc : c ≤ 9223372036854775807) (hm : t.es.length ≤ d) (hd : d ≤ 9223372036854775807) (hr : EdsAt w w.heap.size A s.es) (hs : EdsAt w w.heap.size B t.es) :
    Calls Tryd.prog 25 #[s.val A c, t.val B d] w fun e w' => e = .returned (.bool (cmpOk s t)) ∧ Below w.heap.size w w' := by
  unfold Sy.val
  replace hr := hid hr
  replace hs := hid hs
  have hval : Hid (cmpOk s t = (sysOk s && (sysOk t && decide (s.al = t.al)))) := hid rfl
  go_enter Tryd.func25, Tryd.ntmps25
  go_wp2_with fail
  obtain ⟨w0, hw0, hz0, hB0, hS, hT⟩ := boxed2 w #[Value.int IntKind.i64 s.al, Value.int IntKind.i64 s.st, Value.slice A s.es.length c] 28 #[Value.int IntKind.i64 t.al, Value.int IntKind.i64 t.st, Value.slice B t.es.length d] 28
  rw [hw0]
  clear hw0
  have p0 := hS 0 _ rfl _ (Below.refl _ _)
  have p1 := hS 1 _ rfl _ (Below.refl _ _)
  have p2 := hS 2 _ rfl _ (Below.refl _ _)
  have hr0 := hid (hr.out.later hB0)
  go_wp2_with fail
  refine (implSystemValid_any s A c w0 hl hc hr0.out).mono ?_
  rintro e w1 ⟨rfl, hb1⟩
  have b1 := hb1.mono hz0
  clear p0 p1 p2
  have p0 := hS 0 _ rfl _ b1
  have q0 := hT 0 _ rfl _ b1
  have q1 := hT 1 _ rfl _ b1
  have q2 := hT 2 _ rfl _ b1
  have B1 : Below w.heap.size w w1 := hB0.trans (b1.mono (by omega))
  cases hA : sysOk s
  · replace hA := hid hA
    go_wp2_with fail
    go_ret
    exact ⟨ret_bool (by rw [hval.out, hA.out]; rfl), B1⟩
  · replace hA := hid hA
    have hs1 := hid (hs.out.later B1)
    go_wp2_with fail
    refine (implSystemValid_any t B d w1 hm hd hs1.out).mono ?_
    rintro e w2 ⟨rfl, hb2⟩
    have b2 := b1.trans (hb2.mono (Nat.le_trans hz0 hb1.size))
    clear p0 q0 q1 q2
    have p0 := hS 0 _ rfl _ b2
    have q0 := hT 0 _ rfl _ b2
    have B2 : Below w.heap.size w w2 := hB0.trans (b2.mono (by omega))
    cases hB : sysOk t
    · replace hB := hid hB
      go_wp2_with fail
      go_ret
      exact ⟨ret_bool (by rw [hval.out, hA.out, hB.out]; rfl), B2⟩
    · replace hB := hid hB
      go_wp2_with fail
      go_ret
      exact ⟨ret_bool (by rw [hval.out, hA.out, hB.out, Bool.eq_iff_iff]; simp), B2⟩


theorem pathV_two (o : Option (List Nat)) : ∃ (S : ByteArray) (F : Bool), pathV o = .tuple #[.string S, .bool F] := ⟨_, _, rfl⟩
theorem IsOut.off {s t : Sy} {o : Option (List Nat)} (h : IsOut s t o) (hc : cmpOk s t = false) : o = none := by
  unfold IsOut at h
  rw [hc] at h
  exact h

end Go.Proofs.YtdkjnemakkppfaaDoor

/- The law FnTraceOutside. -/
namespace Go.Proofs.YtdkjnemakkppfaaDoor
open Go.RowKit Go.BigFrame AG

set_option maxRecDepth 100000 in
set_option maxHeartbeats 16000000 in
theorem FnTraceOutside_any (A : Option Addr) (n c : Nat) (w : World) (hn : n ≤ c) (hc : c ≤ 9223372036854775807) (hT : Tab w) (hx : CodeAt w A n) :
    Calls Tryd.prog 8 #[.slice A n c] w fun e w' => e = .returned (.bool true) ∧ Below w.heap.size w w' := by
  replace hx := hid hx
  replace hT := hid hT
  by_cases hbig : 1048576 < n
  · go_enter Tryd.func8, Tryd.ntmps8
    go_wp2
    go_ret
    exact ⟨rfl, Below.refl _ _⟩
  · go_enter Tryd.func8, Tryd.ntmps8
    go_wp2_with fail
    refine (drawFirstTraceOutside_few A n c w hn hc hx.out).mono ?_
    rintro e w1 ⟨s, t, As, Bs, cs, ds, rfl, hqq, a1, a2, b1, b2, ea, eb, hb1⟩
    replace hqq := hid hqq
    unfold Sy.val
    obtain ⟨w0, hw0, hz0, hB0, hS, hU⟩ := boxed2 w1 #[Value.int IntKind.i64 s.al, Value.int IntKind.i64 s.st, Value.slice As s.es.length cs] 28 #[Value.int IntKind.i64 t.al, Value.int IntKind.i64 t.st, Value.slice Bs t.es.length ds] 28
    have p0 := hS 0 _ rfl _ (Below.refl _ _)
    have p1 := hS 1 _ rfl _ (Below.refl _ _)
    have p2 := hS 2 _ rfl _ (Below.refl _ _)
    have q0 := hU 0 _ rfl _ (Below.refl _ _)
    have q1 := hU 1 _ rfl _ (Below.refl _ _)
    have q2 := hU 2 _ rfl _ (Below.refl _ _)
    have hr0 := hid (ea.later hB0)
    have hs0 := hid (eb.later hB0)
    have hBB0 := hb1.trans (hB0.mono hb1.size)
    have hT0 := hid (hT.out.later hBB0)
    have hC0 : Hid (Below (w1.heap.size + 2) w0 w0) := hid (Below.refl _ _)
    clear ea eb
    go_wp2_with fail
    refine (implFirstTraceOutside_any s t As Bs cs ds w0 a1 a2 b1 b2 hT0.out hr0.out hs0.out).mono ?_
    rintro e w2 ⟨o, rfl, ho, hb2⟩
    obtain ⟨S, F, hp⟩ := pathV_two o
    rw [hp]
    clear hw0
    have hCC2 := hC0.out.trans (hb2.mono (by have := hC0.out.size; omega))
    have hr2 := hid (hr0.out.later hb2)
    have hs2 := hid (hs0.out.later hb2)
    have hBB2 := hBB0.trans (hb2.mono hBB0.size)
    have hT2 := hid (hT0.out.later hb2)
    clear p0 p1 p2 q0 q1 q2
    have p0 := hS 0 _ rfl _ hCC2
    have p1 := hS 1 _ rfl _ hCC2
    have p2 := hS 2 _ rfl _ hCC2
    have q0 := hU 0 _ rfl _ hCC2
    have q1 := hU 1 _ rfl _ hCC2
    have q2 := hU 2 _ rfl _ hCC2
    have hC2 := hid hCC2
    clear hCC2
    go_wp2_with fail
    refine (specFTO_any s t As Bs cs ds w2 a1 a2 b1 b2 hr2.out hs2.out).mono ?_
    rintro e w3 ⟨o', rfl, ho', hb3⟩
    obtain rfl : o' = o := ho'.unique ho
    rw [hp]
    clear ho'
    have hCC3 := hC2.out.trans (hb3.mono (by have := hC2.out.size; omega))
    have hr3 := hid (hr2.out.later hb3)
    have hs3 := hid (hs2.out.later hb3)
    have hBB3 := hBB2.trans (hb3.mono hBB2.size)
    have hT3 := hid (hT2.out.later hb3)
    clear p0 p1 p2 q0 q1 q2
    have p0 := hS 0 _ rfl _ hCC3
    have p1 := hS 1 _ rfl _ hCC3
    have p2 := hS 2 _ rfl _ hCC3
    have q0 := hU 0 _ rfl _ hCC3
    have q1 := hU 1 _ rfl _ hCC3
    have q2 := hU 2 _ rfl _ hCC3
    have hC3 := hid hCC3
    clear hCC3
    clear p0 p1 p2 q0 q1 q2
    have ys0 := fun x => hS 0 _ rfl _ (hC3.out.trans ((Fam.below w3.heap.size w3 x).mono (by have := hC3.out.size; omega)))
    have ys1 := fun x => hS 1 _ rfl _ (hC3.out.trans ((Fam.below w3.heap.size w3 x).mono (by have := hC3.out.size; omega)))
    have ys2 := fun x => hS 2 _ rfl _ (hC3.out.trans ((Fam.below w3.heap.size w3 x).mono (by have := hC3.out.size; omega)))
    have yt0 := fun x => hU 0 _ rfl _ (hC3.out.trans ((Fam.below w3.heap.size w3 x).mono (by have := hC3.out.size; omega)))
    have yt1 := fun x => hU 1 _ rfl _ (hC3.out.trans ((Fam.below w3.heap.size w3 x).mono (by have := hC3.out.size; omega)))
    have yt2 := fun x => hU 2 _ rfl _ (hC3.out.trans ((Fam.below w3.heap.size w3 x).mono (by have := hC3.out.size; omega)))
    cases o' with
    | none =>
      have e1 : S = ⟨#[]⟩ ∧ F = false := by
        unfold pathV at hp
        simp at hp
        exact ⟨hp.1.symm, hp.2⟩
      obtain ⟨rfl, rfl⟩ := e1
      obtain ⟨v, hv⟩ : ∃ v, Hid (v = cmpOk s t) := ⟨_, hid rfl⟩
      have hwi : Hid (withinB s t = v) := hid (by rw [← within_of ho, hv.out]; simp)
      have hvv : (v == v) = true := by simp
      replace ho := hid ho
      replace hp := hid hp
      go_wp2_with fail
      refine wp_region_grow 22 w3.heap.size w3 (fun _ u _ => u = .bool v) (by kernel_rfl) (by kernel_rfl) (Nat.le_refl _) (Below.refl _ _) ?_
      simp only [List.take_succ_cons, List.take_zero, List.drop_succ_cons, List.drop_zero]
      (repeat (refine grow_quiet (by rfl) (by rfl) (by rfl) ?_; intro K hK; go_big_quiet_op; go_big_quiet_on))
      refine grow_val (.bool v) (by rfl) (by rfl) rfl (fun wq hbq _ => ?_) ?_
      · go_simp
        refine ⟨rfl, (implTracesWithin_any s t As Bs cs ds wq a1 a2 b1 b2 (hT3.out.later hbq) (hr3.out.later hbq) (hs3.out.later hbq)).mono ?_⟩
        rintro e w9 ⟨rfl, hb9⟩
        exact ⟨by rw [hwi.out], hb9⟩
      simp only [Act.put, List.setIfInBounds_toArray, List.set_cons_zero, List.set_cons_succ]
      (repeat (refine grow_quiet (by rfl) (by rfl) (by rfl) ?_; intro K hK; go_big_quiet_op; go_big_quiet_on))
      refine grow_val (.bool v) (by rfl) (by rfl) rfl (fun wq hbq _ => ?_) ?_
      · go_simp
        refine ⟨rfl, (agComparable_any s t As Bs cs ds wq a1 a2 b1 b2 (hr3.out.later hbq) (hs3.out.later hbq)).mono ?_⟩
        rintro e w9 ⟨rfl, hb9⟩
        exact ⟨by rw [hv.out], hb9⟩
      simp only [Act.put, List.setIfInBounds_toArray, List.set_cons_zero, List.set_cons_succ]
      (repeat (refine grow_quiet (by rfl) (by rfl) (by rfl) ?_; intro K hK; go_big_quiet_op; go_big_quiet_on))
      refine grow_nil ?_
      intro w40 hb40 hf
      clear hf ys0 ys1 ys2 yt0 yt1 yt2
      have BW := hBB3.trans (hb40.mono hBB3.size)
      go_wp2_with fail
      go_ret
      exact ⟨rfl, BW⟩
    | some r =>
      have hcm : cmpOk s t = true := by
        cases h : cmpOk s t
        · have := IsOut.off (o := some r) ho h
          cases this
        · rfl
      obtain ⟨x, hxr⟩ : ∃ x, Hid (x = wordS r) := ⟨_, hid rfl⟩
      have e1 : S = x ∧ F = true := by
        rw [hxr.out]
        unfold pathV at hp
        simp at hp
        exact ⟨hp.1.symm, hp.2⟩
      obtain ⟨rfl, rfl⟩ := e1
      obtain ⟨l1, l2, l3, l4, l5⟩ := out_law hcm hqq.out ho
      have hwi : Hid (withinB s t = false) := hid (by rw [← within_of ho]; simp)
      rw [← hxr.out] at l1 l2 l3 l4 l5
      obtain ⟨m, hm⟩ : ∃ m, Hid (S.size = m + 1) := ⟨S.size - 1, hid (by omega)⟩
      have hml := hm.out
      have k0 : (0 : Int) < (S.size : Int) := by omega
      have k00 : decide (0 < S.size) = true := decide_eq_true (by omega)
      have k01 : 0 < S.size := by omega
      have k02 : decide ((0 : Int) < (S.size : Int)) = true := decide_eq_true (by omega)
      have k1 : IntKind.i64.wrap ((S.size : Int) - 1) = (m : Int) := by rw [IntWalk.i64_in _ (by omega)]; omega
      have k1' : wrap64 ((S.size : Int) - 1) = (m : Int) := by rw [IntWalk.wrap64_in _ (by omega)]; omega
      have k2 : (0 : Int) ≤ (m : Int) ∧ (m : Int) ≤ (S.size : Int) := by omega
      have hzr : S.size ≤ 9223372036854775807 := by omega
      have t1 : (S.extract 0 m).size ≤ 9223372036854775807 := by rw [ByteArray.size_extract]; omega
      obtain ⟨y, hs1⟩ : ∃ y, S.extract 0 m = y := ⟨_, rfl⟩
      rw [show S.size - 1 = m from by omega, hs1] at l5
      rw [hs1] at t1
      replace ho := hid ho
      replace hp := hid hp
      replace l3 := hid l3
      replace l4 := hid l4
      replace l5 := hid l5
      replace hcm := hid hcm
      clear hml l1 l2
      go_wp2_with fail
      refine wp_region_grow 30 w3.heap.size w3 (fun i u _ => if i = 6 then u = .bool true else if i = 21 then u = .bool true else u = .bool false) (by kernel_rfl) (by kernel_rfl) (Nat.le_refl _) (Below.refl _ _) ?_
      simp only [List.take_succ_cons, List.take_zero, List.drop_succ_cons, List.drop_zero]
      (repeat (refine grow_quiet (by rfl) (by rfl) (by rfl) ?_; intro K hK; go_big_quiet_op; go_big_quiet_on))
      refine grow_val (.bool true) (by rfl) (by rfl) rfl (fun wq hbq _ => ?_) ?_
      · go_simp
        refine ⟨rfl, (implHasTrace_any s As cs S wq hzr a1 a2 (hT3.out.later hbq) (hr3.out.later hbq)).mono ?_⟩
        rintro e w9 ⟨rfl, hb9⟩
        exact ⟨by rw [l3.out], hb9⟩
      simp only [Act.put, List.setIfInBounds_toArray, List.set_cons_zero, List.set_cons_succ]
      (repeat (refine grow_quiet (by rfl) (by rfl) (by rfl) ?_; intro K hK; go_big_quiet_op; go_big_quiet_on))
      refine grow_val (.bool false) (by rfl) (by rfl) rfl (fun wq hbq _ => ?_) ?_
      · go_simp
        refine ⟨rfl, (implHasTrace_any t Bs ds S wq hzr b1 b2 (hT3.out.later hbq) (hs3.out.later hbq)).mono ?_⟩
        rintro e w9 ⟨rfl, hb9⟩
        exact ⟨by rw [l4.out], hb9⟩
      simp only [Act.put, List.setIfInBounds_toArray, List.set_cons_zero, List.set_cons_succ]
      (repeat (refine grow_quiet (by rfl) (by rfl) (by rfl) ?_; intro K hK; go_big_quiet_op; go_big_quiet_on))
      refine grow_val (.bool true) (by rfl) (by rfl) rfl (fun wq hbq _ => ?_) ?_
      · go_simp
        refine ⟨rfl, (implHasTrace_any t Bs ds y wq t1 b1 b2 (hT3.out.later hbq) (hs3.out.later hbq)).mono ?_⟩
        rintro e w9 ⟨rfl, hb9⟩
        exact ⟨by rw [l5.out], hb9⟩
      simp only [Act.put, List.setIfInBounds_toArray, List.set_cons_zero, List.set_cons_succ]
      (repeat (refine grow_quiet (by rfl) (by rfl) (by rfl) ?_; intro K hK; go_big_quiet_op; go_big_quiet_on))
      refine grow_val (.bool false) (by rfl) (by rfl) rfl (fun wq hbq _ => ?_) ?_
      · go_simp
        refine ⟨rfl, (implTracesWithin_any s t As Bs cs ds wq a1 a2 b1 b2 (hT3.out.later hbq) (hr3.out.later hbq) (hs3.out.later hbq)).mono ?_⟩
        rintro e w9 ⟨rfl, hb9⟩
        exact ⟨by rw [hwi.out], hb9⟩
      simp only [Act.put, List.setIfInBounds_toArray, List.set_cons_zero, List.set_cons_succ]
      (repeat (refine grow_quiet (by rfl) (by rfl) (by rfl) ?_; intro K hK; go_big_quiet_op; go_big_quiet_on))
      refine grow_nil ?_
      intro w40 hb40 hf
      clear hf ys0 ys1 ys2 yt0 yt1 yt2
      have BW := hBB3.trans (hb40.mono hBB3.size)
      go_wp2_with fail
      go_ret
      exact ⟨rfl, BW⟩

end Go.Proofs.YtdkjnemakkppfaaDoor

/- Closed facts on the whole program, each a lemma of its own: the rows of all laws of the seat use them. -/
namespace Go.Proofs.YtdkjnemakkppfaaDoor
open Go.ChangeShapes Go.WideShapes Go.ChangeAt Go.RowKit AG
theorem and2 {a b : Bool} (h : a = true) (k : b = true) : (a && b) = true := by rw [h, k]; rfl
theorem whLaid : laidOutB Tryd.prog = true := by kernel_rfl
theorem whRowed : mapsRowed Tryd.prog = true := by kernel_rfl
theorem whHeard : Tryd.prog.stopsHeard = true := by kernel_rfl
theorem whMay : Tryd.prog.mayEnter = true := by kernel_rfl
theorem whLift : Tryd.prog.liftsFinal = false := by kernel_rfl
theorem whMake : (Tryd.prog.make == some Rows.fnComposeStatesRow.make) = true := by kernel_rfl
theorem whMain : Tryd.prog.mainIs = some (Rows.fnComposeStatesCard.stood.harness.1, Rows.fnComposeStatesCard.stood.harness.2.toList) := by kernel_rfl
theorem whLooks : false = Tryd.prog.looks [] := by kernel_rfl
end Go.Proofs.YtdkjnemakkppfaaDoor
