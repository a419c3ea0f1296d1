/- The program's FirstTraceOutside. -/
import Derived.Test.YtnchoiljcdicdaaDoorW24
import Derived.Test.YtnchoiljcdicdaaDoorMathJ
namespace Go.Proofs.YtnchoiljcdicdaaDoor
open Go.RowKit Go.BigFrame AG

theorem setFar_cell (w : World) (p : Addr) (v : Value) {q : Addr} (h : q.block ≠ p.block) : (w.setCell p v).cell? q = w.cell? q := World.cell?_of_block (w := w) (Below.heap_setCell _ _ _ _ h)
theorem MvAt.far {w : World} {B g : Nat} {m : Nat → Nat → Nat} (h : MvAt w B g m) (p : Addr) (v : Value) (hp : g ≠ p.block) : MvAt (w.setCell p v) B g m := ⟨h.1, fun q l h1 h2 => by rw [setFar_cell _ _ _ hp]; exact h.2 q l h1 h2⟩

theorem goal_ok {wq : World} {z bZ size : Nat} (hz : 0 < z) (hz' : z ≤ 65536) (hs : size ≤ 1048576) (hc : wq.cell? ⟨bZ, 0, none⟩ = some (.int .i64 (z : Nat))) :
    GoalOk wq size (fun n => decide (n % z = 0)) 39 #[.pointer (some ⟨bZ, 0, none⟩)] :=
  ⟨fun args w' => by go_simp, fun w' q hb hq => outGoal_any q z bZ w' hz hz' (by omega) ((hb.cell (World.block_lt_of_cell? _ _ hc)).trans hc)⟩

theorem next_ok {s t : Sy} {wq : World} {z sn bN bZ bM gn gm : Nat} (hs : edgesIn s) (ht : edgesIn t) (hsn : s.st = (sn : Int)) (hs16 : sn ≤ 16) (hz : z = 2 ^ t.st.toNat) (hzp : 0 < z) (hzl : z ≤ 65536) (hT : Tab wq)
    (hN : wq.cell? ⟨bN, 0, none⟩ = some (.pointer (some ⟨gn, 0, none⟩))) (hZ : wq.cell? ⟨bZ, 0, none⟩ = some (.int .i64 (z : Nat))) (hM : wq.cell? ⟨bM, 0, none⟩ = some (.pointer (some ⟨gm, 0, none⟩))) (hm : MvAt wq wq.heap.size gm (mv s)) (hn : MvAt wq wq.heap.size gn (mv t)) :
    NextOk wq (sn * z) (letters s.al) (outNx s t z) 34 #[.pointer (some ⟨bN, 0, none⟩), .pointer (some ⟨bZ, 0, none⟩), .pointer (some ⟨bM, 0, none⟩)] := by
  refine ⟨fun args w' => by go_simp, fun q _ l _ n hn => ?_, fun q _ l _ => ?_, fun w' q l v ns base hb hq hl hns hB hB' hown => ?_⟩
  · unfold outNx at hn
    obtain ⟨p, hp, rfl⟩ := List.mem_map.1 hn
    have h1 := testBit_lt (mv_small hs _ _) (memL_mem.1 hp).2
    have h2 := unionOf_small ht (q % z) l
    rw [← hz] at h2
    have h3 : (p + 1) * z ≤ sn * z := Nat.mul_le_mul_right z (by omega)
    rw [Nat.add_mul] at h3
    omega
  · unfold outNx
    rw [List.length_map]
    exact Nat.le_trans (memL_len _) (by omega)
  · have hq16 : q < 16 * z := Nat.lt_of_lt_of_le hq (Nat.mul_le_mul_right z hs16)
    exact outNext_any s t z bN bZ bM gn gm base q l v ns w' hzp hzl hq16 (letters_lt hl).1 (hT.later hb) ((hb.cell (World.block_lt_of_cell? _ _ hN)).trans hN) ((hb.cell (World.block_lt_of_cell? _ _ hZ)).trans hZ)
      ((hb.cell (World.block_lt_of_cell? _ _ hM)).trans hM) (hm.later hb) (hn.later hb) hns hB' (Nat.lt_of_lt_of_le (World.block_lt_of_cell? _ _ hZ) hB) hown

set_option maxRecDepth 100000 in
set_option maxHeartbeats 4000000 in
theorem implFirstTraceOutside_any (s t : Sy) (A B : Option Addr) (c d : Nat) (w : World) (hl : s.es.length ≤ c) (hc : c ≤ 9223372036854775807) (hm : t.es.length ≤ d) (hd : d ≤ 9223372036854775807) (hT : Tab w) (hr : EdsAt w w.heap.size A s.es) (hs : EdsAt w w.heap.size B t.es) :
    Calls Tryd.prog 13 #[s.val A c, t.val B d] w fun e w' => ∃ o, e = .returned (pathV o) ∧ IsOut s t o ∧ Below w.heap.size w w' := by
  unfold Sy.val
  replace hr := hid hr
  replace hs := hid hs
  replace hT := hid hT
  go_enter Tryd.func13, Tryd.ntmps13
  go_wp2_with fail
  obtain ⟨w0, hw0, hz0, hB0, hS, hU⟩ := boxed2 w #[Value.int IntKind.i64 s.al, Value.int IntKind.i64 s.st, Value.slice A s.es.length c] 29 #[Value.int IntKind.i64 t.al, Value.int IntKind.i64 t.st, Value.slice B t.es.length d] 29
  rw [hw0]
  clear hw0
  have p0 := hS 0 _ rfl _ (Below.refl _ _)
  have p1 := hS 1 _ rfl _ (Below.refl _ _)
  have p2 := hS 2 _ rfl _ (Below.refl _ _)
  have q0 := hU 0 _ rfl _ (Below.refl _ _)
  have q1 := hU 1 _ rfl _ (Below.refl _ _)
  have q2 := hU 2 _ rfl _ (Below.refl _ _)
  have hr0 := hid (hr.out.later hB0)
  have hs0 := hid (hs.out.later hB0)
  go_wp2_with fail
  refine (sameAlphabets_any s t A B c d w0 hl hc hm hd hr0.out hs0.out).mono ?_
  rintro e w1 ⟨rfl, hb1⟩
  have b1 := hb1.mono hz0
  clear p0 p1 p2 q0 q1 q2
  have B1 : Below w.heap.size w w1 := hB0.trans (b1.mono (by omega))
  cases hC : cmpOk s t
  · replace hC := hid hC
    go_wp2_with fail
    go_ret2
    exact ⟨none, rfl, by unfold IsOut; rw [hC.out]; rfl, B1⟩
  · replace hC := hid hC
    have hsy := hid (show sysOk s = true ∧ sysOk t = true from by
      have := hC.out
      unfold cmpOk at this
      simp only [Bool.and_eq_true] at this
      exact ⟨this.1, this.2.1⟩)
    have hin1 := hid (sysOk_in hsy.out.1)
    have hin2 := hid (sysOk_in hsy.out.2)
    have z1 := hb1.size
    have hFb : ∀ x, Below (w.heap.size + 2) w0 (Fam w1.heap.size w1 x) := fun x => b1.trans ((Fam.below _ _ x).mono (by omega))
    have y0 := fun x => hS 0 _ rfl _ (hFb x)
    have y1 := fun x => hS 1 _ rfl _ (hFb x)
    have y2 := fun x => hS 2 _ rfl _ (hFb x)
    have u0 := fun x => hU 0 _ rfl _ (hFb x)
    have u1 := fun x => hU 1 _ rfl _ (hFb x)
    have u2 := fun x => hU 2 _ rfl _ (hFb x)
    have hr1 := hid (hr.out.later B1)
    have hs1 := hid (hs.out.later B1)
    replace hFb := hid hFb
    go_wp2_with fail
    refine wp_region_grow2 6 w1.heap.size w1 (fun i u w' => if i = 1 then ∃ g, u = .pointer (some ⟨g, 0, none⟩) ∧ MvAt w' w'.heap.size g (mv s) else ∃ g, u = .pointer (some ⟨g, 0, none⟩) ∧ MvAt w' w'.heap.size g (mv t)) (fun i => i == 4 || i == 5) (by kernel_rfl) (by kernel_rfl) (Nat.le_refl _) (Below.refl _ _) ?_
    simp only [List.take_succ_cons, List.take_zero, List.drop_succ_cons, List.drop_zero]
    (repeat (refine grow_quiet (by rfl) (by rfl) (by rfl) ?_; intro K hK; go_big_quiet_op; go_big_quiet_on))
    refine grow_call (by rfl) (by rfl) (fun u v v' hb h => ?_) (fun wq hbq _ => ?_) fun u hu => ?_
    · obtain ⟨g, e, h⟩ := h
      exact ⟨g, e, h.later hb⟩
    · go_simp
      refine ⟨rfl, (movesOf_any s A c wq hin1.out hl hc (hr1.out.later hbq)).mono ?_⟩
      rintro e w3 ⟨g, rfl, hg, hb3⟩
      exact ⟨_, rfl, hb3, g, rfl, hg⟩
    obtain ⟨wx, -, gm, rfl, -⟩ := hu
    simp only [Act.put, List.setIfInBounds_toArray, List.set_cons_zero, List.set_cons_succ]
    (repeat (refine grow_quiet (by rfl) (by rfl) (by rfl) ?_; intro K hK; go_big_quiet_op; go_big_quiet_on))
    refine grow_call (by rfl) (by rfl) (fun u v v' hb h => ?_) (fun wq hbq _ => ?_) fun u hu => ?_
    · obtain ⟨g, e, h⟩ := h
      exact ⟨g, e, h.later hb⟩
    · go_simp
      refine ⟨rfl, (movesOf_any t B d wq hin2.out hm hd (hs1.out.later hbq)).mono ?_⟩
      rintro e w3 ⟨g, rfl, hg, hb3⟩
      exact ⟨_, rfl, hb3, g, rfl, hg⟩
    obtain ⟨wx', -, gn, rfl, -⟩ := hu
    simp only [Act.put, List.setIfInBounds_toArray, List.set_cons_zero, List.set_cons_succ]
    refine grow_new (by rfl) (fun b => .pointer (some ⟨b, 0, none⟩)) 52 #[.pointer none] (fun _ => by go_simp) (fun _ => rfl) (Nat.le_refl _) fun bM hbM => ?_
    simp only [Act.put, List.setIfInBounds_toArray, List.set_cons_zero, List.set_cons_succ]
    refine grow_new (by rfl) (fun b => .pointer (some ⟨b, 0, none⟩)) 52 #[.pointer none] (fun _ => by go_simp) (fun _ => rfl) (Nat.le_refl _) fun bN hbN => ?_
    simp only [Act.put, List.setIfInBounds_toArray, List.set_cons_zero, List.set_cons_succ]
    refine grow_nil ?_
    intro w2 hb2 hf hap
    have hne : bM ≠ bN := by
      have := hap 4 5 6 7 _ _ (by decide) (by decide) (by decide) rfl rfl rfl rfl rfl rfl
      simpa [blockOf] using this
    obtain ⟨_, e5, -, hN5⟩ := hf _ List.mem_cons_self
    cases e5
    obtain ⟨_, e4, -, hM4⟩ := hf _ (List.mem_cons_of_mem _ List.mem_cons_self)
    cases e4
    obtain ⟨_, e3, hn3⟩ := hf _ (List.mem_cons_of_mem _ (List.mem_cons_of_mem _ List.mem_cons_self))
    cases e3
    obtain ⟨_, e1, hm1⟩ := hf _ (List.mem_cons_of_mem _ (List.mem_cons_of_mem _ (List.mem_cons_of_mem _ List.mem_cons_self)))
    cases e1
    clear hf hap y0 y1 y2 u0 u1 u2
    have hBM : Blk w2 bM 52 #[.pointer none] := hM4
    have hBN : Blk w2 bN 52 #[.pointer none] := hN5
    clear hM4 hN5
    have hgm : ∀ g b m, Blk w2 b 52 #[.pointer none] → MvAt w2 w2.heap.size g m → g ≠ b := fun g b m hb hm e => by
      subst e
      have h1 := hm.2 0 0 (by omega) (by omega)
      have h2 := hb.cell 0
      simp at h2
      simp [h2] at h1
    have g1 := hgm gm bM _ hBM hm1
    have g2 := hgm gm bN _ hBN hm1
    have g3 := hgm gn bM _ hBM hn3
    have g4 := hgm gn bN _ hBN hn3
    clear hgm
    obtain ⟨w3, hw3⟩ : ∃ w3, (w2.setCell ⟨bM, 0, none⟩ (.pointer (some ⟨gm, 0, none⟩))).setCell ⟨bN, 0, none⟩ (.pointer (some ⟨gn, 0, none⟩)) = w3 := ⟨_, rfl⟩
    have hb3 : Below w1.heap.size w1 w3 := by
      rw [← hw3]
      (repeat (first | exact Below.refl _ _ | assumption | refine Below.drew ?_ | refine Below.alloc ?_ (by first | omega | (simp; done) | (simp; omega)) _ | refine Below.setCell ?_ (by first | omega | (simp; done) | (simp; omega)) _))
    have hm3 : MvAt w3 w3.heap.size gm (mv s) := by
      have := MvAt.far (MvAt.far hm1 ⟨bM, 0, none⟩ (.pointer (some ⟨gm, 0, none⟩)) g1) ⟨bN, 0, none⟩ (.pointer (some ⟨gn, 0, none⟩)) g2
      rw [hw3] at this
      refine ⟨?_, this.2⟩
      have := hm1.1
      rw [← hw3]
      simpa using this
    have hn4 : MvAt w3 w3.heap.size gn (mv t) := by
      have := MvAt.far (MvAt.far hn3 ⟨bM, 0, none⟩ (.pointer (some ⟨gm, 0, none⟩)) g3) ⟨bN, 0, none⟩ (.pointer (some ⟨gn, 0, none⟩)) g4
      rw [hw3] at this
      refine ⟨?_, this.2⟩
      have := hn3.1
      rw [← hw3]
      simpa using this
    have hcM : w3.cell? ⟨bM, 0, none⟩ = some (.pointer (some ⟨gm, 0, none⟩)) := by
      rw [← hw3, setFar_cell _ _ _ (by simpa using hne)]
      have := (hBM.set_ 0 (.pointer (some ⟨gm, 0, none⟩))).cell 0
      simpa using this
    have hBN' : Blk (w2.setCell ⟨bM, 0, none⟩ (.pointer (some ⟨gm, 0, none⟩))) bN 52 #[.pointer none] := (Below.heap_setCell _ _ _ _ (Ne.symm hne)).trans hBN
    have hcN : w3.cell? ⟨bN, 0, none⟩ = some (.pointer (some ⟨gn, 0, none⟩)) := by
      rw [← hw3]
      have := (hBN'.set_ 0 (.pointer (some ⟨gn, 0, none⟩))).cell 0
      simpa using this
    have c1 := hBM.cell 0
    have c2 := hBN'.cell 0
    simp only [List.getElem?_toArray, List.getElem?_cons_zero] at c1 c2
    have z1' := hBM.frozen 0
    have z2' := hBN'.frozen 0
    have hb3' := b1.trans (hb3.mono (by omega))
    have k1 := hU 1 _ rfl _ hb3'
    obtain ⟨z, hz⟩ : ∃ z, z = 2 ^ t.st.toNat := ⟨_, rfl⟩
    have hst := sysOk_st hsy.out.2
    have hst1 := sysOk_st hsy.out.1
    have hzw : wrap64 ((2 : Int) ^ t.st.toNat) = ((z : Nat) : Int) := by rw [wrap_pow (by omega), hz]
    rw [← hw3] at k1
    replace hm3 := hid hm3
    replace hn4 := hid hn4
    replace hcM := hid hcM
    replace hcN := hid hcN
    replace hw3 := hid hw3
    replace hz := hid hz
    replace hBM := hid hBM
    replace hBN := hid hBN
    replace hBN' := hid hBN'
    clear hm1 hn3
    have hz32 : Hid (w3.heap.size = w2.heap.size) := hid (by rw [← hw3.out]; simp)
    go_wp2_with fail
    rw [hw3.out]
    obtain ⟨w4, hw4⟩ : ∃ w4, w3.alloc (Obj.cells #[Value.int IntKind.i64 (z : Nat)] 3) = w4 := ⟨_, rfl⟩
    rw [hw4]
    have hb4 : Below w3.heap.size w3 w4 := by
      rw [← hw4]
      (repeat (first | exact Below.refl _ _ | assumption | refine Below.drew ?_ | refine Below.alloc ?_ (by first | omega | (simp; done) | (simp; omega)) _ | refine Below.setCell ?_ (by first | omega | (simp; done) | (simp; omega)) _))
    have hcZ : w4.cell? ⟨w2.heap.size, 0, none⟩ = some (.int .i64 (z : Nat)) := by
      have := (Blk.new w3 3 #[Value.int IntKind.i64 (z : Nat)]).cell 0
      rw [hw4, hz32.out] at this
      simpa using this
    have hm5 := hid (hm3.out.later hb4)
    have hn5 := hid (hn4.out.later hb4)
    have hcM4 := hid ((hb4.cell (World.block_lt_of_cell? _ _ hcM.out)).trans hcM.out)
    have hcN4 := hid ((hb4.cell (World.block_lt_of_cell? _ _ hcN.out)).trans hcN.out)
    have hb14 : Below w1.heap.size w1 w4 := hb3.trans (hb4.mono hb3.size)
    have hb04 := b1.trans (hb14.mono (by omega))
    have hFb : ∀ x, Below (w.heap.size + 2) w0 (Fam w4.heap.size w4 x) := fun x => hb04.trans ((Fam.below _ _ x).mono (by have := hb04.size; omega))
    have y0 := fun x => hS 0 _ rfl _ (hFb x)
    have y1 := fun x => hS 1 _ rfl _ (hFb x)
    have hcZ' := World.block_lt_of_cell? _ _ hcZ
    have y2 : ∀ x, (Fam w4.heap.size w4 x).cell? ⟨w2.heap.size, 0, none⟩ = some (.int .i64 (z : Nat)) := fun x => ((Fam.below _ _ x).cell hcZ').trans hcZ
    have hT4 := hid (hT.out.later (B1.trans (hb14.mono (Nat.le_trans (by omega) z1))))
    obtain ⟨sn, hsn⟩ : ∃ sn : Nat, s.st = (sn : Int) := ⟨s.st.toNat, by omega⟩
    have hzl : z ≤ 65536 := by
      rw [hz.out]
      exact Nat.le_trans (Nat.pow_le_pow_right (by omega) (show t.st.toNat ≤ 16 by omega)) (by decide)
    have hzp : 0 < z := by rw [hz.out]; exact Nat.two_pow_pos _
    have hz2 : 1 < z := by
      rw [hz.out]
      have : 2 ^ 1 ≤ 2 ^ t.st.toNat := Nat.pow_le_pow_right (by omega) (by omega)
      omega
    have hsz : sn * z ≤ 1048576 := Nat.le_trans (Nat.mul_le_mul (show sn ≤ 16 by omega) hzl) (by omega)
    have hsz1 : z ≤ sn * z := Nat.le_mul_of_pos_left z (by omega)
    have hmul : Hid (s.st * (z : Int) = ((sn * z : Nat) : Int)) := hid (by rw [hsn, Int.natCast_mul])
    have hm1 : s.st * (z : Int) ≤ 1048576 := by rw [hmul.out]; omega
    have hm2 : 0 ≤ s.st * (z : Int) := by rw [hmul.out]; omega
    have hs16 : sn ≤ 16 := by omega
    replace hsn := hid hsn
    replace hFb := hid hFb
    replace hw3 := hid hw3
    replace hw4 := hid hw4
    clear hzw k1 c1 c2 z1' z2'
    refine wp_region_grow 13 w4.heap.size w4 (fun i u w' => if i = 7 then OwnNats w' w4.heap.size u (letters s.al) else ∃ o, u = pathV o ∧ IsOut s t o) (by kernel_rfl) (by kernel_rfl) (Nat.le_refl _) (Below.refl _ _) ?_
    simp only [List.take_succ_cons, List.take_zero, List.drop_succ_cons, List.drop_zero]
    (repeat (refine grow_quiet (by rfl) (by rfl) (by rfl) ?_; intro K hK; go_big_quiet_op; go_big_quiet_on))
    refine grow_new (by rfl) (fun b => .slice (some ⟨b, 0, none⟩) 1 1) 3 #[.int .i64 1] (fun _ => by go_simp) (fun _ => rfl) (Nat.le_refl _) fun bI hbI => ?_
    simp only [Act.put, List.setIfInBounds_toArray, List.set_cons_zero, List.set_cons_succ]
    (repeat (refine grow_quiet (by rfl) (by rfl) (by rfl) ?_; intro K hK; go_big_quiet_op; go_big_quiet_on))
    refine grow_call (by rfl) (by rfl) (fun u v v' hb h => ?_) (fun wq hbq _ => ?_) fun u hu => ?_
    · exact own_keep h (.of_below (K := fun _ => False) hb) fun _ _ h => h
    · go_simp
      refine ⟨rfl, (lettersOf_any s.al wq).mono ?_⟩
      rintro e w5 ⟨v, rfl, ho, hb5⟩
      exact ⟨v, rfl, hb5, own_base ho hbq.size⟩
    simp only [Act.put, List.setIfInBounds_toArray, List.set_cons_zero, List.set_cons_succ]
    (repeat (refine grow_quiet (by rfl) (by rfl) (by rfl) ?_; intro K hK; go_big_quiet_op; go_big_quiet_on))
    refine grow_call (by rfl) (by rfl) (fun v x x' hb h => h) (fun wq hbq hfx => ?_) fun u2 hu2 => ?_
    · have hlet : OwnNats wq w4.heap.size u (letters s.al) := hfx _ List.mem_cons_self (by kernel_rfl)
      obtain ⟨bI', eI, -, hI⟩ := hfx _ (List.mem_cons_of_mem _ List.mem_cons_self) (by kernel_rfl)
      cases eI
      have hbz := hid ((hbq.cell hcZ').trans hcZ)
      have hbM' := hid ((hbq.cell (World.block_lt_of_cell? _ _ hcM4.out)).trans hcM4.out)
      have hbN' := hid ((hbq.cell (World.block_lt_of_cell? _ _ hcN4.out)).trans hcN4.out)
      have hTq := hid (hT4.out.later hbq)
      have hmq := hid (hm5.out.later hbq)
      have hnq := hid (hn5.out.later hbq)
      go_simp
      refine ⟨rfl, ?_⟩
      rw [hmul.out]
      have hhit : ∀ r, (∃ n, RW (fun n => n ∈ [1]) (letters s.al) (outNx s t z) r n ∧ decide (n % z = 0) = true) ↔ AG.Outside s t r := by
        rw [hz.out]
        exact impl_hits hin1.out hin2.out hst.1
      have hIo : wq.ownsRow 0 3 1 (.slice (some ⟨bI, 0, none⟩) 1 1) [1].length (natVals [1]) := ⟨rfl, .inr ⟨bI, 1, #[.int .i64 1], rfl, Nat.zero_le _, hI, Nat.le_refl _, by decide, rfl, rfl⟩⟩
      refine (firstPath_any wq (sn * z) (fun n => decide (n % z = 0)) 39 #[.pointer (some ⟨w2.heap.size, 0, none⟩)] (goal_ok hzp hzl hsz hbz.out) (letters s.al) (letters_sorted _) (fun l h => (letters_lt h).1) (outNx s t z) 34 _
        (next_ok hin1.out hin2.out hsn.out hs16 hz.out hzp hzl hTq.out hbN'.out hbz.out hbM'.out hmq.out hnq.out) [1] (by simp) (fun n hn => by rw [List.mem_singleton] at hn; omega) (by simp) _ u hIo (own_base hlet (Nat.zero_le _)) hsz).mono ?_
      rintro e w6 ⟨o, rfl, hp, hb6⟩
      exact ⟨_, rfl, hb6, o, rfl, out_of_first hhit hC.out hp⟩
    obtain ⟨w6', -, o, rfl, hout⟩ := hu2
    obtain ⟨Sv, Fv, hpv⟩ : ∃ Sv Fv, pathV o = .tuple #[.string Sv, .bool Fv] := ⟨_, _, rfl⟩
    rw [hpv]
    have hout' := hid (show ∃ o, (Value.tuple #[.string Sv, .bool Fv]) = pathV o ∧ IsOut s t o from ⟨o, hpv.symm, hout⟩)
    clear hout hpv
    simp only [Act.put, List.setIfInBounds_toArray, List.set_cons_zero, List.set_cons_succ]
    (repeat (refine grow_quiet (by rfl) (by rfl) (by rfl) ?_; intro K hK; go_big_quiet_op; go_big_quiet_on))
    refine grow_nil ?_
    intro w7 hb7 hf
    clear hf y0 y1 y2
    have hB7 : Below w.heap.size w w7 := B1.trans ((hb14.trans (hb7.mono hb14.size)).mono (by omega))
    go_wp2_with fail
    go_ret2
    obtain ⟨o, ho, hout⟩ := hout'.out
    exact ⟨o, by rw [← ho]; rfl, hout, hB7⟩

end Go.Proofs.YtnchoiljcdicdaaDoor
