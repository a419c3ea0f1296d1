/- The laws FnExactFirstTraceOutside, FnExactTracesWithin, FnExactSameTraces return true. -/
import Derived.Test.YtnchoiljcdicdaaDoorW26
import Derived.Test.YtnchoiljcdicdaaDoorW7
namespace Go.Proofs.YtnchoiljcdicdaaDoor
open Go.RowKit Go.BigFrame AG

set_option maxRecDepth 100000 in
set_option maxHeartbeats 4000000 in
theorem FnExactFirstTraceOutside_any (s t : Sy) (A B : Option Addr) (c d : Nat) (w : World) (hl : s.es.length ≤ c) (hc : c ≤ 9223372036854775807) (hm : t.es.length ≤ d) (hd : d ≤ 9223372036854775807) (hT : Tab w) (hr : EdsAt w w.heap.size A s.es) (hs : EdsAt w w.heap.size B t.es) :
    Calls Tryd.prog 4 #[s.val A c, t.val B d] w fun e w' => e = .returned (.bool true) ∧ Below w.heap.size w w' := by
  unfold Sy.val
  replace hr := hid hr
  replace hs := hid hs
  replace hT := hid hT
  go_enter Tryd.func4, Tryd.ntmps4
  go_wp2_with fail
  obtain ⟨w0, hw0, hz0, hB0, hS, hU⟩ := boxed2 w #[Value.int IntKind.i64 s.al, Value.int IntKind.i64 s.st, Value.slice A s.es.length c] 24 #[Value.int IntKind.i64 t.al, Value.int IntKind.i64 t.st, Value.slice B t.es.length d] 24
  rw [hw0]
  clear hw0
  have p0 := hS 0 _ rfl _ (Below.refl _ _)
  have p1 := hS 1 _ rfl _ (Below.refl _ _)
  have p2 := hS 2 _ rfl _ (Below.refl _ _)
  go_wp2_with fail
  refine (szSystem_any s A c 1048576 w0 (by omega) (by omega) (by omega)).mono ?_
  rintro e w1 ⟨rfl, hb1⟩
  have b1 := hb1.mono hz0
  clear p0 p1 p2
  have B1 : Below w.heap.size w w1 := hB0.trans (b1.mono (by omega))
  by_cases hsz : sz1 s.es.length 1048576 < 0
  · go_wp2_with fail
    go_ret
    exact ⟨rfl, B1⟩
  have hn : s.es.length ≤ 1048576 := by unfold sz1 at hsz; split at hsz <;> omega
  obtain ⟨left, hleft⟩ : ∃ left, left = sz1 s.es.length 1048576 := ⟨_, rfl⟩
  have hl0 : 0 ≤ left ∧ left ≤ 1048576 := by rw [hleft]; unfold sz1 at hsz ⊢; split at hsz <;> omega
  rw [← hleft] at hsz ⊢
  replace hleft := hid hleft
  have q0 := hU 0 _ rfl _ b1
  have q1 := hU 1 _ rfl _ b1
  have q2 := hU 2 _ rfl _ b1
  go_wp2_with fail
  refine (szSystem_any t B d left w1 (by omega) (by omega) (by omega)).mono ?_
  rintro e w2 ⟨rfl, hb2⟩
  have z1 := hb1.size
  have z2 := hb2.size
  have b2 := b1.trans (hb2.mono (by omega))
  clear q0 q1 q2
  have B2 : Below w.heap.size w w2 := hB0.trans (b2.mono (by omega))
  by_cases hsz2 : sz1 t.es.length left < 0
  · go_wp2_with fail
    go_ret
    exact ⟨rfl, B2⟩
  have hn2 : t.es.length ≤ 1048576 := by unfold sz1 at hsz2; split at hsz2 <;> omega
  have hFb : ∀ x, Below (w.heap.size + 2) w0 (Fam w2.heap.size w2 x) := fun x => b2.trans ((Fam.below _ _ x).mono (by omega))
  have y0 := fun x => hS 0 _ rfl _ (hFb x)
  have y1 := fun x => hS 1 _ rfl _ (hFb x)
  have y2 := fun x => hS 2 _ rfl _ (hFb x)
  have u0 := fun x => hU 0 _ rfl _ (hFb x)
  have u1 := fun x => hU 1 _ rfl _ (hFb x)
  have u2 := fun x => hU 2 _ rfl _ (hFb x)
  have hr2 := hid (hr.out.later B2)
  have hs2 := hid (hs.out.later B2)
  have hT2 := hid (hT.out.later B2)
  replace hFb := hid hFb
  go_wp2_with fail
  refine wp_region_grow 10 w2.heap.size w2 (fun i u w' => if i = 1 then ∃ A2, u = s.val A2 s.es.length ∧ EdsAt w' w'.heap.size A2 s.es else if i = 3 then ∃ A2, u = t.val A2 t.es.length ∧ EdsAt w' w'.heap.size A2 t.es else ∃ o, u = pathV o ∧ IsOut s t o) (by kernel_rfl) (by kernel_rfl) (Nat.le_refl _) (Below.refl _ _) ?_
  simp only [List.take_succ_cons, List.take_zero, List.drop_succ_cons, List.drop_zero]
  (repeat (refine grow_quiet (by rfl) (by rfl) (by rfl) ?_; intro K hK; go_big_quiet_op; go_big_quiet_on))
  refine grow_call (by rfl) (by rfl) (fun u v v' hb h => ?_) (fun wq hbq _ => ?_) fun u hu => ?_
  · obtain ⟨g, e, h⟩ := h
    exact ⟨g, e, h.later hb⟩
  · go_simp
    refine ⟨rfl, (toSystem_any s A c wq hn hl hc (hr2.out.later hbq)).mono ?_⟩
    rintro e w3 ⟨A3, rfl, hA3, -, hb3⟩
    exact ⟨_, rfl, hb3, A3, rfl, hA3⟩
  obtain ⟨wx, -, A3, rfl, -⟩ := hu
  simp only [Act.put, List.setIfInBounds_toArray, List.set_cons_zero, List.set_cons_succ]
  (repeat (refine grow_quiet (by rfl) (by rfl) (by rfl) ?_; intro K hK; go_big_quiet_op; go_big_quiet_on))
  refine grow_call (by rfl) (by rfl) (fun u v v' hb h => ?_) (fun wq hbq _ => ?_) fun u hu => ?_
  · obtain ⟨g, e, h⟩ := h
    exact ⟨g, e, h.later hb⟩
  · go_simp
    refine ⟨rfl, (toSystem_any t B d wq hn2 hm hd (hs2.out.later hbq)).mono ?_⟩
    rintro e w3 ⟨A3, rfl, hA3, -, hb3⟩
    exact ⟨_, rfl, hb3, A3, rfl, hA3⟩
  obtain ⟨wx', -, A4, rfl, -⟩ := hu
  simp only [Act.put, List.setIfInBounds_toArray, List.set_cons_zero, List.set_cons_succ]
  (repeat (refine grow_quiet (by rfl) (by rfl) (by rfl) ?_; intro K hK; go_big_quiet_op; go_big_quiet_on))
  refine grow_call (by rfl) (by rfl) (fun u v v' hb h => h) (fun wq hbq hfx => ?_) fun u hu => ?_
  · obtain ⟨_, e4, h4⟩ := hfx _ List.mem_cons_self (by kernel_rfl)
    cases e4
    obtain ⟨_, e3, h3⟩ := hfx _ (List.mem_cons_of_mem _ List.mem_cons_self) (by kernel_rfl)
    cases e3
    have h3' := hid h3
    have h4' := hid h4
    clear h3 h4 hfx
    go_simp
    refine ⟨rfl, (specFTO_any s t A3 A4 _ _ wq (Nat.le_refl _) (by omega) (Nat.le_refl _) (by omega) h3'.out h4'.out).mono ?_⟩
    rintro e w4 ⟨o, rfl, ho, hb4⟩
    exact ⟨_, rfl, hb4, o, rfl, ho⟩
  obtain ⟨wx2, -, o, rfl, ho⟩ := hu
  replace ho := hid ho
  obtain ⟨Sv, Fv, hpv⟩ : ∃ Sv Fv, pathV o = .tuple #[.string Sv, .bool Fv] := ⟨_, _, rfl⟩
  rw [hpv]
  replace hpv := hid hpv
  simp only [Act.put, List.setIfInBounds_toArray, List.set_cons_zero, List.set_cons_succ]
  (repeat (refine grow_quiet (by rfl) (by rfl) (by rfl) ?_; intro K hK; go_big_quiet_op; go_big_quiet_on))
  refine grow_nil ?_
  intro w3 hb3 hf
  clear hf y0 y1 y2 u0 u1 u2
  have b3 := b2.trans (hb3.mono (by omega))
  have z3 := hb3.size
  have B3 : Below w.heap.size w w3 := hB0.trans (b3.mono (by omega))
  have p0 := hS 0 _ rfl _ b3
  have p1 := hS 1 _ rfl _ b3
  have p2 := hS 2 _ rfl _ b3
  have hr3 := hid (hr.out.later B3)
  have hs3 := hid (hs.out.later B3)
  go_wp2_with fail
  refine (toSystem_any s A c w3 hn hl hc hr3.out).mono ?_
  rintro e w4 ⟨A5, rfl, hA5, -, hb4⟩
  have z4 := hb4.size
  have b4 := b3.trans (hb4.mono (by omega))
  replace hA5 := hid hA5
  clear p0 p1 p2
  unfold Sy.val
  obtain ⟨w5, hw5, hz5, hB5, hX0, hX1, hX2⟩ := boxed3 w4 (Value.int IntKind.i64 s.al) (Value.int IntKind.i64 s.st) (Value.slice A5 s.es.length s.es.length) 29
  have b5 := b4.trans (hB5.mono (by omega))
  have B5 : Below w.heap.size w w5 := hB0.trans (b5.mono (by omega))
  have q0 := hU 0 _ rfl _ b5
  have q1 := hU 1 _ rfl _ b5
  have q2 := hU 2 _ rfl _ b5
  rw [← hw5] at q0 q1 q2
  replace hw5 := hid hw5
  go_wp2_with fail
  rw [hw5.out]
  clear q0 q1 q2
  have hs5 := hid (hs.out.later B5)
  have hA6 := hid (hA5.out.later hB5)
  refine (toSystem_any t B d w5 hn2 hm hd hs5.out).mono ?_
  rintro e w6 ⟨A7, rfl, hA7, -, hb6⟩
  have z6 := hb6.size
  have b6 := b5.trans (hb6.mono (by omega))
  have c6 := hb6.mono hz5
  replace hA7 := hid hA7
  have hA8 := hid (hA6.out.later hb6)
  unfold Sy.val
  obtain ⟨w7, hw7, hz7, hB7, hY0, hY1, hY2⟩ := boxed3 w6 (Value.int IntKind.i64 t.al) (Value.int IntKind.i64 t.st) (Value.slice A7 t.es.length t.es.length) 29
  have b7 := b6.trans (hB7.mono (by omega))
  have c7 := c6.trans (hB7.mono (by omega))
  have B7 : Below w.heap.size w w7 := hB0.trans (b7.mono (by omega))
  have hA9 := hid (hA8.out.later hB7)
  have hA10 := hid (hA7.out.later hB7)
  have hT7 := hid (hT.out.later B7)
  have e0 := hX0 _ c7
  have e1 := hX1 _ c7
  have e2 := hX2 _ c7
  have f0 := hY0 _ (Below.refl _ _)
  have f1 := hY1 _ (Below.refl _ _)
  have f2 := hY2 _ (Below.refl _ _)
  rw [← hw7] at e0 e1 e2 f0 f1 f2
  replace hw7 := hid hw7
  go_wp2_with fail
  rw [hw7.out]
  clear e0 e1 e2 f0 f1 f2
  refine (implFirstTraceOutside_any s t A5 A7 _ _ w7 (Nat.le_refl _) (by omega) (Nat.le_refl _) (by omega) hT7.out hA9.out hA10.out).mono ?_
  rintro e w8 ⟨o', rfl, ho', hb8⟩
  rw [← ho.out.unique ho', hpv.out]
  have z8 := hb8.size
  have b8 := b7.trans (hb8.mono (by omega))
  have c8 := c7.trans (hb8.mono (by omega))
  have d8 := hb8.mono hz7
  have B8 : Below w.heap.size w w8 := hB0.trans (b8.mono (by omega))
  have hA11 := hid (hA9.out.later hb8)
  have hA12 := hid (hA10.out.later hb8)
  have hF8 : ∀ x, Below w8.heap.size w8 (Fam w8.heap.size w8 x) := fun x => Fam.below _ _ x
  have y0 := fun x => hX0 _ (c8.trans ((hF8 x).mono (by omega)))
  have y1 := fun x => hX1 _ (c8.trans ((hF8 x).mono (by omega)))
  have y2 := fun x => hX2 _ (c8.trans ((hF8 x).mono (by omega)))
  have u0 := fun x => hS 0 _ rfl _ (b8.trans ((hF8 x).mono (by omega)))
  have u1 := fun x => hS 1 _ rfl _ (b8.trans ((hF8 x).mono (by omega)))
  have u2 := fun x => hS 2 _ rfl _ (b8.trans ((hF8 x).mono (by omega)))
  have hr8 := hid (hr.out.later B8)
  replace hF8 := hid hF8
  go_wp2_with fail
  refine wp_region_grow 3 w8.heap.size w8 (fun _ u w' => ∃ A2, u = s.val A2 s.es.length ∧ EdsAt w' w'.heap.size A2 s.es) (by kernel_rfl) (by kernel_rfl) (Nat.le_refl _) (Below.refl _ _) ?_
  simp only [List.take_succ_cons, List.take_zero, List.drop_succ_cons, List.drop_zero]
  (repeat (refine grow_quiet (by rfl) (by rfl) (by rfl) ?_; intro K hK; go_big_quiet_op; go_big_quiet_on))
  refine grow_call (by rfl) (by rfl) (fun u v v' hb h => ?_) (fun wq hbq _ => ?_) fun u hu => ?_
  · obtain ⟨g, e, h⟩ := h
    exact ⟨g, e, h.later hb⟩
  · go_simp
    refine ⟨rfl, (toSystem_any s A c wq hn hl hc (hr8.out.later hbq)).mono ?_⟩
    rintro e w3 ⟨A3, rfl, hA3, -, hb3⟩
    exact ⟨_, rfl, hb3, A3, rfl, hA3⟩
  obtain ⟨wx2, -, A13, rfl, -⟩ := hu
  simp only [Act.put, List.setIfInBounds_toArray, List.set_cons_zero, List.set_cons_succ]
  refine grow_nil ?_
  intro w9 hb9 hf
  obtain ⟨_, e13, hA13⟩ := hf _ List.mem_cons_self
  cases e13
  clear hf y0 y1 y2 u0 u1 u2
  have hA13' := hid hA13
  clear hA13
  have hA14 := hid (hA11.out.later hb9)
  have z9 := hb9.size
  unfold Sy.val
  go_wp2_with fail
  refine (eqSystem_any s s A5 A13 s.es.length s.es.length w9 (Nat.le_refl _) (by omega) (Nat.le_refl _) (by omega) hA14.out hA13'.out).mono ?_
  rintro e w10 ⟨rfl, hb10⟩
  rw [decide_eq_true (show s = s from rfl)]
  have z10 := hb10.size
  have h810 : Below w8.heap.size w8 w10 := hb9.trans (hb10.mono z9)
  have b10 := b8.trans (h810.mono (by omega))
  have d10 := d8.trans (h810.mono (by omega))
  have B10 : Below w.heap.size w w10 := hB0.trans (b10.mono (by omega))
  have hA15 := hid (hA12.out.later h810)
  have hF10 : ∀ x, Below w10.heap.size w10 (Fam w10.heap.size w10 x) := fun x => Fam.below _ _ x
  have y0 := fun x => hY0 _ (d10.trans ((hF10 x).mono (by omega)))
  have y1 := fun x => hY1 _ (d10.trans ((hF10 x).mono (by omega)))
  have y2 := fun x => hY2 _ (d10.trans ((hF10 x).mono (by omega)))
  have u0 := fun x => hU 0 _ rfl _ (b10.trans ((hF10 x).mono (by omega)))
  have u1 := fun x => hU 1 _ rfl _ (b10.trans ((hF10 x).mono (by omega)))
  have u2 := fun x => hU 2 _ rfl _ (b10.trans ((hF10 x).mono (by omega)))
  have hs10 := hid (hs.out.later B10)
  replace hF10 := hid hF10
  go_wp2_with fail
  refine wp_region_grow 3 w10.heap.size w10 (fun _ u w' => ∃ A2, u = t.val A2 t.es.length ∧ EdsAt w' w'.heap.size A2 t.es) (by kernel_rfl) (by kernel_rfl) (Nat.le_refl _) (Below.refl _ _) ?_
  simp only [List.take_succ_cons, List.take_zero, List.drop_succ_cons, List.drop_zero]
  (repeat (refine grow_quiet (by rfl) (by rfl) (by rfl) ?_; intro K hK; go_big_quiet_op; go_big_quiet_on))
  refine grow_call (by rfl) (by rfl) (fun u v v' hb h => ?_) (fun wq hbq _ => ?_) fun u hu => ?_
  · obtain ⟨g, e, h⟩ := h
    exact ⟨g, e, h.later hb⟩
  · go_simp
    refine ⟨rfl, (toSystem_any t B d wq hn2 hm hd (hs10.out.later hbq)).mono ?_⟩
    rintro e w3 ⟨A3, rfl, hA3, -, hb3⟩
    exact ⟨_, rfl, hb3, A3, rfl, hA3⟩
  obtain ⟨wx3, -, A16, rfl, -⟩ := hu
  simp only [Act.put, List.setIfInBounds_toArray, List.set_cons_zero, List.set_cons_succ]
  refine grow_nil ?_
  intro w11 hb11 hf
  obtain ⟨_, e16, hA16⟩ := hf _ List.mem_cons_self
  cases e16
  clear hf y0 y1 y2 u0 u1 u2
  have hA16' := hid hA16
  clear hA16
  have hA17 := hid (hA15.out.later hb11)
  have z11 := hb11.size
  unfold Sy.val
  go_wp2_with fail
  refine (eqSystem_any t t A7 A16 t.es.length t.es.length w11 (Nat.le_refl _) (by omega) (Nat.le_refl _) (by omega) hA17.out hA16'.out).mono ?_
  rintro e w12 ⟨rfl, hb12⟩
  rw [decide_eq_true (show t = t from rfl)]
  have B12 : Below w.heap.size w w12 := B10.trans ((hb11.trans (hb12.mono z11)).mono (by omega))
  go_wp2_with fail
  go_ret
  exact ⟨rfl, B12⟩

set_option maxRecDepth 100000 in
set_option maxHeartbeats 4000000 in
theorem FnExactTracesWithin_any (s t : Sy) (A B : Option Addr) (c d : Nat) (w : World) (hl : s.es.length ≤ c) (hc : c ≤ 9223372036854775807) (hm : t.es.length ≤ d) (hd : d ≤ 9223372036854775807) (hT : Tab w) (hr : EdsAt w w.heap.size A s.es) (hs : EdsAt w w.heap.size B t.es) :
    Calls Tryd.prog 5 #[s.val A c, t.val B d] w fun e w' => e = .returned (.bool true) ∧ Below w.heap.size w w' := by
  unfold Sy.val
  replace hr := hid hr
  replace hs := hid hs
  replace hT := hid hT
  go_enter Tryd.func5, Tryd.ntmps5
  go_wp2_with fail
  obtain ⟨w0, hw0, hz0, hB0, hS, hU⟩ := boxed2 w #[Value.int IntKind.i64 s.al, Value.int IntKind.i64 s.st, Value.slice A s.es.length c] 24 #[Value.int IntKind.i64 t.al, Value.int IntKind.i64 t.st, Value.slice B t.es.length d] 24
  rw [hw0]
  clear hw0
  have p0 := hS 0 _ rfl _ (Below.refl _ _)
  have p1 := hS 1 _ rfl _ (Below.refl _ _)
  have p2 := hS 2 _ rfl _ (Below.refl _ _)
  go_wp2_with fail
  refine (szSystem_any s A c 1048576 w0 (by omega) (by omega) (by omega)).mono ?_
  rintro e w1 ⟨rfl, hb1⟩
  have b1 := hb1.mono hz0
  clear p0 p1 p2
  have B1 : Below w.heap.size w w1 := hB0.trans (b1.mono (by omega))
  by_cases hsz : sz1 s.es.length 1048576 < 0
  · go_wp2_with fail
    go_ret
    exact ⟨rfl, B1⟩
  have hn : s.es.length ≤ 1048576 := by unfold sz1 at hsz; split at hsz <;> omega
  obtain ⟨left, hleft⟩ : ∃ left, left = sz1 s.es.length 1048576 := ⟨_, rfl⟩
  have hl0 : 0 ≤ left ∧ left ≤ 1048576 := by rw [hleft]; unfold sz1 at hsz ⊢; split at hsz <;> omega
  rw [← hleft] at hsz ⊢
  replace hleft := hid hleft
  have q0 := hU 0 _ rfl _ b1
  have q1 := hU 1 _ rfl _ b1
  have q2 := hU 2 _ rfl _ b1
  go_wp2_with fail
  refine (szSystem_any t B d left w1 (by omega) (by omega) (by omega)).mono ?_
  rintro e w2 ⟨rfl, hb2⟩
  have z1 := hb1.size
  have z2 := hb2.size
  have b2 := b1.trans (hb2.mono (by omega))
  clear q0 q1 q2
  have B2 : Below w.heap.size w w2 := hB0.trans (b2.mono (by omega))
  by_cases hsz2 : sz1 t.es.length left < 0
  · go_wp2_with fail
    go_ret
    exact ⟨rfl, B2⟩
  have hn2 : t.es.length ≤ 1048576 := by unfold sz1 at hsz2; split at hsz2 <;> omega
  have hFb : ∀ x, Below (w.heap.size + 2) w0 (Fam w2.heap.size w2 x) := fun x => b2.trans ((Fam.below _ _ x).mono (by omega))
  have y0 := fun x => hS 0 _ rfl _ (hFb x)
  have y1 := fun x => hS 1 _ rfl _ (hFb x)
  have y2 := fun x => hS 2 _ rfl _ (hFb x)
  have u0 := fun x => hU 0 _ rfl _ (hFb x)
  have u1 := fun x => hU 1 _ rfl _ (hFb x)
  have u2 := fun x => hU 2 _ rfl _ (hFb x)
  have hr2 := hid (hr.out.later B2)
  have hs2 := hid (hs.out.later B2)
  have hT2 := hid (hT.out.later B2)
  replace hFb := hid hFb
  go_wp2_with fail
  refine wp_region_grow 6 w2.heap.size w2 (fun i u w' => if i = 1 then ∃ A2, u = s.val A2 s.es.length ∧ EdsAt w' w'.heap.size A2 s.es else if i = 3 then ∃ A2, u = t.val A2 t.es.length ∧ EdsAt w' w'.heap.size A2 t.es else u = .bool (withinB s t)) (by kernel_rfl) (by kernel_rfl) (Nat.le_refl _) (Below.refl _ _) ?_
  simp only [List.take_succ_cons, List.take_zero, List.drop_succ_cons, List.drop_zero]
  (repeat (refine grow_quiet (by rfl) (by rfl) (by rfl) ?_; intro K hK; go_big_quiet_op; go_big_quiet_on))
  refine grow_call (by rfl) (by rfl) (fun u v v' hb h => ?_) (fun wq hbq _ => ?_) fun u hu => ?_
  · obtain ⟨g, e, h⟩ := h
    exact ⟨g, e, h.later hb⟩
  · go_simp
    refine ⟨rfl, (toSystem_any s A c wq hn hl hc (hr2.out.later hbq)).mono ?_⟩
    rintro e w3 ⟨A3, rfl, hA3, -, hb3⟩
    exact ⟨_, rfl, hb3, A3, rfl, hA3⟩
  obtain ⟨wx, -, A3, rfl, -⟩ := hu
  simp only [Act.put, List.setIfInBounds_toArray, List.set_cons_zero, List.set_cons_succ]
  (repeat (refine grow_quiet (by rfl) (by rfl) (by rfl) ?_; intro K hK; go_big_quiet_op; go_big_quiet_on))
  refine grow_call (by rfl) (by rfl) (fun u v v' hb h => ?_) (fun wq hbq _ => ?_) fun u hu => ?_
  · obtain ⟨g, e, h⟩ := h
    exact ⟨g, e, h.later hb⟩
  · go_simp
    refine ⟨rfl, (toSystem_any t B d wq hn2 hm hd (hs2.out.later hbq)).mono ?_⟩
    rintro e w3 ⟨A3, rfl, hA3, -, hb3⟩
    exact ⟨_, rfl, hb3, A3, rfl, hA3⟩
  obtain ⟨wx', -, A4, rfl, -⟩ := hu
  simp only [Act.put, List.setIfInBounds_toArray, List.set_cons_zero, List.set_cons_succ]
  (repeat (refine grow_quiet (by rfl) (by rfl) (by rfl) ?_; intro K hK; go_big_quiet_op; go_big_quiet_on))
  refine grow_call (by rfl) (by rfl) (fun u v v' hb h => h) (fun wq hbq hfx => ?_) fun u hu => ?_
  · obtain ⟨_, e4, h4⟩ := hfx _ List.mem_cons_self (by kernel_rfl)
    cases e4
    obtain ⟨_, e3, h3⟩ := hfx _ (List.mem_cons_of_mem _ List.mem_cons_self) (by kernel_rfl)
    cases e3
    have h3' := hid h3
    have h4' := hid h4
    clear h3 h4 hfx
    go_simp
    refine ⟨rfl, (specTracesWithin_any s t A3 A4 _ _ wq (Nat.le_refl _) (by omega) (Nat.le_refl _) (by omega) h3'.out h4'.out).mono ?_⟩
    rintro e w4 ⟨rfl, hb4⟩
    first | exact ⟨_, rfl, hb4, rfl⟩ | exact ⟨rfl, hb4⟩ | exact ⟨hb4, rfl⟩ | exact hb4
  obtain ⟨wx2, -, rfl⟩ := hu
  generalize hW : withinB s t = W
  replace hW := hid hW
  simp only [Act.put, List.setIfInBounds_toArray, List.set_cons_zero, List.set_cons_succ]
  (repeat (refine grow_quiet (by rfl) (by rfl) (by rfl) ?_; intro K hK; go_big_quiet_op; go_big_quiet_on))
  refine grow_nil ?_
  intro w3 hb3 hf
  clear hf y0 y1 y2 u0 u1 u2
  have b3 := b2.trans (hb3.mono (by omega))
  have z3 := hb3.size
  have B3 : Below w.heap.size w w3 := hB0.trans (b3.mono (by omega))
  have p0 := hS 0 _ rfl _ b3
  have p1 := hS 1 _ rfl _ b3
  have p2 := hS 2 _ rfl _ b3
  have hr3 := hid (hr.out.later B3)
  have hs3 := hid (hs.out.later B3)
  go_wp2_with fail
  refine (toSystem_any s A c w3 hn hl hc hr3.out).mono ?_
  rintro e w4 ⟨A5, rfl, hA5, -, hb4⟩
  have z4 := hb4.size
  have b4 := b3.trans (hb4.mono (by omega))
  replace hA5 := hid hA5
  clear p0 p1 p2
  unfold Sy.val
  obtain ⟨w5, hw5, hz5, hB5, hX0, hX1, hX2⟩ := boxed3 w4 (Value.int IntKind.i64 s.al) (Value.int IntKind.i64 s.st) (Value.slice A5 s.es.length s.es.length) 29
  have b5 := b4.trans (hB5.mono (by omega))
  have B5 : Below w.heap.size w w5 := hB0.trans (b5.mono (by omega))
  have q0 := hU 0 _ rfl _ b5
  have q1 := hU 1 _ rfl _ b5
  have q2 := hU 2 _ rfl _ b5
  rw [← hw5] at q0 q1 q2
  replace hw5 := hid hw5
  go_wp2_with fail
  rw [hw5.out]
  clear q0 q1 q2
  have hs5 := hid (hs.out.later B5)
  have hA6 := hid (hA5.out.later hB5)
  refine (toSystem_any t B d w5 hn2 hm hd hs5.out).mono ?_
  rintro e w6 ⟨A7, rfl, hA7, -, hb6⟩
  have z6 := hb6.size
  have b6 := b5.trans (hb6.mono (by omega))
  have c6 := hb6.mono hz5
  replace hA7 := hid hA7
  have hA8 := hid (hA6.out.later hb6)
  unfold Sy.val
  obtain ⟨w7, hw7, hz7, hB7, hY0, hY1, hY2⟩ := boxed3 w6 (Value.int IntKind.i64 t.al) (Value.int IntKind.i64 t.st) (Value.slice A7 t.es.length t.es.length) 29
  have b7 := b6.trans (hB7.mono (by omega))
  have c7 := c6.trans (hB7.mono (by omega))
  have B7 : Below w.heap.size w w7 := hB0.trans (b7.mono (by omega))
  have hA9 := hid (hA8.out.later hB7)
  have hA10 := hid (hA7.out.later hB7)
  have hT7 := hid (hT.out.later B7)
  have e0 := hX0 _ c7
  have e1 := hX1 _ c7
  have e2 := hX2 _ c7
  have f0 := hY0 _ (Below.refl _ _)
  have f1 := hY1 _ (Below.refl _ _)
  have f2 := hY2 _ (Below.refl _ _)
  rw [← hw7] at e0 e1 e2 f0 f1 f2
  replace hw7 := hid hw7
  go_wp2_with fail
  rw [hw7.out]
  clear e0 e1 e2 f0 f1 f2
  refine (implTracesWithin_any s t A5 A7 _ _ w7 (Nat.le_refl _) (by omega) (Nat.le_refl _) (by omega) hT7.out hA9.out hA10.out).mono ?_
  rintro e w8 ⟨he, hb8⟩
  rw [hW.out] at he
  subst he
  have z8 := hb8.size
  have b8 := b7.trans (hb8.mono (by omega))
  have c8 := c7.trans (hb8.mono (by omega))
  have d8 := hb8.mono hz7
  have B8 : Below w.heap.size w w8 := hB0.trans (b8.mono (by omega))
  have hA11 := hid (hA9.out.later hb8)
  have hA12 := hid (hA10.out.later hb8)
  have hF8 : ∀ x, Below w8.heap.size w8 (Fam w8.heap.size w8 x) := fun x => Fam.below _ _ x
  have y0 := fun x => hX0 _ (c8.trans ((hF8 x).mono (by omega)))
  have y1 := fun x => hX1 _ (c8.trans ((hF8 x).mono (by omega)))
  have y2 := fun x => hX2 _ (c8.trans ((hF8 x).mono (by omega)))
  have u0 := fun x => hS 0 _ rfl _ (b8.trans ((hF8 x).mono (by omega)))
  have u1 := fun x => hS 1 _ rfl _ (b8.trans ((hF8 x).mono (by omega)))
  have u2 := fun x => hS 2 _ rfl _ (b8.trans ((hF8 x).mono (by omega)))
  have hr8 := hid (hr.out.later B8)
  replace hF8 := hid hF8
  go_wp2_with fail
  refine wp_region_grow 3 w8.heap.size w8 (fun _ u w' => ∃ A2, u = s.val A2 s.es.length ∧ EdsAt w' w'.heap.size A2 s.es) (by kernel_rfl) (by kernel_rfl) (Nat.le_refl _) (Below.refl _ _) ?_
  simp only [List.take_succ_cons, List.take_zero, List.drop_succ_cons, List.drop_zero]
  (repeat (refine grow_quiet (by rfl) (by rfl) (by rfl) ?_; intro K hK; go_big_quiet_op; go_big_quiet_on))
  refine grow_call (by rfl) (by rfl) (fun u v v' hb h => ?_) (fun wq hbq _ => ?_) fun u hu => ?_
  · obtain ⟨g, e, h⟩ := h
    exact ⟨g, e, h.later hb⟩
  · go_simp
    refine ⟨rfl, (toSystem_any s A c wq hn hl hc (hr8.out.later hbq)).mono ?_⟩
    rintro e w3 ⟨A3, rfl, hA3, -, hb3⟩
    exact ⟨_, rfl, hb3, A3, rfl, hA3⟩
  obtain ⟨wx2, -, A13, rfl, -⟩ := hu
  simp only [Act.put, List.setIfInBounds_toArray, List.set_cons_zero, List.set_cons_succ]
  refine grow_nil ?_
  intro w9 hb9 hf
  obtain ⟨_, e13, hA13⟩ := hf _ List.mem_cons_self
  cases e13
  clear hf y0 y1 y2 u0 u1 u2
  have hA13' := hid hA13
  clear hA13
  have hA14 := hid (hA11.out.later hb9)
  have z9 := hb9.size
  unfold Sy.val
  go_wp2_with fail
  refine (eqSystem_any s s A5 A13 s.es.length s.es.length w9 (Nat.le_refl _) (by omega) (Nat.le_refl _) (by omega) hA14.out hA13'.out).mono ?_
  rintro e w10 ⟨rfl, hb10⟩
  rw [decide_eq_true (show s = s from rfl)]
  have z10 := hb10.size
  have h810 : Below w8.heap.size w8 w10 := hb9.trans (hb10.mono z9)
  have b10 := b8.trans (h810.mono (by omega))
  have d10 := d8.trans (h810.mono (by omega))
  have B10 : Below w.heap.size w w10 := hB0.trans (b10.mono (by omega))
  have hA15 := hid (hA12.out.later h810)
  have hF10 : ∀ x, Below w10.heap.size w10 (Fam w10.heap.size w10 x) := fun x => Fam.below _ _ x
  have y0 := fun x => hY0 _ (d10.trans ((hF10 x).mono (by omega)))
  have y1 := fun x => hY1 _ (d10.trans ((hF10 x).mono (by omega)))
  have y2 := fun x => hY2 _ (d10.trans ((hF10 x).mono (by omega)))
  have u0 := fun x => hU 0 _ rfl _ (b10.trans ((hF10 x).mono (by omega)))
  have u1 := fun x => hU 1 _ rfl _ (b10.trans ((hF10 x).mono (by omega)))
  have u2 := fun x => hU 2 _ rfl _ (b10.trans ((hF10 x).mono (by omega)))
  have hs10 := hid (hs.out.later B10)
  replace hF10 := hid hF10
  go_wp2_with fail
  refine wp_region_grow 3 w10.heap.size w10 (fun _ u w' => ∃ A2, u = t.val A2 t.es.length ∧ EdsAt w' w'.heap.size A2 t.es) (by kernel_rfl) (by kernel_rfl) (Nat.le_refl _) (Below.refl _ _) ?_
  simp only [List.take_succ_cons, List.take_zero, List.drop_succ_cons, List.drop_zero]
  (repeat (refine grow_quiet (by rfl) (by rfl) (by rfl) ?_; intro K hK; go_big_quiet_op; go_big_quiet_on))
  refine grow_call (by rfl) (by rfl) (fun u v v' hb h => ?_) (fun wq hbq _ => ?_) fun u hu => ?_
  · obtain ⟨g, e, h⟩ := h
    exact ⟨g, e, h.later hb⟩
  · go_simp
    refine ⟨rfl, (toSystem_any t B d wq hn2 hm hd (hs10.out.later hbq)).mono ?_⟩
    rintro e w3 ⟨A3, rfl, hA3, -, hb3⟩
    exact ⟨_, rfl, hb3, A3, rfl, hA3⟩
  obtain ⟨wx3, -, A16, rfl, -⟩ := hu
  simp only [Act.put, List.setIfInBounds_toArray, List.set_cons_zero, List.set_cons_succ]
  refine grow_nil ?_
  intro w11 hb11 hf
  obtain ⟨_, e16, hA16⟩ := hf _ List.mem_cons_self
  cases e16
  clear hf y0 y1 y2 u0 u1 u2
  have hA16' := hid hA16
  clear hA16
  have hA17 := hid (hA15.out.later hb11)
  have z11 := hb11.size
  unfold Sy.val
  go_wp2_with fail
  refine (eqSystem_any t t A7 A16 t.es.length t.es.length w11 (Nat.le_refl _) (by omega) (Nat.le_refl _) (by omega) hA17.out hA16'.out).mono ?_
  rintro e w12 ⟨rfl, hb12⟩
  rw [decide_eq_true (show t = t from rfl)]
  have B12 : Below w.heap.size w w12 := B10.trans ((hb11.trans (hb12.mono z11)).mono (by omega))
  go_wp2_with fail
  go_ret
  exact ⟨rfl, B12⟩

set_option maxRecDepth 100000 in
set_option maxHeartbeats 4000000 in
theorem FnExactSameTraces_any (s t : Sy) (A B : Option Addr) (c d : Nat) (w : World) (hl : s.es.length ≤ c) (hc : c ≤ 9223372036854775807) (hm : t.es.length ≤ d) (hd : d ≤ 9223372036854775807) (hT : Tab w) (hr : EdsAt w w.heap.size A s.es) (hs : EdsAt w w.heap.size B t.es) :
    Calls Tryd.prog 6 #[s.val A c, t.val B d] w fun e w' => e = .returned (.bool true) ∧ Below w.heap.size w w' := by
  unfold Sy.val
  replace hr := hid hr
  replace hs := hid hs
  replace hT := hid hT
  go_enter Tryd.func6, Tryd.ntmps6
  go_wp2_with fail
  obtain ⟨w0, hw0, hz0, hB0, hS, hU⟩ := boxed2 w #[Value.int IntKind.i64 s.al, Value.int IntKind.i64 s.st, Value.slice A s.es.length c] 24 #[Value.int IntKind.i64 t.al, Value.int IntKind.i64 t.st, Value.slice B t.es.length d] 24
  rw [hw0]
  clear hw0
  have p0 := hS 0 _ rfl _ (Below.refl _ _)
  have p1 := hS 1 _ rfl _ (Below.refl _ _)
  have p2 := hS 2 _ rfl _ (Below.refl _ _)
  go_wp2_with fail
  refine (szSystem_any s A c 1048576 w0 (by omega) (by omega) (by omega)).mono ?_
  rintro e w1 ⟨rfl, hb1⟩
  have b1 := hb1.mono hz0
  clear p0 p1 p2
  have B1 : Below w.heap.size w w1 := hB0.trans (b1.mono (by omega))
  by_cases hsz : sz1 s.es.length 1048576 < 0
  · go_wp2_with fail
    go_ret
    exact ⟨rfl, B1⟩
  have hn : s.es.length ≤ 1048576 := by unfold sz1 at hsz; split at hsz <;> omega
  obtain ⟨left, hleft⟩ : ∃ left, left = sz1 s.es.length 1048576 := ⟨_, rfl⟩
  have hl0 : 0 ≤ left ∧ left ≤ 1048576 := by rw [hleft]; unfold sz1 at hsz ⊢; split at hsz <;> omega
  rw [← hleft] at hsz ⊢
  replace hleft := hid hleft
  have q0 := hU 0 _ rfl _ b1
  have q1 := hU 1 _ rfl _ b1
  have q2 := hU 2 _ rfl _ b1
  go_wp2_with fail
  refine (szSystem_any t B d left w1 (by omega) (by omega) (by omega)).mono ?_
  rintro e w2 ⟨rfl, hb2⟩
  have z1 := hb1.size
  have z2 := hb2.size
  have b2 := b1.trans (hb2.mono (by omega))
  clear q0 q1 q2
  have B2 : Below w.heap.size w w2 := hB0.trans (b2.mono (by omega))
  by_cases hsz2 : sz1 t.es.length left < 0
  · go_wp2_with fail
    go_ret
    exact ⟨rfl, B2⟩
  have hn2 : t.es.length ≤ 1048576 := by unfold sz1 at hsz2; split at hsz2 <;> omega
  have hFb : ∀ x, Below (w.heap.size + 2) w0 (Fam w2.heap.size w2 x) := fun x => b2.trans ((Fam.below _ _ x).mono (by omega))
  have y0 := fun x => hS 0 _ rfl _ (hFb x)
  have y1 := fun x => hS 1 _ rfl _ (hFb x)
  have y2 := fun x => hS 2 _ rfl _ (hFb x)
  have u0 := fun x => hU 0 _ rfl _ (hFb x)
  have u1 := fun x => hU 1 _ rfl _ (hFb x)
  have u2 := fun x => hU 2 _ rfl _ (hFb x)
  have hr2 := hid (hr.out.later B2)
  have hs2 := hid (hs.out.later B2)
  have hT2 := hid (hT.out.later B2)
  replace hFb := hid hFb
  go_wp2_with fail
  refine wp_region_grow 6 w2.heap.size w2 (fun i u w' => if i = 1 then ∃ A2, u = s.val A2 s.es.length ∧ EdsAt w' w'.heap.size A2 s.es else if i = 3 then ∃ A2, u = t.val A2 t.es.length ∧ EdsAt w' w'.heap.size A2 t.es else u = .bool (sameB s t)) (by kernel_rfl) (by kernel_rfl) (Nat.le_refl _) (Below.refl _ _) ?_
  simp only [List.take_succ_cons, List.take_zero, List.drop_succ_cons, List.drop_zero]
  (repeat (refine grow_quiet (by rfl) (by rfl) (by rfl) ?_; intro K hK; go_big_quiet_op; go_big_quiet_on))
  refine grow_call (by rfl) (by rfl) (fun u v v' hb h => ?_) (fun wq hbq _ => ?_) fun u hu => ?_
  · obtain ⟨g, e, h⟩ := h
    exact ⟨g, e, h.later hb⟩
  · go_simp
    refine ⟨rfl, (toSystem_any s A c wq hn hl hc (hr2.out.later hbq)).mono ?_⟩
    rintro e w3 ⟨A3, rfl, hA3, -, hb3⟩
    exact ⟨_, rfl, hb3, A3, rfl, hA3⟩
  obtain ⟨wx, -, A3, rfl, -⟩ := hu
  simp only [Act.put, List.setIfInBounds_toArray, List.set_cons_zero, List.set_cons_succ]
  (repeat (refine grow_quiet (by rfl) (by rfl) (by rfl) ?_; intro K hK; go_big_quiet_op; go_big_quiet_on))
  refine grow_call (by rfl) (by rfl) (fun u v v' hb h => ?_) (fun wq hbq _ => ?_) fun u hu => ?_
  · obtain ⟨g, e, h⟩ := h
    exact ⟨g, e, h.later hb⟩
  · go_simp
    refine ⟨rfl, (toSystem_any t B d wq hn2 hm hd (hs2.out.later hbq)).mono ?_⟩
    rintro e w3 ⟨A3, rfl, hA3, -, hb3⟩
    exact ⟨_, rfl, hb3, A3, rfl, hA3⟩
  obtain ⟨wx', -, A4, rfl, -⟩ := hu
  simp only [Act.put, List.setIfInBounds_toArray, List.set_cons_zero, List.set_cons_succ]
  (repeat (refine grow_quiet (by rfl) (by rfl) (by rfl) ?_; intro K hK; go_big_quiet_op; go_big_quiet_on))
  refine grow_call (by rfl) (by rfl) (fun u v v' hb h => h) (fun wq hbq hfx => ?_) fun u hu => ?_
  · obtain ⟨_, e4, h4⟩ := hfx _ List.mem_cons_self (by kernel_rfl)
    cases e4
    obtain ⟨_, e3, h3⟩ := hfx _ (List.mem_cons_of_mem _ List.mem_cons_self) (by kernel_rfl)
    cases e3
    have h3' := hid h3
    have h4' := hid h4
    clear h3 h4 hfx
    go_simp
    refine ⟨rfl, (specSameTraces_any s t A3 A4 _ _ wq (Nat.le_refl _) (by omega) (Nat.le_refl _) (by omega) h3'.out h4'.out).mono ?_⟩
    rintro e w4 ⟨rfl, hb4⟩
    first | exact ⟨_, rfl, hb4, rfl⟩ | exact ⟨rfl, hb4⟩ | exact ⟨hb4, rfl⟩ | exact hb4
  obtain ⟨wx2, -, rfl⟩ := hu
  generalize hW : sameB s t = W
  replace hW := hid hW
  simp only [Act.put, List.setIfInBounds_toArray, List.set_cons_zero, List.set_cons_succ]
  (repeat (refine grow_quiet (by rfl) (by rfl) (by rfl) ?_; intro K hK; go_big_quiet_op; go_big_quiet_on))
  refine grow_nil ?_
  intro w3 hb3 hf
  clear hf y0 y1 y2 u0 u1 u2
  have b3 := b2.trans (hb3.mono (by omega))
  have z3 := hb3.size
  have B3 : Below w.heap.size w w3 := hB0.trans (b3.mono (by omega))
  have p0 := hS 0 _ rfl _ b3
  have p1 := hS 1 _ rfl _ b3
  have p2 := hS 2 _ rfl _ b3
  have hr3 := hid (hr.out.later B3)
  have hs3 := hid (hs.out.later B3)
  go_wp2_with fail
  refine (toSystem_any s A c w3 hn hl hc hr3.out).mono ?_
  rintro e w4 ⟨A5, rfl, hA5, -, hb4⟩
  have z4 := hb4.size
  have b4 := b3.trans (hb4.mono (by omega))
  replace hA5 := hid hA5
  clear p0 p1 p2
  unfold Sy.val
  obtain ⟨w5, hw5, hz5, hB5, hX0, hX1, hX2⟩ := boxed3 w4 (Value.int IntKind.i64 s.al) (Value.int IntKind.i64 s.st) (Value.slice A5 s.es.length s.es.length) 29
  have b5 := b4.trans (hB5.mono (by omega))
  have B5 : Below w.heap.size w w5 := hB0.trans (b5.mono (by omega))
  have q0 := hU 0 _ rfl _ b5
  have q1 := hU 1 _ rfl _ b5
  have q2 := hU 2 _ rfl _ b5
  rw [← hw5] at q0 q1 q2
  replace hw5 := hid hw5
  go_wp2_with fail
  rw [hw5.out]
  clear q0 q1 q2
  have hs5 := hid (hs.out.later B5)
  have hA6 := hid (hA5.out.later hB5)
  refine (toSystem_any t B d w5 hn2 hm hd hs5.out).mono ?_
  rintro e w6 ⟨A7, rfl, hA7, -, hb6⟩
  have z6 := hb6.size
  have b6 := b5.trans (hb6.mono (by omega))
  have c6 := hb6.mono hz5
  replace hA7 := hid hA7
  have hA8 := hid (hA6.out.later hb6)
  unfold Sy.val
  obtain ⟨w7, hw7, hz7, hB7, hY0, hY1, hY2⟩ := boxed3 w6 (Value.int IntKind.i64 t.al) (Value.int IntKind.i64 t.st) (Value.slice A7 t.es.length t.es.length) 29
  have b7 := b6.trans (hB7.mono (by omega))
  have c7 := c6.trans (hB7.mono (by omega))
  have B7 : Below w.heap.size w w7 := hB0.trans (b7.mono (by omega))
  have hA9 := hid (hA8.out.later hB7)
  have hA10 := hid (hA7.out.later hB7)
  have hT7 := hid (hT.out.later B7)
  have e0 := hX0 _ c7
  have e1 := hX1 _ c7
  have e2 := hX2 _ c7
  have f0 := hY0 _ (Below.refl _ _)
  have f1 := hY1 _ (Below.refl _ _)
  have f2 := hY2 _ (Below.refl _ _)
  rw [← hw7] at e0 e1 e2 f0 f1 f2
  replace hw7 := hid hw7
  go_wp2_with fail
  rw [hw7.out]
  clear e0 e1 e2 f0 f1 f2
  refine (implSameTraces_any s t A5 A7 _ _ w7 (Nat.le_refl _) (by omega) (Nat.le_refl _) (by omega) hT7.out hA9.out hA10.out).mono ?_
  rintro e w8 ⟨he, hb8⟩
  rw [hW.out] at he
  subst he
  have z8 := hb8.size
  have b8 := b7.trans (hb8.mono (by omega))
  have c8 := c7.trans (hb8.mono (by omega))
  have d8 := hb8.mono hz7
  have B8 : Below w.heap.size w w8 := hB0.trans (b8.mono (by omega))
  have hA11 := hid (hA9.out.later hb8)
  have hA12 := hid (hA10.out.later hb8)
  have hF8 : ∀ x, Below w8.heap.size w8 (Fam w8.heap.size w8 x) := fun x => Fam.below _ _ x
  have y0 := fun x => hX0 _ (c8.trans ((hF8 x).mono (by omega)))
  have y1 := fun x => hX1 _ (c8.trans ((hF8 x).mono (by omega)))
  have y2 := fun x => hX2 _ (c8.trans ((hF8 x).mono (by omega)))
  have u0 := fun x => hS 0 _ rfl _ (b8.trans ((hF8 x).mono (by omega)))
  have u1 := fun x => hS 1 _ rfl _ (b8.trans ((hF8 x).mono (by omega)))
  have u2 := fun x => hS 2 _ rfl _ (b8.trans ((hF8 x).mono (by omega)))
  have hr8 := hid (hr.out.later B8)
  replace hF8 := hid hF8
  go_wp2_with fail
  refine wp_region_grow 3 w8.heap.size w8 (fun _ u w' => ∃ A2, u = s.val A2 s.es.length ∧ EdsAt w' w'.heap.size A2 s.es) (by kernel_rfl) (by kernel_rfl) (Nat.le_refl _) (Below.refl _ _) ?_
  simp only [List.take_succ_cons, List.take_zero, List.drop_succ_cons, List.drop_zero]
  (repeat (refine grow_quiet (by rfl) (by rfl) (by rfl) ?_; intro K hK; go_big_quiet_op; go_big_quiet_on))
  refine grow_call (by rfl) (by rfl) (fun u v v' hb h => ?_) (fun wq hbq _ => ?_) fun u hu => ?_
  · obtain ⟨g, e, h⟩ := h
    exact ⟨g, e, h.later hb⟩
  · go_simp
    refine ⟨rfl, (toSystem_any s A c wq hn hl hc (hr8.out.later hbq)).mono ?_⟩
    rintro e w3 ⟨A3, rfl, hA3, -, hb3⟩
    exact ⟨_, rfl, hb3, A3, rfl, hA3⟩
  obtain ⟨wx2, -, A13, rfl, -⟩ := hu
  simp only [Act.put, List.setIfInBounds_toArray, List.set_cons_zero, List.set_cons_succ]
  refine grow_nil ?_
  intro w9 hb9 hf
  obtain ⟨_, e13, hA13⟩ := hf _ List.mem_cons_self
  cases e13
  clear hf y0 y1 y2 u0 u1 u2
  have hA13' := hid hA13
  clear hA13
  have hA14 := hid (hA11.out.later hb9)
  have z9 := hb9.size
  unfold Sy.val
  go_wp2_with fail
  refine (eqSystem_any s s A5 A13 s.es.length s.es.length w9 (Nat.le_refl _) (by omega) (Nat.le_refl _) (by omega) hA14.out hA13'.out).mono ?_
  rintro e w10 ⟨rfl, hb10⟩
  rw [decide_eq_true (show s = s from rfl)]
  have z10 := hb10.size
  have h810 : Below w8.heap.size w8 w10 := hb9.trans (hb10.mono z9)
  have b10 := b8.trans (h810.mono (by omega))
  have d10 := d8.trans (h810.mono (by omega))
  have B10 : Below w.heap.size w w10 := hB0.trans (b10.mono (by omega))
  have hA15 := hid (hA12.out.later h810)
  have hF10 : ∀ x, Below w10.heap.size w10 (Fam w10.heap.size w10 x) := fun x => Fam.below _ _ x
  have y0 := fun x => hY0 _ (d10.trans ((hF10 x).mono (by omega)))
  have y1 := fun x => hY1 _ (d10.trans ((hF10 x).mono (by omega)))
  have y2 := fun x => hY2 _ (d10.trans ((hF10 x).mono (by omega)))
  have u0 := fun x => hU 0 _ rfl _ (b10.trans ((hF10 x).mono (by omega)))
  have u1 := fun x => hU 1 _ rfl _ (b10.trans ((hF10 x).mono (by omega)))
  have u2 := fun x => hU 2 _ rfl _ (b10.trans ((hF10 x).mono (by omega)))
  have hs10 := hid (hs.out.later B10)
  replace hF10 := hid hF10
  go_wp2_with fail
  refine wp_region_grow 3 w10.heap.size w10 (fun _ u w' => ∃ A2, u = t.val A2 t.es.length ∧ EdsAt w' w'.heap.size A2 t.es) (by kernel_rfl) (by kernel_rfl) (Nat.le_refl _) (Below.refl _ _) ?_
  simp only [List.take_succ_cons, List.take_zero, List.drop_succ_cons, List.drop_zero]
  (repeat (refine grow_quiet (by rfl) (by rfl) (by rfl) ?_; intro K hK; go_big_quiet_op; go_big_quiet_on))
  refine grow_call (by rfl) (by rfl) (fun u v v' hb h => ?_) (fun wq hbq _ => ?_) fun u hu => ?_
  · obtain ⟨g, e, h⟩ := h
    exact ⟨g, e, h.later hb⟩
  · go_simp
    refine ⟨rfl, (toSystem_any t B d wq hn2 hm hd (hs10.out.later hbq)).mono ?_⟩
    rintro e w3 ⟨A3, rfl, hA3, -, hb3⟩
    exact ⟨_, rfl, hb3, A3, rfl, hA3⟩
  obtain ⟨wx3, -, A16, rfl, -⟩ := hu
  simp only [Act.put, List.setIfInBounds_toArray, List.set_cons_zero, List.set_cons_succ]
  refine grow_nil ?_
  intro w11 hb11 hf
  obtain ⟨_, e16, hA16⟩ := hf _ List.mem_cons_self
  cases e16
  clear hf y0 y1 y2 u0 u1 u2
  have hA16' := hid hA16
  clear hA16
  have hA17 := hid (hA15.out.later hb11)
  have z11 := hb11.size
  unfold Sy.val
  go_wp2_with fail
  refine (eqSystem_any t t A7 A16 t.es.length t.es.length w11 (Nat.le_refl _) (by omega) (Nat.le_refl _) (by omega) hA17.out hA16'.out).mono ?_
  rintro e w12 ⟨rfl, hb12⟩
  rw [decide_eq_true (show t = t from rfl)]
  have B12 : Below w.heap.size w w12 := B10.trans ((hb11.trans (hb12.mono z11)).mono (by omega))
  go_wp2_with fail
  go_ret
  exact ⟨rfl, B12⟩

end Go.Proofs.YtnchoiljcdicdaaDoor
