/- Lemmas, part 18: several texts in one. -/
import Derived.Test.YtempjhgajcdibaaDoorK17
import Derived.Test.YtempjhgajcdibaaDoorK8
import Derived.Test.YtempjhgajcdibaaDoorK10
import Derived.Test.YtempjhgajcdibaaDoorK3
set_option linter.unusedSimpArgs false
set_option linter.unusedVariables false

/- The law FnSameTrim. -/
namespace Go.Proofs.YtempjhgajcdibaaDoor
open Go.RowKit Go.BigFrame AG

set_option maxRecDepth 100000 in
set_option maxHeartbeats 4000000 in
theorem agSystems_same (s : Sy) (A B : Option Addr) (c d : Nat) (w : World) (hl : s.es.length ≤ c) (hc : c ≤ 9223372036854775807) (hm : s.es.length ≤ d) (hd : d ≤ 9223372036854775807) (hr : EdsAt w w.heap.size A s.es) (hs : EdsAt w w.heap.size B s.es) :
    Calls Tryd.prog 45 #[s.val A c, s.val B d] w fun e w' => e = .returned (.bool true) ∧ Below w.heap.size w w' := by
  unfold Sy.val
  obtain ⟨w0, hw0, hz0, hB0, hS, hU⟩ := boxed2 w #[Value.int IntKind.i64 s.al, Value.int IntKind.i64 s.st, Value.slice A s.es.length c] 25 #[Value.int IntKind.i64 s.al, Value.int IntKind.i64 s.st, Value.slice B s.es.length d] 25
  have p0 := hS 0 _ rfl _ (Below.refl _ _)
  have p1 := hS 1 _ rfl _ (Below.refl _ _)
  have p2 := hS 2 _ rfl _ (Below.refl _ _)
  have q0 := hU 0 _ rfl _ (Below.refl _ _)
  have q1 := hU 1 _ rfl _ (Below.refl _ _)
  have q2 := hU 2 _ rfl _ (Below.refl _ _)
  have hr0 := hid (hr.later hB0)
  have hs0 := hid (hs.later hB0)
  replace hr := hid hr
  replace hs := hid hs
  go_enter Tryd.func45, Tryd.ntmps45
  go_wp2_with fail
  go_loopw [5] (fun i wr => ∃ k : Nat, i = .int .i64 (k : Nat) ∧ k ≤ s.es.length ∧ Below w0.heap.size w0 wr) (fun i _ => s.es.length - (intOf i).toNat)
  case atStart => exact ⟨0, rfl, by omega, Below.refl _ _⟩
  case round =>
    clear p0 p1 p2 q0 q1 q2
    obtain ⟨k, rfl, hk, hb⟩ := hrel
    have hC := hb.mono hz0
    have p0 := hS 0 _ rfl _ hC
    have p1 := hS 1 _ rfl _ hC
    have p2 := hS 2 _ rfl _ hC
    have q0 := hU 0 _ rfl _ hC
    have q1 := hU 1 _ rfl _ hC
    have q2 := hU 2 _ rfl _ hC
    by_cases hlt : k < s.es.length
    · obtain ⟨b, o, hA, hbb, hE⟩ := hr0.out (by omega)
      obtain ⟨b', o', hA', hbb', hE'⟩ := hs0.out (by omega)
      subst hA
      subst hA'
      obtain ⟨e0, e1, e2⟩ := hE k hlt
      obtain ⟨g0, g1, g2⟩ := hE' k hlt
      rw [← hb.cell (by simpa using hbb)] at e0 e1 e2
      rw [← hb.cell (by simpa using hbb')] at g0 g1 g2
      obtain ⟨⟨xf, xl, xt⟩, hx⟩ : ∃ x, x = s.es[k] := ⟨_, rfl⟩
      rw [← hx] at e0 e1 e2 g0 g1 g2
      simp only at e0 e1 e2 g0 g1 g2
      have k1 : (0 : Int) ≤ (k : Int) ∧ (k : Int) < (s.es.length : Int) := by omega
      have x0 := GK.BI.cell p2
      have x1 := GK.BI.cell q2
      have y0 := GK.BI.cell e0
      have y1 := GK.BI.cell e1
      have y2 := GK.BI.cell e2
      have z0 := GK.BI.cell g0
      have z1 := GK.BI.cell g1
      have z2 := GK.BI.cell g2
      replace hE := hid hE
      replace hE' := hid hE'
      replace hx := hid hx
      go_wp2_with fail
      clear p0 p1 p2 q0 q1 q2 e0 e1 e2 g0 g1 g2
      refine GK.wp_region 11 [] 200 (KeepB fun _ => False) (GK.BI wr) (fun _ _ _ => True) (by kernel_rfl) (by kernel_rfl) (GK.BI.way wr) (by decide) (Below.refl _ _).drew ?_
      simp only [List.take_succ_cons, List.take_zero]
      (repeat (refine GK.grow_quiet wr (by rfl) (by rfl) ?_; intro K hK; go_big_quiet_op; go_big_quiet_on))
      refine GK.grow_nil ?_
      intro w4 hw4 _
      simp only [List.filterMap_nil]
      replace hw4 : Below wr.heap.size wr w4 := hw4
      have hB4 := hid (hb.trans (hw4.mono hb.size))
      clear x0 x1 y0 y1 y2 z0 z1 z2
      go_wp2_with fail
      go_roundw
      case rel => exact ⟨k + 1, by go_num, by omega, hB4.out⟩
      case measure => simp [intOf]; omega
    · obtain rfl : k = s.es.length := by omega
      go_wp2_with fail
      go_ret
      exact ⟨rfl, hB0.trans (hb.mono (by have := hB0.size; exact this))⟩

theorem withinB_of {s t : Sy} (h1 : sysOk s = true) (h2 : sysOk t = true) (h3 : s.al = t.al) (h : ∀ q, ¬ AG.Outside s t q) : withinB s t = true := by
  unfold withinB cmpOk
  simp [h1, h2, h3, h]
theorem same_trim {s : Sy} (hs : sysOk s = true) : sameB s (trimSy s (reachAll s)) = true := by
  unfold sameB
  rw [withinB_of hs (trim_ok hs) rfl (fun q h => h.2.1 ((setW_same hs q).1 h.2.2)), withinB_of (trim_ok hs) hs rfl (fun q h => h.2.1 ((setW_same hs q).2 h.2.2))]
  rfl

def DrawOne (w : World) (e : Ending) (w' : World) : Prop := ∃ (s : Sy) (A : Option Addr) (c : Nat), e = .returned (s.val A c) ∧ s.es.length ≤ c ∧ c ≤ 9223372036854775807 ∧ s.es.length ≤ 1000000 ∧ EdsAt w' w'.heap.size A s.es ∧ FreshA w.heap.size A ∧ Below w.heap.size w w'
theorem DrawOne.ret {w w0 w1 : World} {s : Sy} {A : Option Addr} {c : Nat} (h1 : s.es.length ≤ c) (h2 : c ≤ 9223372036854775807) (h3 : s.es.length ≤ 1000000) (h4 : EdsAt w1 w1.heap.size A s.es) (h5 : FreshA (w.heap.size + 1) A) (h7 : Below w.heap.size w w1) (v1 v2 v3 : Value) :
    DrawOne w (.returned (.agg #[.int .i64 s.al, .int .i64 s.st, .slice A s.es.length c])) (((w1.setCell ⟨w.heap.size, 0, none⟩ v1).setCell ⟨w.heap.size, 1, none⟩ v2).setCell ⟨w.heap.size, 2, none⟩ v3) := by
  have hne : ∀ b o, A = some ⟨b, o, none⟩ → 0 < s.es.length → b ≠ w.heap.size := fun b o hA _ => by have := h5 b o hA; omega
  refine ⟨s, A, c, rfl, h1, h2, h3, ?_, fun b o hA => by have := h5 b o hA; omega, ?_⟩
  · simpa [World.setCell] using ((h4.stored v1 hne).stored v2 hne).stored v3 hne
  · exact ((h7.setCell (by simp) _).setCell (by simp) _).setCell (by simp) _

set_option maxRecDepth 100000 in
set_option maxHeartbeats 4000000 in
theorem drawSystemValid_any (A : Option Addr) (n c : Nat) (w : World) (hn : n ≤ c) (hc : c ≤ 9223372036854775807) (hx : CodeAt w A n) :
    Calls Tryd.prog 98 #[.slice A n c] w (DrawOne w) := by
  have hres := Blk.new w 25 #[.int .i64 0, .int .i64 0, .slice none 0 0]
  have hb0 : Below w.heap.size w (w.alloc (.cells #[.int .i64 0, .int .i64 0, .slice none 0 0] 25)) := (Below.refl _ _).alloc (Nat.le_refl _) _
  generalize hw0 : w.alloc (.cells #[.int .i64 0, .int .i64 0, .slice none 0 0] 25) = w0 at hres hb0
  have hz0 : w0.heap.size = w.heap.size + 1 := by rw [← hw0]; simp
  have hx0 : CodeAt w0 A n := fun h => by
    obtain ⟨b, o, h1, h2, h3⟩ := hx h
    refine ⟨b, o, h1, by omega, fun i hi => ?_⟩
    obtain ⟨y, h4, h5⟩ := h3 i hi
    exact ⟨y, h4, by rw [hb0.cell (by simpa using h2)]; exact h5⟩
  replace hres := hid hres
  replace hz0 := hid hz0
  replace hx := hid hx
  replace hx0 := hid hx0
  go_enter Tryd.func98, Tryd.ntmps98
  go_wp2_with fail
  refine (l19Open_any A n c w0 hn hc hx0.out).mono ?_
  rintro e w1 ⟨R, rfl, hR, hr1, hb1⟩
  replace hr1 := hid hr1
  have hz1 := hb1.size
  clear hw0
  go_wp2_with fail
  refine (l2Any_up R 0 w1 (by omega) hr1.out).mono ?_
  rintro e w2 ⟨s0, A0, c0, rfl, e1, e2, e3, e4, e5, e6, e7⟩
  unfold Sy.val
  replace e4 := hid e4
  replace e6 := hid e6
  have hB1 : Below w0.heap.size w0 w2 := KeepB.below hb1 e7 hb1.size (fun k hk => by omega)
  go_wp2_with fail
  refine (l2Wrong_up R (0 + 3000000) 2000 s0 A0 c0 w2 (by omega) e1 e2 e3 (by omega) e4.out e6.out).mono ?_
  rintro e w3 ⟨s, A', c', rfl, a1, a2, a3, a4, a5, a6, a7⟩
  unfold Sy.val
  have hB2 : Below w0.heap.size w0 w3 := KeepB.below hB1 a7 hB1.size (fun k hk => by omega)
  have hzz := hz0.out
  have hB1z := hB1.size
  have hfin := hid (DrawOne.ret (w := w) (w0 := w0) a1 a2 (by omega) a4 (fun b o hA => by have := a5 b o hA; omega) (hb0.trans (hB2.mono (by omega))) (.int .i64 s.al) (.int .i64 s.st) (.slice A' s.es.length c'))
  have hbl := hres.out.below hB2 hres.out.lt
  have d0 := hbl.cell 0
  have d1 := hbl.cell 1
  have d2 := hbl.cell 2
  have f0 := hbl.frozen 0
  have f1 := hbl.frozen 1
  have f2 := hbl.frozen 2
  simp only [List.getElem?_toArray, List.getElem?_cons_zero, List.getElem?_cons_succ] at d0 d1 d2
  have hlt := hbl.lt
  clear hbl a4 a5
  go_wp2
  refine bodyPost_ret (v := .agg #[.int .i64 s.al, .int .i64 s.st, .slice A' s.es.length c']) (by simp [results, Tryd.results98, go_sem, d0, d1, d2]) rfl ?_
  exact hfin.out

set_option maxRecDepth 100000 in
set_option maxHeartbeats 4000000 in
theorem drawTrimSystem_any (A : Option Addr) (n c : Nat) (w : World) (hn : n ≤ c) (hc : c ≤ 9223372036854775807) (hx : CodeAt w A n) :
    Calls Tryd.prog 42 #[.slice A n c] w (DrawOne w) := by
  have hres := Blk.new w 25 #[.int .i64 0, .int .i64 0, .slice none 0 0]
  have hb0 : Below w.heap.size w (w.alloc (.cells #[.int .i64 0, .int .i64 0, .slice none 0 0] 25)) := (Below.refl _ _).alloc (Nat.le_refl _) _
  generalize hw0 : w.alloc (.cells #[.int .i64 0, .int .i64 0, .slice none 0 0] 25) = w0 at hres hb0
  have hz0 : w0.heap.size = w.heap.size + 1 := by rw [← hw0]; simp
  have hx0 : CodeAt w0 A n := fun h => by
    obtain ⟨b, o, h1, h2, h3⟩ := hx h
    refine ⟨b, o, h1, by omega, fun i hi => ?_⟩
    obtain ⟨y, h4, h5⟩ := h3 i hi
    exact ⟨y, h4, by rw [hb0.cell (by simpa using h2)]; exact h5⟩
  replace hres := hid hres
  replace hz0 := hid hz0
  replace hx := hid hx
  replace hx0 := hid hx0
  go_enter Tryd.func42, Tryd.ntmps42
  go_wp2_with fail
  refine (drawSystemValid_any A n c w0 hn hc hx0.out).mono ?_
  rintro e w2 ⟨s, A', c', rfl, a1, a2, a3, a4, a5, hB2⟩
  unfold Sy.val
  clear hw0
  have hzz := hz0.out
  have hfin := hid (DrawOne.ret (w := w) (w0 := w0) a1 a2 a3 a4 (fun b o hA => by have := a5 b o hA; omega) (hb0.trans (hB2.mono (by omega))) (.int .i64 s.al) (.int .i64 s.st) (.slice A' s.es.length c'))
  have hbl := hres.out.below hB2 hres.out.lt
  have d0 := hbl.cell 0
  have d1 := hbl.cell 1
  have d2 := hbl.cell 2
  have f0 := hbl.frozen 0
  have f1 := hbl.frozen 1
  have f2 := hbl.frozen 2
  simp only [List.getElem?_toArray, List.getElem?_cons_zero, List.getElem?_cons_succ] at d0 d1 d2
  have hlt := hbl.lt
  clear hbl a4 a5
  go_wp2
  refine bodyPost_ret (v := .agg #[.int .i64 s.al, .int .i64 s.st, .slice A' s.es.length c']) (by simp [results, Tryd.results42, go_sem, d0, d1, d2]) rfl ?_
  exact hfin.out

end Go.Proofs.YtempjhgajcdibaaDoor

/- The law FnSameTrim. -/
namespace Go.Proofs.YtempjhgajcdibaaDoor
open Go.RowKit Go.BigFrame AG

set_option maxRecDepth 100000 in
set_option maxHeartbeats 8000000 in
theorem FnSameTrim_any (A : Option Addr) (n c : Nat) (w : World) (hn : n ≤ c) (hc : c ≤ 9223372036854775807) (hT : Tab w) (hx : CodeAt w A n) :
    Calls Tryd.prog 12 #[.slice A n c] w fun e w' => e = .returned (.bool true) ∧ Below w.heap.size w w' := by
  replace hx := hid hx
  replace hT := hid hT
  by_cases hbig : 1048576 < n
  · go_enter Tryd.func12, Tryd.ntmps12
    go_wp2
    go_ret
    exact ⟨rfl, Below.refl _ _⟩
  · go_enter Tryd.func12, Tryd.ntmps12
    go_wp2_with fail
    refine (drawTrimSystem_any A n c w hn hc hx.out).mono ?_
    rintro e w1 ⟨s, As, cs, rfl, a1, a2, a3, a4, a5, hb1⟩
    unfold Sy.val
    obtain ⟨w2, hw2, hz2, hB2, hS0, hS1, hS2⟩ := boxed3 w1 (Value.int IntKind.i64 s.al) (Value.int IntKind.i64 s.st) (Value.slice As s.es.length cs) 25
    have hs2 := hid (a4.later hB2)
    have hBB2 := hb1.trans (hB2.mono hb1.size)
    have hT2 := hid (hT.out.later hBB2)
    clear a4 a5
    have p0 := hS0 _ (Below.refl _ _)
    have p1 := hS1 _ (Below.refl _ _)
    have p2 := hS2 _ (Below.refl _ _)
    go_wp2_with fail
    refine (implTrimSystem_any s As cs w2 a3 a1 a2 hT2.out hs2.out).mono ?_
    rintro e w3 ⟨Ax, cx, rfl, x1, x2, x3, hb3⟩
    have hval : Hid (∀ h : sysOk s = true, trimOut s = trimSy s (reachAll s)) := hid fun h => by unfold trimOut; rw [if_pos h]
    obtain ⟨x, hxx⟩ : ∃ x, Hid (x = trimOut s) := ⟨_, hid rfl⟩
    rw [← hxx.out] at x1 x3 ⊢
    unfold Sy.val
    obtain ⟨w4, hw4, hz4, hB4, hU0, hU1, hU2⟩ := boxed3 w3 (Value.int IntKind.i64 x.al) (Value.int IntKind.i64 x.st) (Value.slice Ax x.es.length cx) 25
    have hz3 := hb3.size
    have hB24 := hb3.trans (hB4.mono hb3.size)
    have hC4 := hid (hB24.mono (show w1.heap.size + 1 ≤ w2.heap.size from hz2))
    have hD4 : Hid (Below (w3.heap.size + 1) w4 w4) := hid (Below.refl _ _)
    have hs4 := hid (hs2.out.later hB24)
    have hx4 := hid (x3.later hB4)
    have hBB4 := hBB2.trans (hB24.mono hBB2.size)
    have hT4 := hid (hT2.out.later hB24)
    clear p0 p1 p2 x3 hw2
    have p0 := hS0 _ hC4.out
    have p1 := hS1 _ hC4.out
    have p2 := hS2 _ hC4.out
    have q0 := hU0 _ (Below.refl _ _)
    have q1 := hU1 _ (Below.refl _ _)
    have q2 := hU2 _ (Below.refl _ _)
    go_wp2_with fail
    refine (specTrimSystem_any s As cs w4 a3 a1 a2 hT4.out hs4.out).mono ?_
    rintro e w5 ⟨Ay, cy, rfl, y1, y2, y3, hb5⟩
    rw [← hxx.out] at y1 y3 ⊢
    unfold Sy.val
    obtain ⟨w6, hw6, hz6, hB6, hV0, hV1, hV2⟩ := boxed3 w5 (Value.int IntKind.i64 x.al) (Value.int IntKind.i64 x.st) (Value.slice Ay x.es.length cy) 25
    have hz5 := hb5.size
    have hB46 := hb5.trans (hB6.mono hb5.size)
    have hC6 := hid (hC4.out.trans (hB46.mono (by have := hC4.out.size; omega)))
    have hD6 := hid (hD4.out.trans (hB46.mono (by have := hD4.out.size; omega)))
    have hF6 : Hid (Below (w5.heap.size + 1) w6 w6) := hid (Below.refl _ _)
    have hs6 := hid (hs4.out.later hB46)
    have hx6 := hid (hx4.out.later hB46)
    have hy6 := hid (y3.later hB6)
    have hBB6 := hBB4.trans (hB46.mono hBB4.size)
    have hT6 := hid (hT4.out.later hB46)
    clear p0 p1 p2 q0 q1 q2 y3 hw4
    have p0 := hS0 _ hC6.out
    have p1 := hS1 _ hC6.out
    have p2 := hS2 _ hC6.out
    have q0 := hU0 _ hD6.out
    have q1 := hU1 _ hD6.out
    have q2 := hU2 _ hD6.out
    have r0 := hV0 _ (Below.refl _ _)
    have r1 := hV1 _ (Below.refl _ _)
    have r2 := hV2 _ (Below.refl _ _)
    cases hok : sysOk s
    · replace hok := hid hok
      go_wp2_with fail
      refine (agSystems_same x Ax Ay cx cy w6 x1 x2 y1 y2 hx6.out hy6.out).mono ?_
      rintro e w7 ⟨rfl, hb7⟩
      clear hw6
      have hC7 := hid (hC6.out.trans (hb7.mono (by have := hC6.out.size; omega)))
      have hD7 := hid (hD6.out.trans (hb7.mono (by have := hD6.out.size; omega)))
      have hF7 := hid (hF6.out.trans (hb7.mono (by have := hF6.out.size; omega)))
      have hs7 := hid (hs6.out.later hb7)
      have hx7 := hid (hx6.out.later hb7)
      have hy7 := hid (hy6.out.later hb7)
      have hBB7 := hBB6.trans (hb7.mono hBB6.size)
      have hT7 := hid (hT6.out.later hb7)
      clear p0 p1 p2 q0 q1 q2 r0 r1 r2
      have p0 := hS0 _ hC7.out
      have p1 := hS1 _ hC7.out
      have p2 := hS2 _ hC7.out
      have q0 := hU0 _ hD7.out
      have q1 := hU1 _ hD7.out
      have q2 := hU2 _ hD7.out
      have r0 := hV0 _ hF7.out
      have r1 := hV1 _ hF7.out
      have r2 := hV2 _ hF7.out
      go_wp2_with fail
      refine (agSystems_same x Ax Ay cx cy w7 x1 x2 y1 y2 hx7.out hy7.out).mono ?_
      rintro e w8 ⟨rfl, hb8⟩
      have hBB8 := hBB7.trans (hb8.mono hBB7.size)
      clear p0 p1 p2 q0 q1 q2 r0 r1 r2
      go_wp2_with fail
      go_ret
      exact ⟨rfl, hBB8⟩
    · have ht := hval.out hok
      have v1 : Hid (sameB s x = true) := hid (by rw [hxx.out, ht]; exact same_trim hok)
      have v2 : Hid (detB x = detB s) := hid (by rw [hxx.out, ht]; exact detB_trim hok)
      replace hok := hid hok
      clear ht
      go_wp2_with fail
      refine (agSystems_same x Ax Ay cx cy w6 x1 x2 y1 y2 hx6.out hy6.out).mono ?_
      rintro e w7 ⟨rfl, hb7⟩
      clear hw6
      have hC7 := hid (hC6.out.trans (hb7.mono (by have := hC6.out.size; omega)))
      have hD7 := hid (hD6.out.trans (hb7.mono (by have := hD6.out.size; omega)))
      have hF7 := hid (hF6.out.trans (hb7.mono (by have := hF6.out.size; omega)))
      have hs7 := hid (hs6.out.later hb7)
      have hx7 := hid (hx6.out.later hb7)
      have hy7 := hid (hy6.out.later hb7)
      have hBB7 := hBB6.trans (hb7.mono hBB6.size)
      have hT7 := hid (hT6.out.later hb7)
      clear p0 p1 p2 q0 q1 q2 r0 r1 r2
      have p0 := hS0 _ hC7.out
      have p1 := hS1 _ hC7.out
      have p2 := hS2 _ hC7.out
      have q0 := hU0 _ hD7.out
      have q1 := hU1 _ hD7.out
      have q2 := hU2 _ hD7.out
      have r0 := hV0 _ hF7.out
      have r1 := hV1 _ hF7.out
      have r2 := hV2 _ hF7.out
      obtain ⟨bd, hbd⟩ : ∃ bd, Hid (bd = detB s) := ⟨_, hid rfl⟩
      have g0 := GK.BI.cell p0
      have g1 := GK.BI.cell p1
      have g2 := GK.BI.cell p2
      have g3 := GK.BI.cell q0
      have g4 := GK.BI.cell q1
      have g5 := GK.BI.cell q2
      cases bd
      · go_wp2_with fail
        clear p0 p1 p2 q0 q1 q2 r0 r1 r2
        refine GK.wp_region 11 [] 200 (KeepB fun _ => False) (GK.BI w7) (fun i u _ => u = .bool (if i = 2 then true else false)) (by kernel_rfl) (by kernel_rfl) (GK.BI.way w7) (by decide) (Below.refl _ _).drew ?_
        simp only [List.take_succ_cons, List.take_zero]
        (repeat (refine GK.grow_quiet w7 (by rfl) (by rfl) ?_; intro K hK; go_big_quiet_op; go_big_quiet_on))
        refine GK.grow_val (.bool true) (by rfl) rfl (fun m wq hm hbq _ => ?_) ?_
        · go_simp
          exact ⟨rfl, by
            have hbq' : Below w7.heap.size w7 wq := hbq
            refine (implSameTraces_any s x As Ax cs cx wq a1 a2 x1 x2 (hT7.out.later hbq') (hs7.out.later hbq') (hx7.out.later hbq')).mono fun e w' ⟨h1, h2⟩ => ⟨?_, GK.BI.after hbq h2⟩
            rw [h1, v1.out]⟩
        simp only [Act.put, List.setIfInBounds_toArray, List.set_cons_zero, List.set_cons_succ]
        (repeat (refine GK.grow_quiet w7 (by rfl) (by rfl) ?_; intro K hK; go_big_quiet_op; go_big_quiet_on))
        refine GK.grow_val (.bool false) (by rfl) rfl (fun m wq hm hbq _ => ?_) ?_
        · go_simp
          exact ⟨rfl, by
            have hbq' : Below w7.heap.size w7 wq := hbq
            refine (implIsDeterministic_any x Ax cx wq x1 x2 (hT7.out.later hbq') (hx7.out.later hbq')).mono fun e w' ⟨h1, h2⟩ => ⟨?_, GK.BI.after hbq h2⟩
            rw [h1, v2.out, ← hbd.out]⟩
        simp only [Act.put, List.setIfInBounds_toArray, List.set_cons_zero, List.set_cons_succ]
        (repeat (refine GK.grow_quiet w7 (by rfl) (by rfl) ?_; intro K hK; go_big_quiet_op; go_big_quiet_on))
        refine GK.grow_val (.bool false) (by rfl) rfl (fun m wq hm hbq _ => ?_) ?_
        · go_simp
          exact ⟨rfl, by
            have hbq' : Below w7.heap.size w7 wq := hbq
            refine (implIsDeterministic_any s As cs wq a1 a2 (hT7.out.later hbq') (hs7.out.later hbq')).mono fun e w' ⟨h1, h2⟩ => ⟨?_, GK.BI.after hbq h2⟩
            rw [h1, ← hbd.out]⟩
        simp only [Act.put, List.setIfInBounds_toArray, List.set_cons_zero, List.set_cons_succ]
        (repeat (refine GK.grow_quiet w7 (by rfl) (by rfl) ?_; intro K hK; go_big_quiet_op; go_big_quiet_on))
        refine GK.grow_nil ?_
        intro w8 hw8 _
        simp only [List.filterMap_nil]
        replace hw8 : Below w7.heap.size w7 w8 := hw8
        have hBB8 := hBB7.trans (hw8.mono hBB7.size)
        clear g0 g1 g2 g3 g4 g5
        go_wp2_with fail
        go_ret
        exact ⟨rfl, hBB8⟩
      · go_wp2_with fail
        clear p0 p1 p2 q0 q1 q2 r0 r1 r2
        refine GK.wp_region 11 [] 200 (KeepB fun _ => False) (GK.BI w7) (fun i u _ => u = .bool (if i = 2 then true else true)) (by kernel_rfl) (by kernel_rfl) (GK.BI.way w7) (by decide) (Below.refl _ _).drew ?_
        simp only [List.take_succ_cons, List.take_zero]
        (repeat (refine GK.grow_quiet w7 (by rfl) (by rfl) ?_; intro K hK; go_big_quiet_op; go_big_quiet_on))
        refine GK.grow_val (.bool true) (by rfl) rfl (fun m wq hm hbq _ => ?_) ?_
        · go_simp
          exact ⟨rfl, by
            have hbq' : Below w7.heap.size w7 wq := hbq
            refine (implSameTraces_any s x As Ax cs cx wq a1 a2 x1 x2 (hT7.out.later hbq') (hs7.out.later hbq') (hx7.out.later hbq')).mono fun e w' ⟨h1, h2⟩ => ⟨?_, GK.BI.after hbq h2⟩
            rw [h1, v1.out]⟩
        simp only [Act.put, List.setIfInBounds_toArray, List.set_cons_zero, List.set_cons_succ]
        (repeat (refine GK.grow_quiet w7 (by rfl) (by rfl) ?_; intro K hK; go_big_quiet_op; go_big_quiet_on))
        refine GK.grow_val (.bool true) (by rfl) rfl (fun m wq hm hbq _ => ?_) ?_
        · go_simp
          exact ⟨rfl, by
            have hbq' : Below w7.heap.size w7 wq := hbq
            refine (implIsDeterministic_any x Ax cx wq x1 x2 (hT7.out.later hbq') (hx7.out.later hbq')).mono fun e w' ⟨h1, h2⟩ => ⟨?_, GK.BI.after hbq h2⟩
            rw [h1, v2.out, ← hbd.out]⟩
        simp only [Act.put, List.setIfInBounds_toArray, List.set_cons_zero, List.set_cons_succ]
        (repeat (refine GK.grow_quiet w7 (by rfl) (by rfl) ?_; intro K hK; go_big_quiet_op; go_big_quiet_on))
        refine GK.grow_val (.bool true) (by rfl) rfl (fun m wq hm hbq _ => ?_) ?_
        · go_simp
          exact ⟨rfl, by
            have hbq' : Below w7.heap.size w7 wq := hbq
            refine (implIsDeterministic_any s As cs wq a1 a2 (hT7.out.later hbq') (hs7.out.later hbq')).mono fun e w' ⟨h1, h2⟩ => ⟨?_, GK.BI.after hbq h2⟩
            rw [h1, ← hbd.out]⟩
        simp only [Act.put, List.setIfInBounds_toArray, List.set_cons_zero, List.set_cons_succ]
        (repeat (refine GK.grow_quiet w7 (by rfl) (by rfl) ?_; intro K hK; go_big_quiet_op; go_big_quiet_on))
        refine GK.grow_nil ?_
        intro w8 hw8 _
        simp only [List.filterMap_nil]
        replace hw8 : Below w7.heap.size w7 w8 := hw8
        have hBB8 := hBB7.trans (hw8.mono hBB7.size)
        clear g0 g1 g2 g3 g4 g5
        go_wp2_with fail
        go_ret
        exact ⟨rfl, hBB8⟩

end Go.Proofs.YtempjhgajcdibaaDoor
