/- Lemmas, part 10: several texts in one. -/
import Derived.Test.YtdkjnemakkppfaaGreatDoorY9
import Derived.Deep.DeepCutAuto
import Derived.Test.YtdkjnemakkppfaaGreatDoorY3
import Derived.Test.YtdkjnemakkppfaaGreatDoorY7
import Derived.Test.YtdkjnemakkppfaaGreatDoorY4
import Derived.Test.YtdkjnemakkppfaaGreatDoorY6
set_option linter.unusedSimpArgs false
set_option linter.unusedVariables false

/- The drawing kit: l6Change. -/
namespace Go.Proofs.YtdkjnemakkppfaaGreatDoor
open Go.RowKit Go.BigFrame AG

/-- What l6Change holds: the copy as far as it is made, and the edge x. -/
structure ChSt (w0 wr : World) (R P gs ge : Nat) (al st : Int) (v : Value) (es : List Ed) (L : Nat) (x : Ed) : Prop where
  out : OutSt w0 wr R P w0.heap.size gs al st v es L
  ed : Blk wr ge 50 #[.int .i64 x.f, .int .i64 x.l, .int .i64 x.t]
  far : ∀ k, v.ownBlock = some k → ge < k
  lt : gs < ge
theorem ChSt.call {w0 wr w1 : World} {R P P' gs ge : Nat} {al st : Int} {v : Value} {es : List Ed} {L : Nat} {x : Ed} (h : ChSt w0 wr R P gs ge al st v es L x) (hk : KeepB (fun b => b = R) wr w1) (hr : RdUp w1 R P') (hR : R < w0.heap.size) : ChSt w0 w1 R P' gs ge al st v es L x :=
  ⟨h.out.call hk hr hR, h.ed.keep hk (by have := h.lt; have := h.out.hgs; omega), h.far, h.lt⟩
theorem ChSt.later {w0 wr w1 : World} {R P gs ge : Nat} {al st : Int} {v : Value} {es : List Ed} {L : Nat} {x : Ed} (h : ChSt w0 wr R P gs ge al st v es L x) (hb : Below wr.heap.size wr w1) (hR : R < w0.heap.size) : ChSt w0 w1 R P gs ge al st v es L x := h.call (KeepB.of_below hb) (h.out.rd.later hb) hR
theorem ChSt.more {w0 wr : World} {R P P' gs ge : Nat} {al st : Int} {v : Value} {es : List Ed} {L L' : Nat} {x : Ed} (h : ChSt w0 wr R P gs ge al st v es L x) (hP : P ≤ P') (hL : L ≤ L') : ChSt w0 wr R P' gs ge al st v es L' x :=
  ⟨⟨h.out.blk, h.out.own, by have := h.out.len; omega, h.out.rd.more hP, h.out.keep, h.out.hB, h.out.hgs⟩, h.ed, h.far, h.lt⟩
theorem ChSt.add {w0 wr w1 : World} {R P gs ge : Nat} {al st : Int} {v v' : Value} {es : List Ed} {L : Nat} {x y : Ed} (h : ChSt w0 wr R P gs ge al st v es L x) (hR : R < w0.heap.size)
    (hown : w1.ownsRow w0.heap.size 50 3 v' (es.length + 1) (edCells es ++ [.int .i64 y.f, .int .i64 y.l, .int .i64 y.t])) (hg : wr.grownBy w1 v.ownBlock) (hat : v'.ownBlock = v.ownBlock ∨ v'.ownBlock = some wr.heap.size) :
    ChSt w0 (w1.setCell ⟨gs, 2, none⟩ v') R P gs ge al st v' (es ++ [y]) (L + 1) x := by
  have h1 := h.lt
  have hge := h.ed.lt
  have k1 : KeepB (fun b => v.ownBlock = some b) wr w1 := (KeepB.refl _ wr).grown hg (fun k hk _ => hk)
  have k2 : KeepB (fun b => v.ownBlock = some b ∨ b = gs) wr (w1.setCell ⟨gs, 2, none⟩ v') := (k1.mono fun _ h => .inl h).setCell _ _ fun _ => .inr rfl
  refine ⟨h.out.add hR hown hg hat, h.ed.keep k2 (by rintro (hk | hk); (have := h.far _ hk; omega); omega), fun k hk => ?_, h1⟩
  rcases hat with e | e
  · rw [e] at hk; exact h.far k hk
  · rw [e] at hk; injection hk with hk; omega

set_option maxRecDepth 100000 in
set_option maxHeartbeats 16000000 in
theorem l6Change_up (R P L : Nat) (s : Sy) (A : Option Addr) (c : Nat) (w : World) (hP : P + 9000000 ≤ 1125899906842624) (hl : s.es.length ≤ c) (hc : c ≤ 9223372036854775807) (hL : s.es.length ≤ L) (hL2 : L ≤ 40000)
    (hs : EdsAt w w.heap.size A s.es) (hf : FreshA (R + 1) A) (hr : RdUp w R P) :
    Calls Tryz.prog 36 #[.pointer (some ⟨R, 0, none⟩), s.val A c] w (SyUp R (P + 4000000) (2 * L + 1) w) := by
  obtain ⟨i0, hi, hz0, hz1, hz2⟩ := info_parts infoEd
  have hR := hr.lt
  unfold Sy.val
  have hres := (Blk.new (w.alloc (.cells #[.int .i64 s.al, .int .i64 s.st, .slice A s.es.length c] 25)) 25 #[.int .i64 0, .int .i64 0, .slice none 0 0])
  have hpar := (Blk.new w 25 #[.int .i64 s.al, .int .i64 s.st, .slice A s.es.length c]).alloc (.cells #[.int .i64 0, .int .i64 0, .slice none 0 0] 25)
  have hb0 : Below w.heap.size w ((w.alloc (.cells #[.int .i64 s.al, .int .i64 s.st, .slice A s.es.length c] 25)).alloc (.cells #[.int .i64 0, .int .i64 0, .slice none 0 0] 25)) := ((Below.refl _ _).alloc (Nat.le_refl _) _).alloc (by simp) _
  have hsz0 : ((w.alloc (.cells #[.int .i64 s.al, .int .i64 s.st, .slice A s.es.length c] 25)).alloc (.cells #[.int .i64 0, .int .i64 0, .slice none 0 0] 25)).heap.size = w.heap.size + 2 := by simp
  simp only [World.size_alloc] at hres
  generalize hw0 : (w.alloc (.cells #[.int .i64 s.al, .int .i64 s.st, .slice A s.es.length c] 25)).alloc (.cells #[.int .i64 0, .int .i64 0, .slice none 0 0] 25) = w0 at hres hb0 hsz0 hpar
  have p0 := hpar.cell 0
  have p1 := hpar.cell 1
  have p2 := hpar.cell 2
  simp only [List.getElem?_toArray, List.getElem?_cons_zero, List.getElem?_cons_succ] at p0 p1 p2
  have hR0 : R < w0.heap.size := by omega
  have hr0 := hr.later hb0
  have hs0 := hid (hs.later hb0)
  have hpp := hid (show _ ∧ _ ∧ _ from ⟨p0, p1, p2⟩)
  have hO1 : OutSt w0 (w0.alloc (.cells #[.int .i64 s.al, .int .i64 s.st, .slice none 0 0] 25)) R P w0.heap.size w0.heap.size s.al s.st (.slice none 0 0) [] 0 :=
    ⟨Blk.new _ _ _, World.ownsRow_nil _ _ _ _, Nat.le_refl _, hr0.later ((Below.refl _ _).alloc (Nat.le_refl _) _), (KeepB.refl _ _).alloc _, Nat.le_refl _, Nat.le_refl _⟩
  have hgs : w0.heap.size < (w0.alloc (.cells #[.int .i64 s.al, .int .i64 s.st, .slice none 0 0] 25)).heap.size := by simp
  have hO1' := hid hO1
  have hpk : ∀ wx, KeepB (fun b => b = R) w0 wx → Hid (wx.cell? ⟨w.heap.size, 0, none⟩ = some (.int .i64 s.al) ∧ wx.cell? ⟨w.heap.size, 1, none⟩ = some (.int .i64 s.st) ∧ wx.cell? ⟨w.heap.size, 2, none⟩ = some (.slice A s.es.length c)) := fun wx hk =>
    hid ⟨by rw [KeepB.cell_ hk (p := ⟨w.heap.size, 0, none⟩) (by show w.heap.size < _; omega) (by show ¬ w.heap.size = R; omega)]; exact hpp.out.1, by rw [KeepB.cell_ hk (p := ⟨w.heap.size, 1, none⟩) (by show w.heap.size < _; omega) (by show ¬ w.heap.size = R; omega)]; exact hpp.out.2.1, by rw [KeepB.cell_ hk (p := ⟨w.heap.size, 2, none⟩) (by show w.heap.size < _; omega) (by show ¬ w.heap.size = R; omega)]; exact hpp.out.2.2⟩
  replace hres := hid hres
  replace hsz0 := hid hsz0
  replace hf := hid hf
  have hp1 := hpk _ hO1'.out.keep
  have a0 := hp1.out.1
  have a1 := hp1.out.2.1
  have a2 := hp1.out.2.2
  clear hs hr hr0 hO1 hpar hgs
  go_enter Tryz.func36, Tryz.ntmps36
  go_wp2_with fail
  refine (pick_up R P ((s.es.length : Int) + 2) _ (by omega) (by omega) hO1'.out.rd).mono ?_
  rintro e w2 ⟨q, rfl, hq0, hq1, hr2, hk2⟩
  have hO2 := hid (hO1'.out.call hk2 hr2 hR0)
  clear hr2 hk2 hO1' hw0 p0 p1 p2 hq0 hq1 a0 a1 a2 hp1
  have hneR : w.heap.size ≠ R := by omega
  have hp2 := hpk w2 hO2.out.keep
  have c1 := hp2.out.2.1
  have q1 := RI.cell hO2.out.rd c1 hneR
  go_wp2_with fail
  clear c1
  refine GK.wp_region 10 [10] 200 (KeepB fun b => b = R) (RI w2 R (P + 1)) (fun _ u _ => ∃ x : Int, u = .int .i64 x) (by kernel_rfl) (by kernel_rfl) (RI.way w2 R _) (by decide) (RI.drew hO2.out.rd) ?_
  simp only [List.take_succ_cons, List.take_zero]
  (repeat (refine GK.grow_quiet w2 (by rfl) (by rfl) ?_; intro K hK; go_big_quiet_op; go_big_quiet_on))
  refine GK.grow_call (by rfl) (fun u w w' _ h => h) (fun m wq hm hbq hf => ?_) ?_
  · go_simp
    exact ⟨rfl, (pick_upF R (P + 1 + m * 10000) s.st wq (by omega) hbq.2).mono fun e w' ⟨x, h2, _, _, h3, h4⟩ => ⟨_, h2, RI.call hbq h4 h3 (by omega), x, rfl⟩⟩
  rintro u ⟨_, _, _, x1, rfl⟩
  simp only [Act.put, List.setIfInBounds_toArray, List.set_cons_zero, List.set_cons_succ]
  (repeat (refine GK.grow_quiet w2 (by rfl) (by rfl) ?_; intro K hK; go_big_quiet_op; go_big_quiet_on))
  refine GK.grow_call (by rfl) (fun u w w' _ h => h) (fun m wq hm hbq hf => ?_) ?_
  · go_simp
    exact ⟨rfl, (pick_upF R (P + 1 + m * 10000) s.st wq (by omega) hbq.2).mono fun e w' ⟨x, h2, _, _, h3, h4⟩ => ⟨_, h2, RI.call hbq h4 h3 (by omega), x, rfl⟩⟩
  rintro u ⟨_, _, _, x2, rfl⟩
  simp only [Act.put, List.setIfInBounds_toArray, List.set_cons_zero, List.set_cons_succ]
  (repeat (refine GK.grow_quiet w2 (by rfl) (by rfl) ?_; intro K hK; go_big_quiet_op; go_big_quiet_on))
  have hO2h := hO2.out.keep.size
  have hO2b := hO2.out.blk.lt
  refine GK.grow_new (K := fun b => b = R) (by rfl) w2.heap.size (fun b => .pointer (some ⟨b, 0, none⟩)) 50 #[.int .i64 0, .int .i64 0, .int .i64 0] (fun _ => by go_simp) rfl (fun _ _ o h => RI.alloc o h) (fun _ _ h => RI.size h) (fun k hk => by omega) (fun ge hge => ?_)
  simp only [Act.put, List.setIfInBounds_toArray, List.set_cons_zero, List.set_cons_succ]
  refine GK.grow_nil ?_
  intro w3 hw3 hfx
  obtain ⟨g', z1, z2, hblk⟩ := hfx _ List.mem_cons_self
  cases z1
  clear hfx q1
  simp only [List.filterMap_cons, List.filterMap_nil, List.getElem?_cons_zero, List.getElem?_cons_succ]
  have hblk3 : Blk w3 ge 50 #[.int .i64 0, .int .i64 0, .int .i64 0] := hblk
  have hO3 := hO2.out.call hw3.1 hw3.2 hR0
  have hE4 : ChSt w0 (((w3.setCell ⟨ge, 0, none⟩ (.int .i64 x1)).setCell ⟨ge, 1, none⟩ (.int .i64 0)).setCell ⟨ge, 2, none⟩ (.int .i64 x2)) R (P + 1 + 10 * 10000) w0.heap.size ge s.al s.st (.slice none 0 0) [] 0 ⟨x1, 0, x2⟩ := by
    have hk : KeepB (fun b => b = ge) w3 (((w3.setCell ⟨ge, 0, none⟩ (.int .i64 x1)).setCell ⟨ge, 1, none⟩ (.int .i64 0)).setCell ⟨ge, 2, none⟩ (.int .i64 x2)) := (((KeepB.refl _ w3).setCell _ _ (by simp)).setCell _ _ (by simp)).setCell _ _ (by simp)
    refine ⟨⟨hO3.blk.keep hk (by omega), World.ownsRow_nil _ _ _ _, Nat.le_refl _, hO3.rd.keep hk (by omega), ((hO3.keep.setCell _ _ (by simp; omega)).setCell _ _ (by simp; omega)).setCell _ _ (by simp; omega), Nat.le_refl _, Nat.le_refl _⟩, ?_, (fun k hk => by cases hk), by omega⟩
    simpa using ((hblk3.set_ 0 (.int .i64 x1)).set_ 1 (.int .i64 0)).set_ 2 (.int .i64 x2)
  have d0 := hblk3.cell 0
  have d1 := hblk3.cell 1
  have d2 := hblk3.cell 2
  have f0 := hblk3.frozen 0
  have f1 := hblk3.frozen 1
  have f2 := hblk3.frozen 2
  simp only [List.getElem?_toArray, List.getElem?_cons_zero, List.getElem?_cons_succ] at d0 d1 d2
  have hgl3 := hblk3.lt
  obtain ⟨w4, hw4⟩ : ∃ w4, ((w3.setCell ⟨ge, 0, none⟩ (.int .i64 x1)).setCell ⟨ge, 1, none⟩ (.int .i64 0)).setCell ⟨ge, 2, none⟩ (.int .i64 x2) = w4 := ⟨_, rfl⟩
  rw [hw4] at hE4
  replace hE4 := hid hE4
  have hp4 := hpk w4 hE4.out.out.keep
  have c0 := hp4.out.1
  clear hO3 hblk hblk3 hw3
  go_wp2_with fail
  refine (l1Letters_any s.al w4).mono ?_
  rintro e w5 ⟨lv, rfl, hown, hb5⟩
  clear hw4 d0 d1 d2 f0 f1 f2 c0
  have hE5 := hid ((hE4.out.later hb5 hR0).more (P' := P + 200000) (L' := 0) (by omega) (by omega))
  obtain ⟨ls, hls⟩ : ∃ ls, Hid (ls = letters s.al) := ⟨_, hid rfl⟩
  rw [← hls.out] at hown
  have hl6 : ls.length ≤ 6 := by rw [hls.out]; exact lettersTo_len s.al 6
  obtain ⟨Al, cl, hvl, hcl, hcl'⟩ := own_slice hown
  subst hvl
  have hRl : R < w4.heap.size := by have := hE4.out.out.keep.size; omega
  replace hown := hid hown
  go_upto_region 5 with fail
  go_cut [9] (fun sm wx => ∃ b : Bool, sm = .bool b ∧ (b = true → 0 < ls.length) ∧ ChSt w0 wx R (P + 200001) w0.heap.size ge s.al s.st (.slice none 0 0) [] 0 ⟨x1, 0, x2⟩ ∧ OwnNats wx w4.heap.size (.slice Al ls.length cl) ls)
  case first =>
    by_cases hl0 : ls.length = 0
    · go_wp2_with fail
      go_meet
      exact ⟨false, rfl, by simp, hE5.out.more (by omega) (by omega), hown.out⟩
    · have e0 : (0 : Int) < (ls.length : Int) := by omega
      replace hl0 := hid hl0
      go_wp2_with fail
      refine (pick_up R (P + 200000) 2 w5 (by omega) (by omega) hE5.out.out.rd).mono ?_
      rintro e w6 ⟨j, rfl, hj0, hj1, hr6, hk6⟩
      have hE6 := hid (hE5.out.call hk6 hr6 hR0)
      have hown6 := hid (own_keep hown.out hk6 (fun g hg => by have := (World.ownsRow.lt hown.out g hg).1; omega))
      clear hr6 hk6 hj1
      by_cases hj : j = 0
      · subst hj
        go_wp2_with fail
        go_meet
        exact ⟨true, rfl, fun _ => by omega, hE6.out, hown6.out⟩
      · have hjb : ((j : Int) == 0) = false := by simpa using hj
        replace hj := hid hj
        go_wp2_with fail
        go_meet
        exact ⟨false, rfl, by simp, hE6.out, hown6.out⟩
  case rest =>
    clear hE5 hown
    obtain ⟨b, rfl, hbl, hE, hown⟩ := hcut
    replace hE := hid hE
    replace hown := hid hown
    go_upto_if 42 with fail
    go_cut [] (fun wx => ∃ y : Ed, ChSt w0 wx R (P + 200002) w0.heap.size ge s.al s.st (.slice none 0 0) [] 0 y)
    case first =>
      cases b
      · go_wp2_with fail
        go_meet
        exact ⟨_, hE.out.more (by omega) (by omega)⟩
      · have hl0 := hbl rfl
        clear hbl
        have hE6 := hE
        go_wp2_with fail
        refine (pick_up R (P + 200001) ls.length _ (by omega) (by omega) hE.out.out.rd).mono ?_
        rintro e w7 ⟨j, rfl, hj0, hj1, hr7, hk7⟩
        obtain ⟨q2, rfl⟩ := Int.eq_ofNat_of_zero_le hj0
        have hql : q2 < ls.length := by omega
        have hE7 := hid (hE.out.call hk7 hr7 hR0)
        have hown7 := hid (own_keep hown.out hk7 (fun g hg => by have := (World.ownsRow.lt hown.out g hg).1; omega))
        clear hr7 hk7 hj0 hj1
        obtain ⟨g, cap, hve, hg1, hg2, -, -, hLL⟩ := own_nats hown7.out (by omega)
        cases hve
        have l0 := hLL q2 hql
        obtain ⟨l, hl'⟩ : ∃ l : Nat, l = ls[q2] := ⟨_, rfl⟩
        rw [← hl'] at l0
        replace hl' := hid hl'
        replace hLL := hid hLL
        have i1 : (0 : Int) ≤ (q2 : Int) ∧ (q2 : Int) < (ls.length : Int) := by omega
        have d1 := hE7.out.ed.cell 1
        have f1 := hE7.out.ed.frozen 1
        simp only [List.getElem?_toArray, List.getElem?_cons_zero, List.getElem?_cons_succ] at d1
        have hgl7 := hE7.out.ed.lt
        go_wp2_with fail
        go_meet
        have hk : KeepB (fun b => b = ge) w7 (w7.setCell ⟨ge, 1, none⟩ (.int .i64 (l : Nat))) := (KeepB.refl _ w7).setCell _ _ (by simp)
        have h7 := hE7.out
        have hgl := h7.lt
        exact ⟨⟨x1, l, x2⟩, ⟨h7.out.blk.keep hk (by omega), World.ownsRow_nil _ _ _ _, Nat.le_refl _, h7.out.rd.keep hk (by omega), h7.out.keep.setCell _ _ (by simp; omega), Nat.le_refl _, Nat.le_refl _⟩, by simpa using h7.ed.set_ 1 (.int .i64 (l : Nat)), (fun k hk => by cases hk), hgl⟩
    case rest =>
      clear hE hown hbl
      obtain ⟨y, hE⟩ := hcut
      replace hE := hid hE
      go_wp2_with fail
      go_loopw [9, 10] (fun mv iv wr => ∃ (m : Bool) (k : Nat) (v : Value) (es : List Ed), mv = .bool m ∧ iv = .int .i64 k ∧ k ≤ s.es.length ∧ ChSt w0 wr R (P + 200002) w0.heap.size ge s.al s.st v es (2 * k) y) (fun _ iv _ => s.es.length - (intOf iv).toNat)
      case atStart => exact ⟨b, 0, _, [], rfl, rfl, by omega, hE.out⟩
      case round =>
        obtain ⟨m, k, v, es, rfl, rfl, hk, hs⟩ := hrel
        clear hE
        replace hs := hid hs
        have hpw := hpk wr hs.out.out.keep
        have p2 := hpw.out.2.2
        by_cases hlt : k < s.es.length
        · have hlt' : (k : Int) < (s.es.length : Int) := by omega
          obtain ⟨sb, so, hA, hsb, hEs⟩ := hs0.out (by omega)
          have hsR : sb ≠ R := by have := hf.out sb so hA; omega
          obtain ⟨z, hz⟩ : ∃ z, Hid (z = s.es[k]) := ⟨_, hid rfl⟩
          have hzc : ∀ wx, KeepB (fun b => b = R) w0 wx → Hid (wx.cell? ⟨sb, so + k * 3, none⟩ = some (.int .i64 z.f) ∧ wx.cell? ⟨sb, so + k * 3 + 1, none⟩ = some (.int .i64 z.l) ∧ wx.cell? ⟨sb, so + k * 3 + 2, none⟩ = some (.int .i64 z.t)) := fun wx hkx => by
            have e := hEs k hlt
            rw [hz.out]
            exact hid ⟨by rw [KeepB.cell_ hkx hsb hsR]; exact e.1, by rw [KeepB.cell_ hkx hsb hsR]; exact e.2.1, by rw [KeepB.cell_ hkx hsb hsR]; exact e.2.2⟩
          have i1 : (0 : Int) ≤ (k : Int) ∧ (k : Int) < (s.es.length : Int) := by omega
          subst hA
          replace hEs := hid hEs
          replace hf := hid hf
          go_upto_region 11 with fail
          clear p2 hpw
          go_cut [67] (fun tv wx => ∃ tb : Bool, tv = .bool tb ∧ ChSt w0 wx R (P + 200002) w0.heap.size ge s.al s.st v es (2 * k) y)
          case first =>
            cases m
            · refine GK.wp_region 10 [] 200 (KeepB fun _ => False) (GK.BI wr) (fun _ u _ => u = .bool (edgeLt y z)) (by kernel_rfl) (by kernel_rfl) (GK.BI.way wr) (by decide) (Below.refl _ _).drew ?_
              simp only [List.take_succ_cons, List.take_zero]
              (repeat (refine GK.grow_quiet wr (by rfl) (by rfl) ?_; intro K hK; go_big_quiet_op; go_big_quiet_on))
              (repeat (refine GK.grow_skip (by rfl) ?_; simp only [Act.put, List.setIfInBounds_toArray, List.set_cons_zero, List.set_cons_succ]))
              (repeat (refine GK.grow_quiet wr (by rfl) (by rfl) ?_; intro K hK; go_big_quiet_op; go_big_quiet_on))
              refine GK.grow_nil ?_
              intro w4 hw4 _
              replace hw4 : Below wr.heap.size wr w4 := hw4
              simp only [List.filterMap_cons, List.filterMap_nil, List.getElem?_cons_zero, List.getElem?_cons_succ]
              have hS4 := hid (hs.out.later hw4 hR0)
              go_wp2_with fail
              go_meet
              exact ⟨_, rfl, hS4.out⟩
            · have hzw := hzc wr hs.out.out.keep
              have hpw := hpk wr hs.out.out.keep
              have q0 := GK.BI.cell hzw.out.1
              have q1 := GK.BI.cell hzw.out.2.1
              have q2 := GK.BI.cell hzw.out.2.2
              have q3 := GK.BI.cell hpw.out.2.2
              have y0 := hs.out.ed.cell 0
              have y1 := hs.out.ed.cell 1
              have y2 := hs.out.ed.cell 2
              simp only [List.getElem?_toArray, List.getElem?_cons_zero, List.getElem?_cons_succ] at y0 y1 y2
              replace y0 := GK.BI.cell y0
              replace y1 := GK.BI.cell y1
              replace y2 := GK.BI.cell y2
              refine GK.wp_region 10 [] 200 (KeepB fun _ => False) (GK.BI wr) (fun _ u _ => u = .bool (edgeLt y z)) (by kernel_rfl) (by kernel_rfl) (GK.BI.way wr) (by decide) (Below.refl _ _).drew ?_
              simp only [List.take_succ_cons, List.take_zero]
              (repeat (refine GK.grow_quiet wr (by rfl) (by rfl) ?_; intro K hK; go_big_quiet_op; go_big_quiet_on))
              refine GK.grow_call (by rfl) (fun u w w' _ h => h) (fun mm wq hm hbq hf => ?_) ?_
              · go_simp
                exact ⟨rfl, (l2Before_any y z wq).mono fun e w' ⟨h2, h3⟩ => ⟨h2, GK.BI.after hbq h3⟩⟩
              rintro u ⟨_, _, _, rfl⟩
              simp only [Act.put, List.setIfInBounds_toArray, List.set_cons_zero, List.set_cons_succ]
              (repeat (refine GK.grow_quiet wr (by rfl) (by rfl) ?_; intro K hK; go_big_quiet_op; go_big_quiet_on))
              refine GK.grow_nil ?_
              intro w4 hw4 _
              replace hw4 : Below wr.heap.size wr w4 := hw4
              simp only [List.filterMap_cons, List.filterMap_nil, List.getElem?_cons_zero, List.getElem?_cons_succ]
              have hS4 := hid (hs.out.later hw4 hR0)
              clear q0 q1 q2 q3 y0 y1 y2
              go_wp2_with fail
              go_meet
              exact ⟨_, rfl, hS4.out⟩
          case rest =>
            clear hs
            obtain ⟨tb, rfl, hs⟩ := hcut
            replace hs := hid hs
            go_upto_if 67 with fail
            go_cut [9] (fun mv wx => ∃ (m : Bool) (v : Value) (es : List Ed), mv = .bool m ∧ ChSt w0 wx R (P + 200002) w0.heap.size ge s.al s.st v es (2 * k + 1) y)
            case first =>
              cases tb
              · go_wp2_with fail
                go_meet
                exact ⟨_, _, _, rfl, hs.out.more (Nat.le_refl _) (by omega)⟩
              · obtain ⟨Av, cv, hve, hcv, hcv'⟩ := own_slice hs.out.out.own
                subst hve
                have g2 := hs.out.out.blk.cell 2
                have y0 := hs.out.ed.cell 0
                have y1 := hs.out.ed.cell 1
                have y2 := hs.out.ed.cell 2
                simp only [List.getElem?_toArray, List.getElem?_cons_zero, List.getElem?_cons_succ] at g2 y0 y1 y2
                have gl := hs.out.out.blk.lt
                have el := hs.out.ed.lt
                have hown := hid hs.out.out.own
                have hlen := hs.out.out.len
                go_wp2_with (at_builtin; refine wpList_append_own_at _ (by rfl) _ _ 23 (by rfl) w0.heap.size 50 i0 (.agg #[.int .i64 0, .int .i64 0, .int .i64 0]) 3 24 Tryz.underlying23 hi hz0 hz1 hz2 rfl (by decide) _ es.length (edCells es) (by rfl) (hown.out.alloc _) ⟨wc.heap.size, 0, none⟩ 1 1 [.int .i64 y.f, .int .i64 y.l, .int .i64 y.t] (by rfl) (by rfl) (World.news_of_block (heap_alloc_new wc _)) ?c1 ?c3 ?c4 ?c5 ?_)
                case c1 => simp [Value.oneCell']
                case c3 => unfold maxLen; omega
                case c4 => omega
                case c5 => have := hs.out.out.keep.size; simp; omega
                intro v9 w9 hown9 hgrow9 hnil9 hat9
                obtain ⟨A9, c9, hv9, -, -⟩ := own_slice hown9
                subst hv9
                have hL := hs.out.later ((Below.refl _ wc).alloc (Nat.le_refl _) (.cells #[.int .i64 y.f, .int .i64 y.l, .int .i64 y.t] 50)) hR0
                have ag := hL.out.ne
                have gll := hL.out.blk.lt
                have g2' : w9.cell? ⟨w0.heap.size, 2, none⟩ = some (.slice Av es.length cv) := by rw [hgrow9.cell_far _ gll (Ne.symm ag)]; exact hL.out.blk.cell 2
                have f2' : w9.frozen? ⟨w0.heap.size, 2, none⟩ = false := by rw [hgrow9.frozen_far _ gll (Ne.symm ag)]; exact hL.out.blk.frozen 2
                have h9 := hid (hL.add hR0 hown9 hgrow9 (by rw [World.size_alloc]; exact hat9))
                clear hown9 hgrow9 hnil9 hat9 hL g2 y0 y1 y2 ag
                go_wp2_with fail
                go_meet
                exact ⟨false, _, _, rfl, h9.out⟩
            case rest =>
              clear hs
              obtain ⟨m, v, es, rfl, hs⟩ := hcut
              replace hs := hid hs
              go_upto_region 14 with fail
              go_cut [83] (fun tv wx => ∃ tb : Bool, tv = .bool tb ∧ ChSt w0 wx R (P + 200002) w0.heap.size ge s.al s.st v es (2 * k + 1) y)
              case first =>
                cases m
                · refine GK.wp_region 10 [] 200 (KeepB fun _ => False) (GK.BI wc) (fun _ _ _ => True) (by kernel_rfl) (by kernel_rfl) (GK.BI.way wc) (by decide) (Below.refl _ _).drew ?_
                  simp only [List.take_succ_cons, List.take_zero]
                  (repeat (refine GK.grow_quiet wc (by rfl) (by rfl) ?_; intro K hK; go_big_quiet_op; go_big_quiet_on))
                  (repeat (refine GK.grow_skip (by rfl) ?_; simp only [Act.put, List.setIfInBounds_toArray, List.set_cons_zero, List.set_cons_succ]))
                  (repeat (refine GK.grow_quiet wc (by rfl) (by rfl) ?_; intro K hK; go_big_quiet_op; go_big_quiet_on))
                  refine GK.grow_nil ?_
                  intro w4 hw4 _
                  replace hw4 : Below wc.heap.size wc w4 := hw4
                  simp only [List.filterMap_cons, List.filterMap_nil, List.getElem?_cons_zero, List.getElem?_cons_succ]
                  have hS4 := hid (hs.out.later hw4 hR0)
                  go_wp2_with fail
                  go_meet
                  exact ⟨_, rfl, hS4.out⟩
                · have hzw := hzc wc hs.out.out.keep
                  have hpw := hpk wc hs.out.out.keep
                  have q0 := GK.BI.cell hzw.out.1
                  have q1 := GK.BI.cell hzw.out.2.1
                  have q2 := GK.BI.cell hzw.out.2.2
                  have q3 := GK.BI.cell hpw.out.2.2
                  have y0 := hs.out.ed.cell 0
                  have y1 := hs.out.ed.cell 1
                  have y2 := hs.out.ed.cell 2
                  simp only [List.getElem?_toArray, List.getElem?_cons_zero, List.getElem?_cons_succ] at y0 y1 y2
                  replace y0 := GK.BI.cell y0
                  replace y1 := GK.BI.cell y1
                  replace y2 := GK.BI.cell y2
                  refine GK.wp_region 10 [] 200 (KeepB fun _ => False) (GK.BI wc) (fun _ _ _ => True) (by kernel_rfl) (by kernel_rfl) (GK.BI.way wc) (by decide) (Below.refl _ _).drew ?_
                  simp only [List.take_succ_cons, List.take_zero]
                  (repeat (refine GK.grow_quiet wc (by rfl) (by rfl) ?_; intro K hK; go_big_quiet_op; go_big_quiet_on))
                  by_cases a1 : y.f = z.f <;> by_cases a2 : y.l = z.l <;> by_cases a3 : y.t = z.t
                  all_goals
                    (repeat (refine GK.grow_quiet wc (by rfl) (by rfl) ?_; intro K hK; go_big_quiet_op; go_big_quiet_on))
                    refine GK.grow_nil ?_
                    intro w4 hw4 _
                    replace hw4 : Below wc.heap.size wc w4 := hw4
                    simp only [List.filterMap_cons, List.filterMap_nil, List.getElem?_cons_zero, List.getElem?_cons_succ]
                    have hS4 := hid (hs.out.later hw4 hR0)
                    clear q0 q1 q2 q3 y0 y1 y2
                    go_wp2_with fail
                    go_meet
                    exact ⟨_, rfl, hS4.out⟩
              case rest =>
                clear hs
                obtain ⟨tb, rfl, hs⟩ := hcut
                replace hs := hid hs
                go_upto_if 83 with fail
                go_cut [9] (fun mv wx => ∃ (m : Bool), mv = .bool m ∧ ChSt w0 wx R (P + 200002) w0.heap.size ge s.al s.st v es (2 * k + 1) y)
                case first =>
                  cases tb
                  · go_wp2_with fail
                    go_meet
                    exact ⟨_, rfl, hs.out⟩
                  · go_wp2_with fail
                    go_meet
                    exact ⟨_, rfl, hs.out⟩
                case rest =>
                  clear hs
                  obtain ⟨m, rfl, hs⟩ := hcut
                  replace hs := hid hs
                  by_cases hg : (k : Int) = q
                  · have hgb : ((k : Int) != q) = false := by simp [hg]
                    replace hg := hid hg
                    go_wp2_with fail
                    go_roundw
                    case rel => exact ⟨m, k + 1, _, _, rfl, by go_num, by omega, hs.out.more (Nat.le_refl _) (by omega)⟩
                    case measure => simp [intOf]; omega
                  · have hgb : ((k : Int) != q) = true := by simp [hg]
                    replace hg := hid hg
                    obtain ⟨Av, cv, hve, hcv, hcv'⟩ := own_slice hs.out.out.own
                    subst hve
                    have hzw := hzc wc hs.out.out.keep
                    have hpw := hpk wc hs.out.out.keep
                    have q0 := GK.BI.cell hzw.out.1
                    have q1 := GK.BI.cell hzw.out.2.1
                    have q2 := GK.BI.cell hzw.out.2.2
                    have q3 := GK.BI.cell hpw.out.2.2
                    have g2 := hs.out.out.blk.cell 2
                    simp only [List.getElem?_toArray, List.getElem?_cons_zero, List.getElem?_cons_succ] at g2
                    replace g2 := GK.BI.cell g2
                    have ag := hid hs.out.out.ne
                    have hlen := hs.out.out.len
                    go_wp2_with fail
                    refine GK.wp_region 8 [8, 9, 10] 200 (KeepB fun _ => False) (GK.BI wc) (fun _ _ _ => True) (by kernel_rfl) (by kernel_rfl) (GK.BI.way wc) (by decide) (Below.refl _ _).drew ?_
                    simp only [List.take_succ_cons, List.take_zero]
                    (repeat (refine GK.grow_quiet wc (by rfl) (by rfl) ?_; intro K hK; go_big_quiet_op; go_big_quiet_on))
                    refine GK.grow_new (K := fun _ => False) (by rfl) _ (fun b => .slice (some ⟨b, 0, none⟩) 1 1) 50 #[.int .i64 z.f, .int .i64 z.l, .int .i64 z.t] (fun _ => by go_simp) rfl (fun _ _ o h => GK.BI.alloc o h) (fun _ _ h => GK.BI.size h) (fun _ h => h.elim) (fun nb hnb => ?_)
                    simp only [Act.put, List.setIfInBounds_toArray, List.set_cons_zero, List.set_cons_succ]
                    refine GK.grow_nil ?_
                    intro w4 hw4 hfx
                    obtain ⟨g', hge', hge2', hblk⟩ := hfx _ List.mem_cons_self
                    cases hge'
                    clear hfx q0 q1 q2 q3 g2
                    replace hw4 : Below wc.heap.size wc w4 := hw4
                    simp only [List.filterMap_cons, List.filterMap_nil, List.getElem?_cons_zero, List.getElem?_cons_succ]
                    have hS4 := hid (hs.out.later hw4 hR0)
                    have hb0s := hS4.out.out.keep.size
                    refine wpList_append_own_at _ (by rfl) _ _ 23 (by rfl) w0.heap.size 50 i0 (.agg #[.int .i64 0, .int .i64 0, .int .i64 0]) 3 24 Tryz.underlying23 hi hz0 hz1 hz2 rfl (by decide) _ es.length (edCells es) (by rfl) hS4.out.out.own ⟨nb, 0, none⟩ 1 1 [.int .i64 z.f, .int .i64 z.l, .int .i64 z.t] (by rfl) (by rfl) (World.news_of_block hblk) ?c1 ?c3 ?c4 ?c5 ?_
                    case c1 => simp [Value.oneCell']
                    case c3 => unfold maxLen; omega
                    case c4 => omega
                    case c5 => omega
                    intro v9 w9 hown9 hgrow9 hnil9 hat9
                    obtain ⟨A9, c9, hv9, -, -⟩ := own_slice hown9
                    subst hv9
                    have gll := hS4.out.out.blk.lt
                    have g2' : w9.cell? ⟨w0.heap.size, 2, none⟩ = some (.slice Av es.length cv) := by rw [hgrow9.cell_far _ gll (Ne.symm ag.out)]; exact hS4.out.out.blk.cell 2
                    have f2' : w9.frozen? ⟨w0.heap.size, 2, none⟩ = false := by rw [hgrow9.frozen_far _ gll (Ne.symm ag.out)]; exact hS4.out.out.blk.frozen 2
                    have h9 := hid ((hS4.out.add (y := z) hR0 hown9 hgrow9 hat9).more (P' := P + 200002) (L' := 2 * (k + 1)) (Nat.le_refl _) (by omega))
                    clear hown9 hgrow9 hnil9 hat9
                    go_wp2_with fail
                    go_roundw
                    case rel => exact ⟨m, k + 1, _, _, rfl, by go_num, by omega, h9.out⟩
                    case measure => simp [intOf]; omega
        · have hlt' : ¬ (k : Int) < (s.es.length : Int) := by omega
          cases m
          · obtain ⟨Av, cv, hve, hcv, hcv'⟩ := own_slice hs.out.out.own
            subst hve
            have hbl := hres.out.keep hs.out.out.keep (by omega)
            have d0 := hbl.cell 0
            have d1 := hbl.cell 1
            have d2 := hbl.cell 2
            have f0 := hbl.frozen 0
            have f1 := hbl.frozen 1
            have f2 := hbl.frozen 2
            have r0 := hs.out.out.blk.cell 0
            have r1 := hs.out.out.blk.cell 1
            have r2 := hs.out.out.blk.cell 2
            simp only [List.getElem?_toArray, List.getElem?_cons_zero, List.getElem?_cons_succ] at d0 d1 d2 r0 r1 r2
            have hlt9 := hbl.lt
            have hlt8 := hs.out.out.blk.lt
            have hfin := hid ((hs.out.out.up hb0 (P' := P + 4000000) (L' := 2 * L + 1) (by omega) (by omega)).fin (ρ := w.heap.size + 1) hR (by omega) (by have := hsz0.out; omega) (.int .i64 s.al) (.int .i64 s.st) (.slice Av es.length cv))
            clear hbl
            go_wp2
            refine bodyPost_ret (v := .agg #[.int .i64 s.al, .int .i64 s.st, .slice Av es.length cv]) (by simp [results, Tryz.results36, go_sem, d0, d1, d2]) rfl ?_
            exact hfin.out
          · obtain ⟨Av, cv, hve, hcv, hcv'⟩ := own_slice hs.out.out.own
            subst hve
            have g2 := hs.out.out.blk.cell 2
            have y0 := hs.out.ed.cell 0
            have y1 := hs.out.ed.cell 1
            have y2 := hs.out.ed.cell 2
            simp only [List.getElem?_toArray, List.getElem?_cons_zero, List.getElem?_cons_succ] at g2 y0 y1 y2
            have gl := hs.out.out.blk.lt
            have el := hs.out.ed.lt
            have hown := hid hs.out.out.own
            have hlen := hs.out.out.len
            go_wp2_with (at_builtin; refine wpList_append_own_at _ (by rfl) _ _ 23 (by rfl) w0.heap.size 50 i0 (.agg #[.int .i64 0, .int .i64 0, .int .i64 0]) 3 24 Tryz.underlying23 hi hz0 hz1 hz2 rfl (by decide) _ es.length (edCells es) (by rfl) (hown.out.alloc _) ⟨wr.heap.size, 0, none⟩ 1 1 [.int .i64 y.f, .int .i64 y.l, .int .i64 y.t] (by rfl) (by rfl) (World.news_of_block (heap_alloc_new wr _)) ?c1 ?c3 ?c4 ?c5 ?_)
            case c1 => simp [Value.oneCell']
            case c3 => unfold maxLen; omega
            case c4 => omega
            case c5 => have := hs.out.out.keep.size; simp; omega
            intro v9 w9 hown9 hgrow9 hnil9 hat9
            obtain ⟨A9, c9, hv9, -, -⟩ := own_slice hown9
            subst hv9
            have hL := hs.out.later ((Below.refl _ wr).alloc (Nat.le_refl _) (.cells #[.int .i64 y.f, .int .i64 y.l, .int .i64 y.t] 50)) hR0
            have ag := hL.out.ne
            have gll := hL.out.blk.lt
            have g2' : w9.cell? ⟨w0.heap.size, 2, none⟩ = some (.slice Av es.length cv) := by rw [hgrow9.cell_far _ gll (Ne.symm ag)]; exact hL.out.blk.cell 2
            have f2' : w9.frozen? ⟨w0.heap.size, 2, none⟩ = false := by rw [hgrow9.frozen_far _ gll (Ne.symm ag)]; exact hL.out.blk.frozen 2
            have h9 := hid (hL.add hR0 hown9 hgrow9 (by rw [World.size_alloc]; exact hat9))
            clear hown9 hgrow9 hnil9 hat9 hL g2 y0 y1 y2 ag
            have hbl := hres.out.keep h9.out.out.keep (by omega)
            have d0 := hbl.cell 0
            have d1 := hbl.cell 1
            have d2 := hbl.cell 2
            have f0 := hbl.frozen 0
            have f1 := hbl.frozen 1
            have f2 := hbl.frozen 2
            have r0 := h9.out.out.blk.cell 0
            have r1 := h9.out.out.blk.cell 1
            have r2 := h9.out.out.blk.cell 2
            simp only [List.getElem?_toArray, List.getElem?_cons_zero, List.getElem?_cons_succ] at d0 d1 d2 r0 r1 r2
            have hlt9 := hbl.lt
            have hlt8 := h9.out.out.blk.lt
            have hfin := hid ((h9.out.out.up hb0 (P' := P + 4000000) (L' := 2 * L + 1) (by omega) (by omega)).fin' (ρ := w.heap.size + 1) (n := es.length + 1) (by simp) hR (by omega) (by have := hsz0.out; omega) (.int .i64 s.al) (.int .i64 s.st) (.slice A9 (es.length + 1) c9))
            obtain ⟨w10, hw10⟩ : ∃ w10, w9.setCell ⟨w0.heap.size, 2, none⟩ (.slice A9 (es.length + 1) c9) = w10 := ⟨_, rfl⟩
            rw [hw10] at hfin d0 d1 d2 f0 f1 f2 r0 r1 r2 hlt9 hlt8
            clear hbl
            go_wp2
            refine bodyPost_ret (v := .agg #[.int .i64 s.al, .int .i64 s.st, .slice A9 (es.length + 1) c9]) (by simp [results, Tryz.results36, go_sem, d0, d1, d2]) rfl ?_
            exact hfin.out

end Go.Proofs.YtdkjnemakkppfaaGreatDoor

/- The drawing kit: l6Pair. -/
namespace Go.Proofs.YtdkjnemakkppfaaGreatDoor
open Go.RowKit Go.BigFrame AG

/-- A system that was drawn since w, whose edges lie in no block of K. -/
structure GotSy (w wr : World) (R L : Nat) (K : Nat → Prop) (s : Sy) (A : Option Addr) (c : Nat) : Prop where
  le : s.es.length ≤ c
  top : c ≤ 9223372036854775807
  len : s.es.length ≤ L
  at_ : EdsAt wr wr.heap.size A s.es
  fresh : FreshA w.heap.size A
  far : 0 < s.es.length → ∀ b o, A = some ⟨b, o, none⟩ → ¬ K b
theorem GotSy.keep {w wr w1 : World} {R L : Nat} {K J : Nat → Prop} {s : Sy} {A : Option Addr} {c : Nat} (h : GotSy w wr R L K s A c) (hk : KeepB J wr w1) (hJ : ∀ b, w.heap.size ≤ b → J b → K b) : GotSy w w1 R L K s A c := by
  refine ⟨h.le, h.top, h.len, fun hn => ?_, h.fresh, h.far⟩
  obtain ⟨b, o, hA, hb, hE⟩ := h.at_ hn
  have h1 := h.fresh b o hA
  have h2 := h.far hn b o hA
  have hnb : ¬ J b := fun e => h2 (hJ b h1 e)
  refine ⟨b, o, hA, Nat.lt_of_lt_of_le hb hk.size, fun i hi => ?_⟩
  rw [KeepB.cell_ hk hb hnb, KeepB.cell_ hk hb hnb, KeepB.cell_ hk hb hnb]
  exact hE i hi
theorem GotSy.call {w wr w1 : World} {R L : Nat} {K : Nat → Prop} {s : Sy} {A : Option Addr} {c : Nat} (h : GotSy w wr R L K s A c) (hk : KeepB (fun b => b = R) wr w1) (hR : R < w.heap.size) : GotSy w w1 R L K s A c := h.keep hk fun b h1 h2 => by omega
theorem GotSy.more {w wr : World} {R L L' : Nat} {K : Nat → Prop} {s : Sy} {A : Option Addr} {c : Nat} (h : GotSy w wr R L K s A c) (hL : L ≤ L') : GotSy w wr R L' K s A c := ⟨h.le, h.top, by have := h.len; omega, h.at_, h.fresh, h.far⟩
/-- What a drawing call gives is apart from all that was there. -/
theorem GotSy.new {w wr w1 : World} {R L : Nat} {K : Nat → Prop} {s : Sy} {A : Option Addr} {c : Nat} (h1 : s.es.length ≤ c) (h2 : c ≤ 9223372036854775807) (h3 : s.es.length ≤ L) (h4 : EdsAt w1 w1.heap.size A s.es) (h5 : FreshA wr.heap.size A) (hw : w.heap.size ≤ wr.heap.size) (hK : ∀ b, K b → b < wr.heap.size) : GotSy w w1 R L K s A c :=
  ⟨h1, h2, h3, h4, fun b o e => by have := h5 b o e; omega, fun _ b o e hk => by have := h5 b o e; have := hK b hk; omega⟩

/-- Two systems in two blocks. -/
structure TwoSt (w wr : World) (R P L b4 b5 : Nat) (s t : Sy) (A B : Option Addr) (c d : Nat) : Prop where
  sb : Blk wr b4 25 #[.int .i64 s.al, .int .i64 s.st, .slice A s.es.length c]
  tb : Blk wr b5 25 #[.int .i64 t.al, .int .i64 t.st, .slice B t.es.length d]
  sg : GotSy w wr R L (fun b => b = b4 ∨ b = b5) s A c
  tg : GotSy w wr R L (fun b => b = b4 ∨ b = b5) t B d
  rd : RdUp wr R P
  keep : KeepB (fun b => b = R) w wr
  l4 : w.heap.size ≤ b4
  l5 : w.heap.size ≤ b5
  ne : b4 ≠ b5
theorem TwoSt.call {w wr w1 : World} {R P P' L b4 b5 : Nat} {s t : Sy} {A B : Option Addr} {c d : Nat} (h : TwoSt w wr R P L b4 b5 s t A B c d) (hk : KeepB (fun b => b = R) wr w1) (hr : RdUp w1 R P') (hR : R < w.heap.size) : TwoSt w w1 R P' L b4 b5 s t A B c d :=
  ⟨h.sb.keep hk (by have := h.l4; omega), h.tb.keep hk (by have := h.l5; omega), h.sg.call hk hR, h.tg.call hk hR, hr, h.keep.trans hk, h.l4, h.l5, h.ne⟩
theorem TwoSt.more {w wr : World} {R P P' L L' b4 b5 : Nat} {s t : Sy} {A B : Option Addr} {c d : Nat} (h : TwoSt w wr R P L b4 b5 s t A B c d) (hP : P ≤ P') (hL : L ≤ L') : TwoSt w wr R P' L' b4 b5 s t A B c d :=
  ⟨h.sb, h.tb, h.sg.more hL, h.tg.more hL, h.rd.more hP, h.keep, h.l4, h.l5, h.ne⟩
theorem TwoSt.setS {w wr : World} {R P L b4 b5 : Nat} {s t s' : Sy} {A B A' : Option Addr} {c d c' : Nat} (h : TwoSt w wr R P L b4 b5 s t A B c d) (hs : GotSy w wr R L (fun b => b = b4 ∨ b = b5) s' A' c') (hR : R < w.heap.size) :
    TwoSt w (((wr.setCell ⟨b4, 0, none⟩ (.int .i64 s'.al)).setCell ⟨b4, 1, none⟩ (.int .i64 s'.st)).setCell ⟨b4, 2, none⟩ (.slice A' s'.es.length c')) R P L b4 b5 s' t A' B c' d := by
  have hk : KeepB (fun b => b = b4) wr (((wr.setCell ⟨b4, 0, none⟩ (.int .i64 s'.al)).setCell ⟨b4, 1, none⟩ (.int .i64 s'.st)).setCell ⟨b4, 2, none⟩ (.slice A' s'.es.length c')) := (((KeepB.refl _ wr).setCell _ _ (by simp)).setCell _ _ (by simp)).setCell _ _ (by simp)
  have h4 := h.l4
  have h5 := h.l5
  have hne := h.ne
  refine ⟨by simpa using ((h.sb.set_ 0 (.int .i64 s'.al)).set_ 1 (.int .i64 s'.st)).set_ 2 (.slice A' s'.es.length c'), h.tb.keep hk (by omega), hs.keep hk (fun b _ e => .inl e), h.tg.keep hk (fun b _ e => .inl e), h.rd.keep hk (by omega), ?_, h4, h5, hne⟩
  exact ((h.keep.setCell _ _ (by simp; omega)).setCell _ _ (by simp; omega)).setCell _ _ (by simp; omega)
theorem TwoSt.setT {w wr : World} {R P L b4 b5 : Nat} {s t t' : Sy} {A B B' : Option Addr} {c d d' : Nat} (h : TwoSt w wr R P L b4 b5 s t A B c d) (ht : GotSy w wr R L (fun b => b = b4 ∨ b = b5) t' B' d') (hR : R < w.heap.size) :
    TwoSt w (((wr.setCell ⟨b5, 0, none⟩ (.int .i64 t'.al)).setCell ⟨b5, 1, none⟩ (.int .i64 t'.st)).setCell ⟨b5, 2, none⟩ (.slice B' t'.es.length d')) R P L b4 b5 s t' A B' c d' := by
  have hk : KeepB (fun b => b = b5) wr (((wr.setCell ⟨b5, 0, none⟩ (.int .i64 t'.al)).setCell ⟨b5, 1, none⟩ (.int .i64 t'.st)).setCell ⟨b5, 2, none⟩ (.slice B' t'.es.length d')) := (((KeepB.refl _ wr).setCell _ _ (by simp)).setCell _ _ (by simp)).setCell _ _ (by simp)
  have h4 := h.l4
  have h5 := h.l5
  have hne := h.ne
  refine ⟨h.sb.keep hk (by omega), by simpa using ((h.tb.set_ 0 (.int .i64 t'.al)).set_ 1 (.int .i64 t'.st)).set_ 2 (.slice B' t'.es.length d'), h.sg.keep hk (fun b _ e => .inr e), ht.keep hk (fun b _ e => .inr e), h.rd.keep hk (by omega), ?_, h4, h5, hne⟩
  exact ((h.keep.setCell _ _ (by simp; omega)).setCell _ _ (by simp; omega)).setCell _ _ (by simp; omega)

/-- A statement at a block's end may be cut around too. -/
theorem cut_here {P : Program} {c : Code} {Q : Exit → Act → World → Prop} {a : Act} {w : World} (h : ∀ K : Act → World → Prop, (∀ a w, Q .normal a w → K a w) → c.wp P (Exit.then K Q) a w) : c.wp P Q a w := by
  refine wp_mono (h (fun a w => Q .normal a w) fun _ _ q => q) ?_
  intro e a' w' hq
  cases e <;> exact hq

theorem EdsAt.take {w : World} {B : Nat} {A : Option Addr} {es : List Ed} (h : EdsAt w B A es) (n : Nat) : EdsAt w B A (es.take n) := fun hn => by
  rw [List.length_take] at hn
  obtain ⟨b, o, h1, h2, h3⟩ := h (by omega)
  refine ⟨b, o, h1, h2, fun i hi => ?_⟩
  have := h3 i (by rw [List.length_take] at hi; omega)
  simpa [List.getElem_take] using this

def PairUp (R P L : Nat) (w : World) (e : Ending) (w' : World) : Prop :=
  ∃ (s t : Sy) (A B : Option Addr) (c d : Nat), e = .returned (.tuple #[s.val A c, t.val B d]) ∧ GotSy w w' R L (fun _ => False) s A c ∧ GotSy w w' R L (fun _ => False) t B d ∧ RdUp w' R P ∧ KeepB (fun b => b = R) w w'

theorem PairUp.drew {R P L : Nat} {w w' : World} {e : Ending} (h : PairUp R P L w e w') : PairUp R P L w e w'.drew := by
  obtain ⟨s, t, A, B, c, d, he, h1, h2, h3, h4⟩ := h
  have hb : Below w'.heap.size w' w'.drew := (Below.refl _ _).drew
  exact ⟨s, t, A, B, c, d, he, h1.keep (KeepB.of_below (K := fun _ => False) hb) (fun _ _ h => h), h2.keep (KeepB.of_below (K := fun _ => False) hb) (fun _ _ h => h), h3.later hb, h4.trans (KeepB.of_below hb)⟩
theorem TwoSt.fin {w w0 wr : World} {R P P' L L' b4 b5 : Nat} {s t : Sy} {A B : Option Addr} {c d : Nat} (h : TwoSt w0 wr R P L b4 b5 s t A B c d) (hb : Below w.heap.size w w0) (hsz : w.heap.size + 2 ≤ w0.heap.size) (hR : R < w.heap.size) (hP : P ≤ P') (hL : L ≤ L') {v1 v2 v3 v4 v5 v6 : Value} :
    PairUp R P' L' w (.returned (.tuple #[.agg #[.int .i64 s.al, .int .i64 s.st, .slice A s.es.length c], .agg #[.int .i64 t.al, .int .i64 t.st, .slice B t.es.length d]]))
      ((((((wr.setCell ⟨w.heap.size, 0, none⟩ v1).setCell ⟨w.heap.size, 1, none⟩ v2).setCell ⟨w.heap.size, 2, none⟩ v3).setCell ⟨w.heap.size + 1, 0, none⟩ v4).setCell ⟨w.heap.size + 1, 1, none⟩ v5).setCell ⟨w.heap.size + 1, 2, none⟩ v6) := by
  have hk : KeepB (fun b => b = w.heap.size ∨ b = w.heap.size + 1) wr ((((((wr.setCell ⟨w.heap.size, 0, none⟩ v1).setCell ⟨w.heap.size, 1, none⟩ v2).setCell ⟨w.heap.size, 2, none⟩ v3).setCell ⟨w.heap.size + 1, 0, none⟩ v4).setCell ⟨w.heap.size + 1, 1, none⟩ v5).setCell ⟨w.heap.size + 1, 2, none⟩ v6) :=
    ((((((KeepB.refl _ wr).setCell _ _ (by simp)).setCell _ _ (by simp)).setCell _ _ (by simp)).setCell _ _ (by simp)).setCell _ _ (by simp)).setCell _ _ (by simp)
  have hg : ∀ {s : Sy} {A : Option Addr} {c : Nat}, GotSy w0 wr R L (fun b => b = b4 ∨ b = b5) s A c → GotSy w ((((((wr.setCell ⟨w.heap.size, 0, none⟩ v1).setCell ⟨w.heap.size, 1, none⟩ v2).setCell ⟨w.heap.size, 2, none⟩ v3).setCell ⟨w.heap.size + 1, 0, none⟩ v4).setCell ⟨w.heap.size + 1, 1, none⟩ v5).setCell ⟨w.heap.size + 1, 2, none⟩ v6) R L' (fun _ => False) s A c := fun {s A c} g => by
    have g2 := g.keep hk fun b h1 h2 => by omega
    exact ⟨g2.le, g2.top, by have := g2.len; omega, g2.at_, fun b o e => by have := g2.fresh b o e; omega, fun _ _ _ _ h => h⟩
  refine ⟨s, t, A, B, c, d, rfl, hg h.sg, hg h.tg, (h.rd.more hP).keep hk (by omega), ?_⟩
  exact ((((((((KeepB.of_below hb).trans h.keep).setCell _ _ (by simp)).setCell _ _ (by simp)).setCell _ _ (by simp)).setCell _ _ (fun hh => by have : w.heap.size + 1 < w.heap.size := hh; omega)).setCell _ _ (fun hh => by have : w.heap.size + 1 < w.heap.size := hh; omega)).setCell _ _ (fun hh => by have : w.heap.size + 1 < w.heap.size := hh; omega))

set_option maxRecDepth 100000 in
set_option maxHeartbeats 16000000 in
theorem l6Pair_up (R P : Nat) (w : World) (hP : P + 50000000 ≤ 1125899906842624) (hr : RdUp w R P) :
    Calls Tryz.prog 67 #[.pointer (some ⟨R, 0, none⟩)] w (PairUp R (P + 20000000) 40000 w) := by
  have hR := hr.lt
  have hres2 := (Blk.new w 25 #[.int .i64 0, .int .i64 0, .slice none 0 0]).alloc (.cells #[.int .i64 0, .int .i64 0, .slice none 0 0] 25)
  have hres3 := Blk.new (w.alloc (.cells #[.int .i64 0, .int .i64 0, .slice none 0 0] 25)) 25 #[.int .i64 0, .int .i64 0, .slice none 0 0]
  have hb0 : Below w.heap.size w ((w.alloc (.cells #[.int .i64 0, .int .i64 0, .slice none 0 0] 25)).alloc (.cells #[.int .i64 0, .int .i64 0, .slice none 0 0] 25)) := ((Below.refl _ _).alloc (Nat.le_refl _) _).alloc (by simp) _
  have hsz0 : ((w.alloc (.cells #[.int .i64 0, .int .i64 0, .slice none 0 0] 25)).alloc (.cells #[.int .i64 0, .int .i64 0, .slice none 0 0] 25)).heap.size = w.heap.size + 2 := by simp
  simp only [World.size_alloc] at hres3
  generalize hw0 : (w.alloc (.cells #[.int .i64 0, .int .i64 0, .slice none 0 0] 25)).alloc (.cells #[.int .i64 0, .int .i64 0, .slice none 0 0] 25) = w0 at hres2 hres3 hb0 hsz0
  have hr0 := hid (hr.later hb0)
  have hR0 : R < w0.heap.size := by omega
  replace hres2 := hid hres2
  replace hres3 := hid hres3
  replace hsz0 := hid hsz0
  clear hr
  go_enter Tryz.func67, Tryz.ntmps67
  go_wp2_with fail
  refine (l2Draw_up R P w0 (by omega) hr0.out).mono ?_
  rintro e w1 ⟨s, A, c, rfl, a1, a2, a3, a4, a5, a6, a7⟩
  unfold Sy.val
  have hz1 := a7.size
  have hba : Below w1.heap.size w1 (w1.alloc (.cells #[.int .i64 s.al, .int .i64 s.st, .slice A s.es.length c] 25)) := (Below.refl _ _).alloc (Nat.le_refl _) _
  have hs1 := hid (a4.later hba)
  have hnb := Blk.new w1 25 #[.int .i64 s.al, .int .i64 s.st, .slice A s.es.length c]
  have hkr1 := hid (a7.trans (KeepB.of_below hba))
  have hrd1 := hid (a6.later hba)
  have hfa := hid a5
  have hfar : Hid (∀ b o, A = some ⟨b, o, none⟩ → 0 < s.es.length → b < w1.heap.size) := hid (fun b o e hn => by obtain ⟨b', o', e', hb', -⟩ := a4 hn; rw [e] at e'; cases e'; exact hb')
  generalize hwa : w1.alloc (.cells #[.int .i64 s.al, .int .i64 s.st, .slice A s.es.length c] 25) = wa at hs1 hnb hkr1 hrd1 hba
  have hza : w1.heap.size < wa.heap.size := hnb.lt
  clear a4 a5 a6 a7 hw0
  have c0 := hnb.cell 0
  have c1 := hnb.cell 1
  have c2 := hnb.cell 2
  simp only [List.getElem?_toArray, List.getElem?_cons_zero, List.getElem?_cons_succ] at c0 c1 c2
  go_wp2_with fail
  refine (l6Change_up R (P + 2000) 1536 s A c wa (by omega) a1 a2 a3 (by omega) hs1.out (fun b o e => by have := hfa.out b o e; omega) hrd1.out).mono ?_
  rintro e w2 ⟨t, B, d, rfl, b1, b2, b3, b4, b5, b6, b7⟩
  unfold Sy.val
  have hz2 := b7.size
  have hbb : Below w2.heap.size w2 (w2.alloc (.cells #[.int .i64 t.al, .int .i64 t.st, .slice B t.es.length d] 25)) := (Below.refl _ _).alloc (Nat.le_refl _) _
  have hT2 : TwoSt w0 (w2.alloc (.cells #[.int .i64 t.al, .int .i64 t.st, .slice B t.es.length d] 25)) R (P + 2000 + 4000000) 3073 w1.heap.size w2.heap.size s t A B c d := by
    refine ⟨(hnb.keep b7 (by omega)).alloc _, Blk.new w2 _ _, ⟨a1, a2, by omega, (EdsAt.keepR hs1.out b7 (fun b o e => by have := hfa.out b o e; omega)).later hbb, hfa.out, fun hn b o e hk => ?_⟩, ⟨b1, b2, b3, b4.later hbb, fun b o e => by have := b5 b o e; omega, fun hn b o e hk => ?_⟩, b6.later hbb, (hkr1.out.trans b7).trans (KeepB.of_below hbb), by omega, by omega, by omega⟩
    · have := hfar.out b o e hn; omega
    · obtain ⟨b', o', e', hb', -⟩ := b4 hn
      rw [e] at e'; cases e'
      have := b5 b o e
      omega
  generalize hwb : w2.alloc (.cells #[.int .i64 t.al, .int .i64 t.st, .slice B t.es.length d] 25) = wb at hT2 hbb
  replace hT2 := hid hT2
  clear b4 b5 b6 b7 hbb hs1 hnb hkr1 hrd1 hfa hfar hwa hba c0 c1 c2
  go_wp2_with fail
  refine (pick_up R (P + 2000 + 4000000) 4 wb (by omega) (by omega) hT2.out.rd).mono ?_
  rintro e w3 ⟨j, rfl, hj0, hj1, hr3, hk3⟩
  have hT3 := hid (hT2.out.call hk3 hr3 hR0)
  clear hr3 hk3 hT2 hwb
  go_upto_if 13 with fail
  refine cut_here fun KC hKC => ?_
  go_cut [] (fun wx => ∃ (t : Sy) (B : Option Addr) (d : Nat), TwoSt w0 wx R (P + 9000000) 7000 w1.heap.size w2.heap.size s t A B c d)
  case first =>
    by_cases h0 : j = 0
    · subst h0
      have c0 := hT3.out.sb.cell 0
      simp only [List.getElem?_toArray, List.getElem?_cons_zero, List.getElem?_cons_succ] at c0
      have hneR : w1.heap.size ≠ R := by omega
      have q0 := RI.cell hT3.out.rd c0 hneR
      go_wp2_with fail
      clear c0
      refine GK.wp_region 9 [9, 10] 200 (KeepB fun b => b = R) (RI w3 R (P + 2000 + 4000000 + 1)) (fun _ u _ => ∃ x : Int, u = .int .i64 x ∧ x ≤ 4) (by kernel_rfl) (by kernel_rfl) (RI.way w3 R _) (by decide) (RI.drew hT3.out.rd) ?_
      simp only [List.take_succ_cons, List.take_zero]
      (repeat (refine GK.grow_quiet w3 (by rfl) (by rfl) ?_; intro K hK; go_big_quiet_op; go_big_quiet_on))
      refine GK.grow_new (K := fun b => b = R) (by rfl) w3.heap.size (fun b => .slice (some ⟨b, 0, none⟩) 4 4) 3 #[.int .i64 2, .int .i64 3, .int .i64 1, .int .i64 4] (fun _ => by go_simp) rfl (fun _ _ o h => RI.alloc o h) (fun _ _ h => RI.size h) (fun k hk => by have := hT3.out.rd.lt; omega) (fun g hg => ?_)
      simp only [Act.put, List.setIfInBounds_toArray, List.set_cons_zero, List.set_cons_succ]
      (repeat (refine GK.grow_quiet w3 (by rfl) (by rfl) ?_; intro K hK; go_big_quiet_op; go_big_quiet_on))
      refine GK.grow_call (by rfl) (fun u w w' _ h => h) (fun m wq hm hbq hf => ?_) ?_
      · obtain ⟨b', z1, z2, z3⟩ := hf _ List.mem_cons_self (by kernel_rfl)
        cases z1
        have hlt4 := hT3.out.rd.lt
        go_simp
        exact ⟨rfl, (num_blk R (P + 2000 + 4000000 + 1 + m * 10000) g [2, 3, 1, 4] wq _ (by decide) (by decide) (by omega) z3 (by omega) hbq.2).mono fun e w' ⟨x, h1, h2, h3, h4⟩ => ⟨_, h2, RI.call hbq h4 h3 (by omega), x, rfl, by simp at h1; omega⟩⟩
      rintro u ⟨_, _, _, x1, rfl, hx1⟩
      simp only [Act.put, List.setIfInBounds_toArray, List.set_cons_zero, List.set_cons_succ]
      (repeat (refine GK.grow_quiet w3 (by rfl) (by rfl) ?_; intro K hK; go_big_quiet_op; go_big_quiet_on))
      refine GK.grow_new (K := fun b => b = R) (by rfl) w3.heap.size (fun b => .slice (some ⟨b, 0, none⟩) 2 2) 3 #[.int .i64 2, .int .i64 3] (fun _ => by go_simp) rfl (fun _ _ o h => RI.alloc o h) (fun _ _ h => RI.size h) (fun k hk => by have := hT3.out.rd.lt; omega) (fun g2 hg2 => ?_)
      simp only [Act.put, List.setIfInBounds_toArray, List.set_cons_zero, List.set_cons_succ]
      (repeat (refine GK.grow_quiet w3 (by rfl) (by rfl) ?_; intro K hK; go_big_quiet_op; go_big_quiet_on))
      refine GK.grow_call (by rfl) (fun u w w' _ h => h) (fun m wq hm hbq hf => ?_) ?_
      · obtain ⟨b', z1, z2, z3⟩ := hf _ List.mem_cons_self (by kernel_rfl)
        cases z1
        have hlt4 := hT3.out.rd.lt
        go_simp
        exact ⟨rfl, (num_blk R (P + 2000 + 4000000 + 1 + m * 10000) g2 [2, 3] wq _ (by decide) (by decide) (by omega) z3 (by omega) hbq.2).mono fun e w' ⟨x, h1, h2, h3, h4⟩ => ⟨_, h2, RI.call hbq h4 h3 (by omega), x, rfl, by simp at h1; omega⟩⟩
      rintro u ⟨_, _, _, x2, rfl, hx2⟩
      simp only [Act.put, List.setIfInBounds_toArray, List.set_cons_zero, List.set_cons_succ]
      refine GK.grow_nil ?_
      intro w4 hw4 _
      simp only [List.filterMap_cons, List.filterMap_nil, List.getElem?_cons_zero, List.getElem?_cons_succ]
      have hT4 := hid (hT3.out.call hw4.1 hw4.2 hR0)
      clear q0 hw4
      go_wp2_with fail
      refine (l2Random_up R _ s.al x1 x2 w4 (by omega) (by omega) (by omega) hT4.out.rd).mono ?_
      rintro e w5 ⟨t', B', d', rfl, a1, a2, a3, a4, a5, a6, a7⟩
      unfold Sy.val
      have hT5 := (hT4.out.call a7 a6 hR0).more (L' := 7000) (Nat.le_refl _) (by omega)
      have h4l := hT4.out.sb.lt
      have h5l := hT4.out.tb.lt
      have hG := GotSy.new (w := w0) (R := R) (L := 7000) (K := fun b => b = w1.heap.size ∨ b = w2.heap.size) a1 a2 (by omega) a4 a5 hT4.out.keep.size (by rintro b (e | e) <;> omega)
      have hT6 := hid ((hT5.setT hG hR0).more (P' := P + 9000000) (L' := 7000) (by omega) (Nat.le_refl _))
      have f0 := hT5.tb.frozen 0
      have f1 := hT5.tb.frozen 1
      have f2 := hT5.tb.frozen 2
      have d0 := hT5.tb.cell 0
      have d1 := hT5.tb.cell 1
      have d2 := hT5.tb.cell 2
      simp only [List.getElem?_toArray, List.getElem?_cons_zero, List.getElem?_cons_succ] at d0 d1 d2
      have h5l5 := hT5.tb.lt
      clear a4 a5 a6 a7 hT5 hG
      go_wp2_with fail
      go_meet
      exact ⟨t', B', d', hT6.out⟩
    · have h0b : ((j : Int) == 0) = false := by simpa using h0
      replace h0 := hid h0
      by_cases h1 : j = 1
      · subst h1
        have d0 := hT3.out.tb.cell 0
        have d1 := hT3.out.tb.cell 1
        have d2 := hT3.out.tb.cell 2
        simp only [List.getElem?_toArray, List.getElem?_cons_zero, List.getElem?_cons_succ] at d0 d1 d2
        go_wp2_with fail
        refine (l6Change_up R (P + 2000 + 4000000 + 1) 3073 t B d w3 (by omega) hT3.out.tg.le hT3.out.tg.top hT3.out.tg.len (by omega) hT3.out.tg.at_ (fun b o e => by have := hT3.out.tg.fresh b o e; omega) hT3.out.rd).mono ?_
        rintro e w5 ⟨t', B', d', rfl, a1, a2, a3, a4, a5, a6, a7⟩
        unfold Sy.val
        clear d0 d1 d2
        have hT5 := (hT3.out.call a7 a6 hR0).more (L' := 7000) (Nat.le_refl _) (by omega)
        have h4l := hT3.out.sb.lt
        have h5l := hT3.out.tb.lt
        have hG := GotSy.new (w := w0) (R := R) (L := 7000) (K := fun b => b = w1.heap.size ∨ b = w2.heap.size) a1 a2 (by omega) a4 a5 hT3.out.keep.size (by rintro b (e | e) <;> omega)
        have hT6 := hid ((hT5.setT hG hR0).more (P' := P + 9000000) (L' := 7000) (by omega) (Nat.le_refl _))
        have f0 := hT5.tb.frozen 0
        have f1 := hT5.tb.frozen 1
        have f2 := hT5.tb.frozen 2
        have d0 := hT5.tb.cell 0
        have d1 := hT5.tb.cell 1
        have d2 := hT5.tb.cell 2
        simp only [List.getElem?_toArray, List.getElem?_cons_zero, List.getElem?_cons_succ] at d0 d1 d2
        have h5l5 := hT5.tb.lt
        clear a4 a5 a6 a7 hT5 hG
        go_wp2_with fail
        go_meet
        exact ⟨t', B', d', hT6.out⟩
      · have h1b : ((j : Int) == 1) = false := by simpa using h1
        replace h1 := hid h1
        go_wp2_with fail
        go_meet
        exact ⟨t, B, d, hT3.out.more (by omega) (by omega)⟩
  case rest =>
    refine hKC _ _ ?_
    clear hT3
    obtain ⟨t, B, d, hT3⟩ := hcut
    replace hT3 := hid hT3
    go_wp2_with fail
    refine (pick_up R (P + 9000000) 24 wc (by omega) (by omega) hT3.out.rd).mono ?_
    rintro e w8 ⟨j2, rfl, hj20, hj21, hr8, hk8⟩
    have hT8 := hid (hT3.out.call hk8 hr8 hR0)
    clear hr8 hk8 hT3
    go_upto_if 32 with fail
    refine cut_here fun KD hKD => ?_
    go_cut [] (fun wx => ∃ (s t : Sy) (A B : Option Addr) (c d : Nat), TwoSt w0 wx R (P + 15000000) 8000 w1.heap.size w2.heap.size s t A B c d)
    case first =>
      by_cases h0 : j2 = 0
      · subst h0
        have d0 := hT8.out.sb.cell 0
        have d1 := hT8.out.sb.cell 1
        have d2 := hT8.out.sb.cell 2
        simp only [List.getElem?_toArray, List.getElem?_cons_zero, List.getElem?_cons_succ] at d0 d1 d2
        go_wp2_with fail
        refine (l2Wrong_up R (P + 9000001) 7000 s A c w8 (by omega) hT8.out.sg.le hT8.out.sg.top hT8.out.sg.len (by omega) hT8.out.sg.at_ hT8.out.rd).mono ?_
        rintro e w9 ⟨s1, A1, c1, rfl, a1, a2, a3, a4, a5, a6, a7⟩
        unfold Sy.val
        clear d0 d1 d2
        have hT9 := hid (hT8.out.call a7 a6 hR0)
        have hE9 := hid a4
        have hr9 := hid a6
        clear a4 a5 a6 a7
        go_wp2_with fail
        refine (l2Wrong_up R (P + 9000001 + 400000) 7001 s1 A1 c1 w9 (by omega) a1 a2 a3 (by omega) hE9.out hr9.out).mono ?_
        rintro e w10 ⟨s2, A2, c2, rfl, e1, e2, e3, e4, e5, e6, e7⟩
        unfold Sy.val
        have hT10 := hid (hT9.out.call e7 e6 hR0)
        have hE10 := hid e4
        have hr10 := hid e6
        clear a1 a2 a3 e4 e5 e6 e7
        go_wp2_with fail
        refine (l2Wrong_up R (P + 9000001 + 400000 + 400000) 7002 s2 A2 c2 w10 (by omega) e1 e2 e3 (by omega) hE10.out hr10.out).mono ?_
        rintro e w11 ⟨s3, A3, c3, rfl, a1, a2, a3, a4, a5, a6, a7⟩
        unfold Sy.val
        clear e1 e2 e3
        have h4l := hT10.out.sb.lt
        have h5l := hT10.out.tb.lt
        have hG := GotSy.new (w := w0) (R := R) (L := 8000) (K := fun b => b = w1.heap.size ∨ b = w2.heap.size) a1 a2 (by omega) a4 a5 hT10.out.keep.size (by rintro b (e | e) <;> omega)
        have hT5 := (hT10.out.call a7 a6 hR0).more (L' := 8000) (Nat.le_refl _) (by omega)
        have hT6 := hid ((hT5.setS hG hR0).more (P' := P + 15000000) (L' := 8000) (by omega) (Nat.le_refl _))
        have f0 := hT5.sb.frozen 0
        have f1 := hT5.sb.frozen 1
        have f2 := hT5.sb.frozen 2
        have d0 := hT5.sb.cell 0
        have d1 := hT5.sb.cell 1
        have d2 := hT5.sb.cell 2
        simp only [List.getElem?_toArray, List.getElem?_cons_zero, List.getElem?_cons_succ] at d0 d1 d2
        have h5l5 := hT5.sb.lt
        clear a4 a5 a6 a7 hT5 hG
        go_wp2_with fail
        go_meet
        exact ⟨_, _, _, _, _, _, hT6.out⟩
      · have h0b : ((j2 : Int) == 0) = false := by simpa using h0
        replace h0 := hid h0
        by_cases h1 : j2 = 1
        · subst h1
          have d0 := hT8.out.tb.cell 0
          have d1 := hT8.out.tb.cell 1
          have d2 := hT8.out.tb.cell 2
          simp only [List.getElem?_toArray, List.getElem?_cons_zero, List.getElem?_cons_succ] at d0 d1 d2
          go_wp2_with fail
          refine (l2Wrong_up R (P + 9000001) 7000 t B d w8 (by omega) hT8.out.tg.le hT8.out.tg.top hT8.out.tg.len (by omega) hT8.out.tg.at_ hT8.out.rd).mono ?_
          rintro e w9 ⟨s1, A1, c1, rfl, a1, a2, a3, a4, a5, a6, a7⟩
          unfold Sy.val
          clear d0 d1 d2
          have hT9 := hid (hT8.out.call a7 a6 hR0)
          have hE9 := hid a4
          have hr9 := hid a6
          clear a4 a5 a6 a7
          go_wp2_with fail
          refine (l2Wrong_up R (P + 9000001 + 400000) 7001 s1 A1 c1 w9 (by omega) a1 a2 a3 (by omega) hE9.out hr9.out).mono ?_
          rintro e w10 ⟨s2, A2, c2, rfl, e1, e2, e3, e4, e5, e6, e7⟩
          unfold Sy.val
          have hT10 := hid (hT9.out.call e7 e6 hR0)
          have hE10 := hid e4
          have hr10 := hid e6
          clear a1 a2 a3 e4 e5 e6 e7
          go_wp2_with fail
          refine (l2Wrong_up R (P + 9000001 + 400000 + 400000) 7002 s2 A2 c2 w10 (by omega) e1 e2 e3 (by omega) hE10.out hr10.out).mono ?_
          rintro e w11 ⟨s3, A3, c3, rfl, a1, a2, a3, a4, a5, a6, a7⟩
          unfold Sy.val
          clear e1 e2 e3
          have h4l := hT10.out.sb.lt
          have h5l := hT10.out.tb.lt
          have hG := GotSy.new (w := w0) (R := R) (L := 8000) (K := fun b => b = w1.heap.size ∨ b = w2.heap.size) a1 a2 (by omega) a4 a5 hT10.out.keep.size (by rintro b (e | e) <;> omega)
          have hT5 := (hT10.out.call a7 a6 hR0).more (L' := 8000) (Nat.le_refl _) (by omega)
          have hT6 := hid ((hT5.setT hG hR0).more (P' := P + 15000000) (L' := 8000) (by omega) (Nat.le_refl _))
          have f0 := hT5.tb.frozen 0
          have f1 := hT5.tb.frozen 1
          have f2 := hT5.tb.frozen 2
          have d0 := hT5.tb.cell 0
          have d1 := hT5.tb.cell 1
          have d2 := hT5.tb.cell 2
          simp only [List.getElem?_toArray, List.getElem?_cons_zero, List.getElem?_cons_succ] at d0 d1 d2
          have h5l5 := hT5.tb.lt
          clear a4 a5 a6 a7 hT5 hG
          go_wp2_with fail
          go_meet
          exact ⟨_, _, _, _, _, _, hT6.out⟩
        · have h1b : ((j2 : Int) == 1) = false := by simpa using h1
          replace h1 := hid h1
          by_cases h2 : j2 = 2
          · subst h2
            go_wp2_with fail
            refine (l2Draw_up R (P + 9000001) w8 (by omega) hT8.out.rd).mono ?_
            rintro e w9 ⟨s1, A1, c1, rfl, a1, a2, a3, a4, a5, a6, a7⟩
            unfold Sy.val
            have h4l := hT8.out.sb.lt
            have h5l := hT8.out.tb.lt
            have hG := GotSy.new (w := w0) (R := R) (L := 8000) (K := fun b => b = w1.heap.size ∨ b = w2.heap.size) a1 a2 (by omega) a4 a5 hT8.out.keep.size (by rintro b (e | e) <;> omega)
            have hT5 := (hT8.out.call a7 a6 hR0).more (L' := 8000) (Nat.le_refl _) (by omega)
            have hT6 := hid ((hT5.setT hG hR0).more (P' := P + 15000000) (L' := 8000) (by omega) (Nat.le_refl _))
            have f0 := hT5.tb.frozen 0
            have f1 := hT5.tb.frozen 1
            have f2 := hT5.tb.frozen 2
            have d0 := hT5.tb.cell 0
            have d1 := hT5.tb.cell 1
            have d2 := hT5.tb.cell 2
            simp only [List.getElem?_toArray, List.getElem?_cons_zero, List.getElem?_cons_succ] at d0 d1 d2
            have h5l5 := hT5.tb.lt
            clear a4 a5 a6 a7 hT5 hG
            go_wp2_with fail
            go_meet
            exact ⟨_, _, _, _, _, _, hT6.out⟩
          · have h2b : ((j2 : Int) == 2) = false := by simpa using h2
            replace h2 := hid h2
            by_cases h3 : j2 = 3
            · subst h3
              go_wp2_with fail
              refine (l2Big_up R (P + 9000001) w8 (by omega) hT8.out.rd).mono ?_
              rintro e w9 ⟨s1, A1, c1, rfl, a1, a2, a3, a4, a5, a6, a7, a8⟩
              unfold Sy.val
              have hn4 := hT8.out.sb.lt
              have hn5 := hT8.out.tb.lt
              have hG := GotSy.new (w := w0) (R := R) (L := 8000) (K := fun b => b = w1.heap.size ∨ b = w2.heap.size) a1 a2 (by omega) a4 a5 hT8.out.keep.size (by rintro b (e | e) <;> omega)
              have hT5 := (hT8.out.call a7 a6 hR0).more (L' := 8000) (Nat.le_refl _) (by omega)
              have hT6 := hT5.setS hG hR0
              have f0 := hT5.sb.frozen 0
              have f1 := hT5.sb.frozen 1
              have f2 := hT5.sb.frozen 2
              have d0 := hT5.sb.cell 0
              have d1 := hT5.sb.cell 1
              have d2 := hT5.sb.cell 2
              simp only [List.getElem?_toArray, List.getElem?_cons_zero, List.getElem?_cons_succ] at d0 d1 d2
              have h5l5 := hT5.sb.lt
              obtain ⟨w10, hw10⟩ : ∃ w10, ((w9.setCell ⟨w1.heap.size, 0, none⟩ (.int .i64 s1.al)).setCell ⟨w1.heap.size, 1, none⟩ (.int .i64 s1.st)).setCell ⟨w1.heap.size, 2, none⟩ (.slice A1 s1.es.length c1) = w10 := ⟨_, rfl⟩
              rw [hw10] at hT6
              replace hT6 := hid hT6
              obtain ⟨n, hn⟩ : ∃ n, Hid (s1.es.length = n + 1) := ⟨s1.es.length - 1, hid (by omega)⟩
              clear a4 a5 a6 a7 hT5 hG
              go_upto_region 17 with fail
              clear d0 d1 d2 f0 f1 f2 hw10
              have c0 := hT6.out.sb.cell 0
              have c1' := hT6.out.sb.cell 1
              have c2 := hT6.out.sb.cell 2
              simp only [List.getElem?_toArray, List.getElem?_cons_zero, List.getElem?_cons_succ] at c0 c1' c2
              have q0 := GK.BI.cell c0
              have q1 := GK.BI.cell c1'
              have q2 := GK.BI.cell c2
              have hnl := hn.out
              have k1 : IntKind.i64.wrap ((s1.es.length : Int) - 1) = (n : Int) := by rw [IntWalk.i64_in _ (by omega)]; omega
              have k2 : (0 : Int) ≤ (n : Int) := by omega
              have k3 : (n : Int) ≤ (c1 : Int) := by omega
              have hlt : (s1.es.take n).length = n := by rw [List.length_take]; omega
              have hEt := hid (EdsAt.take hT6.out.sg.at_ n)
              obtain ⟨i0, hi, hz0, hz1, hz2⟩ := info_parts infoEd
              clear c0 c1' c2
              refine GK.wp_region 13 [13, 14] 200 (KeepB fun _ => False) (GK.BI w10) (fun _ _ _ => True) (by kernel_rfl) (by kernel_rfl) (GK.BI.way w10) (by decide) (Below.refl _ _).drew ?_
              simp only [List.take_succ_cons, List.take_zero]
              (repeat (refine GK.grow_quiet w10 (by rfl) (by rfl) ?_; intro K hK; go_big_quiet_op; go_big_quiet_on))
              refine GK.grow_new (K := fun _ => False) (by rfl) _ (fun b => .slice (some ⟨b, 0, none⟩) 0 0) 50 #[] (fun _ => by go_simp) rfl (fun _ _ o h => GK.BI.alloc o h) (fun _ _ h => GK.BI.size h) (fun _ h => h.elim) (fun b hb => ?_)
              simp only [Act.put, List.setIfInBounds_toArray, List.set_cons_zero, List.set_cons_succ]
              (repeat (refine GK.grow_quiet w10 (by rfl) (by rfl) ?_; intro K hK; go_big_quiet_op; go_big_quiet_on))
              refine GK.grow_copy (by rfl) _ _ 23 (by rfl) 50 i0 (.agg #[.int .i64 0, .int .i64 0, .int .i64 0]) 3 24 Tryz.underlying23 hi hz0 hz1 hz2 rfl b (by rfl) (fun w hf => ?_) A1 n c1 (edCells (s1.es.take n)) (by rfl) (by rw [edCells_len, hlt]) (fun hn => EdsAt.news hEt.out (by rw [hlt]; exact hn)) (edCells_one _) (by unfold maxLen; omega) (by omega) fun v hv => ?_
              · obtain ⟨b', e1, e2, e3⟩ := hf _ List.mem_cons_self (by kernel_rfl)
                cases e1
                exact ⟨e2, e3⟩
              obtain ⟨Av, cv, hve, -, -⟩ : ∃ Av cv, v = .slice Av n cv ∧ n ≤ cv ∧ cv ≤ 9223372036854775807 := by obtain ⟨_, _, hv⟩ := hv; exact own_slice hv
              subst hve
              clear hv
              simp only [Act.put, List.setIfInBounds_toArray, List.set_cons_zero, List.set_cons_succ]
              refine GK.grow_nil ?_
              intro w11 hw11 hf
              simp only [List.filterMap_cons, List.filterMap_nil, List.getElem?_cons_zero, List.getElem?_cons_succ]
              have hown := hf _ List.mem_cons_self
              replace hw11 : Below w10.heap.size w10 w11 := hw11
              clear hf q0 q1 q2
              have hown' : OwnEds w11 w10.heap.size (.slice Av n cv) (s1.es.take n) := by unfold OwnEds; rw [hlt]; exact hown
              obtain ⟨A2, c2, hve, e1, e2, e3, e4⟩ := OwnEds.read hown'
              rw [hlt] at hve e1
              cases hve
              have hT7 := (hT6.out.call (KeepB.of_below hw11) (hT6.out.rd.later hw11) hR0)
              have hlw : w1.heap.size < w10.heap.size ∧ w2.heap.size < w10.heap.size := ⟨hT6.out.sb.lt, hT6.out.tb.lt⟩
              have hG := GotSy.new (w := w0) (R := R) (L := 8000) (K := fun b => b = w1.heap.size ∨ b = w2.heap.size) (s := ⟨s1.al, s1.st, s1.es.take n⟩) (by show (s1.es.take n).length ≤ cv; rw [hlt]; exact e1) e2 (by show (s1.es.take n).length ≤ 8000; omega) e3 e4 hT6.out.keep.size (by rintro b (e | e) <;> omega)
              have hT8 := ((hT7.setT hG hR0).more (P' := P + 15000000) (L' := 8000) (by omega) (Nat.le_refl _))
              simp only [hlt] at hT8
              replace hT8 := hid hT8
              have f0 := hT7.tb.frozen 0
              have f1 := hT7.tb.frozen 1
              have f2 := hT7.tb.frozen 2
              have d0 := hT7.tb.cell 0
              have d1 := hT7.tb.cell 1
              have d2 := hT7.tb.cell 2
              simp only [List.getElem?_toArray, List.getElem?_cons_zero, List.getElem?_cons_succ] at d0 d1 d2
              have h5l5 := hT7.tb.lt
              clear hT7 hG hown hown'
              go_wp2_with fail
              go_meet
              exact ⟨_, _, _, _, _, _, hT8.out⟩
            · have h3b : ((j2 : Int) == 3) = false := by simpa using h3
              replace h3 := hid h3
              go_wp2_with fail
              go_meet
              exact ⟨_, _, _, _, _, _, hT8.out.more (by omega) (by omega)⟩
    case rest =>
      refine hKD _ _ ?_
      clear hT8
      obtain ⟨s, t, A, B, c, d, hT⟩ := hcut
      have hk := hT.keep
      have hb2 := hres2.out.keep hk (by omega)
      have hb3 := hres3.out.keep hk (by omega)
      have c0 := hT.sb.cell 0
      have c1 := hT.sb.cell 1
      have c2 := hT.sb.cell 2
      have d0 := hT.tb.cell 0
      have d1 := hT.tb.cell 1
      have d2 := hT.tb.cell 2
      have r0 := hb2.cell 0
      have r1 := hb2.cell 1
      have r2 := hb2.cell 2
      have r3 := hb3.cell 0
      have r4 := hb3.cell 1
      have r5 := hb3.cell 2
      have f0 := hb2.frozen 0
      have f1 := hb2.frozen 1
      have f2 := hb2.frozen 2
      have f3 := hb3.frozen 0
      have f4 := hb3.frozen 1
      have f5 := hb3.frozen 2
      simp only [List.getElem?_toArray, List.getElem?_cons_zero, List.getElem?_cons_succ] at c0 c1 c2 d0 d1 d2 r0 r1 r2 r3 r4 r5
      have s0 := hsz0.out
      have n1 : w1.heap.size ≠ w.heap.size := by omega
      have n2 : w1.heap.size ≠ w.heap.size + 1 := by omega
      have n3 : w2.heap.size ≠ w.heap.size := by omega
      have n4 : w2.heap.size ≠ w.heap.size + 1 := by omega
      have l1 := hT.sb.lt
      have l2 := hT.tb.lt
      have l3 := hb2.lt
      have l4 := hb3.lt
      have hfin := hid (hT.fin (hb0) (by omega : w.heap.size + 2 ≤ w0.heap.size) hR (P' := P + 20000000) (L' := 40000) (by omega) (by omega) (v1 := .int .i64 s.al) (v2 := .int .i64 s.st) (v3 := .slice A s.es.length c) (v4 := .int .i64 t.al) (v5 := .int .i64 t.st) (v6 := .slice B t.es.length d))
      clear hb2 hb3 hk hT
      go_wp2_with fail
      go_region
      go_wp2
      refine bodyPost_ret (v := .tuple #[.agg #[.int .i64 s.al, .int .i64 s.st, .slice A s.es.length c], .agg #[.int .i64 t.al, .int .i64 t.st, .slice B t.es.length d]]) (by simp [results, Tryz.results67, go_sem, r0, r1, r2, r3, r4, r5]) rfl ?_
      exact hfin.out.drew

end Go.Proofs.YtdkjnemakkppfaaGreatDoor

/- The drawing kit: the pairs of systems that are drawn for FirstTraceOutside, TracesWithin, SameTraces. -/
namespace Go.Proofs.YtdkjnemakkppfaaGreatDoor
open Go.RowKit Go.BigFrame AG

def DrawPair (w : World) (e : Ending) (w' : World) : Prop := ∃ (s t : Sy) (A B : Option Addr) (c d : Nat), e = .returned (.tuple #[s.val A c, t.val B d]) ∧ s.es.length ≤ c ∧ c ≤ 9223372036854775807 ∧ t.es.length ≤ d ∧ d ≤ 9223372036854775807 ∧
  EdsAt w' w'.heap.size A s.es ∧ EdsAt w' w'.heap.size B t.es ∧ Below w.heap.size w w'
theorem DrawPair.of {w w1 wr : World} {R L : Nat} {K J : Nat → Prop} {s t : Sy} {A B : Option Addr} {c d : Nat} (h1 : GotSy w1 wr R L K s A c) (h2 : GotSy w1 wr R L J t B d) (hz : w.heap.size + 2 ≤ w1.heap.size) (hb : Below w.heap.size w wr) (v1 v2 v3 v4 v5 v6 : Value) :
    DrawPair w (.returned (.tuple #[.agg #[.int .i64 s.al, .int .i64 s.st, .slice A s.es.length c], .agg #[.int .i64 t.al, .int .i64 t.st, .slice B t.es.length d]]))
      ((((((wr.setCell ⟨w.heap.size, 0, none⟩ v1).setCell ⟨w.heap.size, 1, none⟩ v2).setCell ⟨w.heap.size, 2, none⟩ v3).setCell ⟨w.heap.size + 1, 0, none⟩ v4).setCell ⟨w.heap.size + 1, 1, none⟩ v5).setCell ⟨w.heap.size + 1, 2, none⟩ v6) := by
  have hk : KeepB (fun b => b = w.heap.size ∨ b = w.heap.size + 1) wr ((((((wr.setCell ⟨w.heap.size, 0, none⟩ v1).setCell ⟨w.heap.size, 1, none⟩ v2).setCell ⟨w.heap.size, 2, none⟩ v3).setCell ⟨w.heap.size + 1, 0, none⟩ v4).setCell ⟨w.heap.size + 1, 1, none⟩ v5).setCell ⟨w.heap.size + 1, 2, none⟩ v6) :=
    ((((((KeepB.refl _ wr).setCell _ _ (by simp)).setCell _ _ (by simp)).setCell _ _ (by simp)).setCell _ _ (by simp)).setCell _ _ (by simp)).setCell _ _ (by simp)
  exact ⟨s, t, A, B, c, d, rfl, h1.le, h1.top, h2.le, h2.top, (h1.keep hk fun b h1 h2 => by omega).at_, (h2.keep hk fun b h1 h2 => by omega).at_, KeepB.below hb hk hb.size (fun k hk => by omega)⟩


set_option maxRecDepth 100000 in
set_option maxHeartbeats 4000000 in
theorem drawTracesWithin_any (A : Option Addr) (n c : Nat) (w : World) (hn : n ≤ c) (hc : c ≤ 9223372036854775807) (hx : CodeAt w A n) :
    Calls Tryz.prog 23 #[.slice A n c] w (DrawPair w) := by
  have hres2 := (Blk.new w 25 #[.int .i64 0, .int .i64 0, .slice none 0 0]).alloc (.cells #[.int .i64 0, .int .i64 0, .slice none 0 0] 25)
  have hres3 := Blk.new (w.alloc (.cells #[.int .i64 0, .int .i64 0, .slice none 0 0] 25)) 25 #[.int .i64 0, .int .i64 0, .slice none 0 0]
  have hb0 : Below w.heap.size w ((w.alloc (.cells #[.int .i64 0, .int .i64 0, .slice none 0 0] 25)).alloc (.cells #[.int .i64 0, .int .i64 0, .slice none 0 0] 25)) := ((Below.refl _ _).alloc (Nat.le_refl _) _).alloc (by simp) _
  have hz0 : ((w.alloc (.cells #[.int .i64 0, .int .i64 0, .slice none 0 0] 25)).alloc (.cells #[.int .i64 0, .int .i64 0, .slice none 0 0] 25)).heap.size = w.heap.size + 2 := by simp
  simp only [World.size_alloc] at hres3
  generalize hw0 : (w.alloc (.cells #[.int .i64 0, .int .i64 0, .slice none 0 0] 25)).alloc (.cells #[.int .i64 0, .int .i64 0, .slice none 0 0] 25) = w0 at hres2 hres3 hb0 hz0
  have hx0 : CodeAt w0 A n := fun h => by
    obtain ⟨b, o, h1, h2, h3⟩ := hx h
    refine ⟨b, o, h1, by omega, fun i hi => ?_⟩
    obtain ⟨y, h4, h5⟩ := h3 i hi
    exact ⟨y, h4, by rw [hb0.cell (by simpa using h2)]; exact h5⟩
  replace hres2 := hid hres2
  replace hres3 := hid hres3
  replace hz0 := hid hz0
  replace hx := hid hx
  replace hx0 := hid hx0
  go_enter Tryz.func23, Tryz.ntmps23
  go_wp2_with fail
  refine (l19Open_any A n c w0 hn hc hx0.out).mono ?_
  rintro e w1 ⟨R, rfl, hR, hr1, hb1⟩
  replace hr1 := hid hr1
  have hz1 := hb1.size
  clear hw0
  go_wp2_with fail
  refine (l6Pair_up R 0 w1 (by omega) hr1.out).mono ?_
  rintro e w2 ⟨s, t, A', B', c', d', rfl, h1, h2, -, h4⟩
  unfold Sy.val
  have hzz := hz0.out
  have hB2 : Below w0.heap.size w0 w2 := KeepB.below hb1 h4 hb1.size (fun k hk => by omega)
  have hfin := hid (DrawPair.of h1 h2 (by omega) (hb0.trans (hB2.mono (by omega))) (.int .i64 s.al) (.int .i64 s.st) (.slice A' s.es.length c') (.int .i64 t.al) (.int .i64 t.st) (.slice B' t.es.length d'))
  have hbl2 := hres2.out.below hB2 (by omega)
  have hbl3 := hres3.out.below hB2 (by omega)
  have d0 := hbl2.cell 0
  have d1 := hbl2.cell 1
  have d2 := hbl2.cell 2
  have e0 := hbl3.cell 0
  have e1 := hbl3.cell 1
  have e2 := hbl3.cell 2
  have f0 := hbl2.frozen 0
  have f1 := hbl2.frozen 1
  have f2 := hbl2.frozen 2
  have g0 := hbl3.frozen 0
  have g1 := hbl3.frozen 1
  have g2 := hbl3.frozen 2
  simp only [List.getElem?_toArray, List.getElem?_cons_zero, List.getElem?_cons_succ] at d0 d1 d2 e0 e1 e2
  have hl2 := hbl2.lt
  have hl3 := hbl3.lt
  clear h1 h2 h4 hbl2 hbl3 hB2 hb1
  go_wp2
  refine bodyPost_ret (v := .tuple #[.agg #[.int .i64 s.al, .int .i64 s.st, .slice A' s.es.length c'], .agg #[.int .i64 t.al, .int .i64 t.st, .slice B' t.es.length d']]) (by simp [results, Tryz.results23, go_sem, d0, d1, d2, e0, e1, e2]) rfl ?_
  exact hfin.out


end Go.Proofs.YtdkjnemakkppfaaGreatDoor

/- The drawing kit: DrawComposeSystems. Printed by tools/gen_e15.py. -/
namespace Go.Proofs.YtdkjnemakkppfaaGreatDoor
open Go.RowKit Go.BigFrame AG

theorem DrawPair.drew {w w' : World} {e : Ending} (h : DrawPair w e w') : DrawPair w e w'.drew := by
  obtain ⟨s, t, A, B, c, d, he, h1, h2, h3, h4, h5, h6, h7⟩ := h
  have hb : Below w'.heap.size w' w'.drew := (Below.refl _ _).drew
  exact ⟨s, t, A, B, c, d, he, h1, h2, h3, h4, h5.later hb, h6.later hb, h7.trans (hb.mono h7.size)⟩

set_option maxRecDepth 100000 in
set_option maxHeartbeats 16000000 in
theorem drawComposeSystems_any (A : Option Addr) (n c : Nat) (w : World) (hn : n ≤ c) (hc : c ≤ 9223372036854775807) (hx : CodeAt w A n) :
    Calls Tryz.prog 11 #[.slice A n c] w (DrawPair w) := by
  have hres2 := (Blk.new w 25 #[.int .i64 0, .int .i64 0, .slice none 0 0]).alloc (.cells #[.int .i64 0, .int .i64 0, .slice none 0 0] 25)
  have hres3 := Blk.new (w.alloc (.cells #[.int .i64 0, .int .i64 0, .slice none 0 0] 25)) 25 #[.int .i64 0, .int .i64 0, .slice none 0 0]
  have hb0 : Below w.heap.size w ((w.alloc (.cells #[.int .i64 0, .int .i64 0, .slice none 0 0] 25)).alloc (.cells #[.int .i64 0, .int .i64 0, .slice none 0 0] 25)) := ((Below.refl _ _).alloc (Nat.le_refl _) _).alloc (by simp) _
  have hz0 : ((w.alloc (.cells #[.int .i64 0, .int .i64 0, .slice none 0 0] 25)).alloc (.cells #[.int .i64 0, .int .i64 0, .slice none 0 0] 25)).heap.size = w.heap.size + 2 := by simp
  simp only [World.size_alloc] at hres3
  generalize hw0 : (w.alloc (.cells #[.int .i64 0, .int .i64 0, .slice none 0 0] 25)).alloc (.cells #[.int .i64 0, .int .i64 0, .slice none 0 0] 25) = w0 at hres2 hres3 hb0 hz0
  have hx0 : CodeAt w0 A n := fun h => by
    obtain ⟨b, o, h1, h2, h3⟩ := hx h
    refine ⟨b, o, h1, by omega, fun i hi => ?_⟩
    obtain ⟨y, h4, h5⟩ := h3 i hi
    exact ⟨y, h4, by rw [hb0.cell (by simpa using h2)]; exact h5⟩
  replace hres2 := hid hres2
  replace hres3 := hid hres3
  replace hz0 := hid hz0
  replace hx := hid hx
  replace hx0 := hid hx0
  go_enter Tryz.func11, Tryz.ntmps11
  go_wp2_with fail
  refine (l19Open_any A n c w0 hn hc hx0.out).mono ?_
  rintro e w1 ⟨R, rfl, hR, hr1, hb1⟩
  replace hr1 := hid hr1
  have hz1 := hb1.size
  have hR0 : R < w1.heap.size := hr1.out.lt
  clear hw0
  go_wp2_with fail
  refine (l2Small_up R 0 w1 (by omega) hr1.out).mono ?_
  rintro e w2 ⟨s, A', c', rfl, a1, a2, a3, a4, a5, a6, a7⟩
  unfold Sy.val
  have hz2 := a7.size
  have hba : Below w2.heap.size w2 (w2.alloc (.cells #[.int .i64 s.al, .int .i64 s.st, .slice A' s.es.length c'] 25)) := (Below.refl _ _).alloc (Nat.le_refl _) _
  have hs1 := hid (a4.later hba)
  have hnb := Blk.new w2 25 #[.int .i64 s.al, .int .i64 s.st, .slice A' s.es.length c']
  have hkr1 := hid (a7.trans (KeepB.of_below hba))
  have hrd1 := hid (a6.later hba)
  have hfa := hid a5
  have hfar : Hid (∀ b o, A' = some ⟨b, o, none⟩ → 0 < s.es.length → b < w2.heap.size) := hid (fun b o e hn => by obtain ⟨b', o', e', hb', -⟩ := a4 hn; rw [e] at e'; cases e'; exact hb')
  generalize hwa : w2.alloc (.cells #[.int .i64 s.al, .int .i64 s.st, .slice A' s.es.length c'] 25) = wa at hs1 hnb hkr1 hrd1 hba
  have hza : w2.heap.size < wa.heap.size := hnb.lt
  clear a4 a5 a6 a7
  replace hwa := hid hwa
  go_wp2_with fail
  try rw [hwa.out]
  refine (l2Small_up R (0 + 2000) wa (by omega) hrd1.out).mono ?_
  rintro e w3 ⟨t, B', d', rfl, b1, b2, b3, b4, b5, b6, b7⟩
  unfold Sy.val
  have hz3 := b7.size
  have hbb : Below w3.heap.size w3 (w3.alloc (.cells #[.int .i64 t.al, .int .i64 t.st, .slice B' t.es.length d'] 25)) := (Below.refl _ _).alloc (Nat.le_refl _) _
  have hT2 : TwoSt w1 (w3.alloc (.cells #[.int .i64 t.al, .int .i64 t.st, .slice B' t.es.length d'] 25)) R (0 + 2000 + 2000) 1536 w2.heap.size w3.heap.size s t A' B' c' d' := by
    refine ⟨(hnb.keep b7 (by omega)).alloc _, Blk.new w3 _ _, ⟨a1, a2, by omega, (EdsAt.keepR hs1.out b7 (fun b o e => by have := hfa.out b o e; omega)).later hbb, hfa.out, fun hn b o e hk => ?_⟩, ⟨b1, b2, b3, b4.later hbb, fun b o e => by have := b5 b o e; omega, fun hn b o e hk => ?_⟩, b6.later hbb, (hkr1.out.trans b7).trans (KeepB.of_below hbb), by omega, by omega, by omega⟩
    · have := hfar.out b o e hn; omega
    · obtain ⟨b', o', e', hb', -⟩ := b4 hn
      rw [e] at e'; cases e'
      have := b5 b o e
      omega
  generalize hwb : w3.alloc (.cells #[.int .i64 t.al, .int .i64 t.st, .slice B' t.es.length d'] 25) = wb at hT2 hbb
  replace hT2 := hid hT2
  clear b4 b5 b6 b7 hbb hs1 hnb hkr1 hrd1 hfa hfar hba
  replace hwb := hid hwb
  go_wp2_with fail
  try rw [hwb.out]
  refine (pick_up R (0 + 2000 + 2000) 8 wb (by omega) (by omega) hT2.out.rd).mono ?_
  rintro e w8 ⟨j, rfl, hj0, hj1, hr3, hk3⟩
  have hT8 := hid (hT2.out.call hk3 hr3 hR0)
  clear hr3 hk3 hT2
  go_upto_if 15 with fail
  refine cut_here fun KC hKC => ?_
  go_cut [] (fun wx => ∃ (s t : Sy) (A B : Option Addr) (c d : Nat), TwoSt w1 wx R 9000000 8000 w2.heap.size w3.heap.size s t A B c d)
  case first =>
    by_cases h0 : j = 0
    · subst h0
      go_wp2_with fail
      refine (l2Draw_up R (0 + 2000 + 2000 + 1) w8 (by omega) hT8.out.rd).mono ?_
      rintro e w9 ⟨s1, A1, c1, rfl, a1, a2, a3, a4, a5, a6, a7⟩
      unfold Sy.val
      have h4l := hT8.out.sb.lt
      have h5l := hT8.out.tb.lt
      have hG := GotSy.new (w := w1) (R := R) (L := 8000) (K := fun b => b = w2.heap.size ∨ b = w3.heap.size) a1 a2 (by omega) a4 a5 hT8.out.keep.size (by rintro b (e | e) <;> omega)
      have hT5 := (hT8.out.call a7 a6 hR0).more (L' := 8000) (Nat.le_refl _) (by omega)
      have hT6 := hid ((hT5.setS hG hR0).more (P' := 9000000) (L' := 8000) (by omega) (Nat.le_refl _))
      have f0 := hT5.sb.frozen 0
      have f1 := hT5.sb.frozen 1
      have f2 := hT5.sb.frozen 2
      have d0 := hT5.sb.cell 0
      have d1 := hT5.sb.cell 1
      have d2 := hT5.sb.cell 2
      simp only [List.getElem?_toArray, List.getElem?_cons_zero, List.getElem?_cons_succ] at d0 d1 d2
      have h5l5 := hT5.sb.lt
      clear a4 a5 a6 a7 hT5 hG
      go_wp2_with fail
      go_meet
      exact ⟨_, _, _, _, _, _, hT6.out⟩
    · have h0b : ((j : Int) == 0) = false := by simpa using h0
      replace h0 := hid h0
      by_cases h1 : j = 1
      · subst h1
        have d0 := hT8.out.sb.cell 0
        have d1 := hT8.out.sb.cell 1
        have d2 := hT8.out.sb.cell 2
        simp only [List.getElem?_toArray, List.getElem?_cons_zero, List.getElem?_cons_succ] at d0 d1 d2
        go_wp2_with fail
        refine (l6Change_up R (0 + 2000 + 2000 + 1) 1536 s A' c' w8 (by omega) hT8.out.sg.le hT8.out.sg.top hT8.out.sg.len (by omega) hT8.out.sg.at_ (fun b o e => by have := hT8.out.sg.fresh b o e; omega) hT8.out.rd).mono ?_
        rintro e w9 ⟨s1, A1, c1, rfl, a1, a2, a3, a4, a5, a6, a7⟩
        unfold Sy.val
        clear d0 d1 d2
        have h4l := hT8.out.sb.lt
        have h5l := hT8.out.tb.lt
        have hG := GotSy.new (w := w1) (R := R) (L := 8000) (K := fun b => b = w2.heap.size ∨ b = w3.heap.size) a1 a2 (by omega) a4 a5 hT8.out.keep.size (by rintro b (e | e) <;> omega)
        have hT5 := (hT8.out.call a7 a6 hR0).more (L' := 8000) (Nat.le_refl _) (by omega)
        have hT6 := hid ((hT5.setT hG hR0).more (P' := 9000000) (L' := 8000) (by omega) (Nat.le_refl _))
        have f0 := hT5.tb.frozen 0
        have f1 := hT5.tb.frozen 1
        have f2 := hT5.tb.frozen 2
        have d0 := hT5.tb.cell 0
        have d1 := hT5.tb.cell 1
        have d2 := hT5.tb.cell 2
        simp only [List.getElem?_toArray, List.getElem?_cons_zero, List.getElem?_cons_succ] at d0 d1 d2
        have h5l5 := hT5.tb.lt
        clear a4 a5 a6 a7 hT5 hG
        go_wp2_with fail
        go_meet
        exact ⟨_, _, _, _, _, _, hT6.out⟩
      · have h1b : ((j : Int) == 1) = false := by simpa using h1
        replace h1 := hid h1
        by_cases h2 : j = 2
        · subst h2
          go_wp2_with fail
          refine (l2Big_up R (0 + 2000 + 2000 + 1) w8 (by omega) hT8.out.rd).mono ?_
          rintro e w9 ⟨s1, A1, c1, rfl, a1, a2, a3, a4, a5, a6, a7, a8⟩
          clear a8
          unfold Sy.val
          have h4l := hT8.out.sb.lt
          have h5l := hT8.out.tb.lt
          have hG := GotSy.new (w := w1) (R := R) (L := 8000) (K := fun b => b = w2.heap.size ∨ b = w3.heap.size) a1 a2 (by omega) a4 a5 hT8.out.keep.size (by rintro b (e | e) <;> omega)
          have hT5 := (hT8.out.call a7 a6 hR0).more (L' := 8000) (Nat.le_refl _) (by omega)
          have hT6 := hid ((hT5.setS hG hR0).more (P' := 9000000) (L' := 8000) (by omega) (Nat.le_refl _))
          have f0 := hT5.sb.frozen 0
          have f1 := hT5.sb.frozen 1
          have f2 := hT5.sb.frozen 2
          have d0 := hT5.sb.cell 0
          have d1 := hT5.sb.cell 1
          have d2 := hT5.sb.cell 2
          simp only [List.getElem?_toArray, List.getElem?_cons_zero, List.getElem?_cons_succ] at d0 d1 d2
          have h5l5 := hT5.sb.lt
          clear a4 a5 a6 a7 hT5 hG
          go_wp2_with fail
          go_meet
          exact ⟨_, _, _, _, _, _, hT6.out⟩
        · have h2b : ((j : Int) == 2) = false := by simpa using h2
          replace h2 := hid h2
          by_cases h3 : j = 3
          · subst h3
            have d0 := hT8.out.tb.cell 0
            have d1 := hT8.out.tb.cell 1
            have d2 := hT8.out.tb.cell 2
            simp only [List.getElem?_toArray, List.getElem?_cons_zero, List.getElem?_cons_succ] at d0 d1 d2
            go_wp2_with fail
            refine (l2Wrong_up R (0 + 2000 + 2000 + 1) 1536 t B' d' w8 (by omega) hT8.out.tg.le hT8.out.tg.top hT8.out.tg.len (by omega) hT8.out.tg.at_ hT8.out.rd).mono ?_
            rintro e w9 ⟨s1, A1, c1, rfl, e1, e2, e3, e4, e5, e6, e7⟩
            unfold Sy.val
            clear d0 d1 d2
            have hT9 := hid (hT8.out.call e7 e6 hR0)
            have hE9 := hid e4
            have hr9 := hid e6
            clear e4 e5 e6 e7
            go_wp2_with fail
            refine (l2Wrong_up R ((0 + 2000 + 2000 + 1) + 400000) 1537 s1 A1 c1 w9 (by omega) e1 e2 e3 (by omega) hE9.out hr9.out).mono ?_
            rintro e w10 ⟨s2, A2, c2, rfl, a1, a2, a3, a4, a5, a6, a7⟩
            unfold Sy.val
            clear e1 e2 e3
            have h4l := hT9.out.sb.lt
            have h5l := hT9.out.tb.lt
            have hG := GotSy.new (w := w1) (R := R) (L := 8000) (K := fun b => b = w2.heap.size ∨ b = w3.heap.size) a1 a2 (by omega) a4 a5 hT9.out.keep.size (by rintro b (e | e) <;> omega)
            have hT5 := (hT9.out.call a7 a6 hR0).more (L' := 8000) (Nat.le_refl _) (by omega)
            have hT6 := hid ((hT5.setT hG hR0).more (P' := 9000000) (L' := 8000) (by omega) (Nat.le_refl _))
            have f0 := hT5.tb.frozen 0
            have f1 := hT5.tb.frozen 1
            have f2 := hT5.tb.frozen 2
            have d0 := hT5.tb.cell 0
            have d1 := hT5.tb.cell 1
            have d2 := hT5.tb.cell 2
            simp only [List.getElem?_toArray, List.getElem?_cons_zero, List.getElem?_cons_succ] at d0 d1 d2
            have h5l5 := hT5.tb.lt
            clear a4 a5 a6 a7 hT5 hG
            go_wp2_with fail
            go_meet
            exact ⟨_, _, _, _, _, _, hT6.out⟩
          · have h3b : ((j : Int) == 3) = false := by simpa using h3
            replace h3 := hid h3
            by_cases h4 : j = 4
            · subst h4
              go_wp2_with fail
              refine (l2Draw_up R (0 + 2000 + 2000 + 1) w8 (by omega) hT8.out.rd).mono ?_
              rintro e w9 ⟨s1, A1, c1, rfl, a1, a2, a3, a4, a5, a6, a7⟩
              unfold Sy.val
              have h4l := hT8.out.sb.lt
              have h5l := hT8.out.tb.lt
              have hG := GotSy.new (w := w1) (R := R) (L := 8000) (K := fun b => b = w2.heap.size ∨ b = w3.heap.size) a1 a2 (by omega) a4 a5 hT8.out.keep.size (by rintro b (e | e) <;> omega)
              have hT5 := (hT8.out.call a7 a6 hR0).more (L' := 8000) (Nat.le_refl _) (by omega)
              have hT6 := hid ((hT5.setS hG hR0).more (P' := 100000) (L' := 8000) (by omega) (Nat.le_refl _))
              have f0 := hT5.sb.frozen 0
              have f1 := hT5.sb.frozen 1
              have f2 := hT5.sb.frozen 2
              have d0 := hT5.sb.cell 0
              have d1 := hT5.sb.cell 1
              have d2 := hT5.sb.cell 2
              simp only [List.getElem?_toArray, List.getElem?_cons_zero, List.getElem?_cons_succ] at d0 d1 d2
              have h5l5 := hT5.sb.lt
              clear a4 a5 a6 a7 hT5 hG
              go_wp2_with fail
              clear d0 d1 d2 f0 f1 f2 h5l5 h4l h5l
              obtain ⟨wy, hwy⟩ : ∃ wy, ((w9.setCell ⟨w2.heap.size, 0, none⟩ (.int .i64 s1.al)).setCell ⟨w2.heap.size, 1, none⟩ (.int .i64 s1.st)).setCell ⟨w2.heap.size, 2, none⟩ (.slice A1 s1.es.length c1) = wy := ⟨_, rfl⟩
              rw [hwy] at hT6 ⊢
              clear hwy
              refine (l2Draw_up R 100000 wy (by omega) hT6.out.rd).mono ?_
              rintro e w10 ⟨s2, A2, c2, rfl, a1, a2, a3, a4, a5, a6, a7⟩
              unfold Sy.val
              have h4l := hT6.out.sb.lt
              have h5l := hT6.out.tb.lt
              have hG := GotSy.new (w := w1) (R := R) (L := 8000) (K := fun b => b = w2.heap.size ∨ b = w3.heap.size) a1 a2 (by omega) a4 a5 hT6.out.keep.size (by rintro b (e | e) <;> omega)
              have hT5 := (hT6.out.call a7 a6 hR0).more (L' := 8000) (Nat.le_refl _) (by omega)
              have hT7 := hid ((hT5.setT hG hR0).more (P' := 9000000) (L' := 8000) (by omega) (Nat.le_refl _))
              have f0 := hT5.tb.frozen 0
              have f1 := hT5.tb.frozen 1
              have f2 := hT5.tb.frozen 2
              have d0 := hT5.tb.cell 0
              have d1 := hT5.tb.cell 1
              have d2 := hT5.tb.cell 2
              simp only [List.getElem?_toArray, List.getElem?_cons_zero, List.getElem?_cons_succ] at d0 d1 d2
              have h5l5 := hT5.tb.lt
              clear a4 a5 a6 a7 hT5 hG
              go_wp2_with fail
              go_meet
              exact ⟨_, _, _, _, _, _, hT7.out⟩
            · have h4b : ((j : Int) == 4) = false := by simpa using h4
              replace h4 := hid h4
              go_wp2_with fail
              go_meet
              exact ⟨_, _, _, _, _, _, hT8.out.more (by omega) (by omega)⟩
  case rest =>
    refine hKC _ _ ?_
    clear hT8
    obtain ⟨s, t, A', B', c', d', hT⟩ := hcut
    have hk := hT.keep
    have hres2' := hres2.out.below hb1 (by have := hz0.out; omega)
    have hres3' := hres3.out.below hb1 (by have := hz0.out; omega)
    have hb2 := hres2'.keep hk (by have := hz0.out; omega)
    have hb3 := hres3'.keep hk (by have := hz0.out; omega)
    have c0 := hT.sb.cell 0
    have c1 := hT.sb.cell 1
    have c2 := hT.sb.cell 2
    have d0 := hT.tb.cell 0
    have d1 := hT.tb.cell 1
    have d2 := hT.tb.cell 2
    have r0 := hb2.cell 0
    have r1 := hb2.cell 1
    have r2 := hb2.cell 2
    have r3 := hb3.cell 0
    have r4 := hb3.cell 1
    have r5 := hb3.cell 2
    have f0 := hb2.frozen 0
    have f1 := hb2.frozen 1
    have f2 := hb2.frozen 2
    have f3 := hb3.frozen 0
    have f4 := hb3.frozen 1
    have f5 := hb3.frozen 2
    simp only [List.getElem?_toArray, List.getElem?_cons_zero, List.getElem?_cons_succ] at c0 c1 c2 d0 d1 d2 r0 r1 r2 r3 r4 r5
    have s0 := hz0.out
    have n1 : w2.heap.size ≠ w.heap.size := by omega
    have n2 : w2.heap.size ≠ w.heap.size + 1 := by omega
    have n3 : w3.heap.size ≠ w.heap.size := by omega
    have n4 : w3.heap.size ≠ w.heap.size + 1 := by omega
    have l1 := hT.sb.lt
    have l2 := hT.tb.lt
    have l3 := hb2.lt
    have l4 := hb3.lt
    have hBw : Below w.heap.size w wc := hb0.trans ((KeepB.below hb1 hk hb1.size (fun k hk => by omega)).mono (by omega))
    have hfin := hid (DrawPair.of hT.sg hT.tg (by omega) hBw (.int .i64 s.al) (.int .i64 s.st) (.slice A' s.es.length c') (.int .i64 t.al) (.int .i64 t.st) (.slice B' t.es.length d'))
    clear hb2 hb3 hk hT hres2' hres3'
    go_wp2_with fail
    go_region
    go_wp2
    refine bodyPost_ret (v := .tuple #[.agg #[.int .i64 s.al, .int .i64 s.st, .slice A' s.es.length c'], .agg #[.int .i64 t.al, .int .i64 t.st, .slice B' t.es.length d']]) (by simp [results, Tryz.results11, go_sem, r0, r1, r2, r3, r4, r5]) rfl ?_
    exact hfin.out.drew

end Go.Proofs.YtdkjnemakkppfaaGreatDoor

/- What ComposeSystems holds in memory: a list of nodes and a map of numbers. -/
namespace Go.Proofs.YtdkjnemakkppfaaGreatDoor
open Go.RowKit Go.BigFrame Go.Maps AG

/-- A map as a function. -/
structure MapF (D : DataW Unit) (f : Nat → Option Nat) : Prop where
  isMap : Maps.IsMap D
  has : ∀ T : Nat, Maps.has D (.int .i64 (T : Int)) = (f T).isSome
  at_ : ∀ T q, f T = some q → D.atKey (.int .i64 (T : Int)) (.lit (.int .i64 0)) = .lit (.int .i64 ((q : Nat) : Int))
theorem MapF.empty : MapF (.map []) (fun _ => none) := ⟨Maps.isMap_empty, fun T => rfl, fun T q h => (by cases h)⟩
theorem MapF.put {D : DataW Unit} {f : Nat → Option Nat} (h : MapF D f) (T q : Nat) : MapF (D.put (.int .i64 (T : Int)) (.lit (.int .i64 ((q : Nat) : Int)))) (fun x => if x = T then some q else f x) := by
  refine ⟨h.isMap.put _ _, fun x => ?_, fun x r hx => ?_⟩
  · by_cases e : x = T
    · subst e
      rw [Maps.has_put_same h.isMap (show WideAt.IsKeyLit (Lit.int .i64 (x : Int)) from trivial), if_pos rfl]
      rfl
    · rw [Maps.has_put_other (key_ne e), h.has x, if_neg e]
  · by_cases e : x = T
    · subst e
      rw [if_pos rfl] at hx
      injection hx with hx
      subst hx
      rw [Maps.atKey_put_same h.isMap (show WideAt.IsKeyLit (Lit.int .i64 (x : Int)) from trivial)]
    · rw [if_neg e] at hx
      rw [Maps.atKey_put_other (key_ne e), h.at_ x r hx]
theorem MapF.congr {D : DataW Unit} {f g : Nat → Option Nat} (h : MapF D f) (e : ∀ x, f x = g x) : MapF D g := by
  have : f = g := funext e
  rw [← this]
  exact h

structure CmSt (w wr : World) (B : Nat) (vP : Value) (ps : List Nat) (m : Nat) (D : DataW Unit) (f : Nat → Option Nat) : Prop where
  below : Below w.heap.size w wr
  own : wr.ownsRow w.heap.size 3 1 vP ps.length (natVals ps)
  map_ : wr.ownsMap Tryz.prog 3 (plainElem Tryz.prog 3) B m D
  ix : MapF D f
  geB : w.heap.size ≤ B
section
variable {w wr w1 : World} {B : Nat} {vP v' : Value} {ps : List Nat} {m : Nat} {D D' : DataW Unit} {f : Nat → Option Nat} {T q : Nat} {o : Obj}
theorem CmSt.later (h : CmSt w wr B vP ps m D f) (hb : Below wr.heap.size wr w1) : CmSt w w1 B vP ps m D f :=
  ⟨h.below.trans (hb.mono h.below.size), own_later_ h.own hb, h.map_.kept (grown_of_below hb) (by simp), h.ix, h.geB⟩
theorem CmSt.ne (h : CmSt w wr B vP ps m D f) : vP.ownBlock ≠ some B := fun e => own_ne_map h.own h.map_ B e rfl
/-- A node more. -/
theorem CmSt.app (h : CmSt w wr B vP ps m D f) (hg : (wr.alloc o).grownBy w1 vP.ownBlock) (ho : w1.ownsRow w.heap.size 3 1 v' (ps.length + 1) (natVals ps ++ [.int .i64 (T : Nat)])) : CmSt w w1 B v' (ps ++ [T]) m D f := by
  have hkA : KeepB (fun b => vP.ownBlock = some b) wr w1 := ((KeepB.refl _ wr).alloc o).grown hg fun k hk _ => hk
  refine ⟨hkA.below h.below h.below.size fun b e => own_block h.own b e, ?_, (h.map_.alloc o).kept hg fun e => h.ne e.symm, h.ix, h.geB⟩
  rw [List.length_append]
  unfold natVals at ho ⊢
  rw [List.map_append]
  exact ho
/-- A number is set. -/
theorem CmSt.put (h : CmSt w wr B vP ps m D f) (hm : w1.ownsMap Tryz.prog 3 (plainElem Tryz.prog 3) B (m + 1) (D.put (.int .i64 (T : Int)) (.lit (.int .i64 ((q : Nat) : Int))))) (hg : wr.grownBy w1 (some B)) :
    CmSt w w1 B vP ps (m + 1) (D.put (.int .i64 (T : Int)) (.lit (.int .i64 ((q : Nat) : Int)))) (fun x => if x = T then some q else f x) := by
  have hkA : KeepB (fun b => b = B) wr w1 := (KeepB.refl _ wr).grown hg fun k hk _ => by injection hk with hk; exact hk.symm
  exact ⟨hkA.below h.below h.below.size fun b e => by rw [e]; exact h.geB, own_keep h.own hkA fun g hg e => own_ne_map h.own h.map_ g hg e, hm, h.ix.put T q, h.geB⟩
end

/-- The nodes that have a number. -/
def memF (ps : List Nat) (x : Nat) : Option Nat := if x ∈ ps then some 0 else none
/-- The first i nodes have their own numbers. -/
def numF (ps : List Nat) (i : Nat) (x : Nat) : Option Nat := if x ∈ ps.take i then some (ps.idxOf x) else memF ps x
theorem memF_snoc (ps : List Nat) (T : Nat) (x : Nat) : (if x = T then some 0 else memF ps x) = memF (ps ++ [T]) x := by
  unfold memF
  by_cases e : x = T
  · simp [e]
  · simp [e]
theorem numF_zero (ps : List Nat) (x : Nat) : numF ps 0 x = memF ps x := by unfold numF; simp
theorem numF_next {ps : List Nat} (hnd : ps.Nodup) {i : Nat} (hi : i < ps.length) (x : Nat) : (if x = ps[i] then some i else numF ps i x) = numF ps (i + 1) x := by
  unfold numF
  by_cases e : x = ps[i]
  · subst e
    rw [if_pos rfl, if_pos (by rw [List.take_succ_eq_append_getElem hi]; exact List.mem_append_right _ (List.mem_singleton.2 rfl)), hnd.idxOf_getElem i hi]
  · rw [if_neg e]
    have : x ∈ ps.take (i + 1) ↔ x ∈ ps.take i := by rw [List.take_succ_eq_append_getElem hi, List.mem_append, List.mem_singleton]; simp [e]
    by_cases h : x ∈ ps.take i
    · rw [if_pos h, if_pos (this.2 h)]
    · rw [if_neg h, if_neg (fun k => h (this.1 k))]
theorem numF_all {ps : List Nat} {x : Nat} (h : x ∈ ps) : numF ps ps.length x = some (ps.idxOf x) := by unfold numF; rw [List.take_length, if_pos h]
/-- The number of a node in the sorted list is its rank. -/
theorem idx_rank {ss : List Sy} (hall : ss.all sysOk = true) {n : Nat} (h : Rn ss n) : (rnL ss).idxOf n = rkN ss n := by
  have hm := (rnL_mem hall).2 h
  obtain ⟨i, hi, rfl⟩ := List.getElem_of_mem hm
  rw [rnL_get hall hi, (show (rnL ss).Nodup from (rnL_sorted ss).imp fun h => Nat.ne_of_lt h).idxOf_getElem i hi]
/-- The search begins. -/
theorem RnB.start (ss : List Sy) : RnB ss [0] 0 := ⟨by simp, by simp, fun p hp => by rw [List.mem_singleton.1 hp]; exact Rn.zero ss, fun j _ h => by omega⟩

/-- A round of the search under way: the letters before the k-th and the first j nodes of the k-th are gone through. -/
structure RnR (ss : List Sy) (ps : List Nat) (i n k j : Nat) : Prop where
  base : RnB ss ps i
  at_ : ps[i]? = some n
  letters : ∀ a (h : a < (AG.letters (allAl ss)).length), a < k → ∀ m ∈ nxParts ss n ((AG.letters (allAl ss))[a]), m ∈ ps
  nodes : ∀ h : k < (AG.letters (allAl ss)).length, ∀ m ∈ (nxParts ss n ((AG.letters (allAl ss))[k])).take j, m ∈ ps
theorem RnR.reached {ss : List Sy} {ps : List Nat} {i n k j : Nat} (h : RnR ss ps i n k j) : Rn ss n := h.base.sound _ (List.mem_of_getElem? h.at_)
theorem RnR.lt {ss : List Sy} {ps : List Nat} {i n k j : Nat} (h : RnR ss ps i n k j) : i < ps.length := by
  have := h.at_
  rw [List.getElem?_eq_some_iff] at this
  exact this.1
theorem RnR.start {ss : List Sy} {ps : List Nat} {i n : Nat} (h : RnB ss ps i) (hi : ps[i]? = some n) : RnR ss ps i n 0 0 := ⟨h, hi, fun a _ h => by omega, fun _ m hm => by simp at hm⟩
theorem RnR.old {ss : List Sy} {ps : List Nat} {i n k j : Nat} (h : RnR ss ps i n k j) (hk : k < (AG.letters (allAl ss)).length) (hj : j < (nxParts ss n ((AG.letters (allAl ss))[k])).length) (hm : (nxParts ss n ((AG.letters (allAl ss))[k]))[j] ∈ ps) : RnR ss ps i n k (j + 1) :=
  ⟨h.base, h.at_, h.letters, fun hk' m hm' => by
    rw [List.take_succ_eq_append_getElem hj, List.mem_append, List.mem_singleton] at hm'
    rcases hm' with h1 | rfl
    · exact h.nodes hk' m h1
    · exact hm⟩
theorem RnR.new {ss : List Sy} {ps : List Nat} {i n k j : Nat} (h : RnR ss ps i n k j) (hk : k < (AG.letters (allAl ss)).length) (hj : j < (nxParts ss n ((AG.letters (allAl ss))[k])).length) (hm : (nxParts ss n ((AG.letters (allAl ss))[k]))[j] ∉ ps) : RnR ss (ps ++ [(nxParts ss n ((AG.letters (allAl ss))[k]))[j]]) i n k (j + 1) := by
  have hlt := h.lt
  have hget : ∀ a (ha : a < ps.length) (ha' : a < (ps ++ [(nxParts ss n ((AG.letters (allAl ss))[k]))[j]]).length), (ps ++ [(nxParts ss n ((AG.letters (allAl ss))[k]))[j]])[a] = ps[a] := fun a ha _ => List.getElem_append_left ha
  have hR : Rn ss (nxParts ss n ((AG.letters (allAl ss))[k]))[j] := h.reached.step (List.getElem_mem hk) (List.getElem_mem hj)
  refine ⟨⟨?_, List.mem_append_left _ h.base.zero, fun p hp => ?_, fun a ha hai l hl m hm' => ?_⟩, ?_, fun a ha hak m hm' => ?_, fun hk' m hm' => ?_⟩
  · rw [List.nodup_append]
    exact ⟨h.base.nodup, by simp, fun a ha b hb e => hm (by rw [← List.mem_singleton.1 hb, ← e]; exact ha)⟩
  · rcases List.mem_append.1 hp with hp | hp
    · exact h.base.sound p hp
    · rw [List.mem_singleton.1 hp]; exact hR
  · rw [hget a (by omega) ha] at hm'
    exact List.mem_append_left _ (h.base.done a (by omega) hai l hl m hm')
  · rw [List.getElem?_append_left hlt]; exact h.at_
  · exact List.mem_append_left _ (h.letters a ha hak m hm')
  · rw [List.take_succ_eq_append_getElem hj, List.mem_append, List.mem_singleton] at hm'
    rcases hm' with h1 | rfl
    · exact List.mem_append_left _ (h.nodes hk' m h1)
    · exact List.mem_append_right _ (List.mem_singleton.2 rfl)
theorem RnR.letter {ss : List Sy} {ps : List Nat} {i n k j : Nat} (h : RnR ss ps i n k j) (hk : k < (AG.letters (allAl ss)).length) (hj : j = (nxParts ss n ((AG.letters (allAl ss))[k])).length) : RnR ss ps i n (k + 1) 0 :=
  ⟨h.base, h.at_, fun a ha hak m hm => by
    by_cases e : a = k
    · subst e
      exact h.nodes hk m (by rw [List.take_of_length_le (Nat.le_of_eq hj.symm)]; exact hm)
    · exact h.letters a ha (by omega) m hm, fun _ m hm => by simp at hm⟩
theorem RnR.next {ss : List Sy} {ps : List Nat} {i n j : Nat} (h : RnR ss ps i n (AG.letters (allAl ss)).length j) : RnB ss ps (i + 1) :=
  ⟨h.base.nodup, h.base.zero, h.base.sound, fun a ha hai l hl m hm => by
    by_cases e : a = i
    · subst e
      obtain ⟨b, hb, rfl⟩ := List.getElem_of_mem hl
      have hn : ps[a] = n := by
        have := h.at_
        rw [List.getElem?_eq_getElem ha] at this
        exact Option.some.inj this
      rw [hn] at hm
      exact h.letters b hb hb m hm
    · exact h.base.done a ha (by omega) l hl m hm⟩
theorem RnR.few {ss : List Sy} (hall : ss.all sysOk = true) {ps : List Nat} {i n k j : Nat} (h : RnR ss ps i n k j) : ps.length ≤ prodL (szP ss) := Nat.le_trans (h.base.many hall) (rnL_le ss)

end Go.Proofs.YtdkjnemakkppfaaGreatDoor

/- Plain: the edges of a composition under way; tables of truth values and ranks. -/
namespace Go.Proofs.YtdkjnemakkppfaaGreatDoor
open AG

noncomputable def mkE (ss : List Sy) (n l m : Nat) : Ed := ⟨(rkN ss n : Int), (l : Int), (rkN ss m : Int)⟩
noncomputable def rowTo (ss : List Sy) (n k : Nat) : List Ed := ((letters (allAl ss)).take k).flatMap fun l => (nxParts ss n l).map (mkE ss n l)
theorem rowTo_zero (ss : List Sy) (n : Nat) : rowTo ss n 0 = [] := rfl
theorem rowTo_succ {ss : List Sy} {n k : Nat} (hk : k < (letters (allAl ss)).length) : rowTo ss n (k + 1) = rowTo ss n k ++ (nxParts ss n (letters (allAl ss))[k]).map (mkE ss n (letters (allAl ss))[k]) := by
  unfold rowTo
  rw [List.take_succ_eq_append_getElem hk, List.flatMap_append]
  simp
theorem rowTo_all (ss : List Sy) (n : Nat) : rowTo ss n (letters (allAl ss)).length = cmRow ss n := by
  unfold rowTo cmRow
  rw [List.take_length]
  rfl
theorem map_take_snoc {α β : Type} {l : List α} {f : α → β} {j : Nat} (h : j < l.length) : (l.take (j + 1)).map f = (l.take j).map f ++ [f l[j]] := by
  rw [List.take_succ_eq_append_getElem h, List.map_append]
  rfl
open Classical in
noncomputable def rnTo (ss : List Sy) (i : Nat) : List Nat := (List.range i).filter fun n => decide (Rn ss n)
open Classical in
theorem rnTo_succ (ss : List Sy) (i : Nat) : (Rn ss i → rnTo ss (i + 1) = rnTo ss i ++ [i]) ∧ (¬ Rn ss i → rnTo ss (i + 1) = rnTo ss i) := by
  unfold rnTo
  rw [List.range_succ, List.filter_append]
  constructor
  · intro h; simp [h]
  · intro h; simp [h]
theorem rnTo_all (ss : List Sy) : rnTo ss (prodL (szP ss)) = rnL ss := rfl
noncomputable def esTo (ss : List Sy) (ps : List Nat) : List Ed := ps.flatMap (cmRow ss)
theorem esTo_snoc (ss : List Sy) (ps : List Nat) (n : Nat) : esTo ss (ps ++ [n]) = esTo ss ps ++ cmRow ss n := by unfold esTo; rw [List.flatMap_append]; simp
theorem esTo_all (ss : List Sy) : esTo ss (rnL ss) = cmEs ss := rfl
theorem flat_le {α β : Type} (l : List α) (f : α → List β) (k : Nat) (h : ∀ a ∈ l, (f a).length ≤ k) : (l.flatMap f).length ≤ l.length * k := by
  induction l with
  | nil => simp
  | cons a l ih =>
    rw [List.flatMap_cons, List.length_append, List.length_cons, Nat.add_mul]
    have := h a List.mem_cons_self
    have := ih fun b hb => h b (List.mem_cons_of_mem _ hb)
    omega
theorem nxParts_le {ss : List Sy} (hall : ss.all sysOk = true) (h3 : ss.length ≤ 3) (n l : Nat) : (nxParts ss n l).length ≤ 4096 := by
  obtain ⟨-, -, h, -⟩ := pst_ok hall l n ss.length (Nat.le_refl _)
  have h2 : 16 ^ ss.length ≤ 16 ^ 3 := Nat.pow_le_pow_right (by decide) h3
  unfold nxParts
  omega
theorem cmRow_le {ss : List Sy} (hall : ss.all sysOk = true) (h3 : ss.length ≤ 3) (n : Nat) : (cmRow ss n).length ≤ 24576 := by
  unfold cmRow
  have h6 : (letters (allAl ss)).length ≤ 6 := lettersTo_len _ 6
  refine Nat.le_trans (flat_le _ _ 4096 fun l _ => by rw [List.length_map]; exact nxParts_le hall h3 n l) ?_
  omega
theorem rowTo_le {ss : List Sy} (hall : ss.all sysOk = true) (h3 : ss.length ≤ 3) (n k : Nat) : (rowTo ss n k).length ≤ 24576 := by
  unfold rowTo
  have h6 : ((letters (allAl ss)).take k).length ≤ 6 := by rw [List.length_take]; have : (letters (allAl ss)).length ≤ 6 := lettersTo_len _ 6; omega
  refine Nat.le_trans (flat_le _ _ 4096 fun l _ => by rw [List.length_map]; exact nxParts_le hall h3 n l) ?_
  omega
theorem esTo_le {ss : List Sy} (hall : ss.all sysOk = true) (h3 : ss.length ≤ 3) (ps : List Nat) : (esTo ss ps).length ≤ ps.length * 24576 := flat_le _ _ _ fun n _ => cmRow_le hall h3 n

/- Truth values in a table. -/
open Classical in
noncomputable def rnB (ss : List Sy) : List Bool := (List.range (prodL (szP ss))).map fun n => decide (Rn ss n)
open Classical in
theorem rnB_len (ss : List Sy) : (rnB ss).length = prodL (szP ss) := by unfold rnB; rw [List.length_map, List.length_range]
open Classical in
theorem rnB_at {ss : List Sy} {i : Nat} (h : i < (rnB ss).length) : (rnB ss)[i] = decide (Rn ss i) := by simp only [rnB, List.getElem_map, List.getElem_range]
/-- How many of the first n are true. -/
def cntT (bs : List Bool) (n : Nat) : Nat := ((bs.take n).filter fun b => b).length
theorem cntT_succ {bs : List Bool} {n : Nat} (h : n < bs.length) : cntT bs (n + 1) = cntT bs n + if bs[n] = true then 1 else 0 := by
  unfold cntT
  rw [List.take_succ_eq_append_getElem h, List.filter_append, List.length_append]
  cases bs[n] <;> rfl
theorem cntT_le (bs : List Bool) (n : Nat) : cntT bs n ≤ n := by
  unfold cntT
  refine Nat.le_trans (List.length_filter_le _ _) ?_
  rw [List.length_take]
  omega
theorem cntT_rank (ss : List Sy) : ∀ n, n ≤ prodL (szP ss) → cntT (rnB ss) n = rkN ss n
  | 0, _ => rfl
  | n + 1, h => by
    have hl : n < (rnB ss).length := by rw [rnB_len]; omega
    rw [cntT_succ hl, cntT_rank ss n (by omega), rnB_at hl]
    by_cases hr : Rn ss n
    · rw [if_pos (by simpa using hr), (rkN_succ ss n).1 hr]
    · rw [if_neg (by simpa using hr), (rkN_succ ss n).2 hr, Nat.add_zero]
/-- Where more than sixteen nodes are found the systems cannot be composed. -/
theorem many_bad {s t : Sy} (hs : sysOk s = true) (ht : sysOk t = true) {ps : List Nat} {i : Nat} (h : RnB [s, t] ps i) (hm : 16 < ps.length) : cmOk s t = false := by
  have := h.many (all_two hs ht)
  unfold cmOk
  rw [hs, ht, decide_eq_false (by omega)]
  rfl

end Go.Proofs.YtdkjnemakkppfaaGreatDoor

/- The reference's l5Order. -/
namespace Go.Proofs.YtdkjnemakkppfaaGreatDoor
open Go.RowKit Go.BigFrame Go.Maps AG

/-- A list of numbers under way. -/
structure OrdSt (w0 wr : World) (v : Value) (ns : List Nat) : Prop where
  below : Below w0.heap.size w0 wr
  own : wr.ownsRow w0.heap.size 3 1 v ns.length (natVals ns)
theorem OrdSt.later {w0 wr w' : World} {v : Value} {ns : List Nat} (h : OrdSt w0 wr v ns) (hb : Below wr.heap.size wr w') : OrdSt w0 w' v ns := ⟨h.below.trans (hb.mono h.below.size), own_later_ h.own hb⟩
theorem OrdSt.app {w0 wr w1 : World} {v v' : Value} {ns : List Nat} {o : Obj} {x : Nat} (h : OrdSt w0 wr v ns) (hg : (wr.alloc o).grownBy w1 v.ownBlock)
    (ho : w1.ownsRow w0.heap.size 3 1 v' (ns.length + 1) (natVals ns ++ [.int .i64 (x : Nat)])) : OrdSt w0 w1 v' (ns ++ [x]) := by
  have hkA : KeepB (fun b => v.ownBlock = some b) wr w1 := ((KeepB.refl _ wr).alloc o).grown hg fun k hk _ => hk
  refine ⟨hkA.below h.below h.below.size fun b e => own_block h.own b e, ?_⟩
  rw [List.length_append]
  unfold natVals at ho ⊢
  simpa using ho
theorem OrdSt.new (w0 : World) (x : Nat) : OrdSt w0 (w0.alloc (.cells #[.int .i64 (x : Nat)] 3)) (.slice (some ⟨w0.heap.size, 0, none⟩) 1 1) [x] :=
  ⟨(Below.refl _ _).alloc (Nat.le_refl _) _, ⟨rfl, .inr ⟨w0.heap.size, 1, #[.int .i64 (x : Nat)], rfl, Nat.le_refl _, heap_alloc_self _ _, Nat.le_refl _, by unfold maxLen; omega, rfl, rfl⟩⟩⟩
theorem OrdSt.new0 (w0 : World) : OrdSt w0 (w0.alloc (.cells #[] 3)) (.slice (some ⟨w0.heap.size, 0, none⟩) 0 0) [] :=
  ⟨(Below.refl _ _).alloc (Nat.le_refl _) _, ⟨rfl, .inr ⟨w0.heap.size, 0, #[], rfl, Nat.le_refl _, heap_alloc_self _ _, Nat.le_refl _, Nat.zero_le _, rfl, rfl⟩⟩⟩

end Go.Proofs.YtdkjnemakkppfaaGreatDoor

/- The reference's l4Decode, l4Encode. -/
namespace Go.Proofs.YtdkjnemakkppfaaGreatDoor
open Go.RowKit Go.BigFrame AG

theorem getD_at1 {c : List Nat} {i d : Nat} (h : i < c.length) : c.getD i d = c[i] := by
  rw [List.getD_eq_getElem?_getD, List.getElem?_eq_getElem h]
  rfl

theorem own_of_blk {w : World} {B g n : Nat} {cs : Array Value} {ns : List Nat} (hb : Blk w g 3 cs) (hsz : cs.size = n) (hn : ns.length = n) (hmax : n ≤ 1000000) (hc : ∀ p, p < n → cs[p]? = some (.int .i64 (ns.getD p 0 : Nat))) (hB : B ≤ g) : OwnNats w B (.slice (some ⟨g, 0, none⟩) n n) ns := by
  subst hn
  refine ⟨by simp, .inr ⟨g, ns.length, cs, rfl, hB, hb, Nat.le_refl _, by unfold maxLen; omega, by omega, ?_⟩⟩
  refine List.ext_getElem? fun p => ?_
  rw [Nat.mul_one, List.getElem?_take]
  by_cases hp : p < ns.length
  · rw [if_pos hp, Array.getElem?_toList, hc p hp, List.getElem?_map, List.getElem?_eq_getElem hp, getD_at1 hp]
    rfl
  · rw [if_neg hp, List.getElem?_eq_none (by simpa using hp)]

set_option maxRecDepth 100000 in
set_option maxHeartbeats 4000000 in
theorem l4Decode_any (ss : List Nat) (A : Option Addr) (c n : Nat) (w : World) (hs : ∀ a ∈ ss, 1 ≤ a) (hl : ss.length ≤ 3) (hn : n ≤ 1000000) (hsc : ss.length ≤ c) (hc : c ≤ 9223372036854775807) (hr : NatsAt w w.heap.size A ss) :
    Calls Tryz.prog 51 #[.slice A ss.length c, .int .i64 (n : Nat)] w fun e w' => ∃ v, e = .returned v ∧ OwnNats w' w.heap.size v (decS ss n) ∧ Below w.heap.size w w' := by
  obtain ⟨i0, hi, hz0', hz1, hz2⟩ := info_parts infoInt
  have hmk := fun W => run_make_rowN (P := Tryz.prog) 63 3 i0 _ Tryz.underlying63 hi hz0' .i64 .i64 ss.length ss.length (Nat.le_refl _) (by rw [hz2]; omega) (by omega) W
  rw [hz1] at hmk
  clear hz1 hz0' hz2 hi
  have hcn : ss.length * 1 = ss.length := Nat.mul_one _
  rw [hcn] at hmk
  clear hcn
  have hs' := hid hs
  replace hr := hid hr
  clear hs
  go_enter Tryz.func51, Tryz.ntmps51
  go_upto_region 2 with fail
  obtain ⟨w2, hw2⟩ : ∃ w2, w.alloc (.cells (madeCells #[Value.int IntKind.i64 0] ss.length) 3) = w2 := ⟨_, rfl⟩
  have hblk2 : Blk w2 w.heap.size 3 (madeCells #[Value.int IntKind.i64 0] ss.length) := by rw [← hw2]; exact Blk.new _ _ _
  have hB2 : Below w.heap.size w w2 := by rw [← hw2]; exact (Below.refl _ _).alloc (Nat.le_refl _) _
  rw [hw2]
  clear hw2
  have hbl2 := hid hblk2
  have hr2 := hid (hr.out.later hB2)
  have hz2 := hblk2.lt
  clear hblk2
  have hsz0 : Hid ((madeCells #[Value.int IntKind.i64 0] ss.length).size = ss.length) := hid (by rw [size_madeCells])
  go_wp2_with fail
  go_loopw [1, 6] (fun nv kv wr => ∃ (k m : Nat) (cs : Array Value), nv = .int .i64 (m : Nat) ∧ kv = .int .i64 ((k : Int) - 1) ∧ k ≤ ss.length ∧ m = n / prodL (ss.drop k) ∧ Blk wr w.heap.size 3 cs ∧ cs.size = ss.length ∧ (∀ p, k ≤ p → p < ss.length → cs[p]? = some (.int .i64 ((decS ss n).getD p 0 : Nat))) ∧ KeepB (fun b => b = w.heap.size) w2 wr) (fun _ kv _ => (intOf kv + 1).toNat)
  case atStart => exact ⟨ss.length, n, _, rfl, rfl, Nat.le_refl _, by rw [List.drop_length]; simp [prodL], hbl2.out, hsz0.out, fun p h1 h2 => by omega, KeepB.refl _ _⟩
  case round =>
    clear hbl2
    obtain ⟨k, m, cs, rfl, rfl, hk, hm, hblk, hsz, hin, hkp⟩ := hrel
    have hBr : Below w.heap.size w wr := KeepB.below hB2 hkp hB2.size fun b e => by omega
    by_cases hk0 : 0 < k
    · obtain ⟨k', rfl⟩ : ∃ k', k = k' + 1 := ⟨k - 1, by omega⟩
      have e1 : (((k' + 1 : Nat) : Int) - 1) = (k' : Int) := by omega
      rw [e1]
      obtain ⟨b, o, hAe, hb, hE⟩ := hr.out (by omega)
      subst hAe
      have a0 := (hBr.cell (p := ⟨b, o + k', none⟩) (by simpa using hb)).trans (hE k' (by omega))
      have hne : b ≠ w.heap.size := by omega
      have hne' : w.heap.size ≠ b := by omega
      obtain ⟨a, ha⟩ : ∃ a, Hid (a = ss[k']'(by omega)) := ⟨_, hid rfl⟩
      rw [← ha.out] at a0
      have ha1 : 1 ≤ a := by rw [ha.out]; exact hs'.out _ (List.getElem_mem _)
      have hml : m ≤ 1000000 := by rw [hm]; exact Nat.le_trans (Nat.div_le_self _ _) hn
      obtain ⟨x, hx⟩ : ∃ x, Hid (x = m % a) := ⟨_, hid rfl⟩
      have hrem : Int.tmod (m : Int) (a : Int) = (x : Int) := by rw [hx.out]; exact (Int.ofNat_tmod m a).symm
      obtain ⟨y, hy⟩ : ∃ y, Hid (y = m / a) := ⟨_, hid rfl⟩
      have hquo : Int.tdiv (m : Int) (a : Int) = (y : Int) := by rw [hy.out]; exact (Int.ofNat_tdiv m a).symm
      have hxd : Hid ((decS ss n).getD k' 0 = x) := hid (by
        rw [getD_at1 (by rw [decS_len]; omega), decS_get ss n k' (by omega), hx.out, hm, ha.out])
      have hyd : Hid (y = n / prodL (ss.drop k')) := hid (by rw [hy.out, hm, ha.out, decS_step (by omega)])
      obtain ⟨v0, d0⟩ := hblk.some_ (i := k') (by omega)
      have z0 := hblk.frozen k'
      have hbk2 := hid (hblk.set_ k' (.int .i64 (x : Nat)))
      have hkp2 := hid (hkp.setCell ⟨w.heap.size, k', none⟩ (.int .i64 (x : Nat)) fun _ => rfl)
      have hin2 : Hid (∀ p, k' ≤ p → p < ss.length → (cs.setIfInBounds k' (.int .i64 (x : Nat)))[p]? = some (.int .i64 ((decS ss n).getD p 0 : Nat))) := hid (fun p h1 h2 => by
        by_cases e : p = k'
        · subst e
          rw [Array.getElem?_setIfInBounds_self_of_lt (by omega), hxd.out]
        · rw [Array.getElem?_setIfInBounds_ne (Ne.symm e)]
          exact hin p (by omega) h2)
      have hsz2 : Hid ((cs.setIfInBounds k' (.int .i64 (x : Nat))).size = ss.length) := hid (by simpa using hsz)
      have ha0 : (a : Int) ≠ 0 := by omega
      have hxl : x ≤ 1000000 := by rw [hx.out]; exact Nat.le_trans (Nat.mod_le _ _) hml
      have hyl : y ≤ 1000000 := by rw [hy.out]; exact Nat.le_trans (Nat.div_le_self _ _) hml
      have k1 : (0 : Int) ≤ (k' : Int) ∧ (k' : Int) < (ss.length : Int) := by omega
      replace hblk := hid hblk
      replace hin := hid hin
      replace hsz := hid hsz
      replace hkp := hid hkp
      replace hm := hid hm
      replace hE := hid hE
      clear e1
      go_wp2_with fail
      go_roundw
      case rel => exact ⟨k', y, _, rfl, by go_num, by omega, hyd.out, hbk2.out, hsz2.out, hin2.out, hkp2.out⟩
      case measure => simp [intOf] <;> omega
    · obtain rfl : k = 0 := by omega
      have hfin : Hid (OwnNats wr w.heap.size (.slice (some ⟨w.heap.size, 0, none⟩) ss.length ss.length) (decS ss n)) := hid (by
        exact own_of_blk hblk hsz (decS_len ss n) (by omega) (fun p hp => hin p (Nat.zero_le _) hp) (Nat.le_refl _))
      replace hblk := hid hblk
      replace hin := hid hin
      replace hkp := hid hkp
      replace hm := hid hm
      go_wp2_with fail
      go_ret
      exact ⟨_, rfl, hfin.out, hBr⟩


end Go.Proofs.YtdkjnemakkppfaaGreatDoor
