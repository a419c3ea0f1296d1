/- Lemmas, part 9: several texts in one. -/
import Derived.Test.YtdkjnemakkppfaaGreatDoorU8
import Derived.Test.YtdkjnemakkppfaaGreatDoorU3
import Derived.Test.YtdkjnemakkppfaaGreatDoorU6
import Derived.Test.YtdkjnemakkppfaaGreatDoorU4
import Derived.Test.YtdkjnemakkppfaaGreatDoorU5
import Derived.Test.YtdkjnemakkppfaaGreatDoorU2
import Derived.Test.YtdkjnemakkppfaaGreatDoorU1
import Derived.Deep.DeepCutAuto
set_option linter.unusedSimpArgs false
set_option linter.unusedVariables false

/- The drawing kit: DrawComposeSystems. Printed by tools/gen_e15.py. -/
namespace Go.Proofs.YtdkjnemakkppfaaGreatDoor
open Go.RowKit Go.BigFrame AG

theorem DrawPair.drew {w w' : World} {e : Ending} (h : DrawPair w e w') : DrawPair w e w'.drew := by
  obtain ⟨s, t, A, B, c, d, he, h1, h2, h3, h4, h5, h6, h7⟩ := h
  have hb : Below w'.heap.size w' w'.drew := (Below.refl _ _).drew
  exact ⟨s, t, A, B, c, d, he, h1, h2, h3, h4, h5.later hb, h6.later hb, h7.trans (hb.mono h7.size)⟩

set_option maxRecDepth 100000 in
set_option maxHeartbeats 16000000 in
theorem drawComposeSystems_any (A : Option Addr) (n c : Nat) (w : World) (hn : n ≤ c) (hc : c ≤ 9223372036854775807) (hx : CodeAt w A n) :
    Calls Tryz.prog 11 #[.slice A n c] w (DrawPair w) := by
  have hres2 := (Blk.new w 25 #[.int .i64 0, .int .i64 0, .slice none 0 0]).alloc (.cells #[.int .i64 0, .int .i64 0, .slice none 0 0] 25)
  have hres3 := Blk.new (w.alloc (.cells #[.int .i64 0, .int .i64 0, .slice none 0 0] 25)) 25 #[.int .i64 0, .int .i64 0, .slice none 0 0]
  have hb0 : Below w.heap.size w ((w.alloc (.cells #[.int .i64 0, .int .i64 0, .slice none 0 0] 25)).alloc (.cells #[.int .i64 0, .int .i64 0, .slice none 0 0] 25)) := ((Below.refl _ _).alloc (Nat.le_refl _) _).alloc (by simp) _
  have hz0 : ((w.alloc (.cells #[.int .i64 0, .int .i64 0, .slice none 0 0] 25)).alloc (.cells #[.int .i64 0, .int .i64 0, .slice none 0 0] 25)).heap.size = w.heap.size + 2 := by simp
  simp only [World.size_alloc] at hres3
  generalize hw0 : (w.alloc (.cells #[.int .i64 0, .int .i64 0, .slice none 0 0] 25)).alloc (.cells #[.int .i64 0, .int .i64 0, .slice none 0 0] 25) = w0 at hres2 hres3 hb0 hz0
  have hx0 : CodeAt w0 A n := fun h => by
    obtain ⟨b, o, h1, h2, h3⟩ := hx h
    refine ⟨b, o, h1, by omega, fun i hi => ?_⟩
    obtain ⟨y, h4, h5⟩ := h3 i hi
    exact ⟨y, h4, by rw [hb0.cell (by simpa using h2)]; exact h5⟩
  replace hres2 := hid hres2
  replace hres3 := hid hres3
  replace hz0 := hid hz0
  replace hx := hid hx
  replace hx0 := hid hx0
  go_enter Tryz.func11, Tryz.ntmps11
  go_wp2_with fail
  refine (l19Open_any A n c w0 hn hc hx0.out).mono ?_
  rintro e w1 ⟨R, rfl, hR, hr1, hb1⟩
  replace hr1 := hid hr1
  have hz1 := hb1.size
  have hR0 : R < w1.heap.size := hr1.out.lt
  clear hw0
  go_wp2_with fail
  refine (l2Small_up R 0 w1 (by omega) hr1.out).mono ?_
  rintro e w2 ⟨s, A', c', rfl, a1, a2, a3, a4, a5, a6, a7⟩
  unfold Sy.val
  have hz2 := a7.size
  have hba : Below w2.heap.size w2 (w2.alloc (.cells #[.int .i64 s.al, .int .i64 s.st, .slice A' s.es.length c'] 25)) := (Below.refl _ _).alloc (Nat.le_refl _) _
  have hs1 := hid (a4.later hba)
  have hnb := Blk.new w2 25 #[.int .i64 s.al, .int .i64 s.st, .slice A' s.es.length c']
  have hkr1 := hid (a7.trans (KeepB.of_below hba))
  have hrd1 := hid (a6.later hba)
  have hfa := hid a5
  have hfar : Hid (∀ b o, A' = some ⟨b, o, none⟩ → 0 < s.es.length → b < w2.heap.size) := hid (fun b o e hn => by obtain ⟨b', o', e', hb', -⟩ := a4 hn; rw [e] at e'; cases e'; exact hb')
  generalize hwa : w2.alloc (.cells #[.int .i64 s.al, .int .i64 s.st, .slice A' s.es.length c'] 25) = wa at hs1 hnb hkr1 hrd1 hba
  have hza : w2.heap.size < wa.heap.size := hnb.lt
  clear a4 a5 a6 a7
  replace hwa := hid hwa
  go_wp2_with fail
  try rw [hwa.out]
  refine (l2Small_up R (0 + 2000) wa (by omega) hrd1.out).mono ?_
  rintro e w3 ⟨t, B', d', rfl, b1, b2, b3, b4, b5, b6, b7⟩
  unfold Sy.val
  have hz3 := b7.size
  have hbb : Below w3.heap.size w3 (w3.alloc (.cells #[.int .i64 t.al, .int .i64 t.st, .slice B' t.es.length d'] 25)) := (Below.refl _ _).alloc (Nat.le_refl _) _
  have hT2 : TwoSt w1 (w3.alloc (.cells #[.int .i64 t.al, .int .i64 t.st, .slice B' t.es.length d'] 25)) R (0 + 2000 + 2000) 1536 w2.heap.size w3.heap.size s t A' B' c' d' := by
    refine ⟨(hnb.keep b7 (by omega)).alloc _, Blk.new w3 _ _, ⟨a1, a2, by omega, (EdsAt.keepR hs1.out b7 (fun b o e => by have := hfa.out b o e; omega)).later hbb, hfa.out, fun hn b o e hk => ?_⟩, ⟨b1, b2, b3, b4.later hbb, fun b o e => by have := b5 b o e; omega, fun hn b o e hk => ?_⟩, b6.later hbb, (hkr1.out.trans b7).trans (KeepB.of_below hbb), by omega, by omega, by omega⟩
    · have := hfar.out b o e hn; omega
    · obtain ⟨b', o', e', hb', -⟩ := b4 hn
      rw [e] at e'; cases e'
      have := b5 b o e
      omega
  generalize hwb : w3.alloc (.cells #[.int .i64 t.al, .int .i64 t.st, .slice B' t.es.length d'] 25) = wb at hT2 hbb
  replace hT2 := hid hT2
  clear b4 b5 b6 b7 hbb hs1 hnb hkr1 hrd1 hfa hfar hba
  replace hwb := hid hwb
  go_wp2_with fail
  try rw [hwb.out]
  refine (pick_up R (0 + 2000 + 2000) 8 wb (by omega) (by omega) hT2.out.rd).mono ?_
  rintro e w8 ⟨j, rfl, hj0, hj1, hr3, hk3⟩
  have hT8 := hid (hT2.out.call hk3 hr3 hR0)
  clear hr3 hk3 hT2
  go_upto_if 15 with fail
  refine cut_here fun KC hKC => ?_
  go_cut [] (fun wx => ∃ (s t : Sy) (A B : Option Addr) (c d : Nat), TwoSt w1 wx R 9000000 8000 w2.heap.size w3.heap.size s t A B c d)
  case first =>
    by_cases h0 : j = 0
    · subst h0
      go_wp2_with fail
      refine (l2Draw_up R (0 + 2000 + 2000 + 1) w8 (by omega) hT8.out.rd).mono ?_
      rintro e w9 ⟨s1, A1, c1, rfl, a1, a2, a3, a4, a5, a6, a7⟩
      unfold Sy.val
      have h4l := hT8.out.sb.lt
      have h5l := hT8.out.tb.lt
      have hG := GotSy.new (w := w1) (R := R) (L := 8000) (K := fun b => b = w2.heap.size ∨ b = w3.heap.size) a1 a2 (by omega) a4 a5 hT8.out.keep.size (by rintro b (e | e) <;> omega)
      have hT5 := (hT8.out.call a7 a6 hR0).more (L' := 8000) (Nat.le_refl _) (by omega)
      have hT6 := hid ((hT5.setS hG hR0).more (P' := 9000000) (L' := 8000) (by omega) (Nat.le_refl _))
      have f0 := hT5.sb.frozen 0
      have f1 := hT5.sb.frozen 1
      have f2 := hT5.sb.frozen 2
      have d0 := hT5.sb.cell 0
      have d1 := hT5.sb.cell 1
      have d2 := hT5.sb.cell 2
      simp only [List.getElem?_toArray, List.getElem?_cons_zero, List.getElem?_cons_succ] at d0 d1 d2
      have h5l5 := hT5.sb.lt
      clear a4 a5 a6 a7 hT5 hG
      go_wp2_with fail
      go_meet
      exact ⟨_, _, _, _, _, _, hT6.out⟩
    · have h0b : ((j : Int) == 0) = false := by simpa using h0
      replace h0 := hid h0
      by_cases h1 : j = 1
      · subst h1
        have d0 := hT8.out.sb.cell 0
        have d1 := hT8.out.sb.cell 1
        have d2 := hT8.out.sb.cell 2
        simp only [List.getElem?_toArray, List.getElem?_cons_zero, List.getElem?_cons_succ] at d0 d1 d2
        go_wp2_with fail
        refine (l6Change_up R (0 + 2000 + 2000 + 1) 1536 s A' c' w8 (by omega) hT8.out.sg.le hT8.out.sg.top hT8.out.sg.len (by omega) hT8.out.sg.at_ (fun b o e => by have := hT8.out.sg.fresh b o e; omega) hT8.out.rd).mono ?_
        rintro e w9 ⟨s1, A1, c1, rfl, a1, a2, a3, a4, a5, a6, a7⟩
        unfold Sy.val
        clear d0 d1 d2
        have h4l := hT8.out.sb.lt
        have h5l := hT8.out.tb.lt
        have hG := GotSy.new (w := w1) (R := R) (L := 8000) (K := fun b => b = w2.heap.size ∨ b = w3.heap.size) a1 a2 (by omega) a4 a5 hT8.out.keep.size (by rintro b (e | e) <;> omega)
        have hT5 := (hT8.out.call a7 a6 hR0).more (L' := 8000) (Nat.le_refl _) (by omega)
        have hT6 := hid ((hT5.setT hG hR0).more (P' := 9000000) (L' := 8000) (by omega) (Nat.le_refl _))
        have f0 := hT5.tb.frozen 0
        have f1 := hT5.tb.frozen 1
        have f2 := hT5.tb.frozen 2
        have d0 := hT5.tb.cell 0
        have d1 := hT5.tb.cell 1
        have d2 := hT5.tb.cell 2
        simp only [List.getElem?_toArray, List.getElem?_cons_zero, List.getElem?_cons_succ] at d0 d1 d2
        have h5l5 := hT5.tb.lt
        clear a4 a5 a6 a7 hT5 hG
        go_wp2_with fail
        go_meet
        exact ⟨_, _, _, _, _, _, hT6.out⟩
      · have h1b : ((j : Int) == 1) = false := by simpa using h1
        replace h1 := hid h1
        by_cases h2 : j = 2
        · subst h2
          go_wp2_with fail
          refine (l2Big_up R (0 + 2000 + 2000 + 1) w8 (by omega) hT8.out.rd).mono ?_
          rintro e w9 ⟨s1, A1, c1, rfl, a1, a2, a3, a4, a5, a6, a7, a8⟩
          clear a8
          unfold Sy.val
          have h4l := hT8.out.sb.lt
          have h5l := hT8.out.tb.lt
          have hG := GotSy.new (w := w1) (R := R) (L := 8000) (K := fun b => b = w2.heap.size ∨ b = w3.heap.size) a1 a2 (by omega) a4 a5 hT8.out.keep.size (by rintro b (e | e) <;> omega)
          have hT5 := (hT8.out.call a7 a6 hR0).more (L' := 8000) (Nat.le_refl _) (by omega)
          have hT6 := hid ((hT5.setS hG hR0).more (P' := 9000000) (L' := 8000) (by omega) (Nat.le_refl _))
          have f0 := hT5.sb.frozen 0
          have f1 := hT5.sb.frozen 1
          have f2 := hT5.sb.frozen 2
          have d0 := hT5.sb.cell 0
          have d1 := hT5.sb.cell 1
          have d2 := hT5.sb.cell 2
          simp only [List.getElem?_toArray, List.getElem?_cons_zero, List.getElem?_cons_succ] at d0 d1 d2
          have h5l5 := hT5.sb.lt
          clear a4 a5 a6 a7 hT5 hG
          go_wp2_with fail
          go_meet
          exact ⟨_, _, _, _, _, _, hT6.out⟩
        · have h2b : ((j : Int) == 2) = false := by simpa using h2
          replace h2 := hid h2
          by_cases h3 : j = 3
          · subst h3
            have d0 := hT8.out.tb.cell 0
            have d1 := hT8.out.tb.cell 1
            have d2 := hT8.out.tb.cell 2
            simp only [List.getElem?_toArray, List.getElem?_cons_zero, List.getElem?_cons_succ] at d0 d1 d2
            go_wp2_with fail
            refine (l2Wrong_up R (0 + 2000 + 2000 + 1) 1536 t B' d' w8 (by omega) hT8.out.tg.le hT8.out.tg.top hT8.out.tg.len (by omega) hT8.out.tg.at_ hT8.out.rd).mono ?_
            rintro e w9 ⟨s1, A1, c1, rfl, e1, e2, e3, e4, e5, e6, e7⟩
            unfold Sy.val
            clear d0 d1 d2
            have hT9 := hid (hT8.out.call e7 e6 hR0)
            have hE9 := hid e4
            have hr9 := hid e6
            clear e4 e5 e6 e7
            go_wp2_with fail
            refine (l2Wrong_up R ((0 + 2000 + 2000 + 1) + 400000) 1537 s1 A1 c1 w9 (by omega) e1 e2 e3 (by omega) hE9.out hr9.out).mono ?_
            rintro e w10 ⟨s2, A2, c2, rfl, a1, a2, a3, a4, a5, a6, a7⟩
            unfold Sy.val
            clear e1 e2 e3
            have h4l := hT9.out.sb.lt
            have h5l := hT9.out.tb.lt
            have hG := GotSy.new (w := w1) (R := R) (L := 8000) (K := fun b => b = w2.heap.size ∨ b = w3.heap.size) a1 a2 (by omega) a4 a5 hT9.out.keep.size (by rintro b (e | e) <;> omega)
            have hT5 := (hT9.out.call a7 a6 hR0).more (L' := 8000) (Nat.le_refl _) (by omega)
            have hT6 := hid ((hT5.setT hG hR0).more (P' := 9000000) (L' := 8000) (by omega) (Nat.le_refl _))
            have f0 := hT5.tb.frozen 0
            have f1 := hT5.tb.frozen 1
            have f2 := hT5.tb.frozen 2
            have d0 := hT5.tb.cell 0
            have d1 := hT5.tb.cell 1
            have d2 := hT5.tb.cell 2
            simp only [List.getElem?_toArray, List.getElem?_cons_zero, List.getElem?_cons_succ] at d0 d1 d2
            have h5l5 := hT5.tb.lt
            clear a4 a5 a6 a7 hT5 hG
            go_wp2_with fail
            go_meet
            exact ⟨_, _, _, _, _, _, hT6.out⟩
          · have h3b : ((j : Int) == 3) = false := by simpa using h3
            replace h3 := hid h3
            by_cases h4 : j = 4
            · subst h4
              go_wp2_with fail
              refine (l2Draw_up R (0 + 2000 + 2000 + 1) w8 (by omega) hT8.out.rd).mono ?_
              rintro e w9 ⟨s1, A1, c1, rfl, a1, a2, a3, a4, a5, a6, a7⟩
              unfold Sy.val
              have h4l := hT8.out.sb.lt
              have h5l := hT8.out.tb.lt
              have hG := GotSy.new (w := w1) (R := R) (L := 8000) (K := fun b => b = w2.heap.size ∨ b = w3.heap.size) a1 a2 (by omega) a4 a5 hT8.out.keep.size (by rintro b (e | e) <;> omega)
              have hT5 := (hT8.out.call a7 a6 hR0).more (L' := 8000) (Nat.le_refl _) (by omega)
              have hT6 := hid ((hT5.setS hG hR0).more (P' := 100000) (L' := 8000) (by omega) (Nat.le_refl _))
              have f0 := hT5.sb.frozen 0
              have f1 := hT5.sb.frozen 1
              have f2 := hT5.sb.frozen 2
              have d0 := hT5.sb.cell 0
              have d1 := hT5.sb.cell 1
              have d2 := hT5.sb.cell 2
              simp only [List.getElem?_toArray, List.getElem?_cons_zero, List.getElem?_cons_succ] at d0 d1 d2
              have h5l5 := hT5.sb.lt
              clear a4 a5 a6 a7 hT5 hG
              go_wp2_with fail
              clear d0 d1 d2 f0 f1 f2 h5l5 h4l h5l
              obtain ⟨wy, hwy⟩ : ∃ wy, ((w9.setCell ⟨w2.heap.size, 0, none⟩ (.int .i64 s1.al)).setCell ⟨w2.heap.size, 1, none⟩ (.int .i64 s1.st)).setCell ⟨w2.heap.size, 2, none⟩ (.slice A1 s1.es.length c1) = wy := ⟨_, rfl⟩
              rw [hwy] at hT6 ⊢
              clear hwy
              refine (l2Draw_up R 100000 wy (by omega) hT6.out.rd).mono ?_
              rintro e w10 ⟨s2, A2, c2, rfl, a1, a2, a3, a4, a5, a6, a7⟩
              unfold Sy.val
              have h4l := hT6.out.sb.lt
              have h5l := hT6.out.tb.lt
              have hG := GotSy.new (w := w1) (R := R) (L := 8000) (K := fun b => b = w2.heap.size ∨ b = w3.heap.size) a1 a2 (by omega) a4 a5 hT6.out.keep.size (by rintro b (e | e) <;> omega)
              have hT5 := (hT6.out.call a7 a6 hR0).more (L' := 8000) (Nat.le_refl _) (by omega)
              have hT7 := hid ((hT5.setT hG hR0).more (P' := 9000000) (L' := 8000) (by omega) (Nat.le_refl _))
              have f0 := hT5.tb.frozen 0
              have f1 := hT5.tb.frozen 1
              have f2 := hT5.tb.frozen 2
              have d0 := hT5.tb.cell 0
              have d1 := hT5.tb.cell 1
              have d2 := hT5.tb.cell 2
              simp only [List.getElem?_toArray, List.getElem?_cons_zero, List.getElem?_cons_succ] at d0 d1 d2
              have h5l5 := hT5.tb.lt
              clear a4 a5 a6 a7 hT5 hG
              go_wp2_with fail
              go_meet
              exact ⟨_, _, _, _, _, _, hT7.out⟩
            · have h4b : ((j : Int) == 4) = false := by simpa using h4
              replace h4 := hid h4
              go_wp2_with fail
              go_meet
              exact ⟨_, _, _, _, _, _, hT8.out.more (by omega) (by omega)⟩
  case rest =>
    refine hKC _ _ ?_
    clear hT8
    obtain ⟨s, t, A', B', c', d', hT⟩ := hcut
    have hk := hT.keep
    have hres2' := hres2.out.below hb1 (by have := hz0.out; omega)
    have hres3' := hres3.out.below hb1 (by have := hz0.out; omega)
    have hb2 := hres2'.keep hk (by have := hz0.out; omega)
    have hb3 := hres3'.keep hk (by have := hz0.out; omega)
    have c0 := hT.sb.cell 0
    have c1 := hT.sb.cell 1
    have c2 := hT.sb.cell 2
    have d0 := hT.tb.cell 0
    have d1 := hT.tb.cell 1
    have d2 := hT.tb.cell 2
    have r0 := hb2.cell 0
    have r1 := hb2.cell 1
    have r2 := hb2.cell 2
    have r3 := hb3.cell 0
    have r4 := hb3.cell 1
    have r5 := hb3.cell 2
    have f0 := hb2.frozen 0
    have f1 := hb2.frozen 1
    have f2 := hb2.frozen 2
    have f3 := hb3.frozen 0
    have f4 := hb3.frozen 1
    have f5 := hb3.frozen 2
    simp only [List.getElem?_toArray, List.getElem?_cons_zero, List.getElem?_cons_succ] at c0 c1 c2 d0 d1 d2 r0 r1 r2 r3 r4 r5
    have s0 := hz0.out
    have n1 : w2.heap.size ≠ w.heap.size := by omega
    have n2 : w2.heap.size ≠ w.heap.size + 1 := by omega
    have n3 : w3.heap.size ≠ w.heap.size := by omega
    have n4 : w3.heap.size ≠ w.heap.size + 1 := by omega
    have l1 := hT.sb.lt
    have l2 := hT.tb.lt
    have l3 := hb2.lt
    have l4 := hb3.lt
    have hBw : Below w.heap.size w wc := hb0.trans ((KeepB.below hb1 hk hb1.size (fun k hk => by omega)).mono (by omega))
    have hfin := hid (DrawPair.of hT.sg hT.tg (by omega) hBw (.int .i64 s.al) (.int .i64 s.st) (.slice A' s.es.length c') (.int .i64 t.al) (.int .i64 t.st) (.slice B' t.es.length d'))
    clear hb2 hb3 hk hT hres2' hres3'
    go_wp2_with fail
    go_region
    go_wp2
    refine bodyPost_ret (v := .tuple #[.agg #[.int .i64 s.al, .int .i64 s.st, .slice A' s.es.length c'], .agg #[.int .i64 t.al, .int .i64 t.st, .slice B' t.es.length d']]) (by simp [results, Tryz.results11, go_sem, r0, r1, r2, r3, r4, r5]) rfl ?_
    exact hfin.out.drew

end Go.Proofs.YtdkjnemakkppfaaGreatDoor

/- What ComposeSystems holds in memory: a list of nodes and a map of numbers. -/
namespace Go.Proofs.YtdkjnemakkppfaaGreatDoor
open Go.RowKit Go.BigFrame Go.Maps AG

/-- A map as a function. -/
structure MapF (D : DataW Unit) (f : Nat → Option Nat) : Prop where
  isMap : Maps.IsMap D
  has : ∀ T : Nat, Maps.has D (.int .i64 (T : Int)) = (f T).isSome
  at_ : ∀ T q, f T = some q → D.atKey (.int .i64 (T : Int)) (.lit (.int .i64 0)) = .lit (.int .i64 ((q : Nat) : Int))
theorem MapF.empty : MapF (.map []) (fun _ => none) := ⟨Maps.isMap_empty, fun T => rfl, fun T q h => (by cases h)⟩
theorem MapF.put {D : DataW Unit} {f : Nat → Option Nat} (h : MapF D f) (T q : Nat) : MapF (D.put (.int .i64 (T : Int)) (.lit (.int .i64 ((q : Nat) : Int)))) (fun x => if x = T then some q else f x) := by
  refine ⟨h.isMap.put _ _, fun x => ?_, fun x r hx => ?_⟩
  · by_cases e : x = T
    · subst e
      rw [Maps.has_put_same h.isMap (show WideAt.IsKeyLit (Lit.int .i64 (x : Int)) from trivial), if_pos rfl]
      rfl
    · rw [Maps.has_put_other (key_ne e), h.has x, if_neg e]
  · by_cases e : x = T
    · subst e
      rw [if_pos rfl] at hx
      injection hx with hx
      subst hx
      rw [Maps.atKey_put_same h.isMap (show WideAt.IsKeyLit (Lit.int .i64 (x : Int)) from trivial)]
    · rw [if_neg e] at hx
      rw [Maps.atKey_put_other (key_ne e), h.at_ x r hx]
theorem MapF.congr {D : DataW Unit} {f g : Nat → Option Nat} (h : MapF D f) (e : ∀ x, f x = g x) : MapF D g := by
  have : f = g := funext e
  rw [← this]
  exact h

structure CmSt (w wr : World) (B : Nat) (vP : Value) (ps : List Nat) (m : Nat) (D : DataW Unit) (f : Nat → Option Nat) : Prop where
  below : Below w.heap.size w wr
  own : wr.ownsRow w.heap.size 3 1 vP ps.length (natVals ps)
  map_ : wr.ownsMap Tryz.prog 3 (plainElem Tryz.prog 3) B m D
  ix : MapF D f
  geB : w.heap.size ≤ B
section
variable {w wr w1 : World} {B : Nat} {vP v' : Value} {ps : List Nat} {m : Nat} {D D' : DataW Unit} {f : Nat → Option Nat} {T q : Nat} {o : Obj}
theorem CmSt.later (h : CmSt w wr B vP ps m D f) (hb : Below wr.heap.size wr w1) : CmSt w w1 B vP ps m D f :=
  ⟨h.below.trans (hb.mono h.below.size), own_later_ h.own hb, h.map_.kept (grown_of_below hb) (by simp), h.ix, h.geB⟩
theorem CmSt.ne (h : CmSt w wr B vP ps m D f) : vP.ownBlock ≠ some B := fun e => own_ne_map h.own h.map_ B e rfl
/-- A node more. -/
theorem CmSt.app (h : CmSt w wr B vP ps m D f) (hg : (wr.alloc o).grownBy w1 vP.ownBlock) (ho : w1.ownsRow w.heap.size 3 1 v' (ps.length + 1) (natVals ps ++ [.int .i64 (T : Nat)])) : CmSt w w1 B v' (ps ++ [T]) m D f := by
  have hkA : KeepB (fun b => vP.ownBlock = some b) wr w1 := ((KeepB.refl _ wr).alloc o).grown hg fun k hk _ => hk
  refine ⟨hkA.below h.below h.below.size fun b e => own_block h.own b e, ?_, (h.map_.alloc o).kept hg fun e => h.ne e.symm, h.ix, h.geB⟩
  rw [List.length_append]
  unfold natVals at ho ⊢
  rw [List.map_append]
  exact ho
/-- A number is set. -/
theorem CmSt.put (h : CmSt w wr B vP ps m D f) (hm : w1.ownsMap Tryz.prog 3 (plainElem Tryz.prog 3) B (m + 1) (D.put (.int .i64 (T : Int)) (.lit (.int .i64 ((q : Nat) : Int))))) (hg : wr.grownBy w1 (some B)) :
    CmSt w w1 B vP ps (m + 1) (D.put (.int .i64 (T : Int)) (.lit (.int .i64 ((q : Nat) : Int)))) (fun x => if x = T then some q else f x) := by
  have hkA : KeepB (fun b => b = B) wr w1 := (KeepB.refl _ wr).grown hg fun k hk _ => by injection hk with hk; exact hk.symm
  exact ⟨hkA.below h.below h.below.size fun b e => by rw [e]; exact h.geB, own_keep h.own hkA fun g hg e => own_ne_map h.own h.map_ g hg e, hm, h.ix.put T q, h.geB⟩
end

/-- The nodes that have a number. -/
def memF (ps : List Nat) (x : Nat) : Option Nat := if x ∈ ps then some 0 else none
/-- The first i nodes have their own numbers. -/
def numF (ps : List Nat) (i : Nat) (x : Nat) : Option Nat := if x ∈ ps.take i then some (ps.idxOf x) else memF ps x
theorem memF_snoc (ps : List Nat) (T : Nat) (x : Nat) : (if x = T then some 0 else memF ps x) = memF (ps ++ [T]) x := by
  unfold memF
  by_cases e : x = T
  · simp [e]
  · simp [e]
theorem numF_zero (ps : List Nat) (x : Nat) : numF ps 0 x = memF ps x := by unfold numF; simp
theorem numF_next {ps : List Nat} (hnd : ps.Nodup) {i : Nat} (hi : i < ps.length) (x : Nat) : (if x = ps[i] then some i else numF ps i x) = numF ps (i + 1) x := by
  unfold numF
  by_cases e : x = ps[i]
  · subst e
    rw [if_pos rfl, if_pos (by rw [List.take_succ_eq_append_getElem hi]; exact List.mem_append_right _ (List.mem_singleton.2 rfl)), hnd.idxOf_getElem i hi]
  · rw [if_neg e]
    have : x ∈ ps.take (i + 1) ↔ x ∈ ps.take i := by rw [List.take_succ_eq_append_getElem hi, List.mem_append, List.mem_singleton]; simp [e]
    by_cases h : x ∈ ps.take i
    · rw [if_pos h, if_pos (this.2 h)]
    · rw [if_neg h, if_neg (fun k => h (this.1 k))]
theorem numF_all {ps : List Nat} {x : Nat} (h : x ∈ ps) : numF ps ps.length x = some (ps.idxOf x) := by unfold numF; rw [List.take_length, if_pos h]
/-- The number of a node in the sorted list is its rank. -/
theorem idx_rank {ss : List Sy} (hall : ss.all sysOk = true) {n : Nat} (h : Rn ss n) : (rnL ss).idxOf n = rkN ss n := by
  have hm := (rnL_mem hall).2 h
  obtain ⟨i, hi, rfl⟩ := List.getElem_of_mem hm
  rw [rnL_get hall hi, (show (rnL ss).Nodup from (rnL_sorted ss).imp fun h => Nat.ne_of_lt h).idxOf_getElem i hi]
/-- The search begins. -/
theorem RnB.start (ss : List Sy) : RnB ss [0] 0 := ⟨by simp, by simp, fun p hp => by rw [List.mem_singleton.1 hp]; exact Rn.zero ss, fun j _ h => by omega⟩

/-- A round of the search under way: the letters before the k-th and the first j nodes of the k-th are gone through. -/
structure RnR (ss : List Sy) (ps : List Nat) (i n k j : Nat) : Prop where
  base : RnB ss ps i
  at_ : ps[i]? = some n
  letters : ∀ a (h : a < (AG.letters (allAl ss)).length), a < k → ∀ m ∈ nxParts ss n ((AG.letters (allAl ss))[a]), m ∈ ps
  nodes : ∀ h : k < (AG.letters (allAl ss)).length, ∀ m ∈ (nxParts ss n ((AG.letters (allAl ss))[k])).take j, m ∈ ps
theorem RnR.reached {ss : List Sy} {ps : List Nat} {i n k j : Nat} (h : RnR ss ps i n k j) : Rn ss n := h.base.sound _ (List.mem_of_getElem? h.at_)
theorem RnR.lt {ss : List Sy} {ps : List Nat} {i n k j : Nat} (h : RnR ss ps i n k j) : i < ps.length := by
  have := h.at_
  rw [List.getElem?_eq_some_iff] at this
  exact this.1
theorem RnR.start {ss : List Sy} {ps : List Nat} {i n : Nat} (h : RnB ss ps i) (hi : ps[i]? = some n) : RnR ss ps i n 0 0 := ⟨h, hi, fun a _ h => by omega, fun _ m hm => by simp at hm⟩
theorem RnR.old {ss : List Sy} {ps : List Nat} {i n k j : Nat} (h : RnR ss ps i n k j) (hk : k < (AG.letters (allAl ss)).length) (hj : j < (nxParts ss n ((AG.letters (allAl ss))[k])).length) (hm : (nxParts ss n ((AG.letters (allAl ss))[k]))[j] ∈ ps) : RnR ss ps i n k (j + 1) :=
  ⟨h.base, h.at_, h.letters, fun hk' m hm' => by
    rw [List.take_succ_eq_append_getElem hj, List.mem_append, List.mem_singleton] at hm'
    rcases hm' with h1 | rfl
    · exact h.nodes hk' m h1
    · exact hm⟩
theorem RnR.new {ss : List Sy} {ps : List Nat} {i n k j : Nat} (h : RnR ss ps i n k j) (hk : k < (AG.letters (allAl ss)).length) (hj : j < (nxParts ss n ((AG.letters (allAl ss))[k])).length) (hm : (nxParts ss n ((AG.letters (allAl ss))[k]))[j] ∉ ps) : RnR ss (ps ++ [(nxParts ss n ((AG.letters (allAl ss))[k]))[j]]) i n k (j + 1) := by
  have hlt := h.lt
  have hget : ∀ a (ha : a < ps.length) (ha' : a < (ps ++ [(nxParts ss n ((AG.letters (allAl ss))[k]))[j]]).length), (ps ++ [(nxParts ss n ((AG.letters (allAl ss))[k]))[j]])[a] = ps[a] := fun a ha _ => List.getElem_append_left ha
  have hR : Rn ss (nxParts ss n ((AG.letters (allAl ss))[k]))[j] := h.reached.step (List.getElem_mem hk) (List.getElem_mem hj)
  refine ⟨⟨?_, List.mem_append_left _ h.base.zero, fun p hp => ?_, fun a ha hai l hl m hm' => ?_⟩, ?_, fun a ha hak m hm' => ?_, fun hk' m hm' => ?_⟩
  · rw [List.nodup_append]
    exact ⟨h.base.nodup, by simp, fun a ha b hb e => hm (by rw [← List.mem_singleton.1 hb, ← e]; exact ha)⟩
  · rcases List.mem_append.1 hp with hp | hp
    · exact h.base.sound p hp
    · rw [List.mem_singleton.1 hp]; exact hR
  · rw [hget a (by omega) ha] at hm'
    exact List.mem_append_left _ (h.base.done a (by omega) hai l hl m hm')
  · rw [List.getElem?_append_left hlt]; exact h.at_
  · exact List.mem_append_left _ (h.letters a ha hak m hm')
  · rw [List.take_succ_eq_append_getElem hj, List.mem_append, List.mem_singleton] at hm'
    rcases hm' with h1 | rfl
    · exact List.mem_append_left _ (h.nodes hk' m h1)
    · exact List.mem_append_right _ (List.mem_singleton.2 rfl)
theorem RnR.letter {ss : List Sy} {ps : List Nat} {i n k j : Nat} (h : RnR ss ps i n k j) (hk : k < (AG.letters (allAl ss)).length) (hj : j = (nxParts ss n ((AG.letters (allAl ss))[k])).length) : RnR ss ps i n (k + 1) 0 :=
  ⟨h.base, h.at_, fun a ha hak m hm => by
    by_cases e : a = k
    · subst e
      exact h.nodes hk m (by rw [List.take_of_length_le (Nat.le_of_eq hj.symm)]; exact hm)
    · exact h.letters a ha (by omega) m hm, fun _ m hm => by simp at hm⟩
theorem RnR.next {ss : List Sy} {ps : List Nat} {i n j : Nat} (h : RnR ss ps i n (AG.letters (allAl ss)).length j) : RnB ss ps (i + 1) :=
  ⟨h.base.nodup, h.base.zero, h.base.sound, fun a ha hai l hl m hm => by
    by_cases e : a = i
    · subst e
      obtain ⟨b, hb, rfl⟩ := List.getElem_of_mem hl
      have hn : ps[a] = n := by
        have := h.at_
        rw [List.getElem?_eq_getElem ha] at this
        exact Option.some.inj this
      rw [hn] at hm
      exact h.letters b hb hb m hm
    · exact h.base.done a ha (by omega) l hl m hm⟩
theorem RnR.few {ss : List Sy} (hall : ss.all sysOk = true) {ps : List Nat} {i n k j : Nat} (h : RnR ss ps i n k j) : ps.length ≤ prodL (szP ss) := Nat.le_trans (h.base.many hall) (rnL_le ss)

end Go.Proofs.YtdkjnemakkppfaaGreatDoor

/- Plain: the edges of a composition under way; tables of truth values and ranks. -/
namespace Go.Proofs.YtdkjnemakkppfaaGreatDoor
open AG

noncomputable def mkE (ss : List Sy) (n l m : Nat) : Ed := ⟨(rkN ss n : Int), (l : Int), (rkN ss m : Int)⟩
noncomputable def rowTo (ss : List Sy) (n k : Nat) : List Ed := ((letters (allAl ss)).take k).flatMap fun l => (nxParts ss n l).map (mkE ss n l)
theorem rowTo_zero (ss : List Sy) (n : Nat) : rowTo ss n 0 = [] := rfl
theorem rowTo_succ {ss : List Sy} {n k : Nat} (hk : k < (letters (allAl ss)).length) : rowTo ss n (k + 1) = rowTo ss n k ++ (nxParts ss n (letters (allAl ss))[k]).map (mkE ss n (letters (allAl ss))[k]) := by
  unfold rowTo
  rw [List.take_succ_eq_append_getElem hk, List.flatMap_append]
  simp
theorem rowTo_all (ss : List Sy) (n : Nat) : rowTo ss n (letters (allAl ss)).length = cmRow ss n := by
  unfold rowTo cmRow
  rw [List.take_length]
  rfl
theorem map_take_snoc {α β : Type} {l : List α} {f : α → β} {j : Nat} (h : j < l.length) : (l.take (j + 1)).map f = (l.take j).map f ++ [f l[j]] := by
  rw [List.take_succ_eq_append_getElem h, List.map_append]
  rfl
open Classical in
noncomputable def rnTo (ss : List Sy) (i : Nat) : List Nat := (List.range i).filter fun n => decide (Rn ss n)
open Classical in
theorem rnTo_succ (ss : List Sy) (i : Nat) : (Rn ss i → rnTo ss (i + 1) = rnTo ss i ++ [i]) ∧ (¬ Rn ss i → rnTo ss (i + 1) = rnTo ss i) := by
  unfold rnTo
  rw [List.range_succ, List.filter_append]
  constructor
  · intro h; simp [h]
  · intro h; simp [h]
theorem rnTo_all (ss : List Sy) : rnTo ss (prodL (szP ss)) = rnL ss := rfl
noncomputable def esTo (ss : List Sy) (ps : List Nat) : List Ed := ps.flatMap (cmRow ss)
theorem esTo_snoc (ss : List Sy) (ps : List Nat) (n : Nat) : esTo ss (ps ++ [n]) = esTo ss ps ++ cmRow ss n := by unfold esTo; rw [List.flatMap_append]; simp
theorem esTo_all (ss : List Sy) : esTo ss (rnL ss) = cmEs ss := rfl
theorem flat_le {α β : Type} (l : List α) (f : α → List β) (k : Nat) (h : ∀ a ∈ l, (f a).length ≤ k) : (l.flatMap f).length ≤ l.length * k := by
  induction l with
  | nil => simp
  | cons a l ih =>
    rw [List.flatMap_cons, List.length_append, List.length_cons, Nat.add_mul]
    have := h a List.mem_cons_self
    have := ih fun b hb => h b (List.mem_cons_of_mem _ hb)
    omega
theorem nxParts_le {ss : List Sy} (hall : ss.all sysOk = true) (h3 : ss.length ≤ 3) (n l : Nat) : (nxParts ss n l).length ≤ 4096 := by
  obtain ⟨-, -, h, -⟩ := pst_ok hall l n ss.length (Nat.le_refl _)
  have h2 : 16 ^ ss.length ≤ 16 ^ 3 := Nat.pow_le_pow_right (by decide) h3
  unfold nxParts
  omega
theorem cmRow_le {ss : List Sy} (hall : ss.all sysOk = true) (h3 : ss.length ≤ 3) (n : Nat) : (cmRow ss n).length ≤ 24576 := by
  unfold cmRow
  have h6 : (letters (allAl ss)).length ≤ 6 := lettersTo_len _ 6
  refine Nat.le_trans (flat_le _ _ 4096 fun l _ => by rw [List.length_map]; exact nxParts_le hall h3 n l) ?_
  omega
theorem rowTo_le {ss : List Sy} (hall : ss.all sysOk = true) (h3 : ss.length ≤ 3) (n k : Nat) : (rowTo ss n k).length ≤ 24576 := by
  unfold rowTo
  have h6 : ((letters (allAl ss)).take k).length ≤ 6 := by rw [List.length_take]; have : (letters (allAl ss)).length ≤ 6 := lettersTo_len _ 6; omega
  refine Nat.le_trans (flat_le _ _ 4096 fun l _ => by rw [List.length_map]; exact nxParts_le hall h3 n l) ?_
  omega
theorem esTo_le {ss : List Sy} (hall : ss.all sysOk = true) (h3 : ss.length ≤ 3) (ps : List Nat) : (esTo ss ps).length ≤ ps.length * 24576 := flat_le _ _ _ fun n _ => cmRow_le hall h3 n

/- Truth values in a table. -/
open Classical in
noncomputable def rnB (ss : List Sy) : List Bool := (List.range (prodL (szP ss))).map fun n => decide (Rn ss n)
open Classical in
theorem rnB_len (ss : List Sy) : (rnB ss).length = prodL (szP ss) := by unfold rnB; rw [List.length_map, List.length_range]
open Classical in
theorem rnB_at {ss : List Sy} {i : Nat} (h : i < (rnB ss).length) : (rnB ss)[i] = decide (Rn ss i) := by simp only [rnB, List.getElem_map, List.getElem_range]
/-- How many of the first n are true. -/
def cntT (bs : List Bool) (n : Nat) : Nat := ((bs.take n).filter fun b => b).length
theorem cntT_succ {bs : List Bool} {n : Nat} (h : n < bs.length) : cntT bs (n + 1) = cntT bs n + if bs[n] = true then 1 else 0 := by
  unfold cntT
  rw [List.take_succ_eq_append_getElem h, List.filter_append, List.length_append]
  cases bs[n] <;> rfl
theorem cntT_le (bs : List Bool) (n : Nat) : cntT bs n ≤ n := by
  unfold cntT
  refine Nat.le_trans (List.length_filter_le _ _) ?_
  rw [List.length_take]
  omega
theorem cntT_rank (ss : List Sy) : ∀ n, n ≤ prodL (szP ss) → cntT (rnB ss) n = rkN ss n
  | 0, _ => rfl
  | n + 1, h => by
    have hl : n < (rnB ss).length := by rw [rnB_len]; omega
    rw [cntT_succ hl, cntT_rank ss n (by omega), rnB_at hl]
    by_cases hr : Rn ss n
    · rw [if_pos (by simpa using hr), (rkN_succ ss n).1 hr]
    · rw [if_neg (by simpa using hr), (rkN_succ ss n).2 hr, Nat.add_zero]
/-- Where more than sixteen nodes are found the systems cannot be composed. -/
theorem many_bad {s t : Sy} (hs : sysOk s = true) (ht : sysOk t = true) {ps : List Nat} {i : Nat} (h : RnB [s, t] ps i) (hm : 16 < ps.length) : cmOk s t = false := by
  have := h.many (all_two hs ht)
  unfold cmOk
  rw [hs, ht, decide_eq_false (by omega)]
  rfl

end Go.Proofs.YtdkjnemakkppfaaGreatDoor

/- The reference's l5Order. -/
namespace Go.Proofs.YtdkjnemakkppfaaGreatDoor
open Go.RowKit Go.BigFrame Go.Maps AG

/-- A list of numbers under way. -/
structure OrdSt (w0 wr : World) (v : Value) (ns : List Nat) : Prop where
  below : Below w0.heap.size w0 wr
  own : wr.ownsRow w0.heap.size 3 1 v ns.length (natVals ns)
theorem OrdSt.later {w0 wr w' : World} {v : Value} {ns : List Nat} (h : OrdSt w0 wr v ns) (hb : Below wr.heap.size wr w') : OrdSt w0 w' v ns := ⟨h.below.trans (hb.mono h.below.size), own_later_ h.own hb⟩
theorem OrdSt.app {w0 wr w1 : World} {v v' : Value} {ns : List Nat} {o : Obj} {x : Nat} (h : OrdSt w0 wr v ns) (hg : (wr.alloc o).grownBy w1 v.ownBlock)
    (ho : w1.ownsRow w0.heap.size 3 1 v' (ns.length + 1) (natVals ns ++ [.int .i64 (x : Nat)])) : OrdSt w0 w1 v' (ns ++ [x]) := by
  have hkA : KeepB (fun b => v.ownBlock = some b) wr w1 := ((KeepB.refl _ wr).alloc o).grown hg fun k hk _ => hk
  refine ⟨hkA.below h.below h.below.size fun b e => own_block h.own b e, ?_⟩
  rw [List.length_append]
  unfold natVals at ho ⊢
  simpa using ho
theorem OrdSt.new (w0 : World) (x : Nat) : OrdSt w0 (w0.alloc (.cells #[.int .i64 (x : Nat)] 3)) (.slice (some ⟨w0.heap.size, 0, none⟩) 1 1) [x] :=
  ⟨(Below.refl _ _).alloc (Nat.le_refl _) _, ⟨rfl, .inr ⟨w0.heap.size, 1, #[.int .i64 (x : Nat)], rfl, Nat.le_refl _, heap_alloc_self _ _, Nat.le_refl _, by unfold maxLen; omega, rfl, rfl⟩⟩⟩
theorem OrdSt.new0 (w0 : World) : OrdSt w0 (w0.alloc (.cells #[] 3)) (.slice (some ⟨w0.heap.size, 0, none⟩) 0 0) [] :=
  ⟨(Below.refl _ _).alloc (Nat.le_refl _) _, ⟨rfl, .inr ⟨w0.heap.size, 0, #[], rfl, Nat.le_refl _, heap_alloc_self _ _, Nat.le_refl _, Nat.zero_le _, rfl, rfl⟩⟩⟩

end Go.Proofs.YtdkjnemakkppfaaGreatDoor

/- The reference's l4Decode, l4Encode. -/
namespace Go.Proofs.YtdkjnemakkppfaaGreatDoor
open Go.RowKit Go.BigFrame AG

theorem getD_at1 {c : List Nat} {i d : Nat} (h : i < c.length) : c.getD i d = c[i] := by
  rw [List.getD_eq_getElem?_getD, List.getElem?_eq_getElem h]
  rfl

theorem own_of_blk {w : World} {B g n : Nat} {cs : Array Value} {ns : List Nat} (hb : Blk w g 3 cs) (hsz : cs.size = n) (hn : ns.length = n) (hmax : n ≤ 1000000) (hc : ∀ p, p < n → cs[p]? = some (.int .i64 (ns.getD p 0 : Nat))) (hB : B ≤ g) : OwnNats w B (.slice (some ⟨g, 0, none⟩) n n) ns := by
  subst hn
  refine ⟨by simp, .inr ⟨g, ns.length, cs, rfl, hB, hb, Nat.le_refl _, by unfold maxLen; omega, by omega, ?_⟩⟩
  refine List.ext_getElem? fun p => ?_
  rw [Nat.mul_one, List.getElem?_take]
  by_cases hp : p < ns.length
  · rw [if_pos hp, Array.getElem?_toList, hc p hp, List.getElem?_map, List.getElem?_eq_getElem hp, getD_at1 hp]
    rfl
  · rw [if_neg hp, List.getElem?_eq_none (by simpa using hp)]

set_option maxRecDepth 100000 in
set_option maxHeartbeats 4000000 in
theorem l4Decode_any (ss : List Nat) (A : Option Addr) (c n : Nat) (w : World) (hs : ∀ a ∈ ss, 1 ≤ a) (hl : ss.length ≤ 3) (hn : n ≤ 1000000) (hsc : ss.length ≤ c) (hc : c ≤ 9223372036854775807) (hr : NatsAt w w.heap.size A ss) :
    Calls Tryz.prog 51 #[.slice A ss.length c, .int .i64 (n : Nat)] w fun e w' => ∃ v, e = .returned v ∧ OwnNats w' w.heap.size v (decS ss n) ∧ Below w.heap.size w w' := by
  obtain ⟨i0, hi, hz0', hz1, hz2⟩ := info_parts infoInt
  have hmk := fun W => run_make_rowN (P := Tryz.prog) 63 3 i0 _ Tryz.underlying63 hi hz0' .i64 .i64 ss.length ss.length (Nat.le_refl _) (by rw [hz2]; omega) (by omega) W
  rw [hz1] at hmk
  clear hz1 hz0' hz2 hi
  have hcn : ss.length * 1 = ss.length := Nat.mul_one _
  rw [hcn] at hmk
  clear hcn
  have hs' := hid hs
  replace hr := hid hr
  clear hs
  go_enter Tryz.func51, Tryz.ntmps51
  go_upto_region 2 with fail
  obtain ⟨w2, hw2⟩ : ∃ w2, w.alloc (.cells (madeCells #[Value.int IntKind.i64 0] ss.length) 3) = w2 := ⟨_, rfl⟩
  have hblk2 : Blk w2 w.heap.size 3 (madeCells #[Value.int IntKind.i64 0] ss.length) := by rw [← hw2]; exact Blk.new _ _ _
  have hB2 : Below w.heap.size w w2 := by rw [← hw2]; exact (Below.refl _ _).alloc (Nat.le_refl _) _
  rw [hw2]
  clear hw2
  have hbl2 := hid hblk2
  have hr2 := hid (hr.out.later hB2)
  have hz2 := hblk2.lt
  clear hblk2
  have hsz0 : Hid ((madeCells #[Value.int IntKind.i64 0] ss.length).size = ss.length) := hid (by rw [size_madeCells])
  go_wp2_with fail
  go_loopw [1, 6] (fun nv kv wr => ∃ (k m : Nat) (cs : Array Value), nv = .int .i64 (m : Nat) ∧ kv = .int .i64 ((k : Int) - 1) ∧ k ≤ ss.length ∧ m = n / prodL (ss.drop k) ∧ Blk wr w.heap.size 3 cs ∧ cs.size = ss.length ∧ (∀ p, k ≤ p → p < ss.length → cs[p]? = some (.int .i64 ((decS ss n).getD p 0 : Nat))) ∧ KeepB (fun b => b = w.heap.size) w2 wr) (fun _ kv _ => (intOf kv + 1).toNat)
  case atStart => exact ⟨ss.length, n, _, rfl, rfl, Nat.le_refl _, by rw [List.drop_length]; simp [prodL], hbl2.out, hsz0.out, fun p h1 h2 => by omega, KeepB.refl _ _⟩
  case round =>
    clear hbl2
    obtain ⟨k, m, cs, rfl, rfl, hk, hm, hblk, hsz, hin, hkp⟩ := hrel
    have hBr : Below w.heap.size w wr := KeepB.below hB2 hkp hB2.size fun b e => by omega
    by_cases hk0 : 0 < k
    · obtain ⟨k', rfl⟩ : ∃ k', k = k' + 1 := ⟨k - 1, by omega⟩
      have e1 : (((k' + 1 : Nat) : Int) - 1) = (k' : Int) := by omega
      rw [e1]
      obtain ⟨b, o, hAe, hb, hE⟩ := hr.out (by omega)
      subst hAe
      have a0 := (hBr.cell (p := ⟨b, o + k', none⟩) (by simpa using hb)).trans (hE k' (by omega))
      have hne : b ≠ w.heap.size := by omega
      have hne' : w.heap.size ≠ b := by omega
      obtain ⟨a, ha⟩ : ∃ a, Hid (a = ss[k']'(by omega)) := ⟨_, hid rfl⟩
      rw [← ha.out] at a0
      have ha1 : 1 ≤ a := by rw [ha.out]; exact hs'.out _ (List.getElem_mem _)
      have hml : m ≤ 1000000 := by rw [hm]; exact Nat.le_trans (Nat.div_le_self _ _) hn
      obtain ⟨x, hx⟩ : ∃ x, Hid (x = m % a) := ⟨_, hid rfl⟩
      have hrem : Int.tmod (m : Int) (a : Int) = (x : Int) := by rw [hx.out]; exact (Int.ofNat_tmod m a).symm
      obtain ⟨y, hy⟩ : ∃ y, Hid (y = m / a) := ⟨_, hid rfl⟩
      have hquo : Int.tdiv (m : Int) (a : Int) = (y : Int) := by rw [hy.out]; exact (Int.ofNat_tdiv m a).symm
      have hxd : Hid ((decS ss n).getD k' 0 = x) := hid (by
        rw [getD_at1 (by rw [decS_len]; omega), decS_get ss n k' (by omega), hx.out, hm, ha.out])
      have hyd : Hid (y = n / prodL (ss.drop k')) := hid (by rw [hy.out, hm, ha.out, decS_step (by omega)])
      obtain ⟨v0, d0⟩ := hblk.some_ (i := k') (by omega)
      have z0 := hblk.frozen k'
      have hbk2 := hid (hblk.set_ k' (.int .i64 (x : Nat)))
      have hkp2 := hid (hkp.setCell ⟨w.heap.size, k', none⟩ (.int .i64 (x : Nat)) fun _ => rfl)
      have hin2 : Hid (∀ p, k' ≤ p → p < ss.length → (cs.setIfInBounds k' (.int .i64 (x : Nat)))[p]? = some (.int .i64 ((decS ss n).getD p 0 : Nat))) := hid (fun p h1 h2 => by
        by_cases e : p = k'
        · subst e
          rw [Array.getElem?_setIfInBounds_self_of_lt (by omega), hxd.out]
        · rw [Array.getElem?_setIfInBounds_ne (Ne.symm e)]
          exact hin p (by omega) h2)
      have hsz2 : Hid ((cs.setIfInBounds k' (.int .i64 (x : Nat))).size = ss.length) := hid (by simpa using hsz)
      have ha0 : (a : Int) ≠ 0 := by omega
      have hxl : x ≤ 1000000 := by rw [hx.out]; exact Nat.le_trans (Nat.mod_le _ _) hml
      have hyl : y ≤ 1000000 := by rw [hy.out]; exact Nat.le_trans (Nat.div_le_self _ _) hml
      have k1 : (0 : Int) ≤ (k' : Int) ∧ (k' : Int) < (ss.length : Int) := by omega
      replace hblk := hid hblk
      replace hin := hid hin
      replace hsz := hid hsz
      replace hkp := hid hkp
      replace hm := hid hm
      replace hE := hid hE
      clear e1
      go_wp2_with fail
      go_roundw
      case rel => exact ⟨k', y, _, rfl, by go_num, by omega, hyd.out, hbk2.out, hsz2.out, hin2.out, hkp2.out⟩
      case measure => simp [intOf] <;> omega
    · obtain rfl : k = 0 := by omega
      have hfin : Hid (OwnNats wr w.heap.size (.slice (some ⟨w.heap.size, 0, none⟩) ss.length ss.length) (decS ss n)) := hid (by
        exact own_of_blk hblk hsz (decS_len ss n) (by omega) (fun p hp => hin p (Nat.zero_le _) hp) (Nat.le_refl _))
      replace hblk := hid hblk
      replace hin := hid hin
      replace hkp := hid hkp
      replace hm := hid hm
      go_wp2_with fail
      go_ret
      exact ⟨_, rfl, hfin.out, hBr⟩


end Go.Proofs.YtdkjnemakkppfaaGreatDoor

/- The reference's l4Nexts. -/
namespace Go.Proofs.YtdkjnemakkppfaaGreatDoor
open Go.RowKit Go.BigFrame AG

theorem OrdSt.app0 {w0 wr w1 : World} {v v' : Value} {ns : List Nat} {x : Nat} (h : OrdSt w0 wr v ns) (hg : wr.grownBy w1 v.ownBlock)
    (ho : w1.ownsRow w0.heap.size 3 1 v' (ns.length + 1) (natVals ns ++ [.int .i64 (x : Nat)])) : OrdSt w0 w1 v' (ns ++ [x]) := by
  have hkA : KeepB (fun b => v.ownBlock = some b) wr w1 := (KeepB.refl _ wr).grown hg fun k hk _ => hk
  refine ⟨hkA.below h.below h.below.size fun b e => own_block h.own b e, ?_⟩
  rw [List.length_append]
  unfold natVals at ho ⊢
  simpa using ho
def netV (c0 c1 c2 : Value) (lt kd gl : Int) : Value := .agg #[c0, c1, c2, .int .i64 lt, .int .i64 kd, .int .i64 gl]
/-- What the search asks of a product: the sizes of its members, the choices that a letter leaves to each of them. -/
structure NetOk (w0 : World) (nv : Value) (ss : List Nat) (ch : Nat → Nat → Nat → List Nat) : Prop where
  len3 : ss.length ≤ 3
  size : ∀ a ∈ ss, 1 ≤ a ∧ a ≤ 16
  chlen : ∀ i q l, (ch i q l).length ≤ 16
  chlt : ∀ i, i < ss.length → ∀ q, q < ss.getD i 1 → ∀ l, ∀ x ∈ ch i q l, x < ss.getD i 1
  call : ∀ w' i q l, Below w0.heap.size w0 w' → i < ss.length → q < ss.getD i 1 → l < 6 → Calls Tryz.prog 99 #[nv, .int .i64 (i : Nat), .int .i64 (q : Nat), .int .i64 (l : Nat)] w' fun e w'' => ∃ v, e = .returned v ∧ OwnNats w'' w'.heap.size v (ch i q l) ∧ Below w'.heap.size w' w''
theorem NetOk.later {w0 w1 : World} {nv : Value} {ss : List Nat} {ch : Nat → Nat → Nat → List Nat} (h : NetOk w0 nv ss ch) (hb : Below w0.heap.size w0 w1) : NetOk w1 nv ss ch :=
  ⟨h.len3, h.size, h.chlen, h.chlt, fun w' i q l hb' => h.call w' i q l (hb.trans (hb'.mono hb.size))⟩
theorem nxK_4096 {ss : List Nat} {C : Nat → List Nat} (hC : ∀ i, (C i).length ≤ 16) {k : Nat} (hk : k ≤ 3) : (nxK ss C k).length ≤ 4096 :=
  Nat.le_trans (nxK_len hC k) (Nat.le_trans (Nat.pow_le_pow_right (by decide) hk) (by decide))

set_option maxRecDepth 100000 in
set_option maxHeartbeats 8000000 in
theorem l4Nexts_any (c0 c1 c2 : Value) (lt kd gl : Int) (ss qs : List Nat) (ch : Nat → Nat → Nat → List Nat) (A B : Option Addr) (c d l : Nat) (w : World) (hN : NetOk w (netV c0 c1 c2 lt kd gl) ss ch) (hql : qs.length = ss.length) (hq : ∀ i, i < ss.length → qs.getD i 0 < ss.getD i 1) (hl : l < 6)
    (hsc : ss.length ≤ c) (hc : c ≤ 9223372036854775807) (hqd : qs.length ≤ d) (hd : d ≤ 9223372036854775807) (hr : NatsAt w w.heap.size A ss) (hr2 : NatsAt w w.heap.size B qs) :
    Calls Tryz.prog 50 #[netV c0 c1 c2 lt kd gl, .slice A ss.length c, .slice B qs.length d, .int .i64 (l : Nat)] w fun e w' => ∃ v, e = .returned v ∧ OwnNats w' w.heap.size v (nxK ss (fun i => ch i (qs.getD i 0) l) ss.length) ∧ Below w.heap.size w w' := by
  obtain ⟨i0, hi, hz0, hz1, hz2⟩ := info_parts infoInt
  have hlen3 := hN.len3
  obtain ⟨w0, hw0, hzz0, hB0, hS⟩ := boxed w #[c0, c1, c2, .int .i64 lt, .int .i64 kd, .int .i64 gl] 73
  have hN0 := hid (hN.later hB0)
  have hr0 := hid (hr.later hB0)
  have hr20 := hid (hr2.later hB0)
  have hSp := hid (fun w' (hb : Below w0.heap.size w0 w') => And.intro (And.intro (hS 0 _ rfl w' (hb.mono hzz0)) (And.intro (hS 1 _ rfl w' (hb.mono hzz0)) (hS 2 _ rfl w' (hb.mono hzz0)))) (And.intro (hS 3 _ rfl w' (hb.mono hzz0)) (And.intro (hS 4 _ rfl w' (hb.mono hzz0)) (hS 5 _ rfl w' (hb.mono hzz0)))))
  obtain ⟨C, hC⟩ : ∃ C : Nat → List Nat, Hid (C = fun i => ch i (qs.getD i 0) l) := ⟨_, hid rfl⟩
  rw [← hC.out]
  have hC16 : Hid (∀ i, (C i).length ≤ 16) := hid fun i => by rw [hC.out]; exact hN.chlen _ _ _
  have hClt : Hid (∀ i, i < ss.length → ∀ x ∈ C i, x < 16) := hid fun i hi x hx => by
    rw [hC.out] at hx
    have h1 := hN.chlt i hi _ (hq i hi) l x hx
    rw [getD_at1 hi] at h1
    have h2 := (hN.size _ (List.getElem_mem hi)).2
    omega
  have hcall := hid (fun w' i (hb : Below w0.heap.size w0 w') (hi : i < ss.length) => by
    have h := hN0.out.call w' i (qs.getD i 0) l hb hi (hq i hi) hl
    rw [show ch i (qs.getD i 0) l = C i from by rw [hC.out]] at h
    exact h)
  have hsz16 : Hid (∀ a ∈ ss, a ≤ 16) := hid fun a ha => (hN.size a ha).2
  have hnx := hid (fun k (hk : k ≤ 3) => nxK_4096 (ss := ss) hC16.out hk)
  have hnlt : Hid (∀ k, k ≤ ss.length → ∀ m ∈ nxK ss C k, m < 4096) := hid fun k hk m hm => by
    have h1 := nxK_lt (ss := ss) (C := C) hk (fun i hi x hx => by
      rw [hC.out] at hx
      exact hN.chlt i hi _ (hq i hi) l x hx) m hm
    have h2 := prodT_le (ss := ss) (b := 16) hsz16.out (by decide) k
    have h3 : 16 ^ k ≤ 16 ^ 3 := Nat.pow_le_pow_right (by decide) (by omega)
    have h4 : (16 : Nat) ^ 3 = 4096 := by decide
    omega
  have hst0 := hid (OrdSt.new w0 0)
  replace hql := hid hql
  replace hq := hid hq
  replace hr := hid hr
  replace hr2 := hid hr2
  clear hN hS
  unfold netV
  unfold netV at hcall
  go_enter Tryz.func50, Tryz.ntmps50
  go_wp2_with fail
  go_loopw [9, 10] (fun vO iv wr => ∃ (i : Nat) (out : List Nat) (AO : Option Addr) (cO : Nat), vO = .slice AO out.length cO ∧ iv = .int .i64 (i : Nat) ∧ i ≤ ss.length ∧ nxK ss C i = out ∧ OrdSt w0 wr (.slice AO out.length cO) out) (fun _ iv _ => ss.length - (intOf iv).toNat)
  case atStart => exact ⟨0, [0], _, _, rfl, rfl, Nat.zero_le _, rfl, hst0.out⟩
  case round =>
    clear hst0 hw0
    obtain ⟨i, out, AO, cO, rfl, rfl, hiN, ho, hst⟩ := hrel
    have hBm := hst.below
    have hszm := hBm.size
    by_cases hlt : i < ss.length
    · have hiq : i < qs.length := by have := hql.out; omega
      obtain ⟨bA, oA, hAe, hbA, hEA⟩ := (hr0.out.later hBm) (by omega)
      subst hAe
      obtain ⟨bQ, oQ, hQe, hbQ, hEQ⟩ := (hr20.out.later hBm) (by omega)
      subst hQe
      have q0 := hEQ i hiq
      obtain ⟨q, hqq⟩ : ∃ q, Hid (q = qs[i]) := ⟨_, hid rfl⟩
      rw [← hqq.out] at q0
      have hcl := hid (fun w' (hb : Below wr.heap.size wr w') => by
        have h := hcall.out w' i (hBm.trans (hb.mono hszm)) hlt
        rw [show qs.getD i 0 = q from by rw [getD_at1 hiq, hqq.out]] at h
        exact h)
      obtain ⟨⟨p0, p1, p2⟩, p3, p4, p5⟩ := hSp.out wr hBm
      have hlw : w.heap.size < wr.heap.size := by omega
      have y0 : ∀ x', (Fam wr.heap.size wr x').cell? ⟨w.heap.size, 0, none⟩ = some c0 := fun x' => by rw [(Fam.below wr.heap.size wr x').cell (by simpa using hlw)]; exact p0
      have y1 : ∀ x', (Fam wr.heap.size wr x').cell? ⟨w.heap.size, 1, none⟩ = some c1 := fun x' => by rw [(Fam.below wr.heap.size wr x').cell (by simpa using hlw)]; exact p1
      have y2 : ∀ x', (Fam wr.heap.size wr x').cell? ⟨w.heap.size, 2, none⟩ = some c2 := fun x' => by rw [(Fam.below wr.heap.size wr x').cell (by simpa using hlw)]; exact p2
      have y3 : ∀ x', (Fam wr.heap.size wr x').cell? ⟨w.heap.size, 3, none⟩ = some (.int .i64 lt) := fun x' => by rw [(Fam.below wr.heap.size wr x').cell (by simpa using hlw)]; exact p3
      have y4 : ∀ x', (Fam wr.heap.size wr x').cell? ⟨w.heap.size, 4, none⟩ = some (.int .i64 kd) := fun x' => by rw [(Fam.below wr.heap.size wr x').cell (by simpa using hlw)]; exact p4
      have y5 : ∀ x', (Fam wr.heap.size wr x').cell? ⟨w.heap.size, 5, none⟩ = some (.int .i64 gl) := fun x' => by rw [(Fam.below wr.heap.size wr x').cell (by simpa using hlw)]; exact p5
      have y6 : ∀ x', (Fam wr.heap.size wr x').cell? ⟨bQ, oQ + i, none⟩ = some (.int .i64 (q : Nat)) := fun x' => by rw [(Fam.below wr.heap.size wr x').cell (by simpa using hbQ)]; exact q0
      have k1 : (0 : Int) ≤ (i : Int) ∧ (i : Int) < (ss.length : Int) ∧ (i : Int) < (qs.length : Int) := by omega
      have hst' := hid hst
      replace ho := hid ho
      replace hEA := hid hEA
      replace hEQ := hid hEQ
      clear hst p0 p1 p2 p3 p4 p5 q0
      go_upto_region 5 with fail
      refine wp_region_grow 8 wr.heap.size wr (fun _ u w' => OwnNats w' wr.heap.size u (C i)) (by kernel_rfl) (by kernel_rfl) (Nat.le_refl _) (Below.refl _ _) ?_
      simp only [List.take_succ_cons, List.take_zero, List.drop_succ_cons, List.drop_zero]
      (repeat (refine grow_quiet (by rfl) (by rfl) (by rfl) ?_; intro K hK; go_big_quiet_op; go_big_quiet_on))
      refine grow_call (by rfl) (by rfl) (fun u v v' hb h => own_keep h (.of_below (K := fun _ => False) hb) fun _ _ h => h) (fun wq hbq _ => ?_) fun u hu => ?_
      · go_simp
        refine ⟨rfl, (hcl.out wq hbq).mono ?_⟩
        rintro e w5 ⟨v, rfl, ho, hb5⟩
        exact ⟨v, rfl, hb5, own_base ho hbq.size⟩
      obtain ⟨wX, -, hoX⟩ := hu
      obtain ⟨AC, cC, rfl, -, -, -⟩ := OwnNats.read hoX
      clear hoX
      simp only [Act.put, List.setIfInBounds_toArray, List.set_cons_zero, List.set_cons_succ]
      (repeat (refine grow_quiet (by rfl) (by rfl) (by rfl) ?_; intro K hK; go_big_quiet_op; go_big_quiet_on))
      refine grow_nil ?_
      intro w5 hb5 hf
      have hoC5 : OwnNats w5 wr.heap.size (.slice AC (C i).length cC) (C i) := hf _ List.mem_cons_self
      clear hf y0 y1 y2 y3 y4 y5 y6
      have hst5 := hid (hst'.out.later hb5)
      have hB5 := hst5.out.below
      have hz5 := hB5.size
      have hzr5 := hb5.size
      obtain ⟨a, ha⟩ : ∃ a, Hid (a = ss[i]) := ⟨_, hid rfl⟩
      have ha16 : a ≤ 16 := by rw [ha.out]; exact hsz16.out _ (List.getElem_mem _)
      obtain ⟨cs, hcs⟩ : ∃ cs, Hid (cs = C i) := ⟨_, hid rfl⟩
      have hcs16 : cs.length ≤ 16 := by rw [hcs.out]; exact hC16.out i
      have hcsl : Hid (∀ x ∈ cs, x < 16) := hid (by rw [hcs.out]; exact hClt.out i hlt)
      have hol : out.length ≤ 4096 := by rw [← ho.out]; exact hnx.out i (by omega)
      have houtl : Hid (∀ m ∈ out, m < 4096) := hid (by rw [← ho.out]; exact hnlt.out i (by omega))
      have hnew : Hid (stepN a cs out = nxK ss C (i + 1)) := hid (by rw [nxK, ho.out, getD_at1 hlt, ← ha.out, ← hcs.out])
      rw [← hcs.out] at hoC5 ⊢
      obtain ⟨AC', cC', e, -, -, hNC⟩ := OwnNats.read hoC5
      cases e
      obtain ⟨AO', cO', e, hcO, hcO', hNO⟩ := OwnN.read hst5.out.own
      cases e
      have hNC' := hid hNC
      have hNO' := hid hNO
      have hn0 := hid (OrdSt.new0 w5)
      replace hoC5 := hid hoC5
      clear hNC hNO
      go_wp2_with fail
      obtain ⟨wo, rfl⟩ : ∃ wo : World, wo = wr := ⟨_, rfl⟩
      go_loopw [12, 13] (fun vN kv wr => ∃ (k : Nat) (nx : List Nat) (AN : Option Addr) (cN : Nat), vN = .slice AN nx.length cN ∧ kv = .int .i64 (k : Nat) ∧ k ≤ out.length ∧ stepN a cs (out.take k) = nx ∧ OrdSt w5 wr (.slice AN nx.length cN) nx) (fun _ kv _ => out.length - (intOf kv).toNat)
      case atStart => exact ⟨0, [], _, _, rfl, rfl, Nat.zero_le _, by simp [stepN], hn0.out⟩
      case round =>
        clear hn0
        obtain ⟨k, nx, AN, cN, rfl, rfl, hk, hnxe, hsn⟩ := hrel
        have hnxl : nx.length ≤ 65536 := by
          rw [← hnxe, stepN_len, List.length_take]
          exact Nat.le_trans (Nat.mul_le_mul (Nat.le_trans (Nat.min_le_right _ _) hol) hcs16) (by decide)
        by_cases hkl : k < out.length
        · have hsn' := hid hsn
          obtain ⟨o, hoo⟩ : ∃ o, Hid (o = out[k]) := ⟨_, hid rfl⟩
          have ho4 : o < 4096 := by rw [hoo.out]; exact houtl.out _ (List.getElem_mem _)
          have hstp := hid (stepN_take (a := a) (c := cs) hkl)
          rw [hnxe, ← hoo.out] at hstp
          replace hnxe := hid hnxe
          clear hsn
          go_wp2_with fail
          obtain ⟨wp, rfl⟩ : ∃ wp : World, wp = wr := ⟨_, rfl⟩
          go_loopw [12, 14] (fun vN jv wr => ∃ (j : Nat) (ny : List Nat) (AN : Option Addr) (cN : Nat), vN = .slice AN ny.length cN ∧ jv = .int .i64 (j : Nat) ∧ j ≤ cs.length ∧ ny = nx ++ (cs.take j).map (fun x => o * a + x) ∧ OrdSt w5 wr (.slice AN ny.length cN) ny) (fun _ jv _ => cs.length - (intOf jv).toNat)
          case atStart => exact ⟨0, nx, _, _, rfl, rfl, Nat.zero_le _, by simp, hsn'.out⟩
          case round =>
            clear hsn'
            obtain ⟨j, ny, AN, cN, rfl, rfl, hj, hny, hsy⟩ := hrel
            have hnyl : ny.length ≤ 65600 := by
              rw [hny, List.length_append, List.length_map, List.length_take]
              omega
            have hBy := hsy.below
            have hzy := hBy.size
            by_cases hjl : j < cs.length
            · obtain ⟨bO, oO, hOe, hbO, hEO⟩ := hNO'.out (by omega)
              subst hOe
              obtain ⟨bC, oC, hCe, hbC, hEC⟩ := hNC'.out (by omega)
              subst hCe
              have o0 := (hBy.cell (p := ⟨bO, oO + k, none⟩) (by simpa using hbO)).trans (hEO k hkl)
              have c0' := (hBy.cell (p := ⟨bC, oC + j, none⟩) (by simpa using hbC)).trans (hEC j hjl)
              rw [← hoo.out] at o0
              obtain ⟨x, hxx⟩ : ∃ x, Hid (x = cs[j]) := ⟨_, hid rfl⟩
              rw [← hxx.out] at c0'
              have hx16 : x < 16 := by rw [hxx.out]; exact hcsl.out _ (List.getElem_mem _)
              have hBwr := hB5.trans (hBy.mono hz5)
              obtain ⟨bA2, oA2, hAe2, hbA2, hEA2⟩ := hr0.out (by omega)
              cases hAe2
              have a0 := (hBwr.cell (p := ⟨bA, oA + i, none⟩) (by simpa using hbA2)).trans (hEA2 i hlt)
              rw [← ha.out] at a0
              have hbO' : bO < wr.heap.size := by omega
              have hbC' : bC < wr.heap.size := by omega
              have hbA' : bA < wr.heap.size := by have := hBwr.size; omega
              have y0 : ∀ x', (Fam wr.heap.size wr x').cell? ⟨bO, oO + k, none⟩ = some (.int .i64 (o : Nat)) := fun x' => by rw [(Fam.below wr.heap.size wr x').cell (by simpa using hbO')]; exact o0
              have y1 : ∀ x', (Fam wr.heap.size wr x').cell? ⟨bC, oC + j, none⟩ = some (.int .i64 (x : Nat)) := fun x' => by rw [(Fam.below wr.heap.size wr x').cell (by simpa using hbC')]; exact c0'
              have y2 : ∀ x', (Fam wr.heap.size wr x').cell? ⟨bA, oA + i, none⟩ = some (.int .i64 (a : Nat)) := fun x' => by rw [(Fam.below wr.heap.size wr x').cell (by simpa using hbA')]; exact a0
              have k2 : (0 : Int) ≤ (k : Int) ∧ (k : Int) < (out.length : Int) ∧ (0 : Int) ≤ (j : Int) ∧ (j : Int) < (cs.length : Int) ∧ (0 : Int) ≤ (i : Int) ∧ (i : Int) < (ss.length : Int) := by omega
              have hj1 : j + 1 ≤ cs.length := hjl
              obtain ⟨P, hP⟩ : ∃ P, Hid (P = o * a) := ⟨_, hid rfl⟩
              have hPl : P ≤ 65536 := by rw [hP.out]; exact Nat.le_trans (Nat.mul_le_mul (Nat.le_of_lt ho4) ha16) (by decide)
              have hsum : P + x < 9223372036854775807 := by omega
              obtain ⟨Z, hZ⟩ : ∃ Z, Hid (Z = P + x) := ⟨_, hid rfl⟩
              have hny2 : Hid (ny ++ [Z] = nx ++ (cs.take (j + 1)).map (fun x => o * a + x)) := hid (by
                rw [List.take_succ_eq_append_getElem hjl, List.map_append, List.map_singleton, ← List.append_assoc, ← hny, ← hxx.out, ← hP.out, ← hZ.out])
              have hw7 := hid hsy
              have hAN : ny.length ≤ 65600 := hnyl
              replace hny := hid hny
              replace hEO := hid hEO
              replace hEC := hid hEC
              replace hEA2 := hid hEA2
              replace hBwr := hid hBwr
              replace hBy := hid hBy
              have e5 : wrap64 ((o : Int) * (a : Int)) = (P : Int) := by rw [← Int.natCast_mul, ← hP.out]; exact IntWalk.wrap64_in _ ⟨by omega, by omega⟩
              have e6 := wrap_addN P x hsum
              rw [← hZ.out] at e6
              clear hsy o0 c0' a0 hPl hsum ho4 ha16 hx16
              go_upto_region 13 with fail
              refine wp_region_grow 16 wr.heap.size wr (fun _ _ _ => True) (by kernel_rfl) (by kernel_rfl) (Nat.le_refl _) (Below.refl _ _) ?_
              simp only [List.take_succ_cons, List.take_zero, List.drop_succ_cons, List.drop_zero]
              (repeat (refine grow_quiet (by rfl) (by rfl) (by rfl) ?_; intro K hK; go_big_quiet_op; go_big_quiet_on))
              refine grow_new (by rfl) (fun b => .slice (some ⟨b, 0, none⟩) 1 1) 3 #[.int .i64 (Z : Nat)] (fun _ => by go_simp) (fun _ => rfl) (Nat.le_refl _) fun g3 hg3 => ?_
              simp only [Act.put, List.setIfInBounds_toArray, List.set_cons_zero, List.set_cons_succ]
              refine grow_nil ?_
              intro w7 hb7 hf
              obtain ⟨g3', hge, -, hblk3⟩ := hf _ List.mem_cons_self
              cases hge
              have hnew3 := hid (Blk.news hblk3)
              clear hblk3 hf y0 y1 y2 e5 e6
              have hst7 := hid (hw7.out.later hb7)
              have hz7 := hst7.out.below.size
              go_wp2_with (at_builtin; refine wpList_append_own_at _ rfl _ _ 63 rfl w5.heap.size 3 i0 (.int .i64 0) 1 8 Tryz.underlying63 hi hz0 hz1 hz2 rfl (by decide) _ _ _ rfl hst7.out.own ⟨g3, 0, none⟩ 1 1 [.int .i64 (Z : Nat)] rfl rfl hnew3.out (by intro u hu; simp at hu; subst hu; rfl) (by unfold maxLen; omega) (by omega) (by first | omega | (simp; omega)) ?_; intro v8 w8 hO8 hg8 _ hat8; obtain ⟨Av8, cv8, ev8, -, -⟩ := own_slice hO8; subst ev8; have hst8 := hid (hst7.out.app0 (x := Z) hg8 hO8); clear hO8 hg8 hat8)
              go_roundw
              case rel => exact ⟨j + 1, ny ++ [Z], _, _, by rw [List.length_append]; rfl, by go_num, by omega, hny2.out, by have := hst8.out; rw [List.length_append]; exact this⟩
              case measure => simp [intOf]; omega
            · obtain rfl : j = cs.length := by omega
              have hny3 : Hid (stepN a cs (out.take (k + 1)) = ny) := hid (by rw [hstp.out, hny, List.take_length])
              replace hny := hid hny
              have hsy' := hid hsy
              clear hsy
              go_wp2_with fail
              go_roundw
              case rel => exact ⟨k + 1, ny, _, _, rfl, by go_num, by omega, hny3.out, hsy'.out⟩
              case measure => simp [intOf]; omega
        · obtain rfl : k = out.length := by omega
          have hfin : Hid (nxK ss C (i + 1) = nx) := hid (by rw [← hnew.out, ← hnxe, List.take_length])
          have hst9 := hid (show OrdSt w0 wr (.slice AN nx.length cN) nx from ⟨hB5.trans (hsn.below.mono hz5), own_base hsn.own hz5⟩)
          replace hnxe := hid hnxe
          replace hsn := hid hsn
          go_wp2_with fail
          go_roundw
          case rel => exact ⟨i + 1, nx, _, _, rfl, by go_num, by omega, hfin.out, hst9.out⟩
          case measure => simp [intOf]; omega
    · obtain rfl : i = ss.length := by omega
      have hfin : Hid (OwnNats wr w.heap.size (.slice AO out.length cO) (nxK ss C ss.length)) := hid (by
        rw [ho]
        exact own_base hst.own hB0.size)
      have hB := hB0.trans (hst.below.mono hB0.size)
      have hge : ¬ ((ss.length : Int) < (qs.length : Int)) := by have := hql.out; omega
      replace hst := hid hst
      replace ho := hid ho
      go_wp2_with fail
      go_ret
      exact ⟨_, rfl, hfin.out, hB⟩

end Go.Proofs.YtdkjnemakkppfaaGreatDoor

/- The reference's l4Moves. -/
namespace Go.Proofs.YtdkjnemakkppfaaGreatDoor
open Go.RowKit Go.BigFrame AG

/-- Rows of several types that are owned, each in a block of its own. -/
structure FamG (w : World) (base : Nat) (fs : List (TypeId × Value × List Value)) : Prop where
  rows : ∀ f ∈ fs, w.ownsRow base f.1 1 f.2.1 f.2.2.length f.2.2
  apart : fs.Pairwise fun f g => ∀ k, f.2.1.ownBlock = some k → g.2.1.ownBlock ≠ some k
section
variable {w w1 w' : World} {base : Nat} {fs gs l1 l2 : List (TypeId × Value × List Value)} {f : TypeId × Value × List Value}
theorem FamG.keep {K : Nat → Prop} (h : FamG w base fs) (hk : KeepB K w w') (h2 : ∀ f ∈ fs, ∀ g, f.2.1.ownBlock = some g → ¬ K g) : FamG w' base fs :=
  ⟨fun f hf => own_keep (h.rows f hf) hk (h2 f hf), h.apart⟩
theorem FamG.later (h : FamG w base fs) (hb : Below w.heap.size w w') : FamG w' base fs := h.keep (.of_below (K := fun _ => False) hb) fun _ _ _ _ h => h
theorem FamG.perm (h : FamG w base fs) (hp : fs.Perm gs) : FamG w base gs :=
  ⟨fun f hf => h.rows f (hp.mem_iff.2 hf), (hp.pairwise_iff (fun {a b} h k e e' => h k e' e)).1 h.apart⟩
theorem FamG.lt (h : FamG w base fs) (hf : f ∈ fs) {g : Nat} (e : f.2.1.ownBlock = some g) : base ≤ g ∧ g < w.heap.size := (h.rows f hf).lt g e
theorem FamG.app0 {v' : Value} {ys' : List Value} (h : FamG w base (l1 ++ f :: l2)) (hg : w.grownBy w1 f.2.1.ownBlock)
    (ho : w1.ownsRow base f.1 1 v' ys'.length ys') (hat : v'.ownBlock = f.2.1.ownBlock ∨ v'.ownBlock = some w.heap.size) : FamG w1 base (l1 ++ (f.1, v', ys') :: l2) := by
  have hlt : ∀ y ∈ l1 ++ f :: l2, ∀ g, y.2.1.ownBlock = some g → g < w.heap.size := fun y hy g e => (h.lt hy e).2
  obtain ⟨h2, h3⟩ := h
  rw [List.pairwise_append, List.pairwise_cons] at h3
  have hkA : KeepB (fun b => f.2.1.ownBlock = some b) w w1 := (KeepB.refl _ w).grown hg fun k hk _ => hk
  refine ⟨fun y hy => ?_, ?_⟩
  · rw [List.mem_append, List.mem_cons] at hy
    rcases hy with hy | rfl | hy
    · exact own_keep (h2 y (by simp [hy])) hkA fun g hg e => h3.2.2 y hy f List.mem_cons_self g hg e
    · exact ho
    · exact own_keep (h2 y (by simp [hy])) hkA fun g hg e => h3.2.1.1 y hy g e hg
  · rw [List.pairwise_append, List.pairwise_cons]
    refine ⟨h3.1, ⟨fun y hy k e e' => ?_, h3.2.1.2⟩, fun a ha b hb k e e' => ?_⟩
    · have := hlt y (by simp [hy]) k e'
      rcases hat with h | h
      · exact h3.2.1.1 y hy k (by rw [← h]; exact e) e'
      · change v'.ownBlock = some k at e
        rw [h] at e; injection e with e; omega
    · have := hlt a (by simp [ha]) k e
      rcases List.mem_cons.1 hb with rfl | hb
      · change v'.ownBlock = some k at e'
        rcases hat with h | h
        · exact h3.2.2 a ha f List.mem_cons_self k e (by rw [← h]; exact e')
        · rw [h] at e'; injection e' with e'; omega
      · exact h3.2.2 a ha b (List.mem_cons_of_mem _ hb) k e e'
/-- A row that has been made since. -/
theorem FamG.add {t : TypeId} {v : Value} {ys : List Value} (h : FamG w base fs) (hb : Below w.heap.size w w') (hB : base ≤ w.heap.size) (ho : w'.ownsRow w.heap.size t 1 v ys.length ys) : FamG w' base ((t, v, ys) :: fs) := by
  have hl := h.later hb
  refine ⟨fun y hy => ?_, ?_⟩
  · rcases List.mem_cons.1 hy with rfl | hy
    · exact own_base ho hB
    · exact hl.rows y hy
  · rw [List.pairwise_cons]
    refine ⟨fun y hy k e e' => ?_, h.apart⟩
    have h1 := (ho.lt k e).1
    have h2 := (h.lt hy e').2
    omega
theorem FamG.start {t : TypeId} {v : Value} {ys : List Value} (ho : w.ownsRow base t 1 v ys.length ys) : FamG w base [(t, v, ys)] :=
  ⟨fun y hy => by rw [List.mem_singleton.1 hy]; exact ho, List.pairwise_singleton _ _⟩
end
abbrev NLeaf := Value × List Nat
def leafT (x : NLeaf) : TypeId × Value × List Value := (3, x.1, natVals x.2)
/-- Lists of numbers, and lists of these, in memory. -/
def Tab2 (w : World) (B : Nat) (A : Option Addr) (rs : List (List Nat)) : Prop := 0 < rs.length → ∃ b o, A = some ⟨b, o, none⟩ ∧ b < B ∧ ∀ i (h : i < rs.length),
  ∃ Ai ci, w.cell? ⟨b, o + i, none⟩ = some (.slice Ai rs[i].length ci) ∧ rs[i].length ≤ ci ∧ ci ≤ 9223372036854775807 ∧ NatsAt w B Ai rs[i]
def Tab3 (w : World) (B : Nat) (A : Option Addr) (ts : List (List (List Nat))) : Prop := 0 < ts.length → ∃ b o, A = some ⟨b, o, none⟩ ∧ b < B ∧ ∀ i (h : i < ts.length),
  ∃ Ai ci, w.cell? ⟨b, o + i, none⟩ = some (.slice Ai ts[i].length ci) ∧ ts[i].length ≤ ci ∧ ci ≤ 9223372036854775807 ∧ Tab2 w B Ai ts[i]
theorem Tab2.later {w w' : World} {A : Option Addr} {rs : List (List Nat)} (h : Tab2 w w.heap.size A rs) (hb : Below w.heap.size w w') : Tab2 w' w'.heap.size A rs := fun hl => by
  obtain ⟨b, o, h1, h2, h3⟩ := h hl
  refine ⟨b, o, h1, Nat.lt_of_lt_of_le h2 hb.size, fun i hi => ?_⟩
  obtain ⟨Ai, ci, h4, h5, h6, h7⟩ := h3 i hi
  exact ⟨Ai, ci, by rw [hb.cell (by simpa using h2)]; exact h4, h5, h6, h7.later hb⟩
theorem Tab3.later {w w' : World} {A : Option Addr} {ts : List (List (List Nat))} (h : Tab3 w w.heap.size A ts) (hb : Below w.heap.size w w') : Tab3 w' w'.heap.size A ts := fun hl => by
  obtain ⟨b, o, h1, h2, h3⟩ := h hl
  refine ⟨b, o, h1, Nat.lt_of_lt_of_le h2 hb.size, fun i hi => ?_⟩
  obtain ⟨Ai, ci, h4, h5, h6, h7⟩ := h3 i hi
  exact ⟨Ai, ci, by rw [hb.cell (by simpa using h2)]; exact h4, h5, h6, h7.later hb⟩
end Go.Proofs.YtdkjnemakkppfaaGreatDoor

/- The reference's l4Near, l4Dist. -/
namespace Go.Proofs.YtdkjnemakkppfaaGreatDoor
open Go.RowKit Go.BigFrame AG

theorem Tab2.get {w : World} {B : Nat} {A : Option Addr} {rs : List (List Nat)} (h : Tab2 w B A rs) {i : Nat} (hi : i < rs.length) : ∃ (b o : Nat) (ns : List Nat) (Ai : Option Addr) (ci : Nat), A = some ⟨b, o, none⟩ ∧ b < B ∧ Hid (ns = rs[i]) ∧ w.cell? ⟨b, o + i, none⟩ = some (.slice Ai ns.length ci) ∧ ns.length ≤ ci ∧ ci ≤ 9223372036854775807 ∧ Hid (NatsAt w B Ai ns) := by
  obtain ⟨b, o, h1, h2, h3⟩ := h (by omega)
  obtain ⟨Ai, ci, h4, h5, h6, h7⟩ := h3 i hi
  exact ⟨b, o, rs[i], Ai, ci, h1, h2, hid rfl, h4, h5, h6, hid h7⟩
theorem Tab3.get {w : World} {B : Nat} {A : Option Addr} {ts : List (List (List Nat))} (h : Tab3 w B A ts) {i : Nat} (hi : i < ts.length) : ∃ (b o : Nat) (rs : List (List Nat)) (Ai : Option Addr) (ci : Nat), A = some ⟨b, o, none⟩ ∧ b < B ∧ Hid (rs = ts[i]) ∧ w.cell? ⟨b, o + i, none⟩ = some (.slice Ai rs.length ci) ∧ rs.length ≤ ci ∧ ci ≤ 9223372036854775807 ∧ Hid (Tab2 w B Ai rs) := by
  obtain ⟨b, o, h1, h2, h3⟩ := h (by omega)
  obtain ⟨Ai, ci, h4, h5, h6, h7⟩ := h3 i hi
  exact ⟨b, o, ts[i], Ai, ci, h1, h2, hid rfl, h4, h5, h6, hid h7⟩
end Go.Proofs.YtdkjnemakkppfaaGreatDoor

/- The search over automata. -/
namespace Go.Proofs.YtdkjnemakkppfaaGreatDoor
open Go.RowKit Go.BigFrame AG

/-- A list of automata in memory. -/
def AusAt (w : World) (g : Nat) (xs : List Au) : Prop := g < w.heap.size ∧ ∀ i (h : i < xs.length), ∃ A c B d, w.cell? ⟨g, i * 3, none⟩ = some (.int .i64 xs[i].al) ∧
  w.cell? ⟨g, i * 3 + 1, none⟩ = some (.slice A xs[i].nx.length c) ∧ w.cell? ⟨g, i * 3 + 2, none⟩ = some (.slice B xs[i].ac.length d) ∧ AuAt w A c B d xs[i]
theorem AusAt.later {w w' : World} {g : Nat} {xs : List Au} (h : AusAt w g xs) (hb : Below w.heap.size w w') : AusAt w' g xs :=
  ⟨Nat.lt_of_lt_of_le h.1 hb.size, fun i hi => by
    obtain ⟨A, c, B, d, h1, h2, h3, h4⟩ := h.2 i hi
    exact ⟨A, c, B, d, (hb.cell (by simpa using h.1)).trans h1, (hb.cell (by simpa using h.1)).trans h2, (hb.cell (by simpa using h.1)).trans h3, h4.later hb⟩⟩

end Go.Proofs.YtdkjnemakkppfaaGreatDoor

/- The search over systems that run together. -/
namespace Go.Proofs.YtdkjnemakkppfaaGreatDoor
open Go.RowKit Go.BigFrame AG

def chTo (s : Sy) (q l k : Nat) : List Nat := ((s.es.take k).filter fun e => e.f.toNat == q && e.l.toNat == l).map (fun e => e.t.toNat)
theorem chTo_hit {s : Sy} {q l k : Nat} (hk : k < s.es.length) (h1 : s.es[k].f.toNat = q) (h2 : s.es[k].l.toNat = l) : chTo s q l (k + 1) = chTo s q l k ++ [s.es[k].t.toNat] := by
  unfold chTo
  rw [List.take_succ_eq_append_getElem hk, List.filter_append, List.map_append]
  simp [h1, h2]
theorem chTo_miss {s : Sy} {q l k : Nat} (hk : k < s.es.length) (h : ¬ (s.es[k].f.toNat = q ∧ s.es[k].l.toNat = l)) : chTo s q l (k + 1) = chTo s q l k := by
  unfold chTo
  rw [List.take_succ_eq_append_getElem hk, List.filter_append, List.map_append]
  have : List.filter (fun e => e.f.toNat == q && e.l.toNat == l) [s.es[k]] = [] := by
    rw [List.filter_cons_of_neg (by simpa using h)]
    rfl
  rw [this]
  simp
theorem chTo_all {s : Sy} {q l : Nat} (h : Has s.al l = true) : chTo s q l s.es.length = chP1 s q l := by
  unfold chTo chP1
  rw [List.take_length, if_pos h]
theorem chTo_len {s : Sy} (hs : sysOk s = true) {q l : Nat} (h : Has s.al l = true) (k : Nat) : (chTo s q l k).length ≤ 16 := by
  refine Nat.le_trans ?_ (chP1_len hs q l)
  rw [← chTo_all h]
  unfold chTo
  rw [List.length_map, List.length_map, List.take_length]
  exact ((List.take_sublist _ _).filter _).length_le

set_option maxRecDepth 100000 in
set_option maxHeartbeats 4000000 in
theorem l4Sizes_sys (xs : List Sy) (AP : Option Addr) (cP : Nat) (c2 : Value) (lt kd gl : Int) (w : World) (h3 : xs.length ≤ 3) (hall : xs.all sysOk = true) (ha : SysAt w w.heap.size AP xs) :
    Calls Tryz.prog 46 #[netV (.slice AP xs.length cP) (.slice none 0 0) c2 lt kd gl] w fun e w' => ∃ v, e = .returned v ∧ OwnNats w' w.heap.size v (szP xs) ∧ Below w.heap.size w w' := by
  obtain ⟨i0, hi, hz0, hz1, hz2⟩ := info_parts infoInt
  obtain ⟨w0, hw0, hzz0, hB0, hSb⟩ := boxed w #[.slice AP xs.length cP, .slice none 0 0, c2, .int .i64 lt, .int .i64 kd, .int .i64 gl] 73
  have ha0 := hid (ha.later hB0)
  have hSp := hid (fun w' (hb : Below w0.heap.size w0 w') => And.intro (hSb 0 _ rfl w' (hb.mono hzz0)) (hSb 1 _ rfl w' (hb.mono hzz0)))
  have hst0 := hid (OrdSt.new0 w0)
  replace ha := hid ha
  replace hall := hid hall
  clear hSb
  unfold netV
  go_enter Tryz.func46, Tryz.ntmps46
  go_upto_region 2 with fail
  obtain ⟨w1, hw1⟩ : ∃ w1, w0.alloc (.cells #[] 3) = w1 := ⟨_, rfl⟩
  rw [hw1] at hst0 ⊢
  clear hw1 hw0
  obtain ⟨p0, p1⟩ := hSp.out w1 hst0.out.below
  go_wp2_with fail
  clear p0 p1
  go_loopw [3, 4] (fun ov iv wr => ∃ (i : Nat) (out : List Nat) (AO : Option Addr) (cO : Nat), ov = .slice AO out.length cO ∧ iv = .int .i64 (i : Nat) ∧ i ≤ xs.length ∧ out = (xs.take i).map (fun s => s.st.toNat) ∧ OrdSt w0 wr (.slice AO out.length cO) out) (fun _ iv _ => xs.length - (intOf iv).toNat)
  case atStart => exact ⟨0, [], _, _, rfl, rfl, Nat.zero_le _, by simp, hst0.out⟩
  case round =>
    clear hst0
    obtain ⟨i, out, AO, cO, rfl, rfl, hi1, hout, hst⟩ := hrel
    have hBm := hst.below
    have hszm := hBm.size
    obtain ⟨p0, p1⟩ := hSp.out wr hBm
    have hol : out.length ≤ 3 := by rw [hout, List.length_map, List.length_take]; omega
    by_cases hil : i < xs.length
    · obtain ⟨b, o, Ai, ci, hAe, hbb, c0, c1, c2', hAl, hAc, hEd⟩ := (ha0.out.later hBm).get hil
      subst hAe
      have q1 := c1 wr (Below.refl _ _)
      have hst1 := sysOk_st (List.all_eq_true.1 hall.out _ (List.getElem_mem hil))
      obtain ⟨n, hn⟩ := Int.eq_ofNat_of_zero_le (show 0 ≤ xs[i].st by omega)
      rw [hn] at q1
      have hnx : Hid (out ++ [n] = (xs.take (i + 1)).map (fun s => s.st.toNat)) := hid (by rw [List.take_succ_eq_append_getElem hil, List.map_append, ← hout]; simp [hn])
      have k1 : (0 : Int) ≤ (i : Int) ∧ (i : Int) < (xs.length : Int) := by omega
      have hst' := hid hst
      replace hout := hid hout
      replace hn := hid hn
      replace hEd := hid hEd
      clear c0 c1 c2' hst hst1
      go_wp2_with (at_builtin; refine wpList_append_own_at _ rfl _ _ 63 rfl w0.heap.size 3 i0 (.int .i64 0) 1 8 Tryz.underlying63 hi hz0 hz1 hz2 rfl (by decide) _ _ _ rfl (hst'.out.own.alloc _) ⟨wr.heap.size, 0, none⟩ 1 1 [.int .i64 (n : Nat)] rfl rfl (cell_one_new _ _ _) (by intro u hu; simp at hu; subst hu; rfl) (by unfold maxLen; omega) (by omega) (by first | omega | (simp; omega)) ?_; intro v7 w7 hO7 hg7 _ hat7; obtain ⟨Av7, cv7, ev7, -, -⟩ := own_slice hO7; subst ev7; have hst7 := hid (hst'.out.app (x := n) hg7 hO7); clear hO7 hg7 hat7)
      go_roundw
      case rel => exact ⟨i + 1, out ++ [n], _, _, by rw [List.length_append]; rfl, by go_num, by omega, hnx.out, by have := hst7.out; rw [List.length_append]; exact this⟩
      case measure => simp [intOf]; omega
    · obtain rfl : i = xs.length := by omega
      rw [List.take_length] at hout
      have hfin : Hid (OwnNats wr w.heap.size (.slice AO out.length cO) (szP xs)) := hid (by unfold szP; rw [← hout]; exact own_base hst.own hB0.size)
      have hB := hB0.trans (hst.below.mono hB0.size)
      replace hst := hid hst
      replace hout := hid hout
      go_wp2_with fail
      obtain ⟨wo, rfl⟩ : ∃ wo : World, wo = wr := ⟨_, rfl⟩
      go_loopw [3, 5] (fun ov iv wr => ov = .slice AO out.length cO ∧ iv = .int .i64 0 ∧ wo = wr) (fun _ _ _ => 0)
      case atStart => exact ⟨rfl, rfl, by first | rfl | trivial⟩
      case round =>
        obtain ⟨rfl, rfl, rfl⟩ := hrel
        go_wp2_with fail
        go_ret
        exact ⟨_, rfl, hfin.out, hB⟩

set_option maxRecDepth 100000 in
set_option maxHeartbeats 4000000 in
theorem l4Choices_sys (xs : List Sy) (AP : Option Addr) (cP : Nat) (c2 : Value) (lt kd gl : Int) (i q l : Nat) (w : World) (hall : xs.all sysOk = true) (hi : i < xs.length) (hq : q < 16) (hl : l < 6) (ha : SysAt w w.heap.size AP xs) :
    Calls Tryz.prog 99 #[netV (.slice AP xs.length cP) (.slice none 0 0) c2 lt kd gl, .int .i64 (i : Nat), .int .i64 (q : Nat), .int .i64 (l : Nat)] w fun e w' => ∃ v, e = .returned v ∧ OwnNats w' w.heap.size v (chP1 xs[i] q l) ∧ Below w.heap.size w w' := by
  obtain ⟨i0, hi0, hz0, hz1, hz2⟩ := info_parts infoInt
  obtain ⟨w0, hw0, hzz0, hB0, hSb⟩ := boxed w #[.slice AP xs.length cP, .slice none 0 0, c2, .int .i64 lt, .int .i64 kd, .int .i64 gl] 73
  have ha0 := ha.later hB0
  have hso := hid (List.all_eq_true.1 hall _ (List.getElem_mem hi))
  obtain ⟨b, o, Ai, ci, hAe, hbb, c0, c1, c2', hAl, hAc, hEd⟩ := ha0.get hi
  subst hAe
  obtain ⟨s, hse⟩ : ∃ s, Hid (s = xs[i]) := ⟨_, hid rfl⟩
  rw [← hse.out] at c0 c1 c2' hAl hEd hso ⊢
  have hSp := hid (fun w' (hb : Below w0.heap.size w0 w') => And.intro (hSb 0 _ rfl w' (hb.mono hzz0)) (And.intro (c0 w' hb) (c2' w' hb)))
  obtain ⟨p0, d0, d2⟩ := hSp.out w0 (Below.refl _ _)
  have hE0 := hid hEd
  have k1 : (0 : Int) ≤ (i : Int) ∧ (i : Int) < (xs.length : Int) := by omega
  have k2 : ¬ ((xs.length : Int) ≤ (i : Int)) := by omega
  replace ha := hid ha
  replace ha0 := hid ha0
  clear hSb hall hEd c0 c1 c2'
  unfold netV
  go_enter Tryz.func99, Tryz.ntmps99
  go_wp2_with fail
  clear hw0
  refine (l1Has_any s.al l w0 (by omega) (by omega)).mono ?_
  rintro e w5 ⟨rfl, rfl⟩
  rw [Int.toNat_natCast]
  cases hH : Has s.al l with
  | false =>
    have hfin := hid (show OwnNats (w0.alloc (.cells #[.int .i64 (q : Nat)] 3)) w.heap.size (.slice (some ⟨w0.heap.size, 0, none⟩) 1 1) (chP1 s q l) from by unfold chP1; rw [if_neg (by rw [hH]; decide)]; exact own_base (OrdSt.new w0 q).own (by omega))
    have hB := hid (hB0.trans (((Below.refl _ _).alloc (Nat.le_refl _) (.cells #[.int .i64 (q : Nat)] 3)).mono hB0.size))
    replace hH := hid hH
    go_wp2_with fail
    go_ret
    exact ⟨_, rfl, hfin.out, hB.out⟩
  | true =>
    have hfin := hid (chTo_all (q := q) hH)
    have hlen := hid (chTo_len hso.out (q := q) hH)
    have hst0 := hid (OrdSt.new0 w0)
    have hin := hid (sysOk_in hso.out)
    replace hH := hid hH
    have hEs : Hid (EdsAt w0 w0.heap.size Ai s.es) := hid (by rw [hse.out]; exact (show EdsAt w0 w0.heap.size Ai xs[i].es from by rw [← hse.out]; exact hE0.out))
    clear p0 d0 d2
    go_upto_region 6 with fail
    obtain ⟨w1, hw1⟩ : ∃ w1, w0.alloc (.cells #[] 3) = w1 := ⟨_, rfl⟩
    rw [hw1] at hst0 ⊢
    clear hw1
    obtain ⟨p0, d0, d2⟩ := hSp.out w1 hst0.out.below
    go_wp2_with fail
    clear p0 d0 d2
    go_loopw [9, 11] (fun ov kv wr => ∃ (k : Nat) (out : List Nat) (AO : Option Addr) (cO : Nat), ov = .slice AO out.length cO ∧ kv = .int .i64 (k : Nat) ∧ k ≤ s.es.length ∧ out = chTo s q l k ∧ OrdSt w0 wr (.slice AO out.length cO) out) (fun _ kv _ => s.es.length - (intOf kv).toNat)
    case atStart => exact ⟨0, [], _, _, rfl, rfl, Nat.zero_le _, by simp [chTo], hst0.out⟩
    case round =>
      clear hst0
      obtain ⟨k, out, AO, cO, rfl, rfl, hk, hout, hst⟩ := hrel
      have hBm := hst.below
      have hszm := hBm.size
      have hol : out.length ≤ 16 := by rw [hout]; exact hlen.out k
      by_cases hkl : k < s.es.length
      · obtain ⟨be, oe, hAe, hbe, hEe⟩ := hEs.out (by omega)
        subst hAe
        obtain ⟨c0, c1, c2'⟩ := hEe k hkl
        rw [← hBm.cell (by simpa using hbe)] at c0 c1 c2'
        obtain ⟨i1, i2, i3, i4, i5, i6, -⟩ := hin.out _ (List.getElem_mem hkl)
        obtain ⟨ef, hef⟩ := Int.eq_ofNat_of_zero_le i1
        obtain ⟨el, hel⟩ := Int.eq_ofNat_of_zero_le i5
        obtain ⟨et, het⟩ := Int.eq_ofNat_of_zero_le i3
        rw [hef] at c0
        rw [hel] at c1
        rw [het] at c2'
        have g1 : s.es[k].f.toNat = ef := by omega
        have g2 : s.es[k].l.toNat = el := by omega
        have g3 : s.es[k].t.toNat = et := by omega
        have hhit := hid (fun h1 h2 => chTo_hit (q := q) (l := l) hkl h1 h2)
        have hmiss := hid (fun h => chTo_miss (q := q) (l := l) hkl h)
        rw [g1, g2, g3] at hhit
        rw [g1, g2] at hmiss
        have k3 : (0 : Int) ≤ (k : Int) ∧ (k : Int) < (s.es.length : Int) := by omega
        have hst' := hid hst
        replace hout := hid hout
        replace hEe := hid hEe
        clear hst hef hel het g1 g2 g3 i1 i2 i3 i4 i5 i6
        by_cases h1 : ef = q
        · by_cases h2 : el = l
          · subst h1
            subst h2
            have hnx : Hid (out ++ [et] = chTo s ef el (k + 1)) := hid (by rw [hhit.out rfl rfl, hout.out])
            clear hhit hmiss
            go_wp2_with (at_builtin; refine wpList_append_own_at _ rfl _ _ 63 rfl w0.heap.size 3 i0 (.int .i64 0) 1 8 Tryz.underlying63 hi0 hz0 hz1 hz2 rfl (by decide) _ _ _ rfl (hst'.out.own.alloc _) ⟨wr.heap.size, 0, none⟩ 1 1 [.int .i64 (et : Nat)] rfl rfl (cell_one_new _ _ _) (by intro u hu; simp at hu; subst hu; rfl) (by unfold maxLen; omega) (by omega) (by first | omega | (simp; omega)) ?_; intro v7 w7 hO7 hg7 _ hat7; obtain ⟨Av7, cv7, ev7, -, -⟩ := own_slice hO7; subst ev7; have hst7 := hid (hst'.out.app (x := et) hg7 hO7); clear hO7 hg7 hat7)
            go_roundw
            case rel => exact ⟨k + 1, out ++ [et], _, _, by rw [List.length_append]; rfl, by go_num, by omega, hnx.out, by have := hst7.out; rw [List.length_append]; exact this⟩
            case measure => simp [intOf]; omega
          · have hnx : Hid (out = chTo s q l (k + 1)) := hid (by rw [hmiss.out (fun h => h2 h.2), hout.out])
            subst h1
            have h2' : ((el : Int) == (l : Int)) = false := by simp; omega
            have h2'' : ¬ ((el : Int) = (l : Int)) := by omega
            clear hhit hmiss
            go_wp2_with fail
            go_roundw
            case rel => exact ⟨k + 1, out, _, _, rfl, by go_num, by omega, hnx.out, hst'.out⟩
            case measure => simp [intOf]; omega
        · have hnx : Hid (out = chTo s q l (k + 1)) := hid (by rw [hmiss.out (fun h => h1 h.1), hout.out])
          have h1' : ((ef : Int) == (q : Int)) = false := by simp; omega
          have h1'' : ¬ ((ef : Int) = (q : Int)) := by omega
          clear hhit hmiss
          go_wp2_with fail
          go_roundw
          case rel => exact ⟨k + 1, out, _, _, rfl, by go_num, by omega, hnx.out, hst'.out⟩
          case measure => simp [intOf]; omega
      · obtain rfl : k = s.es.length := by omega
        rw [hfin.out] at hout
        have hB := hB0.trans (hst.below.mono hB0.size)
        have hown := hid (own_base hst.own (show w.heap.size ≤ w0.heap.size from hB0.size))
        replace hst := hid hst
        replace hout := hid hout
        go_wp2_with fail
        go_ret
        exact ⟨_, rfl, by rw [← hout.out]; exact hown.out, hB⟩


end Go.Proofs.YtdkjnemakkppfaaGreatDoor

/- The reference's DeadlockOf. -/
namespace Go.Proofs.YtdkjnemakkppfaaGreatDoor
open Go.RowKit Go.BigFrame AG

theorem netOk_sys (xs : List Sy) (AP : Option Addr) (cP : Nat) (c2 : Value) (lt kd gl : Int) (w : World) (h3 : xs.length ≤ 3) (hall : xs.all sysOk = true) (ha : SysAt w w.heap.size AP xs) :
    NetOk w (netV (.slice AP xs.length cP) (.slice none 0 0) c2 lt kd gl) (szP xs) (chP xs) := by
  have hat : ∀ {i} (hi : i < xs.length), (szP xs).getD i 1 = xs[i].st.toNat := fun {i} hi => by
    unfold szP
    rw [List.getD_eq_getElem?_getD, List.getElem?_map, List.getElem?_eq_getElem hi]
    rfl
  have hlen : (szP xs).length = xs.length := by unfold szP; rw [List.length_map]
  refine ⟨by rw [hlen]; exact h3, szP_ok hall, fun i q l => ?_, fun i hi q hq l x hx => ?_, fun w' i q l hb hi hq hl => ?_⟩
  · unfold chP
    split
    · next s hs => exact chP1_len (List.all_eq_true.1 hall s (List.mem_of_getElem? hs)) q l
    · simp
  · rw [hlen] at hi
    rw [hat hi] at hq ⊢
    rw [chP_at hi] at hx
    exact chP1_lt (List.all_eq_true.1 hall _ (List.getElem_mem hi)) hq x hx
  · rw [hlen] at hi
    rw [hat hi] at hq
    rw [chP_at hi]
    have hst := sysOk_st (List.all_eq_true.1 hall _ (List.getElem_mem hi))
    exact l4Choices_sys xs AP cP c2 lt kd gl i q l w' hall hi (by omega) hl (ha.later hb)


end Go.Proofs.YtdkjnemakkppfaaGreatDoor

/- The reference's pairs of states that are reached. -/
namespace Go.Proofs.YtdkjnemakkppfaaGreatDoor
open Go.RowKit Go.BigFrame AG

set_option maxRecDepth 100000 in
set_option maxHeartbeats 4000000 in
theorem l7Rank_any (bs : List Bool) (A : Option Addr) (c n : Nat) (w : World) (hn : n ≤ bs.length) (hl : bs.length ≤ 4096) (hc : bs.length ≤ c) (hc' : c ≤ 9223372036854775807) (hr : BoolsAt w w.heap.size A bs) :
    Calls Tryz.prog 48 #[.slice A bs.length c, .int .i64 (n : Nat)] w fun e w' => e = .returned (.int .i64 (cntT bs n : Nat)) ∧ w' = w := by
  replace hr := hid hr
  go_enter Tryz.func48, Tryz.ntmps48
  go_wp2_with fail
  go_loopw [5, 6] (fun ov iv wr => ∃ i : Nat, iv = .int .i64 (i : Nat) ∧ ov = .int .i64 (cntT bs i : Nat) ∧ i ≤ n ∧ w = wr) (fun _ iv _ => n - (intOf iv).toNat)
  case atStart => exact ⟨0, rfl, rfl, Nat.zero_le _, by first | rfl | trivial⟩
  case round =>
    obtain ⟨i, rfl, rfl, hi, rfl⟩ := hrel
    obtain ⟨q, hq⟩ : ∃ q, Hid (q = cntT bs i) := ⟨_, hid rfl⟩
    have hqi : q ≤ 4096 := by rw [hq.out]; have := cntT_le bs i; omega
    rw [← hq.out]
    by_cases hin : i < n
    · obtain ⟨b, o, hA, hb, hE⟩ := hr.out (by omega)
      subst hA
      have hib : i < bs.length := by omega
      have c0 := hE i hib
      have hs := hid (cntT_succ hib)
      rw [← hq.out] at hs
      have k1 : (0 : Int) ≤ (i : Int) ∧ (i : Int) < (bs.length : Int) := by omega
      obtain ⟨v, hv⟩ : ∃ v, Hid (v = bs[i]) := ⟨_, hid rfl⟩
      rw [← hv.out] at c0 hs
      replace hE := hid hE
      cases v with
      | true =>
        go_wp2_with fail
        go_roundw
        case rel => exact ⟨i + 1, by go_num, by rw [hs.out]; go_num, hin, by first | rfl | trivial⟩
        case measure => simp [intOf]; omega
      | false =>
        go_wp2_with fail
        go_roundw
        case rel => exact ⟨i + 1, by go_num, by rw [hs.out]; rfl, hin, by first | rfl | trivial⟩
        case measure => simp [intOf]; omega
    · obtain rfl : i = n := by omega
      go_wp2_with fail
      go_ret
      have hq' := hq.out
      subst hq'
      exact ⟨rfl, rfl⟩

/-- A list of nodes, other lists of numbers and a table of what lies in the list, under way. -/
structure PaF (w0 wr : World) (g N : Nat) (v : Value) (ps qs : List Nat) (fs : List NLeaf) : Prop where
  below : Below w0.heap.size w0 wr
  fam : FamG wr w0.heap.size (leafT (v, ps) :: fs.map leafT)
  geg : w0.heap.size ≤ g
  tab : ∃ cs, Blk wr g 4 cs ∧ cs.size = N ∧ ∀ p, p < N → cs[p]? = some (.bool (decide (p ∈ qs)))
theorem natVals_length (ns : List Nat) : (natVals ns).length = ns.length := by unfold natVals; rw [List.length_map]
section
variable {w0 wr w' w1 : World} {g N : Nat} {v v' vM : Value} {ps qs M : List Nat} {x : Nat} {o : Obj} {fs : List NLeaf}
theorem PaF.later (h : PaF w0 wr g N v ps qs fs) (hb : Below wr.heap.size wr w') : PaF w0 w' g N v ps qs fs := by
  obtain ⟨cs, b, s, c⟩ := h.tab
  exact ⟨h.below.trans (hb.mono h.below.size), h.fam.later hb, h.geg, cs, b.below hb b.lt, s, c⟩
theorem PaF.set_ (h : PaF w0 wr g N v ps qs fs) (hx : x < N) : PaF w0 (wr.setCell ⟨g, x, none⟩ (.bool true)) g N v ps (qs ++ [x]) fs := by
  obtain ⟨cs, b, s, c⟩ := h.tab
  have hk : KeepB (fun b => b = g) wr (wr.setCell ⟨g, x, none⟩ (.bool true)) := (KeepB.refl _ wr).setCell _ _ fun _ => rfl
  refine ⟨hk.below h.below h.below.size fun b e => by rw [e]; exact h.geg, h.fam.keep hk fun f hf k e he => ?_, h.geg, _, b.set_ _ _, by simpa using s, fun p hp => ?_⟩
  · have ht : f.1 = 3 := by
      rcases List.mem_cons.1 hf with rfl | hf
      · rfl
      · obtain ⟨y, -, rfl⟩ := List.mem_map.1 hf; rfl
    exact own_ne (h.fam.rows f hf) b (by rw [ht]; decide) k e he
  by_cases e : p = x
  · subst e
    rw [Array.getElem?_setIfInBounds_self_of_lt (by omega)]
    simp
  · rw [Array.getElem?_setIfInBounds_ne (Ne.symm e), c p hp]
    simp [e]
theorem PaF.own (h : PaF w0 wr g N v ps qs fs) : OwnNats wr w0.heap.size v ps := by
  have := h.fam.rows (leafT (v, ps)) List.mem_cons_self
  unfold leafT at this
  simp only [natVals_length] at this
  exact this
theorem PaF.get (h : PaF w0 wr g N v ps qs fs) (hm : (vM, M) ∈ fs) : OwnNats wr w0.heap.size vM M := by
  have := h.fam.rows (leafT (vM, M)) (List.mem_cons_of_mem _ (List.mem_map.2 ⟨_, hm, rfl⟩))
  unfold leafT at this
  simp only [natVals_length] at this
  exact this
theorem PaF.app (h : PaF w0 wr g N v ps qs fs) (hg : (wr.alloc o).grownBy w1 v.ownBlock) (ho : w1.ownsRow w0.heap.size 3 1 v' (ps.length + 1) (natVals ps ++ [.int .i64 (x : Nat)])) (hat : v'.ownBlock = v.ownBlock ∨ v'.ownBlock = some (wr.alloc o).heap.size) : PaF w0 w1 g N v' (ps ++ [x]) qs fs := by
  obtain ⟨cs, b, s, c⟩ := h.tab
  have hkA : KeepB (fun b => v.ownBlock = some b) wr w1 := ((KeepB.refl _ wr).alloc o).grown hg fun k hk _ => hk
  have hb1 : Below wr.heap.size wr (wr.alloc o) := (Below.refl _ _).alloc (Nat.le_refl _) _
  have hF := (h.fam.later hb1).app0 (l1 := []) (f := leafT (v, ps)) (l2 := fs.map leafT) (v' := v') (ys' := natVals (ps ++ [x])) hg (by
    rw [natVals_length, List.length_append]
    unfold natVals at ho ⊢
    rw [List.map_append]
    exact ho) hat
  exact ⟨hkA.below h.below h.below.size fun b e => own_block h.own b e, hF, h.geg, cs, b.keep hkA fun e => own_ne h.own b (by decide) g e rfl, s, c⟩
theorem PaF.add (h : PaF w0 wr g N v ps qs fs) (hb : Below wr.heap.size wr w') (ho : OwnNats w' wr.heap.size vM M) : PaF w0 w' g N v ps qs ((vM, M) :: fs) := by
  have hl := h.later hb
  refine ⟨hl.below, ?_, hl.geg, hl.tab⟩
  have := h.fam.add (t := 3) (v := vM) (ys := natVals M) hb h.below.size (by rw [natVals_length]; exact ho)
  exact this.perm (List.Perm.swap _ _ _)
theorem PaF.drop (h : PaF w0 wr g N v ps qs ((vM, M) :: fs)) : PaF w0 wr g N v ps qs fs := by
  refine ⟨h.below, ⟨fun f hf => h.fam.rows f ?_, ?_⟩, h.geg, h.tab⟩
  · rcases List.mem_cons.1 hf with rfl | hf
    · exact List.mem_cons_self
    · exact List.mem_cons_of_mem _ (List.mem_cons_of_mem _ hf)
  · exact h.fam.apart.sublist (List.Sublist.cons_cons _ (List.Sublist.cons _ (List.Sublist.refl _)))
theorem PaF.cell (h : PaF w0 wr g N v ps qs fs) (hx : x < N) : wr.cell? ⟨g, x, none⟩ = some (.bool (decide (x ∈ qs))) := by
  obtain ⟨cs, b, s, c⟩ := h.tab
  rw [b.cell]
  exact c x hx
theorem PaF.frozen (h : PaF w0 wr g N v ps qs fs) (i : Nat) : wr.frozen? ⟨g, i, none⟩ = false := by
  obtain ⟨cs, b, s, c⟩ := h.tab
  exact b.frozen i
theorem PaF.lt (h : PaF w0 wr g N v ps qs fs) : g < wr.heap.size := by
  obtain ⟨cs, b, s, c⟩ := h.tab
  exact b.lt
end

end Go.Proofs.YtdkjnemakkppfaaGreatDoor

/- The reference's l7Pairs. -/
namespace Go.Proofs.YtdkjnemakkppfaaGreatDoor
open Go.RowKit Go.BigFrame AG

set_option maxRecDepth 100000 in
set_option maxHeartbeats 16000000 in
theorem l7Pairs_any (ss : List Sy) (AP A : Option Addr) (cP c : Nat) (c2 : Value) (kd gl : Int) (w : World) (h2 : ss.length = 2) (hall : ss.all sysOk = true) (ha : SysAt w w.heap.size AP ss) (hsc : (szP ss).length ≤ c) (hc : c ≤ 9223372036854775807) (hr : NatsAt w w.heap.size A (szP ss)) :
    Calls Tryz.prog 47 #[netV (.slice AP ss.length cP) (.slice none 0 0) c2 (allAl ss) kd gl, .slice A (szP ss).length c] w fun e w' => ∃ AB cB, e = .returned (.slice AB (rnB ss).length cB) ∧ (rnB ss).length ≤ cB ∧ cB ≤ 9223372036854775807 ∧ BoolsAt w' w'.heap.size AB (rnB ss) ∧ Below w.heap.size w w' := by
  obtain ⟨i0, hi, hz0, hz1, hz2⟩ := info_parts infoInt
  obtain ⟨b0, hbi, hb0, hb1', hb2⟩ := info_parts infoBool
  have hszl : (szP ss).length = 2 := by unfold szP; rw [List.length_map, h2]
  have hok := hid (szP_ok hall)
  have hs1 : Hid (∀ a ∈ szP ss, 1 ≤ a) := hid fun a ha => (hok.out a ha).1
  have hp4 := prodP_4096 hall (by omega)
  obtain ⟨N, hN⟩ : ∃ N, Hid (N = prodL (szP ss)) := ⟨_, hid rfl⟩
  rw [← hN.out] at hp4
  obtain ⟨hp1, hpl⟩ := hp4
  have hmk := fun W => run_make_rowN (P := Tryz.prog) 39 4 b0 _ Tryz.underlying39 hbi hb0 .i64 .i64 N N (Nat.le_refl _) (by rw [hb2]; omega) (by omega) W
  rw [hb1', Nat.mul_one] at hmk
  have hmk' : Hid (∀ W : World, (Instr.makeSlice 39 (.int .i64 (N : Int)) (.int .i64 (N : Int))).run Tryz.prog W = .ok (.slice (some ⟨W.heap.size, 0, none⟩) N N) (W.alloc (.cells (madeCells #[.bool false] N) 4))) := hid hmk
  clear hmk
  obtain ⟨lt, hlt⟩ : ∃ lt, Hid (lt = allAl ss) := ⟨_, hid rfl⟩
  obtain ⟨L, hL⟩ : ∃ L, Hid (L = letters lt) := ⟨_, hid rfl⟩
  have hL6 : L.length ≤ 6 := by rw [hL.out]; exact letters_len6 lt
  have hlL : Hid (∀ l ∈ L, l < 6) := hid fun l hl => by rw [hL.out] at hl; exact (letters_lt hl).1
  obtain ⟨w0, hw0, hzz0, hB0, hSb⟩ := boxed w #[.slice AP ss.length cP, .slice none 0 0, c2, .int .i64 (allAl ss), .int .i64 kd, .int .i64 gl] 73
  have hr0 := hid (hr.later hB0)
  have ha0 := hid (ha.later hB0)
  rw [← hlt.out] at hSb hw0 ⊢
  have hSp := hid (fun w' (hb : Below w0.heap.size w0 w') => And.intro (And.intro (hSb 0 _ rfl w' (hb.mono hzz0)) (And.intro (hSb 1 _ rfl w' (hb.mono hzz0)) (hSb 2 _ rfl w' (hb.mono hzz0)))) (And.intro (hSb 3 _ rfl w' (hb.mono hzz0)) (And.intro (hSb 4 _ rfl w' (hb.mono hzz0)) (hSb 5 _ rfl w' (hb.mono hzz0)))))
  obtain ⟨bA, oA, hAe, hbA, hEA⟩ := hr0.out (by omega)
  subst hAe
  have hA0 := hEA 0 (by omega)
  have hA1 := hEA 1 (by omega)
  obtain ⟨a, haE⟩ : ∃ a, Hid (a = (szP ss)[0]) := ⟨_, hid rfl⟩
  obtain ⟨b, hbE⟩ : ∃ b, Hid (b = (szP ss)[1]) := ⟨_, hid rfl⟩
  have ha16 : a ≤ 16 := by rw [haE.out]; exact (hok.out _ (List.getElem_mem _)).2
  have hb16 : b ≤ 16 := by rw [hbE.out]; exact (hok.out _ (List.getElem_mem _)).2
  have hNab : Hid (a * b = N) := hid (by
    rw [hN.out, haE.out, hbE.out]
    obtain ⟨x, y, hxy⟩ : ∃ x y, szP ss = [x, y] := by
      match szP ss, hszl with
      | [x, y], _ => exact ⟨x, y, rfl⟩
    have : prodL [x, y] = x * y := by show x * (y * 1) = x * y; rw [Nat.mul_one]
    simp only [hxy, this, List.getElem_cons_zero, List.getElem_cons_succ])
  rw [← haE.out] at hA0
  rw [← hbE.out] at hA1
  rw [Nat.add_zero] at hA0
  have e5 : wrap64 ((a : Int) * (b : Int)) = (N : Int) := by rw [← Int.natCast_mul, hNab.out]; exact IntWalk.wrap64_in _ ⟨by omega, by omega⟩
  have k1 : (0 : Int) < ((szP ss).length : Int) := by omega
  have k2 : (1 : Int) < ((szP ss).length : Int) := by omega
  replace hr := hid hr
  replace ha := hid ha
  replace h2 := hid h2
  clear haE hbE
  replace hszl := hid hszl
  replace hEA := hid hEA
  replace hall := hid hall
  clear hSb
  unfold netV
  go_enter Tryz.func47, Tryz.ntmps47
  go_upto_region 1 with fail
  try rw [hw0]
  have y0 : ∀ x', (Fam w0.heap.size w0 x').cell? ⟨bA, oA, none⟩ = some (.int .i64 (a : Nat)) := fun x' => by rw [(Fam.below w0.heap.size w0 x').cell (by simpa using hbA)]; exact hA0
  have y1 : ∀ x', (Fam w0.heap.size w0 x').cell? ⟨bA, oA + 1, none⟩ = some (.int .i64 (b : Nat)) := fun x' => by rw [(Fam.below w0.heap.size w0 x').cell (by simpa using hbA)]; exact hA1
  clear hA0 hA1
  refine wp_region_grow 9 w0.heap.size w0 (fun _ _ _ => True) (by kernel_rfl) (by kernel_rfl) (Nat.le_refl _) (Below.refl _ _) ?_
  simp only [List.take_succ_cons, List.take_zero, List.drop_succ_cons, List.drop_zero]
  (repeat (refine grow_quiet (by rfl) (by rfl) (by rfl) ?_; intro K hK; go_big_quiet_op; go_big_quiet_on))
  refine grow_new (by rfl) (fun g => .slice (some ⟨g, 0, none⟩) N N) 4 (madeCells #[.bool false] N) (fun W => by go_simp; rw [hmk'.out W]; rfl) (fun _ => rfl) (Nat.le_refl _) fun g hg => ?_
  simp only [Act.put, List.setIfInBounds_toArray, List.set_cons_zero, List.set_cons_succ]
  (repeat (refine grow_quiet (by rfl) (by rfl) (by rfl) ?_; intro K hK; go_big_quiet_op; go_big_quiet_on))
  refine grow_nil ?_
  intro w1 hb1 hf
  obtain ⟨g', hge, -, hblk1⟩ := hf _ List.mem_cons_self
  cases hge
  clear hf y0 y1 e5 hmk'
  have hgw : w0.heap.size ≤ g := by omega
  have hs0 := seen_start N
  obtain ⟨cs0, hcs0⟩ : ∃ cs, madeCells #[.bool false] N = cs := ⟨_, rfl⟩
  rw [hcs0] at hs0 hblk1
  have hblk1' : Blk w1 g 4 cs0 := hblk1
  have f0 := hblk1'.frozen 0
  obtain ⟨v0, d0⟩ := hblk1'.some_ (i := 0) (by rw [hs0.1]; omega)
  have k3 : (0 : Int) < (N : Int) := by omega
  replace hs0 := hid hs0
  replace hblk1' := hid hblk1'
  replace hb1 := hid hb1
  clear hblk1 hcs0
  go_upto_region 4 with fail
  obtain ⟨w3, hw3⟩ : ∃ w3, (w1.setCell ⟨g, 0, none⟩ (.bool true)).alloc (.cells #[.int .i64 0] 3) = w3 := ⟨_, rfl⟩
  obtain ⟨z1, hz1e⟩ : ∃ z1, w1.heap.size = z1 := ⟨_, rfl⟩
  have hP3 : Hid (PaF w0 w3 g N (.slice (some ⟨z1, 0, none⟩) 1 1) [0] [0] []) := hid (by
    rw [← hw3]
    have hbS : Below w0.heap.size w0 (w1.setCell ⟨g, 0, none⟩ (.bool true)) := hb1.out.setCell hgw _
    have hO := OrdSt.new (w1.setCell ⟨g, 0, none⟩ (.bool true)) 0
    rw [show (w1.setCell ⟨g, 0, none⟩ (.bool true)).heap.size = z1 from by rw [← hz1e]; simp] at hO
    refine ⟨hbS.trans (hO.below.mono hbS.size), FamG.start (own_base hO.own hbS.size), hgw, _, (hblk1'.out.set_ 0 (.bool true)).alloc _, by simpa using hs0.out.1, fun p hp => ?_⟩
    by_cases e : p = 0
    · subst e
      rw [Array.getElem?_setIfInBounds_self_of_lt (by rw [hs0.out.1]; omega)]
      simp
    · rw [Array.getElem?_setIfInBounds_ne (Ne.symm e), hs0.out.2 p hp]
      simp [e])
  rw [hw3, hz1e]
  clear hw3 hz1e f0 d0 hblk1' hs0
  obtain ⟨⟨p0, p1, p2⟩, p3, p4, p5⟩ := hSp.out w3 hP3.out.below
  go_wp2_with fail
  refine (l1Letters_any lt w3).mono ?_
  rintro e w4 ⟨vL, rfl, hoL, hb4⟩
  rw [← hL.out] at hoL
  obtain ⟨AL, cL, rfl, hcL, hcL', -⟩ := OwnNats.read hoL
  have hP4 := hid (hP3.out.add hb4 hoL)
  have hLe : Hid (L = AG.letters (allAl ss)) := hid (by rw [hL.out, hlt.out])
  clear p0 p1 p2 p3 p4 p5 hP3 hoL
  go_wp2_with fail
  go_loopw [6, 8] (fun lv iv wr => ∃ (i : Nat) (ps : List Nat) (A6 : Option Addr) (c6 : Nat), lv = .slice A6 ps.length c6 ∧ iv = .int .i64 (i : Nat) ∧ i ≤ ps.length ∧ RnB ss ps i ∧ PaF w0 wr g N (.slice A6 ps.length c6) ps ps [(.slice AL L.length cL, L)]) (fun _ iv _ => N - (intOf iv).toNat)
  case atStart => exact ⟨0, [0], _, _, rfl, rfl, Nat.zero_le _, RnB.start ss, hP4.out⟩
  case round =>
    clear hP4
    obtain ⟨i, ps, A6, c6, rfl, rfl, hi1, hB, hP⟩ := hrel
    have hpsN : ps.length ≤ N := by rw [hN.out]; exact Nat.le_trans (hB.many hall.out) (rnL_le ss)
    obtain ⟨A7, c7, e7, hc6, hc6', hps⟩ := OwnNats.read hP.own
    cases e7
    by_cases hil : i < ps.length
    · obtain ⟨b6, o6, hAe, hb6, hE6⟩ := hps (by omega)
      subst hAe
      have n0 := hE6 i hil
      obtain ⟨n, hn⟩ : ∃ n, Hid (n = ps[i]) := ⟨_, hid rfl⟩
      rw [← hn.out] at n0
      have hnR : Hid (Rn ss n) := hid (by rw [hn.out]; exact hB.sound _ (List.getElem_mem hil))
      have hn4 : n < N := by rw [hN.out]; exact hnR.out.lt hall.out
      have hR0 := hid (RnR.start hB (n := n) (by rw [List.getElem?_eq_getElem hil, hn.out]))
      have k4 : (0 : Int) ≤ (i : Int) ∧ (i : Int) < (ps.length : Int) := by omega
      have hr1 := hid (hr0.out.later hP.below)
      have hP' := hid hP
      have hzr := hP.below.size
      have hs3 : (szP ss).length ≤ 3 := by rw [hszl.out]; decide
      replace hE6 := hid hE6
      replace hps := hid hps
      replace hB := hid hB
      clear hP
      go_wp2_with fail
      refine (l4Decode_any (szP ss) (some ⟨bA, oA, none⟩) c n wr hs1.out hs3 (by omega) hsc hc hr1.out).mono ?_
      rintro e w5 ⟨vS, rfl, hoS, hb5⟩
      obtain ⟨AS, cS, rfl, hcS, hcS', -⟩ := OwnNats.read hoS
      obtain ⟨qs, hqs⟩ : ∃ qs, Hid (qs = decS (szP ss) n) := ⟨_, hid rfl⟩
      rw [← hqs.out] at hoS hcS ⊢
      have hql : Hid (qs.length = (szP ss).length) := hid (by rw [hqs.out]; exact decS_len (szP ss) n)
      have hqlt : Hid (∀ j, j < (szP ss).length → qs.getD j 0 < (szP ss).getD j 1) := hid fun j hj => by
        rw [hqs.out, getD_at1 hj]
        exact decS_lt hs1.out n j hj
      have hnxq : Hid (∀ l, nxParts ss n l = nxK (szP ss) (fun j => chP ss j (qs.getD j 0) l) (szP ss).length) := hid fun l => by rw [hqs.out, ← nx_eq hall.out]; rfl
      have hP5 := hid (hP'.out.add hb5 hoS)
      clear hoS hP' n0
      go_wp2_with fail
      obtain ⟨wo, rfl⟩ : ∃ wo : World, wo = wr := ⟨_, rfl⟩
      go_loopw [6, 10] (fun lv kv wr => ∃ (k : Nat) (ps2 : List Nat) (A6 : Option Addr) (c6 : Nat), lv = .slice A6 ps2.length c6 ∧ kv = .int .i64 (k : Nat) ∧ k ≤ L.length ∧ RnR ss ps2 i n k 0 ∧ PaF w0 wr g N (.slice A6 ps2.length c6) ps2 ps2 [(.slice AS qs.length cS, qs), (.slice AL L.length cL, L)]) (fun _ kv _ => L.length - (intOf kv).toNat)
      case atStart => exact ⟨0, ps, _, _, rfl, rfl, Nat.zero_le _, hR0.out, hP5.out⟩
      case round =>
        clear hP5 hR0 hn hb6 hE6 hps hi1 hpsN hil k4
        obtain ⟨k, ps2, A9, c9, rfl, rfl, hk1, hR, hP⟩ := hrel
        by_cases hkl : k < L.length
        · obtain ⟨AL2, cL2, e7, -, -, hLN⟩ := OwnNats.read (hP.get (List.mem_cons_of_mem _ List.mem_cons_self))
          cases e7
          obtain ⟨bL, oL, hLE, hbL, hEL⟩ := hLN (by omega)
          subst hLE
          have l0 := hEL k hkl
          obtain ⟨l, hl⟩ : ∃ l, Hid (l = L[k]) := ⟨_, hid rfl⟩
          rw [← hl.out] at l0
          have hl6 : l < 6 := by rw [hl.out]; exact hlL.out _ (List.getElem_mem _)
          obtain ⟨AS2, cS2, e7, -, -, hSN⟩ := OwnNats.read (hP.get List.mem_cons_self)
          cases e7
          obtain ⟨M, hM⟩ : ∃ M, Hid (M = nxParts ss n l) := ⟨_, hid rfl⟩
          have hkk : k < (AG.letters (allAl ss)).length := by rw [← hLe.out]; exact hkl
          have hMe : Hid (M = nxParts ss n ((AG.letters (allAl ss))[k]'hkk)) := hid (by rw [hM.out, hl.out]; simp only [hLe.out])
          have hMlt : Hid (∀ m ∈ M, m < N) := hid fun m hm => by rw [hM.out] at hm; rw [hN.out]; exact nxParts_lt hall.out n l m hm
          have hold : Hid (∀ (ps : List Nat) (j : Nat) (hj : j < M.length), RnR ss ps i n k j → M[j] ∈ ps → RnR ss ps i n k (j + 1)) := hid (by have := hMe.out; subst this; exact fun ps j hj h hm => h.old hkk hj hm)
          have hnew : Hid (∀ (ps : List Nat) (j : Nat) (hj : j < M.length), RnR ss ps i n k j → M[j] ∉ ps → RnR ss (ps ++ [M[j]]) i n k (j + 1)) := hid (by have := hMe.out; subst this; exact fun ps j hj h hm => h.new hkk hj hm)
          have hend : Hid (∀ (ps : List Nat), RnR ss ps i n k M.length → RnR ss ps i n (k + 1) 0) := hid (by have := hMe.out; subst this; exact fun ps h => h.letter hkk rfl)
          have hzr2 := hP.below.size
          have hcl := hid (fun w' (hb : Below wr.heap.size wr w') => by
            have hbb := hP.below.trans (hb.mono hzr2)
            have h := l4Nexts_any (.slice AP ss.length cP) (.slice none 0 0) c2 lt kd gl (szP ss) qs (chP ss) (some ⟨bA, oA, none⟩) AS c cS l w' (netOk_sys ss AP cP c2 lt kd gl w' (by rw [h2.out]; decide) hall.out (ha0.out.later hbb)) hql.out hqlt.out hl6 hsc hc hcS hcS' (hr0.out.later hbb) (hSN.later hb)
            rw [← hnxq.out l, ← hM.out] at h
            unfold netV at h
            exact h)
          obtain ⟨⟨p0, p1, p2⟩, p3, p4, p5⟩ := hSp.out wr hP.below
          have hlw : w.heap.size < wr.heap.size := by omega
          have y0 : ∀ x', (Fam wr.heap.size wr x').cell? ⟨w.heap.size, 0, none⟩ = some (.slice AP ss.length cP) := fun x' => by rw [(Fam.below wr.heap.size wr x').cell (by simpa using hlw)]; exact p0
          have y1 : ∀ x', (Fam wr.heap.size wr x').cell? ⟨w.heap.size, 1, none⟩ = some (.slice none 0 0) := fun x' => by rw [(Fam.below wr.heap.size wr x').cell (by simpa using hlw)]; exact p1
          have y2 : ∀ x', (Fam wr.heap.size wr x').cell? ⟨w.heap.size, 2, none⟩ = some c2 := fun x' => by rw [(Fam.below wr.heap.size wr x').cell (by simpa using hlw)]; exact p2
          have y3 : ∀ x', (Fam wr.heap.size wr x').cell? ⟨w.heap.size, 3, none⟩ = some (.int .i64 lt) := fun x' => by rw [(Fam.below wr.heap.size wr x').cell (by simpa using hlw)]; exact p3
          have y4 : ∀ x', (Fam wr.heap.size wr x').cell? ⟨w.heap.size, 4, none⟩ = some (.int .i64 kd) := fun x' => by rw [(Fam.below wr.heap.size wr x').cell (by simpa using hlw)]; exact p4
          have y5 : ∀ x', (Fam wr.heap.size wr x').cell? ⟨w.heap.size, 5, none⟩ = some (.int .i64 gl) := fun x' => by rw [(Fam.below wr.heap.size wr x').cell (by simpa using hlw)]; exact p5
          have y6 : ∀ x', (Fam wr.heap.size wr x').cell? ⟨bL, oL + k, none⟩ = some (.int .i64 (l : Nat)) := fun x' => by rw [(Fam.below wr.heap.size wr x').cell (by simpa using hbL)]; exact l0
          have k5 : (0 : Int) ≤ (k : Int) ∧ (k : Int) < (L.length : Int) := by omega
          have hP' := hid hP
          have hR' := hid hR
          replace hEL := hid hEL
          replace hLN := hid hLN
          replace hSN := hid hSN
          clear hP hR p0 p1 p2 p3 p4 p5 l0
          go_upto_region 12 with fail
          refine wp_region_grow 9 wr.heap.size wr (fun _ u w' => OwnNats w' wr.heap.size u M) (by kernel_rfl) (by kernel_rfl) (Nat.le_refl _) (Below.refl _ _) ?_
          simp only [List.take_succ_cons, List.take_zero, List.drop_succ_cons, List.drop_zero]
          (repeat (refine grow_quiet (by rfl) (by rfl) (by rfl) ?_; intro K hK; go_big_quiet_op; go_big_quiet_on))
          refine grow_call (by rfl) (by rfl) (fun u v v' hb h => own_keep h (.of_below (K := fun _ => False) hb) fun _ _ h => h) (fun wq hbq _ => ?_) fun u hu => ?_
          · go_simp
            refine ⟨rfl, (hcl.out wq hbq).mono ?_⟩
            rintro e w5 ⟨v, rfl, ho, hb5⟩
            exact ⟨v, rfl, hb5, own_base ho hbq.size⟩
          obtain ⟨wX, -, hoX⟩ := hu
          obtain ⟨AM, cM, rfl, hcM, hcM', -⟩ := OwnNats.read hoX
          clear hoX
          simp only [Act.put, List.setIfInBounds_toArray, List.set_cons_zero, List.set_cons_succ]
          (repeat (refine grow_quiet (by rfl) (by rfl) (by rfl) ?_; intro K hK; go_big_quiet_op; go_big_quiet_on))
          refine grow_nil ?_
          intro w7 hb7 hf
          have hoM : OwnNats w7 wr.heap.size (.slice AM M.length cM) M := hf _ List.mem_cons_self
          have hP7 := hid (hP'.out.add hb7 hoM)
          clear hf hoM y0 y1 y2 y3 y4 y5 y6 hcl hP' hLN hSN hEL hbL k5
          go_wp2_with fail
          obtain ⟨wo2, rfl⟩ : ∃ wo : World, wo = wr := ⟨_, rfl⟩
          go_loopw [6, 12] (fun lv jv wr => ∃ (j : Nat) (ps3 : List Nat) (A6 : Option Addr) (c6 : Nat), lv = .slice A6 ps3.length c6 ∧ jv = .int .i64 (j : Nat) ∧ j ≤ M.length ∧ RnR ss ps3 i n k j ∧ PaF w0 wr g N (.slice A6 ps3.length c6) ps3 ps3 [(.slice AM M.length cM, M), (.slice AS qs.length cS, qs), (.slice (some ⟨bL, oL, none⟩) L.length cL, L)]) (fun _ jv _ => M.length - (intOf jv).toNat)
          case atStart => exact ⟨0, ps2, _, _, rfl, rfl, Nat.zero_le _, hR'.out, hP7.out⟩
          case round =>
            clear hP7 hR'
            obtain ⟨j, ps3, A8, c8, rfl, rfl, hj1, hR, hP⟩ := hrel
            have hps3 : ps3.length ≤ 4096 := Nat.le_trans (hR.few hall.out) (by rw [← hN.out]; exact hpl)
            by_cases hjl : j < M.length
            · obtain ⟨AM2, cM2, e7, -, -, hMN⟩ := OwnNats.read (hP.get List.mem_cons_self)
              cases e7
              obtain ⟨bM, oM, hME, hbM, hEM⟩ := hMN (by omega)
              subst hME
              have m0 := hEM j hjl
              obtain ⟨m, hm⟩ : ∃ m, Hid (m = M[j]) := ⟨_, hid rfl⟩
              rw [← hm.out] at m0
              have hmN : m < N := by rw [hm.out]; exact hMlt.out _ (List.getElem_mem _)
              have d0 := hP.cell hmN
              have k6 : (0 : Int) ≤ (j : Int) ∧ (j : Int) < (M.length : Int) := by omega
              have k7 : (0 : Int) ≤ (m : Int) ∧ (m : Int) < (N : Int) := by omega
              have hzr3 := hP.below.size
              by_cases hmp : m ∈ ps3
              · rw [decide_eq_true hmp] at d0
                have hR2 := hid (hold.out ps3 j hjl hR (by rw [← hm.out]; exact hmp))
                have hP' := hid hP
                replace hmp := hid hmp
                replace hEM := hid hEM
                replace hMN := hid hMN
                clear hR hP
                go_wp2_with fail
                go_roundw
                case rel => exact ⟨j + 1, ps3, _, _, rfl, by go_num, hjl, hR2.out, hP'.out⟩
                case measure => simp [intOf]; omega
              · rw [decide_eq_false hmp] at d0
                have hR2 := hid (hnew.out ps3 j hjl hR (by rw [← hm.out]; exact hmp))
                rw [← hm.out] at hR2
                have f0 := hP.frozen m
                have hP8 := hid (hP.set_ hmN)
                have m1 : (wr.setCell ⟨g, m, none⟩ (.bool true)).cell? ⟨bM, oM + j, none⟩ = some (.int .i64 (m : Nat)) := by
                  obtain ⟨AM3, cM3, e7, -, -, hMN3⟩ := OwnNats.read (hP8.out.get List.mem_cons_self)
                  cases e7
                  obtain ⟨bM3, oM3, hME3, -, hEM3⟩ := hMN3 (by omega)
                  cases hME3
                  have h9 := hEM3 j hjl
                  rw [← hm.out] at h9
                  exact h9
                have hz8 : w0.heap.size ≤ (wr.setCell ⟨g, m, none⟩ (.bool true)).heap.size := hP8.out.below.size
                replace hmp := hid hmp
                replace hEM := hid hEM
                replace hMN := hid hMN
                clear hR hP
                go_upto_region 18 with fail
                obtain ⟨w8, hw8⟩ : ∃ w8, wr.setCell ⟨g, m, none⟩ (.bool true) = w8 := ⟨_, rfl⟩
                rw [hw8] at hP8 m1 hz8 ⊢
                clear d0 f0 m0 hw8
                go_wp2_with (at_builtin; refine wpList_append_own_at _ rfl _ _ 63 rfl w0.heap.size 3 i0 (.int .i64 0) 1 8 Tryz.underlying63 hi hz0 hz1 hz2 rfl (by decide) _ _ _ rfl (World.ownsRow.alloc hP8.out.own _) ⟨w8.heap.size, 0, none⟩ 1 1 [.int .i64 (m : Nat)] rfl rfl (cell_one_new _ _ _) (by intro u hu; simp at hu; subst hu; rfl) (by unfold maxLen; omega) (by omega) (by first | omega | (simp; omega)) ?_; intro v7 w7 hO7 hg7 _ hat7; obtain ⟨Av7, cv7, ev7, -, -⟩ := own_slice hO7; subst ev7; have hP9 := hid (hP8.out.app (x := m) hg7 hO7 hat7); clear hO7 hg7 hat7)
                go_roundw
                case rel => exact ⟨j + 1, ps3 ++ [m], _, _, by rw [List.length_append]; rfl, by go_num, hjl, hR2.out, by have := hP9.out; rw [List.length_append]; exact this⟩
                case measure => simp [intOf]; omega
            · obtain rfl : j = M.length := by omega
              have hR2 := hid (hend.out ps3 hR)
              have hP' := hid hP.drop
              clear hR hP
              go_wp2_with fail
              go_roundw
              case rel => exact ⟨k + 1, ps3, _, _, rfl, by go_num, hkl, hR2.out, hP'.out⟩
              case measure => simp [intOf]; omega
        · obtain rfl : k = L.length := by omega
          have hR2 := hid (show RnB ss ps2 (i + 1) from RnR.next (n := n) (j := 0) (by rw [← hLe.out]; exact hR))
          have hlt2 := hR.lt
          have hpsN : ps2.length ≤ N := by rw [hN.out]; exact hR.few hall.out
          have hP' := hid hP.drop
          clear hR hP
          go_wp2_with fail
          go_roundw
          case rel => exact ⟨i + 1, ps2, _, _, rfl, by go_num, hlt2, hR2.out, hP'.out⟩
          case measure => simp [intOf]; omega
    · obtain rfl : i = ps.length := by omega
      have hfin : Hid (∃ AB cB, Ending.returned (.slice (some ⟨g, 0, none⟩) N N) = Ending.returned (Value.slice AB (rnB ss).length cB) ∧ (rnB ss).length ≤ cB ∧ cB ≤ 9223372036854775807 ∧ BoolsAt wr wr.heap.size AB (rnB ss) ∧ Below w.heap.size w wr) := hid (by
        have hlen : (rnB ss).length = N := by rw [rnB_len, hN.out]
        refine ⟨some ⟨g, 0, none⟩, N, by rw [hlen], by omega, by omega, fun _ => ⟨g, 0, rfl, hP.lt, fun p hp => ?_⟩, hB0.trans (hP.below.mono hB0.size)⟩
        rw [Nat.zero_add, hP.cell (by omega), rnB_at]
        congr 2
        exact decide_eq_decide.2 (hB.all p))
      replace hP := hid hP
      replace hB := hid hB
      replace hps := hid hps
      go_wp2_with fail
      go_ret
      exact hfin.out

end Go.Proofs.YtdkjnemakkppfaaGreatDoor

/- A system with only some of its states: the program's subSystem, the reference's l2Keep. -/
namespace Go.Proofs.YtdkjnemakkppfaaGreatDoor
open Go.RowKit Go.BigFrame AG

/-- The result under way: its own block gs, its edges a row that the call owns. -/
structure SubSt (w0 wr : World) (gs : Nat) (al st : Int) (v : Value) (es : List Ed) : Prop where
  blk : Blk wr gs 25 #[.int .i64 al, .int .i64 st, v]
  own : wr.ownsRow w0.heap.size 50 3 v es.length (edCells es)
  low : w0.heap.size ≤ gs
  keep : Below w0.heap.size w0 wr
theorem SubSt.later {w0 wr w1 : World} {gs : Nat} {al st : Int} {v : Value} {es : List Ed} (h : SubSt w0 wr gs al st v es) (hb : Below wr.heap.size wr w1) : SubSt w0 w1 gs al st v es :=
  ⟨h.blk.below hb h.blk.lt, own_later h.own hb, h.low, h.keep.trans (hb.mono h.keep.size)⟩
theorem SubSt.add {w0 wr w1 : World} {gs gg cap : Nat} {al st : Int} {v : Value} {es : List Ed} {x : Ed} (h : SubSt w0 wr gs al st v es)
    (hown : w1.ownsRow w0.heap.size 50 3 (.slice (some ⟨gg, 0, none⟩) (es.length + 1) cap) (es.length + 1) (edCells es ++ [.int .i64 x.f, .int .i64 x.l, .int .i64 x.t])) (hg : wr.grownBy w1 v.ownBlock) :
    SubSt w0 (w1.setCell ⟨gs, 2, none⟩ (.slice (some ⟨gg, 0, none⟩) (es.length + 1) cap)) gs al st (.slice (some ⟨gg, 0, none⟩) (es.length + 1) cap) (es ++ [x]) := by
  have hne : v.ownBlock ≠ some gs := fun e => own_ne h.own h.blk (by decide) gs e rfl
  have hb1 : Blk w1 gs 25 #[.int .i64 al, .int .i64 st, v] := by
    have := hg.block gs h.blk.lt (Ne.symm hne)
    exact this.trans h.blk
  have hne2 : (Value.slice (some ⟨gg, 0, none⟩) (es.length + 1) cap).ownBlock ≠ some gs := fun e => own_ne hown hb1 (by decide) gs e rfl
  refine ⟨by simpa using hb1.set_ 2 (.slice (some ⟨gg, 0, none⟩) (es.length + 1) cap), ?_, h.low, ?_⟩
  · have e : (es ++ [x]).length = es.length + 1 := by simp
    rw [e, edCells_append]
    exact ownsRow_setCell_other hown hne2 _
  · exact Below.setCell (h.keep.grown hg h.keep.size (fun k hk => (h.own.lt k hk).1)) (by have := h.low; simpa using this) _

end Go.Proofs.YtdkjnemakkppfaaGreatDoor
