/- Lemmas, part 9: several texts in one. -/
import Derived.Test.YtdkjnemakkppfaaDoorV7
import Derived.Test.YtdkjnemakkppfaaDoorV8
import Derived.Test.YtdkjnemakkppfaaDoorV4
import Derived.Test.YtdkjnemakkppfaaDoorV6
import Derived.Test.YtdkjnemakkppfaaDoorCards
import Derived.Test.YtdkjnemakkppfaaDoorTie
import Derived.Test.YtdkjnemakkppfaaDoorV3
import Derived.WalkKit
import Derived.ProofKit
import Derived.OpenShut
import Derived.Deep.DeepHandedRow
import Derived.Lib.LaidTab
import Derived.Stop.LaidErr
import Derived.Test.YtdkjnemakkppfaaDoorV1
import Derived.Deep.Slices
import Derived.Deep.Fields
import Derived.ChangeSame
import Derived.ChangeSlices
import Derived.Lib.SmallJoins
set_option linter.unusedSimpArgs false
set_option linter.unusedVariables false

/- The program's ComposeSystems. -/
namespace Go.Proofs.YtdkjnemakkppfaaDoor
open Go.RowKit Go.BigFrame Go.Maps AG

set_option maxRecDepth 100000 in
set_option maxHeartbeats 16000000 in
theorem implComposeSystems_any (s t : Sy) (A B : Option Addr) (c d : Nat) (w : World) (hl : s.es.length ≤ c) (hc : c ≤ 9223372036854775807) (hm : t.es.length ≤ d) (hd : d ≤ 9223372036854775807) (hT : Tab w) (hr : EdsAt w w.heap.size A s.es) (hr2 : EdsAt w w.heap.size B t.es) :
    Calls Tryd.prog 12 #[s.val A c, t.val B d] w (SoOwn w (cmX s t) (cmOk s t)) := by
  obtain ⟨i0, hi, hz0', hz1', hz2'⟩ := info_parts infoEd
  obtain ⟨n0, hni, hn0, hn1, hn2⟩ := info_parts infoInt
  unfold Sy.val
  have hsB := ((Blk.new w 28 #[.int .i64 s.al, .int .i64 s.st, .slice A s.es.length c]).alloc (.cells #[.int .i64 t.al, .int .i64 t.st, .slice B t.es.length d] 28)).alloc (.cells #[.int .i64 0, .int .i64 0, .slice none 0 0] 28)
  have htB := (Blk.new (w.alloc (.cells #[.int .i64 s.al, .int .i64 s.st, .slice A s.es.length c] 28)) 28 #[.int .i64 t.al, .int .i64 t.st, .slice B t.es.length d]).alloc (.cells #[.int .i64 0, .int .i64 0, .slice none 0 0] 28)
  have hrB := Blk.new ((w.alloc (.cells #[.int .i64 s.al, .int .i64 s.st, .slice A s.es.length c] 28)).alloc (.cells #[.int .i64 t.al, .int .i64 t.st, .slice B t.es.length d] 28)) 28 #[.int .i64 0, .int .i64 0, .slice none 0 0]
  have hB0 : Below w.heap.size w (((w.alloc (.cells #[.int .i64 s.al, .int .i64 s.st, .slice A s.es.length c] 28)).alloc (.cells #[.int .i64 t.al, .int .i64 t.st, .slice B t.es.length d] 28)).alloc (.cells #[.int .i64 0, .int .i64 0, .slice none 0 0] 28)) := (((Below.refl _ _).alloc (Nat.le_refl _) _).alloc (by simp) _).alloc (by simp; omega) _
  simp only [World.size_alloc] at htB hrB
  generalize hw0 : ((w.alloc (.cells #[.int .i64 s.al, .int .i64 s.st, .slice A s.es.length c] 28)).alloc (.cells #[.int .i64 t.al, .int .i64 t.st, .slice B t.es.length d] 28)).alloc (.cells #[.int .i64 0, .int .i64 0, .slice none 0 0] 28) = w0 at hsB htB hrB hB0
  have hs0 := hid (hr.later hB0)
  have hT0 := hid (hT.later hB0)
  replace hT := hid hT
  have ht0 := hid (hr2.later hB0)
  have p0 := hsB.cell 0
  have p1 := hsB.cell 1
  have p2 := hsB.cell 2
  simp only [List.getElem?_toArray, List.getElem?_cons_zero, List.getElem?_cons_succ] at p0 p1 p2
  replace hsB := hid hsB
  replace htB := hid htB
  replace hrB := hid hrB
  replace hr := hid hr
  replace hr2 := hid hr2
  have hmm := @run_makeMap Tryd.prog
  go_enter Tryd.func12, Tryd.ntmps12
  go_wp2_with fail
  refine (implSystemValid_any s A c w0 hl hc hs0.out).mono ?_
  rintro e w1 ⟨rfl, hb1⟩
  have hB1 := hB0.trans (hb1.mono hB0.size)
  have hs1 := hid (hs0.out.later hb1)
  have ht1 := hid (ht0.out.later hb1)
  replace hsB := hid (hsB.out.below hb1 hsB.out.lt)
  replace htB := hid (htB.out.below hb1 htB.out.lt)
  replace hrB := hid (hrB.out.below hb1 hrB.out.lt)
  have hzero : cmOk s t = false → ∀ wx, Below w.heap.size w wx → SoOwn w (cmX s t) (cmOk s t) (.returned (.tuple #[.agg #[.int .i64 0, .int .i64 0, .slice none 0 0], .bool false])) (((wx.setCell ⟨w.heap.size + 1 + 1, 0, none⟩ (.int .i64 0)).setCell ⟨w.heap.size + 1 + 1, 1, none⟩ (.int .i64 0)).setCell ⟨w.heap.size + 1 + 1, 2, none⟩ (.slice none 0 0)) := fun h wx hb => by
    rw [cmX_bad h, h]
    exact ⟨none, 0, rfl, World.ownsRow_nil _ _ _ _, ((hb.setCell (by simp; omega) _).setCell (by simp; omega) _).setCell (by simp; omega) _⟩
  have d0 := hrB.out.cell 0
  have d1 := hrB.out.cell 1
  have d2 := hrB.out.cell 2
  have f0 := hrB.out.frozen 0
  have f1 := hrB.out.frozen 1
  have f2 := hrB.out.frozen 2
  clear p0 p1 p2 hw0
  have q0 := htB.out.cell 0
  have q1 := htB.out.cell 1
  have q2 := htB.out.cell 2
  simp only [List.getElem?_toArray, List.getElem?_cons_zero, List.getElem?_cons_succ] at d0 d1 d2 q0 q1 q2
  replace hzero := hid hzero
  cases hok : sysOk s
  · have hno := hid (hzero.out (by unfold cmOk; rw [hok]; rfl) w1 hB1)
    replace hok := hid hok
    go_wp2
    refine bodyPost_ret (v := .tuple #[.agg #[.int .i64 0, .int .i64 0, .slice none 0 0], .bool false]) (by simp [results, Tryd.results12, go_sem, d0, d1, d2]) rfl ?_
    exact hno.out
  have hok' := hid hok
  clear hok
  go_wp2_with fail
  refine (implSystemValid_any t B d w1 hm hd ht1.out).mono ?_
  rintro e w2 ⟨rfl, hb2⟩
  have hB2 := hB1.trans (hb2.mono hB1.size)
  have hs2 := hid (hs1.out.later hb2)
  have ht2 := hid (ht1.out.later hb2)
  replace hsB := hid (hsB.out.below hb2 hsB.out.lt)
  replace htB := hid (htB.out.below hb2 htB.out.lt)
  replace hrB := hid (hrB.out.below hb2 hrB.out.lt)
  clear d0 d1 d2 f0 f1 f2 q0 q1 q2
  cases hok2 : sysOk t
  · have hno := hid (hzero.out (by unfold cmOk; rw [hok2, Bool.and_eq_false_iff]; right; rfl) w2 hB2)
    have d0 := hrB.out.cell 0
    have d1 := hrB.out.cell 1
    have d2 := hrB.out.cell 2
    have f0 := hrB.out.frozen 0
    have f1 := hrB.out.frozen 1
    have f2 := hrB.out.frozen 2
    simp only [List.getElem?_toArray, List.getElem?_cons_zero, List.getElem?_cons_succ] at d0 d1 d2
    replace hok2 := hid hok2
    go_wp2
    refine bodyPost_ret (v := .tuple #[.agg #[.int .i64 0, .int .i64 0, .slice none 0 0], .bool false]) (by simp [results, Tryd.results12, go_sem, d0, d1, d2]) rfl ?_
    exact hno.out
  have hall := all_two hok'.out hok2
  have hok2' := hid hok2
  have hsa := (sysOk_alpha hok'.out)
  have hta := (sysOk_alpha hok2)
  have hal : Hid (allAl [s, t] = orB s.al t.al) := hid (allAl_two hsa.1)
  obtain ⟨al, hale⟩ : ∃ al, Hid (al = allAl [s, t]) := ⟨_, hid rfl⟩
  have eor : bits .or .i64 s.al t.al = al := by rw [bits_or (by omega) (by omega), hale.out, hal.out]
  have p0 := hsB.out.cell 0
  have q0 := htB.out.cell 0
  simp only [List.getElem?_toArray, List.getElem?_cons_zero, List.getElem?_cons_succ] at p0 q0
  replace hall := hid hall
  obtain ⟨gs, hgs⟩ : ∃ gs, w2.heap.size = gs := ⟨_, rfl⟩
  clear hok2
  go_upto_region 4 with fail
  obtain ⟨w3, hw3⟩ : ∃ w3, w2.alloc (.cells #[.int .i64 al, .int .i64 0, .slice none 0 0] 28) = w3 := ⟨_, rfl⟩
  have hb3 : Below w2.heap.size w2 w3 := by rw [← hw3]; exact (Below.refl _ _).alloc (Nat.le_refl _) _
  have hblk3 : Blk w3 gs 28 #[.int .i64 al, .int .i64 0, .slice none 0 0] := by rw [← hw3, ← hgs]; exact Blk.new _ _ _
  rw [hw3]
  have hz23 : w3.heap.size = gs + 1 := by rw [← hw3, ← hgs]; simp
  replace hsB := hid (hsB.out.below hb3 hsB.out.lt)
  replace htB := hid (htB.out.below hb3 htB.out.lt)
  have hB3 := hB2.trans (hb3.mono hB2.size)
  have hs3 := hid (hs2.out.later hb3)
  have ht3 := hid (ht2.out.later hb3)
  have hT3 := hid (hT0.out.later ((hb1.trans ((hb2.trans (hb3.mono hb2.size)).mono hb1.size))))
  clear p0 q0
  have p0 := hsB.out.cell 0
  have p1 := hsB.out.cell 1
  have p2 := hsB.out.cell 2
  have q0 := htB.out.cell 0
  have q1 := htB.out.cell 1
  have q2 := htB.out.cell 2
  simp only [List.getElem?_toArray, List.getElem?_cons_zero, List.getElem?_cons_succ] at p0 p1 p2 q0 q1 q2
  obtain ⟨w4, hw4⟩ : ∃ w4, w3.alloc (.cells #[.int .i64 s.al, .int .i64 s.st, .slice A s.es.length c, .int .i64 t.al, .int .i64 t.st, .slice B t.es.length d] 28) = w4 := ⟨_, rfl⟩
  have hb4 : Below w3.heap.size w3 w4 := by rw [← hw4]; exact (Below.refl _ _).alloc (Nat.le_refl _) _
  have hblk4 : Blk w4 w3.heap.size 28 #[.int .i64 s.al, .int .i64 s.st, .slice A s.es.length c, .int .i64 t.al, .int .i64 t.st, .slice B t.es.length d] := by rw [← hw4]; exact Blk.new _ _ _
  obtain ⟨ss, hss⟩ : ∃ ss, Hid (ss = [s, t]) := ⟨_, hid rfl⟩
  have hlen : Hid (ss.length = 2) := hid (by rw [hss.out]; rfl)
  have hSys : Hid (SysAt w4 w4.heap.size (some ⟨w3.heap.size, 0, none⟩) ss) := hid (by rw [hss.out]; exact two_at hblk4 hl hc hm hd (hs3.out.later hb4) (ht3.out.later hb4))
  rw [← hss.out] at hall hale
  have hz5 := newParts_any ss (some ⟨w3.heap.size, 0, none⟩) 2 w4 hall.out (by rw [hlen.out]; decide) (by rw [hlen.out]; exact Nat.le_refl _) (by omega) hSys.out
  unfold partsV at hz5
  rw [hlen.out] at hz5
  replace hz5 := hid hz5
  have hB4 := hB3.trans (hb4.mono hB3.size)
  have hT4 := hid (hT3.out.later hb4)
  have hblkS := hid hblk4
  clear hblk4 hw3 hb1 hb2 hB1 hB2 hs0 hs1 hs2 hs3 ht0 ht1 ht2 ht3 hT0 eor
  replace hgs := hid hgs
  replace hz23 := hid hz23
  replace hblk3 := hid hblk3
  go_wp2_with fail
  try rw [hw4]
  refine hz5.out.mono ?_
  rintro e w5 ⟨MV, cm, rfl, hcm, hcm', hMV, hb5⟩
  have hB5 := hB4.trans (hb5.mono hB4.size)
  have hMV5 := hid hMV
  have hSys5 := hid (hSys.out.later hb5)
  have hT5 := hid (hT4.out.later hb5)
  have hb35 := hb4.trans (hb5.mono hb4.size)
  obtain ⟨bS, hbS⟩ : ∃ bS, w3.heap.size = bS := ⟨_, rfl⟩
  rw [hbS] at hSys5 hblkS ⊢
  replace hblkS := hid (hblkS.out.below hb5 hblkS.out.lt)
  clear p0 p1 p2 q0 q1 q2 hw4 hz5 hMV hSys
  go_upto_region 5 with fail
  obtain ⟨bP, hbP⟩ : ∃ bP, w5.heap.size = bP := ⟨_, rfl⟩
  obtain ⟨w6, hw6⟩ : ∃ w6, w5.alloc (.cells #[.slice (some ⟨bS, 0, none⟩) 2 2, .slice MV 2 cm] 63) = w6 := ⟨_, rfl⟩
  have hb6 : Below w5.heap.size w5 w6 := by rw [← hw6]; exact (Below.refl _ _).alloc (Nat.le_refl _) _
  have hblk6 : Blk w6 bP 63 #[.slice (some ⟨bS, 0, none⟩) 2 2, .slice MV 2 cm] := by rw [← hw6, ← hbP]; exact Blk.new _ _ _
  have hPA : Hid (PartsAt w6 bP ss (some ⟨bS, 0, none⟩) MV 2 cm) := hid ⟨hT5.out.later hb6, hall.out, by rw [hlen.out]; decide, by rw [hlen.out]; exact Nat.le_refl _, by omega, by rw [hlen.out]; exact hcm, hcm', hSys5.out.later hb6, hMV5.out.later hb6, by rw [hlen.out]; exact hblk6.cell 0, by rw [hlen.out]; exact hblk6.cell 1⟩
  rw [hw6, hbP]
  have hB6 := hB5.trans (hb6.mono hB5.size)
  have hb36 := hb35.trans (hb6.mono hb35.size)
  have hgB6 := hblk3.out.below hb36 hblk3.out.lt
  have c0 := hgB6.cell 0
  simp only [List.getElem?_toArray, List.getElem?_cons_zero, List.getElem?_cons_succ] at c0
  replace hgB6 := hid hgB6
  replace hbP := hid hbP
  replace hbS := hid hbS
  clear hblk6 hw6 hSys5 hMV5 hT5 hT4
  go_wp2_with fail
  refine (lettersOf_any al w6).mono ?_
  rintro e w7 ⟨vL, rfl, hoL, hb7⟩
  obtain ⟨L, hL⟩ : ∃ L, Hid (L = letters al) := ⟨_, hid rfl⟩
  rw [← hL.out] at hoL
  obtain ⟨AL, cL, rfl, hcL, hcL', hLN⟩ := OwnNats.read hoL
  have hL6 : L.length ≤ 6 := by rw [hL.out]; exact letters_len6 al
  have hlL : Hid (∀ l ∈ L, l < 6) := hid fun l hl => by rw [hL.out] at hl; exact (letters_lt hl).1
  have hLe : Hid (L = AG.letters (allAl ss)) := hid (by rw [hL.out, hale.out])
  have hB7 := hB6.trans (hb7.mono hB6.size)
  have hPA7 := hid (hPA.out.later hb7)
  replace hblkS := hid (hblkS.out.below (hb6.trans (hb7.mono hb6.size)) hblkS.out.lt)
  have hoL7 := hid hoL
  have hb67 := hid hb7.size
  have hLN7 := hid hLN
  have hgB7 := hid (hgB6.out.below hb7 hgB6.out.lt)
  clear c0 hLN hoL
  go_upto_region 7 with fail
  have hmade := World.ownsMap_made (H := Unit) (w7.alloc (.cells #[.int .i64 0] 3)) Tryd.prog 3 (plainElem Tryd.prog 3)
  go_wp2_with (refine wpList_insert_own _ rfl _ _ _ 65 rfl 3 3 mapLaw2 Tryd.underlying65 (plainElem Tryd.prog 3) (w7.heap.size + 1) 0 _ rfl (by simpa using hmade) (by unfold maxLen; omega) _ _ (.int .i64 0) rfl rfl (keyOf_int_mk Tryd.underlying3 (wf64 (by omega) (by omega))) (.lit (.int .i64 0)) [] (plainElem_int Tryd.underlying3 (by decide)) ?_)
  intro w8 hown8 hgrow8
  obtain ⟨Bm, hBm⟩ : ∃ B, B = w7.heap.size + 1 := ⟨_, rfl⟩
  rw [← hBm] at hown8 hgrow8
  have hM8 : Hid (MaF w7 w8 Bm (.slice (some ⟨w7.heap.size, 0, none⟩) 1 1) [0] 1 ((DataW.map []).put (Lit.int .i64 0) (.lit (.int .i64 0))) (memF [0]) []) := hid (by
    have hbl : Below w7.heap.size w7 ((w7.alloc (.cells #[.int .i64 0] 3)).alloc (.map #[] 0)) := ((Below.refl _ _).alloc (Nat.le_refl _) _).alloc (by simp) _
    have hk : KeepB (fun b => b = Bm) ((w7.alloc (.cells #[.int .i64 0] 3)).alloc (.map #[] 0)) w8 := (KeepB.refl _ _).grown hgrow8 fun k hk _ => by injection hk with hk; exact hk.symm
    have ho1 : ((w7.alloc (.cells #[.int .i64 0] 3)).alloc (.map #[] 0)).ownsRow w7.heap.size 3 1 (.slice (some ⟨w7.heap.size, 0, none⟩) 1 1) 1 (natVals [0]) := by
      refine World.ownsRow.alloc ?_ _
      exact ⟨rfl, .inr ⟨w7.heap.size, 1, #[.int .i64 0], rfl, Nat.le_refl _, heap_alloc_self _ _, Nat.le_refl _, by unfold maxLen; omega, rfl, rfl⟩⟩
    have ho3 := own_keep ho1 hk fun g hg e => by injection hg with hg; simp at hg; omega
    refine ⟨hk.below hbl (by simp; omega) fun b e => by omega, FamG.start ho3, hown8, (MapF.empty.put 0 0).congr fun x => ?_, by omega⟩
    have := memF_snoc [] 0 x
    rw [List.nil_append] at this
    rw [← this]
    rfl)
  clear hown8 hgrow8 hmade
  subst hBm
  go_wp2_with fail
  have hB37 := hid hb36
  go_loopw [9, 11] (fun lv iv wr => ∃ (i : Nat) (ps : List Nat) (A9 : Option Addr) (c9 : Nat) (D : DataW Unit), lv = .slice A9 ps.length c9 ∧ iv = .int .i64 (i : Nat) ∧ i ≤ ps.length ∧ ps.length ≤ 16 ∧ RnB ss ps i ∧ MaF w7 wr (w7.heap.size + 1) (.slice A9 ps.length c9) ps ps.length D (memF ps) []) (fun _ iv _ => 16 - (intOf iv).toNat)
  case atStart => exact ⟨0, [0], _, _, _, rfl, rfl, Nat.zero_le _, by decide, RnB.start ss, hM8.out⟩
  case round =>
    clear hM8
    obtain ⟨i, ps, A9, c9, D, rfl, rfl, hi1, hp16, hB, hM⟩ := hrel
    obtain ⟨A10, c10, e7, hc9, hc9', hps⟩ := OwnNats.read hM.own
    cases e7
    by_cases hil : i < ps.length
    · obtain ⟨b6, o6, hAe, hb6', hE6⟩ := hps (by omega)
      obtain ⟨n, hn⟩ : ∃ n, Hid (n = ps[i]) := ⟨_, hid rfl⟩
      have hnR : Hid (Rn ss n) := hid (by rw [hn.out]; exact hB.sound _ (List.getElem_mem hil))
      have hn4 : n < 4096 := by
        have h1 := hnR.out.lt hall.out
        have h2 := (prodP_4096 hall.out (by rw [hlen.out]; decide)).2
        omega
      have hR0 := hid (RnR.start hB (n := n) (by rw [List.getElem?_eq_getElem hil, hn.out]))
      have hM' := hid hM
      replace hB := hid hB
      replace hps := hid hps
      replace hE6 := hid hE6
      replace hAe := hid hAe
      clear hM
      go_wp2_with fail
      obtain ⟨wo, rfl⟩ : ∃ wo : World, wo = wr := ⟨_, rfl⟩
      go_loopw [9, 59] (fun lv kv wr => ∃ (k : Nat) (ps2 : List Nat) (A9 : Option Addr) (c9 : Nat) (D : DataW Unit), lv = .slice A9 ps2.length c9 ∧ kv = .int .i64 (k : Nat) ∧ k ≤ L.length ∧ ps2.length ≤ 16 ∧ RnR ss ps2 i n k 0 ∧ MaF w7 wr (w7.heap.size + 1) (.slice A9 ps2.length c9) ps2 ps2.length D (memF ps2) []) (fun _ kv _ => L.length - (intOf kv).toNat)
      case atStart => exact ⟨0, ps, _, _, D, rfl, rfl, Nat.zero_le _, hp16, hR0.out, hM'.out⟩
      case round =>
        clear hM' hR0 hn hAe hE6 hps hi1 hil hp16
        obtain ⟨k, ps2, A9, c9, D, rfl, rfl, hk1, hp16, hR, hM⟩ := hrel
        have hb7r := hM.below
        by_cases hkl : k < L.length
        · obtain ⟨bL, oL, hLE, hbL, hEL⟩ := (hLN7.out.later hb7r) (by omega)
          subst hLE
          have l0 := hEL k hkl
          obtain ⟨l, hl⟩ : ∃ l, Hid (l = L[k]) := ⟨_, hid rfl⟩
          rw [← hl.out] at l0
          have hl6 : l < 6 := by rw [hl.out]; exact hlL.out _ (List.getElem_mem _)
          obtain ⟨A10, c10, e7, hc9, hc9', hps⟩ := OwnNats.read hM.own
          cases e7
          obtain ⟨b6, o6, hAe, hb6, hE6⟩ := hps (by have := hR.lt; omega)
          subst hAe
          have hil := hR.lt
          have n0 := hE6 i hil
          have hni' : ps2[i] = n := by
            have h9 := hR.at_
            rw [List.getElem?_eq_getElem hil] at h9
            exact Option.some.inj h9
          rw [hni'] at n0
          obtain ⟨M, hMd⟩ : ∃ M, Hid (M = nxParts ss n l) := ⟨_, hid rfl⟩
          have hkk : k < (AG.letters (allAl ss)).length := by rw [← hLe.out]; exact hkl
          have hMe : Hid (M = nxParts ss n ((AG.letters (allAl ss))[k]'hkk)) := hid (by rw [hMd.out, hl.out]; simp only [hLe.out])
          have hMlt : Hid (∀ m ∈ M, m < 4096) := hid fun m hm => by
            rw [hMd.out] at hm
            have h1 := nxParts_lt hall.out n l m hm
            have h2 := (prodP_4096 hall.out (by rw [hlen.out]; decide)).2
            omega
          have hMl : M.length ≤ 4096 := by rw [hMd.out]; exact nxParts_le hall.out (by rw [hlen.out]; decide) n l
          have hold : Hid (∀ (ps : List Nat) (j : Nat) (hj : j < M.length), RnR ss ps i n k j → M[j] ∈ ps → RnR ss ps i n k (j + 1)) := hid (by have := hMe.out; subst this; exact fun ps j hj h hm => h.old hkk hj hm)
          have hnew : Hid (∀ (ps : List Nat) (j : Nat) (hj : j < M.length), RnR ss ps i n k j → M[j] ∉ ps → RnR ss (ps ++ [M[j]]) i n k (j + 1)) := hid (by have := hMe.out; subst this; exact fun ps j hj h hm => h.new hkk hj hm)
          have hend : Hid (∀ (ps : List Nat), RnR ss ps i n k M.length → RnR ss ps i n (k + 1) 0) := hid (by have := hMe.out; subst this; exact fun ps h => h.letter hkk rfl)
          have hzr2 := hb7r.size
          have hcl : Hid (∀ wq, Below wr.heap.size wr wq → Calls Tryd.prog 38 #[.agg #[.slice (some ⟨bS, 0, none⟩) 2 2, .slice MV 2 cm], .int .i64 (n : Nat), .int .i64 (l : Nat), .slice none 0 0] wq fun e w' => ∃ v', e = .returned v' ∧ OwnNats w' wq.heap.size v' M ∧ Below wq.heap.size wq w') := hid (fun wq hb => by
            have h := nextTwo_any ss (some ⟨bS, 0, none⟩) MV cm n l bP wq (hPA7.out.later (hb7r.trans (hb.mono hzr2))) hlen.out hl6 hn4
            rw [← hMd.out] at h
            exact h)
          have hP7 := hPA7.out.later hb7r
          have c0 := hP7.c0
          have c1 := hP7.c1
          rw [hlen.out] at c0 c1
          have hbPl : bP < wr.heap.size := World.block_lt_of_cell? _ _ c0
          have y0 : ∀ x', (Fam wr.heap.size wr x').cell? ⟨bP, 0, none⟩ = some (.slice (some ⟨bS, 0, none⟩) 2 2) := fun x' => by rw [(Fam.below wr.heap.size wr x').cell (by simpa using hbPl)]; exact c0
          have y1 : ∀ x', (Fam wr.heap.size wr x').cell? ⟨bP, 1, none⟩ = some (.slice MV 2 cm) := fun x' => by rw [(Fam.below wr.heap.size wr x').cell (by simpa using hbPl)]; exact c1
          have y2 : ∀ x', (Fam wr.heap.size wr x').cell? ⟨b6, o6 + i, none⟩ = some (.int .i64 (n : Nat)) := fun x' => by rw [(Fam.below wr.heap.size wr x').cell (by simpa using hb6)]; exact n0
          have k5 : (0 : Int) ≤ (k : Int) ∧ (k : Int) < (L.length : Int) := by omega
          have k6 : (0 : Int) ≤ (i : Int) ∧ (i : Int) < (ps2.length : Int) := by omega
          have hM' := hid hM
          have hR' := hid hR
          replace hP7 := hid hP7
          replace hEL := hid hEL
          replace hE6 := hid hE6
          replace hps := hid hps
          clear hM hR c0 c1 n0 hni'
          go_upto_region 14 with fail
          refine wp_region_grow 9 wr.heap.size wr (fun _ u w' => OwnNats w' wr.heap.size u M) (by kernel_rfl) (by kernel_rfl) (Nat.le_refl _) (Below.refl _ _) ?_
          simp only [List.take_succ_cons, List.take_zero, List.drop_succ_cons, List.drop_zero]
          (repeat (refine grow_quiet (by rfl) (by rfl) (by rfl) ?_; intro K hK; go_big_quiet_op; go_big_quiet_on))
          refine grow_call (by rfl) (by rfl) (fun u v v' hb h => own_keep h (.of_below (K := fun _ => False) hb) fun _ _ h => h) (fun wq hbq _ => ?_) fun u hu => ?_
          · go_simp
            refine ⟨rfl, (hcl.out wq hbq).mono ?_⟩
            rintro e w5 ⟨v, rfl, ho, hb5⟩
            exact ⟨v, rfl, hb5, own_base ho hbq.size⟩
          obtain ⟨wX, -, hoX⟩ := hu
          obtain ⟨AM, cM, rfl, hcM, hcM', -⟩ := OwnNats.read hoX
          clear hoX
          simp only [Act.put, List.setIfInBounds_toArray, List.set_cons_zero, List.set_cons_succ]
          (repeat (refine grow_quiet (by rfl) (by rfl) (by rfl) ?_; intro K hK; go_big_quiet_op; go_big_quiet_on))
          refine grow_nil ?_
          intro w9 hb9 hf
          have hoM : OwnNats w9 wr.heap.size (.slice AM M.length cM) M := hf _ List.mem_cons_self
          have hM9 := hid (hM'.out.add hb9 hoM)
          clear hf hoM y0 y1 y2 hcl hM' k5 l0
          go_wp2_with fail
          obtain ⟨wo2, rfl⟩ : ∃ wo : World, wo = wr := ⟨_, rfl⟩
          go_loopw [9, 71] (fun lv jv wr => ∃ (j : Nat) (ps3 : List Nat) (A9 : Option Addr) (c9 : Nat) (D : DataW Unit), lv = .slice A9 ps3.length c9 ∧ jv = .int .i64 (j : Nat) ∧ j ≤ M.length ∧ ps3.length ≤ 16 ∧ RnR ss ps3 i n k j ∧ MaF w7 wr (w7.heap.size + 1) (.slice A9 ps3.length c9) ps3 ps3.length D (memF ps3) [(.slice AM M.length cM, M)]) (fun _ jv _ => M.length - (intOf jv).toNat)
          case atStart => exact ⟨0, ps2, _, _, D, rfl, rfl, Nat.zero_le _, hp16, hR'.out, hM9.out⟩
          case round =>
            clear hM9 hR' hps hE6 hil k6 hp16
            obtain ⟨j, ps3, A8, c8, D3, rfl, rfl, hj1, hq16, hR, hM⟩ := hrel
            by_cases hjl : j < M.length
            · obtain ⟨AM2, cM2, e7, -, -, hMN⟩ := OwnNats.read (hM.get List.mem_cons_self)
              cases e7
              obtain ⟨bM, oM, hME, hbM, hEM⟩ := hMN (by omega)
              subst hME
              have m0 := hEM j hjl
              obtain ⟨m, hm9⟩ : ∃ m, Hid (m = M[j]) := ⟨_, hid rfl⟩
              rw [← hm9.out] at m0
              have hm4 : m < 4096 := by rw [hm9.out]; exact hMlt.out _ (List.getElem_mem _)
              have k7 : (0 : Int) ≤ (j : Int) ∧ (j : Int) < (M.length : Int) := by omega
              have hkey : keyOf Tryd.prog 3 (.int .i64 (m : Int)) = some (.int .i64 (m : Int)) := keyOf_int_mk Tryd.underlying3 (wf64 (by omega) (by omega))
              have hmap4 := hM.map_
              replace hEM := hid hEM
              replace hMN := hid hMN
              by_cases hmp : m ∈ ps3
              · have hhas : Maps.has D3 (.int .i64 (m : Int)) = true := by rw [hM.ix.has m]; unfold memF; rw [if_pos hmp]; rfl
                have hR2 := hid (hold.out ps3 j hjl hR (by rw [← hm9.out]; exact hmp))
                have hM' := hid hM
                replace hmp := hid hmp
                clear hR hM
                go_wp2_with (at_lookup; refine wpList_lookup_own_ok_int _ rfl _ _ 65 rfl 3 3 .i64 mapLaw2 Tryd.underlying65 Tryd.underlying3 (zeroInt _) (w7.heap.size + 1) ps3.length D3 rfl hmap4 _ _ rfl hkey ?_; intro c' hat' hwc'; rw [hhas])
                go_roundw
                case rel => exact ⟨j + 1, ps3, _, _, D3, rfl, by go_num, hjl, hq16, hR2.out, hM'.out⟩
                case measure => simp [intOf]; omega
              · have hhas : Maps.has D3 (.int .i64 (m : Int)) = false := by rw [hM.ix.has m]; unfold memF; rw [if_neg hmp]; rfl
                have hRn := hnew.out ps3 j hjl hR (by rw [← hm9.out]; exact hmp)
                rw [← hm9.out] at hRn
                by_cases hfl : ps3.length = 16
                · have hbad : cmOk s t = false := many_bad hok'.out hok2'.out (by have h9 := hRn.base; rw [hss.out] at h9; exact h9) (by rw [List.length_append, hfl]; exact Nat.lt_succ_self 16)
                  have hno := hid (hzero.out hbad wr (hB7.trans (hM.below.mono hB7.size)))
                  have hw2r : Below w2.heap.size w2 wr := hb3.trans ((hB37.out.trans ((hb7.trans (hM.below.mono hb7.size)).mono hB37.out.size)).mono hb3.size)
                  have hrb := hrB.out.below hw2r hrB.out.lt
                  have d0 := hrb.cell 0
                  have d1 := hrb.cell 1
                  have d2 := hrb.cell 2
                  have f0 := hrb.frozen 0
                  have f1 := hrb.frozen 1
                  have f2 := hrb.frozen 2
                  simp only [List.getElem?_toArray, List.getElem?_cons_zero, List.getElem?_cons_succ] at d0 d1 d2
                  have h16 : ((ps3.length : Int) == 16) = true := by rw [hfl]; rfl
                  replace hfl := hid hfl
                  replace hmp := hid hmp
                  replace hRn := hid hRn
                  clear hR hM hrb
                  go_wp2_with (at_lookup; refine wpList_lookup_own_ok_int _ rfl _ _ 65 rfl 3 3 .i64 mapLaw2 Tryd.underlying65 Tryd.underlying3 (zeroInt _) (w7.heap.size + 1) ps3.length D3 rfl hmap4 _ _ rfl hkey ?_; intro c' hat' hwc'; rw [hhas])
                  refine bodyPost_ret (v := .tuple #[.agg #[.int .i64 0, .int .i64 0, .slice none 0 0], .bool false]) (by simp [results, Tryd.results12, go_sem, d0, d1, d2]) rfl ?_
                  exact hno.out
                · have h16 : ((ps3.length : Int) == 16) = false := by simp; omega
                  have hM' := hid hM
                  have hR2 := hid hRn
                  replace hmp := hid hmp
                  have hzm := hM.below.size
                  clear hR hM hRn
                  go_wp2_with (first
                    | (at_lookup; refine wpList_lookup_own_ok_int _ rfl _ _ 65 rfl 3 3 .i64 mapLaw2 Tryd.underlying65 Tryd.underlying3 (zeroInt _) (w7.heap.size + 1) ps3.length D3 rfl hmap4 _ _ rfl hkey ?_; intro c' hat' hwc'; rw [hhas])
                    | (at_mapUpdate; refine wpList_mapUpdate_own _ rfl _ _ _ 65 rfl 3 3 mapLaw2 Tryd.underlying65 _ (w7.heap.size + 1) ps3.length D3 rfl hmap4 (by unfold maxLen; omega) _ _ _ rfl rfl hkey _ [] (plainElem_int Tryd.underlying3 (by decide)) ?_; intro w10 hown10 hgrow10; have hM10 := hid ((hM'.out.put (T := m) (q := 0) hown10 hgrow10).fn (memF_snoc ps3 m)); have hz10 := hM10.out.below.size; clear hown10 hgrow10 hmap4)
                    | (at_builtin; refine wpList_append_own_at _ rfl _ _ 48 rfl w7.heap.size 3 n0 (.int .i64 0) 1 8 Tryd.underlying48 hni hn0 hn1 hn2 rfl (by decide) _ _ _ rfl (World.ownsRow.alloc hM10.out.own _) ⟨w10.heap.size, 0, none⟩ 1 1 [.int .i64 (m : Nat)] rfl rfl (cell_one_new _ _ _) (by intro u hu; simp at hu; subst hu; rfl) (by unfold maxLen; omega) (by omega) (by first | omega | (simp; omega)) ?_; intro v11 w11 hO11 hg11 _ hat11; obtain ⟨Av11, cv11, ev11, -, -⟩ := own_slice hO11; subst ev11; have hM11 := hid (hM10.out.app (x := m) hg11 hO11 hat11); clear hO11 hg11 hat11))
                  go_roundw
                  case rel => exact ⟨j + 1, ps3 ++ [m], _, _, _, by rw [List.length_append]; rfl, by go_num, hjl, by rw [List.length_append, List.length_singleton]; omega, hR2.out, by have := hM11.out; rw [List.length_append]; exact this⟩
                  case measure => simp [intOf]; omega
            · obtain rfl : j = M.length := by omega
              have hR2 := hid (hend.out ps3 hR)
              have hM' := hid hM.drop
              clear hR hM
              go_wp2_with fail
              go_roundw
              case rel => exact ⟨k + 1, ps3, _, _, D3, rfl, by go_num, hkl, hq16, hR2.out, hM'.out⟩
              case measure => simp [intOf]; omega
        · obtain rfl : k = L.length := by omega
          have hR2 := hid (show RnB ss ps2 (i + 1) from RnR.next (n := n) (j := 0) (by rw [← hLe.out]; exact hR))
          have hlt2 := hR.lt
          have hM' := hid hM
          clear hR hM
          go_wp2_with fail
          go_roundw
          case rel => exact ⟨i + 1, ps2, _, _, D, rfl, by go_num, hlt2, hp16, hR2.out, hM'.out⟩
          case measure => simp [intOf]; omega
    · obtain rfl : i = ps.length := by omega
      obtain ⟨qs, hqs⟩ : ∃ qs, Hid (qs = rnL ss) := ⟨_, hid rfl⟩
      have hperm : ps.Perm qs := by rw [hqs.out]; exact hB.perm hall.out
      have hql : Hid (qs.length = ps.length) := hid hperm.length_eq.symm
      have hqsort : Hid (qs.Pairwise (· < ·)) := hid (by rw [hqs.out]; exact rnL_sorted ss)
      have hps0 : 0 < ps.length := List.length_pos_of_mem hB.zero
      have hcall := hid (hM.sort_any hps0 (by omega) hperm hqsort.out)
      replace hps := hid hps
      replace hB := hid hB
      replace hperm := hid hperm
      have hbM := hid hM.below
      clear hM
      go_wp2_with fail
      refine hcall.out.mono ?_
      rintro e w8 ⟨rfl, hM8⟩
      clear hcall
      rw [← hql.out] at hM8 hps0 hp16 ⊢
      have hM8' : Hid (MaF w7 w8 (w7.heap.size + 1) (.slice A9 qs.length c9) qs qs.length D (numF qs 0) []) := hid (hM8.fn fun x => (numF_zero qs x).symm)
      clear hM8 hil hi1
      go_wp2_with fail
      go_loopw [99] (fun iv wr => ∃ (i m : Nat) (D : DataW Unit), iv = .int .i64 (i : Nat) ∧ i ≤ qs.length ∧ m = qs.length + i ∧ MaF w7 wr (w7.heap.size + 1) (.slice A9 qs.length c9) qs m D (numF qs i) []) (fun iv _ => qs.length - (intOf iv).toNat)
      case atStart => exact ⟨0, qs.length, D, rfl, Nat.zero_le _, rfl, hM8'.out⟩
      case round =>
        clear hM8'
        obtain ⟨i, m, D3, rfl, hi1, hmq, hM⟩ := hrel
        by_cases hil : i < qs.length
        · obtain ⟨A10, c10, e7, -, -, hqN⟩ := OwnNats.read hM.own
          cases e7
          obtain ⟨b6, o6, hAe, hb6, hE6⟩ := hqN (by omega)
          subst hAe
          have n0 := hE6 i hil
          obtain ⟨n, hn⟩ : ∃ n, Hid (n = qs[i]) := ⟨_, hid rfl⟩
          rw [← hn.out] at n0
          have hn4 : n < 4096 := by
            have hnR : Rn ss n := by
              have h9 := List.getElem_mem hil
              rw [← hn.out, hqs.out] at h9
              exact (rnL_mem hall.out).1 h9
            have h1 := hnR.lt hall.out
            have h2 := (prodP_4096 hall.out (by rw [hlen.out]; decide)).2
            omega
          have hkey : keyOf Tryd.prog 3 (.int .i64 (n : Int)) = some (.int .i64 (n : Int)) := keyOf_int_mk Tryd.underlying3 (wf64 (by omega) (by omega))
          have hmap4 := hM.map_
          have hnx : Hid (∀ x, (if x = n then some i else numF qs i x) = numF qs (i + 1) x) := hid fun x => by rw [hn.out]; exact numF_next (hqsort.out.imp fun h => Nat.ne_of_lt h) hil x
          have hM' := hid hM
          replace hE6 := hid hE6
          replace hqN := hid hqN
          clear hM
          go_wp2_with (at_mapUpdate; refine wpList_mapUpdate_own _ rfl _ _ _ 65 rfl 3 3 mapLaw2 Tryd.underlying65 _ (w7.heap.size + 1) m D3 rfl hmap4 (by unfold maxLen; omega) _ _ _ rfl rfl hkey _ [] (plainElem_int Tryd.underlying3 (wf64 (by omega) (by omega))) ?_; intro w10 hown10 hgrow10; have hM10 := hid ((hM'.out.put (T := n) (q := i) hown10 hgrow10).fn hnx.out); clear hown10 hgrow10 hmap4)
          go_roundw
          case rel => exact ⟨i + 1, m + 1, _, by go_num, hil, by omega, hM10.out⟩
          case measure => simp [intOf]; omega
        · obtain rfl : i = qs.length := by omega
          obtain ⟨wX, rfl⟩ : ∃ wX : World, wX = wr := ⟨_, rfl⟩
          have hbX := hM.below
          have hgX := hgB7.out.below hbX hgB7.out.lt
          have hg7 := hgB7.out.lt
          have g1 := hgX.cell 1
          have f1 := hgX.frozen 1
          simp only [List.getElem?_toArray, List.getElem?_cons_zero, List.getElem?_cons_succ] at g1
          have hmX := hM.map_
          have hixX := hid hM.ix
          have hoQ := hM.own
          have hoLX := own_later hoL7.out hbX
          have hBX := hB7.trans (hbX.mono hB7.size)
          have hB2X : Below w2.heap.size w2 wX := hb3.trans ((hB37.out.trans ((hb7.trans (hbX.mono hb7.size)).mono hB37.out.size)).mono hb3.size)
          have hgw : w.heap.size + 1 + 1 < gs := by have h1 := hrB.out.lt; have h2 := hgs.out; omega
          have hPX := hPA7.out.later hbX
          have hSX := hblkS.out.below hbX hblkS.out.lt
          have hbSn : ¬ bS = gs := by have h1 := hbS.out; have h2 := hz23.out; omega
          have hbPn : ¬ bP = gs := by have h1 := hbP.out; have h2 := hz23.out; have h3 := hb35.size; omega
          obtain ⟨wK, hwK⟩ : ∃ wK, wX.setCell ⟨gs, 1, none⟩ (.int .i64 (qs.length : Nat)) = wK := ⟨_, rfl⟩
          have hkK : KeepB (fun b => b = gs) wX wK := by rw [← hwK]; exact (KeepB.refl _ _).setCell _ _ fun _ => rfl
          have hgK : Blk wK gs 28 #[.int .i64 al, .int .i64 (qs.length : Nat), .slice none 0 0] := by rw [← hwK]; simpa using hgX.set_ 1 (.int .i64 (qs.length : Nat))
          have hQ3 : Hid (∀ wr, KeepB (fun b => b = gs) wK wr → NatsAt wr wr.heap.size A9 qs) := hid fun wr hk => by
            obtain ⟨A', c', e, -, -, h⟩ := OwnNats.read (own_keep hoQ (hkK.trans hk) fun g hg e => own_ne hoQ hgX (by decide) g hg e)
            cases e
            exact h
          have hL3 : Hid (∀ wr, KeepB (fun b => b = gs) wK wr → NatsAt wr wr.heap.size AL L) := hid fun wr hk => by
            obtain ⟨A', c', e, -, -, h⟩ := OwnNats.read (own_keep hoLX (hkK.trans hk) fun g hg e => own_ne hoLX hgX (by decide) g hg e)
            cases e
            exact h
          have hM3 : Hid (∀ wr, KeepB (fun b => b = gs) wK wr → wr.ownsMap Tryd.prog 3 (plainElem Tryd.prog 3) (w7.heap.size + 1) m D3) := hid fun wr hk => map_keep hmX (hkK.trans hk) (by omega)
          have hW3 : Hid (∀ wr, KeepB (fun b => b = gs) wK wr → Below w.heap.size w wr) := hid fun wr hk => KeepB.below hBX (hkK.trans hk) hBX.size fun k e => by omega
          have hR3 : Hid (∀ wr, KeepB (fun b => b = gs) wK wr → Below w2.heap.size w2 wr) := hid fun wr hk => KeepB.below hB2X (hkK.trans hk) hB2X.size fun k e => by have h2 := hgs.out; omega
          have hC3 : Hid (∀ wr, KeepB (fun b => b = gs) wK wr → wr.cell? ⟨bP, 0, none⟩ = some (.slice (some ⟨bS, 0, none⟩) 2 2) ∧ wr.cell? ⟨bP, 1, none⟩ = some (.slice MV 2 cm)) := hid fun wr hk => by
            have h0 := cell_keep (hkK.trans hk) hbPn hPX.c0
            have h1 := cell_keep (hkK.trans hk) hbPn hPX.c1
            rw [hlen.out] at h0 h1
            exact ⟨h0, h1⟩
          have hN3 : Hid (∀ wr, KeepB (fun b => b = gs) wK wr → ∀ (n l : Nat), n < 4096 → l < 6 → Calls Tryd.prog 38 #[.agg #[.slice (some ⟨bS, 0, none⟩) 2 2, .slice MV 2 cm], .int .i64 (n : Nat), .int .i64 (l : Nat), .slice none 0 0] wr fun e w' => ∃ v', e = .returned v' ∧ OwnNats w' wr.heap.size v' (nxParts ss n l) ∧ Below wr.heap.size wr w') := hid fun wr hk n l hn hl' => by
            have hkX := hkK.trans hk
            have hbw := hW3.out wr hk
            have hsy : SysAt wr wr.heap.size (some ⟨bS, 0, none⟩) ss := by rw [hss.out]; exact two_at (hSX.keep hkX hbSn) hl hc hm hd (hr.out.later hbw) (hr2.out.later hbw)
            exact nextTwo_any ss _ MV cm n l bP wr ⟨hT.out.later hbw, hall.out, hPX.len3, hPX.lc, hPX.hc, hPX.lm, hPX.hcm, hsy, hPX.mvs.kept hkX hgX, cell_keep hkX hbPn hPX.c0, cell_keep hkX hbPn hPX.c1⟩ hlen.out hl' hn
          have hK0 : Hid (KSt wK wK gs al (qs.length : Nat) (.slice none 0 0) (esTo ss (qs.take 0))) := hid ⟨hgK, World.ownsRow_nil _ _ _ _, KeepB.refl _ _, hgK.lt⟩
          have hrkm : Hid (∀ x, x ∈ qs → D3.atKey (.int .i64 (x : Int)) (.lit (.int .i64 0)) = .lit (.int .i64 ((rkN ss x : Nat) : Int))) := hid fun x hx => by
            have h1 := hixX.out.at_ x (qs.idxOf x) (numF_all hx)
            have h2 : qs.idxOf x = rkN ss x := by
              have h3 : Rn ss x := (rnL_mem hall.out).1 (by rw [← hqs.out]; exact hx)
              rw [hqs.out]
              exact idx_rank hall.out h3
            rw [h1, h2]
          clear hbX hmX hoQ hoLX hB2X hPX hSX hM hBX
          go_upto_region 32 with fail
          try rw [hwK]
          replace hgK := hid hgK
          replace hgX := hid hgX
          replace hkK := hid hkK
          clear g1 f1 hwK
          go_wp2_with fail
          go_loopw [113] (fun iv wr => ∃ (i : Nat) (v : Value), iv = .int .i64 (i : Nat) ∧ i ≤ qs.length ∧ KSt wK wr gs al (qs.length : Nat) v (esTo ss (qs.take i))) (fun iv _ => qs.length - (intOf iv).toNat)
          case atStart => exact ⟨0, _, rfl, Nat.zero_le _, hK0.out⟩
          case round =>
            clear hK0
            obtain ⟨i, v, rfl, hi1, hs⟩ := hrel
            by_cases hil : i < qs.length
            · obtain ⟨bQ, oQ, hAe, hbQ, hEQ⟩ := hQ3.out wr hs.keep (by omega)
              subst hAe
              have n0 := hEQ i hil
              obtain ⟨n, hn⟩ : ∃ n, Hid (n = qs[i]) := ⟨_, hid rfl⟩
              rw [← hn.out] at n0
              have hnR : Hid (Rn ss n) := hid (by
                have h9 := List.getElem_mem hil
                rw [← hn.out, hqs.out] at h9
                exact (rnL_mem hall.out).1 h9)
              have hn4 : n < 4096 := by
                have h1 := hnR.out.lt hall.out
                have h2 := (prodP_4096 hall.out (by rw [hlen.out]; decide)).2
                omega
              have hrk : Hid (rkN ss n = i) := hid (by rw [hn.out]; simp only [hqs.out]; exact rnL_get hall.out (by rw [← hqs.out]; exact hil))
              have hnx : Hid (esTo ss (qs.take (i + 1)) = esTo ss (qs.take i) ++ cmRow ss n) := hid (by rw [List.take_succ_eq_append_getElem hil, esTo_snoc, hn.out])
              have h3 : ss.length ≤ 3 := by rw [hlen.out]; decide
              have hesI : (esTo ss (qs.take i)).length ≤ 393216 := by
                have := esTo_le hall.out h3 (qs.take i)
                have h4 : (qs.take i).length * 24576 ≤ 16 * 24576 := Nat.mul_le_mul_right _ (by rw [List.length_take]; omega)
                omega
              obtain ⟨E0, hE0⟩ : ∃ E0, Hid (E0 = esTo ss (qs.take i)) := ⟨_, hid rfl⟩
              rw [← hE0.out] at hs hnx hesI
              have hs' := hid hs
              replace hEQ := hid hEQ
              replace h3 := hid h3
              clear hs
              go_wp2_with fail
              obtain ⟨wo, rfl⟩ : ∃ wo : World, wo = wr := ⟨_, rfl⟩
              go_loopw [120] (fun kv wr => ∃ (k : Nat) (v : Value), kv = .int .i64 (k : Nat) ∧ k ≤ L.length ∧ KSt wK wr gs al (qs.length : Nat) v (E0 ++ rowTo ss n k)) (fun kv _ => L.length - (intOf kv).toNat)
              case atStart => exact ⟨0, v, rfl, Nat.zero_le _, by rw [rowTo_zero, List.append_nil]; exact hs'.out⟩
              case round =>
                clear hs' n0
                obtain ⟨k, v, rfl, hk1, hs⟩ := hrel
                by_cases hlk : k < L.length
                · obtain ⟨bL, oL, hLE, hbL, hEL⟩ := hL3.out wr hs.keep (by omega)
                  subst hLE
                  have l0 := hEL k hlk
                  obtain ⟨l, hl9⟩ : ∃ l, Hid (l = L[k]) := ⟨_, hid rfl⟩
                  rw [← hl9.out] at l0
                  have hl6 : l < 6 := by rw [hl9.out]; exact hlL.out _ (List.getElem_mem _)
                  obtain ⟨M, hM⟩ : ∃ M, Hid (M = nxParts ss n l) := ⟨_, hid rfl⟩
                  have hMl : M.length ≤ 4096 := by rw [hM.out]; exact nxParts_le hall.out h3.out n l
                  have hkk : k < (letters (allAl ss)).length := by rw [← hLe.out]; exact hlk
                  have hlm : Hid (l ∈ letters (allAl ss)) := hid (by rw [hl9.out, ← hLe.out]; exact List.getElem_mem _)
                  have hMR : Hid (∀ x ∈ M, x < 4096 ∧ x ∈ qs) := hid fun x hx => by
                    rw [hM.out] at hx
                    have h1 := nxParts_lt hall.out n l x hx
                    have h2 := (prodP_4096 hall.out (by rw [hlen.out]; decide)).2
                    refine ⟨by omega, ?_⟩
                    rw [hqs.out]
                    exact (rnL_mem hall.out).2 (hnR.out.step hlm.out hx)
                  have hrow : Hid (rowTo ss n (k + 1) = rowTo ss n k ++ M.map (mkE ss n l)) := hid (by rw [rowTo_succ hkk, hM.out, hl9.out]; simp only [hLe.out])
                  have hrl := rowTo_le hall.out h3.out n k
                  obtain ⟨c0, c1⟩ := hC3.out wr hs.keep
                  have hnext := hN3.out wr hs.keep n l hn4 hl6
                  rw [← hM.out] at hnext
                  replace hnext := hid hnext
                  have hs' := hid hs
                  replace hEL := hid hEL
                  clear hs
                  go_wp2_with fail
                  refine hnext.out.mono ?_
                  rintro e w9 ⟨v', rfl, hoM, hb9⟩
                  obtain ⟨AM, cM, rfl, hcM, hcM', -⟩ := OwnNats.read hoM
                  have hs9 : Hid (KSt2 wK w9 gs al (qs.length : Nat) v (E0 ++ rowTo ss n k) (.slice AM M.length cM) M) := hid ⟨hs'.out.later hb9, own_base hoM hs'.out.keep.size⟩
                  clear hnext hoM c0 c1 l0 hs'
                  go_wp2_with fail
                  obtain ⟨wo2, rfl⟩ : ∃ wo : World, wo = wr := ⟨_, rfl⟩
                  go_loopw [129] (fun jv wr => ∃ (j : Nat) (v : Value), jv = .int .i64 (j : Nat) ∧ j ≤ M.length ∧ KSt2 wK wr gs al (qs.length : Nat) v (E0 ++ rowTo ss n k ++ (M.take j).map (mkE ss n l)) (.slice AM M.length cM) M) (fun jv _ => M.length - (intOf jv).toNat)
                  case atStart => exact ⟨0, v, rfl, Nat.zero_le _, by rw [List.take_zero, List.map_nil, List.append_nil]; exact hs9.out⟩
                  case round =>
                    clear hs9
                    obtain ⟨j, v, rfl, hj1, hs⟩ := hrel
                    by_cases hjl : j < M.length
                    · obtain ⟨AM2, cM2, e7, -, -, hMN⟩ := OwnNats.read hs.mem
                      cases e7
                      obtain ⟨bM, oM, hME, hbM, hEM⟩ := hMN (by omega)
                      subst hME
                      have m0 := hEM j hjl
                      obtain ⟨x, hx9⟩ : ∃ x, Hid (x = M[j]) := ⟨_, hid rfl⟩
                      rw [← hx9.out] at m0
                      have hxm := hMR.out _ (List.getElem_mem hjl)
                      rw [← hx9.out] at hxm
                      obtain ⟨hx4, hxq⟩ := hxm
                      have c2 := hs.so.blk.cell 2
                      simp only [List.getElem?_toArray, List.getElem?_cons_zero, List.getElem?_cons_succ] at c2
                      obtain ⟨rm, hrm⟩ : ∃ r, Hid (r = rkN ss x) := ⟨_, hid rfl⟩
                      have hat := hrkm.out x hxq
                      rw [← hrm.out] at hat
                      replace hat := hid hat
                      replace hxq := hid hxq
                      obtain ⟨es, hes⟩ : ∃ es, Hid (es = E0 ++ rowTo ss n k ++ (M.take j).map (mkE ss n l)) := ⟨_, hid rfl⟩
                      have hesl : es.length ≤ 1000000 := by
                        rw [hes.out, List.length_append, List.length_append, List.length_map, List.length_take]
                        omega
                      rw [← hes.out] at hs
                      have hek : Hid (E0 ++ rowTo ss n k ++ (M.take (j + 1)).map (mkE ss n l) = es ++ [⟨(i : Int), (l : Int), (rm : Int)⟩]) := hid (by
                        rw [map_take_snoc hjl, ← List.append_assoc, ← hes.out, ← hx9.out, hrm.out]
                        unfold mkE
                        rw [hrk.out])
                      have hmap := hM3.out wr hs.so.keep
                      have hkey : keyOf Tryd.prog 3 (.int .i64 (x : Int)) = some (.int .i64 (x : Int)) := keyOf_int_mk Tryd.underlying3 (wf64 (by omega) (by omega))
                      have hgl := hs.so.blk.lt
                      have ag : v.ownBlock ≠ some gs := fun e => own_ne hs.so.own hs.so.blk (by decide) gs e rfl
                      have hbz : wK.heap.size ≤ wr.heap.size := hs.so.keep.size
                      have hown := hid hs.so.own
                      have hs' := hid hs
                      replace hEM := hid hEM
                      replace hMN := hid hMN
                      clear hs
                      go_wp2_with (first
                        | (at_lookup; refine wpList_lookup_own_int _ rfl _ _ 65 rfl 3 3 .i64 mapLaw2 Tryd.underlying65 Tryd.underlying3 (zeroInt _) (w7.heap.size + 1) m D3 rfl hmap _ _ rfl hkey ?_; intro c' hat' hwc'; obtain rfl : c' = (rm : Int) := (by have h1 := hat.out.symm.trans hat'; simpa using h1.symm); clear hat' hwc')
                        | (at_builtin; refine wpList_append_lies _ (by rfl) _ _ 26 (by rfl) wK.heap.size 59 i0 (.agg #[.int .i64 0, .int .i64 0, .int .i64 0]) 3 24 Tryd.underlying26 hi hz0' hz1' hz2' rfl (by decide) v es.length (edCells es) (by rfl) (hown.out.alloc _) ⟨wr.heap.size, 0, none⟩ 1 1 [.int .i64 (i : Nat), .int .i64 (l : Nat), .int .i64 (rm : Nat)] (by rfl) (by rfl) (World.news_of_block (heap_alloc_new wr _)) ?c1 (by omega) ?c3 ?c4 ?c5 _ rfl ?_))
                      case c1 => simp [Value.oneCell']
                      case c3 => unfold maxLen; omega
                      case c4 => omega
                      case c5 => simp; omega
                      intro gg cap5 w5' hown5 hgrow hat5 hlt5
                      have hs5 := hid ((hs'.out.later ((Below.refl _ wr).alloc (Nat.le_refl _) _)).add (x := ⟨(i : Int), (l : Int), (rm : Int)⟩) hown5 hgrow)
                      have c2' : w5'.cell? ⟨gs, 2, none⟩ = some v := by rw [hgrow.cell_far _ (by simp; omega) (Ne.symm ag), World.cell?_alloc_lt (h := by simpa using hgl)]; exact c2
                      have f2' : w5'.frozen? ⟨gs, 2, none⟩ = false := by rw [hgrow.frozen_far _ (by simp; omega) (Ne.symm ag)]; exact (hs'.out.so.blk.alloc _).frozen 2
                      clear hown5 hgrow hat5 c2 m0
                      go_wp2_with fail
                      go_roundw
                      case rel => exact ⟨j + 1, _, by go_num, by omega, by rw [hek.out]; exact hs5.out⟩
                      case measure => simp [intOf]; omega
                    · obtain rfl : j = M.length := by omega
                      have hfin : Hid (KSt wK wr gs al (qs.length : Nat) v (E0 ++ rowTo ss n (k + 1))) := hid (by
                        rw [hrow.out, ← List.append_assoc]
                        have h9 := hs.so
                        rw [List.take_length] at h9
                        exact h9)
                      replace hs := hid hs
                      go_wp2_with fail
                      go_roundw
                      case rel => exact ⟨k + 1, v, by go_num, by omega, hfin.out⟩
                      case measure => simp [intOf]; omega
                · obtain rfl : k = L.length := by omega
                  have hfin : Hid (KSt wK wr gs al (qs.length : Nat) v (esTo ss (qs.take (i + 1)))) := hid (by
                    rw [hnx.out, ← rowTo_all, ← hLe.out]
                    exact hs)
                  replace hs := hid hs
                  go_wp2_with fail
                  go_roundw
                  case rel => exact ⟨i + 1, v, by go_num, by omega, hfin.out⟩
                  case measure => simp [intOf]; omega
            · obtain rfl : i = qs.length := by omega
              have hE : esTo ss (qs.take qs.length) = cmEs ss := by rw [List.take_length, hqs.out, esTo_all]
              rw [hE] at hs
              obtain ⟨es, hes⟩ : ∃ es, Hid (es = cmEs ss) := ⟨_, hid rfl⟩
              rw [← hes.out] at hs
              have hesn : es.length ≤ 1000000 := by
                have h1 := esTo_le hall.out (by rw [hlen.out]; decide) qs
                rw [hqs.out, esTo_all, ← hes.out, ← hqs.out] at h1
                have h4 : qs.length * 24576 ≤ 16 * 24576 := Nat.mul_le_mul_right _ hp16
                omega
              have hcall := hid (sortEdges_any es v wK.heap.size wr hs.own hesn (by rw [hes.out]; exact cmEs_sorted hall.out))
              have c2 := hs.blk.cell 2
              simp only [List.getElem?_toArray, List.getElem?_cons_zero, List.getElem?_cons_succ] at c2
              have hs' := hid hs
              clear hs hil hi1
              go_wp2_with fail
              refine hcall.out.mono ?_
              rintro e w9 ⟨rfl, hb9⟩
              have hs9 := hs'.out.later hb9
              clear c2 hcall hs'
              obtain ⟨Av, cv, hve, hv1, hv2⟩ := own_slice hs9.own
              subst hve
              have hWr := hW3.out w9 hs9.keep
              have hrb := hrB.out.below (hR3.out w9 hs9.keep) hrB.out.lt
              have c0 := hs9.blk.cell 0
              have c1 := hs9.blk.cell 1
              have c2 := hs9.blk.cell 2
              have d0 := hrb.cell 0
              have d1 := hrb.cell 1
              have d2 := hrb.cell 2
              have f0 := hrb.frozen 0
              have f1 := hrb.frozen 1
              have f2 := hrb.frozen 2
              simp only [List.getElem?_toArray, List.getElem?_cons_zero, List.getElem?_cons_succ] at c0 c1 c2 d0 d1 d2
              have hne : (Value.slice Av es.length cv).ownBlock ≠ some (w.heap.size + 1 + 1) := fun e => by have h1 := (hs9.own.lt _ e).1; have h2 := hs9.low; omega
              have hfin : Hid (SoOwn w (cmX s t) (cmOk s t) (.returned (.tuple #[.agg #[.int .i64 al, .int .i64 (qs.length : Nat), .slice Av es.length cv], .bool true])) (((w9.setCell ⟨w.heap.size + 1 + 1, 0, none⟩ (.int .i64 al)).setCell ⟨w.heap.size + 1 + 1, 1, none⟩ (.int .i64 (qs.length : Nat))).setCell ⟨w.heap.size + 1 + 1, 2, none⟩ (.slice Av es.length cv))) := hid (by
                have hcok : cmOk s t = true := cmOk_of hok'.out hok2'.out (by rw [← hss.out, ← hqs.out]; omega)
                have e : cmX s t = ⟨al, ((qs.length : Nat) : Int), es⟩ := by
                  rw [cmX_ok hcok, ← hss.out]
                  unfold cmSy
                  rw [← hale.out, ← hqs.out, ← hes.out]
                rw [e, hcok]
                refine ⟨Av, cv, rfl, ?_, ((hWr.setCell (by simp; omega) _).setCell (by simp; omega) _).setCell (by simp; omega) _⟩
                exact ownsRow_setCell_other (ownsRow_setCell_other (ownsRow_setCell_other (own_base hs9.own (by have := hs9.low; omega)) hne _) hne _) hne _)
              have hgl := hs9.blk.lt
              replace hs9 := hid hs9
              replace hrb := hid hrb
              replace hWr := hid hWr
              go_wp2
              refine bodyPost_ret (v := .tuple #[.agg #[.int .i64 al, .int .i64 (qs.length : Nat), .slice Av es.length cv], .bool true]) (by simp [results, Tryd.results12, go_sem, d0, d1, d2]) rfl ?_
              exact hfin.out

end Go.Proofs.YtdkjnemakkppfaaDoor

/- The law FnExactComposeSystems returns true. Printed by tools/gen_ex2.py. -/
namespace Go.Proofs.YtdkjnemakkppfaaDoor
open Go.RowKit Go.BigFrame Go.Maps AG

theorem cmX_few {s t : Sy} : (cmX s t).es.length ≤ 1000000 := by
  cases h : cmOk s t
  · rw [cmX_bad h]; exact Nat.zero_le _
  · obtain ⟨h1, h2, h3⟩ := cmOk_parts h
    rw [cmX_ok h]
    show (cmEs [s, t]).length ≤ _
    have h4 := esTo_le (all_two h1 h2) (show [s, t].length ≤ 3 from by simp) (rnL [s, t])
    rw [esTo_all] at h4
    have h5 : (rnL [s, t]).length * 24576 ≤ 16 * 24576 := Nat.mul_le_mul_right _ h3
    omega
theorem OwnEds.wr' {w : World} {base : Nat} {A : Option Addr} {c : Nat} {es : List Ed} (h : OwnEds w base (.slice A es.length c) es) : WrB w A es.length := fun b o hA => by
  rcases h.2 with ⟨h1, _⟩ | ⟨g, cap, cur, h1, _, hb, hcap, _, hs, _⟩
  · rw [hA] at h1
    cases h1
  · rw [hA] at h1
    injection h1 with h1
    injection h1 with h1
    injection h1 with h1 h2
    subst h1
    refine ⟨h2, cur, hb, ?_⟩
    have : es.length * 3 ≤ cap * 3 := Nat.mul_le_mul_right 3 hcap
    omega

set_option maxRecDepth 100000 in
set_option maxHeartbeats 16000000 in
theorem FnExactComposeSystems_any (s t : Sy) (A B : Option Addr) (c d : Nat) (w : World) (hl : s.es.length ≤ c) (hc : c ≤ 9223372036854775807) (hm : t.es.length ≤ d) (hd : d ≤ 9223372036854775807) (hT : Tab w) (hr : EdsAt w w.heap.size A s.es) (hs : EdsAt w w.heap.size B t.es) :
    Calls Tryd.prog 3 #[s.val A c, t.val B d] w fun e w' => e = .returned (.bool true) ∧ Below w.heap.size w w' := by
  obtain ⟨X, hX⟩ : ∃ X, Hid (X = cmX s t) := ⟨_, hid rfl⟩
  obtain ⟨ok, hok⟩ : ∃ ok, Hid (ok = cmOk s t) := ⟨_, hid rfl⟩
  have hxl : X.es.length ≤ 1000000 := by rw [hX.out]; exact cmX_few
  have hkk : (ok != ok) = false := by simp
  unfold Sy.val
  replace hr := hid hr
  replace hs := hid hs
  replace hT := hid hT
  go_enter Tryd.func3, Tryd.ntmps3
  go_wp2_with fail
  obtain ⟨w0, hw0, hz0, hB0, hS, hU⟩ := boxed2 w #[Value.int IntKind.i64 s.al, Value.int IntKind.i64 s.st, Value.slice A s.es.length c] 24 #[Value.int IntKind.i64 t.al, Value.int IntKind.i64 t.st, Value.slice B t.es.length d] 24
  rw [hw0]
  clear hw0
  have p0 := hS 0 _ rfl _ (Below.refl _ _)
  have p1 := hS 1 _ rfl _ (Below.refl _ _)
  have p2 := hS 2 _ rfl _ (Below.refl _ _)
  go_wp2_with fail
  refine (szSystem_any s A c 1048576 w0 (by omega) (by omega) (by omega)).mono ?_
  rintro e w1 ⟨rfl, hb1⟩
  have b1 := hb1.mono hz0
  clear p0 p1 p2
  have B1 : Below w.heap.size w w1 := hB0.trans (b1.mono (by omega))
  by_cases hsz : sz1 s.es.length 1048576 < 0
  · go_wp2_with fail
    go_ret
    exact ⟨rfl, B1⟩
  have hn : s.es.length ≤ 1048576 := by unfold sz1 at hsz; split at hsz <;> omega
  obtain ⟨left, hleft⟩ : ∃ left, left = sz1 s.es.length 1048576 := ⟨_, rfl⟩
  have hl0 : 0 ≤ left ∧ left ≤ 1048576 := by rw [hleft]; unfold sz1 at hsz ⊢; split at hsz <;> omega
  rw [← hleft] at hsz ⊢
  replace hleft := hid hleft
  have q0 := hU 0 _ rfl _ b1
  have q1 := hU 1 _ rfl _ b1
  have q2 := hU 2 _ rfl _ b1
  go_wp2_with fail
  refine (szSystem_any t B d left w1 (by omega) (by omega) (by omega)).mono ?_
  rintro e w2 ⟨rfl, hb2⟩
  have z1 := hb1.size
  have z2 := hb2.size
  have b2 := b1.trans (hb2.mono (by omega))
  clear q0 q1 q2
  have B2 : Below w.heap.size w w2 := hB0.trans (b2.mono (by omega))
  by_cases hsz2 : sz1 t.es.length left < 0
  · go_wp2_with fail
    go_ret
    exact ⟨rfl, B2⟩
  have hn2 : t.es.length ≤ 1048576 := by unfold sz1 at hsz2; split at hsz2 <;> omega
  clear hb1 hb2 B1 b1
  -- s and t in their boxes, in all later worlds
  have hs' : Hid (∀ w', Below w2.heap.size w2 w' → (w'.cell? ⟨w.heap.size, 0, none⟩ = some (.int .i64 s.al) ∧ w'.cell? ⟨w.heap.size, 1, none⟩ = some (.int .i64 s.st) ∧ w'.cell? ⟨w.heap.size, 2, none⟩ = some (.slice A s.es.length c)) ∧ w'.cell? ⟨w.heap.size + 1, 0, none⟩ = some (.int .i64 t.al) ∧ w'.cell? ⟨w.heap.size + 1, 1, none⟩ = some (.int .i64 t.st) ∧ w'.cell? ⟨w.heap.size + 1, 2, none⟩ = some (.slice B t.es.length d)) := hid fun w' hb =>
    have hb' := b2.trans (hb.mono (by omega))
    ⟨⟨hS 0 _ rfl _ hb', hS 1 _ rfl _ hb', hS 2 _ rfl _ hb'⟩, hU 0 _ rfl _ hb', hU 1 _ rfl _ hb', hU 2 _ rfl _ hb'⟩
  have hr2 := hid (hr.out.later B2)
  have hs2 := hid (hs.out.later B2)
  have hT2 := hid (hT.out.later B2)
  clear hS hU b2
  have bW : Below w2.heap.size w2 w2 := Below.refl _ _
  obtain ⟨⟨r0, r1, r2⟩, r3, r4, r5⟩ := hs'.out w2 bW
  have g0 := GK.BI.cell r0
  have g1 := GK.BI.cell r1
  have g2 := GK.BI.cell r2
  have g3 := GK.BI.cell r3
  have g4 := GK.BI.cell r4
  have g5 := GK.BI.cell r5
  have hrW := hid (hr2.out.later bW)
  have hsW := hid (hs2.out.later bW)
  have hTW := hid (hT2.out.later bW)
  clear r0 r1 r2 r3 r4 r5
  go_wp2_with fail
  refine GK.wp_region 11 [] 200 (SG w2.heap.size X) (GK.BI w2) (fun i u w' => if i = 4 then ∃ A c, u = .tuple #[X.val A c, .bool ok] ∧ X.es.length ≤ c ∧ c ≤ 9223372036854775807 ∧ EdsAt w' w'.heap.size A X.es else if i = 1 then ∃ A, u = s.val A s.es.length ∧ EdsAt w' w'.heap.size A s.es else ∃ A, u = t.val A t.es.length ∧ EdsAt w' w'.heap.size A t.es) (by kernel_rfl) (by kernel_rfl) SG.way (by decide) (Below.refl _ _).drew ?_
  simp only [List.take_succ_cons, List.take_zero]
  (repeat (refine GK.grow_quiet w2 (by rfl) (by rfl) ?_; intro K hK; go_big_quiet_op; go_big_quiet_on))
  refine GK.grow_call (by rfl) (fun u v v' hb h => ?_) (fun m wq hm' hbq hf => ?_) fun u hu => ?_
  · obtain ⟨g, e, h⟩ := h
    exact ⟨g, e, EdsAt.sg h hb⟩
  · go_simp
    have hbq' : Below w2.heap.size w2 wq := hbq
    refine ⟨rfl, (toSystem_any s A c wq hn hl hc (hrW.out.later hbq')).mono ?_⟩
    rintro e w3 ⟨A3, rfl, hA3, -, hb3⟩
    exact ⟨_, rfl, ⟨SG.of_below hb3, (GK.BI.after hbq hb3).2⟩, A3, rfl, hA3⟩
  obtain ⟨m1, wx, -, A3, rfl, -⟩ := hu
  simp only [Act.put, List.setIfInBounds_toArray, List.set_cons_zero, List.set_cons_succ]
  (repeat (refine GK.grow_quiet w2 (by rfl) (by rfl) ?_; intro K hK; go_big_quiet_op; go_big_quiet_on))
  refine GK.grow_call (by rfl) (fun u v v' hb h => ?_) (fun m wq hm' hbq hf => ?_) fun u hu => ?_
  · obtain ⟨g, e, h⟩ := h
    exact ⟨g, e, EdsAt.sg h hb⟩
  · go_simp
    have hbq' : Below w2.heap.size w2 wq := hbq
    refine ⟨rfl, (toSystem_any t B d wq hn2 hm hd (hsW.out.later hbq')).mono ?_⟩
    rintro e w3 ⟨A3, rfl, hA3, -, hb3⟩
    exact ⟨_, rfl, ⟨SG.of_below hb3, (GK.BI.after hbq hb3).2⟩, A3, rfl, hA3⟩
  obtain ⟨m2, wx2, -, A4, rfl, -⟩ := hu
  simp only [Act.put, List.setIfInBounds_toArray, List.set_cons_zero, List.set_cons_succ]
  (repeat (refine GK.grow_quiet w2 (by rfl) (by rfl) ?_; intro K hK; go_big_quiet_op; go_big_quiet_on))
  refine GK.grow_call (by rfl) (fun u v v' hb h => ?_) (fun m wq hm' hbq hf => ?_) fun u hu => ?_
  · obtain ⟨g, c', e, h1, h2, h⟩ := h
    exact ⟨g, c', e, h1, h2, EdsAt.sg h hb⟩
  · obtain ⟨_, e4, h4⟩ := hf _ List.mem_cons_self (by kernel_rfl)
    cases e4
    obtain ⟨_, e3, h3⟩ := hf _ (List.mem_cons_of_mem _ List.mem_cons_self) (by kernel_rfl)
    cases e3
    have h3' := hid h3
    have h4' := hid h4
    have hbq' : Below w2.heap.size w2 wq := hbq
    clear h3 h4 hf
    have hcall := specComposeSystems_any s t A3 A4 s.es.length t.es.length wq (Nat.le_refl _) (by omega) (Nat.le_refl _) (by omega) h3'.out h4'.out
    rw [← hX.out, ← hok.out] at hcall
    go_simp
    refine ⟨rfl, hcall.mono ?_⟩
    rintro e w4 hpost
    obtain ⟨A5, c5, rfl, h5, h6, h7, -, hb4⟩ := hpost
    exact ⟨_, rfl, ⟨SG.of_below hb4, (GK.BI.after hbq hb4).2⟩, A5, c5, rfl, h5, h6, h7⟩
  obtain ⟨m3, wx3, -, A5, c5, rfl, h5, h6, -⟩ := hu
  unfold Sy.val
  simp only [Act.put, List.setIfInBounds_toArray, List.set_cons_zero, List.set_cons_succ]
  (repeat (refine GK.grow_quiet w2 (by rfl) (by rfl) ?_; intro K hK; go_big_quiet_op; go_big_quiet_on))
  refine GK.grow_fact (fun u w' => ∃ b, u = .pointer (some ⟨b, 0, none⟩) ∧ SysB w2.heap.size w' b) (by rfl) (fun u v v' hb h => ?_) (fun m wq hm' hbq hf => ?_) fun u hu => ?_
  · obtain ⟨b, e, h⟩ := h
    exact ⟨b, e, SG.sysB h hb⟩
  · go_simp
    have hbq' : Below w2.heap.size w2 wq := hbq
    exact ⟨⟨SG.of_below ((Below.refl _ _).alloc (Nat.le_refl _) _), GK.BI.alloc _ hbq⟩, _, rfl, hbq'.size, 0, 0, none, 0, 0, heap_alloc_new wq _⟩
  obtain ⟨m4, wx4, -, gz, rfl, -⟩ := hu
  simp only [Act.put, List.setIfInBounds_toArray, List.set_cons_zero, List.set_cons_succ]
  refine GK.grow_fact (fun u w' => LaidSy X w' gz) (by rfl) (fun u v v' hb h => hb.laid _ h) (fun m wq hm' hbq hf => ?_) fun u hu => ?_
  · obtain ⟨b', e8, h8⟩ := hf _ List.mem_cons_self (by kernel_rfl)
    cases e8
    obtain ⟨_, _, e4, -, -, h4⟩ := hf _ (List.mem_cons_of_mem _ List.mem_cons_self) (by kernel_rfl)
    cases e4
    have h4' := hid h4
    have h8' := hid h8
    have hst := SG.store h8 h5 h6 h4
    obtain ⟨hge, x9, y9, A9, n9, c9, hh9⟩ := h8
    have hb9 : Blk wq gz 28 #[.int .i64 x9, .int .i64 y9, .slice A9 n9 c9] := hh9
    have d0 := hb9.cell 0
    have d1 := hb9.cell 1
    have d2 := hb9.cell 2
    have f0 := hb9.frozen 0
    have f1 := hb9.frozen 1
    have f2 := hb9.frozen 2
    simp only [List.getElem?_toArray, List.getElem?_cons_zero, List.getElem?_cons_succ] at d0 d1 d2
    have hbq' : Below w2.heap.size w2 wq := hbq
    replace hst := hid hst
    clear hf h4 hh9 hb9
    go_simp
    exact ⟨⟨hst.out.1, ((hbq'.setCell hge _).setCell hge _).setCell hge _⟩, hst.out.2⟩
  clear hu
  simp only [Act.put, List.setIfInBounds_toArray, List.set_cons_zero, List.set_cons_succ]
  (repeat (refine GK.grow_quiet w2 (by rfl) (by rfl) ?_; intro K hK; go_big_quiet_op; go_big_quiet_on))
  refine GK.grow_nil ?_
  intro w3 hww3 hf
  have hlaid : LaidSy X w3 gz := hf _ List.mem_cons_self
  clear hf g0 g1 g2 g3 g4 g5
  simp only [List.filterMap_nil]
  replace hww3 : Below w2.heap.size w2 w3 := hww3
  clear bW
  obtain ⟨Az, cz, hz1, lz1, lz2, ez⟩ := hlaid
  have hgz := (Array.getElem?_eq_some_iff.1 hz1).1
  have hz1' : Blk w3 gz 28 #[.int .i64 X.al, .int .i64 X.st, .slice Az X.es.length cz] := hz1
  have hZ : Hid (∀ w', Below w3.heap.size w3 w' → w'.cell? ⟨gz, 0, none⟩ = some (.int .i64 X.al) ∧ w'.cell? ⟨gz, 1, none⟩ = some (.int .i64 X.st) ∧ w'.cell? ⟨gz, 2, none⟩ = some (.slice Az X.es.length cz)) := hid fun w' hb => ⟨(hz1'.below hb hgz).cell 0, (hz1'.below hb hgz).cell 1, (hz1'.below hb hgz).cell 2⟩
  replace ez := hid ez
  have B3 := B2.trans (hww3.mono B2.size)
  clear hz1 hz1' hrW hsW hTW
  obtain ⟨⟨r0, r1, r2⟩, -, -, -⟩ := hs'.out w3 hww3
  go_wp2_with fail
  refine (toSystemW_any s A c w3 hn hl hc (hr2.out.later hww3)).mono ?_
  rintro e w4 ⟨A5, rfl, e5, f5, wr5, hb4⟩
  unfold Sy.val
  clear r0 r1 r2
  replace e5 := hid e5
  replace f5 := hid f5
  replace wr5 := hid wr5
  have c34 := hb4
  go_upto_region 10 with fail
  obtain ⟨w5, hw5, hz5, hb5, hXb⟩ := boxed w4 #[.int .i64 s.al, .int .i64 s.st, .slice A5 s.es.length s.es.length] 28
  rw [hw5]
  clear hw5
  have c35 := c34.trans (hb5.mono c34.size)
  obtain ⟨-, r3, r4, r5⟩ := hs'.out w5 (hww3.trans (c35.mono hww3.size))
  go_wp2_with fail
  refine (toSystemW_any t B d w5 hn2 hm hd (hs2.out.later (hww3.trans (c35.mono hww3.size)))).mono ?_
  rintro e w6 ⟨A6, rfl, e6, f6, wr6, hb6⟩
  unfold Sy.val
  clear r3 r4 r5
  replace e6 := hid e6
  replace f6 := hid f6
  replace wr6 := hid wr6
  have c36 := c35.trans (hb6.mono c35.size)
  go_upto_region 11 with fail
  obtain ⟨w7, hw7, hz7, hb7, hYb⟩ := boxed w6 #[.int .i64 t.al, .int .i64 t.st, .slice A6 t.es.length t.es.length] 28
  rw [hw7]
  clear hw7
  have c37 := c36.trans (hb7.mono c36.size)
  have c57 := hb6.trans (hb7.mono hb6.size)
  have x0 := hXb 0 _ rfl _ (c57.mono hz5)
  have x1 := hXb 1 _ rfl _ (c57.mono hz5)
  have x2 := hXb 2 _ rfl _ (c57.mono hz5)
  have y0 := hYb 0 _ rfl _ (Below.refl _ _)
  have y1 := hYb 1 _ rfl _ (Below.refl _ _)
  have y2 := hYb 2 _ rfl _ (Below.refl _ _)
  have e5' := hid ((e5.out.later hb5).later c57)
  have e6' := hid (e6.out.later hb7)
  have c27 := hww3.trans (c37.mono hww3.size)
  have hcall := hid (implComposeSystems_any s t A5 A6 s.es.length t.es.length w7 (Nat.le_refl _) (by omega) (Nat.le_refl _) (by omega) (hT2.out.later c27) e5'.out e6'.out)
  rw [← hX.out, ← hok.out] at hcall
  go_wp2_with fail
  refine hcall.out.mono ?_
  clear hcall x0 x1 x2 y0 y1 y2
  rintro e w8 ⟨A8, c8, rfl, o8, hb8⟩
  unfold Sy.val
  replace o8 := hid o8
  have c38 := c37.trans (hb8.mono c37.size)
  go_upto_region 12 with fail
  obtain ⟨w9, hw9, hz9, hb9, hGb⟩ := boxed w8 #[.int .i64 X.al, .int .i64 X.st, .slice A8 X.es.length c8] 28
  rw [hw9]
  clear hw9
  have c39 := c38.trans (hb9.mono c38.size)
  have c59 := c57.trans ((hb8.trans (hb9.mono hb8.size)).mono c57.size)
  have c79 := hb8.trans (hb9.mono hb8.size)
  have zz3 := hb4.size
  have zz5 := hb6.size
  have zz7 := hb8.size
  have bx5 := hid fun i v hv => hXb i v hv w9 (c59.mono hz5)
  have bx7 := hid fun i v hv => hYb i v hv w9 (c79.mono hz7)
  have bx9 := hid fun i v hv => hGb i v hv w9 (Below.refl _ _)
  have hK5 : ¬ ((w3.heap.size ≤ w4.heap.size ∧ w4.heap.size < w4.heap.size) ∨ (w5.heap.size ≤ w4.heap.size ∧ w4.heap.size < w6.heap.size) ∨ (w7.heap.size ≤ w4.heap.size ∧ w4.heap.size < w8.heap.size)) := by omega
  have hK7 : ¬ ((w3.heap.size ≤ w6.heap.size ∧ w6.heap.size < w4.heap.size) ∨ (w5.heap.size ≤ w6.heap.size ∧ w6.heap.size < w6.heap.size) ∨ (w7.heap.size ≤ w6.heap.size ∧ w6.heap.size < w8.heap.size)) := by omega
  have hK9 : ¬ ((w3.heap.size ≤ w8.heap.size ∧ w8.heap.size < w4.heap.size) ∨ (w5.heap.size ≤ w8.heap.size ∧ w8.heap.size < w6.heap.size) ∨ (w7.heap.size ≤ w8.heap.size ∧ w8.heap.size < w8.heap.size)) := by omega
  have hXc : Hid (∀ w', KeepB (fun b => (w3.heap.size ≤ b ∧ b < w4.heap.size) ∨ (w5.heap.size ≤ b ∧ b < w6.heap.size) ∨ (w7.heap.size ≤ b ∧ b < w8.heap.size)) w9 w' → w'.cell? ⟨w4.heap.size, 0, none⟩ = some (.int .i64 s.al) ∧ w'.cell? ⟨w4.heap.size, 1, none⟩ = some (.int .i64 s.st) ∧ w'.cell? ⟨w4.heap.size, 2, none⟩ = some (.slice A5 s.es.length s.es.length)) := hid fun w' hk => ⟨cell_keep hk hK5 (bx5.out 0 _ rfl), cell_keep hk hK5 (bx5.out 1 _ rfl), cell_keep hk hK5 (bx5.out 2 _ rfl)⟩
  have hYc : Hid (∀ w', KeepB (fun b => (w3.heap.size ≤ b ∧ b < w4.heap.size) ∨ (w5.heap.size ≤ b ∧ b < w6.heap.size) ∨ (w7.heap.size ≤ b ∧ b < w8.heap.size)) w9 w' → w'.cell? ⟨w6.heap.size, 0, none⟩ = some (.int .i64 t.al) ∧ w'.cell? ⟨w6.heap.size, 1, none⟩ = some (.int .i64 t.st) ∧ w'.cell? ⟨w6.heap.size, 2, none⟩ = some (.slice A6 t.es.length t.es.length)) := hid fun w' hk => ⟨cell_keep hk hK7 (bx7.out 0 _ rfl), cell_keep hk hK7 (bx7.out 1 _ rfl), cell_keep hk hK7 (bx7.out 2 _ rfl)⟩
  have hGc : Hid (∀ w', KeepB (fun b => (w3.heap.size ≤ b ∧ b < w4.heap.size) ∨ (w5.heap.size ≤ b ∧ b < w6.heap.size) ∨ (w7.heap.size ≤ b ∧ b < w8.heap.size)) w9 w' → w'.cell? ⟨w8.heap.size, 0, none⟩ = some (.int .i64 X.al) ∧ w'.cell? ⟨w8.heap.size, 1, none⟩ = some (.int .i64 X.st) ∧ w'.cell? ⟨w8.heap.size, 2, none⟩ = some (.slice A8 X.es.length c8)) := hid fun w' hk => ⟨cell_keep hk hK9 (bx9.out 0 _ rfl), cell_keep hk hK9 (bx9.out 1 _ rfl), cell_keep hk hK9 (bx9.out 2 _ rfl)⟩
  have hK3 : Hid (∀ w', KeepB (fun b => (w3.heap.size ≤ b ∧ b < w4.heap.size) ∨ (w5.heap.size ≤ b ∧ b < w6.heap.size) ∨ (w7.heap.size ≤ b ∧ b < w8.heap.size)) w9 w' → Below w3.heap.size w3 w') := hid fun w' hk => KeepB.below c39 hk c39.size fun k h => by omega
  clear hXb hYb hGb bx5 bx7 bx9 hK5 hK7 hK9
  have o9 := hid (own_keep o8.out (.of_below (K := fun _ => False) hb9) fun _ _ h => h)
  obtain ⟨A8', c8', e8, l81, l82, -, -⟩ := OwnEds.read o8.out
  injection e8 with e81 _ e83
  subst e81
  subst e83
  have e9 : Hid (EdsAt w9 w9.heap.size A8 X.es) := hid (by
    obtain ⟨A', c', e, -, -, h, -⟩ := OwnEds.read o9.out
    injection e with e _ _
    subst e
    exact h)
  have k9 : KeepB (fun b => (w3.heap.size ≤ b ∧ b < w4.heap.size) ∨ (w5.heap.size ≤ b ∧ b < w6.heap.size) ∨ (w7.heap.size ≤ b ∧ b < w8.heap.size)) w9 w9 := KeepB.refl _ _
  obtain ⟨g0, g1, g2⟩ := hGc.out _ k9
  obtain ⟨z0', z1', z2'⟩ := hZ.out _ (hK3.out _ k9)
  go_wp2_with fail
  refine (eqSystem_any X X A8 Az c8 cz w9 l81 l82 lz1 lz2 e9.out (ez.out.later (hK3.out _ k9))).mono ?_
  rintro e w10 ⟨rfl, hb10⟩
  rw [decide_eq_true rfl]
  have k10 : KeepB (fun b => (w3.heap.size ≤ b ∧ b < w4.heap.size) ∨ (w5.heap.size ≤ b ∧ b < w6.heap.size) ∨ (w7.heap.size ≤ b ∧ b < w8.heap.size)) w9 w10 := k9.trans (.of_below hb10)
  clear g0 g1 g2 z0' z1' z2'
  have c910 := hb10
  have e5a := hid (e5'.out.later (c79.trans (c910.mono c79.size)))
  obtain ⟨x0, x1, x2⟩ := hXc.out _ k10
  have bn := hww3.trans ((hK3.out _ k10).mono hww3.size)
  obtain ⟨⟨r0, r1, r2⟩, -, -, -⟩ := hs'.out w10 bn
  have hF : ∀ x, Below w10.heap.size w10 (Fam w10.heap.size w10 x) := fun x => Fam.below _ _ x
  have u0 := fun x => ((hF x).cell (p := ⟨w4.heap.size, 0, none⟩) (World.block_lt_of_cell? _ _ x0)).trans x0
  have u1 := fun x => ((hF x).cell (p := ⟨w4.heap.size, 1, none⟩) (World.block_lt_of_cell? _ _ x1)).trans x1
  have u2 := fun x => ((hF x).cell (p := ⟨w4.heap.size, 2, none⟩) (World.block_lt_of_cell? _ _ x2)).trans x2
  have v0 := fun x => ((hF x).cell (World.block_lt_of_cell? _ _ r0)).trans r0
  have v1 := fun x => ((hF x).cell (World.block_lt_of_cell? _ _ r1)).trans r1
  have v2 := fun x => ((hF x).cell (World.block_lt_of_cell? _ _ r2)).trans r2
  have hrn := hid (hr2.out.later bn)
  have hxn := hid (e5a.out)
  replace hF := hid hF
  clear x0 x1 x2 r0 r1 r2
  go_wp2_with fail
  refine wp_region_grow 5 w10.heap.size w10 (fun i u w' => if i = 2 then ∃ A2, u = s.val A2 s.es.length ∧ EdsAt w' w'.heap.size A2 s.es else u = .bool true) (by kernel_rfl) (by kernel_rfl) (Nat.le_refl _) (Below.refl _ _) ?_
  simp only [List.take_succ_cons, List.take_zero, List.drop_succ_cons, List.drop_zero]
  (repeat (refine grow_quiet (by rfl) (by rfl) (by rfl) ?_; intro K hK; go_big_quiet_op; go_big_quiet_on))
  refine grow_call (by rfl) (by rfl) (fun u v v' hb h => ?_) (fun wq hbq _ => ?_) fun u hu => ?_
  · obtain ⟨g, e, h⟩ := h
    exact ⟨g, e, h.later hb⟩
  · go_simp
    refine ⟨rfl, (toSystem_any s A c wq hn hl hc (hrn.out.later hbq)).mono ?_⟩
    rintro e w3 ⟨A3, rfl, hA3, -, hb3⟩
    exact ⟨_, rfl, hb3, A3, rfl, hA3⟩
  obtain ⟨wx, -, A3, rfl, -⟩ := hu
  simp only [Act.put, List.setIfInBounds_toArray, List.set_cons_zero, List.set_cons_succ]
  (repeat (refine grow_quiet (by rfl) (by rfl) (by rfl) ?_; intro K hK; go_big_quiet_op; go_big_quiet_on))
  refine grow_val (.bool true) (by rfl) (by rfl) rfl (fun wq hbq hfx => ?_) ?_
  · obtain ⟨_, e3, h3⟩ := hfx _ List.mem_cons_self (by kernel_rfl)
    cases e3
    have h3' := hid h3
    clear h3 hfx
    go_simp
    refine ⟨rfl, (eqSystem_any s s A5 A3 _ _ wq (Nat.le_refl _) (by omega) (Nat.le_refl _) (by omega) (hxn.out.later hbq) h3'.out).mono ?_⟩
    rintro e w4 ⟨rfl, hb4⟩
    exact ⟨by rw [decide_eq_true rfl], hb4⟩
  simp only [Act.put, List.setIfInBounds_toArray, List.set_cons_zero, List.set_cons_succ]
  (repeat (refine grow_quiet (by rfl) (by rfl) (by rfl) ?_; intro K hK; go_big_quiet_op; go_big_quiet_on))
  refine grow_nil ?_
  intro w11 hb11 hf
  clear hf u0 u1 u2 v0 v1 v2 bn hrn hxn hF
  have k11 : KeepB (fun b => (w3.heap.size ≤ b ∧ b < w4.heap.size) ∨ (w5.heap.size ≤ b ∧ b < w6.heap.size) ∨ (w7.heap.size ≤ b ∧ b < w8.heap.size)) w9 w11 := k10.trans (.of_below hb11)
  have c911 := c910.trans (hb11.mono c910.size)
  have e6a := hid (e6'.out.later (c79.trans (c911.mono c79.size)))
  obtain ⟨y0, y1, y2⟩ := hYc.out _ k11
  have bn := hww3.trans ((hK3.out _ k11).mono hww3.size)
  obtain ⟨-, r3, r4, r5⟩ := hs'.out w11 bn
  have hF : ∀ x, Below w11.heap.size w11 (Fam w11.heap.size w11 x) := fun x => Fam.below _ _ x
  have u0 := fun x => ((hF x).cell (p := ⟨w6.heap.size, 0, none⟩) (World.block_lt_of_cell? _ _ y0)).trans y0
  have u1 := fun x => ((hF x).cell (p := ⟨w6.heap.size, 1, none⟩) (World.block_lt_of_cell? _ _ y1)).trans y1
  have u2 := fun x => ((hF x).cell (p := ⟨w6.heap.size, 2, none⟩) (World.block_lt_of_cell? _ _ y2)).trans y2
  have v0 := fun x => ((hF x).cell (World.block_lt_of_cell? _ _ r3)).trans r3
  have v1 := fun x => ((hF x).cell (World.block_lt_of_cell? _ _ r4)).trans r4
  have v2 := fun x => ((hF x).cell (World.block_lt_of_cell? _ _ r5)).trans r5
  have hrn := hid (hs2.out.later bn)
  have hxn := hid (e6a.out)
  replace hF := hid hF
  clear y0 y1 y2 r3 r4 r5
  go_wp2_with fail
  refine wp_region_grow 5 w11.heap.size w11 (fun i u w' => if i = 2 then ∃ A2, u = t.val A2 t.es.length ∧ EdsAt w' w'.heap.size A2 t.es else u = .bool true) (by kernel_rfl) (by kernel_rfl) (Nat.le_refl _) (Below.refl _ _) ?_
  simp only [List.take_succ_cons, List.take_zero, List.drop_succ_cons, List.drop_zero]
  (repeat (refine grow_quiet (by rfl) (by rfl) (by rfl) ?_; intro K hK; go_big_quiet_op; go_big_quiet_on))
  refine grow_call (by rfl) (by rfl) (fun u v v' hb h => ?_) (fun wq hbq _ => ?_) fun u hu => ?_
  · obtain ⟨g, e, h⟩ := h
    exact ⟨g, e, h.later hb⟩
  · go_simp
    refine ⟨rfl, (toSystem_any t B d wq hn2 hm hd (hrn.out.later hbq)).mono ?_⟩
    rintro e w3 ⟨A3, rfl, hA3, -, hb3⟩
    exact ⟨_, rfl, hb3, A3, rfl, hA3⟩
  obtain ⟨wx, -, A3, rfl, -⟩ := hu
  simp only [Act.put, List.setIfInBounds_toArray, List.set_cons_zero, List.set_cons_succ]
  (repeat (refine grow_quiet (by rfl) (by rfl) (by rfl) ?_; intro K hK; go_big_quiet_op; go_big_quiet_on))
  refine grow_val (.bool true) (by rfl) (by rfl) rfl (fun wq hbq hfx => ?_) ?_
  · obtain ⟨_, e3, h3⟩ := hfx _ List.mem_cons_self (by kernel_rfl)
    cases e3
    have h3' := hid h3
    clear h3 hfx
    go_simp
    refine ⟨rfl, (eqSystem_any t t A6 A3 _ _ wq (Nat.le_refl _) (by omega) (Nat.le_refl _) (by omega) (hxn.out.later hbq) h3'.out).mono ?_⟩
    rintro e w4 ⟨rfl, hb4⟩
    exact ⟨by rw [decide_eq_true rfl], hb4⟩
  simp only [Act.put, List.setIfInBounds_toArray, List.set_cons_zero, List.set_cons_succ]
  (repeat (refine grow_quiet (by rfl) (by rfl) (by rfl) ?_; intro K hK; go_big_quiet_op; go_big_quiet_on))
  refine grow_nil ?_
  intro w12 hb12 hf
  clear hf u0 u1 u2 v0 v1 v2 bn hrn hxn hF
  have k12 : KeepB (fun b => (w3.heap.size ≤ b ∧ b < w4.heap.size) ∨ (w5.heap.size ≤ b ∧ b < w6.heap.size) ∨ (w7.heap.size ≤ b ∧ b < w8.heap.size)) w9 w12 := k11.trans (.of_below hb12)
  have c912 := c911.trans (hb12.mono c911.size)
  have c712 := c79.trans (c912.mono c79.size)
  have e5b := hid (e5'.out.later c712)
  have e6b := hid (e6'.out.later c712)
  have w5b := hid ((wr5.out.later hb5).later (c57.trans (c712.mono c57.size)))
  have w6b := hid ((wr6.out.later hb7).later c712)
  have zz4 := hb5.size
  have hb5X : Hid (∀ b, (0 < s.es.length ∧ ∃ o, A5 = some ⟨b, o, none⟩) → w3.heap.size ≤ b ∧ b < w4.heap.size) := hid fun b ⟨h0, o, e⟩ => by
    obtain ⟨b', o', e', hlt, -⟩ := e5.out h0
    rw [e] at e'
    injection e' with e'
    injection e' with e' _
    have := f5.out b o e
    omega
  have hb6X : Hid (∀ b, (0 < t.es.length ∧ ∃ o, A6 = some ⟨b, o, none⟩) → w5.heap.size ≤ b ∧ b < w6.heap.size) := hid fun b ⟨h0, o, e⟩ => by
    obtain ⟨b', o', e', hlt, -⟩ := e6.out h0
    rw [e] at e'
    injection e' with e'
    injection e' with e' _
    have := f6.out b o e
    omega
  obtain ⟨x0, x1, x2⟩ := hXc.out _ k12
  go_wp2_with fail
  refine (markSystem_any s A5 s.es.length 1 w12 (by omega) (by omega) (Nat.le_refl _) (by omega) e5b.out w5b.out).mono ?_
  rintro e w13 ⟨rfl, hm13⟩
  replace hm13 := hm13.mono hb5X.out
  have k13 : KeepB (fun b => (w3.heap.size ≤ b ∧ b < w4.heap.size) ∨ (w5.heap.size ≤ b ∧ b < w6.heap.size) ∨ (w7.heap.size ≤ b ∧ b < w8.heap.size)) w9 w13 := k12.trans (hm13.mono fun b h => .inl h)
  clear x0 x1 x2
  have zz6 := hb7.size
  have hn6 : ∀ g, A6 = some g → 0 < t.es.length → ¬ (w3.heap.size ≤ g.block ∧ g.block < w4.heap.size) := fun g e h0 h => by
    obtain ⟨b', o', e', hlt, -⟩ := e6.out h0
    rw [e] at e'
    injection e' with e'
    subst e'
    have := f6.out b' o' e
    simp at h
    omega
  have e6c : Hid (EdsAt w13 w13.heap.size A6 t.es) := hid fun h0 => by
    obtain ⟨b', o', e', hlt, hE⟩ := e6b.out h0
    have hne := hn6 _ e' h0
    have hh := hm13.block b' hlt (by simpa using hne)
    refine ⟨b', o', e', Nat.lt_of_lt_of_le hlt hm13.size, fun i hi => ?_⟩
    rw [heap_cell hh, heap_cell hh, heap_cell hh]
    exact hE i hi
  obtain ⟨M1, hM1⟩ : ∃ M, M = (1 : Int) + 3 * (s.es.length : Int) := ⟨_, rfl⟩
  have hM1b : 0 ≤ M1 ∧ M1 ≤ 10000000 := by omega
  rw [← hM1]
  obtain ⟨y0, y1, y2⟩ := hYc.out _ k13
  replace hM1 := hid hM1
  have w6c : Hid (WrB w13 A6 t.es.length) := hid fun b o e => by
    obtain ⟨h1, cur, h2, h3⟩ := w6b.out b o e
    refine ⟨h1, cur, ?_, h3⟩
    have hlt := (Array.getElem?_eq_some_iff.1 h2).1
    have hne : ¬ (w3.heap.size ≤ b ∧ b < w4.heap.size) := fun h => by
      have := f6.out b o e
      omega
    exact (hm13.block b hlt hne).trans h2
  go_wp2_with fail
  refine (markSystem_any t A6 t.es.length M1 w13 (by omega) (by omega) (Nat.le_refl _) (by omega) e6c.out w6c.out).mono ?_
  rintro e w14 ⟨rfl, hm14⟩
  replace hm14 := hm14.mono hb6X.out
  have k14 : KeepB (fun b => (w3.heap.size ≤ b ∧ b < w4.heap.size) ∨ (w5.heap.size ≤ b ∧ b < w6.heap.size) ∨ (w7.heap.size ≤ b ∧ b < w8.heap.size)) w9 w14 := k13.trans (hm14.mono fun b h => .inr (.inl h))
  clear y0 y1 y2
  obtain ⟨M2, hM2⟩ : ∃ M, M = M1 + 3 * (t.es.length : Int) := ⟨_, rfl⟩
  have hM2n : ¬ (M2 < 0) := by omega
  rw [← hM2]
  replace hM2 := hid hM2
  have kx : KeepB (fun b => (w3.heap.size ≤ b ∧ b < w4.heap.size) ∨ (w5.heap.size ≤ b ∧ b < w6.heap.size)) w9 w14 := (((KeepB.of_below c912).trans (hm13.mono fun b h => .inl h)).trans (hm14.mono fun b h => .inr h))
  have o14 := hid (own_keep o9.out kx fun g hg e => by have := (o8.out.lt g hg).1; omega)
  have e14 : Hid (EdsAt w14 w14.heap.size A8 X.es) := hid (by
    obtain ⟨A', c', e, -, -, h, -⟩ := OwnEds.read o14.out
    injection e with e _ _
    subst e
    exact h)
  clear kx
  obtain ⟨g0, g1, g2⟩ := hGc.out _ k14
  obtain ⟨z0', z1', z2'⟩ := hZ.out _ (hK3.out _ k14)
  go_wp2_with fail
  refine (eqSystem_any X X A8 Az c8 cz w14 l81 l82 lz1 lz2 e14.out (ez.out.later (hK3.out _ k14))).mono ?_
  rintro e w15 ⟨rfl, hb15⟩
  rw [decide_eq_true rfl]
  have k15 : KeepB (fun b => (w3.heap.size ≤ b ∧ b < w4.heap.size) ∨ (w5.heap.size ≤ b ∧ b < w6.heap.size) ∨ (w7.heap.size ≤ b ∧ b < w8.heap.size)) w9 w15 := k14.trans (.of_below hb15)
  clear g0 g1 g2 z0' z1' z2'
  have e15 := hid (e14.out.later hb15)
  have o15 := hid (own_keep o14.out (.of_below (K := fun _ => False) hb15) fun _ _ h => h)
  have wr15 := hid (OwnEds.wr' o15.out)
  obtain ⟨g0, g1, g2⟩ := hGc.out _ k15
  go_wp2_with fail
  refine (markSystemM_any X A8 c8 1 w15 (by omega) (by omega) l81 l82 e15.out wr15.out).mono ?_
  rintro e w16 ⟨rfl, hmk16, hm16⟩
  replace hm16 := hm16.mono (K' := fun b => w7.heap.size ≤ b ∧ b < w8.heap.size) fun b h => by
    obtain ⟨h0, o, e⟩ := h
    obtain ⟨g, cap, hv, hg1, hg2, -⟩ := own_shape o8.out h0
    injection hv with hv _ _
    rw [e] at hv
    injection hv with hv
    injection hv with hv _
    omega
  have k16 : KeepB (fun b => (w3.heap.size ≤ b ∧ b < w4.heap.size) ∨ (w5.heap.size ≤ b ∧ b < w6.heap.size) ∨ (w7.heap.size ≤ b ∧ b < w8.heap.size)) w9 w16 := k15.trans (hm16.mono fun b h => .inr (.inr h))
  replace hmk16 := hid hmk16
  obtain ⟨N, hN⟩ : ∃ N, N = (1 : Int) + 3 * (X.es.length : Int) := ⟨_, rfl⟩
  have hNn : ¬ (N < 0) := by omega
  have hNN : (N != N) = false := by simp
  rw [← hN]
  clear g0 g1 g2
  obtain ⟨g0, g1, g2⟩ := hGc.out _ k16
  have hh16 := hid (heldSystem_any X A8 X.es.length c8 1 w16 rfl (by omega) (by omega) l81 l82 hmk16.out)
  rw [← hN] at hh16
  go_wp2_with fail
  refine hh16.out.mono ?_
  rintro e w17 ⟨rfl, hb17⟩
  have k17 : KeepB (fun b => (w3.heap.size ≤ b ∧ b < w4.heap.size) ∨ (w5.heap.size ≤ b ∧ b < w6.heap.size) ∨ (w7.heap.size ≤ b ∧ b < w8.heap.size)) w9 w17 := k16.trans (.of_below hb17)
  have hmk17 := hid (EdsAt.later hmk16.out hb17)
  clear g0 g1 g2
  clear hh16
  have bW := hww3.trans ((hK3.out _ k17).mono hww3.size)
  obtain ⟨⟨r0, r1, r2⟩, r3, r4, r5⟩ := hs'.out w17 bW
  have g0 := GK.BI.cell r0
  have g1 := GK.BI.cell r1
  have g2 := GK.BI.cell r2
  have g3 := GK.BI.cell r3
  have g4 := GK.BI.cell r4
  have g5 := GK.BI.cell r5
  have hrW := hid (hr2.out.later bW)
  have hsW := hid (hs2.out.later bW)
  have hTW := hid (hT2.out.later bW)
  clear r0 r1 r2 r3 r4 r5
  go_wp2_with fail
  refine GK.wp_region 11 [] 200 (SG w17.heap.size X) (GK.BI w17) (fun i u w' => if i = 4 then ∃ A c, u = .tuple #[X.val A c, .bool ok] ∧ X.es.length ≤ c ∧ c ≤ 9223372036854775807 ∧ EdsAt w' w'.heap.size A X.es else if i = 1 then ∃ A, u = s.val A s.es.length ∧ EdsAt w' w'.heap.size A s.es else ∃ A, u = t.val A t.es.length ∧ EdsAt w' w'.heap.size A t.es) (by kernel_rfl) (by kernel_rfl) SG.way (by decide) (Below.refl _ _).drew ?_
  simp only [List.take_succ_cons, List.take_zero]
  (repeat (refine GK.grow_quiet w17 (by rfl) (by rfl) ?_; intro K hK; go_big_quiet_op; go_big_quiet_on))
  refine GK.grow_call (by rfl) (fun u v v' hb h => ?_) (fun m wq hm' hbq hf => ?_) fun u hu => ?_
  · obtain ⟨g, e, h⟩ := h
    exact ⟨g, e, EdsAt.sg h hb⟩
  · go_simp
    have hbq' : Below w17.heap.size w17 wq := hbq
    refine ⟨rfl, (toSystem_any s A c wq hn hl hc (hrW.out.later hbq')).mono ?_⟩
    rintro e w3 ⟨A3, rfl, hA3, -, hb3⟩
    exact ⟨_, rfl, ⟨SG.of_below hb3, (GK.BI.after hbq hb3).2⟩, A3, rfl, hA3⟩
  obtain ⟨m1, wx, -, A3, rfl, -⟩ := hu
  simp only [Act.put, List.setIfInBounds_toArray, List.set_cons_zero, List.set_cons_succ]
  (repeat (refine GK.grow_quiet w17 (by rfl) (by rfl) ?_; intro K hK; go_big_quiet_op; go_big_quiet_on))
  refine GK.grow_call (by rfl) (fun u v v' hb h => ?_) (fun m wq hm' hbq hf => ?_) fun u hu => ?_
  · obtain ⟨g, e, h⟩ := h
    exact ⟨g, e, EdsAt.sg h hb⟩
  · go_simp
    have hbq' : Below w17.heap.size w17 wq := hbq
    refine ⟨rfl, (toSystem_any t B d wq hn2 hm hd (hsW.out.later hbq')).mono ?_⟩
    rintro e w3 ⟨A3, rfl, hA3, -, hb3⟩
    exact ⟨_, rfl, ⟨SG.of_below hb3, (GK.BI.after hbq hb3).2⟩, A3, rfl, hA3⟩
  obtain ⟨m2, wx2, -, A4, rfl, -⟩ := hu
  simp only [Act.put, List.setIfInBounds_toArray, List.set_cons_zero, List.set_cons_succ]
  (repeat (refine GK.grow_quiet w17 (by rfl) (by rfl) ?_; intro K hK; go_big_quiet_op; go_big_quiet_on))
  refine GK.grow_call (by rfl) (fun u v v' hb h => ?_) (fun m wq hm' hbq hf => ?_) fun u hu => ?_
  · obtain ⟨g, c', e, h1, h2, h⟩ := h
    exact ⟨g, c', e, h1, h2, EdsAt.sg h hb⟩
  · obtain ⟨_, e4, h4⟩ := hf _ List.mem_cons_self (by kernel_rfl)
    cases e4
    obtain ⟨_, e3, h3⟩ := hf _ (List.mem_cons_of_mem _ List.mem_cons_self) (by kernel_rfl)
    cases e3
    have h3' := hid h3
    have h4' := hid h4
    have hbq' : Below w17.heap.size w17 wq := hbq
    clear h3 h4 hf
    have hcall := implComposeSystems_any s t A3 A4 s.es.length t.es.length wq (Nat.le_refl _) (by omega) (Nat.le_refl _) (by omega) (hTW.out.later hbq') h3'.out h4'.out
    rw [← hX.out, ← hok.out] at hcall
    go_simp
    refine ⟨rfl, hcall.mono ?_⟩
    rintro e w4 hpost
    replace hpost := SoOwn.read hpost
    obtain ⟨A5, c5, rfl, h5, h6, h7, -, hb4⟩ := hpost
    exact ⟨_, rfl, ⟨SG.of_below hb4, (GK.BI.after hbq hb4).2⟩, A5, c5, rfl, h5, h6, h7⟩
  obtain ⟨m3, wx3, -, A5, c5, rfl, h5, h6, -⟩ := hu
  unfold Sy.val
  simp only [Act.put, List.setIfInBounds_toArray, List.set_cons_zero, List.set_cons_succ]
  (repeat (refine GK.grow_quiet w17 (by rfl) (by rfl) ?_; intro K hK; go_big_quiet_op; go_big_quiet_on))
  refine GK.grow_fact (fun u w' => ∃ b, u = .pointer (some ⟨b, 0, none⟩) ∧ SysB w17.heap.size w' b) (by rfl) (fun u v v' hb h => ?_) (fun m wq hm' hbq hf => ?_) fun u hu => ?_
  · obtain ⟨b, e, h⟩ := h
    exact ⟨b, e, SG.sysB h hb⟩
  · go_simp
    have hbq' : Below w17.heap.size w17 wq := hbq
    exact ⟨⟨SG.of_below ((Below.refl _ _).alloc (Nat.le_refl _) _), GK.BI.alloc _ hbq⟩, _, rfl, hbq'.size, 0, 0, none, 0, 0, heap_alloc_new wq _⟩
  obtain ⟨m4, wx4, -, gh, rfl, -⟩ := hu
  simp only [Act.put, List.setIfInBounds_toArray, List.set_cons_zero, List.set_cons_succ]
  refine GK.grow_fact (fun u w' => LaidSy X w' gh) (by rfl) (fun u v v' hb h => hb.laid _ h) (fun m wq hm' hbq hf => ?_) fun u hu => ?_
  · obtain ⟨b', e8, h8⟩ := hf _ List.mem_cons_self (by kernel_rfl)
    cases e8
    obtain ⟨_, _, e4, -, -, h4⟩ := hf _ (List.mem_cons_of_mem _ List.mem_cons_self) (by kernel_rfl)
    cases e4
    have h4' := hid h4
    have h8' := hid h8
    have hst := SG.store h8 h5 h6 h4
    obtain ⟨hge, x9, y9, A9, n9, c9, hh9⟩ := h8
    have hb9 : Blk wq gh 28 #[.int .i64 x9, .int .i64 y9, .slice A9 n9 c9] := hh9
    have d0 := hb9.cell 0
    have d1 := hb9.cell 1
    have d2 := hb9.cell 2
    have f0 := hb9.frozen 0
    have f1 := hb9.frozen 1
    have f2 := hb9.frozen 2
    simp only [List.getElem?_toArray, List.getElem?_cons_zero, List.getElem?_cons_succ] at d0 d1 d2
    have hbq' : Below w17.heap.size w17 wq := hbq
    replace hst := hid hst
    clear hf h4 hh9 hb9
    go_simp
    exact ⟨⟨hst.out.1, ((hbq'.setCell hge _).setCell hge _).setCell hge _⟩, hst.out.2⟩
  clear hu
  simp only [Act.put, List.setIfInBounds_toArray, List.set_cons_zero, List.set_cons_succ]
  (repeat (refine GK.grow_quiet w17 (by rfl) (by rfl) ?_; intro K hK; go_big_quiet_op; go_big_quiet_on))
  refine GK.grow_nil ?_
  intro w18 hww18 hf
  have hlaid : LaidSy X w18 gh := hf _ List.mem_cons_self
  clear hf g0 g1 g2 g3 g4 g5
  simp only [List.filterMap_nil]
  replace hww18 : Below w17.heap.size w17 w18 := hww18
  have k18 : KeepB (fun b => (w3.heap.size ≤ b ∧ b < w4.heap.size) ∨ (w5.heap.size ≤ b ∧ b < w6.heap.size) ∨ (w7.heap.size ≤ b ∧ b < w8.heap.size)) w9 w18 := k17.trans (.of_below hww18)
  have hmk18 := hid (EdsAt.later hmk17.out hww18)
  obtain ⟨Ah, ch, hh1, lh1, lh2, eh⟩ := hlaid
  have hh1' : Blk w18 gh 28 #[.int .i64 X.al, .int .i64 X.st, .slice Ah X.es.length ch] := hh1
  have h0 := hh1'.cell 0
  have h1 := hh1'.cell 1
  have h2 := hh1'.cell 2
  simp only [List.getElem?_toArray, List.getElem?_cons_zero, List.getElem?_cons_succ] at h0 h1 h2
  replace eh := hid eh
  clear hh1 hh1' hrW hsW hTW bW
  obtain ⟨z0', z1', z2'⟩ := hZ.out _ (hK3.out _ k18)
  go_wp2_with fail
  refine (eqSystem_any X X Ah Az ch cz w18 lh1 lh2 lz1 lz2 eh.out (ez.out.later (hK3.out _ k18))).mono ?_
  rintro e w19 ⟨rfl, hb19⟩
  rw [decide_eq_true rfl]
  have k19 : KeepB (fun b => (w3.heap.size ≤ b ∧ b < w4.heap.size) ∨ (w5.heap.size ≤ b ∧ b < w6.heap.size) ∨ (w7.heap.size ≤ b ∧ b < w8.heap.size)) w9 w19 := k18.trans (.of_below hb19)
  have hmk19 := hid (EdsAt.later hmk18.out hb19)
  clear h0 h1 h2
  clear z0' z1' z2'
  obtain ⟨g0, g1, g2⟩ := hGc.out _ k19
  have hh19 := hid (heldSystem_any X A8 X.es.length c8 1 w19 rfl (by omega) (by omega) l81 l82 hmk19.out)
  rw [← hN] at hh19
  go_wp2_with fail
  refine hh19.out.mono ?_
  rintro e w20 ⟨rfl, hb20⟩
  have k20 : KeepB (fun b => (w3.heap.size ≤ b ∧ b < w4.heap.size) ∨ (w5.heap.size ≤ b ∧ b < w6.heap.size) ∨ (w7.heap.size ≤ b ∧ b < w8.heap.size)) w9 w20 := k19.trans (.of_below hb20)
  have hB20 := B3.trans ((hK3.out _ k20).mono B3.size)
  clear g0 g1 g2
  go_wp2_with fail
  go_ret
  exact ⟨rfl, hB20⟩

end Go.Proofs.YtdkjnemakkppfaaDoor

/- The two tables of math/bits that the cards list: what a walk reads of them, and a world that holds them. -/
namespace Go.Proofs.YtdkjnemakkppfaaDoor
open Go.ChangeShapes Go.WideShapes Go.ChangeAt Go.RowKit AG

theorem g64 : Tryd.prog.globalNamed "math/bits.deBruijn64tab" = some 1 := by kernel_rfl
theorem g64Type : (Tryd.prog.globals[1]?).map (·.type) = some 159 := by kernel_rfl
theorem g64Under : Tryd.prog.underlying 159 = some (.array 64 5) := by kernel_rfl
theorem u8Under : Tryd.prog.underlying 5 = some (.int .u8) := by kernel_rfl
theorem u8Cells : Tryd.prog.cellsOf 5 = 1 := by kernel_rfl
theorem g64Cells : Tryd.prog.cellsOf 159 = 64 := by kernel_rfl

theorem tab_of_laid {W : World} (h : laidMetH Tryd.prog [("math/bits.deBruijn32tab", Rows.laid_math_bits_deBruijn32tab), ("math/bits.deBruijn64tab", Rows.laid_math_bits_deBruijn64tab)] W) : Tab W := by
  have h1 : laidMet Tryd.prog [("math/bits.deBruijn32tab", Rows.laid_math_bits_deBruijn32tab), ("math/bits.deBruijn64tab", Rows.laid_math_bits_deBruijn64tab)] W := h
  have h2 : laidMet Tryd.prog (("math/bits.deBruijn64tab", Lib.tabData .u8 (Lib.deBruijn64tab.map Int.ofNat)) :: []) W := laidMet.tail h1
  have h3 := Lib.tabIs_of_head g64 g64Type g64Under u8Under u8Cells g64Cells h2
  intro j hj
  rw [h3.cell g64 j (by simpa using hj)]
  simp [List.getD, hj]

def layTab (zs : List Nat) : Obj → Obj
  | .cells _ t frozen => .cells (zs.map fun n => Value.int .u8 (Int.ofNat n)).toArray t frozen
  | o => o

/-- A world for the witness: the settled one, the two tables holding what their initialisers lay. -/
noncomputable def laidWorld (os : Os) : World :=
  { World.holding Tryd.prog os ⟨#[], #[], []⟩ with heap := ((World.holding Tryd.prog os ⟨#[], #[], []⟩).heap.modify 0 (layTab Lib.deBruijn32tab)).modify 1 (layTab Lib.deBruijn64tab) }


end Go.Proofs.YtdkjnemakkppfaaDoor

/- How a slice of edges, a system, a slice of systems read as data: opened to cells. -/
namespace AG
open Go Go.RowKit Go.ChangeShapes Go.WideShapes Go.Deep

theorem list_of_forall {α : Type} (P : Nat → α → Prop) : ∀ n, (∀ i, i < n → ∃ a, P i a) → ∃ l : List α, l.length = n ∧ ∀ i (hi : i < l.length), P i l[i] := by
  intro n
  induction n with
  | zero => intro _; exact ⟨[], rfl, fun i hi => by simp at hi⟩
  | succ n ih =>
    intro h
    obtain ⟨l, hl, hP⟩ := ih fun i hi => h i (by omega)
    obtain ⟨a, ha⟩ := h n (by omega)
    refine ⟨l ++ [a], by simp [hl], fun i hi => ?_⟩
    simp only [List.length_append, List.length_singleton] at hi
    by_cases e : i < l.length
    · rw [List.getElem_append_left e]; exact hP i e
    · obtain rfl : i = l.length := by omega
      rw [List.getElem_append_right (Nat.le_refl _)]
      simp only [Nat.sub_self, List.getElem_cons_zero]
      rw [hl]
      exact ha

section
variable {H : Type} {enc : TypeId × Value → H} {P : Program} {w : World} {base : Nat} {spare : Nat → Bool} {held : Bool}
/-- A slice of structs, each field of one cell: every element's fields. -/
theorem open_fields {t e : TypeId} {fs : Array Field} {fuel : Nat} {cs : List Value} {x : DataW H × List MemPlace} (ht : P.underlying t = some (.slice e)) (he : P.underlying e = some (.struct fs))
    (hone : oneCellFields P fs = true) (hC : P.cellsOf e = fs.size) (h : DataW.trod enc P w base spare held fuel t cs = some x) :
    cs = [.slice none 0 0] ∨
    ∃ (a : Addr) (len cap : Nat), cs = [.slice (some a) len cap] ∧ len ≤ cap ∧ cap ≤ maxLen ∧
      ∀ i, i < len → ∀ (j : Nat) (f : Field), fs[j]? = some f → ∃ (v : Value) (y : DataW H × List MemPlace) (n : Nat), w.cell? (a.add (i * fs.size + j)) = some v ∧ DataW.trod enc P w base spare held n f.type [v] = some y := by
  rcases open_slice ht h with h0 | ⟨a, len, cap, m, n, D, Pl, hcs, hb, hl, hm, hmm, hx, hi⟩
  · exact .inl h0.1
  · refine .inr ⟨a, len, cap, hcs, hl, hm, fun i hil => ?_⟩
    have hlm : len ≤ m := by rw [hmm]; split <;> omega
    obtain ⟨cs', hc, ht'⟩ := hi i (by omega)
    rw [hC] at hc
    obtain ⟨ys, n', hn', hy, hlen, hyl, hf⟩ := DataW.trod_struct he ht'
    obtain ⟨_, hcl, hat⟩ := World.cells?_some hc
    intro j f hj
    obtain ⟨ho, hk⟩ := hone_of hone j f hj
    have hjl : j < fs.size := (Array.getElem?_eq_some_iff.1 hj).1
    have hcell := hat j hjl
    have hv : cs'[j]? = some (cs'[j]'(by omega)) := List.getElem?_eq_getElem (by omega)
    have h1 := hf j f hj
    rw [ho, hk] at h1
    have hone' : (cs'.drop j).take 1 = [cs'[j]'(by omega)] := by
      rw [List.drop_eq_getElem_cons (by omega)]
      rfl
    rw [hone'] at h1
    have hys : ys[j]? = some (ys[j]'(by omega)) := List.getElem?_eq_getElem (by omega)
    refine ⟨_, _, n', ?_, h1.trans hys⟩
    rw [← Go.Deep.add_add, hcell, hv]

theorem addr_of {a : Addr} {v : Value} (h : w.cell? (a.add 0) = some v) : ∃ b o, a = ⟨b, o, none⟩ := by
  obtain ⟨b, o, sp⟩ := a
  have : (⟨b, o, sp⟩ : Addr).spot = none := World.cell?_spot (by simpa [Addr.add] using h)
  exact ⟨b, o, by simp_all⟩
theorem add_at (b o n : Nat) : (⟨b, o, none⟩ : Addr).add n = ⟨b, o + n, none⟩ := by
  unfold Addr.add
  split
  · subst_vars; rfl
  · rfl

/-- A slice of edges. -/
theorem open_edges {t e ti : TypeId} {f0 f1 f2 : Field} {fuel : Nat} {v : Value} {x : DataW H × List MemPlace} (ht : P.underlying t = some (.slice e)) (he : P.underlying e = some (.struct #[f0, f1, f2]))
    (hone : oneCellFields P #[f0, f1, f2] = true) (hC : P.cellsOf e = 3) (h0 : f0.type = ti) (h1 : f1.type = ti) (h2 : f2.type = ti) (hti : P.underlying ti = some (.int .i64))
    (h : DataW.trod enc P w base spare held fuel t [v] = some x) :
    ∃ A c es, v = .slice A (List.length es) c ∧ List.length es ≤ c ∧ c ≤ 9223372036854775807 ∧ EdsAt w w.heap.size A es := by
  rcases open_fields ht he hone hC h with h | ⟨a, n, c, hcs, hl, hm, hf⟩
  · exact ⟨none, 0, [], by simpa using h, by simp, by omega, fun h => by simp at h⟩
  · have hcs' : v = .slice (some a) n c := by simpa using hcs
    have hm' : c ≤ 9223372036854775807 := by unfold maxLen at hm; omega
    have hcell : ∀ i, i < n → ∃ e : Ed, w.cell? (a.add (i * 3 + 0)) = some (.int .i64 e.f) ∧ w.cell? (a.add (i * 3 + 1)) = some (.int .i64 e.l) ∧ w.cell? (a.add (i * 3 + 2)) = some (.int .i64 e.t) := fun i hi => by
      obtain ⟨v0, y0, n0, c0, t0⟩ := hf i hi 0 f0 rfl
      obtain ⟨v1, y1, n1, c1, t1⟩ := hf i hi 1 f1 rfl
      obtain ⟨v2, y2, n2, c2, t2⟩ := hf i hi 2 f2 rfl
      obtain ⟨m0, e0, _⟩ := DataW.trod_int (by rw [h0]; exact hti) t0
      obtain ⟨m1, e1, _⟩ := DataW.trod_int (by rw [h1]; exact hti) t1
      obtain ⟨m2, e2, _⟩ := DataW.trod_int (by rw [h2]; exact hti) t2
      simp only [List.cons.injEq, and_true] at e0 e1 e2
      subst e0 e1 e2
      exact ⟨⟨m0, m1, m2⟩, c0, c1, c2⟩
    obtain ⟨es, hes, hE⟩ := list_of_forall _ n hcell
    subst hes
    refine ⟨some a, c, es, hcs', hl, hm', fun hpos => ?_⟩
    obtain ⟨b, o, rfl⟩ := addr_of (w := w) (v := .int .i64 es[0].f) (by simpa using (hE 0 hpos).1)
    refine ⟨b, o, rfl, ?_, fun i hi => ?_⟩
    · have := (hE 0 hpos).1
      rw [add_at] at this
      exact World.block_lt_of_cell? _ _ this
    · obtain ⟨q0, q1, q2⟩ := hE i hi
      rw [add_at] at q0 q1 q2
      exact ⟨by simpa using q0, by rw [Nat.add_assoc]; exact q1, by rw [Nat.add_assoc]; exact q2⟩

end

section
variable {H : Type} {enc : TypeId × Value → H} {P : Program}
/-- An argument reads behind the call as it did. -/
theorem trod_later {t : TypeId} (hl : laidOutB P = true) (hr : P.readableRec t = true) (hrow : t < P.types.size) {W W' : World} {v : Value} {d : DataW H} {ps : List MemPlace} {sp : Nat → Bool}
    (h : DataW.Trod enc P W 0 (fun _ => true) true t v d ps) (hb : Below W.heap.size W W') (hlt : ∀ x ∈ ps, x.block < W.heap.size) (hsp : ∀ x ∈ ps, sp x.block = true) : DataW.Trod enc P W' 0 sp true t v d ps :=
  WideElems.Trod_stays hl hr hrow h (fun x hx => hb.same (hlt x hx)) hsp
/-- The row's last step where of the world behind the call 'Below' is known. -/
theorem post_of_below {f : Func} {s : ChangeSpec} {apart fresh handsOn again : Bool} {W W' : World} {args : Array Value} {v : Value} {ds gs : List (DataW H)} {before pa pv : List MemPlace}
    (hW : DataW.Whole enc P f.params.toList s.vars apart W args.toList ds gs before)
    (hres : ∀ (b : Nat) (sp : Nat → Bool) (hd : Bool), DataW.TrodAll enc P W' b sp hd f.resultTypes.toList (v.resultList f.resultTypes.size) (s.fn H (ds ++ gs)).results [])
    (hargs : ∀ sp : Nat → Bool, (∀ p ∈ before, sp p.block = true) → DataW.TrodAll enc P W' 0 sp true f.params.toList args.toList (s.fn H (ds ++ gs)).args pa)
    (hvars : ∀ sp : Nat → Bool, (∀ p ∈ before, sp p.block = true) → DataW.TrodVars enc P W' sp s.vars (s.fn H (ds ++ gs)).vars pv)
    (hps : before = pa ++ pv) (hb : Below W.heap.size W W')
    (hok : ∀ (j : Nat) (t : TypeId) (r : Value), f.resultTypes[j]? = some t → (v.resultList f.resultTypes.size)[j]? = some r → Value.okWide P W' .any 0 t r) :
    s.post enc P f apart fresh handsOn again W args v W' := by
  have hlt : ∀ p ∈ before, p.block < W.heap.size := fun p hp => hW.lt p hp
  have hold : ∀ p ∈ before, (fun b => decide (b < W.heap.size)) p.block = true := fun p hp => by simpa using hlt p hp
  refine ⟨ds, gs, before, [], pa, pv, hW, hres _ _ _, hargs _ hold, hvars _ hold, World.keptBut_mono (fun p hp => ⟨hp, ?_⟩) (hb.frame (· ∈ before)), fun _ => ?_⟩
  · rw [hps, List.mem_append] at hp
    exact Or.inr hp
  · obtain ⟨_, _, _, _, _, hz, hn⟩ := hW
    refine ⟨hok, _, _, ([] ++ pa) ++ pv, ⟨[] ++ pa, pv, trodAll_append (hargs _ (fun _ _ => rfl)) (hres _ _ _), hvars _ (fun _ _ => rfl), rfl, ?_, ?_⟩, ?_⟩
    · intro b off hp
      have hin : MemPlace.cell b off ∈ before := by rw [hps]; simpa using hp
      rw [hb.frozen (hlt _ hin)]
      exact hz b off hin
    · intro ha
      have := hn ha
      rw [hps] at this
      simpa using this
    · intro p hp _
      rw [hps]
      simpa using hp
end
end AG

/- Closed facts on the whole program, each a lemma of its own: the rows of all laws of the seat use them. -/
namespace Go.Proofs.YtdkjnemakkppfaaDoor
open Go.ChangeShapes Go.WideShapes Go.ChangeAt Go.RowKit AG
theorem and2 {a b : Bool} (h : a = true) (k : b = true) : (a && b) = true := by rw [h, k]; rfl
theorem whLaid : laidOutB Tryd.prog = true := by kernel_rfl
theorem whRowed : mapsRowed Tryd.prog = true := by kernel_rfl
theorem whHeard : Tryd.prog.stopsHeard = true := by kernel_rfl
theorem whMay : Tryd.prog.mayEnter = true := by kernel_rfl
theorem whLift : Tryd.prog.liftsFinal = false := by kernel_rfl
theorem whMake : (Tryd.prog.make == some Rows.fnComposeStatesRow.make) = true := by kernel_rfl
theorem whMain : Tryd.prog.mainIs = some (Rows.fnComposeStatesCard.stood.harness.1, Rows.fnComposeStatesCard.stood.harness.2.toList) := by kernel_rfl
theorem whLooks : false = Tryd.prog.looks [] := by kernel_rfl
end Go.Proofs.YtdkjnemakkppfaaDoor
