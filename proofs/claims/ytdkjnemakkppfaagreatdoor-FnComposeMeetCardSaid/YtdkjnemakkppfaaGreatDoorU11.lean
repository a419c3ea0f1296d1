/- Lemmas, part 11: several texts in one. -/
import Derived.Test.YtdkjnemakkppfaaGreatDoorU10
import Derived.Test.YtdkjnemakkppfaaGreatDoorCards
import Derived.Test.YtdkjnemakkppfaaGreatDoorTie
import Derived.Test.YtdkjnemakkppfaaGreatDoorU2
import Derived.WalkKit
import Derived.ProofKit
import Derived.OpenShut
import Derived.Deep.DeepHandedRow
import Derived.Lib.LaidTab
import Derived.Stop.LaidErr
import Derived.Test.YtdkjnemakkppfaaGreatDoorU4
import Derived.Test.YtdkjnemakkppfaaGreatDoorU1
import Derived.BigRegion
import Derived.Test.YtdkjnemakkppfaaGreatDoorU9
import Derived.Test.YtdkjnemakkppfaaGreatDoorU5
import Derived.Test.YtdkjnemakkppfaaGreatDoorU8
import Derived.Laws.IdiomStrings
import Derived.Laws.BytesString
import Derived.Maps.AppendAt
import Derived.Deep.Quiet
import Derived.Test.YtdkjnemakkppfaaGreatDoorU6
set_option linter.unusedSimpArgs false
set_option linter.unusedVariables false

/- The program's ComposeSystems. -/
namespace Go.Proofs.YtdkjnemakkppfaaGreatDoor
open Go.RowKit Go.BigFrame Go.Maps AG

set_option maxRecDepth 100000 in
set_option maxHeartbeats 16000000 in
theorem implComposeSystems_any (s t : Sy) (A B : Option Addr) (c d : Nat) (w : World) (hl : s.es.length ≤ c) (hc : c ≤ 9223372036854775807) (hm : t.es.length ≤ d) (hd : d ≤ 9223372036854775807) (hT : Tab w) (hr : EdsAt w w.heap.size A s.es) (hr2 : EdsAt w w.heap.size B t.es) :
    Calls Tryz.prog 12 #[s.val A c, t.val B d] w (SoOwn w (cmX s t) (cmOk s t)) := by
  obtain ⟨i0, hi, hz0', hz1', hz2'⟩ := info_parts infoEd
  obtain ⟨n0, hni, hn0, hn1, hn2⟩ := info_parts infoInt
  unfold Sy.val
  have hsB := ((Blk.new w 25 #[.int .i64 s.al, .int .i64 s.st, .slice A s.es.length c]).alloc (.cells #[.int .i64 t.al, .int .i64 t.st, .slice B t.es.length d] 25)).alloc (.cells #[.int .i64 0, .int .i64 0, .slice none 0 0] 25)
  have htB := (Blk.new (w.alloc (.cells #[.int .i64 s.al, .int .i64 s.st, .slice A s.es.length c] 25)) 25 #[.int .i64 t.al, .int .i64 t.st, .slice B t.es.length d]).alloc (.cells #[.int .i64 0, .int .i64 0, .slice none 0 0] 25)
  have hrB := Blk.new ((w.alloc (.cells #[.int .i64 s.al, .int .i64 s.st, .slice A s.es.length c] 25)).alloc (.cells #[.int .i64 t.al, .int .i64 t.st, .slice B t.es.length d] 25)) 25 #[.int .i64 0, .int .i64 0, .slice none 0 0]
  have hB0 : Below w.heap.size w (((w.alloc (.cells #[.int .i64 s.al, .int .i64 s.st, .slice A s.es.length c] 25)).alloc (.cells #[.int .i64 t.al, .int .i64 t.st, .slice B t.es.length d] 25)).alloc (.cells #[.int .i64 0, .int .i64 0, .slice none 0 0] 25)) := (((Below.refl _ _).alloc (Nat.le_refl _) _).alloc (by simp) _).alloc (by simp; omega) _
  simp only [World.size_alloc] at htB hrB
  generalize hw0 : ((w.alloc (.cells #[.int .i64 s.al, .int .i64 s.st, .slice A s.es.length c] 25)).alloc (.cells #[.int .i64 t.al, .int .i64 t.st, .slice B t.es.length d] 25)).alloc (.cells #[.int .i64 0, .int .i64 0, .slice none 0 0] 25) = w0 at hsB htB hrB hB0
  have hs0 := hid (hr.later hB0)
  have hT0 := hid (hT.later hB0)
  replace hT := hid hT
  have ht0 := hid (hr2.later hB0)
  have p0 := hsB.cell 0
  have p1 := hsB.cell 1
  have p2 := hsB.cell 2
  simp only [List.getElem?_toArray, List.getElem?_cons_zero, List.getElem?_cons_succ] at p0 p1 p2
  replace hsB := hid hsB
  replace htB := hid htB
  replace hrB := hid hrB
  replace hr := hid hr
  replace hr2 := hid hr2
  have hmm := @run_makeMap Tryz.prog
  go_enter Tryz.func12, Tryz.ntmps12
  go_wp2_with fail
  refine (implSystemValid_any s A c w0 hl hc hs0.out).mono ?_
  rintro e w1 ⟨rfl, hb1⟩
  have hB1 := hB0.trans (hb1.mono hB0.size)
  have hs1 := hid (hs0.out.later hb1)
  have ht1 := hid (ht0.out.later hb1)
  replace hsB := hid (hsB.out.below hb1 hsB.out.lt)
  replace htB := hid (htB.out.below hb1 htB.out.lt)
  replace hrB := hid (hrB.out.below hb1 hrB.out.lt)
  have hzero : cmOk s t = false → ∀ wx, Below w.heap.size w wx → SoOwn w (cmX s t) (cmOk s t) (.returned (.tuple #[.agg #[.int .i64 0, .int .i64 0, .slice none 0 0], .bool false])) (((wx.setCell ⟨w.heap.size + 1 + 1, 0, none⟩ (.int .i64 0)).setCell ⟨w.heap.size + 1 + 1, 1, none⟩ (.int .i64 0)).setCell ⟨w.heap.size + 1 + 1, 2, none⟩ (.slice none 0 0)) := fun h wx hb => by
    rw [cmX_bad h, h]
    exact ⟨none, 0, rfl, World.ownsRow_nil _ _ _ _, ((hb.setCell (by simp; omega) _).setCell (by simp; omega) _).setCell (by simp; omega) _⟩
  have d0 := hrB.out.cell 0
  have d1 := hrB.out.cell 1
  have d2 := hrB.out.cell 2
  have f0 := hrB.out.frozen 0
  have f1 := hrB.out.frozen 1
  have f2 := hrB.out.frozen 2
  clear p0 p1 p2 hw0
  have q0 := htB.out.cell 0
  have q1 := htB.out.cell 1
  have q2 := htB.out.cell 2
  simp only [List.getElem?_toArray, List.getElem?_cons_zero, List.getElem?_cons_succ] at d0 d1 d2 q0 q1 q2
  replace hzero := hid hzero
  cases hok : sysOk s
  · have hno := hid (hzero.out (by unfold cmOk; rw [hok]; rfl) w1 hB1)
    replace hok := hid hok
    go_wp2
    refine bodyPost_ret (v := .tuple #[.agg #[.int .i64 0, .int .i64 0, .slice none 0 0], .bool false]) (by simp [results, Tryz.results12, go_sem, d0, d1, d2]) rfl ?_
    exact hno.out
  have hok' := hid hok
  clear hok
  go_wp2_with fail
  refine (implSystemValid_any t B d w1 hm hd ht1.out).mono ?_
  rintro e w2 ⟨rfl, hb2⟩
  have hB2 := hB1.trans (hb2.mono hB1.size)
  have hs2 := hid (hs1.out.later hb2)
  have ht2 := hid (ht1.out.later hb2)
  replace hsB := hid (hsB.out.below hb2 hsB.out.lt)
  replace htB := hid (htB.out.below hb2 htB.out.lt)
  replace hrB := hid (hrB.out.below hb2 hrB.out.lt)
  clear d0 d1 d2 f0 f1 f2 q0 q1 q2
  cases hok2 : sysOk t
  · have hno := hid (hzero.out (by unfold cmOk; rw [hok2, Bool.and_eq_false_iff]; right; rfl) w2 hB2)
    have d0 := hrB.out.cell 0
    have d1 := hrB.out.cell 1
    have d2 := hrB.out.cell 2
    have f0 := hrB.out.frozen 0
    have f1 := hrB.out.frozen 1
    have f2 := hrB.out.frozen 2
    simp only [List.getElem?_toArray, List.getElem?_cons_zero, List.getElem?_cons_succ] at d0 d1 d2
    replace hok2 := hid hok2
    go_wp2
    refine bodyPost_ret (v := .tuple #[.agg #[.int .i64 0, .int .i64 0, .slice none 0 0], .bool false]) (by simp [results, Tryz.results12, go_sem, d0, d1, d2]) rfl ?_
    exact hno.out
  have hall := all_two hok'.out hok2
  have hok2' := hid hok2
  have hsa := (sysOk_alpha hok'.out)
  have hta := (sysOk_alpha hok2)
  have hal : Hid (allAl [s, t] = orB s.al t.al) := hid (allAl_two hsa.1)
  obtain ⟨al, hale⟩ : ∃ al, Hid (al = allAl [s, t]) := ⟨_, hid rfl⟩
  have eor : bits .or .i64 s.al t.al = al := by rw [bits_or (by omega) (by omega), hale.out, hal.out]
  have p0 := hsB.out.cell 0
  have q0 := htB.out.cell 0
  simp only [List.getElem?_toArray, List.getElem?_cons_zero, List.getElem?_cons_succ] at p0 q0
  replace hall := hid hall
  obtain ⟨gs, hgs⟩ : ∃ gs, w2.heap.size = gs := ⟨_, rfl⟩
  clear hok2
  go_upto_region 4 with fail
  obtain ⟨w3, hw3⟩ : ∃ w3, w2.alloc (.cells #[.int .i64 al, .int .i64 0, .slice none 0 0] 25) = w3 := ⟨_, rfl⟩
  have hb3 : Below w2.heap.size w2 w3 := by rw [← hw3]; exact (Below.refl _ _).alloc (Nat.le_refl _) _
  have hblk3 : Blk w3 gs 25 #[.int .i64 al, .int .i64 0, .slice none 0 0] := by rw [← hw3, ← hgs]; exact Blk.new _ _ _
  rw [hw3]
  have hz23 : w3.heap.size = gs + 1 := by rw [← hw3, ← hgs]; simp
  replace hsB := hid (hsB.out.below hb3 hsB.out.lt)
  replace htB := hid (htB.out.below hb3 htB.out.lt)
  have hB3 := hB2.trans (hb3.mono hB2.size)
  have hs3 := hid (hs2.out.later hb3)
  have ht3 := hid (ht2.out.later hb3)
  have hT3 := hid (hT0.out.later ((hb1.trans ((hb2.trans (hb3.mono hb2.size)).mono hb1.size))))
  clear p0 q0
  have p0 := hsB.out.cell 0
  have p1 := hsB.out.cell 1
  have p2 := hsB.out.cell 2
  have q0 := htB.out.cell 0
  have q1 := htB.out.cell 1
  have q2 := htB.out.cell 2
  simp only [List.getElem?_toArray, List.getElem?_cons_zero, List.getElem?_cons_succ] at p0 p1 p2 q0 q1 q2
  obtain ⟨w4, hw4⟩ : ∃ w4, w3.alloc (.cells #[.int .i64 s.al, .int .i64 s.st, .slice A s.es.length c, .int .i64 t.al, .int .i64 t.st, .slice B t.es.length d] 25) = w4 := ⟨_, rfl⟩
  have hb4 : Below w3.heap.size w3 w4 := by rw [← hw4]; exact (Below.refl _ _).alloc (Nat.le_refl _) _
  have hblk4 : Blk w4 w3.heap.size 25 #[.int .i64 s.al, .int .i64 s.st, .slice A s.es.length c, .int .i64 t.al, .int .i64 t.st, .slice B t.es.length d] := by rw [← hw4]; exact Blk.new _ _ _
  obtain ⟨ss, hss⟩ : ∃ ss, Hid (ss = [s, t]) := ⟨_, hid rfl⟩
  have hlen : Hid (ss.length = 2) := hid (by rw [hss.out]; rfl)
  have hSys : Hid (SysAt w4 w4.heap.size (some ⟨w3.heap.size, 0, none⟩) ss) := hid (by rw [hss.out]; exact two_at hblk4 hl hc hm hd (hs3.out.later hb4) (ht3.out.later hb4))
  rw [← hss.out] at hall hale
  have hz5 := newParts_any ss (some ⟨w3.heap.size, 0, none⟩) 2 w4 hall.out (by rw [hlen.out]; decide) (by rw [hlen.out]; exact Nat.le_refl _) (by omega) hSys.out
  unfold partsV at hz5
  rw [hlen.out] at hz5
  replace hz5 := hid hz5
  have hB4 := hB3.trans (hb4.mono hB3.size)
  have hT4 := hid (hT3.out.later hb4)
  have hblkS := hid hblk4
  clear hblk4 hw3 hb1 hb2 hB1 hB2 hs0 hs1 hs2 hs3 ht0 ht1 ht2 ht3 hT0 eor
  replace hgs := hid hgs
  replace hz23 := hid hz23
  replace hblk3 := hid hblk3
  go_wp2_with fail
  try rw [hw4]
  refine hz5.out.mono ?_
  rintro e w5 ⟨MV, cm, rfl, hcm, hcm', hMV, hb5⟩
  have hB5 := hB4.trans (hb5.mono hB4.size)
  have hMV5 := hid hMV
  have hSys5 := hid (hSys.out.later hb5)
  have hT5 := hid (hT4.out.later hb5)
  have hb35 := hb4.trans (hb5.mono hb4.size)
  obtain ⟨bS, hbS⟩ : ∃ bS, w3.heap.size = bS := ⟨_, rfl⟩
  rw [hbS] at hSys5 hblkS ⊢
  replace hblkS := hid (hblkS.out.below hb5 hblkS.out.lt)
  clear p0 p1 p2 q0 q1 q2 hw4 hz5 hMV hSys
  go_upto_region 5 with fail
  obtain ⟨bP, hbP⟩ : ∃ bP, w5.heap.size = bP := ⟨_, rfl⟩
  obtain ⟨w6, hw6⟩ : ∃ w6, w5.alloc (.cells #[.slice (some ⟨bS, 0, none⟩) 2 2, .slice MV 2 cm] 61) = w6 := ⟨_, rfl⟩
  have hb6 : Below w5.heap.size w5 w6 := by rw [← hw6]; exact (Below.refl _ _).alloc (Nat.le_refl _) _
  have hblk6 : Blk w6 bP 61 #[.slice (some ⟨bS, 0, none⟩) 2 2, .slice MV 2 cm] := by rw [← hw6, ← hbP]; exact Blk.new _ _ _
  have hPA : Hid (PartsAt w6 bP ss (some ⟨bS, 0, none⟩) MV 2 cm) := hid ⟨hT5.out.later hb6, hall.out, by rw [hlen.out]; decide, by rw [hlen.out]; exact Nat.le_refl _, by omega, by rw [hlen.out]; exact hcm, hcm', hSys5.out.later hb6, hMV5.out.later hb6, by rw [hlen.out]; exact hblk6.cell 0, by rw [hlen.out]; exact hblk6.cell 1⟩
  rw [hw6, hbP]
  have hB6 := hB5.trans (hb6.mono hB5.size)
  have hb36 := hb35.trans (hb6.mono hb35.size)
  have hgB6 := hblk3.out.below hb36 hblk3.out.lt
  have c0 := hgB6.cell 0
  simp only [List.getElem?_toArray, List.getElem?_cons_zero, List.getElem?_cons_succ] at c0
  replace hgB6 := hid hgB6
  replace hbP := hid hbP
  replace hbS := hid hbS
  clear hblk6 hw6 hSys5 hMV5 hT5 hT4
  go_wp2_with fail
  refine (lettersOf_any al w6).mono ?_
  rintro e w7 ⟨vL, rfl, hoL, hb7⟩
  obtain ⟨L, hL⟩ : ∃ L, Hid (L = letters al) := ⟨_, hid rfl⟩
  rw [← hL.out] at hoL
  obtain ⟨AL, cL, rfl, hcL, hcL', hLN⟩ := OwnNats.read hoL
  have hL6 : L.length ≤ 6 := by rw [hL.out]; exact letters_len6 al
  have hlL : Hid (∀ l ∈ L, l < 6) := hid fun l hl => by rw [hL.out] at hl; exact (letters_lt hl).1
  have hLe : Hid (L = AG.letters (allAl ss)) := hid (by rw [hL.out, hale.out])
  have hB7 := hB6.trans (hb7.mono hB6.size)
  have hPA7 := hid (hPA.out.later hb7)
  replace hblkS := hid (hblkS.out.below (hb6.trans (hb7.mono hb6.size)) hblkS.out.lt)
  have hoL7 := hid hoL
  have hb67 := hid hb7.size
  have hLN7 := hid hLN
  have hgB7 := hid (hgB6.out.below hb7 hgB6.out.lt)
  clear c0 hLN hoL
  go_upto_region 7 with fail
  have hmade := World.ownsMap_made (H := Unit) (w7.alloc (.cells #[.int .i64 0] 3)) Tryz.prog 3 (plainElem Tryz.prog 3)
  go_wp2_with (refine wpList_insert_own _ rfl _ _ _ 65 rfl 3 3 mapLaw2 Tryz.underlying65 (plainElem Tryz.prog 3) (w7.heap.size + 1) 0 _ rfl (by simpa using hmade) (by unfold maxLen; omega) _ _ (.int .i64 0) rfl rfl (keyOf_int_mk Tryz.underlying3 (wf64 (by omega) (by omega))) (.lit (.int .i64 0)) [] (plainElem_int Tryz.underlying3 (by decide)) ?_)
  intro w8 hown8 hgrow8
  obtain ⟨Bm, hBm⟩ : ∃ B, B = w7.heap.size + 1 := ⟨_, rfl⟩
  rw [← hBm] at hown8 hgrow8
  have hM8 : Hid (MaF w7 w8 Bm (.slice (some ⟨w7.heap.size, 0, none⟩) 1 1) [0] 1 ((DataW.map []).put (Lit.int .i64 0) (.lit (.int .i64 0))) (memF [0]) []) := hid (by
    have hbl : Below w7.heap.size w7 ((w7.alloc (.cells #[.int .i64 0] 3)).alloc (.map #[] 0)) := ((Below.refl _ _).alloc (Nat.le_refl _) _).alloc (by simp) _
    have hk : KeepB (fun b => b = Bm) ((w7.alloc (.cells #[.int .i64 0] 3)).alloc (.map #[] 0)) w8 := (KeepB.refl _ _).grown hgrow8 fun k hk _ => by injection hk with hk; exact hk.symm
    have ho1 : ((w7.alloc (.cells #[.int .i64 0] 3)).alloc (.map #[] 0)).ownsRow w7.heap.size 3 1 (.slice (some ⟨w7.heap.size, 0, none⟩) 1 1) 1 (natVals [0]) := by
      refine World.ownsRow.alloc ?_ _
      exact ⟨rfl, .inr ⟨w7.heap.size, 1, #[.int .i64 0], rfl, Nat.le_refl _, heap_alloc_self _ _, Nat.le_refl _, by unfold maxLen; omega, rfl, rfl⟩⟩
    have ho3 := own_keep ho1 hk fun g hg e => by injection hg with hg; simp at hg; omega
    refine ⟨hk.below hbl (by simp; omega) fun b e => by omega, FamG.start ho3, hown8, (MapF.empty.put 0 0).congr fun x => ?_, by omega⟩
    have := memF_snoc [] 0 x
    rw [List.nil_append] at this
    rw [← this]
    rfl)
  clear hown8 hgrow8 hmade
  subst hBm
  go_wp2_with fail
  have hB37 := hid hb36
  go_loopw [9, 11] (fun lv iv wr => ∃ (i : Nat) (ps : List Nat) (A9 : Option Addr) (c9 : Nat) (D : DataW Unit), lv = .slice A9 ps.length c9 ∧ iv = .int .i64 (i : Nat) ∧ i ≤ ps.length ∧ ps.length ≤ 16 ∧ RnB ss ps i ∧ MaF w7 wr (w7.heap.size + 1) (.slice A9 ps.length c9) ps ps.length D (memF ps) []) (fun _ iv _ => 16 - (intOf iv).toNat)
  case atStart => exact ⟨0, [0], _, _, _, rfl, rfl, Nat.zero_le _, by decide, RnB.start ss, hM8.out⟩
  case round =>
    clear hM8
    obtain ⟨i, ps, A9, c9, D, rfl, rfl, hi1, hp16, hB, hM⟩ := hrel
    obtain ⟨A10, c10, e7, hc9, hc9', hps⟩ := OwnNats.read hM.own
    cases e7
    by_cases hil : i < ps.length
    · obtain ⟨b6, o6, hAe, hb6', hE6⟩ := hps (by omega)
      obtain ⟨n, hn⟩ : ∃ n, Hid (n = ps[i]) := ⟨_, hid rfl⟩
      have hnR : Hid (Rn ss n) := hid (by rw [hn.out]; exact hB.sound _ (List.getElem_mem hil))
      have hn4 : n < 4096 := by
        have h1 := hnR.out.lt hall.out
        have h2 := (prodP_4096 hall.out (by rw [hlen.out]; decide)).2
        omega
      have hR0 := hid (RnR.start hB (n := n) (by rw [List.getElem?_eq_getElem hil, hn.out]))
      have hM' := hid hM
      replace hB := hid hB
      replace hps := hid hps
      replace hE6 := hid hE6
      replace hAe := hid hAe
      clear hM
      go_wp2_with fail
      obtain ⟨wo, rfl⟩ : ∃ wo : World, wo = wr := ⟨_, rfl⟩
      go_loopw [9, 59] (fun lv kv wr => ∃ (k : Nat) (ps2 : List Nat) (A9 : Option Addr) (c9 : Nat) (D : DataW Unit), lv = .slice A9 ps2.length c9 ∧ kv = .int .i64 (k : Nat) ∧ k ≤ L.length ∧ ps2.length ≤ 16 ∧ RnR ss ps2 i n k 0 ∧ MaF w7 wr (w7.heap.size + 1) (.slice A9 ps2.length c9) ps2 ps2.length D (memF ps2) []) (fun _ kv _ => L.length - (intOf kv).toNat)
      case atStart => exact ⟨0, ps, _, _, D, rfl, rfl, Nat.zero_le _, hp16, hR0.out, hM'.out⟩
      case round =>
        clear hM' hR0 hn hAe hE6 hps hi1 hil hp16
        obtain ⟨k, ps2, A9, c9, D, rfl, rfl, hk1, hp16, hR, hM⟩ := hrel
        have hb7r := hM.below
        by_cases hkl : k < L.length
        · obtain ⟨bL, oL, hLE, hbL, hEL⟩ := (hLN7.out.later hb7r) (by omega)
          subst hLE
          have l0 := hEL k hkl
          obtain ⟨l, hl⟩ : ∃ l, Hid (l = L[k]) := ⟨_, hid rfl⟩
          rw [← hl.out] at l0
          have hl6 : l < 6 := by rw [hl.out]; exact hlL.out _ (List.getElem_mem _)
          obtain ⟨A10, c10, e7, hc9, hc9', hps⟩ := OwnNats.read hM.own
          cases e7
          obtain ⟨b6, o6, hAe, hb6, hE6⟩ := hps (by have := hR.lt; omega)
          subst hAe
          have hil := hR.lt
          have n0 := hE6 i hil
          have hni' : ps2[i] = n := by
            have h9 := hR.at_
            rw [List.getElem?_eq_getElem hil] at h9
            exact Option.some.inj h9
          rw [hni'] at n0
          obtain ⟨M, hMd⟩ : ∃ M, Hid (M = nxParts ss n l) := ⟨_, hid rfl⟩
          have hkk : k < (AG.letters (allAl ss)).length := by rw [← hLe.out]; exact hkl
          have hMe : Hid (M = nxParts ss n ((AG.letters (allAl ss))[k]'hkk)) := hid (by rw [hMd.out, hl.out]; simp only [hLe.out])
          have hMlt : Hid (∀ m ∈ M, m < 4096) := hid fun m hm => by
            rw [hMd.out] at hm
            have h1 := nxParts_lt hall.out n l m hm
            have h2 := (prodP_4096 hall.out (by rw [hlen.out]; decide)).2
            omega
          have hMl : M.length ≤ 4096 := by rw [hMd.out]; exact nxParts_le hall.out (by rw [hlen.out]; decide) n l
          have hold : Hid (∀ (ps : List Nat) (j : Nat) (hj : j < M.length), RnR ss ps i n k j → M[j] ∈ ps → RnR ss ps i n k (j + 1)) := hid (by have := hMe.out; subst this; exact fun ps j hj h hm => h.old hkk hj hm)
          have hnew : Hid (∀ (ps : List Nat) (j : Nat) (hj : j < M.length), RnR ss ps i n k j → M[j] ∉ ps → RnR ss (ps ++ [M[j]]) i n k (j + 1)) := hid (by have := hMe.out; subst this; exact fun ps j hj h hm => h.new hkk hj hm)
          have hend : Hid (∀ (ps : List Nat), RnR ss ps i n k M.length → RnR ss ps i n (k + 1) 0) := hid (by have := hMe.out; subst this; exact fun ps h => h.letter hkk rfl)
          have hzr2 := hb7r.size
          have hcl : Hid (∀ wq, Below wr.heap.size wr wq → Calls Tryz.prog 41 #[.agg #[.slice (some ⟨bS, 0, none⟩) 2 2, .slice MV 2 cm], .int .i64 (n : Nat), .int .i64 (l : Nat), .slice none 0 0] wq fun e w' => ∃ v', e = .returned v' ∧ OwnNats w' wq.heap.size v' M ∧ Below wq.heap.size wq w') := hid (fun wq hb => by
            have h := nextTwo_any ss (some ⟨bS, 0, none⟩) MV cm n l bP wq (hPA7.out.later (hb7r.trans (hb.mono hzr2))) hlen.out hl6 hn4
            rw [← hMd.out] at h
            exact h)
          have hP7 := hPA7.out.later hb7r
          have c0 := hP7.c0
          have c1 := hP7.c1
          rw [hlen.out] at c0 c1
          have hbPl : bP < wr.heap.size := World.block_lt_of_cell? _ _ c0
          have y0 : ∀ x', (Fam wr.heap.size wr x').cell? ⟨bP, 0, none⟩ = some (.slice (some ⟨bS, 0, none⟩) 2 2) := fun x' => by rw [(Fam.below wr.heap.size wr x').cell (by simpa using hbPl)]; exact c0
          have y1 : ∀ x', (Fam wr.heap.size wr x').cell? ⟨bP, 1, none⟩ = some (.slice MV 2 cm) := fun x' => by rw [(Fam.below wr.heap.size wr x').cell (by simpa using hbPl)]; exact c1
          have y2 : ∀ x', (Fam wr.heap.size wr x').cell? ⟨b6, o6 + i, none⟩ = some (.int .i64 (n : Nat)) := fun x' => by rw [(Fam.below wr.heap.size wr x').cell (by simpa using hb6)]; exact n0
          have k5 : (0 : Int) ≤ (k : Int) ∧ (k : Int) < (L.length : Int) := by omega
          have k6 : (0 : Int) ≤ (i : Int) ∧ (i : Int) < (ps2.length : Int) := by omega
          have hM' := hid hM
          have hR' := hid hR
          replace hP7 := hid hP7
          replace hEL := hid hEL
          replace hE6 := hid hE6
          replace hps := hid hps
          clear hM hR c0 c1 n0 hni'
          go_upto_region 14 with fail
          refine wp_region_grow 9 wr.heap.size wr (fun _ u w' => OwnNats w' wr.heap.size u M) (by kernel_rfl) (by kernel_rfl) (Nat.le_refl _) (Below.refl _ _) ?_
          simp only [List.take_succ_cons, List.take_zero, List.drop_succ_cons, List.drop_zero]
          (repeat (refine grow_quiet (by rfl) (by rfl) (by rfl) ?_; intro K hK; go_big_quiet_op; go_big_quiet_on))
          refine grow_call (by rfl) (by rfl) (fun u v v' hb h => own_keep h (.of_below (K := fun _ => False) hb) fun _ _ h => h) (fun wq hbq _ => ?_) fun u hu => ?_
          · go_simp
            refine ⟨rfl, (hcl.out wq hbq).mono ?_⟩
            rintro e w5 ⟨v, rfl, ho, hb5⟩
            exact ⟨v, rfl, hb5, own_base ho hbq.size⟩
          obtain ⟨wX, -, hoX⟩ := hu
          obtain ⟨AM, cM, rfl, hcM, hcM', -⟩ := OwnNats.read hoX
          clear hoX
          simp only [Act.put, List.setIfInBounds_toArray, List.set_cons_zero, List.set_cons_succ]
          (repeat (refine grow_quiet (by rfl) (by rfl) (by rfl) ?_; intro K hK; go_big_quiet_op; go_big_quiet_on))
          refine grow_nil ?_
          intro w9 hb9 hf
          have hoM : OwnNats w9 wr.heap.size (.slice AM M.length cM) M := hf _ List.mem_cons_self
          have hM9 := hid (hM'.out.add hb9 hoM)
          clear hf hoM y0 y1 y2 hcl hM' k5 l0
          go_wp2_with fail
          obtain ⟨wo2, rfl⟩ : ∃ wo : World, wo = wr := ⟨_, rfl⟩
          go_loopw [9, 71] (fun lv jv wr => ∃ (j : Nat) (ps3 : List Nat) (A9 : Option Addr) (c9 : Nat) (D : DataW Unit), lv = .slice A9 ps3.length c9 ∧ jv = .int .i64 (j : Nat) ∧ j ≤ M.length ∧ ps3.length ≤ 16 ∧ RnR ss ps3 i n k j ∧ MaF w7 wr (w7.heap.size + 1) (.slice A9 ps3.length c9) ps3 ps3.length D (memF ps3) [(.slice AM M.length cM, M)]) (fun _ jv _ => M.length - (intOf jv).toNat)
          case atStart => exact ⟨0, ps2, _, _, D, rfl, rfl, Nat.zero_le _, hp16, hR'.out, hM9.out⟩
          case round =>
            clear hM9 hR' hps hE6 hil k6 hp16
            obtain ⟨j, ps3, A8, c8, D3, rfl, rfl, hj1, hq16, hR, hM⟩ := hrel
            by_cases hjl : j < M.length
            · obtain ⟨AM2, cM2, e7, -, -, hMN⟩ := OwnNats.read (hM.get List.mem_cons_self)
              cases e7
              obtain ⟨bM, oM, hME, hbM, hEM⟩ := hMN (by omega)
              subst hME
              have m0 := hEM j hjl
              obtain ⟨m, hm9⟩ : ∃ m, Hid (m = M[j]) := ⟨_, hid rfl⟩
              rw [← hm9.out] at m0
              have hm4 : m < 4096 := by rw [hm9.out]; exact hMlt.out _ (List.getElem_mem _)
              have k7 : (0 : Int) ≤ (j : Int) ∧ (j : Int) < (M.length : Int) := by omega
              have hkey : keyOf Tryz.prog 3 (.int .i64 (m : Int)) = some (.int .i64 (m : Int)) := keyOf_int_mk Tryz.underlying3 (wf64 (by omega) (by omega))
              have hmap4 := hM.map_
              replace hEM := hid hEM
              replace hMN := hid hMN
              by_cases hmp : m ∈ ps3
              · have hhas : Maps.has D3 (.int .i64 (m : Int)) = true := by rw [hM.ix.has m]; unfold memF; rw [if_pos hmp]; rfl
                have hR2 := hid (hold.out ps3 j hjl hR (by rw [← hm9.out]; exact hmp))
                have hM' := hid hM
                replace hmp := hid hmp
                clear hR hM
                go_wp2_with (at_lookup; refine wpList_lookup_own_ok_int _ rfl _ _ 65 rfl 3 3 .i64 mapLaw2 Tryz.underlying65 Tryz.underlying3 (zeroInt _) (w7.heap.size + 1) ps3.length D3 rfl hmap4 _ _ rfl hkey ?_; intro c' hat' hwc'; rw [hhas])
                go_roundw
                case rel => exact ⟨j + 1, ps3, _, _, D3, rfl, by go_num, hjl, hq16, hR2.out, hM'.out⟩
                case measure => simp [intOf]; omega
              · have hhas : Maps.has D3 (.int .i64 (m : Int)) = false := by rw [hM.ix.has m]; unfold memF; rw [if_neg hmp]; rfl
                have hRn := hnew.out ps3 j hjl hR (by rw [← hm9.out]; exact hmp)
                rw [← hm9.out] at hRn
                by_cases hfl : ps3.length = 16
                · have hbad : cmOk s t = false := many_bad hok'.out hok2'.out (by have h9 := hRn.base; rw [hss.out] at h9; exact h9) (by rw [List.length_append, hfl]; exact Nat.lt_succ_self 16)
                  have hno := hid (hzero.out hbad wr (hB7.trans (hM.below.mono hB7.size)))
                  have hw2r : Below w2.heap.size w2 wr := hb3.trans ((hB37.out.trans ((hb7.trans (hM.below.mono hb7.size)).mono hB37.out.size)).mono hb3.size)
                  have hrb := hrB.out.below hw2r hrB.out.lt
                  have d0 := hrb.cell 0
                  have d1 := hrb.cell 1
                  have d2 := hrb.cell 2
                  have f0 := hrb.frozen 0
                  have f1 := hrb.frozen 1
                  have f2 := hrb.frozen 2
                  simp only [List.getElem?_toArray, List.getElem?_cons_zero, List.getElem?_cons_succ] at d0 d1 d2
                  have h16 : ((ps3.length : Int) == 16) = true := by rw [hfl]; rfl
                  replace hfl := hid hfl
                  replace hmp := hid hmp
                  replace hRn := hid hRn
                  clear hR hM hrb
                  go_wp2_with (at_lookup; refine wpList_lookup_own_ok_int _ rfl _ _ 65 rfl 3 3 .i64 mapLaw2 Tryz.underlying65 Tryz.underlying3 (zeroInt _) (w7.heap.size + 1) ps3.length D3 rfl hmap4 _ _ rfl hkey ?_; intro c' hat' hwc'; rw [hhas])
                  refine bodyPost_ret (v := .tuple #[.agg #[.int .i64 0, .int .i64 0, .slice none 0 0], .bool false]) (by simp [results, Tryz.results12, go_sem, d0, d1, d2]) rfl ?_
                  exact hno.out
                · have h16 : ((ps3.length : Int) == 16) = false := by simp; omega
                  have hM' := hid hM
                  have hR2 := hid hRn
                  replace hmp := hid hmp
                  have hzm := hM.below.size
                  clear hR hM hRn
                  go_wp2_with (first
                    | (at_lookup; refine wpList_lookup_own_ok_int _ rfl _ _ 65 rfl 3 3 .i64 mapLaw2 Tryz.underlying65 Tryz.underlying3 (zeroInt _) (w7.heap.size + 1) ps3.length D3 rfl hmap4 _ _ rfl hkey ?_; intro c' hat' hwc'; rw [hhas])
                    | (at_mapUpdate; refine wpList_mapUpdate_own _ rfl _ _ _ 65 rfl 3 3 mapLaw2 Tryz.underlying65 _ (w7.heap.size + 1) ps3.length D3 rfl hmap4 (by unfold maxLen; omega) _ _ _ rfl rfl hkey _ [] (plainElem_int Tryz.underlying3 (by decide)) ?_; intro w10 hown10 hgrow10; have hM10 := hid ((hM'.out.put (T := m) (q := 0) hown10 hgrow10).fn (memF_snoc ps3 m)); have hz10 := hM10.out.below.size; clear hown10 hgrow10 hmap4)
                    | (at_builtin; refine wpList_append_own_at _ rfl _ _ 63 rfl w7.heap.size 3 n0 (.int .i64 0) 1 8 Tryz.underlying63 hni hn0 hn1 hn2 rfl (by decide) _ _ _ rfl (World.ownsRow.alloc hM10.out.own _) ⟨w10.heap.size, 0, none⟩ 1 1 [.int .i64 (m : Nat)] rfl rfl (cell_one_new _ _ _) (by intro u hu; simp at hu; subst hu; rfl) (by unfold maxLen; omega) (by omega) (by first | omega | (simp; omega)) ?_; intro v11 w11 hO11 hg11 _ hat11; obtain ⟨Av11, cv11, ev11, -, -⟩ := own_slice hO11; subst ev11; have hM11 := hid (hM10.out.app (x := m) hg11 hO11 hat11); clear hO11 hg11 hat11))
                  go_roundw
                  case rel => exact ⟨j + 1, ps3 ++ [m], _, _, _, by rw [List.length_append]; rfl, by go_num, hjl, by rw [List.length_append, List.length_singleton]; omega, hR2.out, by have := hM11.out; rw [List.length_append]; exact this⟩
                  case measure => simp [intOf]; omega
            · obtain rfl : j = M.length := by omega
              have hR2 := hid (hend.out ps3 hR)
              have hM' := hid hM.drop
              clear hR hM
              go_wp2_with fail
              go_roundw
              case rel => exact ⟨k + 1, ps3, _, _, D3, rfl, by go_num, hkl, hq16, hR2.out, hM'.out⟩
              case measure => simp [intOf]; omega
        · obtain rfl : k = L.length := by omega
          have hR2 := hid (show RnB ss ps2 (i + 1) from RnR.next (n := n) (j := 0) (by rw [← hLe.out]; exact hR))
          have hlt2 := hR.lt
          have hM' := hid hM
          clear hR hM
          go_wp2_with fail
          go_roundw
          case rel => exact ⟨i + 1, ps2, _, _, D, rfl, by go_num, hlt2, hp16, hR2.out, hM'.out⟩
          case measure => simp [intOf]; omega
    · obtain rfl : i = ps.length := by omega
      obtain ⟨qs, hqs⟩ : ∃ qs, Hid (qs = rnL ss) := ⟨_, hid rfl⟩
      have hperm : ps.Perm qs := by rw [hqs.out]; exact hB.perm hall.out
      have hql : Hid (qs.length = ps.length) := hid hperm.length_eq.symm
      have hqsort : Hid (qs.Pairwise (· < ·)) := hid (by rw [hqs.out]; exact rnL_sorted ss)
      have hps0 : 0 < ps.length := List.length_pos_of_mem hB.zero
      have hcall := hid (hM.sort_any hps0 (by omega) hperm hqsort.out)
      replace hps := hid hps
      replace hB := hid hB
      replace hperm := hid hperm
      have hbM := hid hM.below
      clear hM
      go_wp2_with fail
      refine hcall.out.mono ?_
      rintro e w8 ⟨rfl, hM8⟩
      clear hcall
      rw [← hql.out] at hM8 hps0 hp16 ⊢
      have hM8' : Hid (MaF w7 w8 (w7.heap.size + 1) (.slice A9 qs.length c9) qs qs.length D (numF qs 0) []) := hid (hM8.fn fun x => (numF_zero qs x).symm)
      clear hM8 hil hi1
      go_wp2_with fail
      go_loopw [99] (fun iv wr => ∃ (i m : Nat) (D : DataW Unit), iv = .int .i64 (i : Nat) ∧ i ≤ qs.length ∧ m = qs.length + i ∧ MaF w7 wr (w7.heap.size + 1) (.slice A9 qs.length c9) qs m D (numF qs i) []) (fun iv _ => qs.length - (intOf iv).toNat)
      case atStart => exact ⟨0, qs.length, D, rfl, Nat.zero_le _, rfl, hM8'.out⟩
      case round =>
        clear hM8'
        obtain ⟨i, m, D3, rfl, hi1, hmq, hM⟩ := hrel
        by_cases hil : i < qs.length
        · obtain ⟨A10, c10, e7, -, -, hqN⟩ := OwnNats.read hM.own
          cases e7
          obtain ⟨b6, o6, hAe, hb6, hE6⟩ := hqN (by omega)
          subst hAe
          have n0 := hE6 i hil
          obtain ⟨n, hn⟩ : ∃ n, Hid (n = qs[i]) := ⟨_, hid rfl⟩
          rw [← hn.out] at n0
          have hn4 : n < 4096 := by
            have hnR : Rn ss n := by
              have h9 := List.getElem_mem hil
              rw [← hn.out, hqs.out] at h9
              exact (rnL_mem hall.out).1 h9
            have h1 := hnR.lt hall.out
            have h2 := (prodP_4096 hall.out (by rw [hlen.out]; decide)).2
            omega
          have hkey : keyOf Tryz.prog 3 (.int .i64 (n : Int)) = some (.int .i64 (n : Int)) := keyOf_int_mk Tryz.underlying3 (wf64 (by omega) (by omega))
          have hmap4 := hM.map_
          have hnx : Hid (∀ x, (if x = n then some i else numF qs i x) = numF qs (i + 1) x) := hid fun x => by rw [hn.out]; exact numF_next (hqsort.out.imp fun h => Nat.ne_of_lt h) hil x
          have hM' := hid hM
          replace hE6 := hid hE6
          replace hqN := hid hqN
          clear hM
          go_wp2_with (at_mapUpdate; refine wpList_mapUpdate_own _ rfl _ _ _ 65 rfl 3 3 mapLaw2 Tryz.underlying65 _ (w7.heap.size + 1) m D3 rfl hmap4 (by unfold maxLen; omega) _ _ _ rfl rfl hkey _ [] (plainElem_int Tryz.underlying3 (wf64 (by omega) (by omega))) ?_; intro w10 hown10 hgrow10; have hM10 := hid ((hM'.out.put (T := n) (q := i) hown10 hgrow10).fn hnx.out); clear hown10 hgrow10 hmap4)
          go_roundw
          case rel => exact ⟨i + 1, m + 1, _, by go_num, hil, by omega, hM10.out⟩
          case measure => simp [intOf]; omega
        · obtain rfl : i = qs.length := by omega
          obtain ⟨wX, rfl⟩ : ∃ wX : World, wX = wr := ⟨_, rfl⟩
          have hbX := hM.below
          have hgX := hgB7.out.below hbX hgB7.out.lt
          have hg7 := hgB7.out.lt
          have g1 := hgX.cell 1
          have f1 := hgX.frozen 1
          simp only [List.getElem?_toArray, List.getElem?_cons_zero, List.getElem?_cons_succ] at g1
          have hmX := hM.map_
          have hixX := hid hM.ix
          have hoQ := hM.own
          have hoLX := own_later hoL7.out hbX
          have hBX := hB7.trans (hbX.mono hB7.size)
          have hB2X : Below w2.heap.size w2 wX := hb3.trans ((hB37.out.trans ((hb7.trans (hbX.mono hb7.size)).mono hB37.out.size)).mono hb3.size)
          have hgw : w.heap.size + 1 + 1 < gs := by have h1 := hrB.out.lt; have h2 := hgs.out; omega
          have hPX := hPA7.out.later hbX
          have hSX := hblkS.out.below hbX hblkS.out.lt
          have hbSn : ¬ bS = gs := by have h1 := hbS.out; have h2 := hz23.out; omega
          have hbPn : ¬ bP = gs := by have h1 := hbP.out; have h2 := hz23.out; have h3 := hb35.size; omega
          obtain ⟨wK, hwK⟩ : ∃ wK, wX.setCell ⟨gs, 1, none⟩ (.int .i64 (qs.length : Nat)) = wK := ⟨_, rfl⟩
          have hkK : KeepB (fun b => b = gs) wX wK := by rw [← hwK]; exact (KeepB.refl _ _).setCell _ _ fun _ => rfl
          have hgK : Blk wK gs 25 #[.int .i64 al, .int .i64 (qs.length : Nat), .slice none 0 0] := by rw [← hwK]; simpa using hgX.set_ 1 (.int .i64 (qs.length : Nat))
          have hQ3 : Hid (∀ wr, KeepB (fun b => b = gs) wK wr → NatsAt wr wr.heap.size A9 qs) := hid fun wr hk => by
            obtain ⟨A', c', e, -, -, h⟩ := OwnNats.read (own_keep hoQ (hkK.trans hk) fun g hg e => own_ne hoQ hgX (by decide) g hg e)
            cases e
            exact h
          have hL3 : Hid (∀ wr, KeepB (fun b => b = gs) wK wr → NatsAt wr wr.heap.size AL L) := hid fun wr hk => by
            obtain ⟨A', c', e, -, -, h⟩ := OwnNats.read (own_keep hoLX (hkK.trans hk) fun g hg e => own_ne hoLX hgX (by decide) g hg e)
            cases e
            exact h
          have hM3 : Hid (∀ wr, KeepB (fun b => b = gs) wK wr → wr.ownsMap Tryz.prog 3 (plainElem Tryz.prog 3) (w7.heap.size + 1) m D3) := hid fun wr hk => map_keep hmX (hkK.trans hk) (by omega)
          have hW3 : Hid (∀ wr, KeepB (fun b => b = gs) wK wr → Below w.heap.size w wr) := hid fun wr hk => KeepB.below hBX (hkK.trans hk) hBX.size fun k e => by omega
          have hR3 : Hid (∀ wr, KeepB (fun b => b = gs) wK wr → Below w2.heap.size w2 wr) := hid fun wr hk => KeepB.below hB2X (hkK.trans hk) hB2X.size fun k e => by have h2 := hgs.out; omega
          have hC3 : Hid (∀ wr, KeepB (fun b => b = gs) wK wr → wr.cell? ⟨bP, 0, none⟩ = some (.slice (some ⟨bS, 0, none⟩) 2 2) ∧ wr.cell? ⟨bP, 1, none⟩ = some (.slice MV 2 cm)) := hid fun wr hk => by
            have h0 := cell_keep (hkK.trans hk) hbPn hPX.c0
            have h1 := cell_keep (hkK.trans hk) hbPn hPX.c1
            rw [hlen.out] at h0 h1
            exact ⟨h0, h1⟩
          have hN3 : Hid (∀ wr, KeepB (fun b => b = gs) wK wr → ∀ (n l : Nat), n < 4096 → l < 6 → Calls Tryz.prog 41 #[.agg #[.slice (some ⟨bS, 0, none⟩) 2 2, .slice MV 2 cm], .int .i64 (n : Nat), .int .i64 (l : Nat), .slice none 0 0] wr fun e w' => ∃ v', e = .returned v' ∧ OwnNats w' wr.heap.size v' (nxParts ss n l) ∧ Below wr.heap.size wr w') := hid fun wr hk n l hn hl' => by
            have hkX := hkK.trans hk
            have hbw := hW3.out wr hk
            have hsy : SysAt wr wr.heap.size (some ⟨bS, 0, none⟩) ss := by rw [hss.out]; exact two_at (hSX.keep hkX hbSn) hl hc hm hd (hr.out.later hbw) (hr2.out.later hbw)
            exact nextTwo_any ss _ MV cm n l bP wr ⟨hT.out.later hbw, hall.out, hPX.len3, hPX.lc, hPX.hc, hPX.lm, hPX.hcm, hsy, hPX.mvs.kept hkX hgX, cell_keep hkX hbPn hPX.c0, cell_keep hkX hbPn hPX.c1⟩ hlen.out hl' hn
          have hK0 : Hid (KSt wK wK gs al (qs.length : Nat) (.slice none 0 0) (esTo ss (qs.take 0))) := hid ⟨hgK, World.ownsRow_nil _ _ _ _, KeepB.refl _ _, hgK.lt⟩
          have hrkm : Hid (∀ x, x ∈ qs → D3.atKey (.int .i64 (x : Int)) (.lit (.int .i64 0)) = .lit (.int .i64 ((rkN ss x : Nat) : Int))) := hid fun x hx => by
            have h1 := hixX.out.at_ x (qs.idxOf x) (numF_all hx)
            have h2 : qs.idxOf x = rkN ss x := by
              have h3 : Rn ss x := (rnL_mem hall.out).1 (by rw [← hqs.out]; exact hx)
              rw [hqs.out]
              exact idx_rank hall.out h3
            rw [h1, h2]
          clear hbX hmX hoQ hoLX hB2X hPX hSX hM hBX
          go_upto_region 32 with fail
          try rw [hwK]
          replace hgK := hid hgK
          replace hgX := hid hgX
          replace hkK := hid hkK
          clear g1 f1 hwK
          go_wp2_with fail
          go_loopw [113] (fun iv wr => ∃ (i : Nat) (v : Value), iv = .int .i64 (i : Nat) ∧ i ≤ qs.length ∧ KSt wK wr gs al (qs.length : Nat) v (esTo ss (qs.take i))) (fun iv _ => qs.length - (intOf iv).toNat)
          case atStart => exact ⟨0, _, rfl, Nat.zero_le _, hK0.out⟩
          case round =>
            clear hK0
            obtain ⟨i, v, rfl, hi1, hs⟩ := hrel
            by_cases hil : i < qs.length
            · obtain ⟨bQ, oQ, hAe, hbQ, hEQ⟩ := hQ3.out wr hs.keep (by omega)
              subst hAe
              have n0 := hEQ i hil
              obtain ⟨n, hn⟩ : ∃ n, Hid (n = qs[i]) := ⟨_, hid rfl⟩
              rw [← hn.out] at n0
              have hnR : Hid (Rn ss n) := hid (by
                have h9 := List.getElem_mem hil
                rw [← hn.out, hqs.out] at h9
                exact (rnL_mem hall.out).1 h9)
              have hn4 : n < 4096 := by
                have h1 := hnR.out.lt hall.out
                have h2 := (prodP_4096 hall.out (by rw [hlen.out]; decide)).2
                omega
              have hrk : Hid (rkN ss n = i) := hid (by rw [hn.out]; simp only [hqs.out]; exact rnL_get hall.out (by rw [← hqs.out]; exact hil))
              have hnx : Hid (esTo ss (qs.take (i + 1)) = esTo ss (qs.take i) ++ cmRow ss n) := hid (by rw [List.take_succ_eq_append_getElem hil, esTo_snoc, hn.out])
              have h3 : ss.length ≤ 3 := by rw [hlen.out]; decide
              have hesI : (esTo ss (qs.take i)).length ≤ 393216 := by
                have := esTo_le hall.out h3 (qs.take i)
                have h4 : (qs.take i).length * 24576 ≤ 16 * 24576 := Nat.mul_le_mul_right _ (by rw [List.length_take]; omega)
                omega
              obtain ⟨E0, hE0⟩ : ∃ E0, Hid (E0 = esTo ss (qs.take i)) := ⟨_, hid rfl⟩
              rw [← hE0.out] at hs hnx hesI
              have hs' := hid hs
              replace hEQ := hid hEQ
              replace h3 := hid h3
              clear hs
              go_wp2_with fail
              obtain ⟨wo, rfl⟩ : ∃ wo : World, wo = wr := ⟨_, rfl⟩
              go_loopw [120] (fun kv wr => ∃ (k : Nat) (v : Value), kv = .int .i64 (k : Nat) ∧ k ≤ L.length ∧ KSt wK wr gs al (qs.length : Nat) v (E0 ++ rowTo ss n k)) (fun kv _ => L.length - (intOf kv).toNat)
              case atStart => exact ⟨0, v, rfl, Nat.zero_le _, by rw [rowTo_zero, List.append_nil]; exact hs'.out⟩
              case round =>
                clear hs' n0
                obtain ⟨k, v, rfl, hk1, hs⟩ := hrel
                by_cases hlk : k < L.length
                · obtain ⟨bL, oL, hLE, hbL, hEL⟩ := hL3.out wr hs.keep (by omega)
                  subst hLE
                  have l0 := hEL k hlk
                  obtain ⟨l, hl9⟩ : ∃ l, Hid (l = L[k]) := ⟨_, hid rfl⟩
                  rw [← hl9.out] at l0
                  have hl6 : l < 6 := by rw [hl9.out]; exact hlL.out _ (List.getElem_mem _)
                  obtain ⟨M, hM⟩ : ∃ M, Hid (M = nxParts ss n l) := ⟨_, hid rfl⟩
                  have hMl : M.length ≤ 4096 := by rw [hM.out]; exact nxParts_le hall.out h3.out n l
                  have hkk : k < (letters (allAl ss)).length := by rw [← hLe.out]; exact hlk
                  have hlm : Hid (l ∈ letters (allAl ss)) := hid (by rw [hl9.out, ← hLe.out]; exact List.getElem_mem _)
                  have hMR : Hid (∀ x ∈ M, x < 4096 ∧ x ∈ qs) := hid fun x hx => by
                    rw [hM.out] at hx
                    have h1 := nxParts_lt hall.out n l x hx
                    have h2 := (prodP_4096 hall.out (by rw [hlen.out]; decide)).2
                    refine ⟨by omega, ?_⟩
                    rw [hqs.out]
                    exact (rnL_mem hall.out).2 (hnR.out.step hlm.out hx)
                  have hrow : Hid (rowTo ss n (k + 1) = rowTo ss n k ++ M.map (mkE ss n l)) := hid (by rw [rowTo_succ hkk, hM.out, hl9.out]; simp only [hLe.out])
                  have hrl := rowTo_le hall.out h3.out n k
                  obtain ⟨c0, c1⟩ := hC3.out wr hs.keep
                  have hnext := hN3.out wr hs.keep n l hn4 hl6
                  rw [← hM.out] at hnext
                  replace hnext := hid hnext
                  have hs' := hid hs
                  replace hEL := hid hEL
                  clear hs
                  go_wp2_with fail
                  refine hnext.out.mono ?_
                  rintro e w9 ⟨v', rfl, hoM, hb9⟩
                  obtain ⟨AM, cM, rfl, hcM, hcM', -⟩ := OwnNats.read hoM
                  have hs9 : Hid (KSt2 wK w9 gs al (qs.length : Nat) v (E0 ++ rowTo ss n k) (.slice AM M.length cM) M) := hid ⟨hs'.out.later hb9, own_base hoM hs'.out.keep.size⟩
                  clear hnext hoM c0 c1 l0 hs'
                  go_wp2_with fail
                  obtain ⟨wo2, rfl⟩ : ∃ wo : World, wo = wr := ⟨_, rfl⟩
                  go_loopw [129] (fun jv wr => ∃ (j : Nat) (v : Value), jv = .int .i64 (j : Nat) ∧ j ≤ M.length ∧ KSt2 wK wr gs al (qs.length : Nat) v (E0 ++ rowTo ss n k ++ (M.take j).map (mkE ss n l)) (.slice AM M.length cM) M) (fun jv _ => M.length - (intOf jv).toNat)
                  case atStart => exact ⟨0, v, rfl, Nat.zero_le _, by rw [List.take_zero, List.map_nil, List.append_nil]; exact hs9.out⟩
                  case round =>
                    clear hs9
                    obtain ⟨j, v, rfl, hj1, hs⟩ := hrel
                    by_cases hjl : j < M.length
                    · obtain ⟨AM2, cM2, e7, -, -, hMN⟩ := OwnNats.read hs.mem
                      cases e7
                      obtain ⟨bM, oM, hME, hbM, hEM⟩ := hMN (by omega)
                      subst hME
                      have m0 := hEM j hjl
                      obtain ⟨x, hx9⟩ : ∃ x, Hid (x = M[j]) := ⟨_, hid rfl⟩
                      rw [← hx9.out] at m0
                      have hxm := hMR.out _ (List.getElem_mem hjl)
                      rw [← hx9.out] at hxm
                      obtain ⟨hx4, hxq⟩ := hxm
                      have c2 := hs.so.blk.cell 2
                      simp only [List.getElem?_toArray, List.getElem?_cons_zero, List.getElem?_cons_succ] at c2
                      obtain ⟨rm, hrm⟩ : ∃ r, Hid (r = rkN ss x) := ⟨_, hid rfl⟩
                      have hat := hrkm.out x hxq
                      rw [← hrm.out] at hat
                      replace hat := hid hat
                      replace hxq := hid hxq
                      obtain ⟨es, hes⟩ : ∃ es, Hid (es = E0 ++ rowTo ss n k ++ (M.take j).map (mkE ss n l)) := ⟨_, hid rfl⟩
                      have hesl : es.length ≤ 1000000 := by
                        rw [hes.out, List.length_append, List.length_append, List.length_map, List.length_take]
                        omega
                      rw [← hes.out] at hs
                      have hek : Hid (E0 ++ rowTo ss n k ++ (M.take (j + 1)).map (mkE ss n l) = es ++ [⟨(i : Int), (l : Int), (rm : Int)⟩]) := hid (by
                        rw [map_take_snoc hjl, ← List.append_assoc, ← hes.out, ← hx9.out, hrm.out]
                        unfold mkE
                        rw [hrk.out])
                      have hmap := hM3.out wr hs.so.keep
                      have hkey : keyOf Tryz.prog 3 (.int .i64 (x : Int)) = some (.int .i64 (x : Int)) := keyOf_int_mk Tryz.underlying3 (wf64 (by omega) (by omega))
                      have hgl := hs.so.blk.lt
                      have ag : v.ownBlock ≠ some gs := fun e => own_ne hs.so.own hs.so.blk (by decide) gs e rfl
                      have hbz : wK.heap.size ≤ wr.heap.size := hs.so.keep.size
                      have hown := hid hs.so.own
                      have hs' := hid hs
                      replace hEM := hid hEM
                      replace hMN := hid hMN
                      clear hs
                      go_wp2_with (first
                        | (at_lookup; refine wpList_lookup_own_int _ rfl _ _ 65 rfl 3 3 .i64 mapLaw2 Tryz.underlying65 Tryz.underlying3 (zeroInt _) (w7.heap.size + 1) m D3 rfl hmap _ _ rfl hkey ?_; intro c' hat' hwc'; obtain rfl : c' = (rm : Int) := (by have h1 := hat.out.symm.trans hat'; simpa using h1.symm); clear hat' hwc')
                        | (at_builtin; refine wpList_append_lies _ (by rfl) _ _ 23 (by rfl) wK.heap.size 50 i0 (.agg #[.int .i64 0, .int .i64 0, .int .i64 0]) 3 24 Tryz.underlying23 hi hz0' hz1' hz2' rfl (by decide) v es.length (edCells es) (by rfl) (hown.out.alloc _) ⟨wr.heap.size, 0, none⟩ 1 1 [.int .i64 (i : Nat), .int .i64 (l : Nat), .int .i64 (rm : Nat)] (by rfl) (by rfl) (World.news_of_block (heap_alloc_new wr _)) ?c1 (by omega) ?c3 ?c4 ?c5 _ rfl ?_))
                      case c1 => simp [Value.oneCell']
                      case c3 => unfold maxLen; omega
                      case c4 => omega
                      case c5 => simp; omega
                      intro gg cap5 w5' hown5 hgrow hat5 hlt5
                      have hs5 := hid ((hs'.out.later ((Below.refl _ wr).alloc (Nat.le_refl _) _)).add (x := ⟨(i : Int), (l : Int), (rm : Int)⟩) hown5 hgrow)
                      have c2' : w5'.cell? ⟨gs, 2, none⟩ = some v := by rw [hgrow.cell_far _ (by simp; omega) (Ne.symm ag), World.cell?_alloc_lt (h := by simpa using hgl)]; exact c2
                      have f2' : w5'.frozen? ⟨gs, 2, none⟩ = false := by rw [hgrow.frozen_far _ (by simp; omega) (Ne.symm ag)]; exact (hs'.out.so.blk.alloc _).frozen 2
                      clear hown5 hgrow hat5 c2 m0
                      go_wp2_with fail
                      go_roundw
                      case rel => exact ⟨j + 1, _, by go_num, by omega, by rw [hek.out]; exact hs5.out⟩
                      case measure => simp [intOf]; omega
                    · obtain rfl : j = M.length := by omega
                      have hfin : Hid (KSt wK wr gs al (qs.length : Nat) v (E0 ++ rowTo ss n (k + 1))) := hid (by
                        rw [hrow.out, ← List.append_assoc]
                        have h9 := hs.so
                        rw [List.take_length] at h9
                        exact h9)
                      replace hs := hid hs
                      go_wp2_with fail
                      go_roundw
                      case rel => exact ⟨k + 1, v, by go_num, by omega, hfin.out⟩
                      case measure => simp [intOf]; omega
                · obtain rfl : k = L.length := by omega
                  have hfin : Hid (KSt wK wr gs al (qs.length : Nat) v (esTo ss (qs.take (i + 1)))) := hid (by
                    rw [hnx.out, ← rowTo_all, ← hLe.out]
                    exact hs)
                  replace hs := hid hs
                  go_wp2_with fail
                  go_roundw
                  case rel => exact ⟨i + 1, v, by go_num, by omega, hfin.out⟩
                  case measure => simp [intOf]; omega
            · obtain rfl : i = qs.length := by omega
              have hE : esTo ss (qs.take qs.length) = cmEs ss := by rw [List.take_length, hqs.out, esTo_all]
              rw [hE] at hs
              obtain ⟨es, hes⟩ : ∃ es, Hid (es = cmEs ss) := ⟨_, hid rfl⟩
              rw [← hes.out] at hs
              have hesn : es.length ≤ 1000000 := by
                have h1 := esTo_le hall.out (by rw [hlen.out]; decide) qs
                rw [hqs.out, esTo_all, ← hes.out, ← hqs.out] at h1
                have h4 : qs.length * 24576 ≤ 16 * 24576 := Nat.mul_le_mul_right _ hp16
                omega
              have hcall := hid (sortEdges_any es v wK.heap.size wr hs.own hesn (by rw [hes.out]; exact cmEs_sorted hall.out))
              have c2 := hs.blk.cell 2
              simp only [List.getElem?_toArray, List.getElem?_cons_zero, List.getElem?_cons_succ] at c2
              have hs' := hid hs
              clear hs hil hi1
              go_wp2_with fail
              refine hcall.out.mono ?_
              rintro e w9 ⟨rfl, hb9⟩
              have hs9 := hs'.out.later hb9
              clear c2 hcall hs'
              obtain ⟨Av, cv, hve, hv1, hv2⟩ := own_slice hs9.own
              subst hve
              have hWr := hW3.out w9 hs9.keep
              have hrb := hrB.out.below (hR3.out w9 hs9.keep) hrB.out.lt
              have c0 := hs9.blk.cell 0
              have c1 := hs9.blk.cell 1
              have c2 := hs9.blk.cell 2
              have d0 := hrb.cell 0
              have d1 := hrb.cell 1
              have d2 := hrb.cell 2
              have f0 := hrb.frozen 0
              have f1 := hrb.frozen 1
              have f2 := hrb.frozen 2
              simp only [List.getElem?_toArray, List.getElem?_cons_zero, List.getElem?_cons_succ] at c0 c1 c2 d0 d1 d2
              have hne : (Value.slice Av es.length cv).ownBlock ≠ some (w.heap.size + 1 + 1) := fun e => by have h1 := (hs9.own.lt _ e).1; have h2 := hs9.low; omega
              have hfin : Hid (SoOwn w (cmX s t) (cmOk s t) (.returned (.tuple #[.agg #[.int .i64 al, .int .i64 (qs.length : Nat), .slice Av es.length cv], .bool true])) (((w9.setCell ⟨w.heap.size + 1 + 1, 0, none⟩ (.int .i64 al)).setCell ⟨w.heap.size + 1 + 1, 1, none⟩ (.int .i64 (qs.length : Nat))).setCell ⟨w.heap.size + 1 + 1, 2, none⟩ (.slice Av es.length cv))) := hid (by
                have hcok : cmOk s t = true := cmOk_of hok'.out hok2'.out (by rw [← hss.out, ← hqs.out]; omega)
                have e : cmX s t = ⟨al, ((qs.length : Nat) : Int), es⟩ := by
                  rw [cmX_ok hcok, ← hss.out]
                  unfold cmSy
                  rw [← hale.out, ← hqs.out, ← hes.out]
                rw [e, hcok]
                refine ⟨Av, cv, rfl, ?_, ((hWr.setCell (by simp; omega) _).setCell (by simp; omega) _).setCell (by simp; omega) _⟩
                exact ownsRow_setCell_other (ownsRow_setCell_other (ownsRow_setCell_other (own_base hs9.own (by have := hs9.low; omega)) hne _) hne _) hne _)
              have hgl := hs9.blk.lt
              replace hs9 := hid hs9
              replace hrb := hid hrb
              replace hWr := hid hWr
              go_wp2
              refine bodyPost_ret (v := .tuple #[.agg #[.int .i64 al, .int .i64 (qs.length : Nat), .slice Av es.length cv], .bool true]) (by simp [results, Tryz.results12, go_sem, d0, d1, d2]) rfl ?_
              exact hfin.out

end Go.Proofs.YtdkjnemakkppfaaGreatDoor

/- The two tables of math/bits that the cards list: what a walk reads of them, and a world that holds them. -/
namespace Go.Proofs.YtdkjnemakkppfaaGreatDoor
open Go.ChangeShapes Go.WideShapes Go.ChangeAt Go.RowKit AG

theorem g64 : Tryz.prog.globalNamed "math/bits.deBruijn64tab" = some 1 := by kernel_rfl
theorem g64Type : (Tryz.prog.globals[1]?).map (·.type) = some 171 := by kernel_rfl
theorem g64Under : Tryz.prog.underlying 171 = some (.array 64 5) := by kernel_rfl
theorem u8Under : Tryz.prog.underlying 5 = some (.int .u8) := by kernel_rfl
theorem u8Cells : Tryz.prog.cellsOf 5 = 1 := by kernel_rfl
theorem g64Cells : Tryz.prog.cellsOf 171 = 64 := by kernel_rfl

theorem tab_of_laid {W : World} (h : laidMetH Tryz.prog [("math/bits.deBruijn32tab", Rows.laid_math_bits_deBruijn32tab), ("math/bits.deBruijn64tab", Rows.laid_math_bits_deBruijn64tab)] W) : Tab W := by
  have h1 : laidMet Tryz.prog [("math/bits.deBruijn32tab", Rows.laid_math_bits_deBruijn32tab), ("math/bits.deBruijn64tab", Rows.laid_math_bits_deBruijn64tab)] W := h
  have h2 : laidMet Tryz.prog (("math/bits.deBruijn64tab", Lib.tabData .u8 (Lib.deBruijn64tab.map Int.ofNat)) :: []) W := laidMet.tail h1
  have h3 := Lib.tabIs_of_head g64 g64Type g64Under u8Under u8Cells g64Cells h2
  intro j hj
  rw [h3.cell g64 j (by simpa using hj)]
  simp [List.getD, hj]

def layTab (zs : List Nat) : Obj → Obj
  | .cells _ t frozen => .cells (zs.map fun n => Value.int .u8 (Int.ofNat n)).toArray t frozen
  | o => o

/-- A world for the witness: the settled one, the two tables holding what their initialisers lay. -/
noncomputable def laidWorld (os : Os) : World :=
  { World.holding Tryz.prog os ⟨#[], #[], []⟩ with heap := ((World.holding Tryz.prog os ⟨#[], #[], []⟩).heap.modify 0 (layTab Lib.deBruijn32tab)).modify 1 (layTab Lib.deBruijn64tab) }


end Go.Proofs.YtdkjnemakkppfaaGreatDoor

/- Both IsDeterministic return detB. -/
namespace Go.Proofs.YtdkjnemakkppfaaGreatDoor
open Go.RowKit Go.BigFrame AG

theorem detAt.next {s : Sy} {S k : Nat} (h : detAt s S k) (hlt : k + 1 < s.es.length) (hn : ¬ (Has (S : Int) s.es[k].f.toNat = true ∧ s.es[k].f = s.es[k + 1].f ∧ s.es[k].l = s.es[k + 1].l)) : detAt s S (k + 1) := fun i hi hik => by
  by_cases e : i = k
  · subst e
    exact hn
  · exact h i hi (by omega)

end Go.Proofs.YtdkjnemakkppfaaGreatDoor

/- The law FnSameTrim. -/
namespace Go.Proofs.YtdkjnemakkppfaaGreatDoor
open Go.RowKit Go.BigFrame AG

set_option maxRecDepth 100000 in
set_option maxHeartbeats 4000000 in
theorem agSystems_same (s : Sy) (A B : Option Addr) (c d : Nat) (w : World) (hl : s.es.length ≤ c) (hc : c ≤ 9223372036854775807) (hm : s.es.length ≤ d) (hd : d ≤ 9223372036854775807) (hr : EdsAt w w.heap.size A s.es) (hs : EdsAt w w.heap.size B s.es) :
    Calls Tryz.prog 14 #[s.val A c, s.val B d] w fun e w' => e = .returned (.bool true) ∧ Below w.heap.size w w' := by
  unfold Sy.val
  obtain ⟨w0, hw0, hz0, hB0, hS, hU⟩ := boxed2 w #[Value.int IntKind.i64 s.al, Value.int IntKind.i64 s.st, Value.slice A s.es.length c] 25 #[Value.int IntKind.i64 s.al, Value.int IntKind.i64 s.st, Value.slice B s.es.length d] 25
  have p0 := hS 0 _ rfl _ (Below.refl _ _)
  have p1 := hS 1 _ rfl _ (Below.refl _ _)
  have p2 := hS 2 _ rfl _ (Below.refl _ _)
  have q0 := hU 0 _ rfl _ (Below.refl _ _)
  have q1 := hU 1 _ rfl _ (Below.refl _ _)
  have q2 := hU 2 _ rfl _ (Below.refl _ _)
  have hr0 := hid (hr.later hB0)
  have hs0 := hid (hs.later hB0)
  replace hr := hid hr
  replace hs := hid hs
  go_enter Tryz.func14, Tryz.ntmps14
  go_wp2_with fail
  go_loopw [5] (fun i wr => ∃ k : Nat, i = .int .i64 (k : Nat) ∧ k ≤ s.es.length ∧ Below w0.heap.size w0 wr) (fun i _ => s.es.length - (intOf i).toNat)
  case atStart => exact ⟨0, rfl, by omega, Below.refl _ _⟩
  case round =>
    clear p0 p1 p2 q0 q1 q2
    obtain ⟨k, rfl, hk, hb⟩ := hrel
    have hC := hb.mono hz0
    have p0 := hS 0 _ rfl _ hC
    have p1 := hS 1 _ rfl _ hC
    have p2 := hS 2 _ rfl _ hC
    have q0 := hU 0 _ rfl _ hC
    have q1 := hU 1 _ rfl _ hC
    have q2 := hU 2 _ rfl _ hC
    by_cases hlt : k < s.es.length
    · obtain ⟨b, o, hA, hbb, hE⟩ := hr0.out (by omega)
      obtain ⟨b', o', hA', hbb', hE'⟩ := hs0.out (by omega)
      subst hA
      subst hA'
      obtain ⟨e0, e1, e2⟩ := hE k hlt
      obtain ⟨g0, g1, g2⟩ := hE' k hlt
      rw [← hb.cell (by simpa using hbb)] at e0 e1 e2
      rw [← hb.cell (by simpa using hbb')] at g0 g1 g2
      obtain ⟨⟨xf, xl, xt⟩, hx⟩ : ∃ x, x = s.es[k] := ⟨_, rfl⟩
      rw [← hx] at e0 e1 e2 g0 g1 g2
      simp only at e0 e1 e2 g0 g1 g2
      have k1 : (0 : Int) ≤ (k : Int) ∧ (k : Int) < (s.es.length : Int) := by omega
      have x0 := GK.BI.cell p2
      have x1 := GK.BI.cell q2
      have y0 := GK.BI.cell e0
      have y1 := GK.BI.cell e1
      have y2 := GK.BI.cell e2
      have z0 := GK.BI.cell g0
      have z1 := GK.BI.cell g1
      have z2 := GK.BI.cell g2
      replace hE := hid hE
      replace hE' := hid hE'
      replace hx := hid hx
      go_wp2_with fail
      clear p0 p1 p2 q0 q1 q2 e0 e1 e2 g0 g1 g2
      refine GK.wp_region 11 [] 200 (KeepB fun _ => False) (GK.BI wr) (fun _ _ _ => True) (by kernel_rfl) (by kernel_rfl) (GK.BI.way wr) (by decide) (Below.refl _ _).drew ?_
      simp only [List.take_succ_cons, List.take_zero]
      (repeat (refine GK.grow_quiet wr (by rfl) (by rfl) ?_; intro K hK; go_big_quiet_op; go_big_quiet_on))
      refine GK.grow_nil ?_
      intro w4 hw4 _
      simp only [List.filterMap_nil]
      replace hw4 : Below wr.heap.size wr w4 := hw4
      have hB4 := hid (hb.trans (hw4.mono hb.size))
      clear x0 x1 y0 y1 y2 z0 z1 z2
      go_wp2_with fail
      go_roundw
      case rel => exact ⟨k + 1, by go_num, by omega, hB4.out⟩
      case measure => simp [intOf]; omega
    · obtain rfl : k = s.es.length := by omega
      go_wp2_with fail
      go_ret
      exact ⟨rfl, hB0.trans (hb.mono (by have := hB0.size; exact this))⟩

def DrawOne (w : World) (e : Ending) (w' : World) : Prop := ∃ (s : Sy) (A : Option Addr) (c : Nat), e = .returned (s.val A c) ∧ s.es.length ≤ c ∧ c ≤ 9223372036854775807 ∧ s.es.length ≤ 1000000 ∧ EdsAt w' w'.heap.size A s.es ∧ FreshA w.heap.size A ∧ Below w.heap.size w w'
theorem DrawOne.ret {w w0 w1 : World} {s : Sy} {A : Option Addr} {c : Nat} (h1 : s.es.length ≤ c) (h2 : c ≤ 9223372036854775807) (h3 : s.es.length ≤ 1000000) (h4 : EdsAt w1 w1.heap.size A s.es) (h5 : FreshA (w.heap.size + 1) A) (h7 : Below w.heap.size w w1) (v1 v2 v3 : Value) :
    DrawOne w (.returned (.agg #[.int .i64 s.al, .int .i64 s.st, .slice A s.es.length c])) (((w1.setCell ⟨w.heap.size, 0, none⟩ v1).setCell ⟨w.heap.size, 1, none⟩ v2).setCell ⟨w.heap.size, 2, none⟩ v3) := by
  have hne : ∀ b o, A = some ⟨b, o, none⟩ → 0 < s.es.length → b ≠ w.heap.size := fun b o hA _ => by have := h5 b o hA; omega
  refine ⟨s, A, c, rfl, h1, h2, h3, ?_, fun b o hA => by have := h5 b o hA; omega, ?_⟩
  · simpa [World.setCell] using ((h4.stored v1 hne).stored v2 hne).stored v3 hne
  · exact ((h7.setCell (by simp) _).setCell (by simp) _).setCell (by simp) _

end Go.Proofs.YtdkjnemakkppfaaGreatDoor

/- The program's ProductAutomaton (words that both accept). Printed by tools/gen_pd1.py. -/
namespace Go.Proofs.YtdkjnemakkppfaaGreatDoor
open Go.RowKit Go.BigFrame Go.Maps AG

set_option maxRecDepth 100000 in
set_option maxHeartbeats 4000000 in
theorem pdStep_any (a b : Au) (gS gT bS bN bT m q l : Nat) (w : World) (hq : q < m * b.nx.length) (hm : m = a.nx.length) (hm12 : m ≤ 12) (hn1 : 1 ≤ b.nx.length) (hn12 : b.nx.length ≤ 12) (hl : l < 6) (hx : goA a (q / b.nx.length) l < 12) (hy : goA b (q % b.nx.length) l < 12)
    (hS : TabA w gS m a) (hT : TabA w gT b.nx.length b) (hcS : w.cell? ⟨bS, 0, none⟩ = some (.slice (some ⟨gS, 0, none⟩) m m)) (hcN : w.cell? ⟨bN, 0, none⟩ = some (.int .i64 (b.nx.length : Nat))) (hcT : w.cell? ⟨bT, 0, none⟩ = some (.slice (some ⟨gT, 0, none⟩) b.nx.length b.nx.length)) :
    Calls Tryz.prog 83 #[.int .i64 (q : Nat), .int .i64 (l : Nat), .pointer (some ⟨bS, 0, none⟩), .pointer (some ⟨bN, 0, none⟩), .pointer (some ⟨bT, 0, none⟩)] w fun e w' => e = .returned (.int .i64 (pdNx a b q l : Nat)) ∧ Below w.heap.size w w' := by
  have hqn : q / b.nx.length < m := Nat.div_lt_of_lt_mul (by rw [Nat.mul_comm]; exact hq)
  have hrn : q % b.nx.length < b.nx.length := Nat.mod_lt _ hn1
  have hq144 : q < 144 := Nat.lt_of_lt_of_le hq (Nat.le_trans (Nat.mul_le_mul hm12 hn12) (by decide))
  obtain ⟨X, hX⟩ : ∃ X, Hid (X = goA a (q / b.nx.length) l) := ⟨_, hid rfl⟩
  obtain ⟨Y, hY⟩ : ∃ Y, Hid (Y = goA b (q % b.nx.length) l) := ⟨_, hid rfl⟩
  have c1 := hS.2 _ l hqn hl
  have c2 := hT.2 _ l hrn hl
  rw [← hX.out] at c1 hx
  rw [← hY.out] at c2 hy
  obtain ⟨n, hn⟩ : ∃ n, Hid (n = b.nx.length) := ⟨_, hid rfl⟩
  have hgo : Hid (pdNx a b q l = X * n + Y) := hid (by unfold pdNx; rw [hX.out, hY.out, hn.out])
  rw [← hn.out] at hq hn1 hn12 hqn hrn c1 c2 hcN hcT
  rw [hgo.out]
  have hgS := hS.1
  have hgT := hT.1
  obtain ⟨Q, hQ⟩ : ∃ Q, Hid (Q = q / n) := ⟨_, hid rfl⟩
  obtain ⟨R, hR⟩ : ∃ R, Hid (R = q % n) := ⟨_, hid rfl⟩
  rw [← hQ.out] at hqn c1
  rw [← hR.out] at hrn c2
  have e1 : ((q : Nat) : Int) / ((n : Nat) : Int) = (Q : Int) := by rw [hQ.out]; exact (Int.natCast_ediv q n).symm
  have e2 : ((q : Nat) : Int) % ((n : Nat) : Int) = (R : Int) := by rw [hR.out]; exact (Int.natCast_emod q n).symm
  have e3 : Int.tdiv ((q : Nat) : Int) ((n : Nat) : Int) = (Q : Int) := by rw [Int.tdiv_eq_ediv_of_nonneg (by omega), e1]
  have e4 : Int.tmod ((q : Nat) : Int) ((n : Nat) : Int) = (R : Int) := by rw [Int.tmod_eq_emod_of_nonneg (by omega), e2]
  have hz : ((n : Nat) : Int) ≠ 0 := by omega
  have hz' : (((n : Nat) : Int) == 0) = false := by simpa using hz
  have hbS := World.block_lt_of_cell? _ _ hcS
  have hbN := World.block_lt_of_cell? _ _ hcN
  have hbT := World.block_lt_of_cell? _ _ hcT
  have y0 : ∀ x, (Fam w.heap.size w x).cell? ⟨bS, 0, none⟩ = some (.slice (some ⟨gS, 0, none⟩) m m) := fun x => by rw [(Fam.below w.heap.size w x).cell (by simpa using hbS)]; exact hcS
  have y1 : ∀ x, (Fam w.heap.size w x).cell? ⟨bN, 0, none⟩ = some (.int .i64 (n : Nat)) := fun x => by rw [(Fam.below w.heap.size w x).cell (by simpa using hbN)]; exact hcN
  have y2 : ∀ x, (Fam w.heap.size w x).cell? ⟨bT, 0, none⟩ = some (.slice (some ⟨gT, 0, none⟩) n n) := fun x => by rw [(Fam.below w.heap.size w x).cell (by simpa using hbT)]; exact hcT
  have y3 : ∀ x, (Fam w.heap.size w x).cell? ⟨gS, Q * 6 + l, none⟩ = some (.int .i64 (X : Nat)) := fun x => by rw [(Fam.below w.heap.size w x).cell (by simpa using hgS)]; exact c1
  have y4 : ∀ x, (Fam w.heap.size w x).cell? ⟨gT, R * 6 + l, none⟩ = some (.int .i64 (Y : Nat)) := fun x => by rw [(Fam.below w.heap.size w x).cell (by simpa using hgT)]; exact c2
  have k1 : (0 : Int) ≤ (Q : Int) ∧ (Q : Int) < (m : Int) ∧ (0 : Int) ≤ (R : Int) ∧ (R : Int) < (n : Int) ∧ (0 : Int) ≤ (l : Int) ∧ (l : Int) < 6 := by omega
  obtain ⟨P, hP⟩ : ∃ P, Hid (P = X * n) := ⟨_, hid rfl⟩
  have hP144 : P ≤ 144 := by rw [hP.out]; exact Nat.le_trans (Nat.mul_le_mul (Nat.le_of_lt hx) hn12) (by decide)
  have e5 : wrap64 ((X : Int) * (n : Int)) = (P : Int) := by rw [← Int.natCast_mul, ← hP.out]; exact IntWalk.wrap64_in _ ⟨by omega, by omega⟩
  have e6 := wrap_addN P Y (Nat.lt_of_le_of_lt (Nat.add_le_add hP144 (Nat.le_of_lt hy)) (by decide))
  rw [← hP.out]
  obtain ⟨Z, hZ⟩ : ∃ Z, Hid (Z = P + Y) := ⟨_, hid rfl⟩
  rw [← hZ.out] at e6 ⊢
  replace hS := hid hS
  replace hT := hid hT
  clear c1 c2 hcS hcN hcT e1 e2 hP144 hbS hbN hbT hq144 hgS hgT
  subst hm
  go_enter Tryz.func83, Tryz.ntmps83
  go_upto_region 1 with fail
  refine wp_region_grow 20 w.heap.size w (fun _ _ _ => True) (by kernel_rfl) (by kernel_rfl) (Nat.le_refl _) (Below.refl _ _) ?_
  simp only [List.take_succ_cons, List.take_zero, List.drop_succ_cons, List.drop_zero]
  (repeat (refine grow_quiet (by rfl) (by rfl) (by rfl) ?_; intro K hK; go_big_quiet_op; go_big_quiet_on))
  refine grow_nil ?_
  intro w7 hb7 _
  try rw [e6]
  go_wp2_with fail
  go_ret
  exact ⟨rfl, hb7⟩
theorem pd_lt {a b : Au} (ha : auOk a = true) (hb : auOk b = true) {q l : Nat} (hq : q < a.nx.length * b.nx.length) : pdNx a b q l < a.nx.length * b.nx.length := by
  have hn := ((auOk_iff b).1 hb).2.1
  have h1 := goA_in ha (q := q / b.nx.length) (l := l) (Nat.div_lt_of_lt_mul (by rw [Nat.mul_comm]; exact hq))
  have h2 := goA_in hb (q := q % b.nx.length) (l := l) (Nat.mod_lt _ hn)
  unfold pdNx
  calc goA a (q / b.nx.length) l * b.nx.length + goA b (q % b.nx.length) l < goA a (q / b.nx.length) l * b.nx.length + b.nx.length := by omega
    _ = (goA a (q / b.nx.length) l + 1) * b.nx.length := by rw [Nat.add_mul, Nat.one_mul]
    _ ≤ a.nx.length * b.nx.length := Nat.mul_le_mul_right _ h1
theorem pdStep_ok {a b : Au} {gS gT bS bN bT : Nat} {L : List Nat} {w : World} (ha : auOk a = true) (hb : auOk b = true) (hL : ∀ l ∈ L, l < 6)
    (hS : TabA w gS a.nx.length a) (hT : TabA w gT b.nx.length b) (hcS : w.cell? ⟨bS, 0, none⟩ = some (.slice (some ⟨gS, 0, none⟩) a.nx.length a.nx.length)) (hcN : w.cell? ⟨bN, 0, none⟩ = some (.int .i64 (b.nx.length : Nat))) (hcT : w.cell? ⟨bT, 0, none⟩ = some (.slice (some ⟨gT, 0, none⟩) b.nx.length b.nx.length)) :
    NumOk w (fun q => q < a.nx.length * b.nx.length) L (pdNx a b) 83 #[.pointer (some ⟨bS, 0, none⟩), .pointer (some ⟨bN, 0, none⟩), .pointer (some ⟨bT, 0, none⟩)] := by
  obtain ⟨_, a1, a12, _⟩ := (auOk_iff a).1 ha
  obtain ⟨_, b1, b12, _⟩ := (auOk_iff b).1 hb
  refine ⟨fun args w' => by go_simp, fun w' q l hbb hq hl => ?_, fun q l hq _ => pd_lt ha hb hq, fun q hq => ?_⟩
  · have h1 := goA_in ha (q := q / b.nx.length) (l := l) (Nat.div_lt_of_lt_mul (by rw [Nat.mul_comm]; exact hq))
    have h2 := goA_in hb (q := q % b.nx.length) (l := l) (Nat.mod_lt _ b1)
    exact pdStep_any a b gS gT bS bN bT a.nx.length q l w' hq rfl a12 b1 b12 (hL l hl) (by omega) (by omega) (hS.later hbb) (hT.later hbb) ((hbb.cell (World.block_lt_of_cell? _ _ hcS)).trans hcS)
      ((hbb.cell (World.block_lt_of_cell? _ _ hcN)).trans hcN) ((hbb.cell (World.block_lt_of_cell? _ _ hcT)).trans hcT)
  · have : a.nx.length * b.nx.length ≤ 12 * 12 := Nat.mul_le_mul a12 b12
    omega

/-- The product under way: a block gO that was there, all else of what was there stays. -/
structure PdSt (wK wr : World) (gO : Nat) (al : Int) (vR vA : Value) (acs : List Bool) : Prop where
  blk : Blk wr gO 41 #[.int .i64 al, vR, vA]
  acc : wr.ownsRow wK.heap.size 4 1 vA acs.length (boolVals acs)
  keep : KeepB (fun b => b = gO) wK wr
  low : gO < wK.heap.size
theorem PdSt.later {wK wr w' : World} {gO : Nat} {al : Int} {vR vA : Value} {acs : List Bool} (h : PdSt wK wr gO al vR vA acs) (hb : Below wr.heap.size wr w') : PdSt wK w' gO al vR vA acs :=
  ⟨h.blk.below hb h.blk.lt, own_later_ h.acc hb, h.keep.trans (.of_below hb), h.low⟩
theorem PdSt.put {wK wr w1 : World} {gO : Nat} {al : Int} {vR vA vA' : Value} {acs : List Bool} {t : Bool} (h : PdSt wK wr gO al vR vA acs) (hg : wr.grownBy w1 vA.ownBlock)
    (ho : w1.ownsRow wK.heap.size 4 1 vA' (acs.length + 1) (boolVals acs ++ [.bool t])) : PdSt wK (w1.setCell ⟨gO, 2, none⟩ vA') gO al vR vA' (acs ++ [t]) := by
  have hkA : KeepB (fun b => vA.ownBlock = some b) wr w1 := (KeepB.refl _ wr).grown hg fun k hk _ => hk
  have hblk1 : Blk w1 gO 41 #[.int .i64 al, vR, vA] := h.blk.keep hkA fun e => own_ne h.acc h.blk (by decide) _ e rfl
  have hkB : KeepB (fun b => b = gO) w1 (w1.setCell ⟨gO, 2, none⟩ vA') := (KeepB.refl _ w1).setCell _ _ fun _ => rfl
  refine ⟨by simpa using hblk1.set_ 2 vA', ?_, ?_, h.low⟩
  · have h2 : w1.ownsRow wK.heap.size 4 1 vA' (acs ++ [t]).length (boolVals (acs ++ [t])) := by
      unfold boolVals at ho ⊢
      rw [List.length_append, List.map_append]
      exact ho
    exact own_keep h2 hkB (own_ne h2 hblk1 (by decide))
  · refine KeepB.setCell (h.keep.grown hg fun k hk hlt => ?_) _ _ fun _ => rfl
    have := (h.acc.lt k hk).1
    omega
def bothF (x y : Bool) : Bool := x && y

set_option maxRecDepth 100000 in
set_option maxHeartbeats 16000000 in
theorem implProductBoth_any (a b : Au) (A B A' B' : Option Addr) (c d c' d' : Nat) (w : World) (ha : AuAt w A c B d a) (hb : AuAt w A' c' B' d' b) :
    Calls Tryz.prog 31 #[a.val A c B d, b.val A' c' B' d', .int .i64 0] w (PrPost w (pdA a b bothF) (pdK a b bothF)) := by
  obtain ⟨q0i, hbi, hb0, hb1', hb2'⟩ := info_parts infoBoolT
  obtain ⟨w1, hw1, hz1, hB1, hS, hU⟩ := boxed2 w #[Value.int IntKind.i64 a.al, Value.slice A a.nx.length c, Value.slice B a.ac.length d] 41 #[Value.int IntKind.i64 b.al, Value.slice A' b.nx.length c', Value.slice B' b.ac.length d'] 41
  have hz1e : w1.heap.size = w.heap.size + 1 + 1 := by rw [← hw1]; simp
  obtain ⟨w0, hw0, hz0, hB0', -⟩ := boxed w1 #[Value.int IntKind.i64 0, Value.slice none 0 0, Value.slice none 0 0] 41
  have hres : Blk w0 w1.heap.size 41 #[Value.int IntKind.i64 0, Value.slice none 0 0, Value.slice none 0 0] := by
    rw [← hw0]
    exact Blk.new _ _ _
  have hB0 := hB1.trans (hB0'.mono hB1.size)
  have hC0 := hB0'.mono hz1
  have ha0 := hid (ha.later hB0)
  have hb0A := hid (hb.later hB0)
  have hS' := hid (fun (i : Nat) v (hv : (#[Value.int IntKind.i64 a.al, Value.slice A a.nx.length c, Value.slice B a.ac.length d])[i]? = some v) w' (hb : Below w0.heap.size w0 w') => hS i v hv w' (hC0.trans (hb.mono (by omega))))
  have hU' := hid (fun (i : Nat) v (hv : (#[Value.int IntKind.i64 b.al, Value.slice A' b.nx.length c', Value.slice B' b.ac.length d'])[i]? = some v) w' (hb : Below w0.heap.size w0 w') => hU i v hv w' (hC0.trans (hb.mono (by omega))))
  have p0 := hS'.out 0 _ rfl _ (Below.refl _ _)
  have p1 := hS'.out 1 _ rfl _ (Below.refl _ _)
  have p2 := hS'.out 2 _ rfl _ (Below.refl _ _)
  replace ha := hid ha
  replace hb := hid hb
  have hrz := hres.lt
  replace hres := hid hres
  replace hz1e := hid hz1e
  clear hS hU
  unfold AG.Au.val
  go_enter Tryz.func31, Tryz.ntmps31
  go_wp2_with fail
  refine (implAutomatonValid_any a A B c d w0 ha0.out).mono ?_
  rintro e w2 ⟨rfl, hb2⟩
  have hB2 := hB0.trans (hb2.mono hB0.size)
  have hbad : ∀ wx, Below w0.heap.size w0 wx → pdK a b bothF = false → Hid (PrPost w (pdA a b bothF) (pdK a b bothF) (.returned (.tuple #[.agg #[.int .i64 0, .slice none 0 0, .slice none 0 0], .bool false])) (((wx.setCell ⟨w1.heap.size, 0, none⟩ (.int .i64 0)).setCell ⟨w1.heap.size, 1, none⟩ (.slice none 0 0)).setCell ⟨w1.heap.size, 2, none⟩ (.slice none 0 0))) := fun wx hbx hk => hid (by
    have e : pdA a b bothF = auNil := by
      unfold pdK at hk
      unfold pdA
      cases h : pdOpt a b bothF with
      | none => rfl
      | some y => rw [h] at hk; cases hk
    rw [hk, e]
    exact ⟨(((hB0.trans (hbx.mono hB0.size)).setCell (show w.heap.size ≤ w1.heap.size by omega) _).setCell (show w.heap.size ≤ w1.heap.size by omega) _).setCell (show w.heap.size ≤ w1.heap.size by omega) _, _, _, [], rfl, AuOwn.nil _ _⟩)
  replace hbad := hid hbad
  clear p0 p1 p2 hw0 hw1
  cases hoka : auOk a
  case false =>
    have hfin := hbad.out w2 hb2 (by unfold pdK pdOpt; rw [hoka]; rfl)
    have q0 := (hres.out.below hb2 hres.out.lt).cell 0
    have q1 := (hres.out.below hb2 hres.out.lt).cell 1
    have q2 := (hres.out.below hb2 hres.out.lt).cell 2
    have f0 := (hres.out.below hb2 hres.out.lt).frozen 0
    have f1 := (hres.out.below hb2 hres.out.lt).frozen 1
    have f2 := (hres.out.below hb2 hres.out.lt).frozen 2
    simp only [List.getElem?_toArray, List.getElem?_cons_zero, List.getElem?_cons_succ] at q0 q1 q2
    replace hoka := hid hoka
    go_wp2
    refine bodyPost_ret (v := .tuple #[.agg #[.int .i64 0, .slice none 0 0, .slice none 0 0], .bool false]) (by simp [results, Tryz.results31, go_sem, q0, q1, q2]) rfl ?_
    exact hfin.out
  case true =>
  have hoka' := hid hoka
  clear hoka
  have u0 := hU'.out 0 _ rfl _ hb2
  have u1 := hU'.out 1 _ rfl _ hb2
  have u2 := hU'.out 2 _ rfl _ hb2
  go_wp2_with fail
  refine (implAutomatonValid_any b A' B' c' d' w2 (hb0A.out.later hb2)).mono ?_
  rintro e w3 ⟨rfl, hb3⟩
  have hb03 := hb2.trans (hb3.mono hb2.size)
  have hB3 := hB0.trans (hb03.mono hB0.size)
  clear u0 u1 u2
  cases hokb : auOk b
  case false =>
    have hfin := hbad.out w3 hb03 (by unfold pdK pdOpt; rw [hokb, Bool.and_false]; rfl)
    have q0 := (hres.out.below hb03 hres.out.lt).cell 0
    have q1 := (hres.out.below hb03 hres.out.lt).cell 1
    have q2 := (hres.out.below hb03 hres.out.lt).cell 2
    have f0 := (hres.out.below hb03 hres.out.lt).frozen 0
    have f1 := (hres.out.below hb03 hres.out.lt).frozen 1
    have f2 := (hres.out.below hb03 hres.out.lt).frozen 2
    simp only [List.getElem?_toArray, List.getElem?_cons_zero, List.getElem?_cons_succ] at q0 q1 q2
    replace hokb := hid hokb
    go_wp2
    refine bodyPost_ret (v := .tuple #[.agg #[.int .i64 0, .slice none 0 0, .slice none 0 0], .bool false]) (by simp [results, Tryz.results31, go_sem, q0, q1, q2]) rfl ?_
    exact hfin.out
  case true =>
  have hokb' := hid hokb
  clear hokb
  obtain ⟨hala, hn1, hn12, hn3, -⟩ := (auOk_iff a).1 hoka'.out
  obtain ⟨halb, hm1, hm12, hm3, -⟩ := (auOk_iff b).1 hokb'.out
  have hala' := alphaOk_rng hala
  have halb' := alphaOk_rng halb
  obtain ⟨al, hal⟩ : ∃ al, Hid (al = orB a.al b.al) := ⟨_, hid rfl⟩
  have eor : bits .or .i64 a.al b.al = al := by rw [bits_or (by omega) (by omega), hal.out]
  have halr : Hid (0 ≤ al ∧ al ≤ 63) := hid (by rw [hal.out]; exact orB_range hala' halb')
  replace hala := hid hala
  replace halb := hid halb
  replace hala' := hid hala'
  replace halb' := hid halb'
  replace hn3 := hid hn3
  replace hm3 := hid hm3
  replace eor := hid eor
  have ha3 := hid (ha0.out.later hb03)
  have hb3A := hid (hb0A.out.later hb03)
  have hF := fun x => hb03.trans ((Fam.below w3.heap.size w3 x).mono hb03.size)
  have y0 := fun x => hS'.out 0 _ rfl _ (hF x)
  have y1 := fun x => hS'.out 1 _ rfl _ (hF x)
  have y2 := fun x => hS'.out 2 _ rfl _ (hF x)
  have v0 := fun x => hU'.out 0 _ rfl _ (hF x)
  have v1 := fun x => hU'.out 1 _ rfl _ (hF x)
  have v2 := fun x => hU'.out 2 _ rfl _ (hF x)
  clear hF
  go_upto_region 3 with fail
  refine wp_region_grow2 6 w3.heap.size w3 (fun i u w' => if i = 1 then ∃ g, u = .slice (some ⟨g, 0, none⟩) a.nx.length a.nx.length ∧ TabA w' g a.nx.length a else ∃ g, u = .slice (some ⟨g, 0, none⟩) b.nx.length b.nx.length ∧ TabA w' g b.nx.length b) (fun i => i == 4 || i == 5) (by kernel_rfl) (by kernel_rfl) (Nat.le_refl _) (Below.refl _ _) ?_
  simp only [List.take_succ_cons, List.take_zero, List.drop_succ_cons, List.drop_zero]
  (repeat (refine grow_quiet (by rfl) (by rfl) (by rfl) ?_; intro K hK; go_big_quiet_op; go_big_quiet_on))
  refine grow_call (by rfl) (by rfl) (fun u v v' hb h => ?_) (fun wq hbq _ => ?_) fun u hu => ?_
  · obtain ⟨g, e, h⟩ := h
    exact ⟨g, e, h.later hb⟩
  · go_simp
    refine ⟨rfl, (tableOf_any a A B c d wq (by omega) (tabOk_of hoka'.out) (ha3.out.later hbq)).mono ?_⟩
    rintro e w3 ⟨g, rfl, hg, hb3⟩
    exact ⟨_, rfl, hb3, g, rfl, hg⟩
  obtain ⟨wx, -, gS, rfl, -⟩ := hu
  simp only [Act.put, List.setIfInBounds_toArray, List.set_cons_zero, List.set_cons_succ]
  (repeat (refine grow_quiet (by rfl) (by rfl) (by rfl) ?_; intro K hK; go_big_quiet_op; go_big_quiet_on))
  refine grow_call (by rfl) (by rfl) (fun u v v' hb h => ?_) (fun wq hbq _ => ?_) fun u hu => ?_
  · obtain ⟨g, e, h⟩ := h
    exact ⟨g, e, h.later hb⟩
  · go_simp
    refine ⟨rfl, (tableOf_any b A' B' c' d' wq (by omega) (tabOk_of hokb'.out) (hb3A.out.later hbq)).mono ?_⟩
    rintro e w3 ⟨g, rfl, hg, hb3⟩
    exact ⟨_, rfl, hb3, g, rfl, hg⟩
  obtain ⟨wx', -, gT, rfl, -⟩ := hu
  simp only [Act.put, List.setIfInBounds_toArray, List.set_cons_zero, List.set_cons_succ]
  refine grow_new (by rfl) (fun b => .pointer (some ⟨b, 0, none⟩)) 103 #[.slice none 0 0] (fun _ => by go_simp) (fun _ => rfl) (Nat.le_refl _) fun bS hbS => ?_
  simp only [Act.put, List.setIfInBounds_toArray, List.set_cons_zero, List.set_cons_succ]
  refine grow_new (by rfl) (fun b => .pointer (some ⟨b, 0, none⟩)) 103 #[.slice none 0 0] (fun _ => by go_simp) (fun _ => rfl) (Nat.le_refl _) fun bT hbT => ?_
  simp only [Act.put, List.setIfInBounds_toArray, List.set_cons_zero, List.set_cons_succ]
  refine grow_nil ?_
  intro w4 hb4 hf hap
  have hne : bS ≠ bT := by
    have := hap 4 5 8 9 _ _ (by decide) (by decide) (by decide) rfl rfl rfl rfl rfl rfl
    simpa [blockOf] using this
  obtain ⟨_, e5, -, hN5⟩ := hf _ List.mem_cons_self
  cases e5
  obtain ⟨_, e4, -, hM4⟩ := hf _ (List.mem_cons_of_mem _ List.mem_cons_self)
  cases e4
  obtain ⟨_, e3, hT3⟩ := hf _ (List.mem_cons_of_mem _ (List.mem_cons_of_mem _ List.mem_cons_self))
  cases e3
  obtain ⟨_, e1, hS3⟩ := hf _ (List.mem_cons_of_mem _ (List.mem_cons_of_mem _ (List.mem_cons_of_mem _ List.mem_cons_self)))
  cases e1
  clear hf hap y0 y1 y2 v0 v1 v2
  have hBS : Blk w4 bS 103 #[.slice none 0 0] := hM4
  have hBT : Blk w4 bT 103 #[.slice none 0 0] := hN5
  clear hM4 hN5
  have hgm : ∀ g b n (x : Au), 1 ≤ n → Blk w4 b 103 #[.slice none 0 0] → TabA w4 g n x → g ≠ b := fun g b n x hn hb hm e => by
    subst e
    have h1 := hm.2 0 0 (by omega) (by omega)
    have h2 := hb.cell 0
    simp at h2
    simp [h2] at h1
  have g1 := hgm gS bS _ _ hn1 hBS hS3
  have g2 := hgm gS bT _ _ hn1 hBT hS3
  have g3 := hgm gT bS _ _ hm1 hBS hT3
  have g4 := hgm gT bT _ _ hm1 hBT hT3
  clear hgm
  obtain ⟨w5, hw5⟩ : ∃ w5, (w4.setCell ⟨bS, 0, none⟩ (.slice (some ⟨gS, 0, none⟩) a.nx.length a.nx.length)).setCell ⟨bT, 0, none⟩ (.slice (some ⟨gT, 0, none⟩) b.nx.length b.nx.length) = w5 := ⟨_, rfl⟩
  have hb35 : Below w3.heap.size w3 w5 := by
    rw [← hw5]
    exact (hb4.setCell hbS _).setCell hbT _
  have hS4 : TabA w5 gS a.nx.length a := by
    have := (hS3.far ⟨bS, 0, none⟩ (.slice (some ⟨gS, 0, none⟩) a.nx.length a.nx.length) g1).far ⟨bT, 0, none⟩ (.slice (some ⟨gT, 0, none⟩) b.nx.length b.nx.length) g2
    rw [hw5] at this
    exact this
  have hT4 : TabA w5 gT b.nx.length b := by
    have := (hT3.far ⟨bS, 0, none⟩ (.slice (some ⟨gS, 0, none⟩) a.nx.length a.nx.length) g3).far ⟨bT, 0, none⟩ (.slice (some ⟨gT, 0, none⟩) b.nx.length b.nx.length) g4
    rw [hw5] at this
    exact this
  have hcS : w5.cell? ⟨bS, 0, none⟩ = some (.slice (some ⟨gS, 0, none⟩) a.nx.length a.nx.length) := by
    rw [← hw5, setFar_cell _ _ _ (by simpa using hne)]
    have := (hBS.set_ 0 (.slice (some ⟨gS, 0, none⟩) a.nx.length a.nx.length)).cell 0
    simpa using this
  have hBT' : Blk (w4.setCell ⟨bS, 0, none⟩ (.slice (some ⟨gS, 0, none⟩) a.nx.length a.nx.length)) bT 103 #[.slice none 0 0] := (Below.heap_setCell _ _ _ _ (Ne.symm hne)).trans hBT
  have hcT : w5.cell? ⟨bT, 0, none⟩ = some (.slice (some ⟨gT, 0, none⟩) b.nx.length b.nx.length) := by
    rw [← hw5]
    have := (hBT'.set_ 0 (.slice (some ⟨gT, 0, none⟩) b.nx.length b.nx.length)).cell 0
    simpa using this
  have c1 := hBS.cell 0
  have c2 := hBT'.cell 0
  simp only [List.getElem?_toArray, List.getElem?_cons_zero] at c1 c2
  have z1' := hBS.frozen 0
  have z2' := hBT'.frozen 0
  have k1 := hcT
  rw [← hw5] at k1
  replace hS4 := hid hS4
  replace hT4 := hid hT4
  replace hcS := hid hcS
  replace hcT := hid hcT
  replace hw5 := hid hw5
  replace hBS := hid hBS
  replace hBT := hid hBT
  replace hBT' := hid hBT'
  clear hS3 hT3
  go_upto_region 4 with fail
  rw [hw5.out]
  clear c1 c2 z1' z2' k1 hw5 hne g1 g2 g3 g4
  have hb05 := hb03.trans (hb35.mono hb03.size)
  have k1 := hcT.out
  go_upto_region 5 with fail
  clear k1
  obtain ⟨w6, hw6, hz6, hb6, hN⟩ := boxed w5 #[.int .i64 (b.nx.length : Nat)] 3
  rw [hw6]
  clear hw6
  obtain ⟨bN, hbN⟩ : ∃ x, Hid (x = w5.heap.size) := ⟨_, hid rfl⟩
  have hb06 := hb05.trans (hb6.mono hb05.size)
  have hcN : Hid (∀ w', Below w6.heap.size w6 w' → w'.cell? ⟨bN, 0, none⟩ = some (.int .i64 (b.nx.length : Nat))) := hid fun w' hb => by rw [hbN.out]; exact hN 0 _ rfl w' (hb.mono hz6)
  rw [← hbN.out]
  clear hN
  have y0 := hS'.out 0 _ rfl _ hb06
  have v0 := hU'.out 0 _ rfl _ hb06
  have eor' := eor.out
  go_upto_region 6 with fail
  clear y0 v0 eor'
  have hnew := Blk.new w6 41 #[.int .i64 al, .slice none 0 0, .slice none 0 0]
  obtain ⟨w7, hw7, hz7, hb7, -⟩ := boxed w6 #[.int .i64 al, .slice none 0 0, .slice none 0 0] 41
  rw [hw7] at hnew ⊢
  clear hw7
  obtain ⟨gO, hgO⟩ : ∃ x, Hid (x = w6.heap.size) := ⟨_, hid rfl⟩
  rw [← hgO.out] at hnew ⊢
  have hb07 := hb06.trans (hb7.mono hb06.size)
  have hb67 := hid hb7
  have k0 := hnew.cell 0
  simp only [List.getElem?_toArray, List.getElem?_cons_zero] at k0
  replace hnew := hid hnew
  go_wp2_with fail
  refine (lettersOf_any al w7).mono ?_
  rintro e w8 ⟨lv, rfl, hown8, hb8⟩
  obtain ⟨AL, cL, rfl, hcL, hcL', hLL⟩ := OwnNats.read hown8
  have hb08 := hb07.trans (hb8.mono hb07.size)
  have hb68 := hb7.trans (hb8.mono hb7.size)
  have hb58 := hb6.trans (hb68.mono hb6.size)
  have hNum : Hid (NumOk w8 (fun q => q < a.nx.length * b.nx.length) (letters al) (pdNx a b) 83 #[.pointer (some ⟨bS, 0, none⟩), .pointer (some ⟨bN, 0, none⟩), .pointer (some ⟨bT, 0, none⟩)]) := hid (pdStep_ok hoka'.out hokb'.out (fun l hl => (letters_lt hl).1) (hS4.out.later hb58) (hT4.out.later hb58) ((hb58.cell (World.block_lt_of_cell? _ _ hcS.out)).trans hcS.out) (hcN.out w8 hb68) ((hb58.cell (World.block_lt_of_cell? _ _ hcT.out)).trans hcT.out))
  have hLL' := hid hLL
  have hpos : 0 < a.nx.length * b.nx.length := Nat.mul_pos hn1 hm1
  replace hpos := hid hpos
  clear hown8 hLL k0
  go_wp2_with fail
  refine (numbered_any w8 (fun q => q < a.nx.length * b.nx.length) (letters al) (pdNx a b) 83 _ 0 12 AL cL hNum.out hpos.out (by omega) (by omega) (lettersTo_len al 6) hcL hcL' hLL'.out).mono ?_
  rintro e w9 ⟨hb9, hpost⟩
  have hb09 := hb08.trans (hb9.mono hb08.size)
  have hres9 := hres.out.below hb09 hres.out.lt
  have q0 := hres9.cell 0
  have q1 := hres9.cell 1
  have q2 := hres9.cell 2
  have f0 := hres9.frozen 0
  have f1 := hres9.frozen 1
  have f2 := hres9.frozen 2
  simp only [List.getElem?_toArray, List.getElem?_cons_zero, List.getElem?_cons_succ] at q0 q1 q2
  replace hres9 := hid hres9
  have hnum : Hid (pdNum a b = numRes (pdNx a b) (letters al) 0 12) := hid (by rw [hal.out]; rfl)
  rw [← hnum.out] at hpost
  cases hpn : pdNum a b with
  | none =>
    rw [hpn] at hpost
    subst hpost
    have hfin := hbad.out w9 hb09 (by unfold pdK pdOpt; rw [hoka'.out, hokb'.out, hpn]; rfl)
    replace hpn := hid hpn
    unfold numV
    go_wp2
    refine bodyPost_ret (v := .tuple #[.agg #[.int .i64 0, .slice none 0 0, .slice none 0 0], .bool false]) (by simp [results, Tryz.results31, go_sem, q0, q1, q2]) rfl ?_
    exact hfin.out
  | some x =>
    rw [hpn] at hpost
    obtain ⟨v1, v2, xs, rfl, hv1, hv2, hxs⟩ := hpost
    have hgood : Hid (pdA a b bothF = pdAu a b bothF x ∧ pdK a b bothF = true) := hid (by unfold pdA pdK pdOpt; rw [hoka'.out, hokb'.out, hpn]; exact ⟨rfl, rfl⟩)
    have hxl : x.1.length ≤ 12 := (numRes_len hpn).1
    have hxq : Hid (∀ q ∈ x.1, q < a.nx.length * b.nx.length) := hid (by
      rw [(numRes_spec hpn).1]
      exact nsAt_all (P := fun q => q < a.nx.length * b.nx.length) hpos.out (fun q hq l _ => pd_lt hoka'.out hokb'.out hq) _)
    replace hpn := hid hpn
    obtain ⟨AS, cS, rfl, hcS1, hcS', -⟩ := OwnNats.read hv1
    obtain ⟨AR, cR, rfl, hcR, hcR'⟩ := own_slice hv2.own
    unfold numV
    have hb79 := hb8.trans (hb9.mono hb8.size)
    have hgX := hnew.out.below hb79 hnew.out.lt
    have o1 := hgX.cell 1
    have z1 := hgX.frozen 1
    simp only [List.getElem?_toArray, List.getElem?_cons_zero, List.getElem?_cons_succ] at o1
    have hgw : w1.heap.size < gO := by have := hgO.out; have := hb06.size; omega
    have hg9 := hgX.lt
    obtain ⟨wK, hwK⟩ : ∃ wK, w9.setCell ⟨gO, 1, none⟩ (.slice AR xs.length cR) = wK := ⟨_, rfl⟩
    have hkK : KeepB (fun b => b = gO) w9 wK := by rw [← hwK]; exact (KeepB.refl _ _).setCell _ _ fun _ => rfl
    have hSt0 : Hid (PdSt wK wK gO al (.slice AR xs.length cR) (.slice none 0 0) ((x.1.take 0).map (pdF a b bothF))) := hid ⟨by rw [← hwK]; simpa using hgX.set_ 1 (.slice AR xs.length cR), World.ownsRow_nil _ _ _ _, KeepB.refl _ _, by rw [← hwK]; simpa using hg9⟩
    have hQ3 : Hid (∀ wr, KeepB (fun b => b = gO) wK wr → NatsAt wr wr.heap.size AS x.1) := hid fun wr hk => by
      obtain ⟨A', c', e, -, -, h⟩ := OwnNats.read (own_keep hv1 (hkK.trans hk) fun g hg e => own_ne hv1 hgX (by decide) g hg e)
      cases e
      exact h
    have hR3 : Hid (∀ wr, KeepB (fun b => b = gO) wK wr → RowsOwn wr w8.heap.size (.slice AR xs.length cR) xs) := hid fun wr hk => hv2.keep (hkK.trans hk) (fun g hg e => own_ne hv2.own hgX (by decide) g hg e) (fun y hy g hg e => own_ne (hv2.rows y hy) hgX (by decide) g hg e)
    have hgw0 : w0.heap.size ≤ gO := by have := hgO.out; have := hb06.size; omega
    have hW3 : Hid (∀ wr, KeepB (fun b => b = gO) wK wr → Below w0.heap.size w0 wr) := hid fun wr hk => KeepB.below hb09 (hkK.trans hk) hb09.size fun k e => by omega
    have hC3 : Hid (∀ wr, KeepB (fun b => b = gO) wK wr → wr.cell? ⟨bN, 0, none⟩ = some (.int .i64 (b.nx.length : Nat))) := hid fun wr hk => cell_keep (hkK.trans hk) (by have := hgO.out; have := hbN.out; omega) (hcN.out w9 (hb67.out.trans (hb79.mono hb67.out.size)))
    have hz89 := hb9.size
    replace hgX := hid hgX
    replace hv1 := hid hv1
    replace hv2 := hid hv2
    replace hkK := hid hkK
    clear q0 q1 q2 f0 f1 f2
    go_upto_region 10 with fail
    try rw [hwK]
    clear o1 z1 hwK
    go_wp2_with fail
    go_loopw [64] (fun iv wr => ∃ (i : Nat) (vA : Value), iv = .int .i64 (i : Nat) ∧ i ≤ x.1.length ∧ PdSt wK wr gO al (.slice AR xs.length cR) vA ((x.1.take i).map (pdF a b bothF))) (fun iv _ => x.1.length - (intOf iv).toNat)
    case atStart => exact ⟨0, _, rfl, Nat.zero_le _, hSt0.out⟩
    case round =>
      clear hSt0
      obtain ⟨i, vA, rfl, hi, hst⟩ := hrel
      obtain ⟨acs, hacs⟩ : ∃ acs, Hid (acs = (x.1.take i).map (pdF a b bothF)) := ⟨_, hid rfl⟩
      rw [← hacs.out] at hst
      have hal2 : acs.length = i := by rw [hacs.out, List.length_map, List.length_take]; omega
      obtain ⟨AA, cA, rfl, hcA, hcA'⟩ := own_slice hst.acc
      by_cases hlt : i < x.1.length
      · obtain ⟨bQ, oQ, hA1, hbQ, hEN⟩ := hQ3.out wr hst.keep (by omega)
        subst hA1
        have a0 := hEN i hlt
        obtain ⟨q, hq⟩ : ∃ q, Hid (q = x.1[i]) := ⟨_, hid rfl⟩
        rw [← hq.out] at a0
        have hqn : q < a.nx.length * b.nx.length := hxq.out q (by rw [hq.out]; exact List.getElem_mem hlt)
        have hq144 : q < 144 := Nat.lt_of_lt_of_le hqn (Nat.le_trans (Nat.mul_le_mul hn12 hm12) (by decide))
        have hQl : q / b.nx.length < a.ac.length := by have h1 := hn3.out; rw [h1]; exact Nat.div_lt_of_lt_mul (by rw [Nat.mul_comm]; exact hqn)
        have hRl : q % b.nx.length < b.ac.length := by have h1 := hm3.out; rw [h1]; exact Nat.mod_lt _ hm1
        have hBr := hW3.out wr hst.keep
        obtain ⟨bB, oB, hB', hbB, hEB⟩ := (ha0.out.later hBr).acc (Nat.lt_of_le_of_lt (Nat.zero_le _) hQl)
        obtain ⟨bD, oD, hD', hbD, hED⟩ := (hb0A.out.later hBr).acc (Nat.lt_of_le_of_lt (Nat.zero_le _) hRl)
        subst hB' hD'
        have a1 := hEB _ hQl
        have a2 := hED _ hRl
        obtain ⟨t1, ht1⟩ : ∃ t, Hid (t = a.ac[q / b.nx.length]) := ⟨_, hid rfl⟩
        obtain ⟨t2, ht2⟩ : ∃ t, Hid (t = b.ac[q % b.nx.length]) := ⟨_, hid rfl⟩
        have hg1 : Hid (a.ac.getD (q / b.nx.length) false = t1) := hid (by rw [ht1.out, List.getD_eq_getElem?_getD, List.getElem?_eq_getElem hQl]; rfl)
        have hg2 : Hid (b.ac.getD (q % b.nx.length) false = t2) := hid (by rw [ht2.out, List.getD_eq_getElem?_getD, List.getElem?_eq_getElem hRl]; rfl)
        rw [← ht1.out] at a1
        rw [← ht2.out] at a2
        obtain ⟨n, hn⟩ : ∃ n, Hid (n = b.nx.length) := ⟨_, hid rfl⟩
        obtain ⟨Q, hQ⟩ : ∃ Q, Hid (Q = q / n) := ⟨_, hid rfl⟩
        obtain ⟨R, hR⟩ : ∃ R, Hid (R = q % n) := ⟨_, hid rfl⟩
        have a3 := hC3.out wr hst.keep
        rw [← hn.out] at a1 a2 a3 hQl hRl
        rw [← hQ.out] at a1 hQl
        rw [← hR.out] at a2 hRl
        have hn1' : 1 ≤ n := by have := hn.out; omega
        have e1 : ((q : Nat) : Int) / ((n : Nat) : Int) = (Q : Int) := by rw [hQ.out]; exact (Int.natCast_ediv q n).symm
        have e2 : ((q : Nat) : Int) % ((n : Nat) : Int) = (R : Int) := by rw [hR.out]; exact (Int.natCast_emod q n).symm
        have e3 : Int.tdiv ((q : Nat) : Int) ((n : Nat) : Int) = (Q : Int) := by rw [Int.tdiv_eq_ediv_of_nonneg (by omega), e1]
        have e4 : Int.tmod ((q : Nat) : Int) ((n : Nat) : Int) = (R : Int) := by rw [Int.tmod_eq_emod_of_nonneg (by omega), e2]
        have hz : ((n : Nat) : Int) ≠ 0 := by omega
        have hz' : (((n : Nat) : Int) == 0) = false := by simpa using hz
        have a4 := hS'.out 2 _ rfl _ hBr
        have a5 := hU'.out 2 _ rfl _ hBr
        have hwl : w.heap.size + 1 < wr.heap.size := by have := hBr.size; omega
        have hwl0 : w.heap.size < wr.heap.size := by omega
        have hbNl := World.block_lt_of_cell? _ _ a3
        have y0 : ∀ x', (Fam wr.heap.size wr x').cell? ⟨w.heap.size, 2, none⟩ = some (.slice (some ⟨bB, oB, none⟩) a.ac.length d) := fun x' => by rw [(Fam.below wr.heap.size wr x').cell (by simpa using hwl0)]; exact a4
        have y1 : ∀ x', (Fam wr.heap.size wr x').cell? ⟨w.heap.size + 1, 2, none⟩ = some (.slice (some ⟨bD, oD, none⟩) b.ac.length d') := fun x' => by rw [(Fam.below wr.heap.size wr x').cell (by simpa using hwl)]; exact a5
        have y2 : ∀ x', (Fam wr.heap.size wr x').cell? ⟨bN, 0, none⟩ = some (.int .i64 (n : Nat)) := fun x' => by rw [(Fam.below wr.heap.size wr x').cell (by simpa using hbNl)]; exact a3
        have y3 : ∀ x', (Fam wr.heap.size wr x').cell? ⟨bB, oB + Q, none⟩ = some (.bool t1) := fun x' => by rw [(Fam.below wr.heap.size wr x').cell (by simpa using hbB)]; exact a1
        have y4 : ∀ x', (Fam wr.heap.size wr x').cell? ⟨bD, oD + R, none⟩ = some (.bool t2) := fun x' => by rw [(Fam.below wr.heap.size wr x').cell (by simpa using hbD)]; exact a2
        have k1 : (0 : Int) ≤ (i : Int) ∧ (i : Int) < (x.1.length : Int) ∧ (0 : Int) ≤ (Q : Int) ∧ (Q : Int) < (a.ac.length : Int) ∧ (0 : Int) ≤ (R : Int) ∧ (R : Int) < (b.ac.length : Int) := by omega
        have hacs2 : Hid (acs ++ [bothF t1 t2] = (x.1.take (i + 1)).map (pdF a b bothF)) := hid (by
          rw [List.take_succ_eq_append_getElem hlt, List.map_append, ← hacs.out, ← hq.out]
          show acs ++ [bothF t1 t2] = acs ++ [pdF a b bothF q]
          unfold pdF
          rw [hg1.out, hg2.out])
        have hac12 : acs.length ≤ 12 := by omega
        have hQ12 : Q < 12 := by have := hn3.out; omega
        have hR12 : R < 12 := by have := hm3.out; omega
        have hst' := hid hst
        replace hEN := hid hEN
        replace hEB := hid hEB
        replace hED := hid hED
        replace hal2 := hid hal2
        have hBr' := hid hBr
        clear hst a1 a2 a3 a4 a5 e1 e2 hBr
        go_upto_region 13 with fail
        clear a0
        refine wp_region_grow 16 wr.heap.size wr (fun _ _ _ => True) (by kernel_rfl) (by kernel_rfl) (Nat.le_refl _) (Below.refl _ _) ?_
        simp only [List.take_succ_cons, List.take_zero, List.drop_succ_cons, List.drop_zero]
        (repeat (refine grow_quiet (by rfl) (by rfl) (by rfl) ?_; intro K hK; go_big_quiet_op; go_big_quiet_on))
        refine grow_nil ?_
        intro w10 hb10 _
        clear y0 y1 y2 y3 y4 e3 e4
        have hst10 := hid (hst'.out.later hb10)
        have hbk := hst10.out.blk
        have d2 := hbk.cell 2
        simp only [List.getElem?_toArray, List.getElem?_cons_zero, List.getElem?_cons_succ] at d2
        have hgl := hbk.lt
        have hoA := hid hst10.out.acc
        have hkz := hst10.out.keep.size
        have hbk' := hid hbk
        clear hbk
        cases t1
        case false =>
          cases t2
          case false =>
            go_wp2_with (at_builtin; refine wpList_append_own_at _ rfl _ _ 39 rfl wK.heap.size 4 q0i (.bool false) 1 1 Tryz.underlying39 hbi hb0 hb1' hb2' rfl (by decide) _ _ _ rfl (hoA.out.alloc _) ⟨w10.heap.size, 0, none⟩ 1 1 [.bool false] rfl rfl (cell_one_new _ _ _) (by intro u hu; simp at hu; subst hu; rfl) (by unfold maxLen; omega) (by omega) (by first | omega | (simp; omega)) ?_; intro v11 w11 hO11 hg11 _ hat11; obtain ⟨Av11, cv11, ev11, -, -⟩ := own_slice hO11; subst ev11; have hst11 := (hst10.out.later ((Below.refl _ w10).alloc (Nat.le_refl _) (.cells #[.bool false] 4))); have hbk11 : Blk w11 gO 41 _ := hst11.blk.keep ((KeepB.refl (fun b => (Value.slice AA acs.length cA).ownBlock = some b) _).grown hg11 (fun k hk _ => hk)) (fun e => own_ne hst11.acc hst11.blk (by decide) _ e rfl); have e2 := hbk11.cell 2; have z2 := hbk11.frozen 2; simp only [List.getElem?_toArray, List.getElem?_cons_zero, List.getElem?_cons_succ] at e2; have hst12 := hid (hst11.put (t := false) hg11 hO11); replace hst11 := hid hst11; replace hbk11 := hid hbk11; clear hO11 hg11 hat11 d2)
            go_roundw
            case rel =>
              have h8 := hst12.out
              rw [show (acs ++ [false]) = acs ++ [bothF false false] from rfl, hacs2.out] at h8
              exact ⟨i + 1, _, by go_num, by omega, h8⟩
            case measure => simp [intOf]; omega
          case true =>
            go_wp2_with (at_builtin; refine wpList_append_own_at _ rfl _ _ 39 rfl wK.heap.size 4 q0i (.bool false) 1 1 Tryz.underlying39 hbi hb0 hb1' hb2' rfl (by decide) _ _ _ rfl (hoA.out.alloc _) ⟨w10.heap.size, 0, none⟩ 1 1 [.bool false] rfl rfl (cell_one_new _ _ _) (by intro u hu; simp at hu; subst hu; rfl) (by unfold maxLen; omega) (by omega) (by first | omega | (simp; omega)) ?_; intro v11 w11 hO11 hg11 _ hat11; obtain ⟨Av11, cv11, ev11, -, -⟩ := own_slice hO11; subst ev11; have hst11 := (hst10.out.later ((Below.refl _ w10).alloc (Nat.le_refl _) (.cells #[.bool false] 4))); have hbk11 : Blk w11 gO 41 _ := hst11.blk.keep ((KeepB.refl (fun b => (Value.slice AA acs.length cA).ownBlock = some b) _).grown hg11 (fun k hk _ => hk)) (fun e => own_ne hst11.acc hst11.blk (by decide) _ e rfl); have e2 := hbk11.cell 2; have z2 := hbk11.frozen 2; simp only [List.getElem?_toArray, List.getElem?_cons_zero, List.getElem?_cons_succ] at e2; have hst12 := hid (hst11.put (t := false) hg11 hO11); replace hst11 := hid hst11; replace hbk11 := hid hbk11; clear hO11 hg11 hat11 d2)
            go_roundw
            case rel =>
              have h8 := hst12.out
              rw [show (acs ++ [false]) = acs ++ [bothF false true] from rfl, hacs2.out] at h8
              exact ⟨i + 1, _, by go_num, by omega, h8⟩
            case measure => simp [intOf]; omega
        case true =>
          cases t2
          case false =>
            go_wp2_with (at_builtin; refine wpList_append_own_at _ rfl _ _ 39 rfl wK.heap.size 4 q0i (.bool false) 1 1 Tryz.underlying39 hbi hb0 hb1' hb2' rfl (by decide) _ _ _ rfl (hoA.out.alloc _) ⟨w10.heap.size, 0, none⟩ 1 1 [.bool false] rfl rfl (cell_one_new _ _ _) (by intro u hu; simp at hu; subst hu; rfl) (by unfold maxLen; omega) (by omega) (by first | omega | (simp; omega)) ?_; intro v11 w11 hO11 hg11 _ hat11; obtain ⟨Av11, cv11, ev11, -, -⟩ := own_slice hO11; subst ev11; have hst11 := (hst10.out.later ((Below.refl _ w10).alloc (Nat.le_refl _) (.cells #[.bool false] 4))); have hbk11 : Blk w11 gO 41 _ := hst11.blk.keep ((KeepB.refl (fun b => (Value.slice AA acs.length cA).ownBlock = some b) _).grown hg11 (fun k hk _ => hk)) (fun e => own_ne hst11.acc hst11.blk (by decide) _ e rfl); have e2 := hbk11.cell 2; have z2 := hbk11.frozen 2; simp only [List.getElem?_toArray, List.getElem?_cons_zero, List.getElem?_cons_succ] at e2; have hst12 := hid (hst11.put (t := false) hg11 hO11); replace hst11 := hid hst11; replace hbk11 := hid hbk11; clear hO11 hg11 hat11 d2)
            go_roundw
            case rel =>
              have h8 := hst12.out
              rw [show (acs ++ [false]) = acs ++ [bothF true false] from rfl, hacs2.out] at h8
              exact ⟨i + 1, _, by go_num, by omega, h8⟩
            case measure => simp [intOf]; omega
          case true =>
            go_wp2_with (at_builtin; refine wpList_append_own_at _ rfl _ _ 39 rfl wK.heap.size 4 q0i (.bool false) 1 1 Tryz.underlying39 hbi hb0 hb1' hb2' rfl (by decide) _ _ _ rfl (hoA.out.alloc _) ⟨w10.heap.size, 0, none⟩ 1 1 [.bool true] rfl rfl (cell_one_new _ _ _) (by intro u hu; simp at hu; subst hu; rfl) (by unfold maxLen; omega) (by omega) (by first | omega | (simp; omega)) ?_; intro v11 w11 hO11 hg11 _ hat11; obtain ⟨Av11, cv11, ev11, -, -⟩ := own_slice hO11; subst ev11; have hst11 := (hst10.out.later ((Below.refl _ w10).alloc (Nat.le_refl _) (.cells #[.bool true] 4))); have hbk11 : Blk w11 gO 41 _ := hst11.blk.keep ((KeepB.refl (fun b => (Value.slice AA acs.length cA).ownBlock = some b) _).grown hg11 (fun k hk _ => hk)) (fun e => own_ne hst11.acc hst11.blk (by decide) _ e rfl); have e2 := hbk11.cell 2; have z2 := hbk11.frozen 2; simp only [List.getElem?_toArray, List.getElem?_cons_zero, List.getElem?_cons_succ] at e2; have hst12 := hid (hst11.put (t := true) hg11 hO11); replace hst11 := hid hst11; replace hbk11 := hid hbk11; clear hO11 hg11 hat11 d2)
            go_roundw
            case rel =>
              have h8 := hst12.out
              rw [show (acs ++ [true]) = acs ++ [bothF true true] from rfl, hacs2.out] at h8
              exact ⟨i + 1, _, by go_num, by omega, h8⟩
            case measure => simp [intOf]; omega
      · obtain rfl : i = x.1.length := by omega
        rw [List.take_length] at hacs
        have hbk := hst.blk
        have d0 := hbk.cell 0
        have d1 := hbk.cell 1
        have d2 := hbk.cell 2
        have hBr := hW3.out wr hst.keep
        have hresr := hres.out.below hBr hres.out.lt
        have q0 := hresr.cell 0
        have q1 := hresr.cell 1
        have q2 := hresr.cell 2
        have f0 := hresr.frozen 0
        have f1 := hresr.frozen 1
        have f2 := hresr.frozen 2
        simp only [List.getElem?_toArray, List.getElem?_cons_zero, List.getElem?_cons_succ] at q0 q1 q2 d0 d1 d2
        have hkz := hst.keep.size
        have hlow := hst.low
        have hau : Hid (AuOwn wr w8.heap.size (.slice AR xs.length cR) (.slice AA acs.length cA) (pdAu a b bothF x) xs) := hid (by
          refine ⟨hR3.out wr hst.keep, by rw [hxs]; rfl, ?_⟩
          show wr.ownsRow w8.heap.size 4 1 _ (x.1.map (pdF a b bothF)).length (boolVals (x.1.map (pdF a b bothF)))
          rw [← hacs.out]
          exact own_base hst.acc (by have := hkK.out.size; omega))
        have hlt2 : w1.heap.size < w8.heap.size := by have := hb68.size; have := hb06.size; omega
        have hBw := hB0.trans (hBr.mono hB0.size)
        replace hst := hid hst
        replace hbk := hid hbk
        replace hresr := hid hresr
        obtain ⟨nA, hnA⟩ : ∃ nA, nA = acs.length := ⟨_, rfl⟩
        rw [← hnA] at hau d2
        replace hnA := hid hnA
        replace hal2 := hid hal2
        have hpal : Hid ((pdAu a b bothF x).al = al) := hid (by rw [hal.out]; rfl)
        go_wp2
        refine bodyPost_ret (v := .tuple #[.agg #[.int .i64 al, .slice AR xs.length cR, .slice AA nA cA], .bool true]) (by simp [results, Tryz.results31, go_sem, q0, q1, q2]) rfl ?_
        rw [hgood.out.1, hgood.out.2]
        exact ⟨((hBw.setCell (show w.heap.size ≤ w1.heap.size by omega) _).setCell (show w.heap.size ≤ w1.heap.size by omega) _).setCell (show w.heap.size ≤ w1.heap.size by omega) _, _, _, xs, by rw [hpal.out], (((hau.out.setFar hlt2 _).setFar hlt2 _).setFar hlt2 _).base (by have := hb08.size; have := hB0.size; omega)⟩

end Go.Proofs.YtdkjnemakkppfaaGreatDoor
