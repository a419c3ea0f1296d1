/- Lemmas, part 12: several texts in one. -/
import Derived.Test.YtdkjnemakkppfaaGreatDoorY11
import Derived.Test.YtdkjnemakkppfaaGreatDoorY2
import Derived.Test.YtdkjnemakkppfaaGreatDoorY3
import Derived.Test.YtdkjnemakkppfaaGreatDoorY6
import Derived.Test.YtdkjnemakkppfaaGreatDoorY7
import Derived.Laws.AppendOwnNone
import Derived.Deep.DeepCutAuto
import Derived.Deep.AppendLies
import Derived.Test.YtdkjnemakkppfaaGreatDoorY5
set_option linter.unusedSimpArgs false
set_option linter.unusedVariables false

/- The program's SystemOf. -/
namespace Go.Proofs.YtdkjnemakkppfaaGreatDoor
open Go.RowKit Go.BigFrame AG

structure SoSt2 (w0 wr : World) (gs : Nat) (al st : Int) (v : Value) (es : List Ed) (lv : Value) (L : List Nat) (mv : Value) (M : List Nat) : Prop where
  so : SoSt w0 wr gs al st v es lv L
  mem : OwnNats wr w0.heap.size mv M
theorem SoSt2.later {w0 wr w1 : World} {gs : Nat} {al st : Int} {v lv mv : Value} {es : List Ed} {L M : List Nat} (h : SoSt2 w0 wr gs al st v es lv L mv M) (hb : Below wr.heap.size wr w1) : SoSt2 w0 w1 gs al st v es lv L mv M := ⟨h.so.later hb, own_later h.mem hb⟩
theorem SoSt2.add {w0 wr w1 : World} {gs gg cap : Nat} {al st : Int} {v lv mv : Value} {es : List Ed} {L M : List Nat} {x : Ed} (h : SoSt2 w0 wr gs al st v es lv L mv M)
    (hown : w1.ownsRow w0.heap.size 50 3 (.slice (some ⟨gg, 0, none⟩) (es.length + 1) cap) (es.length + 1) (edCells es ++ [.int .i64 x.f, .int .i64 x.l, .int .i64 x.t])) (hg : wr.grownBy w1 v.ownBlock) :
    SoSt2 w0 (w1.setCell ⟨gs, 2, none⟩ (.slice (some ⟨gg, 0, none⟩) (es.length + 1) cap)) gs al st (.slice (some ⟨gg, 0, none⟩) (es.length + 1) cap) (es ++ [x]) lv L mv M :=
  ⟨h.so.add hown hg, (SoSt.add (lv := mv) (L := M) ⟨h.so.sub, h.mem⟩ hown hg).list⟩

end Go.Proofs.YtdkjnemakkppfaaGreatDoor

/- The reference's ComposeSystems. -/
namespace Go.Proofs.YtdkjnemakkppfaaGreatDoor
open Go.RowKit Go.BigFrame AG

theorem two_at {w : World} {g : Nat} {s t : Sy} {A B : Option Addr} {c d : Nat} (hb : Blk w g 25 #[.int .i64 s.al, .int .i64 s.st, .slice A s.es.length c, .int .i64 t.al, .int .i64 t.st, .slice B t.es.length d])
    (hl : s.es.length ≤ c) (hc : c ≤ 9223372036854775807) (hm : t.es.length ≤ d) (hd : d ≤ 9223372036854775807) (hr : EdsAt w w.heap.size A s.es) (hr2 : EdsAt w w.heap.size B t.es) : SysAt w w.heap.size (some ⟨g, 0, none⟩) [s, t] := fun _ =>
  ⟨g, 0, rfl, hb.lt, fun i hi => by
    have h2 : i < 2 := hi
    rcases (show i = 0 ∨ i = 1 by omega) with rfl | rfl
    · exact ⟨hb.cell 0, hb.cell 1, A, c, hb.cell 2, hl, hc, hr⟩
    · exact ⟨hb.cell 3, hb.cell 4, B, d, hb.cell 5, hm, hd, hr2⟩⟩
theorem allAl_two {s t : Sy} (h : 0 ≤ s.al) : allAl [s, t] = orB s.al t.al := by
  show orB (orB 0 s.al) t.al = orB s.al t.al
  have : orB 0 s.al = s.al := by unfold orB; rw [show (0 : Int).toNat = 0 from rfl, Nat.zero_or]; omega
  rw [this]

set_option maxRecDepth 100000 in
set_option maxHeartbeats 16000000 in
theorem specComposeSystems_any (s t : Sy) (A B : Option Addr) (c d : Nat) (w : World) (hl : s.es.length ≤ c) (hc : c ≤ 9223372036854775807) (hm : t.es.length ≤ d) (hd : d ≤ 9223372036854775807) (hr : EdsAt w w.heap.size A s.es) (hr2 : EdsAt w w.heap.size B t.es) :
    Calls Tryz.prog 13 #[s.val A c, t.val B d] w (SoPost w (cmX s t) (cmOk s t)) := by
  obtain ⟨i0, hi, hz0', hz1', hz2'⟩ := info_parts infoEd
  unfold Sy.val
  have hsB := ((Blk.new w 25 #[.int .i64 s.al, .int .i64 s.st, .slice A s.es.length c]).alloc (.cells #[.int .i64 t.al, .int .i64 t.st, .slice B t.es.length d] 25)).alloc (.cells #[.int .i64 0, .int .i64 0, .slice none 0 0] 25)
  have htB := (Blk.new (w.alloc (.cells #[.int .i64 s.al, .int .i64 s.st, .slice A s.es.length c] 25)) 25 #[.int .i64 t.al, .int .i64 t.st, .slice B t.es.length d]).alloc (.cells #[.int .i64 0, .int .i64 0, .slice none 0 0] 25)
  have hrB := Blk.new ((w.alloc (.cells #[.int .i64 s.al, .int .i64 s.st, .slice A s.es.length c] 25)).alloc (.cells #[.int .i64 t.al, .int .i64 t.st, .slice B t.es.length d] 25)) 25 #[.int .i64 0, .int .i64 0, .slice none 0 0]
  have hB0 : Below w.heap.size w (((w.alloc (.cells #[.int .i64 s.al, .int .i64 s.st, .slice A s.es.length c] 25)).alloc (.cells #[.int .i64 t.al, .int .i64 t.st, .slice B t.es.length d] 25)).alloc (.cells #[.int .i64 0, .int .i64 0, .slice none 0 0] 25)) := (((Below.refl _ _).alloc (Nat.le_refl _) _).alloc (by simp) _).alloc (by simp; omega) _
  simp only [World.size_alloc] at htB hrB
  generalize hw0 : ((w.alloc (.cells #[.int .i64 s.al, .int .i64 s.st, .slice A s.es.length c] 25)).alloc (.cells #[.int .i64 t.al, .int .i64 t.st, .slice B t.es.length d] 25)).alloc (.cells #[.int .i64 0, .int .i64 0, .slice none 0 0] 25) = w0 at hsB htB hrB hB0
  have hs0 := hid (hr.later hB0)
  have ht0 := hid (hr2.later hB0)
  have p0 := hsB.cell 0
  have p1 := hsB.cell 1
  have p2 := hsB.cell 2
  simp only [List.getElem?_toArray, List.getElem?_cons_zero, List.getElem?_cons_succ] at p0 p1 p2
  replace hsB := hid hsB
  replace htB := hid htB
  replace hrB := hid hrB
  replace hr := hid hr
  replace hr2 := hid hr2
  go_enter Tryz.func13, Tryz.ntmps13
  go_wp2_with fail
  refine (specSystemValid_any s A c w0 hl hc hs0.out).mono ?_
  rintro e w1 ⟨rfl, hb1⟩
  have hB1 := hB0.trans (hb1.mono hB0.size)
  have hs1 := hid (hs0.out.later hb1)
  have ht1 := hid (ht0.out.later hb1)
  replace hsB := hid (hsB.out.below hb1 hsB.out.lt)
  replace htB := hid (htB.out.below hb1 htB.out.lt)
  replace hrB := hid (hrB.out.below hb1 hrB.out.lt)
  have hzero : cmOk s t = false → ∀ wx, Below w.heap.size w wx → SoPost w (cmX s t) (cmOk s t) (.returned (.tuple #[.agg #[.int .i64 0, .int .i64 0, .slice none 0 0], .bool false])) (((wx.setCell ⟨w.heap.size + 1 + 1, 0, none⟩ (.int .i64 0)).setCell ⟨w.heap.size + 1 + 1, 1, none⟩ (.int .i64 0)).setCell ⟨w.heap.size + 1 + 1, 2, none⟩ (.slice none 0 0)) := fun h wx hb => by
    rw [cmX_bad h, h]
    exact ⟨none, 0, rfl, Nat.le_refl _, by omega, fun h => by simp at h, fun b o h => (by cases h), ((hb.setCell (by simp; omega) _).setCell (by simp; omega) _).setCell (by simp; omega) _⟩
  have d0 := hrB.out.cell 0
  have d1 := hrB.out.cell 1
  have d2 := hrB.out.cell 2
  have f0 := hrB.out.frozen 0
  have f1 := hrB.out.frozen 1
  have f2 := hrB.out.frozen 2
  clear p0 p1 p2 hw0
  have q0 := htB.out.cell 0
  have q1 := htB.out.cell 1
  have q2 := htB.out.cell 2
  simp only [List.getElem?_toArray, List.getElem?_cons_zero, List.getElem?_cons_succ] at d0 d1 d2 q0 q1 q2
  replace hzero := hid hzero
  cases hok : sysOk s
  · have hno := hid (hzero.out (by unfold cmOk; rw [hok]; rfl) w1 hB1)
    replace hok := hid hok
    go_wp2
    refine bodyPost_ret (v := .tuple #[.agg #[.int .i64 0, .int .i64 0, .slice none 0 0], .bool false]) (by simp [results, Tryz.results13, go_sem, d0, d1, d2]) rfl ?_
    exact hno.out
  have hok' := hid hok
  clear hok
  go_wp2_with fail
  refine (specSystemValid_any t B d w1 hm hd ht1.out).mono ?_
  rintro e w2 ⟨rfl, hb2⟩
  have hB2 := hB1.trans (hb2.mono hB1.size)
  have hs2 := hid (hs1.out.later hb2)
  have ht2 := hid (ht1.out.later hb2)
  replace hsB := hid (hsB.out.below hb2 hsB.out.lt)
  replace htB := hid (htB.out.below hb2 htB.out.lt)
  replace hrB := hid (hrB.out.below hb2 hrB.out.lt)
  clear d0 d1 d2 f0 f1 f2 q0 q1 q2
  cases hok2 : sysOk t
  · have hno := hid (hzero.out (by unfold cmOk; rw [hok2, Bool.and_eq_false_iff]; right; rfl) w2 hB2)
    have d0 := hrB.out.cell 0
    have d1 := hrB.out.cell 1
    have d2 := hrB.out.cell 2
    have f0 := hrB.out.frozen 0
    have f1 := hrB.out.frozen 1
    have f2 := hrB.out.frozen 2
    simp only [List.getElem?_toArray, List.getElem?_cons_zero, List.getElem?_cons_succ] at d0 d1 d2
    replace hok2 := hid hok2
    go_wp2
    refine bodyPost_ret (v := .tuple #[.agg #[.int .i64 0, .int .i64 0, .slice none 0 0], .bool false]) (by simp [results, Tryz.results13, go_sem, d0, d1, d2]) rfl ?_
    exact hno.out
  have hall := all_two hok'.out hok2
  have hok2' := hid hok2
  have hsa := (sysOk_alpha hok'.out)
  have hta := (sysOk_alpha hok2)
  have hal : Hid (allAl [s, t] = orB s.al t.al) := hid (allAl_two hsa.1)
  obtain ⟨al, hale⟩ : ∃ al, Hid (al = allAl [s, t]) := ⟨_, hid rfl⟩
  have eor : bits .or .i64 s.al t.al = al := by rw [bits_or (by omega) (by omega), hale.out, hal.out]
  have p0 := hsB.out.cell 0
  have p1 := hsB.out.cell 1
  have p2 := hsB.out.cell 2
  have q0 := htB.out.cell 0
  have q1 := htB.out.cell 1
  have q2 := htB.out.cell 2
  simp only [List.getElem?_toArray, List.getElem?_cons_zero, List.getElem?_cons_succ] at p0 p1 p2 q0 q1 q2
  replace hall := hid hall
  have p0' : ∀ o, (w2.alloc o).cell? ⟨w.heap.size, 0, none⟩ = some (.int .i64 s.al) := fun o => by rw [((Below.refl _ w2).alloc (Nat.le_refl _) o).cell (by simpa using hsB.out.lt)]; exact p0
  have q0' : ∀ o, (w2.alloc o).cell? ⟨w.heap.size + 1, 0, none⟩ = some (.int .i64 t.al) := fun o => by rw [((Below.refl _ w2).alloc (Nat.le_refl _) o).cell (by simpa using htB.out.lt)]; exact q0
  clear hok2
  go_upto_region 4 with fail
  obtain ⟨bS, hbS⟩ : ∃ bS, w2.heap.size = bS := ⟨_, rfl⟩
  obtain ⟨w3, hw3⟩ : ∃ w3, (w2.alloc (.cells #[.int .i64 s.al, .int .i64 s.st, .slice A s.es.length c, .int .i64 t.al, .int .i64 t.st, .slice B t.es.length d] 25)).alloc (.cells #[.slice (some ⟨bS, 0, none⟩) 2 2, .slice none 0 0, .slice none 0 0, .int .i64 al, .int .i64 0, .int .i64 0] 73) = w3 := ⟨_, rfl⟩
  have hb3 : Below w2.heap.size w2 w3 := by rw [← hw3]; exact ((Below.refl _ _).alloc (Nat.le_refl _) _).alloc (by simp) _
  have hsysB : Blk w3 bS 25 #[.int .i64 s.al, .int .i64 s.st, .slice A s.es.length c, .int .i64 t.al, .int .i64 t.st, .slice B t.es.length d] := by rw [← hw3, ← hbS]; exact (Blk.new _ _ _).alloc _
  have hnetB : Blk w3 (bS + 1) 73 #[.slice (some ⟨bS, 0, none⟩) 2 2, .slice none 0 0, .slice none 0 0, .int .i64 al, .int .i64 0, .int .i64 0] := by
    rw [← hw3, ← hbS]
    have := Blk.new (w2.alloc (.cells #[.int .i64 s.al, .int .i64 s.st, .slice A s.es.length c, .int .i64 t.al, .int .i64 t.st, .slice B t.es.length d] 25)) 73 #[.slice (some ⟨w2.heap.size, 0, none⟩) 2 2, .slice none 0 0, .slice none 0 0, .int .i64 al, .int .i64 0, .int .i64 0]
    simpa using this
  obtain ⟨ss, hss⟩ : ∃ ss, Hid (ss = [s, t]) := ⟨_, hid rfl⟩
  have hlen : Hid (ss.length = 2) := hid (by rw [hss.out]; rfl)
  have hSys : Hid (SysAt w3 w3.heap.size (some ⟨bS, 0, none⟩) ss) := hid (by rw [hss.out]; exact two_at hsysB hl hc hm hd (hs2.out.later hb3) (ht2.out.later hb3))
  have hB3 := hB2.trans (hb3.mono hB2.size)
  rw [← hss.out] at hall hale
  have hnet := hid (fun (w' : World) (hb : Below w3.heap.size w3 w') => (show (w'.cell? ⟨bS + 1, 0, none⟩ = some (.slice (some ⟨bS, 0, none⟩) 2 2) ∧ w'.cell? ⟨bS + 1, 1, none⟩ = some (.slice none 0 0) ∧ w'.cell? ⟨bS + 1, 2, none⟩ = some (.slice none 0 0)) ∧ w'.cell? ⟨bS + 1, 3, none⟩ = some (.int .i64 al) ∧ w'.cell? ⟨bS + 1, 4, none⟩ = some (.int .i64 0) ∧ w'.cell? ⟨bS + 1, 5, none⟩ = some (.int .i64 0) from by
    have h := hnetB.below hb hnetB.lt
    exact ⟨⟨h.cell 0, h.cell 1, h.cell 2⟩, h.cell 3, h.cell 4, h.cell 5⟩))
  have hbSl : bS + 1 < w3.heap.size := hnetB.lt
  replace hrB := hid (hrB.out.below hb3 hrB.out.lt)
  rw [hbS, hw3]
  have hz4 := l4Sizes_sys ss (some ⟨bS, 0, none⟩) 2 (.slice none 0 0) al 0 0 w3 (by rw [hlen.out]; decide) hall.out hSys.out
  unfold netV at hz4
  rw [hlen.out] at hz4
  replace hz4 := hid hz4
  obtain ⟨⟨n0, n1, n2⟩, n3, n4, n5⟩ := hnet.out w3 (Below.refl _ _)
  clear hsB htB hs2 ht2 hs1 ht1 hs0 ht0 hsysB hnetB hw3 hb3 p0 p1 p2 q0 q1 q2 p0' q0' eor hb2 hb1 hB1 hB2
  replace hbS := hid hbS
  go_wp2_with fail
  refine hz4.out.mono ?_
  rintro e w4 ⟨vS, rfl, hoS, hb4⟩
  obtain ⟨AS, cS, rfl, hcS, hcS', hSN⟩ := OwnNats.read hoS
  have hz5 := l7Pairs_any ss (some ⟨bS, 0, none⟩) AS 2 cS (.slice none 0 0) 0 0 w4 hlen.out hall.out (hSys.out.later hb4) hcS hcS' hSN
  unfold netV at hz5
  rw [hlen.out, ← hale.out] at hz5
  replace hz5 := hid hz5
  have hSN4 := hid hSN
  have hB4 := hB3.trans (hb4.mono hB3.size)
  clear n0 n1 n2 n3 n4 n5 hz4 hSN hoS
  obtain ⟨⟨n0, n1, n2⟩, n3, n4, n5⟩ := hnet.out w4 hb4
  go_wp2_with fail
  refine hz5.out.mono ?_
  rintro e w5 ⟨AB, cB, rfl, hcB, hcB', hBN, hb5⟩
  have hB5 := hB4.trans (hb5.mono hB4.size)
  have hb35 := hb4.trans (hb5.mono hb4.size)
  have hSN5 := hid (hSN4.out.later hb5)
  have hBN5 := hid hBN
  have hSys5 := hid (hSys.out.later hb35)
  have hl4 : (rnB ss).length ≤ 4096 := by rw [rnB_len]; exact (prodP_4096 hall.out (by rw [hlen.out]; decide)).2
  obtain ⟨R, hR⟩ : ∃ R, Hid (R = (rnL ss).length) := ⟨_, hid rfl⟩
  have hcnt : Hid (cntT (rnB ss) (rnB ss).length = R) := hid (by rw [hR.out, cntT_rank ss _ (by rw [rnB_len]; exact Nat.le_refl _), rnB_len, rkN_all])
  have hRl : R ≤ 4096 := by rw [← hcnt.out]; exact Nat.le_trans (cntT_le _ _) hl4
  replace hrB := hid (hrB.out.below hb35 hrB.out.lt)
  clear n0 n1 n2 n3 n4 n5 hz5 hSN4 hSys hBN
  have n3 := (hnet.out w5 hb35).2.1
  have y3 : ∀ x', (Fam w5.heap.size w5 x').cell? ⟨bS + 1, 3, none⟩ = some (.int .i64 al) := fun x' => by rw [(Fam.below w5.heap.size w5 x').cell (by have := hb35.size; simp; omega)]; exact n3
  clear n3
  go_upto_region 6 with fail
  refine wp_region_grow 8 w5.heap.size w5 (fun _ u _ => u = .int .i64 (R : Nat)) (by kernel_rfl) (by kernel_rfl) (Nat.le_refl _) (Below.refl _ _) ?_
  simp only [List.take_succ_cons, List.take_zero, List.drop_succ_cons, List.drop_zero]
  (repeat (refine grow_quiet (by rfl) (by rfl) (by rfl) ?_; intro K hK; go_big_quiet_op; go_big_quiet_on))
  refine grow_val (.int .i64 (R : Nat)) (by rfl) (by rfl) rfl (fun wq hbq _ => ?_) ?_
  · go_simp
    refine ⟨rfl, (l7Rank_any (rnB ss) AB cB (rnB ss).length wq (Nat.le_refl _) hl4 hcB hcB' (hBN5.out.later hbq)).mono ?_⟩
    rintro e w6 ⟨rfl, rfl⟩
    exact ⟨by rw [hcnt.out], Below.refl _ _⟩
  simp only [Act.put, List.setIfInBounds_toArray, List.set_cons_zero, List.set_cons_succ]
  (repeat (refine grow_quiet (by rfl) (by rfl) (by rfl) ?_; intro K hK; go_big_quiet_op; go_big_quiet_on))
  refine grow_new (by rfl) (fun g => .pointer (some ⟨g, 0, none⟩)) 25 #[.int .i64 0, .int .i64 0, .slice none 0 0] (fun _ => by go_simp) (fun _ => rfl) (Nat.le_refl _) fun gs hgs => ?_
  simp only [Act.put, List.setIfInBounds_toArray, List.set_cons_zero, List.set_cons_succ]
  refine grow_nil ?_
  intro w6 hb6 hf
  obtain ⟨g', hge, hgs2, hblk6⟩ := hf _ List.mem_cons_self
  cases hge
  clear hf y3
  have hblk6' : Blk w6 gs 25 #[.int .i64 0, .int .i64 0, .slice none 0 0] := hblk6
  have d0 := hblk6'.cell 0
  have d1 := hblk6'.cell 1
  have d2 := hblk6'.cell 2
  have f0 := hblk6'.frozen 0
  have f1 := hblk6'.frozen 1
  have f2 := hblk6'.frozen 2
  simp only [List.getElem?_toArray, List.getElem?_cons_zero, List.getElem?_cons_succ] at d0 d1 d2
  replace hblk6' := hid hblk6'
  clear hblk6
  go_upto_region 7 with fail
  obtain ⟨w7, hw7⟩ : ∃ w7, ((w6.setCell ⟨gs, 0, none⟩ (.int .i64 al)).setCell ⟨gs, 1, none⟩ (.int .i64 (R : Nat))).setCell ⟨gs, 2, none⟩ (.slice none 0 0) = w7 := ⟨_, rfl⟩
  have hblk7 : Blk w7 gs 25 #[.int .i64 al, .int .i64 (R : Nat), .slice none 0 0] := by
    rw [← hw7]
    simpa using ((hblk6'.out.set_ 0 (.int .i64 al)).set_ 1 (.int .i64 (R : Nat))).set_ 2 (.slice none 0 0)
  have hb57 : Below w5.heap.size w5 w7 := by rw [← hw7]; exact ((hb6.setCell hgs _).setCell hgs _).setCell hgs _
  rw [hw7]
  have hS7 : Hid (SubSt w5 w7 gs al (R : Nat) (.slice none 0 0) []) := hid ⟨hblk7, World.ownsRow_nil _ _ _ _, hgs, hb57⟩
  have hB7 := hB5.trans (hb57.mono hB5.size)
  have hrB5 := hrB
  replace hrB := hid (hrB.out.below hb57 hrB.out.lt)
  have hokeq : Hid (cmOk s t = decide (R ≤ 16)) := hid (by unfold cmOk; rw [hok'.out, hok2'.out, hR.out, hss.out]; rfl)
  have c1 := hblk7.cell 1
  simp only [List.getElem?_toArray, List.getElem?_cons_zero, List.getElem?_cons_succ] at c1
  clear d0 d1 d2 f0 f1 f2 hw7 hblk6' hblk7
  by_cases hR16 : R ≤ 16
  case neg =>
    have h16 : (16 : Int) < (R : Int) := by omega
    have hno := hid (hzero.out (by rw [hokeq.out]; exact decide_eq_false hR16) w7 hB7)
    have d0 := hrB.out.cell 0
    have d1 := hrB.out.cell 1
    have d2 := hrB.out.cell 2
    have f0 := hrB.out.frozen 0
    have f1 := hrB.out.frozen 1
    have f2 := hrB.out.frozen 2
    simp only [List.getElem?_toArray, List.getElem?_cons_zero, List.getElem?_cons_succ] at d0 d1 d2
    go_wp2
    refine bodyPost_ret (v := .tuple #[.agg #[.int .i64 0, .int .i64 0, .slice none 0 0], .bool false]) (by simp [results, Tryz.results13, go_sem, d0, d1, d2]) rfl ?_
    exact hno.out
  have h16 : ¬ ((16 : Int) < (R : Int)) := by omega
  have hcok : Hid (cmOk s t = true) := hid (by rw [hokeq.out]; exact decide_eq_true hR16)
  have hb37 := hb35.trans (hb57.mono hb35.size)
  have n3 := (hnet.out w7 hb37).2.1
  have hb37' : Hid (Below w3.heap.size w3 w5) := hid hb35
  clear hzero
  go_wp2_with fail
  refine (l1Letters_any al w7).mono ?_
  rintro e w8 ⟨lv, rfl, hown8, hb8⟩
  have hs8 : SoSt w5 w8 gs al (R : Nat) (.slice none 0 0) (esTo ss (rnTo ss 0)) lv (letters al) := ⟨hS7.out.later hb8, own_base hown8 hb57.size⟩
  obtain ⟨AL, cL, rfl, hcL, hcL'⟩ := own_slice hown8
  obtain ⟨L, hL⟩ : ∃ L, Hid (L = letters al) := ⟨_, hid rfl⟩
  rw [← hL.out] at hs8 hcL ⊢
  have hL6 : L.length ≤ 6 := by rw [hL.out]; exact letters_len6 al
  have hlL : Hid (∀ l ∈ L, l < 6) := hid fun l hl => by rw [hL.out] at hl; exact (letters_lt hl).1
  have hLe : Hid (L = letters (allAl ss)) := hid (by rw [hL.out, hale.out])
  obtain ⟨N, hN⟩ : ∃ N, Hid (N = (rnB ss).length) := ⟨_, hid rfl⟩
  have hNP : Hid (N = prodL (szP ss)) := hid (by rw [hN.out, rnB_len])
  rw [← hN.out] at hl4 hcB ⊢
  have hrkL : Hid (∀ m, m ≤ N → ∀ wq, Below w5.heap.size w5 wq → Calls Tryz.prog 48 #[.slice AB N cB, .int .i64 (m : Nat)] wq fun e w' => e = .returned (.int .i64 (rkN ss m : Nat)) ∧ w' = wq) := hid fun m hm wq hbq => by
    have h := l7Rank_any (rnB ss) AB cB m wq (by rw [← hN.out]; exact hm) (by rw [← hN.out]; exact hl4) (by rw [← hN.out]; exact hcB) hcB' (hBN5.out.later hbq)
    rw [cntT_rank ss m (by rw [← hNP.out]; exact hm), ← hN.out] at h
    exact h
  replace hs8 := hid hs8
  clear hown8 n3 c1 hS7
  go_wp2_with fail
  go_loopw [11] (fun iv wr => ∃ (i : Nat) (v : Value), iv = .int .i64 (i : Nat) ∧ i ≤ N ∧ SoSt w5 wr gs al (R : Nat) v (esTo ss (rnTo ss i)) (.slice AL L.length cL) L) (fun iv _ => N - (intOf iv).toNat)
  case atStart => exact ⟨0, _, rfl, by omega, hs8.out⟩
  case round =>
    clear hs8
    obtain ⟨i, v, rfl, hi', hs⟩ := hrel
    by_cases hlt : i < N
    · have hib : i < (rnB ss).length := by rw [← hN.out]; exact hlt
      obtain ⟨bB, oB, hBe, hbB, hEB⟩ := (hBN5.out.later hs.sub.keep) (by omega)
      subst hBe
      have b0 := hEB i hib
      have hrt := hid (rnTo_succ ss i)
      obtain ⟨b, hb⟩ : ∃ b, Hid (b = (rnB ss)[i]) := ⟨_, hid rfl⟩
      rw [← hb.out] at b0
      have hbR : Hid (b = true ↔ Rn ss i) := hid (by rw [hb.out, rnB_at]; simp)
      have k1 : (0 : Int) ≤ (i : Int) ∧ (i : Int) < (N : Int) := by omega
      have hs' := hid hs
      replace hEB := hid hEB
      replace hib := hid hib
      cases b with
      | false =>
        have hnx : Hid (esTo ss (rnTo ss i) = esTo ss (rnTo ss (i + 1))) := hid (by rw [hrt.out.2 (fun h => by have := hbR.out.2 h; cases this)])
        clear hs
        by_cases hL0 : 0 < L.length
        · have k2 : (0 : Int) < (L.length : Int) := by omega
          go_wp2_with fail
          obtain ⟨wo, rfl⟩ : ∃ wo : World, wo = wr := ⟨_, rfl⟩
          go_loopw [12] (fun kv wr => kv = .int .i64 0 ∧ wo = wr) (fun _ _ => 0)
          case atStart => exact ⟨rfl, by first | rfl | trivial⟩
          case round =>
            obtain ⟨rfl, rfl⟩ := hrel
            go_wp2_with fail
            go_roundw
            case rel => exact ⟨i + 1, v, by go_num, by omega, by rw [← hnx.out]; exact hs'.out⟩
            case measure => simp [intOf]; omega
        · have k2 : ¬ ((0 : Int) < (L.length : Int)) := by omega
          go_wp2_with fail
          obtain ⟨wo, rfl⟩ : ∃ wo : World, wo = wr := ⟨_, rfl⟩
          go_loopw [12] (fun kv wr => kv = .int .i64 0 ∧ wo = wr) (fun _ _ => 0)
          case atStart => exact ⟨rfl, by first | rfl | trivial⟩
          case round =>
            obtain ⟨rfl, rfl⟩ := hrel
            go_wp2_with fail
            go_roundw
            case rel => exact ⟨i + 1, v, by go_num, by omega, by rw [← hnx.out]; exact hs'.out⟩
            case measure => simp [intOf]; omega
      | true =>
        have hRi := hbR.out.1 rfl
        have hnx : Hid (esTo ss (rnTo ss (i + 1)) = esTo ss (rnTo ss i) ++ cmRow ss i) := hid (by rw [hrt.out.1 hRi, esTo_snoc])
        have hrn16 : (rnTo ss i).length ≤ 16 := by
          have h1 : (rnTo ss i).length = rkN ss i := rfl
          have h2 := rkN_mono ss (show i ≤ prodL (szP ss) by rw [← hNP.out]; exact hi')
          rw [rkN_all, ← hR.out] at h2
          omega
        have h3 : ss.length ≤ 3 := by rw [hlen.out]; decide
        have hesI : (esTo ss (rnTo ss i)).length ≤ 393216 := by
          have := esTo_le hall.out h3 (rnTo ss i)
          have h4 : (rnTo ss i).length * 24576 ≤ 16 * 24576 := Nat.mul_le_mul_right _ hrn16
          omega
        obtain ⟨E0, hE0⟩ : ∃ E0, Hid (E0 = esTo ss (rnTo ss i)) := ⟨_, hid rfl⟩
        rw [← hE0.out] at hs' hnx hesI
        clear hs
        replace h3 := hid h3
        go_wp2_with fail
        obtain ⟨wo, rfl⟩ : ∃ wo : World, wo = wr := ⟨_, rfl⟩
        go_loopw [12] (fun kv wr => ∃ (k : Nat) (v : Value), kv = .int .i64 (k : Nat) ∧ k ≤ L.length ∧ SoSt w5 wr gs al (R : Nat) v (E0 ++ rowTo ss i k) (.slice AL L.length cL) L) (fun kv _ => L.length - (intOf kv).toNat)
        case atStart => exact ⟨0, v, rfl, by omega, by rw [rowTo_zero, List.append_nil]; exact hs'.out⟩
        case round =>
          clear hs' b0
          obtain ⟨k, v, rfl, hk, hs⟩ := hrel
          by_cases hlk : k < L.length
          · obtain ⟨AL2, cL2, e7, -, -, hLN⟩ := OwnNats.read hs.list
            cases e7
            obtain ⟨bL, oL, hLE, hbL, hEL⟩ := hLN (by omega)
            subst hLE
            have l0 := hEL k hlk
            obtain ⟨l, hl9⟩ : ∃ l, Hid (l = L[k]) := ⟨_, hid rfl⟩
            rw [← hl9.out] at l0
            have hl6 : l < 6 := by rw [hl9.out]; exact hlL.out _ (List.getElem_mem _)
            have b0 : wr.cell? ⟨bB, oB + i, none⟩ = some (.bool true) := by
              obtain ⟨bB2, oB2, e8, -, hEB2⟩ := (hBN5.out.later hs.sub.keep) (by rw [← hN.out]; omega)
              cases e8
              rw [hEB2 i hib.out, ← hb.out]
            obtain ⟨M, hM⟩ : ∃ M, Hid (M = nxParts ss i l) := ⟨_, hid rfl⟩
            have hMl : M.length ≤ 4096 := by rw [hM.out]; exact nxParts_le hall.out h3.out i l
            have hMlt : Hid (∀ m ∈ M, m < N) := hid fun m hm => by rw [hM.out] at hm; rw [hNP.out]; exact nxParts_lt hall.out i l m hm
            have hkk : k < (letters (allAl ss)).length := by rw [← hLe.out]; exact hlk
            have hrow : Hid (rowTo ss i (k + 1) = rowTo ss i k ++ M.map (mkE ss i l)) := hid (by rw [rowTo_succ hkk, hM.out, hl9.out]; simp only [hLe.out])
            have hrl := rowTo_le hall.out h3.out i k
            have hzr2 := hs.sub.keep.size
            have hbr := hs.sub.keep
            have hs1 : Hid (∀ a ∈ szP ss, 1 ≤ a) := hid fun a ha => (szP_ok hall.out a ha).1
            have hszl : (szP ss).length ≤ 3 := by unfold szP; rw [List.length_map, hlen.out]; decide
            have hNr : i ≤ 1000000 := by omega
            have hcd := hid (fun w' (hb : Below wr.heap.size wr w') => l4Decode_any (szP ss) AS cS i w' hs1.out hszl hNr hcS hcS' (hSN5.out.later (hbr.trans (hb.mono hzr2))))
            have hcl := hid (fun w' A6 c6 (hb : Below wr.heap.size wr w') (h4 : (szP ss).length ≤ c6) (h5 : c6 ≤ 9223372036854775807) (h6 : NatsAt w' w'.heap.size A6 (decS (szP ss) i)) => by
              have hbb := hbr.trans (hb.mono hzr2)
              have h := l4Nexts_any (.slice (some ⟨bS, 0, none⟩) ss.length 2) (.slice none 0 0) (.slice none 0 0) al 0 0 (szP ss) (decS (szP ss) i) (chP ss) AS A6 cS c6 l w' (netOk_sys ss (some ⟨bS, 0, none⟩) 2 (.slice none 0 0) al 0 0 w' h3.out hall.out (hSys5.out.later hbb)) (decS_len _ _) (fun j hj => by rw [getD_at1 hj]; exact decS_lt hs1.out i j hj) hl6 hcS hcS' (by rw [decS_len]; exact h4) h5 (hSN5.out.later hbb) h6
              have e1 : nxK (szP ss) (fun j => chP ss j ((decS (szP ss) i).getD j 0) l) (szP ss).length = M := by rw [hM.out, ← nx_eq hall.out]; rfl
              rw [e1, decS_len, hlen.out] at h
              unfold netV at h
              exact h)
            obtain ⟨⟨p0, p1, p2⟩, p3, p4, p5⟩ := hnet.out wr (hb37'.out.trans (hbr.mono hb37'.out.size))
            have hlw : bS + 1 < wr.heap.size := by have := hb37'.out.size; omega
            have y0 : ∀ x', (Fam wr.heap.size wr x').cell? ⟨bS + 1, 0, none⟩ = some (.slice (some ⟨bS, 0, none⟩) 2 2) := fun x' => by rw [(Fam.below wr.heap.size wr x').cell (by simpa using hlw)]; exact p0
            have y1 : ∀ x', (Fam wr.heap.size wr x').cell? ⟨bS + 1, 1, none⟩ = some (.slice none 0 0) := fun x' => by rw [(Fam.below wr.heap.size wr x').cell (by simpa using hlw)]; exact p1
            have y2 : ∀ x', (Fam wr.heap.size wr x').cell? ⟨bS + 1, 2, none⟩ = some (.slice none 0 0) := fun x' => by rw [(Fam.below wr.heap.size wr x').cell (by simpa using hlw)]; exact p2
            have y3 : ∀ x', (Fam wr.heap.size wr x').cell? ⟨bS + 1, 3, none⟩ = some (.int .i64 al) := fun x' => by rw [(Fam.below wr.heap.size wr x').cell (by simpa using hlw)]; exact p3
            have y4 : ∀ x', (Fam wr.heap.size wr x').cell? ⟨bS + 1, 4, none⟩ = some (.int .i64 0) := fun x' => by rw [(Fam.below wr.heap.size wr x').cell (by simpa using hlw)]; exact p4
            have y5 : ∀ x', (Fam wr.heap.size wr x').cell? ⟨bS + 1, 5, none⟩ = some (.int .i64 0) := fun x' => by rw [(Fam.below wr.heap.size wr x').cell (by simpa using hlw)]; exact p5
            have y6 : ∀ x', (Fam wr.heap.size wr x').cell? ⟨bL, oL + k, none⟩ = some (.int .i64 (l : Nat)) := fun x' => by rw [(Fam.below wr.heap.size wr x').cell (by simpa using hbL)]; exact l0
            have k5 : (0 : Int) ≤ (k : Int) ∧ (k : Int) < (L.length : Int) := by omega
            have hs' := hid hs
            replace hEL := hid hEL
            replace hLN := hid hLN
            clear hs p0 p1 p2 p3 p4 p5 l0
            go_upto_region 16 with fail
            refine wp_region_grow 11 wr.heap.size wr (fun i' u w' => if i' = 4 then ∃ A c, u = .slice A (szP ss).length c ∧ (szP ss).length ≤ c ∧ c ≤ 9223372036854775807 ∧ NatsAt w' w'.heap.size A (decS (szP ss) i) else OwnNats w' wr.heap.size u M) (by kernel_rfl) (by kernel_rfl) (Nat.le_refl _) (Below.refl _ _) ?_
            simp only [List.take_succ_cons, List.take_zero, List.drop_succ_cons, List.drop_zero]
            (repeat (refine grow_quiet (by rfl) (by rfl) (by rfl) ?_; intro K hK; go_big_quiet_op; go_big_quiet_on))
            refine grow_call (by rfl) (by rfl) (fun u v v' hb h => ?_) (fun wq hbq _ => ?_) fun u hu => ?_
            · obtain ⟨A, c, e, h1, h2, h⟩ := h
              exact ⟨A, c, e, h1, h2, h.later hb⟩
            · go_simp
              refine ⟨rfl, (hcd.out wq hbq).mono ?_⟩
              rintro e w5 ⟨v, rfl, ho, hb5⟩
              obtain ⟨A, c, rfl, h1, h2, h3⟩ := OwnNats.read ho
              refine ⟨_, rfl, hb5, A, c, ?_, by rw [← decS_len (szP ss) i]; exact h1, h2, h3⟩
              rw [decS_len]
            obtain ⟨wx, -, A5, c5, rfl, -, -, -⟩ := hu
            simp only [Act.put, List.setIfInBounds_toArray, List.set_cons_zero, List.set_cons_succ]
            (repeat (refine grow_quiet (by rfl) (by rfl) (by rfl) ?_; intro K hK; go_big_quiet_op; go_big_quiet_on))
            refine grow_call (by rfl) (by rfl) (fun u v v' hb h => own_keep (show OwnNats v wr.heap.size u M from h) (.of_below (K := fun _ => False) hb) fun _ _ h => h) (fun wq hbq hfx => ?_) fun u hu => ?_
            · obtain ⟨A6, c6, e3, h4, h5, h6⟩ := hfx _ List.mem_cons_self (by kernel_rfl)
              cases e3
              have h6' := hid h6
              clear h6 hfx
              go_simp
              refine ⟨rfl, (hcl.out wq A5 c5 hbq h4 h5 h6'.out).mono ?_⟩
              rintro e w5 ⟨v, rfl, ho, hb5⟩
              exact ⟨v, rfl, hb5, own_base ho hbq.size⟩
            obtain ⟨wX, -, hoX⟩ := hu
            obtain ⟨AM, cM, rfl, hcM, hcM', -⟩ := OwnNats.read (show OwnNats wX wr.heap.size _ M from hoX)
            clear hoX
            simp only [Act.put, List.setIfInBounds_toArray, List.set_cons_zero, List.set_cons_succ]
            (repeat (refine grow_quiet (by rfl) (by rfl) (by rfl) ?_; intro K hK; go_big_quiet_op; go_big_quiet_on))
            refine grow_nil ?_
            intro w9 hb9 hf
            have hoM : OwnNats w9 wr.heap.size (.slice AM M.length cM) M := hf _ List.mem_cons_self
            have hs9 : Hid (SoSt2 w5 w9 gs al (R : Nat) v (E0 ++ rowTo ss i k) (.slice (some ⟨bL, oL, none⟩) L.length cL) L (.slice AM M.length cM) M) := hid ⟨hs'.out.later hb9, own_base hoM hzr2⟩
            clear hf hoM y0 y1 y2 y3 y4 y5 y6 hcl hcd hs' hLN hEL hbL b0
            go_wp2_with fail
            obtain ⟨wo2, rfl⟩ : ∃ wo : World, wo = wr := ⟨_, rfl⟩
            go_loopw [14] (fun jv wr => ∃ (j : Nat) (v : Value), jv = .int .i64 (j : Nat) ∧ j ≤ M.length ∧ SoSt2 w5 wr gs al (R : Nat) v (E0 ++ rowTo ss i k ++ (M.take j).map (mkE ss i l)) (.slice (some ⟨bL, oL, none⟩) L.length cL) L (.slice AM M.length cM) M) (fun jv _ => M.length - (intOf jv).toNat)
            case atStart => exact ⟨0, v, rfl, by omega, by rw [List.take_zero, List.map_nil, List.append_nil]; exact hs9.out⟩
            case round =>
              clear hs9
              obtain ⟨j, v, rfl, hj, hs⟩ := hrel
              by_cases hjl : j < M.length
              · obtain ⟨AM2, cM2, e7, -, -, hMN⟩ := OwnNats.read hs.mem
                cases e7
                obtain ⟨bM, oM, hME, hbM, hEM⟩ := hMN (by omega)
                subst hME
                have m0 := hEM j hjl
                obtain ⟨m, hm9⟩ : ∃ m, Hid (m = M[j]) := ⟨_, hid rfl⟩
                rw [← hm9.out] at m0
                obtain ⟨AL2, cL2, e7, -, -, hLN⟩ := OwnNats.read hs.so.list
                cases e7
                obtain ⟨bL2, oL2, hLE, hbL, hEL⟩ := hLN (by omega)
                cases hLE
                have l0 := hEL k hlk
                rw [← hl9.out] at l0
                have hmN : m < N := by rw [hm9.out]; exact hMlt.out _ (List.getElem_mem _)
                have c2 := hs.so.sub.blk.cell 2
                simp only [List.getElem?_toArray, List.getElem?_cons_zero, List.getElem?_cons_succ] at c2
                have k6 : (0 : Int) ≤ (j : Int) ∧ (j : Int) < (M.length : Int) := by omega
                obtain ⟨es, hes⟩ : ∃ es, Hid (es = E0 ++ rowTo ss i k ++ (M.take j).map (mkE ss i l)) := ⟨_, hid rfl⟩
                have hesl : es.length ≤ 1000000 := by
                  rw [hes.out, List.length_append, List.length_append, List.length_map, List.length_take]
                  omega
                rw [← hes.out] at hs
                obtain ⟨ri, hri⟩ : ∃ r, Hid (r = rkN ss i) := ⟨_, hid rfl⟩
                obtain ⟨rm, hrm⟩ : ∃ r, Hid (r = rkN ss m) := ⟨_, hid rfl⟩
                have hek : Hid (E0 ++ rowTo ss i k ++ (M.take (j + 1)).map (mkE ss i l) = es ++ [⟨(ri : Int), (l : Int), (rm : Int)⟩]) := hid (by
                  rw [map_take_snoc hjl, ← List.append_assoc, ← hes.out, ← hm9.out, hri.out, hrm.out]
                  rfl)
                have hbr3 := hid hs.so.sub.keep
                have hkI := hid (fun wq (hb : Below wr.heap.size wr wq) => hrkL.out i hi' wq (hbr3.out.trans (hb.mono hbr3.out.size)))
                have hkM := hid (fun wq (hb : Below wr.heap.size wr wq) => hrkL.out m (Nat.le_of_lt hmN) wq (hbr3.out.trans (hb.mono hbr3.out.size)))
                rw [← hri.out] at hkI
                rw [← hrm.out] at hkM
                have q0 := GK.BI.cell c2
                have q1 := GK.BI.cell l0
                have q2 := GK.BI.cell m0
                have hs' := hid hs
                replace hEM := hid hEM
                replace hMN := hid hMN
                replace hEL := hid hEL
                replace hLN := hid hLN
                clear hs
                go_upto_region 20 with fail
                clear c2 l0 m0
                refine GK.wp_region 17 [17, 18, 19] 200 (KeepB fun _ => False) (GK.BI wr) (fun i' u _ => if i' = 4 then u = .int .i64 (ri : Nat) else u = .int .i64 (rm : Nat)) (by kernel_rfl) (by kernel_rfl) (GK.BI.way wr) (by decide) (Below.refl _ _).drew ?_
                simp only [List.take_succ_cons, List.take_zero]
                (repeat (refine GK.grow_quiet wr (by rfl) (by rfl) ?_; intro K hK; go_big_quiet_op; go_big_quiet_on))
                refine GK.grow_val (.int .i64 (ri : Nat)) (by rfl) rfl (fun m' wq hm2 hbq _ => ?_) ?_
                · go_simp
                  exact ⟨rfl, by
                    have hbq' : Below wr.heap.size wr wq := hbq
                    exact (hkI.out wq hbq').mono fun e w' ⟨h1, h2⟩ => ⟨h1, by rw [h2]; exact GK.BI.after hbq (Below.refl _ _)⟩⟩
                simp only [Act.put, List.setIfInBounds_toArray, List.set_cons_zero, List.set_cons_succ]
                (repeat (refine GK.grow_quiet wr (by rfl) (by rfl) ?_; intro K hK; go_big_quiet_op; go_big_quiet_on))
                refine GK.grow_val (.int .i64 (rm : Nat)) (by rfl) rfl (fun m' wq hm2 hbq _ => ?_) ?_
                · go_simp
                  exact ⟨rfl, by
                    have hbq' : Below wr.heap.size wr wq := hbq
                    exact (hkM.out wq hbq').mono fun e w' ⟨h1, h2⟩ => ⟨h1, by rw [h2]; exact GK.BI.after hbq (Below.refl _ _)⟩⟩
                simp only [Act.put, List.setIfInBounds_toArray, List.set_cons_zero, List.set_cons_succ]
                (repeat (refine GK.grow_quiet wr (by rfl) (by rfl) ?_; intro K hK; go_big_quiet_op; go_big_quiet_on))
                refine GK.grow_new (K := fun _ => False) (by rfl) _ (fun b => .slice (some ⟨b, 0, none⟩) 1 1) 50 #[.int .i64 (ri : Nat), .int .i64 (l : Nat), .int .i64 (rm : Nat)] (fun _ => by go_simp) rfl (fun _ _ o h => GK.BI.alloc o h) (fun _ _ h => GK.BI.size h) (fun _ h => h.elim) (fun bb hbb2 => ?_)
                simp only [Act.put, List.setIfInBounds_toArray, List.set_cons_zero, List.set_cons_succ]
                refine GK.grow_nil ?_
                intro w4' hw4 hf
                obtain ⟨g', hge, hge2, hblk4⟩ := hf _ List.mem_cons_self
                cases hge
                clear hf
                simp only [List.filterMap_cons, List.filterMap_nil, List.getElem?_cons_zero, List.getElem?_cons_succ]
                replace hw4 : Below wr.heap.size wr w4' := hw4
                have hS4 := hid (hs'.out.later hw4)
                have hown4 := hS4.out.so.sub.own
                have hbl4 := hS4.out.so.sub.blk.lt
                have ag : v.ownBlock ≠ some gs := fun e => own_ne hS4.out.so.sub.own hS4.out.so.sub.blk (by decide) gs e rfl
                have c2 := hS4.out.so.sub.blk.cell 2
                have f2 := hS4.out.so.sub.blk.frozen 2
                simp only [List.getElem?_toArray, List.getElem?_cons_zero, List.getElem?_cons_succ] at c2
                clear q0 q1 q2
                refine wpList_append_lies _ (by rfl) _ _ 23 (by rfl) w5.heap.size 50 i0 (.agg #[.int .i64 0, .int .i64 0, .int .i64 0]) 3 24 Tryz.underlying23 hi hz0' hz1' hz2' rfl (by decide) v es.length (edCells es) (by rfl) hown4 ⟨bb, 0, none⟩ 1 1 [.int .i64 (ri : Nat), .int .i64 (l : Nat), .int .i64 (rm : Nat)] (by rfl) (by rfl) (World.news_of_block hblk4) ?c1 (by omega) ?c3 ?c4 ?c5 w4'.heap.size rfl ?_
                case c1 => simp [Value.oneCell']
                case c3 => unfold maxLen; omega
                case c4 => omega
                case c5 => have := hS4.out.so.sub.keep.size; omega
                intro gg cap wE hown5 hgrow hat hlt5
                have c2' : wE.cell? ⟨gs, 2, none⟩ = some v := by rw [hgrow.cell_far _ (by simpa using hbl4) (Ne.symm ag)]; exact c2
                have f2' : wE.frozen? ⟨gs, 2, none⟩ = false := by rw [hgrow.frozen_far _ (by simpa using hbl4) (Ne.symm ag)]; exact f2
                have hfin := hid (hS4.out.add (x := ⟨(ri : Int), (l : Int), (rm : Int)⟩) hown5 hgrow)
                have hz5 := hgrow.size
                clear hown4 hown5 hgrow c2 f2
                go_wp2_with fail
                go_roundw
                case rel => exact ⟨j + 1, _, by go_num, by omega, by rw [hek.out]; exact hfin.out⟩
                case measure => simp [intOf]; omega
              · obtain rfl : j = M.length := by omega
                have hfin : Hid (SoSt w5 wr gs al (R : Nat) v (E0 ++ rowTo ss i (k + 1)) (.slice (some ⟨bL, oL, none⟩) L.length cL) L) := hid (by
                  rw [hrow.out, ← List.append_assoc]
                  have h9 := hs.so
                  rw [List.take_length] at h9
                  exact h9)
                replace hs := hid hs
                go_wp2_with fail
                go_roundw
                case rel => exact ⟨k + 1, v, by go_num, by omega, hfin.out⟩
                case measure => simp [intOf]; omega
          · obtain rfl : k = L.length := by omega
            have hfin : Hid (E0 ++ rowTo ss i L.length = esTo ss (rnTo ss (i + 1))) := hid (by rw [hnx.out, hLe.out, rowTo_all])
            replace hs := hid hs
            have k6 : ¬ ((L.length : Int) < (L.length : Int)) := by omega
            go_wp2_with fail
            go_roundw
            case rel => exact ⟨i + 1, v, by go_num, by omega, by rw [← hfin.out]; exact hs.out⟩
            case measure => simp [intOf]; omega
    · obtain rfl : i = N := by omega
      have hE : esTo ss (rnTo ss i) = cmEs ss := by rw [hNP.out, rnTo_all, esTo_all]
      rw [hE] at hs
      obtain ⟨es, hes⟩ : ∃ es, Hid (es = cmEs ss) := ⟨_, hid rfl⟩
      rw [← hes.out] at hs
      obtain ⟨Av, cv, hve, hv1, hv2⟩ := own_slice hs.sub.own
      subst hve
      obtain ⟨A2, c2', hve2, h1, h2, h3, h4⟩ := OwnEds.read (show OwnEds wr w5.heap.size (.slice Av es.length cv) es from hs.sub.own)
      cases hve2
      have hbr := hs.sub.keep
      have c0 := hs.sub.blk.cell 0
      have c1 := hs.sub.blk.cell 1
      have c2 := hs.sub.blk.cell 2
      have hrb := hrB5.out.below hbr hrB5.out.lt
      have d0 := hrb.cell 0
      have d1 := hrb.cell 1
      have d2 := hrb.cell 2
      have f0 := hrb.frozen 0
      have f1 := hrb.frozen 1
      have f2 := hrb.frozen 2
      simp only [List.getElem?_toArray, List.getElem?_cons_zero, List.getElem?_cons_succ] at c0 c1 c2 d0 d1 d2
      have hlt3 := hrb.lt
      have hg5 : w.heap.size + 1 + 1 < w5.heap.size := hrB5.out.lt
      have hfin : Hid (SoPost w (cmX s t) (cmOk s t) (.returned (.tuple #[.agg #[.int .i64 al, .int .i64 (R : Nat), .slice Av es.length cv], .bool true])) (((wr.setCell ⟨w.heap.size + 1 + 1, 0, none⟩ (.int .i64 al)).setCell ⟨w.heap.size + 1 + 1, 1, none⟩ (.int .i64 (R : Nat))).setCell ⟨w.heap.size + 1 + 1, 2, none⟩ (.slice Av es.length cv))) := hid (by
        have hne : ∀ b o, Av = some ⟨b, o, none⟩ → 0 < es.length → b ≠ w.heap.size + 1 + 1 := fun b o hA _ => by have := h4 b o hA; omega
        have e : cmSy ss = ⟨al, ((R : Nat) : Int), es⟩ := by unfold cmSy; rw [hale.out, hR.out, hes.out]
        rw [cmX_ok hcok.out, hcok.out, ← hss.out, e]
        have hB5s := hB5.size
        refine ⟨Av, cv, rfl, h1, h2, ?_, fun b o hA => by have := h4 b o hA; omega, ?_⟩
        · simpa [World.setCell] using ((h3.stored _ hne).stored _ hne).stored _ hne
        · exact (((hB5.trans (hbr.mono hB5.size)).setCell (by simp; omega) _).setCell (by simp; omega) _).setCell (by simp; omega) _)
      replace hs := hid hs
      replace h3 := hid h3
      clear hrb
      go_wp2
      refine bodyPost_ret (v := .tuple #[.agg #[.int .i64 al, .int .i64 (R : Nat), .slice Av es.length cv], .bool true]) (by simp [results, Tryz.results13, go_sem, d0, d1, d2]) rfl ?_
      exact hfin.out

end Go.Proofs.YtdkjnemakkppfaaGreatDoor

/- Systems that run together: the program's parts.next. -/
namespace Go.Proofs.YtdkjnemakkppfaaGreatDoor
open Go.RowKit Go.BigFrame AG

/-- The moves of some systems lie in memory. -/
def MovesAt (w : World) (B : Nat) (M : Option Addr) (ss : List Sy) : Prop := 0 < ss.length → ∃ b o, M = some ⟨b, o, none⟩ ∧ b < B ∧ ∀ i (h : i < ss.length), ∃ g, w.cell? ⟨b, o + i, none⟩ = some (.pointer (some ⟨g, 0, none⟩)) ∧ MvAt w B g (mv ss[i])
theorem MovesAt.later {w w' : World} {M : Option Addr} {ss : List Sy} (h : MovesAt w w.heap.size M ss) (hb : Below w.heap.size w w') : MovesAt w' w'.heap.size M ss := fun hl => by
  obtain ⟨b, o, h1, h2, h3⟩ := h hl
  refine ⟨b, o, h1, Nat.lt_of_lt_of_le h2 hb.size, fun i hi => ?_⟩
  obtain ⟨g, h4, h5⟩ := h3 i hi
  exact ⟨g, by rw [hb.cell (by simpa using h2)]; exact h4, h5.later hb⟩
def partsV (A : Option Addr) (n c : Nat) (M : Option Addr) (cm : Nat) : Value := .agg #[.slice A n c, .slice M n cm]

set_option maxRecDepth 100000 in
set_option maxHeartbeats 8000000 in
theorem partsNext_any (ss : List Sy) (A M : Option Addr) (c cm node l base : Nat) (v : Value) (ns : List Nat) (w : World) (hall : ss.all sysOk = true) (hn3 : ss.length ≤ 3) (hl6 : l < 6) (hnode : node < 4096) (hlc : ss.length ≤ c) (hc : c ≤ 9223372036854775807) (hlm : ss.length ≤ cm) (hcm : cm ≤ 9223372036854775807)
    (hns : ns.length ≤ 4294967296) (hT : Tab w) (hS : SysAt w w.heap.size A ss) (hM : MovesAt w w.heap.size M ss) (hbase : base ≤ w.heap.size) (hown : w.ownsRow base 3 1 v ns.length (natVals ns)) :
    Calls Tryz.prog 41 #[partsV A ss.length c M cm, .int .i64 (node : Nat), .int .i64 (l : Nat), v] w fun e w' => ∃ v', e = .returned v' ∧ w'.ownsRow base 3 1 v' (ns ++ nxParts ss node l).length (natVals (ns ++ nxParts ss node l)) ∧ KeepB (fun b => v.ownBlock = some b) w w' := by
  obtain ⟨i0, hi, hz0, hz1, hz2⟩ := info_parts infoInt
  unfold partsV
  obtain ⟨Av, cv, hve, hcv1, hcv2⟩ := own_slice hown
  subst hve
  have hpar := Blk.new w 61 #[.slice A ss.length c, .slice M ss.length cm]
  have hb0 : Below w.heap.size w (w.alloc (.cells #[.slice A ss.length c, .slice M ss.length cm] 61)) := (Below.refl _ _).alloc (Nat.le_refl _) _
  have hz0' : (w.alloc (.cells #[.slice A ss.length c, .slice M ss.length cm] 61)).heap.size = w.heap.size + 1 := by simp
  generalize hw0 : w.alloc (.cells #[.slice A ss.length c, .slice M ss.length cm] 61) = w0 at hpar hb0 hz0'
  have p0 := hpar.cell 0
  have p1 := hpar.cell 1
  simp only [List.getElem?_toArray, List.getElem?_cons_zero, List.getElem?_cons_succ] at p0 p1
  have hS0 := hid (hS.later hb0)
  have hM0 := hid (hM.later hb0)
  have hT0 := hid (hT.later hb0)
  have hpar' := hid hpar
  have hok := hid (pst_ok hall l node)
  replace hall := hid hall
  replace hown := hid hown
  replace hS := hid hS
  replace hM := hid hM
  clear hpar
  go_enter Tryz.func41, Tryz.ntmps41
  go_wp2_with fail
  go_loopw [1, 9, 10, 11] (fun nd rv wt iv wr => ∃ (k : Nat) (Ar : Option Addr) (cr : Nat), k ≤ ss.length ∧ iv = .int .i64 ((ss.length : Int) - 1 - k) ∧ nd = .int .i64 ((pst ss l node k).nd : Nat) ∧ wt = .int .i64 ((pst ss l node k).wt : Nat) ∧ rv = .slice Ar (pst ss l node k).re.length cr ∧ (pst ss l node k).re.length ≤ cr ∧ cr ≤ 9223372036854775807 ∧ NatsAt wr wr.heap.size Ar (pst ss l node k).re ∧ ((pst ss l node k).re.length = 0 → rv = .slice none 0 0) ∧ Below w0.heap.size w0 wr) (fun _ _ _ iv _ => (intOf iv + 1).toNat)
  case atStart =>
    refine ⟨0, some ⟨w.heap.size + 1, 0, none⟩, 1, by omega, by first | rfl | (simp; done) | go_num, rfl, rfl, rfl, Nat.le_refl _, by omega, fun _ => ⟨w.heap.size + 1, 0, rfl, by simp; omega, fun i hi => ?_⟩, fun h => by simp [pst] at h, (Below.refl _ _).alloc (Nat.le_refl _) _⟩
    obtain rfl : i = 0 := by simpa [pst] using hi
    rw [Nat.add_zero, ← hz0', World.cell?_alloc_at _ _ _ _ rfl]
    rfl
  case round =>
    clear p0 p1
    obtain ⟨k, Ar, cr, hk, rfl, rfl, rfl, rfl, hr1, hr2, hre, hrn, hb⟩ := hrel
    have hpb := hpar'.out.below hb hpar'.out.lt
    have p0 := hpb.cell 0
    have p1 := hpb.cell 1
    simp only [List.getElem?_toArray, List.getElem?_cons_zero, List.getElem?_cons_succ] at p0 p1
    obtain ⟨o1, o2, o3, o4⟩ := hok.out k hk
    have hzr := hb.size
    by_cases hlt : k < ss.length
    · obtain ⟨i, hik⟩ : ∃ i, i + k + 1 = ss.length := ⟨ss.length - 1 - k, by omega⟩
      obtain ⟨hil, hsucc⟩ := pst_succ (ss := ss) (l := l) (node := node) hlt hik
      obtain ⟨s, hse⟩ : ∃ s, s = ss[i] := ⟨_, rfl⟩
      have hso : sysOk s = true := by rw [hse]; exact List.all_eq_true.1 hall.out _ (List.getElem_mem _)
      have hst := sysOk_st hso
      obtain ⟨sn, hsn⟩ := Int.eq_ofNat_of_zero_le (show 0 ≤ s.st by omega)
      obtain ⟨b, o, hA, hbb, hE⟩ := hS0.out (by omega)
      subst hA
      obtain ⟨c0, c1, Ai, ci, c2, s1, s2, -⟩ := hE i hil
      rw [← hb.cell (by simpa using hbb)] at c0 c1 c2
      rw [← hse] at c0 c1 c2 hsucc
      rw [hsn] at c1
      obtain ⟨b2, o2', hM', hbb2, hEM⟩ := hM0.out (by omega)
      subst hM'
      obtain ⟨g, m0, hmv⟩ := hEM i hil
      rw [← hb.cell (by simpa using hbb2)] at m0
      rw [← hse] at hmv
      have hmvr := hid (MvAt.later hmv hb)
      obtain ⟨x, hx⟩ : ∃ x, x = pst ss l node k := ⟨_, rfl⟩
      rw [← hx] at hr1 hre hrn o1 o2 o3 o4 hsucc ⊢
      obtain ⟨re, wt, nd⟩ := x
      simp only at hr1 hre hrn o1 o2 o3 o4
      have hnd4 : nd < 4096 := by omega
      have hpw : 16 ^ k ≤ 16 ^ 2 := Nat.pow_le_pow_right (by omega) (by omega)
      have hsn1 : 1 ≤ sn ∧ sn ≤ 16 := by omega
      have e1 : ((ss.length : Int) - 1 - (k : Int)) = (i : Int) := by omega
      rw [e1]
      obtain ⟨d, hd⟩ : ∃ d, d = nd % sn := ⟨_, rfl⟩
      have hds : d < sn := by rw [hd]; exact Nat.mod_lt _ (by omega)
      have e2 : Int.tmod (nd : Int) (sn : Int) = (d : Int) := by rw [hd]; exact tmod_nat nd sn
      have e3 : Int.tdiv (nd : Int) (sn : Int) = ((nd / sn : Nat) : Int) := tdiv_nat nd sn
      have hsq : s.st.toNat = sn := by omega
      have k1 : (0 : Int) ≤ (i : Int) ∧ (i : Int) < (ss.length : Int) := by omega
      have hnb := Blk.new wr 25 #[.int .i64 s.al, .int .i64 (sn : Int), .slice Ai s.es.length ci]
      have hba : Below wr.heap.size wr (wr.alloc (.cells #[.int .i64 s.al, .int .i64 (sn : Int), .slice Ai s.es.length ci] 25)) := (Below.refl _ _).alloc (Nat.le_refl _) _
      have hbs : wr.heap.size < (wr.alloc (.cells #[.int .i64 s.al, .int .i64 (sn : Int), .slice Ai s.es.length ci] 25)).heap.size := by simp
      generalize hwa : wr.alloc (.cells #[.int .i64 s.al, .int .i64 (sn : Int), .slice Ai s.es.length ci] 25) = wa at hnb hba hbs
      have d0 := hnb.cell 0
      have d1 := hnb.cell 1
      simp only [List.getElem?_toArray, List.getElem?_cons_zero, List.getElem?_cons_succ] at d0 d1
      have hstq : Hid (stepQ s nd l = if HasZ s.al (l : Int) = true then memL (mv s d l) else [d]) := hid (by unfold stepQ; rw [hsq, ← hd])
      replace hre := hid hre
      replace hE := hid hE
      replace hEM := hid hEM
      replace hse := hid hse
      replace hx := hid hx
      replace hd := hid hd
      replace hsn := hid hsn
      replace hsucc := hid hsucc
      replace hso := hid hso
      replace hik := hid hik
      have hdb := Blk.new wa 3 #[.int .i64 (d : Int)]
      have hba2 : Below wa.heap.size wa (wa.alloc (.cells #[.int .i64 (d : Int)] 3)) := (Below.refl _ _).alloc (Nat.le_refl _) _
      generalize hwb : wa.alloc (.cells #[.int .i64 (d : Int)] 3) = wb at hdb hba2
      have hdc := hdb.cell 0
      simp only [List.getElem?_toArray, List.getElem?_cons_zero, List.getElem?_cons_succ] at hdc
      have hdl := hdb.lt
      have hrb := hba.trans (hba2.mono hba.size)
      have hHle : (l : Int) ≤ 63 := by omega
      have hbb2' := hba2.size
      have d1b : wb.cell? ⟨wr.heap.size, 1, none⟩ = some (.int .i64 (sn : Int)) := by rw [hba2.cell (World.block_lt_of_cell? _ _ d1)]; exact d1
      have d0b : wb.cell? ⟨wr.heap.size, 0, none⟩ = some (.int .i64 s.al) := by rw [hba2.cell (World.block_lt_of_cell? _ _ d0)]; exact d0
      replace hdb := hid hdb
      go_wp2_with fail
      refine (has_any s.al (l : Int) _ hHle).mono ?_
      rintro e w' ⟨rfl, rfl⟩
      clear p0 c0 c1 c2
      go_upto_if 41 with fail
      go_cut [13] from 24 to 87 (fun tv wx => ∃ (qs : List Nat) (At : Option Addr) (cq : Nat), tv = .slice At qs.length cq ∧ qs.length ≤ cq ∧ cq ≤ 9223372036854775807 ∧ Hid (qs = stepQ s nd l) ∧ NatsAt wx wx.heap.size At qs ∧ Below wb.heap.size wb wx)
      case first =>
        cases hH : HasZ s.al (l : Int)
        · have hq1 : Hid ([d] = stepQ s nd l) := hid (by rw [hstq.out, hH]; rfl)
          have hq : Hid (NatsAt wb wb.heap.size (some ⟨wa.heap.size, 0, none⟩) [d]) := hid (fun _ => ⟨wa.heap.size, 0, rfl, hdl, fun i hi => by
            obtain rfl : i = 0 := by simpa using hi
            rw [Nat.add_zero]
            exact hdc⟩)
          replace hH := hid hH
          clear hdc
          go_wp2_with fail
          go_meet
          exact ⟨[d], _, 1, rfl, Nat.le_refl _, by omega, hq1, hq.out, Below.refl _ _⟩
        · obtain ⟨S, hS'⟩ : ∃ S, S = mv s d l := ⟨_, rfl⟩
          have hSl : S < 65536 := by rw [hS']; exact mv_lt _ _ _
          have hq1 : Hid (memL S = stepQ s nd l) := hid (by rw [hstq.out, hH, if_pos rfl, hS'])
          have p1b : ∀ x, (Fam wb.heap.size wb x).cell? ⟨w.heap.size, 1, none⟩ = some (.slice (some ⟨b2, o2', none⟩) ss.length cm) := fun x => by rw [(hrb.trans ((Fam.below wb.heap.size wb x).mono hrb.size)).cell (World.block_lt_of_cell? _ _ p1)]; exact p1
          have m0b : ∀ x, (Fam wb.heap.size wb x).cell? ⟨b2, o2' + i, none⟩ = some (.pointer (some ⟨g, 0, none⟩)) := fun x => by rw [(hrb.trans ((Fam.below wb.heap.size wb x).mono hrb.size)).cell (World.block_lt_of_cell? _ _ m0)]; exact m0
          have d1x : ∀ x, (Fam wb.heap.size wb x).cell? ⟨wr.heap.size, 1, none⟩ = some (.int .i64 (sn : Int)) := fun x => by rw [(Fam.below wb.heap.size wb x).cell (World.block_lt_of_cell? _ _ d1b)]; exact d1b
          have h16 : d < 16 := by omega
          have y3 : ∀ x, (Fam wb.heap.size wb x).cell? ⟨g, d * 6 + l, none⟩ = some (.int .i64 (S : Nat)) := fun x => by
            rw [hS']
            exact (hmvr.out.keep (hrb.trans ((Fam.below wb.heap.size wb x).mono hrb.size))).2 _ _ h16 hl6
          have hd0 : (0 : Int) ≤ (d : Int) ∧ (d : Int) < 16 ∧ (0 : Int) ≤ (l : Int) ∧ (l : Int) < 6 := by omega
          obtain ⟨hd0, hd1, hl0, hl1⟩ := hd0
          have e2' : ((nd : Int) % (sn : Int)) = (d : Int) := by rw [← e2]; exact (Int.tmod_eq_emod_of_nonneg (by omega)).symm
          replace hS' := hid hS'
          replace hH := hid hH
          clear hdc p1 m0 d1 d0 d1b d0b
          go_wp2_with fail
          refine wp_region_grow 15 wb.heap.size wb (fun _ u w' => OwnNats w' wb.heap.size u (memL S)) (by kernel_rfl) (by kernel_rfl) (Nat.le_refl _) (Below.refl _ _) ?_
          simp only [List.take_succ_cons, List.take_zero, List.drop_succ_cons, List.drop_zero]
          (repeat (refine grow_quiet (by rfl) (by rfl) (by rfl) ?_; intro K hK; go_big_quiet_op; go_big_quiet_on))
          refine grow_call (by rfl) (by rfl) (fun u w w' hb h => ?_) (fun wq hbq _ => ?_) fun u hu => ?_
          · exact own_keep h (.of_below (K := fun _ => False) hb) fun _ _ h => h
          · go_simp
            refine ⟨rfl, (members_any S hSl wq (hT0.out.later ((hb.trans (hrb.mono hb.size)).trans (hbq.mono (by have := hb.size; have := hrb.size; omega))))).mono ?_⟩
            rintro e w3 ⟨v, rfl, ho, hb3⟩
            exact ⟨v, rfl, hb3, own_base ho hbq.size⟩
          obtain ⟨w3', -, ho3'⟩ := hu
          obtain ⟨A3, c3, rfl, hc3, hc3'⟩ := own_slice ho3'
          clear ho3'
          simp only [Act.put, List.setIfInBounds_toArray, List.set_cons_zero, List.set_cons_succ]
          (repeat (refine grow_quiet (by rfl) (by rfl) (by rfl) ?_; intro K hK; go_big_quiet_op; go_big_quiet_on))
          refine grow_nil ?_
          intro w3 hb3 hf
          have ho3 := hf _ List.mem_cons_self
          clear hf p1b m0b d1x y3
          obtain ⟨A4, c4, hv4, hc4, hc4', hn4⟩ := OwnNats.read ho3
          replace hn4 := hid hn4
          replace hv4 := hid hv4
          clear ho3
          go_wp2_with fail
          go_meet
          exact ⟨memL S, A4, c4, hv4.out, hc4, hc4', hq1, hn4.out, hb3⟩
      case rest =>
        obtain ⟨qs, At, cq, rfl, hqc, hqc2, hqe, hq, hbx⟩ := hcut
        have hzw : Below wr.heap.size wr wc := hrb.trans (hbx.mono hrb.size)
        have d1z : wc.cell? ⟨wr.heap.size, 1, none⟩ = some (.int .i64 (sn : Int)) := by rw [hbx.cell (World.block_lt_of_cell? _ _ d1b)]; exact d1b
        clear hdc p1 m0 d1 d0 d1b d0b
        have hql : qs.length ≤ 16 := by rw [hqe.out]; exact stepQ_len _ _
        have hqlt : Hid (∀ q ∈ qs, q < sn) := hid (fun q hq => by have := stepQ_lt hso.out nd l q (by rw [← hqe.out]; exact hq); omega)
        have hreZ := hid (hre.out.later hzw)
        replace hq := hid hq
        have hzz := hzw.size
        replace hzw := hid hzw
        go_wp2_with fail
        go_loopw [14, 59] (fun mv jv wq => ∃ (j : Nat), jv = .int .i64 (j : Nat) ∧ j ≤ qs.length ∧ wq.ownsRow wc.heap.size 3 1 mv (joinN (qs.take j) re wt).length (natVals (joinN (qs.take j) re wt)) ∧ ((joinN (qs.take j) re wt).length = 0 → mv = .slice none 0 0) ∧ Below wc.heap.size wc wq) (fun _ jv _ => qs.length - (intOf jv).toNat)
        case atStart => exact ⟨0, rfl, Nat.zero_le _, World.ownsRow_nil _ _ _ _, fun _ => rfl, Below.refl _ _⟩
        case round =>
          obtain ⟨wj, rfl⟩ : ∃ wj : World, wj = wr := ⟨_, rfl⟩
          obtain ⟨j, rfl, hj, hom, hmn, hbj⟩ := hrel
          by_cases hjL : j < qs.length
          · have hjl : j < qs.length := by omega
            obtain ⟨bq, oq, hAq, hbq, hEq⟩ := hq.out (by omega)
            subst hAq
            have l0 := hEq j hjl
            rw [← hbj.cell (by simpa using hbq)] at l0
            try simp only [Nat.zero_add] at l0
            obtain ⟨q, hqj⟩ : ∃ q, q = qs[j] := ⟨_, rfl⟩
            rw [← hqj] at l0
            have hq16 : q < 16 := by have := hqlt.out q (by rw [hqj]; exact List.getElem_mem _); omega
            have k2 : (0 : Int) ≤ (j : Int) ∧ (j : Int) < (qs.length : Int) := by omega
            have hjt := joinN_take (re := re) (wt := wt) hjl
            rw [← hqj] at hjt
            have hjl2 := joinN_len (qs.take j) re wt
            have hjl3 : (joinN (qs.take j) re wt).length ≤ 65536 := by
              rw [hjl2]
              have h1 : (qs.take j).length ≤ 16 := by rw [List.length_take]; omega
              have := Nat.mul_le_mul h1 (show re.length ≤ 4096 by omega)
              omega
            obtain ⟨js, hjs⟩ : ∃ js, js = joinN (qs.take j) re wt := ⟨_, rfl⟩
            rw [← hjs] at hom hmn hjt hjl3
            replace hjs := hid hjs
            replace hqj := hid hqj
            replace hEq := hid hEq
            replace hjt := hid hjt
            go_wp2_with fail
            go_loopw [14, 65] (fun mv pv wq => ∃ (p : Nat), pv = .int .i64 (p : Nat) ∧ p ≤ re.length ∧ wq.ownsRow wc.heap.size 3 1 mv (js ++ (re.take p).map fun r => q * wt + r).length (natVals (js ++ (re.take p).map fun r => q * wt + r)) ∧ ((js ++ (re.take p).map fun r => q * wt + r).length = 0 → mv = .slice none 0 0) ∧ Below wc.heap.size wc wq) (fun _ pv _ => re.length - (intOf pv).toNat)
            case atStart => exact ⟨0, rfl, by omega, by simpa using hom, by simpa using hmn, hbj⟩
            case round =>
              clear hom hmn hbj
              obtain ⟨p, rfl, hp, hop, hpn, hbp⟩ := hrel
              have hpm : (js ++ (re.take p).map fun r => q * wt + r).length ≤ 70000 := by
                rw [List.length_append, List.length_map, List.length_take]
                omega
              by_cases hpl : p < re.length
              · obtain ⟨br, orr, hAr, hbr, hEr⟩ := hreZ.out (by omega)
                subst hAr
                have r0 := hEr p hpl
                rw [← hbp.cell (by simpa using hbr)] at r0
                obtain ⟨r, hrj⟩ : ∃ r, r = re[p] := ⟨_, rfl⟩
                rw [← hrj] at r0
                have hrw : r < wt := o4 r (by rw [hrj]; exact List.getElem_mem _)
                obtain ⟨m, hm⟩ : ∃ m, m = q * wt := ⟨_, rfl⟩
                have hml : m ≤ 65536 := by
                  have := Nat.mul_le_mul (show q ≤ 16 by omega) (show wt ≤ 4096 by omega)
                  omega
                have f1 : (q : Int) * (wt : Int) = (m : Int) := by rw [hm, Int.natCast_mul]
                have f2 : IntKind.i64.wrap ((q : Int) * (wt : Int)) = (m : Int) := by rw [f1]; exact IntWalk.i64_in _ (by omega)
                have k3 : (0 : Int) ≤ (p : Int) ∧ (p : Int) < (re.length : Int) := by omega
                have hmt := map_take (f := fun r => q * wt + r) hpl
                rw [← hrj] at hmt
                have hnx : Hid (js ++ (re.take (p + 1)).map (fun r => q * wt + r) = (js ++ (re.take p).map fun r => q * wt + r) ++ [m + r]) := hid (by rw [hmt, hm, List.append_assoc])
                obtain ⟨cs, hcs⟩ : ∃ cs, cs = js ++ (re.take p).map fun r => q * wt + r := ⟨_, rfl⟩
                rw [← hcs] at hop hpn hpm hnx
                have hzq := hbp.size
                replace hcs := hid hcs
                replace hEr := hid hEr
                replace hrj := hid hrj
                replace hm := hid hm
                replace hpn := hid hpn
                clear hmt
                go_wp2_with (at_builtin; refine wpList_append_own _ rfl _ _ 63 rfl wc.heap.size 3 i0 (.int .i64 0) 1 8 Tryz.underlying63 hi hz0 hz1 hz2 rfl (by decide) _ _ _ rfl (hop.alloc _) ⟨wr.heap.size, 0, none⟩ 1 1 [.int .i64 ((m : Int) + (r : Int))] rfl rfl (cell_one_new _ _ _) (by intro u hu; simp at hu; subst hu; rfl) (by unfold maxLen; omega) (by omega) (by simp; omega) ?_; intro v' w9 hown' hgrow hnil'; have hB9 := hid (Below.grown (hbp.alloc hzq _) hgrow (by simp; omega) (own_block hop)))
                have hO9 : Hid (w9.ownsRow wc.heap.size 3 1 v' (cs ++ [m + r]).length (natVals (cs ++ [m + r]))) := hid (by
                  unfold natVals at hown' ⊢
                  rw [List.length_append, List.map_append]
                  exact hown')
                clear hown' hgrow hnil' hop hbp
                go_roundw
                case rel => exact ⟨p + 1, by go_num, by omega, by rw [hnx.out]; exact hO9.out, (fun h => by rw [hnx.out] at h; simp at h), hB9.out⟩
                case measure => simp [intOf]; omega
              · obtain rfl : p = re.length := by omega
                rw [List.take_length] at hop hpn
                have hj2 : Hid (joinN (qs.take (j + 1)) re wt = js ++ re.map fun r => q * wt + r) := hid (by rw [hjt.out, hjs.out])
                replace hop := hid hop
                replace hpn := hid hpn
                go_wp2_with fail
                go_roundw
                case rel => exact ⟨j + 1, by go_num, by omega, by rw [hj2.out]; exact hop.out, by rw [hj2.out]; exact hpn.out, hbp⟩
                case measure => simp [intOf]; omega
          · have hje : Hid (j = qs.length) := hid (by omega)
            have ht : qs.take j = qs := by rw [hje.out]; exact List.take_length
            rw [ht] at hom hmn
            obtain ⟨Aj, cj, hvj, hj1, hj2, hjn⟩ := OwnNats.read (show OwnNats wj wc.heap.size _ (joinN qs re wt) from hom)
            subst hvj
            have hps : Hid (pst ss l node (k + 1) = ⟨joinN qs re wt, wt * sn, nd / sn⟩) := hid (by rw [hsucc.out, hqe.out]; unfold pstep; simp only [hsq])
            have hws : wt * sn ≤ 65536 := by
              have := Nat.mul_le_mul (show wt ≤ 4096 by omega) (show sn ≤ 16 by omega)
              omega
            have f1 : (wt : Int) * (sn : Int) = ((wt * sn : Nat) : Int) := (Int.natCast_mul wt sn).symm
            have d1j : wj.cell? ⟨wr.heap.size, 1, none⟩ = some (.int .i64 (sn : Int)) := by rw [hbj.cell (World.block_lt_of_cell? _ _ d1z)]; exact d1z
            have hbjj := hid (hb.trans ((hzw.out.trans (hbj.mono hzz)).mono hzr))
            have e4 : (i : Int) - 1 = (ss.length : Int) - 1 - ((k + 1 : Nat) : Int) := by have := hik.out; omega
            replace hom := hid hom
            replace hmn := hid hmn
            replace ht := hid ht
            replace hjn := hid hjn
            replace e4 := hid e4
            have hdw : Hid (wrap64 ((nd : Int) / (sn : Int)) = ((nd / sn : Nat) : Int)) := hid (by
              rw [← Int.natCast_ediv]
              obtain ⟨z, hz⟩ : ∃ z, z = nd / sn := ⟨_, rfl⟩
              have hzl : z ≤ nd := by rw [hz]; exact Nat.div_le_self _ _
              rw [← hz]
              clear hz
              exact IntWalk.wrap64_in _ ⟨by omega, by omega⟩)
            generalize hWS : wt * sn = ws at *
            replace hWS := hid hWS
            go_wp2_with fail
            go_roundw
            case rel => exact ⟨k + 1, Aj, cj, by omega, by first | (rw [← e4.out]) | (rw [← e4.out]; go_num), by rw [hps.out, hdw.out], by first | (rw [hps.out]; done) | (rw [hps.out]; rfl) | (rw [hps.out]; simp; done), by first | (rw [hps.out]; done) | (rw [hps.out]; rfl) | (rw [hps.out]; simp; done), by rw [hps.out]; exact hj1, hj2, by rw [hps.out]; exact hjn.out, by rw [hps.out]; exact hmn.out, hbjj.out⟩
            case measure => (try simp [intOf]) <;> (try omega)
    · have hkn : k = ss.length := by omega
      have hke : Hid ((pst ss l node k).re = nxParts ss node l) := hid (by rw [hkn]; rfl)
      rw [hke.out] at hr1 hre hrn
      obtain ⟨re, hree⟩ : ∃ re, Hid (re = nxParts ss node l) := ⟨_, hid rfl⟩
      rw [← hree.out] at hr1 hre hrn
      rw [hke.out, ← hree.out]
      have hB := hid (hb0.trans (hb.mono hb0.size))
      have hownr := hid (own_keep hown.out (.of_below (K := fun _ => False) hB.out) (fun _ _ h => h))
      have hkp := hid (KeepB.of_below (K := fun b => (Value.slice Av ns.length cv).ownBlock = some b) hB.out)
      have hblk := hid (own_block hown.out)
      have hrl : re.length ≤ 4096 := by
        have h1 : 16 ^ k ≤ 16 ^ 3 := Nat.pow_le_pow_right (by omega) (by omega)
        rw [hke.out, ← hree.out] at o3
        omega
      have hbz : base ≤ wr.heap.size := by have := hB.out.size; omega
      have hnv : (natVals re).length = re.length * 1 := by unfold natVals; simp
      have hcat : Hid (natVals (ns ++ re) = natVals ns ++ natVals re) := hid (by unfold natVals; rw [List.map_append])
      clear o1 o2 o3 o4
      replace hke := hid hke
      by_cases hr0 : re.length = 0
      · have hrv := hrn hr0
        have hree0 : Hid (re = []) := hid (List.eq_nil_of_length_eq_zero hr0)
        rw [hr0] at hrv
        obtain ⟨rfl, rfl⟩ : Ar = none ∧ cr = 0 := by cases hrv; exact ⟨rfl, rfl⟩
        rw [hr0]
        clear hrv hrn hre
        replace hr0 := hid hr0
        go_wp2_with (at_builtin; refine wpList_append_own_none rfl _ _ 63 rfl base 3 i0 1 Tryz.underlying63 hi _ _ _ rfl hownr.out rfl ?_)
        go_ret
        exact ⟨_, rfl, by rw [← hree.out, hree0.out, List.append_nil]; exact hownr.out, hkp.out⟩
      · obtain ⟨br, orr, hAr, hbr, hEr⟩ := hre (by omega)
        subst hAr
        have hnews : Hid (∀ (j : Nat) (u : Value), (natVals re)[j]? = some u → wr.cell? (Addr.add ⟨br, orr, none⟩ j) = some u) := hid (fun j u hj => by
          unfold natVals at hj
          rw [List.getElem?_map] at hj
          cases e : re[j]? with
          | none => rw [e] at hj; cases hj
          | some x =>
            rw [e] at hj
            obtain ⟨hlt', hx'⟩ := List.getElem?_eq_some_iff.1 e
            have := hEr j hlt'
            rw [hx'] at this
            injection hj with hj
            rw [← hj]
            by_cases h0 : j = 0
            · subst h0
              simpa [Addr.add] using this
            · simpa [Addr.add, h0] using this)
        have hone : Hid (∀ u ∈ natVals re, u.oneCell' = true) := hid (fun u hu => by
          unfold natVals at hu
          obtain ⟨x, -, rfl⟩ := List.mem_map.1 hu
          rfl)
        replace hEr := hid hEr
        replace hrn := hid hrn
        go_wp2_with (at_builtin; refine wpList_append_own _ rfl _ _ 63 rfl base 3 i0 (.int .i64 0) 1 8 Tryz.underlying63 hi hz0 hz1 hz2 rfl (by decide) _ _ _ rfl hownr.out ⟨br, orr, none⟩ re.length cr (natVals re) rfl hnv hnews.out hone.out (by unfold maxLen; omega) (by omega) hbz ?_; intro v' w9 hown' hgrow hnil'; replace hown' := hid hown'; replace hgrow := hid hgrow; clear hnil')
        go_ret
        exact ⟨_, rfl, by rw [← hree.out, hcat.out, List.length_append]; exact hown'.out, hkp.out.grown hgrow.out fun g hg _ => hg⟩

end Go.Proofs.YtdkjnemakkppfaaGreatDoor

/- The program's systems that run together: newParts, parts.size. -/
namespace Go.Proofs.YtdkjnemakkppfaaGreatDoor
open Go.RowKit Go.BigFrame AG

theorem infoPtrM : (Tryz.prog.info? 86).map (fun i => (i.zero, i.size, i.bytes)) = some (some (.pointer none), 1, 8) := by kernel_rfl
def ptrV (gs : List Nat) : List Value := gs.map fun (g : Nat) => .pointer (some ⟨g, 0, none⟩)
/-- The list of pointers under way. -/
structure MvsSt (w0 wr : World) (gp : Nat) (A : Option Addr) (n c : Nat) (v : Value) (ss : List Sy) (gs : List Nat) : Prop where
  below : Below w0.heap.size w0 wr
  hgp : w0.heap.size < gp
  res : Blk wr w0.heap.size 61 #[.slice none 0 0, .slice none 0 0]
  blk : Blk wr gp 61 #[.slice A n c, v]
  own : wr.ownsRow w0.heap.size 86 1 v gs.length (ptrV gs)
  nil : gs.length = 0 → v = .slice none 0 0
  mv : ∀ i (h : i < gs.length), ∃ h' : i < ss.length, MvAt wr wr.heap.size gs[i] (AG.mv ss[i])
theorem MvsSt.later {w0 wr w1 : World} {gp : Nat} {A : Option Addr} {n c : Nat} {v : Value} {ss : List Sy} {gs : List Nat} (h : MvsSt w0 wr gp A n c v ss gs) (hb : Below wr.heap.size wr w1) : MvsSt w0 w1 gp A n c v ss gs :=
  ⟨h.below.trans (hb.mono h.below.size), h.hgp, h.res.below hb h.res.lt, h.blk.below hb h.blk.lt, own_keep h.own (.of_below (K := fun _ => False) hb) (fun _ _ h => h), h.nil, fun i hi => by
    obtain ⟨h', h2⟩ := h.mv i hi
    exact ⟨h', h2.later hb⟩⟩
theorem MvsSt.ne {w0 wr : World} {gp : Nat} {A : Option Addr} {n c : Nat} {v : Value} {ss : List Sy} {gs : List Nat} (h : MvsSt w0 wr gp A n c v ss gs) : v.ownBlock ≠ some gp := fun e => own_ne h.own h.blk (by decide) gp e rfl
theorem MvsSt.apart {w0 wr : World} {gp : Nat} {A : Option Addr} {n c : Nat} {v : Value} {ss : List Sy} {gs : List Nat} (h : MvsSt w0 wr gp A n c v ss gs) {B g : Nat} {m : Nat → Nat → Nat} (hm : MvAt wr B g m) : v.ownBlock ≠ some g ∧ g ≠ gp := by
  have h0 := hm.2 0 0 (by omega) (by omega)
  constructor
  · intro e
    by_cases hl : gs.length = 0
    · rw [h.nil hl] at e
      cases e
    · obtain ⟨g', cap, hve, -, -, -, -, hcell⟩ := own_shape h.own (by omega)
      rw [hve] at e
      injection e with e
      subst e
      have hz : (ptrV gs)[0]? = some (.pointer (some ⟨gs[0]'(by omega), 0, none⟩)) := by
        unfold ptrV
        rw [List.getElem?_map, List.getElem?_eq_getElem (by omega)]
        rfl
      have := hcell 0 _ hz
      simp at this h0
      rw [this] at h0
      cases h0
  · intro e
    subst e
    have h1 := h.blk.cell 0
    simp at h0 h1
    rw [h1] at h0
    cases h0
theorem MvsSt.add {w0 wr w1 : World} {gp : Nat} {A : Option Addr} {n c : Nat} {v v' : Value} {ss : List Sy} {gs : List Nat} {g : Nat} (h : MvsSt w0 wr gp A n c v ss gs) (hl : gs.length < ss.length) (hm : MvAt wr wr.heap.size g (AG.mv ss[gs.length]))
    (hown : w1.ownsRow w0.heap.size 86 1 v' (gs.length + 1) (ptrV gs ++ [.pointer (some ⟨g, 0, none⟩)])) (hg : wr.grownBy w1 v.ownBlock) (hat : v'.ownBlock = v.ownBlock ∨ v'.ownBlock = some wr.heap.size) :
    MvsSt w0 (w1.setCell ⟨gp, 1, none⟩ v') gp A n c v' ss (gs ++ [g]) := by
  have h2 := h.hgp
  have hb := h.blk.lt
  have k1 : KeepB (fun b => v.ownBlock = some b) wr w1 := (KeepB.refl _ wr).grown hg fun k hk _ => hk
  have hne' : v'.ownBlock ≠ some gp := fun e => by
    rcases hat with h3 | h3
    · exact h.ne (by rw [← h3, e])
    · rw [h3] at e; injection e with e; omega
  have k2 : KeepB (fun b => v.ownBlock = some b ∨ b = gp) wr (w1.setCell ⟨gp, 1, none⟩ v') := (k1.mono fun _ h => .inl h).setCell _ _ fun _ => .inr rfl
  have hmk : ∀ {x : Nat} {m : Nat → Nat → Nat}, MvAt wr wr.heap.size x m → MvAt (w1.setCell ⟨gp, 1, none⟩ v') (w1.setCell ⟨gp, 1, none⟩ v').heap.size x m := fun {x m} hx => by
    obtain ⟨a1, a2⟩ := h.apart hx
    refine ⟨Nat.lt_of_lt_of_le hx.1 k2.size, fun q l hq hl => ?_⟩
    rw [World.cell?_of_block (w := wr) (k2.block x hx.1 fun e => e.elim a1 a2)]
    exact hx.2 q l hq hl
  refine ⟨?_, h2, (Below.heap_setCell _ _ _ _ (show w0.heap.size ≠ gp by omega)).trans (h.res.keep k1 fun hk => own_ne h.own h.res (by decide) _ hk rfl), ?_, ?_, fun e => by simp at e, fun i hi => ?_⟩
  · refine k2.below h.below h.below.size fun k hk => ?_
    rcases hk with hk | rfl
    · exact own_block h.own k hk
    · omega
  · have := (h.blk.keep k1 (fun hk => h.ne hk)).set_ 1 v'
    simpa using this
  · have e : (gs ++ [g]).length = gs.length + 1 := by simp
    rw [e]
    have := ownsRow_setCell_other (a := ⟨gp, 1, none⟩) hown hne' v'
    unfold ptrV at this ⊢
    rw [List.map_append]
    exact this
  · by_cases hlt : i < gs.length
    · obtain ⟨h', h3⟩ := h.mv i hlt
      refine ⟨h', ?_⟩
      rw [List.getElem_append_left hlt]
      exact hmk h3
    · obtain rfl : i = gs.length := by simp at hi; omega
      refine ⟨hl, ?_⟩
      rw [List.getElem_append_right (Nat.le_refl _)]
      simp only [Nat.sub_self, List.getElem_cons_zero]
      exact hmk hm
theorem MvAt.kp {K : Nat → Prop} {w w' : World} {g : Nat} {m : Nat → Nat → Nat} (h : MvAt w w.heap.size g m) (hk : KeepB K w w') (hg : ¬ K g) : MvAt w' w'.heap.size g m :=
  ⟨Nat.lt_of_lt_of_le h.1 hk.size, fun q l hq hl => by rw [World.cell?_of_block (w := w) (hk.block g h.1 hg)]; exact h.2 q l hq hl⟩
/-- What is left at the end: the moves, behind the store of the result. -/
theorem MvsSt.fin {w0 wr w' : World} {gp : Nat} {A : Option Addr} {n c : Nat} {v : Value} {ss : List Sy} {gs : List Nat} (h : MvsSt w0 wr gp A n c v ss gs) (hl : gs.length = ss.length) (hk : KeepB (fun b => b = w0.heap.size) wr w') : ∃ M cm, v = .slice M ss.length cm ∧ ss.length ≤ cm ∧ cm ≤ 9223372036854775807 ∧ MovesAt w' w'.heap.size M ss ∧ Below w0.heap.size w0 w' := by
  have hown := own_keep h.own hk fun g hg e => own_ne h.own h.res (by decide) g hg e
  obtain ⟨M, cm, hv, h1, h2⟩ := own_slice hown
  refine ⟨M, cm, by rw [hv, hl], by omega, h2, fun h0 => ?_, hk.below h.below h.below.size fun k e => by omega⟩
  obtain ⟨g', cap, hve, -, hlt, -, -, hcell⟩ := own_shape hown (by omega)
  rw [hv] at hve
  cases hve
  refine ⟨g', 0, rfl, hlt, fun i hi => ?_⟩
  obtain ⟨_, h4⟩ := h.mv i (by omega)
  refine ⟨gs[i]'(by omega), ?_, MvAt.kp h4 hk fun e => ?_⟩
  · rw [Nat.zero_add]
    have hz : (ptrV gs)[i]? = some (.pointer (some ⟨gs[i]'(by omega), 0, none⟩)) := by
      unfold ptrV
      rw [List.getElem?_map, List.getElem?_eq_getElem (by omega)]
      rfl
    have := hcell i _ hz
    simpa using this
  · have h5 := h4.2 0 0 (by omega) (by omega)
    have h6 := h.res.cell 0
    rw [e] at h5
    simp at h5 h6
    simp [h6] at h5

set_option maxRecDepth 100000 in
set_option maxHeartbeats 8000000 in
theorem newParts_any (ss : List Sy) (A : Option Addr) (c : Nat) (w : World) (hall : ss.all sysOk = true) (h3 : ss.length ≤ 3) (hl : ss.length ≤ c) (hc : c ≤ 9223372036854775807) (hr : SysAt w w.heap.size A ss) :
    Calls Tryz.prog 39 #[.slice A ss.length c] w fun e w' => ∃ (M : Option Addr) (cm : Nat), e = .returned (partsV A ss.length c M cm) ∧ ss.length ≤ cm ∧ cm ≤ 9223372036854775807 ∧ MovesAt w' w'.heap.size M ss ∧ Below w.heap.size w w' := by
  obtain ⟨i0, hi, hz0, hz1, hz2⟩ := info_parts infoPtrM
  replace hr := hid hr
  replace hall := hid hall
  obtain ⟨W0, hW0⟩ : ∃ W0, (w.alloc (.cells #[.slice none 0 0, .slice none 0 0] 61)).alloc (.cells #[.slice A ss.length c, .slice none 0 0] 61) = W0 := ⟨_, rfl⟩
  have hst0 : Hid (MvsSt w W0 (w.heap.size + 1) A ss.length c (.slice none 0 0) ss []) := hid (by
    rw [← hW0]
    refine ⟨((Below.refl _ _).alloc (Nat.le_refl _) _).alloc (by simp) _, by omega, (Blk.new _ _ _).alloc _, ?_, World.ownsRow_nil _ _ _ _, fun _ => rfl, fun i hi => absurd hi (by simp)⟩
    have := Blk.new (w.alloc (.cells #[.slice none 0 0, .slice none 0 0] 61)) 61 #[.slice A ss.length c, .slice none 0 0]
    simpa using this)
  replace hW0 := hid hW0
  go_enter Tryz.func39, Tryz.ntmps39
  go_wp2_with fail
  rw [hW0.out]
  clear hW0
  go_loopw [10] (fun iv wr => ∃ (v : Value) (gs : List Nat), iv = .int .i64 (gs.length : Nat) ∧ gs.length ≤ ss.length ∧ MvsSt w wr (w.heap.size + 1) A ss.length c v ss gs) (fun iv _ => ss.length - (intOf iv).toNat)
  case atStart => exact ⟨.slice none 0 0, [], rfl, Nat.zero_le _, hst0.out⟩
  case round =>
    clear hst0
    obtain ⟨v, gs, rfl, hi1, hst⟩ := hrel
    obtain ⟨Av, cv, rfl, hcv1, hcv2⟩ := own_slice hst.own
    by_cases hil : gs.length < ss.length
    · obtain ⟨b, o, Ai, ci, hAe, hbb, c0, c1, c2, hAl, hAc, hEd⟩ := (hr.out.later hst.below).get hil
      subst hAe
      have c0 := c0 wr (Below.refl _ _)
      have c1 := c1 wr (Below.refl _ _)
      have c2 := c2 wr (Below.refl _ _)
      have hin := hid (sysOk_in (List.all_eq_true.1 hall.out _ (List.getElem_mem hil)))
      obtain ⟨s, hs⟩ : ∃ s, Hid (s = ss[gs.length]) := ⟨_, hid rfl⟩
      rw [← hs.out] at c0 c1 c2 hAl hEd hin
      have k1 : (0 : Int) ≤ (gs.length : Int) ∧ (gs.length : Int) < (ss.length : Int) := by omega
      replace hEd := hid hEd
      replace hst := hid hst
      go_upto_region 5 with fail
      obtain ⟨w1, hw1, hz1', hB1, hS1⟩ := boxed wr #[.int .i64 s.al, .int .i64 s.st, .slice Ai s.es.length ci] 25
      rw [hw1]
      clear hw1
      have hst1 := hid (hst.out.later hB1)
      have hE1 := hid (EdsAt.later hEd.out hB1)
      have q0 := GK.BI.cell (hS1 0 _ rfl w1 (Below.refl _ _))
      have q1 := GK.BI.cell (hS1 1 _ rfl w1 (Below.refl _ _))
      have q2 := GK.BI.cell (hS1 2 _ rfl w1 (Below.refl _ _))
      have q3 := GK.BI.cell (show w1.cell? ⟨w.heap.size + 1, 1, none⟩ = some (.slice Av gs.length cv) from by have := hst1.out.blk.cell 1; simpa using this)
      clear hS1 c0 c1 c2
      refine GK.wp_region 5 [5, 6, 7] 200 (KeepB fun _ => False) (GK.BI w1) (fun _ u w' => ∃ g, u = .pointer (some ⟨g, 0, none⟩) ∧ MvAt w' w'.heap.size g (AG.mv s)) (by kernel_rfl) (by kernel_rfl) (GK.BI.way w1) (by decide) (Below.refl _ _).drew ?_
      simp only [List.take_succ_cons, List.take_zero]
      (repeat (refine GK.grow_quiet w1 (by rfl) (by rfl) ?_; intro K hK; go_big_quiet_op; go_big_quiet_on))
      refine GK.grow_call (by rfl) (fun u v v' hb h => ?_) (fun m wq hm hbq _ => ?_) fun u hu => ?_
      · obtain ⟨g, e, h⟩ := h
        exact ⟨g, e, MvAt.kp h hb fun h => h⟩
      · go_simp
        have hbq' : Below w1.heap.size w1 wq := hbq
        refine ⟨rfl, (movesOf_any s Ai ci wq hin.out hAl hAc (hE1.out.later hbq')).mono ?_⟩
        rintro e w3 ⟨g, rfl, hg, hb3⟩
        exact ⟨_, rfl, GK.BI.after hbq hb3, g, rfl, hg⟩
      obtain ⟨mx, wx, -, g, rfl, -⟩ := hu
      simp only [Act.put, List.setIfInBounds_toArray, List.set_cons_zero, List.set_cons_succ]
      refine GK.grow_new (K := fun _ => False) (by rfl) _ (fun b => .slice (some ⟨b, 0, none⟩) 1 1) 86 #[.pointer (some ⟨g, 0, none⟩)] (fun _ => by go_simp) rfl (fun _ _ o h => GK.BI.alloc o h) (fun _ _ h => GK.BI.size h) (fun _ h => h.elim) (fun b hb => ?_)
      simp only [Act.put, List.setIfInBounds_toArray, List.set_cons_zero, List.set_cons_succ]
      refine GK.grow_nil ?_
      intro w4 hw4 hf
      obtain ⟨g', hge, hge2, hblk⟩ := hf _ List.mem_cons_self
      cases hge
      obtain ⟨g2, e2, hmv⟩ := hf _ (List.mem_cons_of_mem _ List.mem_cons_self)
      cases e2
      clear hf q0 q1 q2 q3
      replace hw4 : Below w1.heap.size w1 w4 := hw4
      simp only [List.filterMap_cons, List.filterMap_nil, List.getElem?_cons_zero, List.getElem?_cons_succ]
      have hst4 := hid (hst1.out.later hw4)
      have z4 := hw4.size
      have hmv' := hid (show MvAt w4 w4.heap.size g (AG.mv ss[gs.length]) from by rw [← hs.out]; exact hmv)
      have hzz := hst4.out.below.size
      refine wpList_append_own_at _ (by rfl) _ _ 59 (by rfl) w.heap.size 86 i0 (.pointer none) 1 8 Tryz.underlying59 hi hz0 hz1 hz2 rfl (by decide) _ gs.length (ptrV gs) (by rfl) hst4.out.own ⟨b, 0, none⟩ 1 1 [.pointer (some ⟨g, 0, none⟩)] (by rfl) (by rfl) (World.news_of_block hblk) ?c1 ?c3 ?c4 ?c5 ?_
      case c1 => intro u hu; simp at hu; subst hu; rfl
      case c3 => unfold maxLen; omega
      case c4 => omega
      case c5 => omega
      intro v5 w5 hown5 hgrow hnil5 hat5
      obtain ⟨A5, c5, rfl, -, -⟩ := own_slice hown5
      have ag : (Value.slice Av gs.length cv).ownBlock ≠ some (w.heap.size + 1) := hst4.out.ne
      have hlt4 := hst4.out.blk.lt
      have c1' : w5.cell? ⟨w.heap.size + 1, 1, none⟩ = some (.slice Av gs.length cv) := by rw [hgrow.cell_far _ (by simpa using hlt4) (Ne.symm ag)]; have := hst4.out.blk.cell 1; simpa using this
      have f1' : w5.frozen? ⟨w.heap.size + 1, 1, none⟩ = false := by rw [hgrow.frozen_far _ (by simpa using hlt4) (Ne.symm ag)]; exact hst4.out.blk.frozen 1
      have h6 := hid (hst4.out.add hil hmv'.out hown5 hgrow hat5)
      replace hown5 := hid hown5
      replace hgrow := hid hgrow
      clear hnil5 hat5 hmv hblk
      go_wp2_with fail
      go_roundw
      case rel => exact ⟨_, gs ++ [g], by rw [List.length_append]; go_num, by rw [List.length_append]; simp; omega, h6.out⟩
      case measure => simp [intOf]; omega
    · have hle : gs.length = ss.length := by omega
      have r0 := hst.res.cell 0
      have r1 := hst.res.cell 1
      have f0 := hst.res.frozen 0
      have f1 := hst.res.frozen 1
      have p0 := hst.blk.cell 0
      have p1 := hst.blk.cell 1
      simp only [List.getElem?_toArray, List.getElem?_cons_zero, List.getElem?_cons_succ] at r0 r1 p0 p1
      replace hst := hid hst
      go_wp2_with fail
      obtain ⟨M, cm, hv, m1, m2, m3, m4⟩ := hst.out.fin hle (w' := (wr.setCell ⟨w.heap.size, 0, none⟩ (.slice A ss.length c)).setCell ⟨w.heap.size, 1, none⟩ (.slice Av ss.length cv)) (KeepB.setCell (K := fun b => b = w.heap.size) (KeepB.setCell (K := fun b => b = w.heap.size) (KeepB.refl _ wr) _ _ fun _ => rfl) _ _ fun _ => rfl)
      injection hv with hv1 hv2 hv3
      subst hv1
      subst hv3
      refine bodyPost_ret (v := partsV A ss.length c Av cv) (by simp [partsV, results, Tryz.results39, go_sem, r0, r1]) rfl ?_
      exact ⟨Av, cv, rfl, m1, m2, m3, m4⟩

set_option maxRecDepth 100000 in
set_option maxHeartbeats 8000000 in
theorem partsSize_any (ss : List Sy) (A M : Option Addr) (c cm : Nat) (w : World) (hall : ss.all sysOk = true) (h3 : ss.length ≤ 3) (hl : ss.length ≤ c) (hc : c ≤ 9223372036854775807) (hr : SysAt w w.heap.size A ss) :
    Calls Tryz.prog 80 #[partsV A ss.length c M cm] w fun e w' => e = .returned (.int .i64 (prodL (szP ss) : Nat)) ∧ Below w.heap.size w w' := by
  unfold partsV
  obtain ⟨w0, hw0, hzz0, hB0, hSb⟩ := boxed w #[.slice A ss.length c, .slice M ss.length cm] 61
  have hr0 := hid (hr.later hB0)
  have hSp := hid (fun w' (hb : Below w0.heap.size w0 w') => hSb 0 _ rfl w' (hb.mono hzz0))
  have p0 := hSp.out w0 (Below.refl _ _)
  replace hr := hid hr
  replace hall := hid hall
  clear hSb
  go_enter Tryz.func80, Tryz.ntmps80
  go_wp2_with fail
  clear hw0 p0
  go_loopw [3, 9] (fun sv iv wr => ∃ (i m : Nat), sv = .int .i64 (m : Nat) ∧ iv = .int .i64 (i : Nat) ∧ i ≤ ss.length ∧ m = prodT (szP ss) i ∧ Below w0.heap.size w0 wr) (fun _ iv _ => ss.length - (intOf iv).toNat)
  case atStart => exact ⟨0, 1, rfl, rfl, Nat.zero_le _, rfl, Below.refl _ _⟩
  case round =>
    obtain ⟨i, m, rfl, rfl, hi1, hm, hb⟩ := hrel
    have p0 := hSp.out wr hb
    by_cases hil : i < ss.length
    · obtain ⟨b, o, Ai, ci, hAe, hbb, c0, c1, c2, hAl, hAc, hEd⟩ := (hr0.out.later hb).get hil
      subst hAe
      have c0 := c0 wr (Below.refl _ _)
      have c1 := c1 wr (Below.refl _ _)
      have c2 := c2 wr (Below.refl _ _)
      have hst := sysOk_st (List.all_eq_true.1 hall.out _ (List.getElem_mem hil))
      obtain ⟨n, hn⟩ := Int.eq_ofNat_of_zero_le (show 0 ≤ ss[i].st by omega)
      rw [hn] at c1 hst
      have hn16 : n ≤ 16 := by omega
      have hml : m ≤ 4096 := by
        have h1 := prodT_le (ss := szP ss) (b := 16) (fun a ha => (szP_ok hall.out a ha).2) (by decide) i
        have h2 : 16 ^ i ≤ 16 ^ 3 := Nat.pow_le_pow_right (by decide) (by omega)
        omega
      have hmn : m * n ≤ 65536 := by
        have := Nat.mul_le_mul hml hn16
        omega
      obtain ⟨P, hP⟩ : ∃ P, Hid (P = m * n) := ⟨_, hid rfl⟩
      rw [← hP.out] at hmn
      have f1 : (m : Int) * (n : Int) = (P : Int) := by rw [hP.out, Int.natCast_mul]
      have f2 : IntKind.i64.wrap ((m : Int) * (n : Int)) = (P : Int) := by rw [f1]; exact IntWalk.i64_in _ (by omega)
      have f3 : wrap64 ((m : Int) * (n : Int)) = (P : Int) := by rw [f1]; exact IntWalk.wrap64_in _ ⟨by omega, by omega⟩
      have hwP : Hid (wrap64 (P : Int) = (P : Int)) := hid (IntWalk.wrap64_in _ ⟨by clear f1 f2 f3; omega, by clear f1 f2 f3; omega⟩)
      have hnx : Hid (P = prodT (szP ss) (i + 1)) := hid (by
        rw [hP.out, prodT, ← hm]
        unfold szP
        rw [List.getD_eq_getElem?_getD, List.getElem?_map, List.getElem?_eq_getElem hil]
        simp [hn])
      have k1 : (0 : Int) ≤ (i : Int) ∧ (i : Int) < (ss.length : Int) := by omega
      have hba : Below w0.heap.size w0 (wr.alloc (.cells #[.int .i64 ss[i].al, .int .i64 (n : Int), .slice Ai ss[i].es.length ci] 25)) := hb.alloc hb.size _
      have hbb' := hid hba
      replace hm := hid hm
      replace hn := hid hn
      replace hEd := hid hEd
      clear hst hba
      go_wp2_with fail
      go_roundw
      case rel => exact ⟨i + 1, P, by rw [hwP.out], by go_num, by omega, hnx.out, by first | exact hbb'.out | (simp; done)⟩
      case measure => simp [intOf]; omega
    · obtain rfl : i = ss.length := by omega
      have hfin : Hid (m = prodL (szP ss)) := hid (by rw [hm, ← prodT_all]; unfold szP; rw [List.length_map])
      have hB := hB0.trans (hb.mono hB0.size)
      replace hm := hid hm
      go_wp2_with fail
      go_ret
      exact ⟨by rw [← hfin.out]; rfl, hB⟩

end Go.Proofs.YtdkjnemakkppfaaGreatDoor

/- The program's search: firstPath, its steps a method value. Printed by tools/gen_w57.py. -/
namespace Go.Proofs.YtdkjnemakkppfaaGreatDoor
open Go.RowKit Go.BigFrame AG

/-- The steps of a search, as a function value: it appends to a list the nodes to which a letter leads. -/
structure NextOkB (w : World) (size : Nat) (L : List Nat) (nx : Nat → Nat → List Nat) (fN : FuncId) (bndN capN : Array Value) : Prop where
  run : ∀ args w', (callFunc fN args).run Tryz.prog w' = .ok (.enter fN args) w'
  lt : ∀ q, q < size → ∀ l ∈ L, ∀ n ∈ nx q l, n < size
  len : ∀ q, q < size → ∀ l ∈ L, (nx q l).length ≤ 4096
  call : ∀ w' (q l : Nat) (v : Value) (ns : List Nat) (base : Nat), Below w.heap.size w w' → q < size → l ∈ L → ns.length ≤ 4294967296 → w.heap.size ≤ base → base ≤ w'.heap.size → w'.ownsRow base 3 1 v ns.length (natVals ns) →
    Calls Tryz.prog fN (bndN ++ (#[.int .i64 (q : Nat), .int .i64 (l : Nat), v] ++ capN)) w' fun e w'' => ∃ v', e = .returned v' ∧ w''.ownsRow base 3 1 v' (ns ++ nx q l).length (natVals (ns ++ nx q l)) ∧ KeepB (fun b => v.ownBlock = some b) w' w''


set_option maxRecDepth 100000 in
set_option maxHeartbeats 8000000 in
theorem firstPathB_any (w : World) (size : Nat) (G : Nat → Bool) (fG : FuncId) (capG : Array Value) (hG : GoalOk w size G fG capG) (L : List Nat) (hL : L.Pairwise (· < ·)) (hL6 : ∀ l ∈ L, l < 6) (nx : Nat → Nat → List Nat) (fN : FuncId) (bndN capN : Array Value) (hN : NextOkB w size L nx fN bndN capN)
    (I0 : List Nat) (h0 : I0 ≠ []) (hI : ∀ n ∈ I0, n < size) (hIl : I0.length ≤ 4294967296) (sv lv : Value) (hsv : w.ownsRow 0 3 1 sv I0.length (natVals I0)) (hlv : w.ownsRow 0 3 1 lv L.length (natVals L)) (hsz : size ≤ 1048576) :
    Calls Tryz.prog 79 #[.int .i64 (size : Nat), sv, lv, .func (.func fN) bndN capN, .func (.func fG) #[] capG] w fun e w' => ∃ o, e = .returned (pathV o) ∧ PathPost (fun n => n ∈ I0) L nx (fun n => G n = true) o ∧ Below w.heap.size w w' := by
  obtain ⟨i0, hi, hz0, hz1, hz2⟩ := info_parts infoBoolF
  have hmk := fun W => run_make_rowN (P := Tryz.prog) 39 4 i0 _ Tryz.underlying39 hi hz0 .i64 .i64 size size (Nat.le_refl _) (by rw [hz2]; omega) (by omega) W
  obtain ⟨lA, lc, rfl, hlc, hlc'⟩ := own_slice hlv
  have hLlen : L.length ≤ 6 := by
    have := nodup_bound 6 L (hL.imp fun h => Nat.ne_of_lt h) hL6
    exact this
  replace hsv := hid hsv
  replace hlv := hid hlv
  replace hI := hid hI
  go_enter Tryz.func79, Tryz.ntmps79
  go_wp2_with fail
  obtain ⟨w4, hw4, hb4, hst4⟩ := fp_start w size (.func (.func fG) #[] capG)
  rw [hw4]
  have hz4 : w.heap.size + 1 + 1 + 1 < w4.heap.size := by rw [← hw4]; simp
  clear hw4 hmk
  generalize hbS : w.heap.size + 1 + 1 = bS at *
  generalize hbP : bS + 1 = bP at *
  generalize hgS : w.heap.size + 1 = gS at *
  replace hbS := hid hbS
  replace hbP := hid hbP
  replace hgS := hid hgS
  clear hz4
  have hz4 := hb4.size
  have hsv4 := hid (own_keep hsv.out (.of_below (K := fun _ => False) hb4) fun _ _ h => h)
  replace hst4 := hid hst4
  refine (visit_any w size G fG capG hG bS w.heap.size bP gS (.slice none 0 0) [] (fun _ => false) (-1) 0 sv I0 w4 hst4.out hsv4.out hI.out hIl (by simp)).mono ?_
  rintro e w5 ⟨rfl, sv5, ss5, hst5, hss5, hkp5⟩
  have hb5 : Below w.heap.size w w5 := hst5.below
  obtain ⟨fr0, hfr0⟩ : ∃ fr, fr = frs (fun _ => false) I0 := ⟨_, rfl⟩
  rw [← hfr0] at hst5 hss5 ⊢
  have hf0ne : fr0 ≠ [] := by
    intro e
    obtain ⟨a, ha⟩ := List.exists_mem_of_ne_nil _ h0
    have := (frs_mem (fun _ => false) I0 a).2 ⟨ha, rfl⟩
    rw [← hfr0, e] at this
    cases this
  cases hg0 : fr0.any G
  · obtain ⟨A0, c0, rfl⟩ : ∃ A c, ss5 = [⟨⟨-1, 0, fr0⟩, A, c⟩] := by
      rcases hss5 with ⟨e, _⟩ | ⟨_, A, c, e⟩
      · exact absurd e hf0ne
      · exact ⟨A, c, by simpa using e⟩
    have hSB0 : Hid (SB (fun n => n ∈ I0) L nx G size [⟨-1, 0, fr0⟩] [[]] (fun n => fr0.contains n) 0 0) := hid (by
      rw [hfr0]
      exact SB.begin h0 hI.out (by rw [← hfr0]; exact hg0))
    have hst5' : Hid (FPst w w5 size (.func (.func fG) #[] capG) bS w.heap.size bP gS sv5 [⟨⟨-1, 0, fr0⟩, A0, c0⟩] (fun n => fr0.contains n)) := hid (by simpa using hst5)
    replace hfr0 := hid hfr0
    replace hss5 := hid hss5
    replace hst5 := hid hst5
    replace hf0ne := hid hf0ne
    replace h0 := hid h0
    replace hg0 := hid hg0
    replace hkp5 := hid hkp5
    go_wp2_with (rw [hg0.out])
    go_loopw [15] (fun iv wr => ∃ (i : Nat) (sv : Value) (ss : List StV) (ws : List (List Nat)) (S : Nat → Bool), iv = .int .i64 i ∧ i ≤ ss.length ∧ SrchAt w size G L nx I0 (.func (.func fG) #[] capG) bS w.heap.size bP gS wr i 0 sv ss ws S) (fun iv _ => size + 1 - (intOf iv).toNat)
    case atStart => exact ⟨0, sv5, _, _, _, rfl, by simp, hst5'.out, hSB0.out⟩
    case round =>
      obtain ⟨i, sv, ss, ws, S, rfl, hi, hst, hSB⟩ := hrel
      have hbd := hSB.bound
      have hpos := hSB.bfs.pos
      have hwl := hSB.bfs.len
      simp only [List.length_map] at hbd hpos hwl
      have p0 := hst.blkP.cell 0
      simp only [List.getElem?_toArray, List.getElem?_cons_zero] at p0
      obtain ⟨gv, cv, rfl, hgv, hgv', hcv, hcv', hcell⟩ := own_steps hst.own hpos
      replace hst := hid hst
      replace hSB := hid hSB
      replace hcell := hid hcell
      by_cases hlt : i < ss.length
      · go_wp2_with fail
        go_loopw [35] (fun kv wr => ∃ (k : Nat) (sv : Value) (ss : List StV) (ws : List (List Nat)) (S : Nat → Bool), kv = .int .i64 k ∧ k ≤ L.length ∧ i < ss.length ∧ SrchAt w size G L nx I0 (.func (.func fG) #[] capG) bS w.heap.size bP gS wr i k sv ss ws S) (fun kv _ => L.length - (intOf kv).toNat)
        case atStart => exact ⟨0, _, _, _, _, rfl, by omega, hlt, hst.out, hSB.out⟩
        case round =>
          clear hcell hst hSB p0 hgv hgv' hcv hcv' hbd hpos hwl
          obtain ⟨k, sv, ss, ws, S, rfl, hk, hi', hst, hSB⟩ := hrel
          have hbd := hSB.bound
          have hpos := hSB.bfs.pos
          have hwl := hSB.bfs.len
          simp only [List.length_map] at hbd hpos hwl
          by_cases hkl : k < L.length
          · have hlw := own_keep hlv.out (.of_below (K := fun _ => False) hst.below) fun _ _ h => h
            obtain ⟨gl, cl, hve, -, -, -, -, hlcell⟩ := own_shape hlw (by omega)
            injection hve with hv1 hv2 hv3
            subst hv1
            subst hv3
            have l0 := hlcell k _ (show (natVals L)[k]? = some (.int .i64 (L[k] : Nat)) from by unfold natVals; simp [hkl])
            have hlL : L[k] ∈ L := List.getElem_mem hkl
            obtain ⟨l, hll⟩ : ∃ l, l = L[k] := ⟨_, rfl⟩
            rw [← hll] at l0 hlL
            have p0 := hst.blkP.cell 0
            simp only [List.getElem?_toArray, List.getElem?_cons_zero] at p0
            obtain ⟨gv, cv, rfl, hgv, hgv', hcv, hcv', hcell⟩ := own_steps hst.own hpos
            obtain ⟨-, -, c2⟩ := hcell i hi'
            have hnodes := hst.nodes ss[i] (List.getElem_mem hi')
            have hnsz : ss[i].st.nodes.length ≤ size := hSB.nodesLen (x := ss[i].st) (List.mem_map.2 ⟨_, List.getElem_mem hi', rfl⟩)
            have hnlt : ∀ n ∈ ss[i].st.nodes, n < size := hSB.small ss[i].st (List.mem_map.2 ⟨_, List.getElem_mem hi', rfl⟩)
            obtain ⟨ns, hnse⟩ : ∃ ns, ns = ss[i].st.nodes := ⟨_, rfl⟩
            obtain ⟨nA, hnA⟩ : ∃ nA, nA = ss[i].A := ⟨_, rfl⟩
            obtain ⟨nc, hnc⟩ : ∃ nc, nc = ss[i].c := ⟨_, rfl⟩
            rw [← hnse, ← hnA, ← hnc] at c2 hnodes
            rw [← hnse] at hnsz hnlt
            replace hll := hid hll
            replace hnse := hid hnse
            replace hnA := hid hnA
            replace hnc := hid hnc
            replace hst := hid hst
            replace hSB := hid hSB
            replace hcell := hid hcell
            replace hlcell := hid hlcell
            replace hlw := hid hlw
            replace hnodes := hid hnodes
            replace hnlt := hid hnlt
            have i1 : (0 : Int) ≤ (i : Int) := by omega
            have i2 : (i : Int) < (ss.length : Int) := by omega
            have hrun := hN.run
            obtain ⟨wo, rfl⟩ : ∃ wo : World, wo = wr := ⟨_, rfl⟩
            go_wp2_with fail
            go_loopw [18, 45] (fun rv jv wr2 => ∃ j : Nat, jv = .int .i64 j ∧ j ≤ ns.length ∧ wr2.ownsRow wo.heap.size 3 1 rv (reachedL nx l (ns.take j)).length (natVals (reachedL nx l (ns.take j))) ∧ Below wo.heap.size wo wr2) (fun _ jv _ => ns.length - (intOf jv).toNat)
            case atStart => exact ⟨0, rfl, by omega, World.ownsRow_nil _ _ _ _, Below.refl _ _⟩
            case round =>
              obtain ⟨j, rfl, hj, hown, hbo⟩ := hrel
              by_cases hjl : j < ns.length
              · have hnr := own_keep hnodes.out (.of_below (K := fun _ => False) hbo) fun _ _ h => h
                obtain ⟨gn, cn, hve, -, -, -, -, hncell⟩ := own_shape hnr (by omega)
                injection hve with hv1 hv2 hv3
                subst hv1
                subst hv3
                have n0 := hncell j _ (show (natVals ns)[j]? = some (.int .i64 (ns[j] : Nat)) from by unfold natVals; simp [hjl])
                have hql := hnlt.out ns[j] (List.getElem_mem hjl)
                have htk := reachedL_snoc (nx := nx) l (ns.take j) ns[j]
                rw [← List.take_succ_eq_append_getElem hjl] at htk
                obtain ⟨q, hq⟩ : ∃ q, q = ns[j] := ⟨_, rfl⟩
                rw [← hq] at n0 hql htk
                have hrl : (reachedL nx l (ns.take j)).length ≤ 4294967296 := by
                  refine Nat.le_trans (reachedL_len (size := size) fun x hx => hN.len x (hnlt.out x (List.mem_of_mem_take hx)) l hlL) ?_
                  have : (ns.take j).length ≤ 1048576 := by simp; omega
                  omega
                have hbw := hst.out.below.trans (hbo.mono hst.out.below.size)
                have hz1 := hst.out.below.size
                have hz2 := hbo.size
                replace hnr := hid hnr
                replace hncell := hid hncell
                replace hq := hid hq
                replace htk := hid htk
                replace hown := hid hown
                replace hrl := hid hrl
                go_wp2_with fail
                refine (hN.call _ q l _ _ wo.heap.size hbw hql hlL hrl.out hz1 hz2 hown.out).mono ?_
                rintro e w6 ⟨v6, rfl, hown6, hkp6⟩
                have hb6 : Hid (Below wo.heap.size wo w6) := hid (hkp6.below hbo hz2 fun b hb => own_block hown.out b hb)
                replace hown6 := hid hown6
                replace hkp6 := hid hkp6
                go_wp2_with fail
                go_roundw
                case rel => exact ⟨j + 1, by go_num, by omega, by rw [htk.out]; exact hown6.out, hb6.out⟩
                case measure => simp [intOf]; omega
              · have htk : ns.take j = ns := List.take_of_length_le (by omega)
                rw [htk] at hown
                have hbw := hst.out.below.trans (hbo.mono hst.out.below.size)
                have hst2 := hid (hst.out.later hbo)
                obtain ⟨R, hR⟩ : ∃ R, R = reachedL nx l ns := ⟨_, rfl⟩
                rw [← hR] at hown
                have hRl : R.length ≤ 4294967296 := by
                  rw [hR]
                  refine Nat.le_trans (reachedL_len (size := size) fun x hx => hN.len x (hnlt.out x hx) l hlL) ?_
                  omega
                have hRs : Hid (∀ n ∈ R, n < size) := hid fun n hn => by
                  rw [hR] at hn
                  obtain ⟨q, hq, hnq⟩ := reachedL_mem.1 hn
                  exact hN.lt q (hnlt.out q hq) l hlL n hnq
                replace htk := hid htk
                replace hR := hid hR
                have hown0 := hid (own_base hown (Nat.zero_le _))
                replace hown := hid hown
                go_wp2_with fail
                refine (visit_any w size G fG capG hG bS w.heap.size bP gS _ ss S (i : Int) l _ R wr hst2.out hown0.out hRs.out hRl (by omega)).mono ?_
                rintro e w7 ⟨rfl, sv7, ss7, hst7, hss7, hkp7⟩
                have hwi : i < ws.length := by omega
                obtain ⟨fr, hfr⟩ : ∃ fr, fr = frs S R := ⟨_, rfl⟩
                rw [← hfr] at hst7 hss7 ⊢
                have hil : i < (ss.map (fun x : StV => x.st)).length := by simpa using hi'
                have hfr' : Hid (fr = frs S (reachedL nx (L[k]'hkl) ((ss.map (fun x : StV => x.st))[i]'hil).nodes)) := hid (by
                  rw [hfr, hR.out, hnse.out, hll.out, List.getElem_map])
                replace hil := hid hil
                replace hfr := hid hfr
                replace hkp7 := hid hkp7
                cases hg : fr.any G
                · have hnx : Hid (∃ ws' , SrchAt w size G L nx I0 (.func (.func fG) #[] capG) bS w.heap.size bP gS w7 i (k + 1) sv7 ss7 ws' (fun n => S n || fr.contains n) ∧ i < ss7.length) := hid (by
                    rcases hss7 with ⟨e, rfl⟩ | ⟨hne, A7, c7, rfl⟩
                    · refine ⟨ws, ⟨hst7, ?_⟩, hi'⟩
                      have := hSB.out.old hL hil.out hkl (by rw [← hfr'.out]; exact e)
                      have hS : (fun n => S n || fr.contains n) = S := by funext n; rw [e]; simp
                      rw [hS]
                      exact this
                    · have := hSB.out.add hL hil.out hwi hkl (fun q hq n hn => hN.lt q hq _ (List.getElem_mem hkl) n hn) hfr'.out hne hg
                      refine ⟨ws ++ [l :: ws[i]], ⟨hst7, ?_⟩, by simp; omega⟩
                      rw [List.map_append, hll.out]
                      exact this)
                  replace hst7 := hid hst7
                  replace hss7 := hid hss7
                  replace hg := hid hg
                  go_wp2_with (rw [hg.out])
                  go_roundw
                  case rel =>
                    obtain ⟨ws', h1, h2⟩ := hnx.out
                    exact ⟨k + 1, sv7, ss7, ws', _, by go_num, by omega, h2, h1⟩
                  case measure => simp [intOf]; omega
                · have hF := hid (hSB.out.found hL hil.out hwi hkl (by rw [← hfr'.out]; exact hg))
                  obtain ⟨A7, c7, rfl⟩ : ∃ A c, ss7 = ss ++ [⟨⟨i, l, fr⟩, A, c⟩] := by
                    rcases hss7 with ⟨e, _⟩ | ⟨_, A, c, e⟩
                    · rw [e] at hg; cases hg
                    · exact ⟨A, c, e⟩
                  have hpath := hid (PathOk.add (PathOk.of hSB.out.bfs hL6) hwi (hL6 l hlL) ⟨⟨i, l, fr⟩, A7, c7⟩ rfl rfl)
                  obtain ⟨n, hn⟩ : ∃ n, ss.length = n + 1 := ⟨ss.length - 1, by omega⟩
                  have p7 := hst7.blkP.cell 0
                  simp only [List.getElem?_toArray, List.getElem?_cons_zero] at p7
                  obtain ⟨g7, d7, rfl, hg7, hg7', hd7, hd7', hcell7⟩ := own_steps hst7.own (by simp)
                  have hb7 := hst7.below
                  have hlast : Hid ((ws ++ [l :: ws[i]])[n + 1]'(by simp; omega) = l :: ws[i]) := hid (by
                    have : n + 1 = ws.length := by omega
                    simp [this])
                  have hword : Hid (L[k] :: ws[i] = l :: ws[i]) := hid (by rw [hll.out])
                  replace hst7 := hid hst7
                  replace hss7 := hid hss7
                  replace hg := hid hg
                  have hn' := hid (show (ss ++ [(⟨⟨i, l, fr⟩, A7, c7⟩ : StV)]).length = n + 2 by simp; omega)
                  have hc7 := hid (show ∀ j (hj : j < (ss ++ [(⟨⟨i, l, fr⟩, A7, c7⟩ : StV)]).length), w7.cell? ⟨g7, j * 3, none⟩ = some (.int .i64 (ss ++ [(⟨⟨i, l, fr⟩, A7, c7⟩ : StV)])[j].st.par) ∧ w7.cell? ⟨g7, j * 3 + 1, none⟩ = some (.int .i64 ((ss ++ [(⟨⟨i, l, fr⟩, A7, c7⟩ : StV)])[j].st.let_ : Nat)) from fun j hj => ⟨(hcell7 j hj).1, (hcell7 j hj).2.1⟩)
                  have hls := hid (show (ss ++ [(⟨⟨i, l, fr⟩, A7, c7⟩ : StV)]).length ≤ 4294967296 by simp; omega)
                  have hwl' := hid (show n + 1 < (ws ++ [l :: ws[i]]).length by simp; omega)
                  replace hcell7 := hid hcell7
                  replace hn := hid hn
                  replace hd7 := hid hd7
                  go_wp2_with (rw [hg.out])
                  refine (pathWord_any (ss ++ [⟨⟨i, l, fr⟩, A7, c7⟩]) (ws ++ [l :: ws[i]]) g7 d7 n _ w7 hn'.out hn'.out hls.out hpath.out hwl'.out hd7.out hd7' hg7' hc7.out).mono ?_
                  rintro e w8 ⟨he, hb8⟩
                  rw [hlast.out] at he
                  subst he
                  have hb9 := hb7.trans (hb8.mono hb7.size)
                  go_wp2_with fail
                  go_ret2
                  exact ⟨some (l :: ws[i]), rfl, by rw [← hword.out]; exact hF.out, hb9⟩
          · have hov := hid (show SrchAt w size G L nx I0 (.func (.func fG) #[] capG) bS w.heap.size bP gS wr (i + 1) 0 sv ss ws S from ⟨hst, hSB.over (by omega)⟩)
            replace hst := hid hst
            replace hSB := hid hSB
            go_wp2_with fail
            go_roundw
            case rel => exact ⟨i + 1, sv, ss, ws, S, by go_num, by omega, hov.out⟩
            case measure => simp [intOf]; omega
      · have hN := hid (show ∀ q n, RW (fun n => n ∈ I0) L nx q n → ¬ G n = true from by
          have := hSB.out
          obtain rfl : i = (ss.map (·.st)).length := by simp; omega
          exact this.none)
        have hbf := hst.out.below
        go_wp2
        go_ret2
        exact ⟨none, rfl, hN.out, hbf⟩
  · have hfin := hid (first_now (L := L) (nx := nx) (G := G) (I0 := I0) (by rw [← hfr0]; exact hg0))
    replace hfr0 := hid hfr0
    replace hss5 := hid hss5
    replace hst5 := hid hst5
    replace hf0ne := hid hf0ne
    replace h0 := hid h0
    replace hkp5 := hid hkp5
    go_wp2_with fail
    go_ret2
    exact ⟨some [], rfl, hfin.out, hb5⟩

end Go.Proofs.YtdkjnemakkppfaaGreatDoor

/- The program's DeadlockOf. -/
namespace Go.Proofs.YtdkjnemakkppfaaGreatDoor
open Go.RowKit Go.BigFrame AG

/-- Systems that run together, as the program keeps them: in a block, with their moves. -/
structure PartsAt (w : World) (bP : Nat) (ss : List Sy) (A M : Option Addr) (c cm : Nat) : Prop where
  tab : Tab w
  all : ss.all sysOk = true
  len3 : ss.length ≤ 3
  lc : ss.length ≤ c
  hc : c ≤ 9223372036854775807
  lm : ss.length ≤ cm
  hcm : cm ≤ 9223372036854775807
  sys : SysAt w w.heap.size A ss
  mvs : MovesAt w w.heap.size M ss
  c0 : w.cell? ⟨bP, 0, none⟩ = some (.slice A ss.length c)
  c1 : w.cell? ⟨bP, 1, none⟩ = some (.slice M ss.length cm)
theorem PartsAt.later {w w' : World} {bP : Nat} {ss : List Sy} {A M : Option Addr} {c cm : Nat} (h : PartsAt w bP ss A M c cm) (hb : Below w.heap.size w w') : PartsAt w' bP ss A M c cm :=
  ⟨h.tab.later hb, h.all, h.len3, h.lc, h.hc, h.lm, h.hcm, h.sys.later hb, h.mvs.later hb, (hb.cell (World.block_lt_of_cell? _ _ h.c0)).trans h.c0, (hb.cell (World.block_lt_of_cell? _ _ h.c1)).trans h.c1⟩

set_option maxRecDepth 100000 in
set_option maxHeartbeats 4000000 in
theorem stuckL_any (ss : List Sy) (A M : Option Addr) (c cm node l bP bN : Nat) (w : World) (hP : PartsAt w bP ss A M c cm) (hl6 : l < 6) (hnode : node < 4096) (hN : w.cell? ⟨bN, 0, none⟩ = some (.int .i64 (node : Nat))) :
    Calls Tryz.prog 78 #[.int .i64 (l : Nat), .pointer (some ⟨bP, 0, none⟩), .pointer (some ⟨bN, 0, none⟩)] w fun e w' => e = .returned (.bool (!(nxParts ss node l).isEmpty)) ∧ Below w.heap.size w w' := by
  have c0 := hP.c0
  have c1 := hP.c1
  replace hP := hid hP
  go_enter Tryz.func78, Tryz.ntmps78
  go_wp2_with fail
  refine (partsNext_any ss A M c cm node l w.heap.size (.slice none 0 0) [] w hP.out.all hP.out.len3 hl6 hnode hP.out.lc hP.out.hc hP.out.lm hP.out.hcm (by simp) hP.out.tab hP.out.sys hP.out.mvs (Nat.le_refl _) (World.ownsRow_nil _ _ _ _)).mono ?_
  rintro e w1 ⟨v', rfl, hown, hk⟩
  rw [List.nil_append] at hown
  have hb1 : Below w.heap.size w w1 := hk.below (Below.refl _ _) (Nat.le_refl _) fun k h => by cases h
  obtain ⟨A1, cx, rfl, -, -⟩ := own_slice hown
  obtain ⟨n, hn⟩ : ∃ n, Hid (n = (nxParts ss node l).length) := ⟨_, hid rfl⟩
  have hfin : Hid (decide ((0 : Int) < (n : Int)) = !(nxParts ss node l).isEmpty) := hid (by
    rw [hn.out]
    cases nxParts ss node l with
    | nil => rfl
    | cons a b => simp)
  rw [← hn.out]
  clear hown hk
  go_wp2_with fail
  go_ret
  exact ⟨ret_bool (by rw [← hfin.out]; simp), hb1⟩

set_option maxRecDepth 100000 in
set_option maxHeartbeats 4000000 in
theorem indexStuck_any (ss : List Sy) (A M : Option Addr) (c cm node bP bN : Nat) (L : List Nat) (AL : Option Addr) (cL : Nat) (w : World) (hP : PartsAt w bP ss A M c cm) (hL : ∀ l ∈ L, l < 6) (hnode : node < 4096) (hN : w.cell? ⟨bN, 0, none⟩ = some (.int .i64 (node : Nat))) (hlc : L.length ≤ cL) (hcL : cL ≤ 9223372036854775807) (hr : NatsAt w w.heap.size AL L) :
    Calls Tryz.prog 114 #[.slice AL L.length cL, .func (.func 78) #[] #[.pointer (some ⟨bP, 0, none⟩), .pointer (some ⟨bN, 0, none⟩)]] w (IdxPost (!stuckP ss L node) w) := by
  replace hP := hid hP
  replace hN := hid hN
  replace hr := hid hr
  replace hL := hid hL
  go_enter Tryz.func114, Tryz.ntmps114
  go_wp2_with fail
  go_loopw [8] (fun i wr => ∃ k : Nat, i = .int .i64 k ∧ k ≤ L.length ∧ stuckP ss (L.take k) node = true ∧ Below w.heap.size w wr) (fun i _ => L.length - (intOf i).toNat)
  case atStart => exact ⟨0, rfl, by omega, by simp [stuckP], Below.refl _ _⟩
  case round =>
    obtain ⟨k, rfl, hk, hok, hb⟩ := hrel
    by_cases hlt : k < L.length
    · obtain ⟨b, o, hA, hB, hE⟩ := hr.out (by omega)
      subst hA
      have e0 := hE k hlt
      rw [← hb.cell (by simpa using hB)] at e0
      have hts := hid (show stuckP ss (L.take (k + 1)) node = (nxParts ss node L[k]).isEmpty from by
        unfold stuckP at hok ⊢
        rw [List.take_succ_eq_append_getElem hlt, List.all_append, hok]
        simp)
      have hl6 := hL.out _ (List.getElem_mem hlt)
      have hPr := hid (hP.out.later hb)
      have hNr := hid ((hb.cell (World.block_lt_of_cell? _ _ hN.out)).trans hN.out)
      have k1 : (0 : Int) ≤ (k : Int) ∧ (k : Int) < (L.length : Int) := by omega
      have hfalse := hid (fun (h : (nxParts ss node L[k]).isEmpty = false) => (show stuckP ss L node = false from by
        unfold stuckP
        rw [List.all_eq_false]
        exact ⟨L[k], List.getElem_mem _, by rw [h]; simp⟩))
      obtain ⟨l, hl⟩ : ∃ l, Hid (l = L[k]) := ⟨_, hid rfl⟩
      rw [← hl.out] at e0 hts hl6 hfalse
      replace hok := hid hok
      replace hE := hid hE
      obtain ⟨t, ht⟩ : ∃ t, Hid (t = (nxParts ss node l).isEmpty) := ⟨_, hid rfl⟩
      rw [← ht.out] at hts hfalse
      have hcall := hid (stuckL_any ss A M c cm node l bP bN wr hPr.out hl6 hnode hNr.out)
      rw [← ht.out] at hcall
      cases t
      · go_wp2_with (go_at_call 78; refine hcall.out.mono ?_; rintro e w' ⟨rfl, hb'⟩)
        go_ret
        refine ⟨k, rfl, ?_, hb.trans (hb'.mono hb.size)⟩
        rw [hfalse.out trivial]
        simp
      · go_wp2_with (go_at_call 78; refine hcall.out.mono ?_; rintro e w' ⟨rfl, hb'⟩)
        go_roundw
        case rel => exact ⟨k + 1, by go_num, by omega, hts.out, hb.trans (hb'.mono hb.size)⟩
        case measure => simp [intOf]; omega
    · replace hok := hid hok
      go_wp2
      go_ret
      refine ⟨-1, rfl, ?_, hb⟩
      have : stuckP ss L node = true := by have := hok.out; rwa [List.take_of_length_le (by omega)] at this
      rw [this]
      simp

set_option maxRecDepth 100000 in
set_option maxHeartbeats 4000000 in
theorem containsStuck_any (ss : List Sy) (A M : Option Addr) (c cm node bP bN : Nat) (L : List Nat) (AL : Option Addr) (cL : Nat) (w : World) (hP : PartsAt w bP ss A M c cm) (hL : ∀ l ∈ L, l < 6) (hnode : node < 4096) (hN : w.cell? ⟨bN, 0, none⟩ = some (.int .i64 (node : Nat))) (hlc : L.length ≤ cL) (hcL : cL ≤ 9223372036854775807) (hr : NatsAt w w.heap.size AL L) :
    Calls Tryz.prog 77 #[.slice AL L.length cL, .func (.func 78) #[] #[.pointer (some ⟨bP, 0, none⟩), .pointer (some ⟨bN, 0, none⟩)]] w fun e w' => e = .returned (.bool (!stuckP ss L node)) ∧ Below w.heap.size w w' := by
  have hcall := hid (indexStuck_any ss A M c cm node bP bN L AL cL w hP hL hnode hN hlc hcL hr)
  replace hP := hid hP
  replace hN := hid hN
  replace hr := hid hr
  go_enter Tryz.func77, Tryz.ntmps77
  go_wp2_with fail
  refine hcall.out.mono ?_
  rintro e w' ⟨r, rfl, hr', hb⟩
  replace hr' := hid hr'
  go_wp2
  go_ret
  exact ⟨by rw [← hr'.out]; rfl, hb⟩

set_option maxRecDepth 100000 in
set_option maxHeartbeats 4000000 in
theorem stuckG_any (ss : List Sy) (A M : Option Addr) (c cm node bP bL : Nat) (L : List Nat) (AL : Option Addr) (cL : Nat) (w : World) (hP : PartsAt w bP ss A M c cm) (hL : ∀ l ∈ L, l < 6) (hnode : node < 4096) (hbL : w.cell? ⟨bL, 0, none⟩ = some (.slice AL L.length cL)) (hlc : L.length ≤ cL) (hcL : cL ≤ 9223372036854775807) (hr : NatsAt w w.heap.size AL L) :
    Calls Tryz.prog 76 #[.int .i64 (node : Nat), .pointer (some ⟨bL, 0, none⟩), .pointer (some ⟨bP, 0, none⟩)] w fun e w' => e = .returned (.bool (stuckP ss L node)) ∧ Below w.heap.size w w' := by
  obtain ⟨w0, hw0, hzz0, hB0, hSb⟩ := boxed w #[.int .i64 (node : Nat)] 3
  have hN0 := hid (hSb 0 _ rfl w0 (Below.refl _ _))
  have hcall := hid (containsStuck_any ss A M c cm node bP w.heap.size L AL cL w0 (hP.later hB0) hL hnode hN0.out hlc hcL (hr.later hB0))
  have c0 := (hB0.cell (World.block_lt_of_cell? _ _ hbL)).trans hbL
  replace hP := hid hP
  replace hr := hid hr
  replace hbL := hid hbL
  clear hSb
  go_enter Tryz.func76, Tryz.ntmps76
  go_wp2_with fail
  clear hw0
  refine hcall.out.mono ?_
  rintro e w1 ⟨rfl, hb1⟩
  obtain ⟨t, ht⟩ : ∃ t, Hid (t = stuckP ss L node) := ⟨_, hid rfl⟩
  rw [← ht.out]
  have hB1 := hB0.trans (hb1.mono hB0.size)
  clear c0
  go_wp2_with fail
  go_ret
  exact ⟨ret_bool ht.out, hB1⟩

theorem goalStuck_ok {ss : List Sy} {A M : Option Addr} {c cm bP bL : Nat} {L : List Nat} {AL : Option Addr} {cL size : Nat} {w : World} (hP : PartsAt w bP ss A M c cm) (hL : ∀ l ∈ L, l < 6) (hsz : size ≤ 4096) (hbL : w.cell? ⟨bL, 0, none⟩ = some (.slice AL L.length cL)) (hlc : L.length ≤ cL) (hcL : cL ≤ 9223372036854775807) (hr : NatsAt w w.heap.size AL L) :
    GoalOk w size (stuckP ss L) 76 #[.pointer (some ⟨bL, 0, none⟩), .pointer (some ⟨bP, 0, none⟩)] :=
  ⟨fun args w' => by go_simp, fun w' q hb hq => stuckG_any ss A M c cm q bP bL L AL cL w' (hP.later hb) hL (by omega) ((hb.cell (World.block_lt_of_cell? _ _ hbL)).trans hbL) hlc hcL (hr.later hb)⟩
theorem nxParts_len {ss : List Sy} (hall : ss.all sysOk = true) (h3 : ss.length ≤ 3) (n l : Nat) : (nxParts ss n l).length ≤ 4096 := by
  obtain ⟨-, -, h, -⟩ := pst_ok hall l n ss.length (Nat.le_refl _)
  have h2 : 16 ^ ss.length ≤ 16 ^ 3 := Nat.pow_le_pow_right (by decide) h3
  unfold nxParts
  omega
theorem nextParts_ok {ss : List Sy} {A M : Option Addr} {c cm bP : Nat} {L : List Nat} {w : World} (hP : PartsAt w bP ss A M c cm) (hL : ∀ l ∈ L, l < 6) :
    NextOkB w (prodL (szP ss)) L (nxParts ss) 41 #[partsV A ss.length c M cm] #[] := by
  have h4 := (prodP_4096 hP.all hP.len3).2
  refine ⟨fun args w' => by go_simp, fun q _ l _ n hn => nxParts_lt hP.all q l n hn, fun q _ l _ => nxParts_len hP.all hP.len3 q l, fun w' q l v ns base hb hq hl hns hB hB' hown => ?_⟩
  have hP' := hP.later hb
  exact partsNext_any ss A M c cm q l base v ns w' hP'.all hP'.len3 (hL l hl) (by omega) hP'.lc hP'.hc hP'.lm hP'.hcm hns hP'.tab hP'.sys hP'.mvs hB' hown

set_option maxRecDepth 100000 in
set_option maxHeartbeats 8000000 in
theorem implDeadlockOf_any (ss : List Sy) (A : Option Addr) (c : Nat) (w : World) (hl : ss.length ≤ c) (hc : c ≤ 9223372036854775807) (hT : Tab w) (hr : SysAt w w.heap.size A ss) :
    Calls Tryz.prog 30 #[.slice A ss.length c] w (DeadPost ss w) := by
  replace hr := hid hr
  replace hT := hid hT
  cases hp : partsOk ss
  · have hp' := hid hp
    clear hp
    go_enter Tryz.func30, Tryz.ntmps30
    go_wp2_with fail
    refine (areParts_any ss A c w hl hc hr.out).mono ?_
    rintro e w1 ⟨rfl, hb1⟩
    rw [hp'.out]
    go_wp2_with fail
    go_ret2
    exact ⟨none, rfl, fun h => (by rw [hp'.out] at h; cases h), fun _ => rfl, hb1⟩
  · have hpa : Hid (partsAl ss = allAl ss) := hid (by unfold partsAl; rw [hp]; rfl)
    have hall := partsOk_all hp
    have h3 : ss.length ≤ 3 := by
      unfold partsOk at hp
      rw [Bool.and_eq_true, decide_eq_true_iff] at hp
      exact hp.1.2
    have hp' := hid hp
    have hall' := hid hall
    clear hp hall
    go_enter Tryz.func30, Tryz.ntmps30
    go_wp2_with fail
    refine (areParts_any ss A c w hl hc hr.out).mono ?_
    rintro e w1 ⟨rfl, hb1⟩
    rw [hp'.out]
    have hr1 := hid (hr.out.later hb1)
    go_wp2_with fail
    refine (newParts_any ss A c w1 hall'.out h3 hl hc hr1.out).mono ?_
    rintro e w2 ⟨M, cm, rfl, hcm1, hcm2, hM2, hb2⟩
    replace hM2 := hid hM2
    have hr2 := hid (hr1.out.later hb2)
    have hB2 := hb1.trans (hb2.mono hb1.size)
    unfold partsV
    go_upto_region 4 with fail
    obtain ⟨w3, hw3, hz3, hB3, hS3⟩ := boxed w2 #[.slice A ss.length c, .slice M ss.length cm] 61
    rw [hw3]
    clear hw3
    have hr3 := hid (hr2.out.later hB3)
    have hBB3 := hB2.trans (hB3.mono hB2.size)
    have hP3 : Hid (PartsAt w3 w2.heap.size ss A M c cm) := hid ⟨hT.out.later hBB3, hall'.out, h3, hl, hc, hcm1, hcm2, hr3.out, hM2.out.later hB3, hS3 0 _ rfl w3 (Below.refl _ _), hS3 1 _ rfl w3 (Below.refl _ _)⟩
    clear hS3
    go_wp2_with fail
    refine (implPartsAlphabet_any ss A c w3 hl hc hr3.out).mono ?_
    rintro e w4 ⟨rfl, hb4⟩
    rw [hpa.out]
    have hBB4 := hBB3.trans (hb4.mono hBB3.size)
    have hP4 := hid (hP3.out.later hb4)
    go_wp2_with fail
    refine (lettersOf_any (allAl ss) w4).mono ?_
    rintro e w5 ⟨vL, rfl, hoL, hb5⟩
    obtain ⟨AL, cL, rfl, hlL, hcL, hnL⟩ := OwnNats.read hoL
    have hBB5 := hBB4.trans (hb5.mono hBB4.size)
    have hP5 := hid (hP4.out.later hb5)
    obtain ⟨L, hL⟩ : ∃ L, Hid (L = letters (allAl ss)) := ⟨_, hid rfl⟩
    rw [← hL.out] at hoL hlL hnL ⊢
    replace hoL := hid hoL
    replace hnL := hid hnL
    go_upto_region 5 with fail
    obtain ⟨w6, hw6, hz6, hB6, hS6⟩ := boxed w5 #[.slice AL L.length cL] 63
    rw [hw6]
    clear hw6
    have hBB6 := hBB5.trans (hB6.mono hBB5.size)
    have hP6 := hid (hP5.out.later hB6)
    have hbL6 := hid (hS6 0 _ rfl w6 (Below.refl _ _))
    have hnL6 := hid (hnL.out.later hB6)
    have hoL6 := hid (own_keep hoL.out (.of_below (K := fun _ => False) hB6) fun _ _ h => h)
    clear hS6
    go_upto_region 6 with fail
    have hl6 : Hid (∀ l ∈ L, l < 6) := hid fun l hl => by rw [hL.out] at hl; exact (letters_lt hl).1
    have hLs : Hid (L.Pairwise (· < ·)) := hid (by rw [hL.out]; exact letters_sorted _)
    have hsz := (prodP_4096 hall'.out h3)
    obtain ⟨size, hsize⟩ : ∃ size, Hid (size = prodL (szP ss)) := ⟨_, hid rfl⟩
    rw [← hsize.out] at hsz
    have y0 : ∀ x, (Fam w6.heap.size w6 x).cell? ⟨w2.heap.size, 0, none⟩ = some (.slice A ss.length c) := fun x => ((Fam.below _ _ x).cell (World.block_lt_of_cell? _ _ hP6.out.c0)).trans hP6.out.c0
    have y1 : ∀ x, (Fam w6.heap.size w6 x).cell? ⟨w2.heap.size, 1, none⟩ = some (.slice M ss.length cm) := fun x => ((Fam.below _ _ x).cell (World.block_lt_of_cell? _ _ hP6.out.c1)).trans hP6.out.c1
    have y2 : ∀ x, (Fam w6.heap.size w6 x).cell? ⟨w5.heap.size, 0, none⟩ = some (.slice AL L.length cL) := fun x => ((Fam.below _ _ x).cell (World.block_lt_of_cell? _ _ hbL6.out)).trans hbL6.out
    refine wp_region_grow 10 w6.heap.size w6 (fun i u w' => if i = 1 then u = .int .i64 (size : Nat) else ∃ o, u = pathV o ∧ DeadP ss o) (by kernel_rfl) (by kernel_rfl) (Nat.le_refl _) (Below.refl _ _) ?_
    simp only [List.take_succ_cons, List.take_zero, List.drop_succ_cons, List.drop_zero]
    (repeat (refine grow_quiet (by rfl) (by rfl) (by rfl) ?_; intro K hK; go_big_quiet_op; go_big_quiet_on))
    refine grow_val (.int .i64 (size : Nat)) (by rfl) (by rfl) rfl (fun wq hbq _ => ?_) ?_
    · go_simp
      have hPq := hP6.out.later hbq
      refine ⟨rfl, (partsSize_any ss A M c cm wq hPq.all hPq.len3 hPq.lc hPq.hc hPq.sys).mono ?_⟩
      rintro e w7 ⟨rfl, hb7⟩
      exact ⟨by rw [hsize.out], hb7⟩
    simp only [Act.put, List.setIfInBounds_toArray, List.set_cons_zero, List.set_cons_succ]
    (repeat (refine grow_quiet (by rfl) (by rfl) (by rfl) ?_; intro K hK; go_big_quiet_op; go_big_quiet_on))
    refine grow_new (by rfl) (fun b => .slice (some ⟨b, 0, none⟩) 1 1) 3 #[.int .i64 0] (fun _ => by go_simp) (fun _ => rfl) (Nat.le_refl _) fun bI hbI => ?_
    simp only [Act.put, List.setIfInBounds_toArray, List.set_cons_zero, List.set_cons_succ]
    (repeat (refine grow_quiet (by rfl) (by rfl) (by rfl) ?_; intro K hK; go_big_quiet_op; go_big_quiet_on))
    refine grow_call (by rfl) (by rfl) (fun v x x' hb h => h) (fun wq hbq hfx => ?_) fun u2 hu2 => ?_
    · obtain ⟨bI', eI, -, hI⟩ := hfx _ List.mem_cons_self (by kernel_rfl)
      cases eI
      have hPq := hid (hP6.out.later hbq)
      have hbLq := hid ((hbq.cell (World.block_lt_of_cell? _ _ hbL6.out)).trans hbL6.out)
      have hnLq := hid (hnL6.out.later hbq)
      have hoLq := hid (own_keep hoL6.out (.of_below (K := fun _ => False) hbq) fun _ _ h => h)
      clear y0 y1 y2
      go_simp
      refine ⟨rfl, ?_⟩
      have hIo : wq.ownsRow 0 3 1 (.slice (some ⟨bI, 0, none⟩) 1 1) [0].length (natVals [0]) := ⟨rfl, .inr ⟨bI, 1, #[.int .i64 0], rfl, Nat.zero_le _, hI, Nat.le_refl _, by decide, rfl, rfl⟩⟩
      refine (firstPathB_any wq size (stuckP ss L) 76 _ (goalStuck_ok hPq.out hl6.out hsz.2 hbLq.out hlL hcL hnLq.out) L hLs.out hl6.out (nxParts ss) 41 _ _ (by rw [hsize.out]; exact nextParts_ok hPq.out hl6.out) [0] (by simp) (fun n hn => by rw [List.mem_singleton] at hn; omega) (by simp) _ _ hIo (own_base hoLq.out (Nat.zero_le _)) (by omega)).mono ?_
      rintro e w8 ⟨o, rfl, hpo, hb8⟩
      exact ⟨_, rfl, hb8, o, rfl, by unfold DeadP; rw [← hL.out]; exact hpo⟩
    obtain ⟨wx, -, o, rfl, hdead⟩ := hu2
    replace hdead := hid hdead
    obtain ⟨Sv, Fv, hpv⟩ : ∃ Sv Fv, pathV o = .tuple #[.string Sv, .bool Fv] := ⟨_, _, rfl⟩
    rw [hpv]
    have hpv' := hid hpv
    clear hpv
    simp only [Act.put, List.setIfInBounds_toArray, List.set_cons_zero, List.set_cons_succ]
    (repeat (refine grow_quiet (by rfl) (by rfl) (by rfl) ?_; intro K hK; go_big_quiet_op; go_big_quiet_on))
    refine grow_nil ?_
    intro w9 hb9 hf
    clear hf y0 y1 y2
    have hB9 := hBB6.trans (hb9.mono hBB6.size)
    go_wp2_with fail
    go_ret2
    exact ⟨o, by rw [hpv'.out]; rfl, fun _ => hdead.out, fun h => (by rw [hp'.out] at h; cases h), hB9⟩

end Go.Proofs.YtdkjnemakkppfaaGreatDoor
