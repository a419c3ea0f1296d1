/- Lemmas, part 10: several texts in one. -/
import Derived.Test.YtdkjnemakkppfaaGreatDoorU4
import Derived.Test.YtdkjnemakkppfaaGreatDoorU3
import Derived.Test.YtdkjnemakkppfaaGreatDoorU1
import Derived.Test.YtdkjnemakkppfaaGreatDoorU5
import Derived.Test.YtdkjnemakkppfaaGreatDoorU9
import Derived.Test.YtdkjnemakkppfaaGreatDoorU2
import Derived.Test.YtdkjnemakkppfaaGreatDoorU6
import Derived.Laws.AppendOwnNone
import Derived.Deep.DeepCutAuto
import Derived.Deep.AppendLies
import Derived.Sort.OwnSortedInts
import Derived.Shelf.SlGeneric
import Derived.Shelf.Sort.Plain
import Derived.Shelf.SlSortCmp.NoneTotal
import Derived.Shelf.SlSortCmp.WholeK
import Derived.Ground.NamesProg
import Derived.Ground.SlsfProg
import Derived.Test.YtdkjnemakkppfaaGreatDoorProg
set_option linter.unusedSimpArgs false
set_option linter.unusedVariables false

/- The reference's SystemOf. -/
namespace Go.Proofs.YtdkjnemakkppfaaGreatDoor
open Go.RowKit Go.BigFrame AG

def SoPost (w : World) (x : Sy) (ok : Bool) (e : Ending) (w' : World) : Prop := ∃ (A : Option Addr) (c : Nat), e = .returned (.tuple #[x.val A c, .bool ok]) ∧ x.es.length ≤ c ∧ c ≤ 9223372036854775807 ∧ EdsAt w' w'.heap.size A x.es ∧ FreshA w.heap.size A ∧ Below w.heap.size w w'
def SoOwn (w : World) (x : Sy) (ok : Bool) (e : Ending) (w' : World) : Prop := ∃ (A : Option Addr) (c : Nat), e = .returned (.tuple #[x.val A c, .bool ok]) ∧ OwnEds w' w.heap.size (.slice A x.es.length c) x.es ∧ Below w.heap.size w w'
theorem SoOwn.read {w : World} {x : Sy} {ok : Bool} {e : Ending} {w' : World} (h : SoOwn w x ok e w') : SoPost w x ok e w' := by
  obtain ⟨A, c, h1, h2, h3⟩ := h
  obtain ⟨A', c', e', k1, k2, k3, k4⟩ := OwnEds.read h2
  cases e'
  exact ⟨A, c, h1, k1, k2, k3, k4, h3⟩

/-- The system under way, and the letters. -/
structure SoSt (w0 wr : World) (gs : Nat) (al st : Int) (v : Value) (es : List Ed) (lv : Value) (L : List Nat) : Prop where
  sub : SubSt w0 wr gs al st v es
  list : OwnNats wr w0.heap.size lv L
theorem SoSt.later {w0 wr w1 : World} {gs : Nat} {al st : Int} {v lv : Value} {es : List Ed} {L : List Nat} (h : SoSt w0 wr gs al st v es lv L) (hb : Below wr.heap.size wr w1) : SoSt w0 w1 gs al st v es lv L := ⟨h.sub.later hb, own_later h.list hb⟩
theorem SoSt.add {w0 wr w1 : World} {gs gg cap : Nat} {al st : Int} {v lv : Value} {es : List Ed} {L : List Nat} {x : Ed} (h : SoSt w0 wr gs al st v es lv L)
    (hown : w1.ownsRow w0.heap.size 50 3 (.slice (some ⟨gg, 0, none⟩) (es.length + 1) cap) (es.length + 1) (edCells es ++ [.int .i64 x.f, .int .i64 x.l, .int .i64 x.t])) (hg : wr.grownBy w1 v.ownBlock) :
    SoSt w0 (w1.setCell ⟨gs, 2, none⟩ (.slice (some ⟨gg, 0, none⟩) (es.length + 1) cap)) gs al st (.slice (some ⟨gg, 0, none⟩) (es.length + 1) cap) (es ++ [x]) lv L := by
  have hbl : wr.grownBy w1 v.ownBlock := hg
  refine ⟨h.sub.add hown hg, ?_⟩
  have k2 : KeepB (fun b => v.ownBlock = some b ∨ b = gs) wr (w1.setCell ⟨gs, 2, none⟩ (.slice (some ⟨gg, 0, none⟩) (es.length + 1) cap)) := ((((KeepB.refl _ wr).grown hg (fun k hk _ => hk)).mono fun _ h => .inl h).setCell _ _ fun _ => .inr rfl)
  exact own_keep h.list k2 fun g hg hk => by
    rcases hk with hk | hk
    · exact own_ne_own h.list h.sub.own (by decide) g g hg hk rfl
    · exact own_ne h.list h.sub.blk (by decide) g hg hk

end Go.Proofs.YtdkjnemakkppfaaGreatDoor

/- The program's SystemOf. -/
namespace Go.Proofs.YtdkjnemakkppfaaGreatDoor
open Go.RowKit Go.BigFrame AG

structure SoSt2 (w0 wr : World) (gs : Nat) (al st : Int) (v : Value) (es : List Ed) (lv : Value) (L : List Nat) (mv : Value) (M : List Nat) : Prop where
  so : SoSt w0 wr gs al st v es lv L
  mem : OwnNats wr w0.heap.size mv M
theorem SoSt2.later {w0 wr w1 : World} {gs : Nat} {al st : Int} {v lv mv : Value} {es : List Ed} {L M : List Nat} (h : SoSt2 w0 wr gs al st v es lv L mv M) (hb : Below wr.heap.size wr w1) : SoSt2 w0 w1 gs al st v es lv L mv M := ⟨h.so.later hb, own_later h.mem hb⟩
theorem SoSt2.add {w0 wr w1 : World} {gs gg cap : Nat} {al st : Int} {v lv mv : Value} {es : List Ed} {L M : List Nat} {x : Ed} (h : SoSt2 w0 wr gs al st v es lv L mv M)
    (hown : w1.ownsRow w0.heap.size 50 3 (.slice (some ⟨gg, 0, none⟩) (es.length + 1) cap) (es.length + 1) (edCells es ++ [.int .i64 x.f, .int .i64 x.l, .int .i64 x.t])) (hg : wr.grownBy w1 v.ownBlock) :
    SoSt2 w0 (w1.setCell ⟨gs, 2, none⟩ (.slice (some ⟨gg, 0, none⟩) (es.length + 1) cap)) gs al st (.slice (some ⟨gg, 0, none⟩) (es.length + 1) cap) (es ++ [x]) lv L mv M :=
  ⟨h.so.add hown hg, (SoSt.add (lv := mv) (L := M) ⟨h.so.sub, h.mem⟩ hown hg).list⟩

end Go.Proofs.YtdkjnemakkppfaaGreatDoor

/- The reference's ComposeSystems. -/
namespace Go.Proofs.YtdkjnemakkppfaaGreatDoor
open Go.RowKit Go.BigFrame AG

theorem two_at {w : World} {g : Nat} {s t : Sy} {A B : Option Addr} {c d : Nat} (hb : Blk w g 25 #[.int .i64 s.al, .int .i64 s.st, .slice A s.es.length c, .int .i64 t.al, .int .i64 t.st, .slice B t.es.length d])
    (hl : s.es.length ≤ c) (hc : c ≤ 9223372036854775807) (hm : t.es.length ≤ d) (hd : d ≤ 9223372036854775807) (hr : EdsAt w w.heap.size A s.es) (hr2 : EdsAt w w.heap.size B t.es) : SysAt w w.heap.size (some ⟨g, 0, none⟩) [s, t] := fun _ =>
  ⟨g, 0, rfl, hb.lt, fun i hi => by
    have h2 : i < 2 := hi
    rcases (show i = 0 ∨ i = 1 by omega) with rfl | rfl
    · exact ⟨hb.cell 0, hb.cell 1, A, c, hb.cell 2, hl, hc, hr⟩
    · exact ⟨hb.cell 3, hb.cell 4, B, d, hb.cell 5, hm, hd, hr2⟩⟩
theorem allAl_two {s t : Sy} (h : 0 ≤ s.al) : allAl [s, t] = orB s.al t.al := by
  show orB (orB 0 s.al) t.al = orB s.al t.al
  have : orB 0 s.al = s.al := by unfold orB; rw [show (0 : Int).toNat = 0 from rfl, Nat.zero_or]; omega
  rw [this]

set_option maxRecDepth 100000 in
set_option maxHeartbeats 16000000 in
theorem specComposeSystems_any (s t : Sy) (A B : Option Addr) (c d : Nat) (w : World) (hl : s.es.length ≤ c) (hc : c ≤ 9223372036854775807) (hm : t.es.length ≤ d) (hd : d ≤ 9223372036854775807) (hr : EdsAt w w.heap.size A s.es) (hr2 : EdsAt w w.heap.size B t.es) :
    Calls Tryz.prog 13 #[s.val A c, t.val B d] w (SoPost w (cmX s t) (cmOk s t)) := by
  obtain ⟨i0, hi, hz0', hz1', hz2'⟩ := info_parts infoEd
  unfold Sy.val
  have hsB := ((Blk.new w 25 #[.int .i64 s.al, .int .i64 s.st, .slice A s.es.length c]).alloc (.cells #[.int .i64 t.al, .int .i64 t.st, .slice B t.es.length d] 25)).alloc (.cells #[.int .i64 0, .int .i64 0, .slice none 0 0] 25)
  have htB := (Blk.new (w.alloc (.cells #[.int .i64 s.al, .int .i64 s.st, .slice A s.es.length c] 25)) 25 #[.int .i64 t.al, .int .i64 t.st, .slice B t.es.length d]).alloc (.cells #[.int .i64 0, .int .i64 0, .slice none 0 0] 25)
  have hrB := Blk.new ((w.alloc (.cells #[.int .i64 s.al, .int .i64 s.st, .slice A s.es.length c] 25)).alloc (.cells #[.int .i64 t.al, .int .i64 t.st, .slice B t.es.length d] 25)) 25 #[.int .i64 0, .int .i64 0, .slice none 0 0]
  have hB0 : Below w.heap.size w (((w.alloc (.cells #[.int .i64 s.al, .int .i64 s.st, .slice A s.es.length c] 25)).alloc (.cells #[.int .i64 t.al, .int .i64 t.st, .slice B t.es.length d] 25)).alloc (.cells #[.int .i64 0, .int .i64 0, .slice none 0 0] 25)) := (((Below.refl _ _).alloc (Nat.le_refl _) _).alloc (by simp) _).alloc (by simp; omega) _
  simp only [World.size_alloc] at htB hrB
  generalize hw0 : ((w.alloc (.cells #[.int .i64 s.al, .int .i64 s.st, .slice A s.es.length c] 25)).alloc (.cells #[.int .i64 t.al, .int .i64 t.st, .slice B t.es.length d] 25)).alloc (.cells #[.int .i64 0, .int .i64 0, .slice none 0 0] 25) = w0 at hsB htB hrB hB0
  have hs0 := hid (hr.later hB0)
  have ht0 := hid (hr2.later hB0)
  have p0 := hsB.cell 0
  have p1 := hsB.cell 1
  have p2 := hsB.cell 2
  simp only [List.getElem?_toArray, List.getElem?_cons_zero, List.getElem?_cons_succ] at p0 p1 p2
  replace hsB := hid hsB
  replace htB := hid htB
  replace hrB := hid hrB
  replace hr := hid hr
  replace hr2 := hid hr2
  go_enter Tryz.func13, Tryz.ntmps13
  go_wp2_with fail
  refine (specSystemValid_any s A c w0 hl hc hs0.out).mono ?_
  rintro e w1 ⟨rfl, hb1⟩
  have hB1 := hB0.trans (hb1.mono hB0.size)
  have hs1 := hid (hs0.out.later hb1)
  have ht1 := hid (ht0.out.later hb1)
  replace hsB := hid (hsB.out.below hb1 hsB.out.lt)
  replace htB := hid (htB.out.below hb1 htB.out.lt)
  replace hrB := hid (hrB.out.below hb1 hrB.out.lt)
  have hzero : cmOk s t = false → ∀ wx, Below w.heap.size w wx → SoPost w (cmX s t) (cmOk s t) (.returned (.tuple #[.agg #[.int .i64 0, .int .i64 0, .slice none 0 0], .bool false])) (((wx.setCell ⟨w.heap.size + 1 + 1, 0, none⟩ (.int .i64 0)).setCell ⟨w.heap.size + 1 + 1, 1, none⟩ (.int .i64 0)).setCell ⟨w.heap.size + 1 + 1, 2, none⟩ (.slice none 0 0)) := fun h wx hb => by
    rw [cmX_bad h, h]
    exact ⟨none, 0, rfl, Nat.le_refl _, by omega, fun h => by simp at h, fun b o h => (by cases h), ((hb.setCell (by simp; omega) _).setCell (by simp; omega) _).setCell (by simp; omega) _⟩
  have d0 := hrB.out.cell 0
  have d1 := hrB.out.cell 1
  have d2 := hrB.out.cell 2
  have f0 := hrB.out.frozen 0
  have f1 := hrB.out.frozen 1
  have f2 := hrB.out.frozen 2
  clear p0 p1 p2 hw0
  have q0 := htB.out.cell 0
  have q1 := htB.out.cell 1
  have q2 := htB.out.cell 2
  simp only [List.getElem?_toArray, List.getElem?_cons_zero, List.getElem?_cons_succ] at d0 d1 d2 q0 q1 q2
  replace hzero := hid hzero
  cases hok : sysOk s
  · have hno := hid (hzero.out (by unfold cmOk; rw [hok]; rfl) w1 hB1)
    replace hok := hid hok
    go_wp2
    refine bodyPost_ret (v := .tuple #[.agg #[.int .i64 0, .int .i64 0, .slice none 0 0], .bool false]) (by simp [results, Tryz.results13, go_sem, d0, d1, d2]) rfl ?_
    exact hno.out
  have hok' := hid hok
  clear hok
  go_wp2_with fail
  refine (specSystemValid_any t B d w1 hm hd ht1.out).mono ?_
  rintro e w2 ⟨rfl, hb2⟩
  have hB2 := hB1.trans (hb2.mono hB1.size)
  have hs2 := hid (hs1.out.later hb2)
  have ht2 := hid (ht1.out.later hb2)
  replace hsB := hid (hsB.out.below hb2 hsB.out.lt)
  replace htB := hid (htB.out.below hb2 htB.out.lt)
  replace hrB := hid (hrB.out.below hb2 hrB.out.lt)
  clear d0 d1 d2 f0 f1 f2 q0 q1 q2
  cases hok2 : sysOk t
  · have hno := hid (hzero.out (by unfold cmOk; rw [hok2, Bool.and_eq_false_iff]; right; rfl) w2 hB2)
    have d0 := hrB.out.cell 0
    have d1 := hrB.out.cell 1
    have d2 := hrB.out.cell 2
    have f0 := hrB.out.frozen 0
    have f1 := hrB.out.frozen 1
    have f2 := hrB.out.frozen 2
    simp only [List.getElem?_toArray, List.getElem?_cons_zero, List.getElem?_cons_succ] at d0 d1 d2
    replace hok2 := hid hok2
    go_wp2
    refine bodyPost_ret (v := .tuple #[.agg #[.int .i64 0, .int .i64 0, .slice none 0 0], .bool false]) (by simp [results, Tryz.results13, go_sem, d0, d1, d2]) rfl ?_
    exact hno.out
  have hall := all_two hok'.out hok2
  have hok2' := hid hok2
  have hsa := (sysOk_alpha hok'.out)
  have hta := (sysOk_alpha hok2)
  have hal : Hid (allAl [s, t] = orB s.al t.al) := hid (allAl_two hsa.1)
  obtain ⟨al, hale⟩ : ∃ al, Hid (al = allAl [s, t]) := ⟨_, hid rfl⟩
  have eor : bits .or .i64 s.al t.al = al := by rw [bits_or (by omega) (by omega), hale.out, hal.out]
  have p0 := hsB.out.cell 0
  have p1 := hsB.out.cell 1
  have p2 := hsB.out.cell 2
  have q0 := htB.out.cell 0
  have q1 := htB.out.cell 1
  have q2 := htB.out.cell 2
  simp only [List.getElem?_toArray, List.getElem?_cons_zero, List.getElem?_cons_succ] at p0 p1 p2 q0 q1 q2
  replace hall := hid hall
  have p0' : ∀ o, (w2.alloc o).cell? ⟨w.heap.size, 0, none⟩ = some (.int .i64 s.al) := fun o => by rw [((Below.refl _ w2).alloc (Nat.le_refl _) o).cell (by simpa using hsB.out.lt)]; exact p0
  have q0' : ∀ o, (w2.alloc o).cell? ⟨w.heap.size + 1, 0, none⟩ = some (.int .i64 t.al) := fun o => by rw [((Below.refl _ w2).alloc (Nat.le_refl _) o).cell (by simpa using htB.out.lt)]; exact q0
  clear hok2
  go_upto_region 4 with fail
  obtain ⟨bS, hbS⟩ : ∃ bS, w2.heap.size = bS := ⟨_, rfl⟩
  obtain ⟨w3, hw3⟩ : ∃ w3, (w2.alloc (.cells #[.int .i64 s.al, .int .i64 s.st, .slice A s.es.length c, .int .i64 t.al, .int .i64 t.st, .slice B t.es.length d] 25)).alloc (.cells #[.slice (some ⟨bS, 0, none⟩) 2 2, .slice none 0 0, .slice none 0 0, .int .i64 al, .int .i64 0, .int .i64 0] 73) = w3 := ⟨_, rfl⟩
  have hb3 : Below w2.heap.size w2 w3 := by rw [← hw3]; exact ((Below.refl _ _).alloc (Nat.le_refl _) _).alloc (by simp) _
  have hsysB : Blk w3 bS 25 #[.int .i64 s.al, .int .i64 s.st, .slice A s.es.length c, .int .i64 t.al, .int .i64 t.st, .slice B t.es.length d] := by rw [← hw3, ← hbS]; exact (Blk.new _ _ _).alloc _
  have hnetB : Blk w3 (bS + 1) 73 #[.slice (some ⟨bS, 0, none⟩) 2 2, .slice none 0 0, .slice none 0 0, .int .i64 al, .int .i64 0, .int .i64 0] := by
    rw [← hw3, ← hbS]
    have := Blk.new (w2.alloc (.cells #[.int .i64 s.al, .int .i64 s.st, .slice A s.es.length c, .int .i64 t.al, .int .i64 t.st, .slice B t.es.length d] 25)) 73 #[.slice (some ⟨w2.heap.size, 0, none⟩) 2 2, .slice none 0 0, .slice none 0 0, .int .i64 al, .int .i64 0, .int .i64 0]
    simpa using this
  obtain ⟨ss, hss⟩ : ∃ ss, Hid (ss = [s, t]) := ⟨_, hid rfl⟩
  have hlen : Hid (ss.length = 2) := hid (by rw [hss.out]; rfl)
  have hSys : Hid (SysAt w3 w3.heap.size (some ⟨bS, 0, none⟩) ss) := hid (by rw [hss.out]; exact two_at hsysB hl hc hm hd (hs2.out.later hb3) (ht2.out.later hb3))
  have hB3 := hB2.trans (hb3.mono hB2.size)
  rw [← hss.out] at hall hale
  have hnet := hid (fun (w' : World) (hb : Below w3.heap.size w3 w') => (show (w'.cell? ⟨bS + 1, 0, none⟩ = some (.slice (some ⟨bS, 0, none⟩) 2 2) ∧ w'.cell? ⟨bS + 1, 1, none⟩ = some (.slice none 0 0) ∧ w'.cell? ⟨bS + 1, 2, none⟩ = some (.slice none 0 0)) ∧ w'.cell? ⟨bS + 1, 3, none⟩ = some (.int .i64 al) ∧ w'.cell? ⟨bS + 1, 4, none⟩ = some (.int .i64 0) ∧ w'.cell? ⟨bS + 1, 5, none⟩ = some (.int .i64 0) from by
    have h := hnetB.below hb hnetB.lt
    exact ⟨⟨h.cell 0, h.cell 1, h.cell 2⟩, h.cell 3, h.cell 4, h.cell 5⟩))
  have hbSl : bS + 1 < w3.heap.size := hnetB.lt
  replace hrB := hid (hrB.out.below hb3 hrB.out.lt)
  rw [hbS, hw3]
  have hz4 := l4Sizes_sys ss (some ⟨bS, 0, none⟩) 2 (.slice none 0 0) al 0 0 w3 (by rw [hlen.out]; decide) hall.out hSys.out
  unfold netV at hz4
  rw [hlen.out] at hz4
  replace hz4 := hid hz4
  obtain ⟨⟨n0, n1, n2⟩, n3, n4, n5⟩ := hnet.out w3 (Below.refl _ _)
  clear hsB htB hs2 ht2 hs1 ht1 hs0 ht0 hsysB hnetB hw3 hb3 p0 p1 p2 q0 q1 q2 p0' q0' eor hb2 hb1 hB1 hB2
  replace hbS := hid hbS
  go_wp2_with fail
  refine hz4.out.mono ?_
  rintro e w4 ⟨vS, rfl, hoS, hb4⟩
  obtain ⟨AS, cS, rfl, hcS, hcS', hSN⟩ := OwnNats.read hoS
  have hz5 := l7Pairs_any ss (some ⟨bS, 0, none⟩) AS 2 cS (.slice none 0 0) 0 0 w4 hlen.out hall.out (hSys.out.later hb4) hcS hcS' hSN
  unfold netV at hz5
  rw [hlen.out, ← hale.out] at hz5
  replace hz5 := hid hz5
  have hSN4 := hid hSN
  have hB4 := hB3.trans (hb4.mono hB3.size)
  clear n0 n1 n2 n3 n4 n5 hz4 hSN hoS
  obtain ⟨⟨n0, n1, n2⟩, n3, n4, n5⟩ := hnet.out w4 hb4
  go_wp2_with fail
  refine hz5.out.mono ?_
  rintro e w5 ⟨AB, cB, rfl, hcB, hcB', hBN, hb5⟩
  have hB5 := hB4.trans (hb5.mono hB4.size)
  have hb35 := hb4.trans (hb5.mono hb4.size)
  have hSN5 := hid (hSN4.out.later hb5)
  have hBN5 := hid hBN
  have hSys5 := hid (hSys.out.later hb35)
  have hl4 : (rnB ss).length ≤ 4096 := by rw [rnB_len]; exact (prodP_4096 hall.out (by rw [hlen.out]; decide)).2
  obtain ⟨R, hR⟩ : ∃ R, Hid (R = (rnL ss).length) := ⟨_, hid rfl⟩
  have hcnt : Hid (cntT (rnB ss) (rnB ss).length = R) := hid (by rw [hR.out, cntT_rank ss _ (by rw [rnB_len]; exact Nat.le_refl _), rnB_len, rkN_all])
  have hRl : R ≤ 4096 := by rw [← hcnt.out]; exact Nat.le_trans (cntT_le _ _) hl4
  replace hrB := hid (hrB.out.below hb35 hrB.out.lt)
  clear n0 n1 n2 n3 n4 n5 hz5 hSN4 hSys hBN
  have n3 := (hnet.out w5 hb35).2.1
  have y3 : ∀ x', (Fam w5.heap.size w5 x').cell? ⟨bS + 1, 3, none⟩ = some (.int .i64 al) := fun x' => by rw [(Fam.below w5.heap.size w5 x').cell (by have := hb35.size; simp; omega)]; exact n3
  clear n3
  go_upto_region 6 with fail
  refine wp_region_grow 8 w5.heap.size w5 (fun _ u _ => u = .int .i64 (R : Nat)) (by kernel_rfl) (by kernel_rfl) (Nat.le_refl _) (Below.refl _ _) ?_
  simp only [List.take_succ_cons, List.take_zero, List.drop_succ_cons, List.drop_zero]
  (repeat (refine grow_quiet (by rfl) (by rfl) (by rfl) ?_; intro K hK; go_big_quiet_op; go_big_quiet_on))
  refine grow_val (.int .i64 (R : Nat)) (by rfl) (by rfl) rfl (fun wq hbq _ => ?_) ?_
  · go_simp
    refine ⟨rfl, (l7Rank_any (rnB ss) AB cB (rnB ss).length wq (Nat.le_refl _) hl4 hcB hcB' (hBN5.out.later hbq)).mono ?_⟩
    rintro e w6 ⟨rfl, rfl⟩
    exact ⟨by rw [hcnt.out], Below.refl _ _⟩
  simp only [Act.put, List.setIfInBounds_toArray, List.set_cons_zero, List.set_cons_succ]
  (repeat (refine grow_quiet (by rfl) (by rfl) (by rfl) ?_; intro K hK; go_big_quiet_op; go_big_quiet_on))
  refine grow_new (by rfl) (fun g => .pointer (some ⟨g, 0, none⟩)) 25 #[.int .i64 0, .int .i64 0, .slice none 0 0] (fun _ => by go_simp) (fun _ => rfl) (Nat.le_refl _) fun gs hgs => ?_
  simp only [Act.put, List.setIfInBounds_toArray, List.set_cons_zero, List.set_cons_succ]
  refine grow_nil ?_
  intro w6 hb6 hf
  obtain ⟨g', hge, hgs2, hblk6⟩ := hf _ List.mem_cons_self
  cases hge
  clear hf y3
  have hblk6' : Blk w6 gs 25 #[.int .i64 0, .int .i64 0, .slice none 0 0] := hblk6
  have d0 := hblk6'.cell 0
  have d1 := hblk6'.cell 1
  have d2 := hblk6'.cell 2
  have f0 := hblk6'.frozen 0
  have f1 := hblk6'.frozen 1
  have f2 := hblk6'.frozen 2
  simp only [List.getElem?_toArray, List.getElem?_cons_zero, List.getElem?_cons_succ] at d0 d1 d2
  replace hblk6' := hid hblk6'
  clear hblk6
  go_upto_region 7 with fail
  obtain ⟨w7, hw7⟩ : ∃ w7, ((w6.setCell ⟨gs, 0, none⟩ (.int .i64 al)).setCell ⟨gs, 1, none⟩ (.int .i64 (R : Nat))).setCell ⟨gs, 2, none⟩ (.slice none 0 0) = w7 := ⟨_, rfl⟩
  have hblk7 : Blk w7 gs 25 #[.int .i64 al, .int .i64 (R : Nat), .slice none 0 0] := by
    rw [← hw7]
    simpa using ((hblk6'.out.set_ 0 (.int .i64 al)).set_ 1 (.int .i64 (R : Nat))).set_ 2 (.slice none 0 0)
  have hb57 : Below w5.heap.size w5 w7 := by rw [← hw7]; exact ((hb6.setCell hgs _).setCell hgs _).setCell hgs _
  rw [hw7]
  have hS7 : Hid (SubSt w5 w7 gs al (R : Nat) (.slice none 0 0) []) := hid ⟨hblk7, World.ownsRow_nil _ _ _ _, hgs, hb57⟩
  have hB7 := hB5.trans (hb57.mono hB5.size)
  have hrB5 := hrB
  replace hrB := hid (hrB.out.below hb57 hrB.out.lt)
  have hokeq : Hid (cmOk s t = decide (R ≤ 16)) := hid (by unfold cmOk; rw [hok'.out, hok2'.out, hR.out, hss.out]; rfl)
  have c1 := hblk7.cell 1
  simp only [List.getElem?_toArray, List.getElem?_cons_zero, List.getElem?_cons_succ] at c1
  clear d0 d1 d2 f0 f1 f2 hw7 hblk6' hblk7
  by_cases hR16 : R ≤ 16
  case neg =>
    have h16 : (16 : Int) < (R : Int) := by omega
    have hno := hid (hzero.out (by rw [hokeq.out]; exact decide_eq_false hR16) w7 hB7)
    have d0 := hrB.out.cell 0
    have d1 := hrB.out.cell 1
    have d2 := hrB.out.cell 2
    have f0 := hrB.out.frozen 0
    have f1 := hrB.out.frozen 1
    have f2 := hrB.out.frozen 2
    simp only [List.getElem?_toArray, List.getElem?_cons_zero, List.getElem?_cons_succ] at d0 d1 d2
    go_wp2
    refine bodyPost_ret (v := .tuple #[.agg #[.int .i64 0, .int .i64 0, .slice none 0 0], .bool false]) (by simp [results, Tryz.results13, go_sem, d0, d1, d2]) rfl ?_
    exact hno.out
  have h16 : ¬ ((16 : Int) < (R : Int)) := by omega
  have hcok : Hid (cmOk s t = true) := hid (by rw [hokeq.out]; exact decide_eq_true hR16)
  have hb37 := hb35.trans (hb57.mono hb35.size)
  have n3 := (hnet.out w7 hb37).2.1
  have hb37' : Hid (Below w3.heap.size w3 w5) := hid hb35
  clear hzero
  go_wp2_with fail
  refine (l1Letters_any al w7).mono ?_
  rintro e w8 ⟨lv, rfl, hown8, hb8⟩
  have hs8 : SoSt w5 w8 gs al (R : Nat) (.slice none 0 0) (esTo ss (rnTo ss 0)) lv (letters al) := ⟨hS7.out.later hb8, own_base hown8 hb57.size⟩
  obtain ⟨AL, cL, rfl, hcL, hcL'⟩ := own_slice hown8
  obtain ⟨L, hL⟩ : ∃ L, Hid (L = letters al) := ⟨_, hid rfl⟩
  rw [← hL.out] at hs8 hcL ⊢
  have hL6 : L.length ≤ 6 := by rw [hL.out]; exact letters_len6 al
  have hlL : Hid (∀ l ∈ L, l < 6) := hid fun l hl => by rw [hL.out] at hl; exact (letters_lt hl).1
  have hLe : Hid (L = letters (allAl ss)) := hid (by rw [hL.out, hale.out])
  obtain ⟨N, hN⟩ : ∃ N, Hid (N = (rnB ss).length) := ⟨_, hid rfl⟩
  have hNP : Hid (N = prodL (szP ss)) := hid (by rw [hN.out, rnB_len])
  rw [← hN.out] at hl4 hcB ⊢
  have hrkL : Hid (∀ m, m ≤ N → ∀ wq, Below w5.heap.size w5 wq → Calls Tryz.prog 48 #[.slice AB N cB, .int .i64 (m : Nat)] wq fun e w' => e = .returned (.int .i64 (rkN ss m : Nat)) ∧ w' = wq) := hid fun m hm wq hbq => by
    have h := l7Rank_any (rnB ss) AB cB m wq (by rw [← hN.out]; exact hm) (by rw [← hN.out]; exact hl4) (by rw [← hN.out]; exact hcB) hcB' (hBN5.out.later hbq)
    rw [cntT_rank ss m (by rw [← hNP.out]; exact hm), ← hN.out] at h
    exact h
  replace hs8 := hid hs8
  clear hown8 n3 c1 hS7
  go_wp2_with fail
  go_loopw [11] (fun iv wr => ∃ (i : Nat) (v : Value), iv = .int .i64 (i : Nat) ∧ i ≤ N ∧ SoSt w5 wr gs al (R : Nat) v (esTo ss (rnTo ss i)) (.slice AL L.length cL) L) (fun iv _ => N - (intOf iv).toNat)
  case atStart => exact ⟨0, _, rfl, by omega, hs8.out⟩
  case round =>
    clear hs8
    obtain ⟨i, v, rfl, hi', hs⟩ := hrel
    by_cases hlt : i < N
    · have hib : i < (rnB ss).length := by rw [← hN.out]; exact hlt
      obtain ⟨bB, oB, hBe, hbB, hEB⟩ := (hBN5.out.later hs.sub.keep) (by omega)
      subst hBe
      have b0 := hEB i hib
      have hrt := hid (rnTo_succ ss i)
      obtain ⟨b, hb⟩ : ∃ b, Hid (b = (rnB ss)[i]) := ⟨_, hid rfl⟩
      rw [← hb.out] at b0
      have hbR : Hid (b = true ↔ Rn ss i) := hid (by rw [hb.out, rnB_at]; simp)
      have k1 : (0 : Int) ≤ (i : Int) ∧ (i : Int) < (N : Int) := by omega
      have hs' := hid hs
      replace hEB := hid hEB
      replace hib := hid hib
      cases b with
      | false =>
        have hnx : Hid (esTo ss (rnTo ss i) = esTo ss (rnTo ss (i + 1))) := hid (by rw [hrt.out.2 (fun h => by have := hbR.out.2 h; cases this)])
        clear hs
        by_cases hL0 : 0 < L.length
        · have k2 : (0 : Int) < (L.length : Int) := by omega
          go_wp2_with fail
          obtain ⟨wo, rfl⟩ : ∃ wo : World, wo = wr := ⟨_, rfl⟩
          go_loopw [12] (fun kv wr => kv = .int .i64 0 ∧ wo = wr) (fun _ _ => 0)
          case atStart => exact ⟨rfl, by first | rfl | trivial⟩
          case round =>
            obtain ⟨rfl, rfl⟩ := hrel
            go_wp2_with fail
            go_roundw
            case rel => exact ⟨i + 1, v, by go_num, by omega, by rw [← hnx.out]; exact hs'.out⟩
            case measure => simp [intOf]; omega
        · have k2 : ¬ ((0 : Int) < (L.length : Int)) := by omega
          go_wp2_with fail
          obtain ⟨wo, rfl⟩ : ∃ wo : World, wo = wr := ⟨_, rfl⟩
          go_loopw [12] (fun kv wr => kv = .int .i64 0 ∧ wo = wr) (fun _ _ => 0)
          case atStart => exact ⟨rfl, by first | rfl | trivial⟩
          case round =>
            obtain ⟨rfl, rfl⟩ := hrel
            go_wp2_with fail
            go_roundw
            case rel => exact ⟨i + 1, v, by go_num, by omega, by rw [← hnx.out]; exact hs'.out⟩
            case measure => simp [intOf]; omega
      | true =>
        have hRi := hbR.out.1 rfl
        have hnx : Hid (esTo ss (rnTo ss (i + 1)) = esTo ss (rnTo ss i) ++ cmRow ss i) := hid (by rw [hrt.out.1 hRi, esTo_snoc])
        have hrn16 : (rnTo ss i).length ≤ 16 := by
          have h1 : (rnTo ss i).length = rkN ss i := rfl
          have h2 := rkN_mono ss (show i ≤ prodL (szP ss) by rw [← hNP.out]; exact hi')
          rw [rkN_all, ← hR.out] at h2
          omega
        have h3 : ss.length ≤ 3 := by rw [hlen.out]; decide
        have hesI : (esTo ss (rnTo ss i)).length ≤ 393216 := by
          have := esTo_le hall.out h3 (rnTo ss i)
          have h4 : (rnTo ss i).length * 24576 ≤ 16 * 24576 := Nat.mul_le_mul_right _ hrn16
          omega
        obtain ⟨E0, hE0⟩ : ∃ E0, Hid (E0 = esTo ss (rnTo ss i)) := ⟨_, hid rfl⟩
        rw [← hE0.out] at hs' hnx hesI
        clear hs
        replace h3 := hid h3
        go_wp2_with fail
        obtain ⟨wo, rfl⟩ : ∃ wo : World, wo = wr := ⟨_, rfl⟩
        go_loopw [12] (fun kv wr => ∃ (k : Nat) (v : Value), kv = .int .i64 (k : Nat) ∧ k ≤ L.length ∧ SoSt w5 wr gs al (R : Nat) v (E0 ++ rowTo ss i k) (.slice AL L.length cL) L) (fun kv _ => L.length - (intOf kv).toNat)
        case atStart => exact ⟨0, v, rfl, by omega, by rw [rowTo_zero, List.append_nil]; exact hs'.out⟩
        case round =>
          clear hs' b0
          obtain ⟨k, v, rfl, hk, hs⟩ := hrel
          by_cases hlk : k < L.length
          · obtain ⟨AL2, cL2, e7, -, -, hLN⟩ := OwnNats.read hs.list
            cases e7
            obtain ⟨bL, oL, hLE, hbL, hEL⟩ := hLN (by omega)
            subst hLE
            have l0 := hEL k hlk
            obtain ⟨l, hl9⟩ : ∃ l, Hid (l = L[k]) := ⟨_, hid rfl⟩
            rw [← hl9.out] at l0
            have hl6 : l < 6 := by rw [hl9.out]; exact hlL.out _ (List.getElem_mem _)
            have b0 : wr.cell? ⟨bB, oB + i, none⟩ = some (.bool true) := by
              obtain ⟨bB2, oB2, e8, -, hEB2⟩ := (hBN5.out.later hs.sub.keep) (by rw [← hN.out]; omega)
              cases e8
              rw [hEB2 i hib.out, ← hb.out]
            obtain ⟨M, hM⟩ : ∃ M, Hid (M = nxParts ss i l) := ⟨_, hid rfl⟩
            have hMl : M.length ≤ 4096 := by rw [hM.out]; exact nxParts_le hall.out h3.out i l
            have hMlt : Hid (∀ m ∈ M, m < N) := hid fun m hm => by rw [hM.out] at hm; rw [hNP.out]; exact nxParts_lt hall.out i l m hm
            have hkk : k < (letters (allAl ss)).length := by rw [← hLe.out]; exact hlk
            have hrow : Hid (rowTo ss i (k + 1) = rowTo ss i k ++ M.map (mkE ss i l)) := hid (by rw [rowTo_succ hkk, hM.out, hl9.out]; simp only [hLe.out])
            have hrl := rowTo_le hall.out h3.out i k
            have hzr2 := hs.sub.keep.size
            have hbr := hs.sub.keep
            have hs1 : Hid (∀ a ∈ szP ss, 1 ≤ a) := hid fun a ha => (szP_ok hall.out a ha).1
            have hszl : (szP ss).length ≤ 3 := by unfold szP; rw [List.length_map, hlen.out]; decide
            have hNr : i ≤ 1000000 := by omega
            have hcd := hid (fun w' (hb : Below wr.heap.size wr w') => l4Decode_any (szP ss) AS cS i w' hs1.out hszl hNr hcS hcS' (hSN5.out.later (hbr.trans (hb.mono hzr2))))
            have hcl := hid (fun w' A6 c6 (hb : Below wr.heap.size wr w') (h4 : (szP ss).length ≤ c6) (h5 : c6 ≤ 9223372036854775807) (h6 : NatsAt w' w'.heap.size A6 (decS (szP ss) i)) => by
              have hbb := hbr.trans (hb.mono hzr2)
              have h := l4Nexts_any (.slice (some ⟨bS, 0, none⟩) ss.length 2) (.slice none 0 0) (.slice none 0 0) al 0 0 (szP ss) (decS (szP ss) i) (chP ss) AS A6 cS c6 l w' (netOk_sys ss (some ⟨bS, 0, none⟩) 2 (.slice none 0 0) al 0 0 w' h3.out hall.out (hSys5.out.later hbb)) (decS_len _ _) (fun j hj => by rw [getD_at1 hj]; exact decS_lt hs1.out i j hj) hl6 hcS hcS' (by rw [decS_len]; exact h4) h5 (hSN5.out.later hbb) h6
              have e1 : nxK (szP ss) (fun j => chP ss j ((decS (szP ss) i).getD j 0) l) (szP ss).length = M := by rw [hM.out, ← nx_eq hall.out]; rfl
              rw [e1, decS_len, hlen.out] at h
              unfold netV at h
              exact h)
            obtain ⟨⟨p0, p1, p2⟩, p3, p4, p5⟩ := hnet.out wr (hb37'.out.trans (hbr.mono hb37'.out.size))
            have hlw : bS + 1 < wr.heap.size := by have := hb37'.out.size; omega
            have y0 : ∀ x', (Fam wr.heap.size wr x').cell? ⟨bS + 1, 0, none⟩ = some (.slice (some ⟨bS, 0, none⟩) 2 2) := fun x' => by rw [(Fam.below wr.heap.size wr x').cell (by simpa using hlw)]; exact p0
            have y1 : ∀ x', (Fam wr.heap.size wr x').cell? ⟨bS + 1, 1, none⟩ = some (.slice none 0 0) := fun x' => by rw [(Fam.below wr.heap.size wr x').cell (by simpa using hlw)]; exact p1
            have y2 : ∀ x', (Fam wr.heap.size wr x').cell? ⟨bS + 1, 2, none⟩ = some (.slice none 0 0) := fun x' => by rw [(Fam.below wr.heap.size wr x').cell (by simpa using hlw)]; exact p2
            have y3 : ∀ x', (Fam wr.heap.size wr x').cell? ⟨bS + 1, 3, none⟩ = some (.int .i64 al) := fun x' => by rw [(Fam.below wr.heap.size wr x').cell (by simpa using hlw)]; exact p3
            have y4 : ∀ x', (Fam wr.heap.size wr x').cell? ⟨bS + 1, 4, none⟩ = some (.int .i64 0) := fun x' => by rw [(Fam.below wr.heap.size wr x').cell (by simpa using hlw)]; exact p4
            have y5 : ∀ x', (Fam wr.heap.size wr x').cell? ⟨bS + 1, 5, none⟩ = some (.int .i64 0) := fun x' => by rw [(Fam.below wr.heap.size wr x').cell (by simpa using hlw)]; exact p5
            have y6 : ∀ x', (Fam wr.heap.size wr x').cell? ⟨bL, oL + k, none⟩ = some (.int .i64 (l : Nat)) := fun x' => by rw [(Fam.below wr.heap.size wr x').cell (by simpa using hbL)]; exact l0
            have k5 : (0 : Int) ≤ (k : Int) ∧ (k : Int) < (L.length : Int) := by omega
            have hs' := hid hs
            replace hEL := hid hEL
            replace hLN := hid hLN
            clear hs p0 p1 p2 p3 p4 p5 l0
            go_upto_region 16 with fail
            refine wp_region_grow 11 wr.heap.size wr (fun i' u w' => if i' = 4 then ∃ A c, u = .slice A (szP ss).length c ∧ (szP ss).length ≤ c ∧ c ≤ 9223372036854775807 ∧ NatsAt w' w'.heap.size A (decS (szP ss) i) else OwnNats w' wr.heap.size u M) (by kernel_rfl) (by kernel_rfl) (Nat.le_refl _) (Below.refl _ _) ?_
            simp only [List.take_succ_cons, List.take_zero, List.drop_succ_cons, List.drop_zero]
            (repeat (refine grow_quiet (by rfl) (by rfl) (by rfl) ?_; intro K hK; go_big_quiet_op; go_big_quiet_on))
            refine grow_call (by rfl) (by rfl) (fun u v v' hb h => ?_) (fun wq hbq _ => ?_) fun u hu => ?_
            · obtain ⟨A, c, e, h1, h2, h⟩ := h
              exact ⟨A, c, e, h1, h2, h.later hb⟩
            · go_simp
              refine ⟨rfl, (hcd.out wq hbq).mono ?_⟩
              rintro e w5 ⟨v, rfl, ho, hb5⟩
              obtain ⟨A, c, rfl, h1, h2, h3⟩ := OwnNats.read ho
              refine ⟨_, rfl, hb5, A, c, ?_, by rw [← decS_len (szP ss) i]; exact h1, h2, h3⟩
              rw [decS_len]
            obtain ⟨wx, -, A5, c5, rfl, -, -, -⟩ := hu
            simp only [Act.put, List.setIfInBounds_toArray, List.set_cons_zero, List.set_cons_succ]
            (repeat (refine grow_quiet (by rfl) (by rfl) (by rfl) ?_; intro K hK; go_big_quiet_op; go_big_quiet_on))
            refine grow_call (by rfl) (by rfl) (fun u v v' hb h => own_keep (show OwnNats v wr.heap.size u M from h) (.of_below (K := fun _ => False) hb) fun _ _ h => h) (fun wq hbq hfx => ?_) fun u hu => ?_
            · obtain ⟨A6, c6, e3, h4, h5, h6⟩ := hfx _ List.mem_cons_self (by kernel_rfl)
              cases e3
              have h6' := hid h6
              clear h6 hfx
              go_simp
              refine ⟨rfl, (hcl.out wq A5 c5 hbq h4 h5 h6'.out).mono ?_⟩
              rintro e w5 ⟨v, rfl, ho, hb5⟩
              exact ⟨v, rfl, hb5, own_base ho hbq.size⟩
            obtain ⟨wX, -, hoX⟩ := hu
            obtain ⟨AM, cM, rfl, hcM, hcM', -⟩ := OwnNats.read (show OwnNats wX wr.heap.size _ M from hoX)
            clear hoX
            simp only [Act.put, List.setIfInBounds_toArray, List.set_cons_zero, List.set_cons_succ]
            (repeat (refine grow_quiet (by rfl) (by rfl) (by rfl) ?_; intro K hK; go_big_quiet_op; go_big_quiet_on))
            refine grow_nil ?_
            intro w9 hb9 hf
            have hoM : OwnNats w9 wr.heap.size (.slice AM M.length cM) M := hf _ List.mem_cons_self
            have hs9 : Hid (SoSt2 w5 w9 gs al (R : Nat) v (E0 ++ rowTo ss i k) (.slice (some ⟨bL, oL, none⟩) L.length cL) L (.slice AM M.length cM) M) := hid ⟨hs'.out.later hb9, own_base hoM hzr2⟩
            clear hf hoM y0 y1 y2 y3 y4 y5 y6 hcl hcd hs' hLN hEL hbL b0
            go_wp2_with fail
            obtain ⟨wo2, rfl⟩ : ∃ wo : World, wo = wr := ⟨_, rfl⟩
            go_loopw [14] (fun jv wr => ∃ (j : Nat) (v : Value), jv = .int .i64 (j : Nat) ∧ j ≤ M.length ∧ SoSt2 w5 wr gs al (R : Nat) v (E0 ++ rowTo ss i k ++ (M.take j).map (mkE ss i l)) (.slice (some ⟨bL, oL, none⟩) L.length cL) L (.slice AM M.length cM) M) (fun jv _ => M.length - (intOf jv).toNat)
            case atStart => exact ⟨0, v, rfl, by omega, by rw [List.take_zero, List.map_nil, List.append_nil]; exact hs9.out⟩
            case round =>
              clear hs9
              obtain ⟨j, v, rfl, hj, hs⟩ := hrel
              by_cases hjl : j < M.length
              · obtain ⟨AM2, cM2, e7, -, -, hMN⟩ := OwnNats.read hs.mem
                cases e7
                obtain ⟨bM, oM, hME, hbM, hEM⟩ := hMN (by omega)
                subst hME
                have m0 := hEM j hjl
                obtain ⟨m, hm9⟩ : ∃ m, Hid (m = M[j]) := ⟨_, hid rfl⟩
                rw [← hm9.out] at m0
                obtain ⟨AL2, cL2, e7, -, -, hLN⟩ := OwnNats.read hs.so.list
                cases e7
                obtain ⟨bL2, oL2, hLE, hbL, hEL⟩ := hLN (by omega)
                cases hLE
                have l0 := hEL k hlk
                rw [← hl9.out] at l0
                have hmN : m < N := by rw [hm9.out]; exact hMlt.out _ (List.getElem_mem _)
                have c2 := hs.so.sub.blk.cell 2
                simp only [List.getElem?_toArray, List.getElem?_cons_zero, List.getElem?_cons_succ] at c2
                have k6 : (0 : Int) ≤ (j : Int) ∧ (j : Int) < (M.length : Int) := by omega
                obtain ⟨es, hes⟩ : ∃ es, Hid (es = E0 ++ rowTo ss i k ++ (M.take j).map (mkE ss i l)) := ⟨_, hid rfl⟩
                have hesl : es.length ≤ 1000000 := by
                  rw [hes.out, List.length_append, List.length_append, List.length_map, List.length_take]
                  omega
                rw [← hes.out] at hs
                obtain ⟨ri, hri⟩ : ∃ r, Hid (r = rkN ss i) := ⟨_, hid rfl⟩
                obtain ⟨rm, hrm⟩ : ∃ r, Hid (r = rkN ss m) := ⟨_, hid rfl⟩
                have hek : Hid (E0 ++ rowTo ss i k ++ (M.take (j + 1)).map (mkE ss i l) = es ++ [⟨(ri : Int), (l : Int), (rm : Int)⟩]) := hid (by
                  rw [map_take_snoc hjl, ← List.append_assoc, ← hes.out, ← hm9.out, hri.out, hrm.out]
                  rfl)
                have hbr3 := hid hs.so.sub.keep
                have hkI := hid (fun wq (hb : Below wr.heap.size wr wq) => hrkL.out i hi' wq (hbr3.out.trans (hb.mono hbr3.out.size)))
                have hkM := hid (fun wq (hb : Below wr.heap.size wr wq) => hrkL.out m (Nat.le_of_lt hmN) wq (hbr3.out.trans (hb.mono hbr3.out.size)))
                rw [← hri.out] at hkI
                rw [← hrm.out] at hkM
                have q0 := GK.BI.cell c2
                have q1 := GK.BI.cell l0
                have q2 := GK.BI.cell m0
                have hs' := hid hs
                replace hEM := hid hEM
                replace hMN := hid hMN
                replace hEL := hid hEL
                replace hLN := hid hLN
                clear hs
                go_upto_region 20 with fail
                clear c2 l0 m0
                refine GK.wp_region 17 [17, 18, 19] 200 (KeepB fun _ => False) (GK.BI wr) (fun i' u _ => if i' = 4 then u = .int .i64 (ri : Nat) else u = .int .i64 (rm : Nat)) (by kernel_rfl) (by kernel_rfl) (GK.BI.way wr) (by decide) (Below.refl _ _).drew ?_
                simp only [List.take_succ_cons, List.take_zero]
                (repeat (refine GK.grow_quiet wr (by rfl) (by rfl) ?_; intro K hK; go_big_quiet_op; go_big_quiet_on))
                refine GK.grow_val (.int .i64 (ri : Nat)) (by rfl) rfl (fun m' wq hm2 hbq _ => ?_) ?_
                · go_simp
                  exact ⟨rfl, by
                    have hbq' : Below wr.heap.size wr wq := hbq
                    exact (hkI.out wq hbq').mono fun e w' ⟨h1, h2⟩ => ⟨h1, by rw [h2]; exact GK.BI.after hbq (Below.refl _ _)⟩⟩
                simp only [Act.put, List.setIfInBounds_toArray, List.set_cons_zero, List.set_cons_succ]
                (repeat (refine GK.grow_quiet wr (by rfl) (by rfl) ?_; intro K hK; go_big_quiet_op; go_big_quiet_on))
                refine GK.grow_val (.int .i64 (rm : Nat)) (by rfl) rfl (fun m' wq hm2 hbq _ => ?_) ?_
                · go_simp
                  exact ⟨rfl, by
                    have hbq' : Below wr.heap.size wr wq := hbq
                    exact (hkM.out wq hbq').mono fun e w' ⟨h1, h2⟩ => ⟨h1, by rw [h2]; exact GK.BI.after hbq (Below.refl _ _)⟩⟩
                simp only [Act.put, List.setIfInBounds_toArray, List.set_cons_zero, List.set_cons_succ]
                (repeat (refine GK.grow_quiet wr (by rfl) (by rfl) ?_; intro K hK; go_big_quiet_op; go_big_quiet_on))
                refine GK.grow_new (K := fun _ => False) (by rfl) _ (fun b => .slice (some ⟨b, 0, none⟩) 1 1) 50 #[.int .i64 (ri : Nat), .int .i64 (l : Nat), .int .i64 (rm : Nat)] (fun _ => by go_simp) rfl (fun _ _ o h => GK.BI.alloc o h) (fun _ _ h => GK.BI.size h) (fun _ h => h.elim) (fun bb hbb2 => ?_)
                simp only [Act.put, List.setIfInBounds_toArray, List.set_cons_zero, List.set_cons_succ]
                refine GK.grow_nil ?_
                intro w4' hw4 hf
                obtain ⟨g', hge, hge2, hblk4⟩ := hf _ List.mem_cons_self
                cases hge
                clear hf
                simp only [List.filterMap_cons, List.filterMap_nil, List.getElem?_cons_zero, List.getElem?_cons_succ]
                replace hw4 : Below wr.heap.size wr w4' := hw4
                have hS4 := hid (hs'.out.later hw4)
                have hown4 := hS4.out.so.sub.own
                have hbl4 := hS4.out.so.sub.blk.lt
                have ag : v.ownBlock ≠ some gs := fun e => own_ne hS4.out.so.sub.own hS4.out.so.sub.blk (by decide) gs e rfl
                have c2 := hS4.out.so.sub.blk.cell 2
                have f2 := hS4.out.so.sub.blk.frozen 2
                simp only [List.getElem?_toArray, List.getElem?_cons_zero, List.getElem?_cons_succ] at c2
                clear q0 q1 q2
                refine wpList_append_lies _ (by rfl) _ _ 23 (by rfl) w5.heap.size 50 i0 (.agg #[.int .i64 0, .int .i64 0, .int .i64 0]) 3 24 Tryz.underlying23 hi hz0' hz1' hz2' rfl (by decide) v es.length (edCells es) (by rfl) hown4 ⟨bb, 0, none⟩ 1 1 [.int .i64 (ri : Nat), .int .i64 (l : Nat), .int .i64 (rm : Nat)] (by rfl) (by rfl) (World.news_of_block hblk4) ?c1 (by omega) ?c3 ?c4 ?c5 w4'.heap.size rfl ?_
                case c1 => simp [Value.oneCell']
                case c3 => unfold maxLen; omega
                case c4 => omega
                case c5 => have := hS4.out.so.sub.keep.size; omega
                intro gg cap wE hown5 hgrow hat hlt5
                have c2' : wE.cell? ⟨gs, 2, none⟩ = some v := by rw [hgrow.cell_far _ (by simpa using hbl4) (Ne.symm ag)]; exact c2
                have f2' : wE.frozen? ⟨gs, 2, none⟩ = false := by rw [hgrow.frozen_far _ (by simpa using hbl4) (Ne.symm ag)]; exact f2
                have hfin := hid (hS4.out.add (x := ⟨(ri : Int), (l : Int), (rm : Int)⟩) hown5 hgrow)
                have hz5 := hgrow.size
                clear hown4 hown5 hgrow c2 f2
                go_wp2_with fail
                go_roundw
                case rel => exact ⟨j + 1, _, by go_num, by omega, by rw [hek.out]; exact hfin.out⟩
                case measure => simp [intOf]; omega
              · obtain rfl : j = M.length := by omega
                have hfin : Hid (SoSt w5 wr gs al (R : Nat) v (E0 ++ rowTo ss i (k + 1)) (.slice (some ⟨bL, oL, none⟩) L.length cL) L) := hid (by
                  rw [hrow.out, ← List.append_assoc]
                  have h9 := hs.so
                  rw [List.take_length] at h9
                  exact h9)
                replace hs := hid hs
                go_wp2_with fail
                go_roundw
                case rel => exact ⟨k + 1, v, by go_num, by omega, hfin.out⟩
                case measure => simp [intOf]; omega
          · obtain rfl : k = L.length := by omega
            have hfin : Hid (E0 ++ rowTo ss i L.length = esTo ss (rnTo ss (i + 1))) := hid (by rw [hnx.out, hLe.out, rowTo_all])
            replace hs := hid hs
            have k6 : ¬ ((L.length : Int) < (L.length : Int)) := by omega
            go_wp2_with fail
            go_roundw
            case rel => exact ⟨i + 1, v, by go_num, by omega, by rw [← hfin.out]; exact hs.out⟩
            case measure => simp [intOf]; omega
    · obtain rfl : i = N := by omega
      have hE : esTo ss (rnTo ss i) = cmEs ss := by rw [hNP.out, rnTo_all, esTo_all]
      rw [hE] at hs
      obtain ⟨es, hes⟩ : ∃ es, Hid (es = cmEs ss) := ⟨_, hid rfl⟩
      rw [← hes.out] at hs
      obtain ⟨Av, cv, hve, hv1, hv2⟩ := own_slice hs.sub.own
      subst hve
      obtain ⟨A2, c2', hve2, h1, h2, h3, h4⟩ := OwnEds.read (show OwnEds wr w5.heap.size (.slice Av es.length cv) es from hs.sub.own)
      cases hve2
      have hbr := hs.sub.keep
      have c0 := hs.sub.blk.cell 0
      have c1 := hs.sub.blk.cell 1
      have c2 := hs.sub.blk.cell 2
      have hrb := hrB5.out.below hbr hrB5.out.lt
      have d0 := hrb.cell 0
      have d1 := hrb.cell 1
      have d2 := hrb.cell 2
      have f0 := hrb.frozen 0
      have f1 := hrb.frozen 1
      have f2 := hrb.frozen 2
      simp only [List.getElem?_toArray, List.getElem?_cons_zero, List.getElem?_cons_succ] at c0 c1 c2 d0 d1 d2
      have hlt3 := hrb.lt
      have hg5 : w.heap.size + 1 + 1 < w5.heap.size := hrB5.out.lt
      have hfin : Hid (SoPost w (cmX s t) (cmOk s t) (.returned (.tuple #[.agg #[.int .i64 al, .int .i64 (R : Nat), .slice Av es.length cv], .bool true])) (((wr.setCell ⟨w.heap.size + 1 + 1, 0, none⟩ (.int .i64 al)).setCell ⟨w.heap.size + 1 + 1, 1, none⟩ (.int .i64 (R : Nat))).setCell ⟨w.heap.size + 1 + 1, 2, none⟩ (.slice Av es.length cv))) := hid (by
        have hne : ∀ b o, Av = some ⟨b, o, none⟩ → 0 < es.length → b ≠ w.heap.size + 1 + 1 := fun b o hA _ => by have := h4 b o hA; omega
        have e : cmSy ss = ⟨al, ((R : Nat) : Int), es⟩ := by unfold cmSy; rw [hale.out, hR.out, hes.out]
        rw [cmX_ok hcok.out, hcok.out, ← hss.out, e]
        have hB5s := hB5.size
        refine ⟨Av, cv, rfl, h1, h2, ?_, fun b o hA => by have := h4 b o hA; omega, ?_⟩
        · simpa [World.setCell] using ((h3.stored _ hne).stored _ hne).stored _ hne
        · exact (((hB5.trans (hbr.mono hB5.size)).setCell (by simp; omega) _).setCell (by simp; omega) _).setCell (by simp; omega) _)
      replace hs := hid hs
      replace h3 := hid h3
      clear hrb
      go_wp2
      refine bodyPost_ret (v := .tuple #[.agg #[.int .i64 al, .int .i64 (R : Nat), .slice Av es.length cv], .bool true]) (by simp [results, Tryz.results13, go_sem, d0, d1, d2]) rfl ?_
      exact hfin.out

end Go.Proofs.YtdkjnemakkppfaaGreatDoor

/- Systems that run together: the program's parts.next. -/
namespace Go.Proofs.YtdkjnemakkppfaaGreatDoor
open Go.RowKit Go.BigFrame AG

/-- The moves of some systems lie in memory. -/
def MovesAt (w : World) (B : Nat) (M : Option Addr) (ss : List Sy) : Prop := 0 < ss.length → ∃ b o, M = some ⟨b, o, none⟩ ∧ b < B ∧ ∀ i (h : i < ss.length), ∃ g, w.cell? ⟨b, o + i, none⟩ = some (.pointer (some ⟨g, 0, none⟩)) ∧ MvAt w B g (mv ss[i])
theorem MovesAt.later {w w' : World} {M : Option Addr} {ss : List Sy} (h : MovesAt w w.heap.size M ss) (hb : Below w.heap.size w w') : MovesAt w' w'.heap.size M ss := fun hl => by
  obtain ⟨b, o, h1, h2, h3⟩ := h hl
  refine ⟨b, o, h1, Nat.lt_of_lt_of_le h2 hb.size, fun i hi => ?_⟩
  obtain ⟨g, h4, h5⟩ := h3 i hi
  exact ⟨g, by rw [hb.cell (by simpa using h2)]; exact h4, h5.later hb⟩
def partsV (A : Option Addr) (n c : Nat) (M : Option Addr) (cm : Nat) : Value := .agg #[.slice A n c, .slice M n cm]

set_option maxRecDepth 100000 in
set_option maxHeartbeats 8000000 in
theorem partsNext_any (ss : List Sy) (A M : Option Addr) (c cm node l base : Nat) (v : Value) (ns : List Nat) (w : World) (hall : ss.all sysOk = true) (hn3 : ss.length ≤ 3) (hl6 : l < 6) (hnode : node < 4096) (hlc : ss.length ≤ c) (hc : c ≤ 9223372036854775807) (hlm : ss.length ≤ cm) (hcm : cm ≤ 9223372036854775807)
    (hns : ns.length ≤ 4294967296) (hT : Tab w) (hS : SysAt w w.heap.size A ss) (hM : MovesAt w w.heap.size M ss) (hbase : base ≤ w.heap.size) (hown : w.ownsRow base 3 1 v ns.length (natVals ns)) :
    Calls Tryz.prog 41 #[partsV A ss.length c M cm, .int .i64 (node : Nat), .int .i64 (l : Nat), v] w fun e w' => ∃ v', e = .returned v' ∧ w'.ownsRow base 3 1 v' (ns ++ nxParts ss node l).length (natVals (ns ++ nxParts ss node l)) ∧ KeepB (fun b => v.ownBlock = some b) w w' := by
  obtain ⟨i0, hi, hz0, hz1, hz2⟩ := info_parts infoInt
  unfold partsV
  obtain ⟨Av, cv, hve, hcv1, hcv2⟩ := own_slice hown
  subst hve
  have hpar := Blk.new w 61 #[.slice A ss.length c, .slice M ss.length cm]
  have hb0 : Below w.heap.size w (w.alloc (.cells #[.slice A ss.length c, .slice M ss.length cm] 61)) := (Below.refl _ _).alloc (Nat.le_refl _) _
  have hz0' : (w.alloc (.cells #[.slice A ss.length c, .slice M ss.length cm] 61)).heap.size = w.heap.size + 1 := by simp
  generalize hw0 : w.alloc (.cells #[.slice A ss.length c, .slice M ss.length cm] 61) = w0 at hpar hb0 hz0'
  have p0 := hpar.cell 0
  have p1 := hpar.cell 1
  simp only [List.getElem?_toArray, List.getElem?_cons_zero, List.getElem?_cons_succ] at p0 p1
  have hS0 := hid (hS.later hb0)
  have hM0 := hid (hM.later hb0)
  have hT0 := hid (hT.later hb0)
  have hpar' := hid hpar
  have hok := hid (pst_ok hall l node)
  replace hall := hid hall
  replace hown := hid hown
  replace hS := hid hS
  replace hM := hid hM
  clear hpar
  go_enter Tryz.func41, Tryz.ntmps41
  go_wp2_with fail
  go_loopw [1, 9, 10, 11] (fun nd rv wt iv wr => ∃ (k : Nat) (Ar : Option Addr) (cr : Nat), k ≤ ss.length ∧ iv = .int .i64 ((ss.length : Int) - 1 - k) ∧ nd = .int .i64 ((pst ss l node k).nd : Nat) ∧ wt = .int .i64 ((pst ss l node k).wt : Nat) ∧ rv = .slice Ar (pst ss l node k).re.length cr ∧ (pst ss l node k).re.length ≤ cr ∧ cr ≤ 9223372036854775807 ∧ NatsAt wr wr.heap.size Ar (pst ss l node k).re ∧ ((pst ss l node k).re.length = 0 → rv = .slice none 0 0) ∧ Below w0.heap.size w0 wr) (fun _ _ _ iv _ => (intOf iv + 1).toNat)
  case atStart =>
    refine ⟨0, some ⟨w.heap.size + 1, 0, none⟩, 1, by omega, by first | rfl | (simp; done) | go_num, rfl, rfl, rfl, Nat.le_refl _, by omega, fun _ => ⟨w.heap.size + 1, 0, rfl, by simp; omega, fun i hi => ?_⟩, fun h => by simp [pst] at h, (Below.refl _ _).alloc (Nat.le_refl _) _⟩
    obtain rfl : i = 0 := by simpa [pst] using hi
    rw [Nat.add_zero, ← hz0', World.cell?_alloc_at _ _ _ _ rfl]
    rfl
  case round =>
    clear p0 p1
    obtain ⟨k, Ar, cr, hk, rfl, rfl, rfl, rfl, hr1, hr2, hre, hrn, hb⟩ := hrel
    have hpb := hpar'.out.below hb hpar'.out.lt
    have p0 := hpb.cell 0
    have p1 := hpb.cell 1
    simp only [List.getElem?_toArray, List.getElem?_cons_zero, List.getElem?_cons_succ] at p0 p1
    obtain ⟨o1, o2, o3, o4⟩ := hok.out k hk
    have hzr := hb.size
    by_cases hlt : k < ss.length
    · obtain ⟨i, hik⟩ : ∃ i, i + k + 1 = ss.length := ⟨ss.length - 1 - k, by omega⟩
      obtain ⟨hil, hsucc⟩ := pst_succ (ss := ss) (l := l) (node := node) hlt hik
      obtain ⟨s, hse⟩ : ∃ s, s = ss[i] := ⟨_, rfl⟩
      have hso : sysOk s = true := by rw [hse]; exact List.all_eq_true.1 hall.out _ (List.getElem_mem _)
      have hst := sysOk_st hso
      obtain ⟨sn, hsn⟩ := Int.eq_ofNat_of_zero_le (show 0 ≤ s.st by omega)
      obtain ⟨b, o, hA, hbb, hE⟩ := hS0.out (by omega)
      subst hA
      obtain ⟨c0, c1, Ai, ci, c2, s1, s2, -⟩ := hE i hil
      rw [← hb.cell (by simpa using hbb)] at c0 c1 c2
      rw [← hse] at c0 c1 c2 hsucc
      rw [hsn] at c1
      obtain ⟨b2, o2', hM', hbb2, hEM⟩ := hM0.out (by omega)
      subst hM'
      obtain ⟨g, m0, hmv⟩ := hEM i hil
      rw [← hb.cell (by simpa using hbb2)] at m0
      rw [← hse] at hmv
      have hmvr := hid (MvAt.later hmv hb)
      obtain ⟨x, hx⟩ : ∃ x, x = pst ss l node k := ⟨_, rfl⟩
      rw [← hx] at hr1 hre hrn o1 o2 o3 o4 hsucc ⊢
      obtain ⟨re, wt, nd⟩ := x
      simp only at hr1 hre hrn o1 o2 o3 o4
      have hnd4 : nd < 4096 := by omega
      have hpw : 16 ^ k ≤ 16 ^ 2 := Nat.pow_le_pow_right (by omega) (by omega)
      have hsn1 : 1 ≤ sn ∧ sn ≤ 16 := by omega
      have e1 : ((ss.length : Int) - 1 - (k : Int)) = (i : Int) := by omega
      rw [e1]
      obtain ⟨d, hd⟩ : ∃ d, d = nd % sn := ⟨_, rfl⟩
      have hds : d < sn := by rw [hd]; exact Nat.mod_lt _ (by omega)
      have e2 : Int.tmod (nd : Int) (sn : Int) = (d : Int) := by rw [hd]; exact tmod_nat nd sn
      have e3 : Int.tdiv (nd : Int) (sn : Int) = ((nd / sn : Nat) : Int) := tdiv_nat nd sn
      have hsq : s.st.toNat = sn := by omega
      have k1 : (0 : Int) ≤ (i : Int) ∧ (i : Int) < (ss.length : Int) := by omega
      have hnb := Blk.new wr 25 #[.int .i64 s.al, .int .i64 (sn : Int), .slice Ai s.es.length ci]
      have hba : Below wr.heap.size wr (wr.alloc (.cells #[.int .i64 s.al, .int .i64 (sn : Int), .slice Ai s.es.length ci] 25)) := (Below.refl _ _).alloc (Nat.le_refl _) _
      have hbs : wr.heap.size < (wr.alloc (.cells #[.int .i64 s.al, .int .i64 (sn : Int), .slice Ai s.es.length ci] 25)).heap.size := by simp
      generalize hwa : wr.alloc (.cells #[.int .i64 s.al, .int .i64 (sn : Int), .slice Ai s.es.length ci] 25) = wa at hnb hba hbs
      have d0 := hnb.cell 0
      have d1 := hnb.cell 1
      simp only [List.getElem?_toArray, List.getElem?_cons_zero, List.getElem?_cons_succ] at d0 d1
      have hstq : Hid (stepQ s nd l = if HasZ s.al (l : Int) = true then memL (mv s d l) else [d]) := hid (by unfold stepQ; rw [hsq, ← hd])
      replace hre := hid hre
      replace hE := hid hE
      replace hEM := hid hEM
      replace hse := hid hse
      replace hx := hid hx
      replace hd := hid hd
      replace hsn := hid hsn
      replace hsucc := hid hsucc
      replace hso := hid hso
      replace hik := hid hik
      have hdb := Blk.new wa 3 #[.int .i64 (d : Int)]
      have hba2 : Below wa.heap.size wa (wa.alloc (.cells #[.int .i64 (d : Int)] 3)) := (Below.refl _ _).alloc (Nat.le_refl _) _
      generalize hwb : wa.alloc (.cells #[.int .i64 (d : Int)] 3) = wb at hdb hba2
      have hdc := hdb.cell 0
      simp only [List.getElem?_toArray, List.getElem?_cons_zero, List.getElem?_cons_succ] at hdc
      have hdl := hdb.lt
      have hrb := hba.trans (hba2.mono hba.size)
      have hHle : (l : Int) ≤ 63 := by omega
      have hbb2' := hba2.size
      have d1b : wb.cell? ⟨wr.heap.size, 1, none⟩ = some (.int .i64 (sn : Int)) := by rw [hba2.cell (World.block_lt_of_cell? _ _ d1)]; exact d1
      have d0b : wb.cell? ⟨wr.heap.size, 0, none⟩ = some (.int .i64 s.al) := by rw [hba2.cell (World.block_lt_of_cell? _ _ d0)]; exact d0
      replace hdb := hid hdb
      go_wp2_with fail
      refine (has_any s.al (l : Int) _ hHle).mono ?_
      rintro e w' ⟨rfl, rfl⟩
      clear p0 c0 c1 c2
      go_upto_if 41 with fail
      go_cut [13] from 24 to 87 (fun tv wx => ∃ (qs : List Nat) (At : Option Addr) (cq : Nat), tv = .slice At qs.length cq ∧ qs.length ≤ cq ∧ cq ≤ 9223372036854775807 ∧ Hid (qs = stepQ s nd l) ∧ NatsAt wx wx.heap.size At qs ∧ Below wb.heap.size wb wx)
      case first =>
        cases hH : HasZ s.al (l : Int)
        · have hq1 : Hid ([d] = stepQ s nd l) := hid (by rw [hstq.out, hH]; rfl)
          have hq : Hid (NatsAt wb wb.heap.size (some ⟨wa.heap.size, 0, none⟩) [d]) := hid (fun _ => ⟨wa.heap.size, 0, rfl, hdl, fun i hi => by
            obtain rfl : i = 0 := by simpa using hi
            rw [Nat.add_zero]
            exact hdc⟩)
          replace hH := hid hH
          clear hdc
          go_wp2_with fail
          go_meet
          exact ⟨[d], _, 1, rfl, Nat.le_refl _, by omega, hq1, hq.out, Below.refl _ _⟩
        · obtain ⟨S, hS'⟩ : ∃ S, S = mv s d l := ⟨_, rfl⟩
          have hSl : S < 65536 := by rw [hS']; exact mv_lt _ _ _
          have hq1 : Hid (memL S = stepQ s nd l) := hid (by rw [hstq.out, hH, if_pos rfl, hS'])
          have p1b : ∀ x, (Fam wb.heap.size wb x).cell? ⟨w.heap.size, 1, none⟩ = some (.slice (some ⟨b2, o2', none⟩) ss.length cm) := fun x => by rw [(hrb.trans ((Fam.below wb.heap.size wb x).mono hrb.size)).cell (World.block_lt_of_cell? _ _ p1)]; exact p1
          have m0b : ∀ x, (Fam wb.heap.size wb x).cell? ⟨b2, o2' + i, none⟩ = some (.pointer (some ⟨g, 0, none⟩)) := fun x => by rw [(hrb.trans ((Fam.below wb.heap.size wb x).mono hrb.size)).cell (World.block_lt_of_cell? _ _ m0)]; exact m0
          have d1x : ∀ x, (Fam wb.heap.size wb x).cell? ⟨wr.heap.size, 1, none⟩ = some (.int .i64 (sn : Int)) := fun x => by rw [(Fam.below wb.heap.size wb x).cell (World.block_lt_of_cell? _ _ d1b)]; exact d1b
          have h16 : d < 16 := by omega
          have y3 : ∀ x, (Fam wb.heap.size wb x).cell? ⟨g, d * 6 + l, none⟩ = some (.int .i64 (S : Nat)) := fun x => by
            rw [hS']
            exact (hmvr.out.keep (hrb.trans ((Fam.below wb.heap.size wb x).mono hrb.size))).2 _ _ h16 hl6
          have hd0 : (0 : Int) ≤ (d : Int) ∧ (d : Int) < 16 ∧ (0 : Int) ≤ (l : Int) ∧ (l : Int) < 6 := by omega
          obtain ⟨hd0, hd1, hl0, hl1⟩ := hd0
          have e2' : ((nd : Int) % (sn : Int)) = (d : Int) := by rw [← e2]; exact (Int.tmod_eq_emod_of_nonneg (by omega)).symm
          replace hS' := hid hS'
          replace hH := hid hH
          clear hdc p1 m0 d1 d0 d1b d0b
          go_wp2_with fail
          refine wp_region_grow 15 wb.heap.size wb (fun _ u w' => OwnNats w' wb.heap.size u (memL S)) (by kernel_rfl) (by kernel_rfl) (Nat.le_refl _) (Below.refl _ _) ?_
          simp only [List.take_succ_cons, List.take_zero, List.drop_succ_cons, List.drop_zero]
          (repeat (refine grow_quiet (by rfl) (by rfl) (by rfl) ?_; intro K hK; go_big_quiet_op; go_big_quiet_on))
          refine grow_call (by rfl) (by rfl) (fun u w w' hb h => ?_) (fun wq hbq _ => ?_) fun u hu => ?_
          · exact own_keep h (.of_below (K := fun _ => False) hb) fun _ _ h => h
          · go_simp
            refine ⟨rfl, (members_any S hSl wq (hT0.out.later ((hb.trans (hrb.mono hb.size)).trans (hbq.mono (by have := hb.size; have := hrb.size; omega))))).mono ?_⟩
            rintro e w3 ⟨v, rfl, ho, hb3⟩
            exact ⟨v, rfl, hb3, own_base ho hbq.size⟩
          obtain ⟨w3', -, ho3'⟩ := hu
          obtain ⟨A3, c3, rfl, hc3, hc3'⟩ := own_slice ho3'
          clear ho3'
          simp only [Act.put, List.setIfInBounds_toArray, List.set_cons_zero, List.set_cons_succ]
          (repeat (refine grow_quiet (by rfl) (by rfl) (by rfl) ?_; intro K hK; go_big_quiet_op; go_big_quiet_on))
          refine grow_nil ?_
          intro w3 hb3 hf
          have ho3 := hf _ List.mem_cons_self
          clear hf p1b m0b d1x y3
          obtain ⟨A4, c4, hv4, hc4, hc4', hn4⟩ := OwnNats.read ho3
          replace hn4 := hid hn4
          replace hv4 := hid hv4
          clear ho3
          go_wp2_with fail
          go_meet
          exact ⟨memL S, A4, c4, hv4.out, hc4, hc4', hq1, hn4.out, hb3⟩
      case rest =>
        obtain ⟨qs, At, cq, rfl, hqc, hqc2, hqe, hq, hbx⟩ := hcut
        have hzw : Below wr.heap.size wr wc := hrb.trans (hbx.mono hrb.size)
        have d1z : wc.cell? ⟨wr.heap.size, 1, none⟩ = some (.int .i64 (sn : Int)) := by rw [hbx.cell (World.block_lt_of_cell? _ _ d1b)]; exact d1b
        clear hdc p1 m0 d1 d0 d1b d0b
        have hql : qs.length ≤ 16 := by rw [hqe.out]; exact stepQ_len _ _
        have hqlt : Hid (∀ q ∈ qs, q < sn) := hid (fun q hq => by have := stepQ_lt hso.out nd l q (by rw [← hqe.out]; exact hq); omega)
        have hreZ := hid (hre.out.later hzw)
        replace hq := hid hq
        have hzz := hzw.size
        replace hzw := hid hzw
        go_wp2_with fail
        go_loopw [14, 59] (fun mv jv wq => ∃ (j : Nat), jv = .int .i64 (j : Nat) ∧ j ≤ qs.length ∧ wq.ownsRow wc.heap.size 3 1 mv (joinN (qs.take j) re wt).length (natVals (joinN (qs.take j) re wt)) ∧ ((joinN (qs.take j) re wt).length = 0 → mv = .slice none 0 0) ∧ Below wc.heap.size wc wq) (fun _ jv _ => qs.length - (intOf jv).toNat)
        case atStart => exact ⟨0, rfl, Nat.zero_le _, World.ownsRow_nil _ _ _ _, fun _ => rfl, Below.refl _ _⟩
        case round =>
          obtain ⟨wj, rfl⟩ : ∃ wj : World, wj = wr := ⟨_, rfl⟩
          obtain ⟨j, rfl, hj, hom, hmn, hbj⟩ := hrel
          by_cases hjL : j < qs.length
          · have hjl : j < qs.length := by omega
            obtain ⟨bq, oq, hAq, hbq, hEq⟩ := hq.out (by omega)
            subst hAq
            have l0 := hEq j hjl
            rw [← hbj.cell (by simpa using hbq)] at l0
            try simp only [Nat.zero_add] at l0
            obtain ⟨q, hqj⟩ : ∃ q, q = qs[j] := ⟨_, rfl⟩
            rw [← hqj] at l0
            have hq16 : q < 16 := by have := hqlt.out q (by rw [hqj]; exact List.getElem_mem _); omega
            have k2 : (0 : Int) ≤ (j : Int) ∧ (j : Int) < (qs.length : Int) := by omega
            have hjt := joinN_take (re := re) (wt := wt) hjl
            rw [← hqj] at hjt
            have hjl2 := joinN_len (qs.take j) re wt
            have hjl3 : (joinN (qs.take j) re wt).length ≤ 65536 := by
              rw [hjl2]
              have h1 : (qs.take j).length ≤ 16 := by rw [List.length_take]; omega
              have := Nat.mul_le_mul h1 (show re.length ≤ 4096 by omega)
              omega
            obtain ⟨js, hjs⟩ : ∃ js, js = joinN (qs.take j) re wt := ⟨_, rfl⟩
            rw [← hjs] at hom hmn hjt hjl3
            replace hjs := hid hjs
            replace hqj := hid hqj
            replace hEq := hid hEq
            replace hjt := hid hjt
            go_wp2_with fail
            go_loopw [14, 65] (fun mv pv wq => ∃ (p : Nat), pv = .int .i64 (p : Nat) ∧ p ≤ re.length ∧ wq.ownsRow wc.heap.size 3 1 mv (js ++ (re.take p).map fun r => q * wt + r).length (natVals (js ++ (re.take p).map fun r => q * wt + r)) ∧ ((js ++ (re.take p).map fun r => q * wt + r).length = 0 → mv = .slice none 0 0) ∧ Below wc.heap.size wc wq) (fun _ pv _ => re.length - (intOf pv).toNat)
            case atStart => exact ⟨0, rfl, by omega, by simpa using hom, by simpa using hmn, hbj⟩
            case round =>
              clear hom hmn hbj
              obtain ⟨p, rfl, hp, hop, hpn, hbp⟩ := hrel
              have hpm : (js ++ (re.take p).map fun r => q * wt + r).length ≤ 70000 := by
                rw [List.length_append, List.length_map, List.length_take]
                omega
              by_cases hpl : p < re.length
              · obtain ⟨br, orr, hAr, hbr, hEr⟩ := hreZ.out (by omega)
                subst hAr
                have r0 := hEr p hpl
                rw [← hbp.cell (by simpa using hbr)] at r0
                obtain ⟨r, hrj⟩ : ∃ r, r = re[p] := ⟨_, rfl⟩
                rw [← hrj] at r0
                have hrw : r < wt := o4 r (by rw [hrj]; exact List.getElem_mem _)
                obtain ⟨m, hm⟩ : ∃ m, m = q * wt := ⟨_, rfl⟩
                have hml : m ≤ 65536 := by
                  have := Nat.mul_le_mul (show q ≤ 16 by omega) (show wt ≤ 4096 by omega)
                  omega
                have f1 : (q : Int) * (wt : Int) = (m : Int) := by rw [hm, Int.natCast_mul]
                have f2 : IntKind.i64.wrap ((q : Int) * (wt : Int)) = (m : Int) := by rw [f1]; exact IntWalk.i64_in _ (by omega)
                have k3 : (0 : Int) ≤ (p : Int) ∧ (p : Int) < (re.length : Int) := by omega
                have hmt := map_take (f := fun r => q * wt + r) hpl
                rw [← hrj] at hmt
                have hnx : Hid (js ++ (re.take (p + 1)).map (fun r => q * wt + r) = (js ++ (re.take p).map fun r => q * wt + r) ++ [m + r]) := hid (by rw [hmt, hm, List.append_assoc])
                obtain ⟨cs, hcs⟩ : ∃ cs, cs = js ++ (re.take p).map fun r => q * wt + r := ⟨_, rfl⟩
                rw [← hcs] at hop hpn hpm hnx
                have hzq := hbp.size
                replace hcs := hid hcs
                replace hEr := hid hEr
                replace hrj := hid hrj
                replace hm := hid hm
                replace hpn := hid hpn
                clear hmt
                go_wp2_with (at_builtin; refine wpList_append_own _ rfl _ _ 63 rfl wc.heap.size 3 i0 (.int .i64 0) 1 8 Tryz.underlying63 hi hz0 hz1 hz2 rfl (by decide) _ _ _ rfl (hop.alloc _) ⟨wr.heap.size, 0, none⟩ 1 1 [.int .i64 ((m : Int) + (r : Int))] rfl rfl (cell_one_new _ _ _) (by intro u hu; simp at hu; subst hu; rfl) (by unfold maxLen; omega) (by omega) (by simp; omega) ?_; intro v' w9 hown' hgrow hnil'; have hB9 := hid (Below.grown (hbp.alloc hzq _) hgrow (by simp; omega) (own_block hop)))
                have hO9 : Hid (w9.ownsRow wc.heap.size 3 1 v' (cs ++ [m + r]).length (natVals (cs ++ [m + r]))) := hid (by
                  unfold natVals at hown' ⊢
                  rw [List.length_append, List.map_append]
                  exact hown')
                clear hown' hgrow hnil' hop hbp
                go_roundw
                case rel => exact ⟨p + 1, by go_num, by omega, by rw [hnx.out]; exact hO9.out, (fun h => by rw [hnx.out] at h; simp at h), hB9.out⟩
                case measure => simp [intOf]; omega
              · obtain rfl : p = re.length := by omega
                rw [List.take_length] at hop hpn
                have hj2 : Hid (joinN (qs.take (j + 1)) re wt = js ++ re.map fun r => q * wt + r) := hid (by rw [hjt.out, hjs.out])
                replace hop := hid hop
                replace hpn := hid hpn
                go_wp2_with fail
                go_roundw
                case rel => exact ⟨j + 1, by go_num, by omega, by rw [hj2.out]; exact hop.out, by rw [hj2.out]; exact hpn.out, hbp⟩
                case measure => simp [intOf]; omega
          · have hje : Hid (j = qs.length) := hid (by omega)
            have ht : qs.take j = qs := by rw [hje.out]; exact List.take_length
            rw [ht] at hom hmn
            obtain ⟨Aj, cj, hvj, hj1, hj2, hjn⟩ := OwnNats.read (show OwnNats wj wc.heap.size _ (joinN qs re wt) from hom)
            subst hvj
            have hps : Hid (pst ss l node (k + 1) = ⟨joinN qs re wt, wt * sn, nd / sn⟩) := hid (by rw [hsucc.out, hqe.out]; unfold pstep; simp only [hsq])
            have hws : wt * sn ≤ 65536 := by
              have := Nat.mul_le_mul (show wt ≤ 4096 by omega) (show sn ≤ 16 by omega)
              omega
            have f1 : (wt : Int) * (sn : Int) = ((wt * sn : Nat) : Int) := (Int.natCast_mul wt sn).symm
            have d1j : wj.cell? ⟨wr.heap.size, 1, none⟩ = some (.int .i64 (sn : Int)) := by rw [hbj.cell (World.block_lt_of_cell? _ _ d1z)]; exact d1z
            have hbjj := hid (hb.trans ((hzw.out.trans (hbj.mono hzz)).mono hzr))
            have e4 : (i : Int) - 1 = (ss.length : Int) - 1 - ((k + 1 : Nat) : Int) := by have := hik.out; omega
            replace hom := hid hom
            replace hmn := hid hmn
            replace ht := hid ht
            replace hjn := hid hjn
            replace e4 := hid e4
            have hdw : Hid (wrap64 ((nd : Int) / (sn : Int)) = ((nd / sn : Nat) : Int)) := hid (by
              rw [← Int.natCast_ediv]
              obtain ⟨z, hz⟩ : ∃ z, z = nd / sn := ⟨_, rfl⟩
              have hzl : z ≤ nd := by rw [hz]; exact Nat.div_le_self _ _
              rw [← hz]
              clear hz
              exact IntWalk.wrap64_in _ ⟨by omega, by omega⟩)
            generalize hWS : wt * sn = ws at *
            replace hWS := hid hWS
            go_wp2_with fail
            go_roundw
            case rel => exact ⟨k + 1, Aj, cj, by omega, by first | (rw [← e4.out]) | (rw [← e4.out]; go_num), by rw [hps.out, hdw.out], by first | (rw [hps.out]; done) | (rw [hps.out]; rfl) | (rw [hps.out]; simp; done), by first | (rw [hps.out]; done) | (rw [hps.out]; rfl) | (rw [hps.out]; simp; done), by rw [hps.out]; exact hj1, hj2, by rw [hps.out]; exact hjn.out, by rw [hps.out]; exact hmn.out, hbjj.out⟩
            case measure => (try simp [intOf]) <;> (try omega)
    · have hkn : k = ss.length := by omega
      have hke : Hid ((pst ss l node k).re = nxParts ss node l) := hid (by rw [hkn]; rfl)
      rw [hke.out] at hr1 hre hrn
      obtain ⟨re, hree⟩ : ∃ re, Hid (re = nxParts ss node l) := ⟨_, hid rfl⟩
      rw [← hree.out] at hr1 hre hrn
      rw [hke.out, ← hree.out]
      have hB := hid (hb0.trans (hb.mono hb0.size))
      have hownr := hid (own_keep hown.out (.of_below (K := fun _ => False) hB.out) (fun _ _ h => h))
      have hkp := hid (KeepB.of_below (K := fun b => (Value.slice Av ns.length cv).ownBlock = some b) hB.out)
      have hblk := hid (own_block hown.out)
      have hrl : re.length ≤ 4096 := by
        have h1 : 16 ^ k ≤ 16 ^ 3 := Nat.pow_le_pow_right (by omega) (by omega)
        rw [hke.out, ← hree.out] at o3
        omega
      have hbz : base ≤ wr.heap.size := by have := hB.out.size; omega
      have hnv : (natVals re).length = re.length * 1 := by unfold natVals; simp
      have hcat : Hid (natVals (ns ++ re) = natVals ns ++ natVals re) := hid (by unfold natVals; rw [List.map_append])
      clear o1 o2 o3 o4
      replace hke := hid hke
      by_cases hr0 : re.length = 0
      · have hrv := hrn hr0
        have hree0 : Hid (re = []) := hid (List.eq_nil_of_length_eq_zero hr0)
        rw [hr0] at hrv
        obtain ⟨rfl, rfl⟩ : Ar = none ∧ cr = 0 := by cases hrv; exact ⟨rfl, rfl⟩
        rw [hr0]
        clear hrv hrn hre
        replace hr0 := hid hr0
        go_wp2_with (at_builtin; refine wpList_append_own_none rfl _ _ 63 rfl base 3 i0 1 Tryz.underlying63 hi _ _ _ rfl hownr.out rfl ?_)
        go_ret
        exact ⟨_, rfl, by rw [← hree.out, hree0.out, List.append_nil]; exact hownr.out, hkp.out⟩
      · obtain ⟨br, orr, hAr, hbr, hEr⟩ := hre (by omega)
        subst hAr
        have hnews : Hid (∀ (j : Nat) (u : Value), (natVals re)[j]? = some u → wr.cell? (Addr.add ⟨br, orr, none⟩ j) = some u) := hid (fun j u hj => by
          unfold natVals at hj
          rw [List.getElem?_map] at hj
          cases e : re[j]? with
          | none => rw [e] at hj; cases hj
          | some x =>
            rw [e] at hj
            obtain ⟨hlt', hx'⟩ := List.getElem?_eq_some_iff.1 e
            have := hEr j hlt'
            rw [hx'] at this
            injection hj with hj
            rw [← hj]
            by_cases h0 : j = 0
            · subst h0
              simpa [Addr.add] using this
            · simpa [Addr.add, h0] using this)
        have hone : Hid (∀ u ∈ natVals re, u.oneCell' = true) := hid (fun u hu => by
          unfold natVals at hu
          obtain ⟨x, -, rfl⟩ := List.mem_map.1 hu
          rfl)
        replace hEr := hid hEr
        replace hrn := hid hrn
        go_wp2_with (at_builtin; refine wpList_append_own _ rfl _ _ 63 rfl base 3 i0 (.int .i64 0) 1 8 Tryz.underlying63 hi hz0 hz1 hz2 rfl (by decide) _ _ _ rfl hownr.out ⟨br, orr, none⟩ re.length cr (natVals re) rfl hnv hnews.out hone.out (by unfold maxLen; omega) (by omega) hbz ?_; intro v' w9 hown' hgrow hnil'; replace hown' := hid hown'; replace hgrow := hid hgrow; clear hnil')
        go_ret
        exact ⟨_, rfl, by rw [← hree.out, hcat.out, List.length_append]; exact hown'.out, hkp.out.grown hgrow.out fun g hg _ => hg⟩

end Go.Proofs.YtdkjnemakkppfaaGreatDoor

/- The program's systems that run together: newParts, parts.size. -/
namespace Go.Proofs.YtdkjnemakkppfaaGreatDoor
open Go.RowKit Go.BigFrame AG

theorem infoPtrM : (Tryz.prog.info? 86).map (fun i => (i.zero, i.size, i.bytes)) = some (some (.pointer none), 1, 8) := by kernel_rfl
def ptrV (gs : List Nat) : List Value := gs.map fun (g : Nat) => .pointer (some ⟨g, 0, none⟩)
/-- The list of pointers under way. -/
structure MvsSt (w0 wr : World) (gp : Nat) (A : Option Addr) (n c : Nat) (v : Value) (ss : List Sy) (gs : List Nat) : Prop where
  below : Below w0.heap.size w0 wr
  hgp : w0.heap.size < gp
  res : Blk wr w0.heap.size 61 #[.slice none 0 0, .slice none 0 0]
  blk : Blk wr gp 61 #[.slice A n c, v]
  own : wr.ownsRow w0.heap.size 86 1 v gs.length (ptrV gs)
  nil : gs.length = 0 → v = .slice none 0 0
  mv : ∀ i (h : i < gs.length), ∃ h' : i < ss.length, MvAt wr wr.heap.size gs[i] (AG.mv ss[i])
theorem MvsSt.later {w0 wr w1 : World} {gp : Nat} {A : Option Addr} {n c : Nat} {v : Value} {ss : List Sy} {gs : List Nat} (h : MvsSt w0 wr gp A n c v ss gs) (hb : Below wr.heap.size wr w1) : MvsSt w0 w1 gp A n c v ss gs :=
  ⟨h.below.trans (hb.mono h.below.size), h.hgp, h.res.below hb h.res.lt, h.blk.below hb h.blk.lt, own_keep h.own (.of_below (K := fun _ => False) hb) (fun _ _ h => h), h.nil, fun i hi => by
    obtain ⟨h', h2⟩ := h.mv i hi
    exact ⟨h', h2.later hb⟩⟩
theorem MvsSt.ne {w0 wr : World} {gp : Nat} {A : Option Addr} {n c : Nat} {v : Value} {ss : List Sy} {gs : List Nat} (h : MvsSt w0 wr gp A n c v ss gs) : v.ownBlock ≠ some gp := fun e => own_ne h.own h.blk (by decide) gp e rfl
theorem MvsSt.apart {w0 wr : World} {gp : Nat} {A : Option Addr} {n c : Nat} {v : Value} {ss : List Sy} {gs : List Nat} (h : MvsSt w0 wr gp A n c v ss gs) {B g : Nat} {m : Nat → Nat → Nat} (hm : MvAt wr B g m) : v.ownBlock ≠ some g ∧ g ≠ gp := by
  have h0 := hm.2 0 0 (by omega) (by omega)
  constructor
  · intro e
    by_cases hl : gs.length = 0
    · rw [h.nil hl] at e
      cases e
    · obtain ⟨g', cap, hve, -, -, -, -, hcell⟩ := own_shape h.own (by omega)
      rw [hve] at e
      injection e with e
      subst e
      have hz : (ptrV gs)[0]? = some (.pointer (some ⟨gs[0]'(by omega), 0, none⟩)) := by
        unfold ptrV
        rw [List.getElem?_map, List.getElem?_eq_getElem (by omega)]
        rfl
      have := hcell 0 _ hz
      simp at this h0
      rw [this] at h0
      cases h0
  · intro e
    subst e
    have h1 := h.blk.cell 0
    simp at h0 h1
    rw [h1] at h0
    cases h0
theorem MvsSt.add {w0 wr w1 : World} {gp : Nat} {A : Option Addr} {n c : Nat} {v v' : Value} {ss : List Sy} {gs : List Nat} {g : Nat} (h : MvsSt w0 wr gp A n c v ss gs) (hl : gs.length < ss.length) (hm : MvAt wr wr.heap.size g (AG.mv ss[gs.length]))
    (hown : w1.ownsRow w0.heap.size 86 1 v' (gs.length + 1) (ptrV gs ++ [.pointer (some ⟨g, 0, none⟩)])) (hg : wr.grownBy w1 v.ownBlock) (hat : v'.ownBlock = v.ownBlock ∨ v'.ownBlock = some wr.heap.size) :
    MvsSt w0 (w1.setCell ⟨gp, 1, none⟩ v') gp A n c v' ss (gs ++ [g]) := by
  have h2 := h.hgp
  have hb := h.blk.lt
  have k1 : KeepB (fun b => v.ownBlock = some b) wr w1 := (KeepB.refl _ wr).grown hg fun k hk _ => hk
  have hne' : v'.ownBlock ≠ some gp := fun e => by
    rcases hat with h3 | h3
    · exact h.ne (by rw [← h3, e])
    · rw [h3] at e; injection e with e; omega
  have k2 : KeepB (fun b => v.ownBlock = some b ∨ b = gp) wr (w1.setCell ⟨gp, 1, none⟩ v') := (k1.mono fun _ h => .inl h).setCell _ _ fun _ => .inr rfl
  have hmk : ∀ {x : Nat} {m : Nat → Nat → Nat}, MvAt wr wr.heap.size x m → MvAt (w1.setCell ⟨gp, 1, none⟩ v') (w1.setCell ⟨gp, 1, none⟩ v').heap.size x m := fun {x m} hx => by
    obtain ⟨a1, a2⟩ := h.apart hx
    refine ⟨Nat.lt_of_lt_of_le hx.1 k2.size, fun q l hq hl => ?_⟩
    rw [World.cell?_of_block (w := wr) (k2.block x hx.1 fun e => e.elim a1 a2)]
    exact hx.2 q l hq hl
  refine ⟨?_, h2, (Below.heap_setCell _ _ _ _ (show w0.heap.size ≠ gp by omega)).trans (h.res.keep k1 fun hk => own_ne h.own h.res (by decide) _ hk rfl), ?_, ?_, fun e => by simp at e, fun i hi => ?_⟩
  · refine k2.below h.below h.below.size fun k hk => ?_
    rcases hk with hk | rfl
    · exact own_block h.own k hk
    · omega
  · have := (h.blk.keep k1 (fun hk => h.ne hk)).set_ 1 v'
    simpa using this
  · have e : (gs ++ [g]).length = gs.length + 1 := by simp
    rw [e]
    have := ownsRow_setCell_other (a := ⟨gp, 1, none⟩) hown hne' v'
    unfold ptrV at this ⊢
    rw [List.map_append]
    exact this
  · by_cases hlt : i < gs.length
    · obtain ⟨h', h3⟩ := h.mv i hlt
      refine ⟨h', ?_⟩
      rw [List.getElem_append_left hlt]
      exact hmk h3
    · obtain rfl : i = gs.length := by simp at hi; omega
      refine ⟨hl, ?_⟩
      rw [List.getElem_append_right (Nat.le_refl _)]
      simp only [Nat.sub_self, List.getElem_cons_zero]
      exact hmk hm
theorem MvAt.kp {K : Nat → Prop} {w w' : World} {g : Nat} {m : Nat → Nat → Nat} (h : MvAt w w.heap.size g m) (hk : KeepB K w w') (hg : ¬ K g) : MvAt w' w'.heap.size g m :=
  ⟨Nat.lt_of_lt_of_le h.1 hk.size, fun q l hq hl => by rw [World.cell?_of_block (w := w) (hk.block g h.1 hg)]; exact h.2 q l hq hl⟩
/-- What is left at the end: the moves, behind the store of the result. -/
theorem MvsSt.fin {w0 wr w' : World} {gp : Nat} {A : Option Addr} {n c : Nat} {v : Value} {ss : List Sy} {gs : List Nat} (h : MvsSt w0 wr gp A n c v ss gs) (hl : gs.length = ss.length) (hk : KeepB (fun b => b = w0.heap.size) wr w') : ∃ M cm, v = .slice M ss.length cm ∧ ss.length ≤ cm ∧ cm ≤ 9223372036854775807 ∧ MovesAt w' w'.heap.size M ss ∧ Below w0.heap.size w0 w' := by
  have hown := own_keep h.own hk fun g hg e => own_ne h.own h.res (by decide) g hg e
  obtain ⟨M, cm, hv, h1, h2⟩ := own_slice hown
  refine ⟨M, cm, by rw [hv, hl], by omega, h2, fun h0 => ?_, hk.below h.below h.below.size fun k e => by omega⟩
  obtain ⟨g', cap, hve, -, hlt, -, -, hcell⟩ := own_shape hown (by omega)
  rw [hv] at hve
  cases hve
  refine ⟨g', 0, rfl, hlt, fun i hi => ?_⟩
  obtain ⟨_, h4⟩ := h.mv i (by omega)
  refine ⟨gs[i]'(by omega), ?_, MvAt.kp h4 hk fun e => ?_⟩
  · rw [Nat.zero_add]
    have hz : (ptrV gs)[i]? = some (.pointer (some ⟨gs[i]'(by omega), 0, none⟩)) := by
      unfold ptrV
      rw [List.getElem?_map, List.getElem?_eq_getElem (by omega)]
      rfl
    have := hcell i _ hz
    simpa using this
  · have h5 := h4.2 0 0 (by omega) (by omega)
    have h6 := h.res.cell 0
    rw [e] at h5
    simp at h5 h6
    simp [h6] at h5

set_option maxRecDepth 100000 in
set_option maxHeartbeats 8000000 in
theorem newParts_any (ss : List Sy) (A : Option Addr) (c : Nat) (w : World) (hall : ss.all sysOk = true) (h3 : ss.length ≤ 3) (hl : ss.length ≤ c) (hc : c ≤ 9223372036854775807) (hr : SysAt w w.heap.size A ss) :
    Calls Tryz.prog 39 #[.slice A ss.length c] w fun e w' => ∃ (M : Option Addr) (cm : Nat), e = .returned (partsV A ss.length c M cm) ∧ ss.length ≤ cm ∧ cm ≤ 9223372036854775807 ∧ MovesAt w' w'.heap.size M ss ∧ Below w.heap.size w w' := by
  obtain ⟨i0, hi, hz0, hz1, hz2⟩ := info_parts infoPtrM
  replace hr := hid hr
  replace hall := hid hall
  obtain ⟨W0, hW0⟩ : ∃ W0, (w.alloc (.cells #[.slice none 0 0, .slice none 0 0] 61)).alloc (.cells #[.slice A ss.length c, .slice none 0 0] 61) = W0 := ⟨_, rfl⟩
  have hst0 : Hid (MvsSt w W0 (w.heap.size + 1) A ss.length c (.slice none 0 0) ss []) := hid (by
    rw [← hW0]
    refine ⟨((Below.refl _ _).alloc (Nat.le_refl _) _).alloc (by simp) _, by omega, (Blk.new _ _ _).alloc _, ?_, World.ownsRow_nil _ _ _ _, fun _ => rfl, fun i hi => absurd hi (by simp)⟩
    have := Blk.new (w.alloc (.cells #[.slice none 0 0, .slice none 0 0] 61)) 61 #[.slice A ss.length c, .slice none 0 0]
    simpa using this)
  replace hW0 := hid hW0
  go_enter Tryz.func39, Tryz.ntmps39
  go_wp2_with fail
  rw [hW0.out]
  clear hW0
  go_loopw [10] (fun iv wr => ∃ (v : Value) (gs : List Nat), iv = .int .i64 (gs.length : Nat) ∧ gs.length ≤ ss.length ∧ MvsSt w wr (w.heap.size + 1) A ss.length c v ss gs) (fun iv _ => ss.length - (intOf iv).toNat)
  case atStart => exact ⟨.slice none 0 0, [], rfl, Nat.zero_le _, hst0.out⟩
  case round =>
    clear hst0
    obtain ⟨v, gs, rfl, hi1, hst⟩ := hrel
    obtain ⟨Av, cv, rfl, hcv1, hcv2⟩ := own_slice hst.own
    by_cases hil : gs.length < ss.length
    · obtain ⟨b, o, Ai, ci, hAe, hbb, c0, c1, c2, hAl, hAc, hEd⟩ := (hr.out.later hst.below).get hil
      subst hAe
      have c0 := c0 wr (Below.refl _ _)
      have c1 := c1 wr (Below.refl _ _)
      have c2 := c2 wr (Below.refl _ _)
      have hin := hid (sysOk_in (List.all_eq_true.1 hall.out _ (List.getElem_mem hil)))
      obtain ⟨s, hs⟩ : ∃ s, Hid (s = ss[gs.length]) := ⟨_, hid rfl⟩
      rw [← hs.out] at c0 c1 c2 hAl hEd hin
      have k1 : (0 : Int) ≤ (gs.length : Int) ∧ (gs.length : Int) < (ss.length : Int) := by omega
      replace hEd := hid hEd
      replace hst := hid hst
      go_upto_region 5 with fail
      obtain ⟨w1, hw1, hz1', hB1, hS1⟩ := boxed wr #[.int .i64 s.al, .int .i64 s.st, .slice Ai s.es.length ci] 25
      rw [hw1]
      clear hw1
      have hst1 := hid (hst.out.later hB1)
      have hE1 := hid (EdsAt.later hEd.out hB1)
      have q0 := GK.BI.cell (hS1 0 _ rfl w1 (Below.refl _ _))
      have q1 := GK.BI.cell (hS1 1 _ rfl w1 (Below.refl _ _))
      have q2 := GK.BI.cell (hS1 2 _ rfl w1 (Below.refl _ _))
      have q3 := GK.BI.cell (show w1.cell? ⟨w.heap.size + 1, 1, none⟩ = some (.slice Av gs.length cv) from by have := hst1.out.blk.cell 1; simpa using this)
      clear hS1 c0 c1 c2
      refine GK.wp_region 5 [5, 6, 7] 200 (KeepB fun _ => False) (GK.BI w1) (fun _ u w' => ∃ g, u = .pointer (some ⟨g, 0, none⟩) ∧ MvAt w' w'.heap.size g (AG.mv s)) (by kernel_rfl) (by kernel_rfl) (GK.BI.way w1) (by decide) (Below.refl _ _).drew ?_
      simp only [List.take_succ_cons, List.take_zero]
      (repeat (refine GK.grow_quiet w1 (by rfl) (by rfl) ?_; intro K hK; go_big_quiet_op; go_big_quiet_on))
      refine GK.grow_call (by rfl) (fun u v v' hb h => ?_) (fun m wq hm hbq _ => ?_) fun u hu => ?_
      · obtain ⟨g, e, h⟩ := h
        exact ⟨g, e, MvAt.kp h hb fun h => h⟩
      · go_simp
        have hbq' : Below w1.heap.size w1 wq := hbq
        refine ⟨rfl, (movesOf_any s Ai ci wq hin.out hAl hAc (hE1.out.later hbq')).mono ?_⟩
        rintro e w3 ⟨g, rfl, hg, hb3⟩
        exact ⟨_, rfl, GK.BI.after hbq hb3, g, rfl, hg⟩
      obtain ⟨mx, wx, -, g, rfl, -⟩ := hu
      simp only [Act.put, List.setIfInBounds_toArray, List.set_cons_zero, List.set_cons_succ]
      refine GK.grow_new (K := fun _ => False) (by rfl) _ (fun b => .slice (some ⟨b, 0, none⟩) 1 1) 86 #[.pointer (some ⟨g, 0, none⟩)] (fun _ => by go_simp) rfl (fun _ _ o h => GK.BI.alloc o h) (fun _ _ h => GK.BI.size h) (fun _ h => h.elim) (fun b hb => ?_)
      simp only [Act.put, List.setIfInBounds_toArray, List.set_cons_zero, List.set_cons_succ]
      refine GK.grow_nil ?_
      intro w4 hw4 hf
      obtain ⟨g', hge, hge2, hblk⟩ := hf _ List.mem_cons_self
      cases hge
      obtain ⟨g2, e2, hmv⟩ := hf _ (List.mem_cons_of_mem _ List.mem_cons_self)
      cases e2
      clear hf q0 q1 q2 q3
      replace hw4 : Below w1.heap.size w1 w4 := hw4
      simp only [List.filterMap_cons, List.filterMap_nil, List.getElem?_cons_zero, List.getElem?_cons_succ]
      have hst4 := hid (hst1.out.later hw4)
      have z4 := hw4.size
      have hmv' := hid (show MvAt w4 w4.heap.size g (AG.mv ss[gs.length]) from by rw [← hs.out]; exact hmv)
      have hzz := hst4.out.below.size
      refine wpList_append_own_at _ (by rfl) _ _ 59 (by rfl) w.heap.size 86 i0 (.pointer none) 1 8 Tryz.underlying59 hi hz0 hz1 hz2 rfl (by decide) _ gs.length (ptrV gs) (by rfl) hst4.out.own ⟨b, 0, none⟩ 1 1 [.pointer (some ⟨g, 0, none⟩)] (by rfl) (by rfl) (World.news_of_block hblk) ?c1 ?c3 ?c4 ?c5 ?_
      case c1 => intro u hu; simp at hu; subst hu; rfl
      case c3 => unfold maxLen; omega
      case c4 => omega
      case c5 => omega
      intro v5 w5 hown5 hgrow hnil5 hat5
      obtain ⟨A5, c5, rfl, -, -⟩ := own_slice hown5
      have ag : (Value.slice Av gs.length cv).ownBlock ≠ some (w.heap.size + 1) := hst4.out.ne
      have hlt4 := hst4.out.blk.lt
      have c1' : w5.cell? ⟨w.heap.size + 1, 1, none⟩ = some (.slice Av gs.length cv) := by rw [hgrow.cell_far _ (by simpa using hlt4) (Ne.symm ag)]; have := hst4.out.blk.cell 1; simpa using this
      have f1' : w5.frozen? ⟨w.heap.size + 1, 1, none⟩ = false := by rw [hgrow.frozen_far _ (by simpa using hlt4) (Ne.symm ag)]; exact hst4.out.blk.frozen 1
      have h6 := hid (hst4.out.add hil hmv'.out hown5 hgrow hat5)
      replace hown5 := hid hown5
      replace hgrow := hid hgrow
      clear hnil5 hat5 hmv hblk
      go_wp2_with fail
      go_roundw
      case rel => exact ⟨_, gs ++ [g], by rw [List.length_append]; go_num, by rw [List.length_append]; simp; omega, h6.out⟩
      case measure => simp [intOf]; omega
    · have hle : gs.length = ss.length := by omega
      have r0 := hst.res.cell 0
      have r1 := hst.res.cell 1
      have f0 := hst.res.frozen 0
      have f1 := hst.res.frozen 1
      have p0 := hst.blk.cell 0
      have p1 := hst.blk.cell 1
      simp only [List.getElem?_toArray, List.getElem?_cons_zero, List.getElem?_cons_succ] at r0 r1 p0 p1
      replace hst := hid hst
      go_wp2_with fail
      obtain ⟨M, cm, hv, m1, m2, m3, m4⟩ := hst.out.fin hle (w' := (wr.setCell ⟨w.heap.size, 0, none⟩ (.slice A ss.length c)).setCell ⟨w.heap.size, 1, none⟩ (.slice Av ss.length cv)) (KeepB.setCell (K := fun b => b = w.heap.size) (KeepB.setCell (K := fun b => b = w.heap.size) (KeepB.refl _ wr) _ _ fun _ => rfl) _ _ fun _ => rfl)
      injection hv with hv1 hv2 hv3
      subst hv1
      subst hv3
      refine bodyPost_ret (v := partsV A ss.length c Av cv) (by simp [partsV, results, Tryz.results39, go_sem, r0, r1]) rfl ?_
      exact ⟨Av, cv, rfl, m1, m2, m3, m4⟩

end Go.Proofs.YtdkjnemakkppfaaGreatDoor

/- The program's DeadlockOf. -/
namespace Go.Proofs.YtdkjnemakkppfaaGreatDoor
open Go.RowKit Go.BigFrame AG

/-- Systems that run together, as the program keeps them: in a block, with their moves. -/
structure PartsAt (w : World) (bP : Nat) (ss : List Sy) (A M : Option Addr) (c cm : Nat) : Prop where
  tab : Tab w
  all : ss.all sysOk = true
  len3 : ss.length ≤ 3
  lc : ss.length ≤ c
  hc : c ≤ 9223372036854775807
  lm : ss.length ≤ cm
  hcm : cm ≤ 9223372036854775807
  sys : SysAt w w.heap.size A ss
  mvs : MovesAt w w.heap.size M ss
  c0 : w.cell? ⟨bP, 0, none⟩ = some (.slice A ss.length c)
  c1 : w.cell? ⟨bP, 1, none⟩ = some (.slice M ss.length cm)
theorem PartsAt.later {w w' : World} {bP : Nat} {ss : List Sy} {A M : Option Addr} {c cm : Nat} (h : PartsAt w bP ss A M c cm) (hb : Below w.heap.size w w') : PartsAt w' bP ss A M c cm :=
  ⟨h.tab.later hb, h.all, h.len3, h.lc, h.hc, h.lm, h.hcm, h.sys.later hb, h.mvs.later hb, (hb.cell (World.block_lt_of_cell? _ _ h.c0)).trans h.c0, (hb.cell (World.block_lt_of_cell? _ _ h.c1)).trans h.c1⟩

end Go.Proofs.YtdkjnemakkppfaaGreatDoor

/- The program's ComposeSystems: its memory. -/
namespace Go.Proofs.YtdkjnemakkppfaaGreatDoor
open Go.RowKit Go.BigFrame Go.Maps AG

/-- A list of nodes, other lists of numbers and a map of numbers, under way. -/
structure MaF (w0 wr : World) (B : Nat) (v : Value) (ps : List Nat) (m : Nat) (D : DataW Unit) (f : Nat → Option Nat) (fs : List NLeaf) : Prop where
  below : Below w0.heap.size w0 wr
  fam : FamG wr w0.heap.size (leafT (v, ps) :: fs.map leafT)
  map_ : wr.ownsMap Tryz.prog 3 (plainElem Tryz.prog 3) B m D
  ix : MapF D f
  geB : w0.heap.size ≤ B
section
variable {w0 wr w' w1 : World} {B m T q : Nat} {v v' vM : Value} {ps M : List Nat} {x : Nat} {o : Obj} {fs : List NLeaf} {D : DataW Unit} {f : Nat → Option Nat}
theorem MaF.later (h : MaF w0 wr B v ps m D f fs) (hb : Below wr.heap.size wr w') : MaF w0 w' B v ps m D f fs :=
  ⟨h.below.trans (hb.mono h.below.size), h.fam.later hb, h.map_.kept (grown_of_below hb) (by simp), h.ix, h.geB⟩
theorem MaF.own (h : MaF w0 wr B v ps m D f fs) : OwnNats wr w0.heap.size v ps := by
  have := h.fam.rows (leafT (v, ps)) List.mem_cons_self
  unfold leafT at this
  simp only [natVals_length] at this
  exact this
theorem MaF.ne (h : MaF w0 wr B v ps m D f fs) : v.ownBlock ≠ some B := fun e => own_ne_map (show wr.ownsRow w0.heap.size 3 1 v ps.length (natVals ps) from h.own) h.map_ B e rfl
theorem MaF.get (h : MaF w0 wr B v ps m D f fs) (hm : (vM, M) ∈ fs) : OwnNats wr w0.heap.size vM M := by
  have := h.fam.rows (leafT (vM, M)) (List.mem_cons_of_mem _ (List.mem_map.2 ⟨_, hm, rfl⟩))
  unfold leafT at this
  simp only [natVals_length] at this
  exact this
theorem MaF.app (h : MaF w0 wr B v ps m D f fs) (hg : (wr.alloc o).grownBy w1 v.ownBlock) (ho : w1.ownsRow w0.heap.size 3 1 v' (ps.length + 1) (natVals ps ++ [.int .i64 (x : Nat)])) (hat : v'.ownBlock = v.ownBlock ∨ v'.ownBlock = some (wr.alloc o).heap.size) : MaF w0 w1 B v' (ps ++ [x]) m D f fs := by
  have hkA : KeepB (fun b => v.ownBlock = some b) wr w1 := ((KeepB.refl _ wr).alloc o).grown hg fun k hk _ => hk
  have hb1 : Below wr.heap.size wr (wr.alloc o) := (Below.refl _ _).alloc (Nat.le_refl _) _
  have hF := (h.fam.later hb1).app0 (l1 := []) (f := leafT (v, ps)) (l2 := fs.map leafT) (v' := v') (ys' := natVals (ps ++ [x])) hg (by
    rw [natVals_length, List.length_append]
    unfold natVals at ho ⊢
    rw [List.map_append]
    exact ho) hat
  exact ⟨hkA.below h.below h.below.size fun b e => own_block h.own b e, hF, (h.map_.alloc o).kept hg fun e => h.ne e.symm, h.ix, h.geB⟩
theorem MaF.put (h : MaF w0 wr B v ps m D f fs) (hm : w1.ownsMap Tryz.prog 3 (plainElem Tryz.prog 3) B (m + 1) (D.put (.int .i64 (T : Int)) (.lit (.int .i64 ((q : Nat) : Int))))) (hg : wr.grownBy w1 (some B)) :
    MaF w0 w1 B v ps (m + 1) (D.put (.int .i64 (T : Int)) (.lit (.int .i64 ((q : Nat) : Int)))) (fun x => if x = T then some q else f x) fs := by
  have hkA : KeepB (fun b => b = B) wr w1 := (KeepB.refl _ wr).grown hg fun k hk _ => by injection hk with hk; exact hk.symm
  exact ⟨hkA.below h.below h.below.size fun b e => by rw [e]; exact h.geB, h.fam.keep hkA fun y hy g hg e => own_ne_map (h.fam.rows y hy) h.map_ g hg e, hm, h.ix.put T q, h.geB⟩
theorem MaF.add (h : MaF w0 wr B v ps m D f fs) (hb : Below wr.heap.size wr w') (ho : OwnNats w' wr.heap.size vM M) : MaF w0 w' B v ps m D f ((vM, M) :: fs) := by
  have hl := h.later hb
  refine ⟨hl.below, ?_, hl.map_, hl.ix, hl.geB⟩
  have := h.fam.add (t := 3) (v := vM) (ys := natVals M) hb h.below.size (by rw [natVals_length]; exact ho)
  exact this.perm (List.Perm.swap _ _ _)
theorem MaF.drop (h : MaF w0 wr B v ps m D f ((vM, M) :: fs)) : MaF w0 wr B v ps m D f fs := by
  refine ⟨h.below, ⟨fun y hy => h.fam.rows y ?_, ?_⟩, h.map_, h.ix, h.geB⟩
  · rcases List.mem_cons.1 hy with rfl | hy
    · exact List.mem_cons_self
    · exact List.mem_cons_of_mem _ (List.mem_cons_of_mem _ hy)
  · exact h.fam.apart.sublist (List.Sublist.cons_cons _ (List.Sublist.cons _ (List.Sublist.refl _)))
theorem MaF.fn (h : MaF w0 wr B v ps m D f fs) {g : Nat → Option Nat} (e : ∀ x, f x = g x) : MaF w0 wr B v ps m D g fs := ⟨h.below, h.fam, h.map_, h.ix.congr e, h.geB⟩
end

/-- The nodes to which a letter leads, asked of two systems that are kept as parts. -/
theorem nextTwo_any (ss : List Sy) (A M : Option Addr) (cm node l bP : Nat) (w : World) (hP : PartsAt w bP ss A M 2 cm) (h2 : ss.length = 2) (hl6 : l < 6) (hnode : node < 4096) :
    Calls Tryz.prog 41 #[.agg #[.slice A 2 2, .slice M 2 cm], .int .i64 (node : Nat), .int .i64 (l : Nat), .slice none 0 0] w fun e w' => ∃ v', e = .returned v' ∧ OwnNats w' w.heap.size v' (nxParts ss node l) ∧ Below w.heap.size w w' := by
  have h := partsNext_any ss A M 2 cm node l w.heap.size (.slice none 0 0) [] w hP.all hP.len3 hl6 hnode hP.lc hP.hc hP.lm hP.hcm (by simp) hP.tab hP.sys hP.mvs (Nat.le_refl _) (World.ownsRow_nil _ _ _ _)
  have e : partsV A ss.length 2 M cm = .agg #[.slice A 2 2, .slice M 2 cm] := by unfold partsV; rw [h2]
  rw [e] at h
  refine h.mono ?_
  rintro e w' ⟨v', h1, h3, hk⟩
  rw [List.nil_append] at h3
  exact ⟨v', h1, h3, hk.below (Below.refl _ _) (Nat.le_refl _) fun k h => by cases h⟩

end Go.Proofs.YtdkjnemakkppfaaGreatDoor

/- What the program's ComposeSystems does behind its search: memory, and sorting. -/
namespace Go.Proofs.YtdkjnemakkppfaaGreatDoor
open Go.RowKit Go.BigFrame Go.Maps AG

theorem sort_nats {ps qs : List Nat} (hp : ps.Perm qs) (hq : qs.Pairwise (· < ·)) : ((ps.map fun n : Nat => (n : Int)).mergeSort fun x y => decide (x ≤ y)) = qs.map fun n : Nat => (n : Int) := by
  refine List.Perm.eq_of_pairwise (le := fun a b : Int => a ≤ b) (fun a b _ _ h1 h2 => Int.le_antisymm h1 h2) ?_ ?_ ((List.mergeSort_perm _ _).trans (hp.map _))
  · have h := List.pairwise_mergeSort (le := fun x y : Int => decide (x ≤ y)) (fun a b c h1 h2 => by simp only [decide_eq_true_eq] at *; omega) (fun a b => by simp; omega) (ps.map fun n : Nat => (n : Int))
    exact h.imp fun h => of_decide_eq_true h
  · rw [List.pairwise_map]
    exact hq.imp fun h => by omega
theorem natVals_ints (ps : List Nat) : natVals ps = (ps.map fun n : Nat => (n : Int)).map (Value.int .i64) := by unfold natVals; rw [List.map_map]; rfl

section
open Go.Sort
/-- Behind the sort the list is sorted. -/
theorem MaF.sorted {w0 wr : World} {B m n g cap : Nat} {ps qs : List Nat} {D : DataW Unit} {f : Nat → Option Nat} {fs : List NLeaf} {os : Array Obj} (h : MaF w0 wr B (.slice (some ⟨g, 0, none⟩) ps.length cap) ps m D f fs) (hp : ps.Perm qs) :
    MaF w0 (grow (putRow (Value.int .i64) (Sort.ahead wr n) g 0 (qs.map fun n : Nat => (n : Int)).toArray) os) B (.slice (some ⟨g, 0, none⟩) qs.length cap) qs m D f fs := by
  have hg : wr.grownBy (grow (putRow (Value.int .i64) (Sort.ahead wr n) g 0 (qs.map fun n : Nat => (n : Int)).toArray) os) (some g) := grownBy_sortedI _
  have hk : KeepB (fun b => b = g) wr (grow (putRow (Value.int .i64) (Sort.ahead wr n) g 0 (qs.map fun n : Nat => (n : Int)).toArray) os) := (KeepB.refl _ wr).grown hg fun k hk _ => by injection hk with hk; exact hk.symm
  have ho := h.own
  have hlg : w0.heap.size ≤ g := (ho.lt g rfl).1
  have hown : (grow (putRow (Value.int .i64) (Sort.ahead wr n) g 0 (qs.map fun n : Nat => (n : Int)).toArray) os).ownsRow w0.heap.size 3 1 (.slice (some ⟨g, 0, none⟩) qs.length cap) (natVals qs).length (natVals qs) := by
    rcases ho.2 with ⟨h0, _⟩ | ⟨g', cap', cur, hv, hb, hh, h1, h2, h3, h4⟩
    · cases h0
    · cases hv
      have := ownsRow_sortedI (n := n) (os := os) (ss := ps.map fun n : Nat => (n : Int)) (ts := qs.map fun n : Nat => (n : Int)) (by simp [hp.length_eq]) hb hh (by simpa using h1) h2 h3
      rw [natVals_len, natVals_ints]
      simpa [hp.length_eq] using this
  have hF := h.fam.app0 (l1 := []) (f := leafT (.slice (some ⟨g, 0, none⟩) ps.length cap, ps)) (l2 := fs.map leafT) (v' := .slice (some ⟨g, 0, none⟩) qs.length cap) (ys' := natVals qs) hg hown (.inl rfl)
  exact ⟨hk.below h.below h.below.size fun b e => by rw [e]; exact hlg, hF, h.map_.kept hg fun e => h.ne e.symm, h.ix, h.geB⟩

/-- A slice of nodes that the call owns, as the sort reads it. -/
theorem MaF.holds {w0 wr : World} {B m : Nat} {v : Value} {ps : List Nat} {D : DataW Unit} {f : Nat → Option Nat} {fs : List NLeaf} (h : MaF w0 wr B v ps m D f fs) (hne : 0 < ps.length) :
    ∃ g cap, v = .slice (some ⟨g, 0, none⟩) ps.length cap ∧ g < wr.heap.size ∧ Holds (Value.int .i64) wr g 0 (ps.map fun n : Nat => (n : Int)).toArray := by
  rcases h.own.2 with ⟨_, h0⟩ | ⟨g, cap, cur, hv, hb, hh, h1, h2, h3, h4⟩
  · omega
  · exact ⟨g, cap, hv, (Array.getElem?_eq_some_iff.1 hh).1, holds_of_blockI hh (by rw [List.length_map, ← natVals_ints]; rw [Nat.mul_one] at h4; exact h4)⟩
end

/- Worlds that have only grown. -/
def Grew (w w' : World) : Prop := ∃ q os, w' = Go.Sort.grow (w.drewN q) os
theorem Grew.refl (w : World) : Grew w w := ⟨0, #[], by rw [Go.Sort.grow_empty]; rfl⟩
theorem Grew.trans {a b c : World} (h : Grew a b) (k : Grew b c) : Grew a c := by
  obtain ⟨q, os, rfl⟩ := h
  obtain ⟨q', os', rfl⟩ := k
  refine ⟨q + q', os ++ os', ?_⟩
  unfold Go.Sort.grow World.drewN
  simp [Array.append_assoc, Nat.add_assoc]
theorem Grew.alloc {a b : World} (h : Grew a b) (o : Obj) : Grew a (b.alloc o) := h.trans ⟨0, #[o], by rw [Go.Sort.alloc_eq_grow]; rfl⟩
theorem Grew.drew {a b : World} (h : Grew a b) : Grew a b.drew := h.trans ⟨1, #[], by rw [Go.Sort.grow_empty]; rfl⟩
theorem Grew.below {a b : World} (h : Grew a b) : Below a.heap.size a b := by
  obtain ⟨q, os, rfl⟩ := h
  refine ⟨rfl, rfl, rfl, by simp [Go.Sort.grow, World.drewN], fun k hk => ?_⟩
  unfold Go.Sort.grow World.drewN
  simp [Array.getElem?_append, hk]
def GwI (w0 : World) : Nat → World → Prop := fun _ w => Grew w0 w
theorem GwI.way (w0 : World) : AG.Way (KeepB fun _ => False) (GwI w0) := ⟨fun w => KeepB.refl _ w, fun _ _ _ h k => h.trans k, fun _ _ h => h⟩

/-- A map stays if its block stays. -/
theorem map_keep {K : Nat → Prop} {w w' : World} {R : Value → Option (DataW Unit × List MemPlace)} {k : TypeId} {b n : Nat} {D : DataW Unit} (h : w.ownsMap Tryz.prog k R b n D) (hk : KeepB K w w') (hb : ¬ K b) : w'.ownsMap Tryz.prog k R b n D := by
  have hlt := h.lt
  obtain ⟨es, clock, hh, F, hs, hD⟩ := h
  exact ⟨es, clock, (hk.block b hlt hb).trans hh, F, hs, hD⟩
theorem cell_keep {K : Nat → Prop} {w w' : World} {b o : Nat} {v : Value} (hk : KeepB K w w') (hb : ¬ K b) (h : w.cell? ⟨b, o, none⟩ = some v) : w'.cell? ⟨b, o, none⟩ = some v := by
  have hlt := World.block_lt_of_cell? _ _ h
  have e := hk.block b hlt hb
  rw [← h]
  simp only [World.cell?, e]
/-- The moves lie elsewhere than the system under way. -/
theorem MovesAt.kept {w w' : World} {gs : Nat} {T : TypeId} {x y : Int} {M : Option Addr} {ss : List Sy} (h : MovesAt w w.heap.size M ss) (hk : KeepB (fun b => b = gs) w w') (hB : Blk w gs T #[.int .i64 x, .int .i64 y, .slice none 0 0]) : MovesAt w' w'.heap.size M ss := fun hl => by
  obtain ⟨b, o, h1, h2, h3⟩ := h hl
  refine ⟨b, o, h1, Nat.lt_of_lt_of_le h2 hk.size, fun i hi => ?_⟩
  obtain ⟨g, h4, h5⟩ := h3 i hi
  have hbn : b ≠ gs := by
    rintro rfl
    rw [hB.cell] at h4
    rcases (show o + i = 0 ∨ o + i = 1 ∨ o + i = 2 ∨ 3 ≤ o + i by omega) with e | e | e | e
    · rw [e] at h4; simp at h4
    · rw [e] at h4; simp at h4
    · rw [e] at h4; simp at h4
    · rw [Array.getElem?_eq_none (by simpa using e)] at h4; cases h4
  have hgn : g ≠ gs := by
    rintro rfl
    have := h5.2 1 0 (by decide) (by decide)
    rw [hB.cell] at this
    simp at this
  exact ⟨g, cell_keep hk hbn h4, Nat.lt_of_lt_of_le h5.1 hk.size, fun q l hq hl => cell_keep hk hgn (h5.2 q l hq hl)⟩

/-- The edges under way: a block gs that was there, all else of what was there stays. -/
structure KSt (wK wr : World) (gs : Nat) (al st : Int) (v : Value) (es : List Ed) : Prop where
  blk : Blk wr gs 25 #[.int .i64 al, .int .i64 st, v]
  own : wr.ownsRow wK.heap.size 50 3 v es.length (edCells es)
  keep : KeepB (fun b => b = gs) wK wr
  low : gs < wK.heap.size
theorem KSt.later {wK wr w1 : World} {gs : Nat} {al st : Int} {v : Value} {es : List Ed} (h : KSt wK wr gs al st v es) (hb : Below wr.heap.size wr w1) : KSt wK w1 gs al st v es :=
  ⟨h.blk.below hb h.blk.lt, own_later h.own hb, h.keep.trans (.of_below hb), h.low⟩
theorem KSt.add {wK wr w1 : World} {gs gg cap : Nat} {al st : Int} {v : Value} {es : List Ed} {x : Ed} (h : KSt wK wr gs al st v es)
    (hown : w1.ownsRow wK.heap.size 50 3 (.slice (some ⟨gg, 0, none⟩) (es.length + 1) cap) (es.length + 1) (edCells es ++ [.int .i64 x.f, .int .i64 x.l, .int .i64 x.t])) (hg : wr.grownBy w1 v.ownBlock) :
    KSt wK (w1.setCell ⟨gs, 2, none⟩ (.slice (some ⟨gg, 0, none⟩) (es.length + 1) cap)) gs al st (.slice (some ⟨gg, 0, none⟩) (es.length + 1) cap) (es ++ [x]) := by
  have hne : v.ownBlock ≠ some gs := fun e => own_ne h.own h.blk (by decide) gs e rfl
  have hb1 : Blk w1 gs 25 #[.int .i64 al, .int .i64 st, v] := by
    have := hg.block gs h.blk.lt (Ne.symm hne)
    exact this.trans h.blk
  have hne2 : (Value.slice (some ⟨gg, 0, none⟩) (es.length + 1) cap).ownBlock ≠ some gs := fun e => own_ne hown hb1 (by decide) gs e rfl
  refine ⟨by simpa using hb1.set_ 2 (.slice (some ⟨gg, 0, none⟩) (es.length + 1) cap), ?_, ?_, h.low⟩
  · have e : (es ++ [x]).length = es.length + 1 := by simp
    rw [e, edCells_append]
    exact ownsRow_setCell_other hown hne2 _
  · refine KeepB.setCell (h.keep.grown hg fun k hk hlt => ?_) _ _ fun _ => rfl
    have := (h.own.lt k hk).1
    omega
/-- .. and a list of nodes that is gone through. -/
structure KSt2 (wK wr : World) (gs : Nat) (al st : Int) (v : Value) (es : List Ed) (mv : Value) (M : List Nat) : Prop where
  so : KSt wK wr gs al st v es
  mem : OwnNats wr wK.heap.size mv M
theorem KSt2.later {wK wr w1 : World} {gs : Nat} {al st : Int} {v mv : Value} {es : List Ed} {M : List Nat} (h : KSt2 wK wr gs al st v es mv M) (hb : Below wr.heap.size wr w1) : KSt2 wK w1 gs al st v es mv M := ⟨h.so.later hb, own_later h.mem hb⟩
theorem KSt2.add {wK wr w1 : World} {gs gg cap : Nat} {al st : Int} {v mv : Value} {es : List Ed} {M : List Nat} {x : Ed} (h : KSt2 wK wr gs al st v es mv M)
    (hown : w1.ownsRow wK.heap.size 50 3 (.slice (some ⟨gg, 0, none⟩) (es.length + 1) cap) (es.length + 1) (edCells es ++ [.int .i64 x.f, .int .i64 x.l, .int .i64 x.t])) (hg : wr.grownBy w1 v.ownBlock) :
    KSt2 wK (w1.setCell ⟨gs, 2, none⟩ (.slice (some ⟨gg, 0, none⟩) (es.length + 1) cap)) gs al st (.slice (some ⟨gg, 0, none⟩) (es.length + 1) cap) (es ++ [x]) mv M := by
  refine ⟨h.so.add hown hg, ?_⟩
  have k2 : KeepB (fun b => v.ownBlock = some b ∨ b = gs) wr (w1.setCell ⟨gs, 2, none⟩ (.slice (some ⟨gg, 0, none⟩) (es.length + 1) cap)) := ((((KeepB.refl _ wr).grown hg (fun k hk _ => hk)).mono fun _ h => .inl h).setCell _ _ fun _ => .inr rfl)
  exact own_keep h.mem k2 fun g hg hk => by
    rcases hk with hk | hk
    · exact own_ne_own h.mem h.so.own (by decide) g g hg hk rfl
    · exact own_ne h.mem h.so.blk (by decide) g hg hk

end Go.Proofs.YtdkjnemakkppfaaGreatDoor

/-
  DERIVED: THE SHELF's CONTRACTS AT THIS DUMP, IN PLAIN WORDS (tools/lay-plain.mjs out of 'YtdkjnemakkppfaaGreatDoorShelfRaw.lean', which tools/lay-shelf.mjs wrote): THE SAME DECLARATIONS UNDER THE SAME NAMES: 'import', 'namespace', 'open', 'def', 'theorem' AND NOTHING ELSE: no command of the shelf's: FOR A HAND-IN. Each laying: the table of numbers ('.._ren') and one theorem, a field a fact of the dump's own or the kernel's comparison; each contract: ONE APPLICATION.
-/
namespace Go.Proofs
open Go.Shelf
def Tryz.laysSort_ren : Go.Shelf.Ren := ⟨fun | 189 => 42 | 125 => 92 | 257 => 91 | 128 => 131 | 129 => 132 | 294 => 122 | 295 => 123 | 296 => 124 | 297 => 125 | 298 => 126 | 299 => 127 | 216 => 128 | 300 => 129 | 301 => 130 | 328 => 154 | 329 => 155 | 330 => 156 | 331 => 157 | 332 => 158 | 215 => 141 | 343 => 163 | n => n, fun | 28 => 63 | 3 => 3 | 46 => 96 | 0 => 0 | 51 => 152 | 53 => 154 | 4 => 4 | 183 => 146 | 182 => 145 | 131 => 67 | 5 => 5 | 9 => 9 | 218 => 162 | 222 => 166 | 228 => 172 | 229 => 173 | n => n, fun | n => n⟩
theorem Tryz.laysSort : Go.Proofs.Lays.n189 Tryz.prog Tryz.laysSort_ren := {
  mixed := by kernel_rfl
  f125 := Tryz.func92.trans (congrArg some (by kernel_rfl))
  f128 := Tryz.func131.trans (congrArg some (by kernel_rfl))
  f129 := Tryz.func132.trans (congrArg some (by kernel_rfl))
  f189 := Tryz.func42.trans (congrArg some (by kernel_rfl))
  f215 := Tryz.func141.trans (congrArg some (by kernel_rfl))
  f216 := Tryz.func128.trans (congrArg some (by kernel_rfl))
  f257 := Tryz.func91.trans (congrArg some (by kernel_rfl))
  f294 := Tryz.func122.trans (congrArg some (by kernel_rfl))
  f295 := Tryz.func123.trans (congrArg some (by kernel_rfl))
  f296 := Tryz.func124.trans (congrArg some (by kernel_rfl))
  f297 := Tryz.func125.trans (congrArg some (by kernel_rfl))
  f298 := Tryz.func126.trans (congrArg some (by kernel_rfl))
  f299 := Tryz.func127.trans (congrArg some (by kernel_rfl))
  f300 := Tryz.func129.trans (congrArg some (by kernel_rfl))
  f301 := Tryz.func130.trans (congrArg some (by kernel_rfl))
  f328 := Tryz.func154.trans (congrArg some (by kernel_rfl))
  f329 := Tryz.func155.trans (congrArg some (by kernel_rfl))
  f330 := Tryz.func156.trans (congrArg some (by kernel_rfl))
  f331 := Tryz.func157.trans (congrArg some (by kernel_rfl))
  f332 := Tryz.func158.trans (congrArg some (by kernel_rfl))
  f343 := Tryz.func163.trans (congrArg some (by kernel_rfl))
  t0 := Tryz.underlying0
  a0 := Tryz.isAgg0
  z0 := Tryz.sizeOf0
  v0 := Tryz.zeroValue0
  t3 := Tryz.underlying3
  a3 := Tryz.isAgg3
  z3 := Tryz.sizeOf3
  v3 := Tryz.zeroValue3
  t4 := Tryz.underlying4
  a4 := Tryz.isAgg4
  z4 := Tryz.sizeOf4
  v4 := Tryz.zeroValue4
  t5 := Tryz.underlying5
  a5 := Tryz.isAgg5
  z5 := Tryz.sizeOf5
  v5 := Tryz.zeroValue5
  t9 := Tryz.underlying9
  a9 := Tryz.isAgg9
  z9 := Tryz.sizeOf9
  v9 := Tryz.zeroValue9
  t28 := Tryz.underlying63
  a28 := Tryz.isAgg63
  z28 := Tryz.sizeOf63
  v28 := Tryz.zeroValue63
  t46 := Tryz.underlying96
  a46 := Tryz.isAgg96
  z46 := Tryz.sizeOf96
  v46 := Tryz.zeroValue96
  t51 := Tryz.underlying152
  a51 := Tryz.isAgg152
  z51 := Tryz.sizeOf152
  v51 := Tryz.zeroValue152
  t53 := Tryz.underlying154
  a53 := Tryz.isAgg154
  z53 := Tryz.sizeOf154
  v53 := Tryz.zeroValue154
  t131 := Tryz.underlying67
  a131 := Tryz.isAgg67
  z131 := Tryz.sizeOf67
  v131 := Tryz.zeroValue67
  t182 := Tryz.underlying145
  a182 := Tryz.isAgg145
  z182 := Tryz.sizeOf145
  v182 := Tryz.zeroValue145
  t183 := Tryz.underlying146
  a183 := Tryz.isAgg146
  z183 := Tryz.sizeOf146
  v183 := Tryz.zeroValue146
  t218 := Tryz.underlying162
  a218 := Tryz.isAgg162
  z218 := Tryz.sizeOf162
  v218 := Tryz.zeroValue162
  t222 := Tryz.underlying166
  a222 := Tryz.isAgg166
  z222 := Tryz.sizeOf166
  v222 := Tryz.zeroValue166
  t228 := Tryz.underlying172
  a228 := Tryz.isAgg172
  z228 := Tryz.sizeOf172
  v228 := Tryz.zeroValue172
  t229 := Tryz.underlying173
  a229 := Tryz.isAgg173
  z229 := Tryz.sizeOf173
  v229 := Tryz.zeroValue173 }
def Tryz.laysSortF_ren : Go.Shelf.Ren := ⟨fun | 6 => 43 | 15 => 92 | 14 => 93 | 28 => 131 | 29 => 132 | 20 => 133 | 21 => 134 | 22 => 135 | 23 => 136 | 24 => 137 | 25 => 138 | 26 => 139 | 27 => 140 | 46 => 159 | 47 => 155 | 48 => 156 | 49 => 160 | 50 => 161 | 57 => 164 | n => n, fun | 22 => 23 | 24 => 50 | 25 => 70 | 3 => 3 | 39 => 96 | 0 => 0 | 53 => 152 | 55 => 154 | 4 => 4 | 46 => 146 | 45 => 145 | 50 => 67 | 5 => 5 | 9 => 9 | 66 => 162 | 70 => 166 | 76 => 172 | 77 => 173 | n => n, fun | n => n⟩
theorem Tryz.laysSortF : Go.Proofs.SlLaysF0.n6 Tryz.prog Tryz.laysSortF_ren := {
  mixed := by kernel_rfl
  f6 := ⟨Tryz.f43.name, by decide, Tryz.func43.trans (congrArg some (by kernel_rfl))⟩
  f14 := ⟨Tryz.f93.name, by decide, Tryz.func93.trans (congrArg some (by kernel_rfl))⟩
  f15 := Tryz.func92.trans (congrArg some (by kernel_rfl))
  f20 := ⟨Tryz.f133.name, by decide, Tryz.func133.trans (congrArg some (by kernel_rfl))⟩
  f21 := ⟨Tryz.f134.name, by decide, Tryz.func134.trans (congrArg some (by kernel_rfl))⟩
  f22 := ⟨Tryz.f135.name, by decide, Tryz.func135.trans (congrArg some (by kernel_rfl))⟩
  f23 := ⟨Tryz.f136.name, by decide, Tryz.func136.trans (congrArg some (by kernel_rfl))⟩
  f24 := ⟨Tryz.f137.name, by decide, Tryz.func137.trans (congrArg some (by kernel_rfl))⟩
  f25 := ⟨Tryz.f138.name, by decide, Tryz.func138.trans (congrArg some (by kernel_rfl))⟩
  f26 := ⟨Tryz.f139.name, by decide, Tryz.func139.trans (congrArg some (by kernel_rfl))⟩
  f27 := ⟨Tryz.f140.name, by decide, Tryz.func140.trans (congrArg some (by kernel_rfl))⟩
  f28 := Tryz.func131.trans (congrArg some (by kernel_rfl))
  f29 := Tryz.func132.trans (congrArg some (by kernel_rfl))
  f46 := ⟨Tryz.f159.name, by decide, Tryz.func159.trans (congrArg some (by kernel_rfl))⟩
  f47 := Tryz.func155.trans (congrArg some (by kernel_rfl))
  f48 := Tryz.func156.trans (congrArg some (by kernel_rfl))
  f49 := ⟨Tryz.f160.name, by decide, Tryz.func160.trans (congrArg some (by kernel_rfl))⟩
  f50 := ⟨Tryz.f161.name, by decide, Tryz.func161.trans (congrArg some (by kernel_rfl))⟩
  f57 := ⟨Tryz.f164.name, by decide, Tryz.func164.trans (congrArg some (by kernel_rfl))⟩
  t0 := Tryz.underlying0
  a0 := Tryz.isAgg0
  z0 := Tryz.sizeOf0
  v0 := Tryz.zeroValue0
  t3 := Tryz.underlying3
  a3 := Tryz.isAgg3
  z3 := Tryz.sizeOf3
  v3 := Tryz.zeroValue3
  t4 := Tryz.underlying4
  a4 := Tryz.isAgg4
  z4 := Tryz.sizeOf4
  v4 := Tryz.zeroValue4
  t5 := Tryz.underlying5
  a5 := Tryz.isAgg5
  z5 := Tryz.sizeOf5
  v5 := Tryz.zeroValue5
  t9 := Tryz.underlying9
  a9 := Tryz.isAgg9
  z9 := Tryz.sizeOf9
  v9 := Tryz.zeroValue9
  t22 := Tryz.underlying23
  a22 := Tryz.isAgg23
  z22 := Tryz.sizeOf23
  v22 := Tryz.zeroValue23
  t25 := Tryz.underlying70
  a25 := Tryz.isAgg70
  z25 := Tryz.sizeOf70
  v25 := Tryz.zeroValue70
  t39 := Tryz.underlying96
  a39 := Tryz.isAgg96
  z39 := Tryz.sizeOf96
  v39 := Tryz.zeroValue96
  t45 := Tryz.underlying145
  a45 := Tryz.isAgg145
  z45 := Tryz.sizeOf145
  v45 := Tryz.zeroValue145
  t46 := Tryz.underlying146
  a46 := Tryz.isAgg146
  z46 := Tryz.sizeOf146
  v46 := Tryz.zeroValue146
  t50 := Tryz.underlying67
  a50 := Tryz.isAgg67
  z50 := Tryz.sizeOf67
  v50 := Tryz.zeroValue67
  t53 := Tryz.underlying152
  a53 := Tryz.isAgg152
  z53 := Tryz.sizeOf152
  v53 := Tryz.zeroValue152
  t55 := Tryz.underlying154
  a55 := Tryz.isAgg154
  z55 := Tryz.sizeOf154
  v55 := Tryz.zeroValue154
  t66 := Tryz.underlying162
  a66 := Tryz.isAgg162
  z66 := Tryz.sizeOf162
  v66 := Tryz.zeroValue162
  t70 := Tryz.underlying166
  a70 := Tryz.isAgg166
  z70 := Tryz.sizeOf166
  v70 := Tryz.zeroValue166
  t76 := Tryz.underlying172
  a76 := Tryz.isAgg172
  z76 := Tryz.sizeOf172
  v76 := Tryz.zeroValue172
  t77 := Tryz.underlying173
  a77 := Tryz.isAgg173
  z77 := Tryz.sizeOf173
  v77 := Tryz.zeroValue173 }
end Go.Proofs

/- The comparison of edges; a list of edges that lies in order is sorted in place. -/
namespace Go.Proofs.YtdkjnemakkppfaaGreatDoor
open Go.RowKit Go.BigFrame Go.Maps AG

theorem GwI.fam (w0 x : World) : Grew w0 (GK.FamI (GK.Upto (GwI w0) 200) w0 x) := by
  obtain ⟨_, _, h⟩ := GK.FamI.is (J := GK.Upto (GwI w0) 200) (w1 := w0) ⟨0, by omega, Grew.refl _⟩ x
  exact h
theorem GwI.cell {w0 : World} {b o : Nat} {v : Value} (h : w0.cell? ⟨b, o, none⟩ = some v) (x : World) : (GK.FamI (GK.Upto (GwI w0) 200) w0 x).cell? ⟨b, o, none⟩ = some v := by
  rw [((GwI.fam w0 x).below).cell (World.block_lt_of_cell? _ _ h)]
  exact h

/-- The nodes are sorted. -/
theorem MaF.sort_any {w0 wr : World} {B m : Nat} {v : Value} {ps qs : List Nat} {D : DataW Unit} {fs : List NLeaf} (h : MaF w0 wr B v ps m D (memF ps) fs) (h0 : 0 < ps.length) (h1 : ps.length ≤ 4096) (hp : ps.Perm qs) (hq : qs.Pairwise (· < ·)) :
    Calls Tryz.prog 42 #[v] wr fun e w' => e = .returned (.tuple #[]) ∧ MaF w0 w' B v qs m D (memF qs) fs := by
  obtain ⟨g, cap, rfl, hg, hH⟩ := h.holds h0
  have hs : Calls Tryz.prog 42 #[.slice (some ⟨g, 0, none⟩) (ps.map fun n : Nat => (n : Int)).length cap] wr _ := Any.slices_Sort_int Tryz.laysSort g 0 cap (ps.map fun n : Nat => (n : Int)) wr hH hg (by simp; omega)
  rw [List.length_map, sort_nats hp hq] at hs
  refine hs.mono ?_
  rintro e w' ⟨rfl, n, os, rfl⟩
  refine ⟨rfl, ?_⟩
  have h2 := (h.sorted (n := n) (os := os) hp).fn (g := memF qs) fun x => by unfold memF; simp only [hp.mem_iff]
  rw [← hp.length_eq] at h2
  exact h2

set_option maxHeartbeats 1000000 in
theorem compareEdges_grew (a b : Ed) (w : World) :
    Calls Tryz.prog 44 #[a.val, b.val] w fun e w' => e = .returned (.int .i64 (cmpE a b)) ∧ Grew w w' := by
  unfold Ed.val
  go_enter Tryz.func44, Tryz.ntmps44
  go_wp2_with fail
  obtain ⟨w0, hw0, hz0, hB0, hx, hy⟩ := boxed2 w #[Value.int IntKind.i64 a.f, Value.int IntKind.i64 a.l, Value.int IntKind.i64 a.t] 50 #[Value.int IntKind.i64 b.f, Value.int IntKind.i64 b.l, Value.int IntKind.i64 b.t] 50
  have hG0 : Grew w w0 := by rw [← hw0]; exact ((Grew.refl w).alloc _).alloc _
  have x0 := GwI.cell (hx 0 _ rfl _ (Below.refl _ _))
  have x1 := GwI.cell (hx 1 _ rfl _ (Below.refl _ _))
  have x2 := GwI.cell (hx 2 _ rfl _ (Below.refl _ _))
  have y0 := GwI.cell (hy 0 _ rfl _ (Below.refl _ _))
  have y1 := GwI.cell (hy 1 _ rfl _ (Below.refl _ _))
  have y2 := GwI.cell (hy 2 _ rfl _ (Below.refl _ _))
  clear hx hy
  rw [hw0]
  clear hw0 hB0
  refine GK.wp_region 15 [15, 16, 17] 200 (KeepB fun _ => False) (GwI w0) (fun i u _ => if i = 4 then u = .int .i64 (cmpI a.f b.f) else if i = 9 then u = .int .i64 (cmpI a.l b.l) else u = .int .i64 (cmpI a.t b.t)) (by kernel_rfl) (by kernel_rfl) (GwI.way w0) (by decide) (Grew.refl _).drew ?_
  simp only [List.take_succ_cons, List.take_zero]
  (repeat (refine GK.grow_quiet w0 (by rfl) (by rfl) ?_; intro K hK; go_big_quiet_op; go_big_quiet_on))
  refine GK.grow_val (.int .i64 (cmpI a.f b.f)) (by rfl) rfl (fun m wq hm hbq _ => ?_) ?_
  · go_simp
    exact ⟨rfl, (compareInt_any _ _ _).mono fun e w' ⟨h1, h2⟩ => ⟨h1, by subst h2; exact ⟨KeepB.refl _ _, hbq⟩⟩⟩
  simp only [Act.put, List.setIfInBounds_toArray, List.set_cons_zero, List.set_cons_succ]
  (repeat (refine GK.grow_quiet w0 (by rfl) (by rfl) ?_; intro K hK; go_big_quiet_op; go_big_quiet_on))
  refine GK.grow_val (.int .i64 (cmpI a.l b.l)) (by rfl) rfl (fun m wq hm hbq _ => ?_) ?_
  · go_simp
    exact ⟨rfl, (compareInt_any _ _ _).mono fun e w' ⟨h1, h2⟩ => ⟨h1, by subst h2; exact ⟨KeepB.refl _ _, hbq⟩⟩⟩
  simp only [Act.put, List.setIfInBounds_toArray, List.set_cons_zero, List.set_cons_succ]
  (repeat (refine GK.grow_quiet w0 (by rfl) (by rfl) ?_; intro K hK; go_big_quiet_op; go_big_quiet_on))
  refine GK.grow_val (.int .i64 (cmpI a.t b.t)) (by rfl) rfl (fun m wq hm hbq _ => ?_) ?_
  · go_simp
    exact ⟨rfl, (compareInt_any _ _ _).mono fun e w' ⟨h1, h2⟩ => ⟨h1, by subst h2; exact ⟨KeepB.refl _ _, hbq⟩⟩⟩
  simp only [Act.put, List.setIfInBounds_toArray, List.set_cons_zero, List.set_cons_succ]
  refine GK.grow_nil ?_
  intro w2 hw2 hf
  clear hf x0 x1 x2 y0 y1 y2
  simp only [List.filterMap_cons, List.filterMap_nil, List.getElem?_cons_zero, List.getElem?_cons_succ]
  replace hw2 : Grew w0 w2 := hw2
  go_wp2_with (go_at_call 94; refine (orInt_any (cmpI a.f b.f) (cmpI a.l b.l) (cmpI a.t b.t) _ _ (by simp) (by simp) (by simp)).mono ?_; rintro e w1 ⟨rfl, rfl⟩)
  go_ret
  exact ⟨rfl, hG0.trans (hw2.alloc _)⟩

instance : Inhabited Ed := ⟨⟨0, 0, 0⟩⟩
def encE (e : Ed) : List Value := [.int .i64 e.f, .int .i64 e.l, .int .i64 e.t]
theorem ltOf_cmpE (x y : Ed) : ltOf cmpE x y = edgeLt x y := by
  unfold ltOf
  have := cmpE_ge x y
  cases h : edgeLt x y
  · rw [h] at this; simp at this; simp; omega
  · rw [h] at this; simp at this; simp; omega
theorem edgeLt_iff (a b : Ed) : edgeLt a b = true ↔ a.f < b.f ∨ a.f = b.f ∧ (a.l < b.l ∨ a.l = b.l ∧ a.t < b.t) := by
  unfold edgeLt
  split
  · rw [decide_eq_true_iff]; omega
  · split
    · rw [decide_eq_true_iff]; omega
    · rw [decide_eq_true_iff]; omega
theorem edgeLt_no (a b : Ed) : edgeLt a b = false ↔ ¬ (a.f < b.f ∨ a.f = b.f ∧ (a.l < b.l ∨ a.l = b.l ∧ a.t < b.t)) := by
  rw [← edgeLt_iff]; simp
theorem swoE : Go.Sort.SWO (ltOf cmpE) where
  irrefl x := by rw [ltOf_cmpE, edgeLt_no]; omega
  trans x y z h1 h2 := by rw [ltOf_cmpE, edgeLt_iff] at *; omega
  ntrans x y z h1 h2 := by rw [ltOf_cmpE, edgeLt_no] at *; omega
theorem totE (x y : Ed) (h1 : ltOf cmpE x y = false) (h2 : ltOf cmpE y x = false) : x = y := by
  rw [ltOf_cmpE, edgeLt_no] at h1 h2
  obtain ⟨a, b, c⟩ := x
  obtain ⟨a', b', c'⟩ := y
  simp only at h1 h2
  have e1 : a = a' := by omega
  have e2 : b = b' := by omega
  have e3 : c = c' := by omega
  rw [e1, e2, e3]

section
open Go.Sort Go.Shelf
theorem frozen_zero {w : World} {g : Nat} {cur : Array Value} {e : TypeId} (h : w.heap[g]? = some (.cells cur e (0, 0))) (i : Nat) : w.frozen? ⟨g, i, none⟩ = false := by simp [World.frozen?, h]
theorem holdsE {w : World} {B g cap : Nat} {es : List Ed} (h : OwnEds w B (.slice (some ⟨g, 0, none⟩) es.length cap) es) (h0 : 0 < es.length) : g < w.heap.size ∧ HoldsK encE 3 w g 0 es.toArray := by
  obtain ⟨A, c, e, -, -, hE, -⟩ := h.read
  cases e
  obtain ⟨b, o, e, hb, hc⟩ := hE h0
  cases e
  refine ⟨hb, fun j hj => ?_⟩
  rw [size_flatK] at hj
  have hsz : es.toArray.size = es.length := by simp
  rw [hsz] at hj
  have hq : j / 3 < es.length := by omega
  have hr : j % 3 = 0 ∨ j % 3 = 1 ∨ j % 3 = 2 := by omega
  have hje : j = 0 + j / 3 * 3 + j % 3 := by omega
  obtain ⟨h1, h2, h3⟩ := hc (j / 3) hq
  have hget : (es.toArray)[j / 3]! = es[j / 3] := by rw [getElem!_pos _ _ (by simpa using hq)]; simp
  constructor
  · rw [get_flatK _ _ _ _ (by rw [hsz]; exact hj), hget, Nat.zero_add]
    rcases hr with e | e | e
    · rw [e]
      have : w.cell? ⟨g, j, none⟩ = w.cell? ⟨g, 0 + j / 3 * 3, none⟩ := by congr 2; omega
      rw [this, h1]; rfl
    · rw [e]
      have : w.cell? ⟨g, j, none⟩ = w.cell? ⟨g, 0 + j / 3 * 3 + 1, none⟩ := by congr 2; omega
      rw [this, h2]; rfl
    · rw [e]
      have : w.cell? ⟨g, j, none⟩ = w.cell? ⟨g, 0 + j / 3 * 3 + 2, none⟩ := by congr 2; omega
      rw [this, h3]; rfl
  · rcases h.2 with ⟨h4, _⟩ | ⟨g', cap', cur, hv, _, hh, _⟩
    · cases h4
    · cases hv
      exact frozen_zero hh _
theorem cmpLaysE (blk off size : Nat) (w : World) : CmpLays Tryz.prog 44 #[] encE 3 cmpE blk off size w := fun m os dk _ x y => by
  have h := compareEdges_grew x y (sortWorldK encE 3 w blk off m dk os)
  exact h.mono fun e w' ⟨h1, q, os', h2⟩ => ⟨h1, q, os', h2⟩

set_option maxHeartbeats 1000000 in
/-- Edges that lie in order stay. -/
theorem sortEdges_any (es : List Ed) (v : Value) (B : Nat) (w : World) (h : OwnEds w B v es) (hn : es.length ≤ 1000000) (hs : es.Pairwise fun a b => edgeLt a b = true) :
    Calls Tryz.prog 43 #[v, .func (.func 44) #[] #[]] w fun e w' => e = .returned (.tuple #[]) ∧ Below w.heap.size w w' := by
  by_cases h0 : 0 < es.length
  · rcases h.2 with ⟨_, h4⟩ | ⟨g, cap, cur, rfl, hb, hh, h1, h2, h3, h4⟩
    · omega
    · obtain ⟨hg, hH⟩ := holdsE h h0
      have hsz : es.toArray.size = es.length := by simp
      have eg : ∀ args w, (callFunc 44 args).run Tryz.prog w = .ok (.enter 44 args) w := enters_of Tryz.func44 (by kernel_rfl) rfl
      have hc : Calls Tryz.prog 43 #[.slice (some ⟨g, 0, none⟩) es.toArray.size cap, .func (.func 44) #[] #[]] w _ := AnyQ.slices_SortFunc_total Tryz.laysSortF 3 Tryz.isAgg50 Tryz.sizeOf50 encE (fun _ => rfl) (fun x v hv => by simp [encE] at hv; rcases hv with rfl | rfl | rfl <;> rfl) cmpE swoE 44 #[] g 0 cap es.toArray w eg (cmpLaysE g 0 _ w) hH hg (by rw [hsz]; omega) totE
      rw [hsz] at hc
      refine hc.mono ?_
      rintro e w' ⟨rfl, n, os, rfl⟩
      refine ⟨rfl, ?_⟩
      have e1 : (es.toArray.toList.mergeSort fun x y => !(ltOf cmpE) y x) = es := by
        refine List.mergeSort_of_pairwise (hs.imp fun {a b} h => ?_)
        rw [ltOf_cmpE]
        cases hba : edgeLt b a
        · rfl
        · exact (edgeLt_asymm h hba).elim
      rw [e1]
      unfold sortWorldK
      rw [putRowK_self _ _ _ _ _ _ (holdsK_ahead encE 3 w n g 0 es.toArray hH)]
      exact Grew.below ⟨n, os, rfl⟩
  · obtain ⟨A, c, rfl, -, -⟩ := own_slice h
    have e0 : es.length = 0 := by omega
    rw [e0]
    have hc : Calls Tryz.prog 43 #[.slice A 0 c, .func (.func 44) #[] #[]] w _ := AnyF.slices_SortFunc_none Tryz.laysSortF A c _ w
    refine hc.mono ?_
    rintro e w' ⟨rfl, rfl⟩
    exact ⟨rfl, Below.refl _ _⟩
end

end Go.Proofs.YtdkjnemakkppfaaGreatDoor
