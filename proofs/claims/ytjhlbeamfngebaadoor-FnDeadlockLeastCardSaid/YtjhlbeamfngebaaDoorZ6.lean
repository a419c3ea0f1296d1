/- Lemmas, part 6: several texts in one. -/
import Derived.Test.YtjhlbeamfngebaaDoorZ5
import Derived.Test.YtjhlbeamfngebaaDoorZ3
import Derived.Laws.OwnMore
import Derived.Test.YtjhlbeamfngebaaDoorCards
import Derived.Test.YtjhlbeamfngebaaDoorTie
import Derived.Test.YtjhlbeamfngebaaDoorZ2
import Derived.WalkKit
import Derived.ProofKit
import Derived.OpenShut
import Derived.Deep.DeepHandedRow
import Derived.Lib.LaidTab
import Derived.Stop.LaidErr
import Derived.Test.YtjhlbeamfngebaaDoorZ4
set_option linter.unusedSimpArgs false
set_option linter.unusedVariables false

/- The drawing kit: FormatSystem, ParseSystem. -/
namespace Go.Proofs.YtjhlbeamfngebaaDoor
open Go.RowKit Go.BigFrame AG

def isStr (N : Nat) (u : Value) : Prop := ∃ x : ByteArray, u = .string x ∧ x.size ≤ N

set_option maxRecDepth 100000 in
set_option maxHeartbeats 4000000 in
theorem formatSystem_any (s : Sy) (A : Option Addr) (c : Nat) (w : World) (hl : s.es.length ≤ c) (hc : c ≤ 9223372036854775807) (hL : s.es.length ≤ 10000) (hr : EdsAt w w.heap.size A s.es) :
    Calls Tryd.prog 194 #[s.val A c] w (StrPost 1000000000 w) := by
  unfold Sy.val
  replace hr := hid hr
  obtain ⟨w0, hw0, hz0, hB0, hS0, hS1, hS2⟩ := boxed3 w (Value.int IntKind.i64 s.al) (Value.int IntKind.i64 s.st) (Value.slice A s.es.length c) 37
  have hr0 := hid (hr.out.later hB0)
  have p0 := hS0 _ (Below.refl _ _)
  have p1 := hS1 _ (Below.refl _ _)
  have p2 := hS2 _ (Below.refl _ _)
  cases hok : sysOk s
  · replace hok := hid hok
    go_enter Tryd.func194, Tryd.ntmps194
    go_wp2_with fail
    refine (specSystemValid_any s A c w0 hl hc hr0.out).mono ?_
    rintro e w1 ⟨rfl, hb1⟩
    rw [hok.out]
    have hB1 : Below w.heap.size w w1 := hB0.trans (hb1.mono (by omega))
    go_wp2_with fail
    go_ret
    exact ⟨_, rfl, by decide, hB1⟩
  · have hst := sysOk_st hok
    have hin := hid (sysOk_in hok)
    replace hok := hid hok
    obtain ⟨sn, hsn⟩ := Int.eq_ofNat_of_zero_le (show 0 ≤ s.st by omega)
    have hsn16 : sn ≤ 1000 := by omega
    replace hsn := hid hsn
    go_enter Tryd.func194, Tryd.ntmps194
    go_wp2_with fail
    refine (specSystemValid_any s A c w0 hl hc hr0.out).mono ?_
    rintro e w1 ⟨rfl, hb1⟩
    rw [hok.out]
    have hb1' := hb1.mono hz0
    clear p0 p1 p2
    have p0 := hS0 _ hb1'
    have p1 := hS1 _ hb1'
    rw [hsn.out] at p1
    have q0 := GK.BI.cell p0
    have q1 := GK.BI.cell p1
    clear p0 p1 hw0
    go_wp2_with fail
    refine GK.wp_region 9 [] 200 (KeepB fun _ => False) (GK.BI w1) (fun _ u _ => isStr 1001 u) (by kernel_rfl) (by kernel_rfl) (GK.BI.way w1) (by decide) (Below.refl _ _).drew ?_
    simp only [List.take_succ_cons, List.take_zero]
    (repeat (refine GK.grow_quiet w1 (by rfl) (by rfl) ?_; intro K hK; go_big_quiet_op; go_big_quiet_on))
    refine GK.grow_call (by rfl) (fun u w w' _ h => h) (fun m wq hm hbq _ => ?_) ?_
    · go_simp
      exact ⟨rfl, (formatAlpha_any s.al wq).mono fun e w' ⟨x, h1, h2, h3⟩ => ⟨_, h1, hbq.after h3, x, rfl, by omega⟩⟩
    rintro u ⟨_, _, _, x, rfl, hx⟩
    simp only [Act.put, List.setIfInBounds_toArray, List.set_cons_zero, List.set_cons_succ]
    (repeat (refine GK.grow_quiet w1 (by rfl) (by rfl) ?_; intro K hK; go_big_quiet_op; go_big_quiet_on))
    refine GK.grow_call (by rfl) (fun u w w' _ h => h) (fun m wq hm hbq _ => ?_) ?_
    · go_simp
      exact ⟨rfl, (l19Dec_any sn hsn16 wq).mono fun e w' ⟨x, h1, h2, h3⟩ => ⟨_, h1, hbq.after h3, x, rfl, by omega⟩⟩
    rintro u ⟨_, _, _, y, rfl, hy⟩
    simp only [Act.put, List.setIfInBounds_toArray, List.set_cons_zero, List.set_cons_succ]
    (repeat (refine GK.grow_quiet w1 (by rfl) (by rfl) ?_; intro K hK; go_big_quiet_op; go_big_quiet_on))
    refine GK.grow_nil ?_
    intro w2 hw2 _
    simp only [List.filterMap_nil]
    have hw2' : Below w1.heap.size w1 w2 := hw2
    have hb2 := hb1'.trans (hw2'.mono (by have := hb1.size; omega))
    have hB2 : Below w.heap.size w w2 := hB0.trans (hb2.mono (by omega))
    have hr2 := hid (hr.out.later hB2)
    clear q0 q1
    go_wp2_with fail
    go_loopw [3, 4] (fun o i wr => ∃ (k : Nat) (x : ByteArray), i = .int .i64 k ∧ o = .string x ∧ x.size ≤ 10000 + k * 10000 ∧ k ≤ s.es.length ∧ Below w2.heap.size w2 wr) (fun _ i _ => s.es.length - (intOf i).toNat)
    case atStart => exact ⟨0, _, rfl, rfl, by rw [ByteArray.size_append, ByteArray.size_append]; show x.size + 1 + y.size ≤ _; omega, by omega, Below.refl _ _⟩
    case round =>
      clear hx hy
      obtain ⟨k, x, rfl, rfl, hx, hk, hb⟩ := hrel
      have hbw : Below (w.heap.size + 1) w0 wr := hb2.trans (hb.mono (by have := hB2.size; have := hb2.size; omega))
      have p0 := hS0 _ hbw
      have p2 := hS2 _ hbw
      have hzr := hb.size
      by_cases hlt : k < s.es.length
      · obtain ⟨b, o, rfl, hbb, hE⟩ := hr2.out (by omega)
        obtain ⟨e0, e1, e2⟩ := hE k hlt
        have hok2 := hin.out s.es[k] (List.getElem_mem _)
        replace hE := hid hE
        obtain ⟨f, hf⟩ := Int.eq_ofNat_of_zero_le hok2.1
        obtain ⟨tt, ht⟩ := Int.eq_ofNat_of_zero_le hok2.2.2.1
        obtain ⟨l, hll⟩ := Int.eq_ofNat_of_zero_le hok2.2.2.2.2.1
        have hf1 : f ≤ 1000 := by omega
        have ht1 : tt ≤ 1000 := by omega
        have hl1 : l < 6 := by omega
        rw [hf] at e0
        rw [hll] at e1
        rw [ht] at e2
        replace hf := hid hf
        replace ht := hid ht
        replace hll := hid hll
        replace hok2 := hid hok2
        have g0 : wr.cell? ⟨b, o + k * 3, none⟩ = some (.int .i64 (f : Nat)) := by rw [hb.cell (by simpa using hbb)]; exact e0
        have g1 : wr.cell? ⟨b, o + k * 3 + 1, none⟩ = some (.int .i64 (l : Nat)) := by rw [hb.cell (by simpa using hbb)]; exact e1
        have g2 : wr.cell? ⟨b, o + k * 3 + 2, none⟩ = some (.int .i64 (tt : Nat)) := by rw [hb.cell (by simpa using hbb)]; exact e2
        have k1 : (0 : Int) ≤ (k : Int) ∧ (k : Int) < (s.es.length : Int) := by omega
        clear e0 e1 e2
        have hnb : Below wr.heap.size wr (wr.alloc (.cells #[.int .i64 (f : Nat), .int .i64 (l : Nat), .int .i64 (tt : Nat)] 77)) := (Below.refl _ _).alloc (Nat.le_refl _) _
        have hnk := Blk.new wr 77 #[.int .i64 (f : Nat), .int .i64 (l : Nat), .int .i64 (tt : Nat)]
        generalize hw3 : wr.alloc (.cells #[.int .i64 (f : Nat), .int .i64 (l : Nat), .int .i64 (tt : Nat)] 77) = w3 at hnb hnk
        have m0 := hnk.cell 0
        have m1 := hnk.cell 1
        have m2 := hnk.cell 2
        simp only [List.getElem?_toArray, List.getElem?_cons_zero, List.getElem?_cons_succ] at m0 m1 m2
        have q0 := GK.BI.cell m0
        have q1 := GK.BI.cell m1
        have q2 := GK.BI.cell m2
        replace hnk := hid hnk
        go_wp2_with fail
        clear m0 m1 m2 g0 g1 g2 p0 p2
        refine GK.wp_region 14 [14] 200 (KeepB fun _ => False) (GK.BI w3) (fun _ u _ => isStr 1001 u) (by kernel_rfl) (by kernel_rfl) (GK.BI.way w3) (by decide) (Below.refl _ _).drew ?_
        simp only [List.take_succ_cons, List.take_zero]
        (repeat (refine GK.grow_quiet w3 (by rfl) (by rfl) ?_; intro K hK; go_big_quiet_op; go_big_quiet_on))
        refine GK.grow_call (by rfl) (fun u w w' _ h => h) (fun m wq hm hbq _ => ?_) ?_
        · go_simp
          exact ⟨rfl, (l19Dec_any f hf1 wq).mono fun e w' ⟨x, h1, h2, h3⟩ => ⟨_, h1, hbq.after h3, x, rfl, by omega⟩⟩
        rintro u ⟨_, _, _, y, rfl, hy⟩
        simp only [Act.put, List.setIfInBounds_toArray, List.set_cons_zero, List.set_cons_succ]
        (repeat (refine GK.grow_quiet w3 (by rfl) (by rfl) ?_; intro K hK; go_big_quiet_op; go_big_quiet_on))
        refine GK.grow_call (by rfl) (fun u w w' _ h => h) (fun m wq hm hbq _ => ?_) ?_
        · go_simp
          exact ⟨rfl, (l1Text_any l hl1 wq).mono fun e w' ⟨h1, h3⟩ => ⟨_, h1, hbq.after h3, _, rfl, by show 1 ≤ 1001; omega⟩⟩
        rintro u ⟨_, _, _, z, rfl, hz⟩
        simp only [Act.put, List.setIfInBounds_toArray, List.set_cons_zero, List.set_cons_succ]
        (repeat (refine GK.grow_quiet w3 (by rfl) (by rfl) ?_; intro K hK; go_big_quiet_op; go_big_quiet_on))
        refine GK.grow_call (by rfl) (fun u w w' _ h => h) (fun m wq hm hbq _ => ?_) ?_
        · go_simp
          exact ⟨rfl, (l19Dec_any tt ht1 wq).mono fun e w' ⟨x, h1, h2, h3⟩ => ⟨_, h1, hbq.after h3, x, rfl, by omega⟩⟩
        rintro u ⟨_, _, _, y2, rfl, hy2⟩
        simp only [Act.put, List.setIfInBounds_toArray, List.set_cons_zero, List.set_cons_succ]
        (repeat (refine GK.grow_quiet w3 (by rfl) (by rfl) ?_; intro K hK; go_big_quiet_op; go_big_quiet_on))
        refine GK.grow_nil ?_
        intro w4 hw4 _
        simp only [List.filterMap_cons, List.filterMap_nil, List.getElem?_cons_zero, List.getElem?_cons_succ]
        have hw4' : Below w3.heap.size w3 w4 := hw4
        have hb4 := hb.trans ((hnb.trans (hw4'.mono hnb.size)).mono hzr)
        clear q0 q1 q2
        go_wp2_with fail
        go_roundw
        case rel => exact ⟨k + 1, _, by go_num, rfl, by simp only [ByteArray.size_append]; show x.size + 1 + y.size + z.size + y2.size ≤ _; omega, by omega, hb4⟩
        case measure => simp [intOf]; omega
      · have hb4 := hB2.trans (hb.mono hB2.size)
        go_wp2_with fail
        go_ret
        exact ⟨_, rfl, by omega, hb4⟩

end Go.Proofs.YtjhlbeamfngebaaDoor

/- The drawing kit: ParseSystem. -/
namespace Go.Proofs.YtjhlbeamfngebaaDoor
open Go.RowKit Go.BigFrame AG

/-- Some system and a Bool come back. -/
def SyBPost (L : Nat) (w : World) (e : Ending) (w' : World) : Prop :=
  ∃ (s : Sy) (A : Option Addr) (c : Nat) (b : Bool), e = .returned (.tuple #[s.val A c, .bool b]) ∧ s.es.length ≤ c ∧ c ≤ 9223372036854775807 ∧ s.es.length ≤ L ∧ EdsAt w' w'.heap.size A s.es ∧ FreshA w.heap.size A ∧ Below w.heap.size w w'

structure PsSt (w2 wr : World) (al st : Int) (v : Value) (es : List Ed) (k : Nat) : Prop where
  blk : Blk wr w2.heap.size 37 #[.int .i64 al, .int .i64 st, v]
  own : OwnEds wr (w2.heap.size + 1) v es
  len : es.length ≤ k
  below : Below w2.heap.size w2 wr
theorem PsSt.later {w2 wr w1 : World} {al st : Int} {v : Value} {es : List Ed} {k : Nat} (h : PsSt w2 wr al st v es k) (hb : Below wr.heap.size wr w1) : PsSt w2 w1 al st v es k :=
  ⟨h.blk.below hb h.blk.lt, own_later h.own hb, h.len, h.below.trans (hb.mono h.below.size)⟩
theorem PsSt.add {w2 wr w1 : World} {al st : Int} {v v' : Value} {es : List Ed} {k : Nat} {x : Ed} (h : PsSt w2 wr al st v es k)
    (hown : w1.ownsRow (w2.heap.size + 1) 77 3 v' (es.length + 1) (edCells es ++ [.int .i64 x.f, .int .i64 x.l, .int .i64 x.t])) (hg : wr.grownBy w1 v.ownBlock) :
    PsSt w2 (w1.setCell ⟨w2.heap.size, 2, none⟩ v') al st v' (es ++ [x]) (k + 1) := by
  have hv : ∀ k, v.ownBlock = some k → w2.heap.size < k := fun k hk => by have := (h.own.lt k hk).1; omega
  have hv' : ∀ k, v'.ownBlock = some k → w2.heap.size < k := fun k hk => by have := (World.ownsRow.lt hown k hk).1; omega
  have k1 : KeepB (fun b => v.ownBlock = some b) wr w1 := (KeepB.refl _ wr).grown hg (fun k hk _ => hk)
  have hb := h.blk.lt
  refine ⟨?_, ?_, by have := h.len; simp; omega, ?_⟩
  · have := (h.blk.keep k1 (fun hk => by have := hv _ hk; omega)).set_ 2 v'
    simpa using this
  · have e : (es ++ [x]).length = es.length + 1 := by simp
    unfold OwnEds
    rw [e, edCells_append]
    exact ownsRow_setCell_other hown (fun hk => by have := hv' _ hk; simp at this) _
  · exact (h.below.grown hg h.below.size (fun k hk => by have := hv k hk; omega)).setCell (by simp) _

theorem SyBPost.ret {L : Nat} {w w1 : World} {s : Sy} {A : Option Addr} {c : Nat} (b : Bool) (h1 : s.es.length ≤ c) (h2 : c ≤ 9223372036854775807) (h3 : s.es.length ≤ L) (h4 : EdsAt w1 w1.heap.size A s.es) (h5 : FreshA (w.heap.size + 1) A)
    (h7 : Below w.heap.size w w1) (v1 v2 v3 : Value) :
    SyBPost L w (.returned (.tuple #[.agg #[.int .i64 s.al, .int .i64 s.st, .slice A s.es.length c], .bool b])) (((w1.setCell ⟨w.heap.size, 0, none⟩ v1).setCell ⟨w.heap.size, 1, none⟩ v2).setCell ⟨w.heap.size, 2, none⟩ v3) := by
  have hne : ∀ b o, A = some ⟨b, o, none⟩ → 0 < s.es.length → b ≠ w.heap.size := fun b o hA _ => by have := h5 b o hA; omega
  refine ⟨s, A, c, b, rfl, h1, h2, h3, ?_, fun b o hA => by have := h5 b o hA; omega, ?_⟩
  · simpa [World.setCell] using ((h4.stored v1 hne).stored v2 hne).stored v3 hne
  · (repeat (first | exact Below.refl _ _ | assumption | refine Below.drew ?_ | refine Below.alloc ?_ (by first | omega | (simp; done) | (simp; omega)) _ | refine Below.setCell ?_ (by first | omega | (simp; done) | (simp; omega)) _))

set_option maxRecDepth 100000 in
set_option maxHeartbeats 8000000 in
theorem parseSystem_any (t : ByteArray) (w : World) (hz : t.size ≤ 900) : Calls Tryd.prog 184 #[.string t] w (SyBPost 1000 w) := by
  obtain ⟨i0, hi, hz0, hz1, hz2⟩ := info_parts infoEd
  have hres := Blk.new w 37 #[.int .i64 0, .int .i64 0, .slice none 0 0]
  have hb0 : Below w.heap.size w (w.alloc (.cells #[.int .i64 0, .int .i64 0, .slice none 0 0] 37)) := (Below.refl _ _).alloc (Nat.le_refl _) _
  have hsz0 : (w.alloc (.cells #[.int .i64 0, .int .i64 0, .slice none 0 0] 37)).heap.size = w.heap.size + 1 := by simp
  generalize hw0 : w.alloc (.cells #[.int .i64 0, .int .i64 0, .slice none 0 0] 37) = w0 at hres hb0 hsz0
  replace hres := hid hres
  have hzero : ∀ w1, Below w0.heap.size w0 w1 → Hid (SyBPost 1000 w (.returned (.tuple #[.agg #[.int .i64 0, .int .i64 0, .slice none 0 0], .bool false])) (((w1.setCell ⟨w.heap.size, 0, none⟩ (.int .i64 0)).setCell ⟨w.heap.size, 1, none⟩ (.int .i64 0)).setCell ⟨w.heap.size, 2, none⟩ (.slice none 0 0))) := fun w1 h =>
    hid (SyBPost.ret (s := ⟨0, 0, []⟩) (A := none) (c := 0) false (by simp) (by omega) (by simp) (fun h => by simp at h) (fun b o h => by cases h) (hb0.trans (h.mono (by omega))) _ _ _)
  replace hsz0 := hid hsz0
  have hrb : ∀ w1, Below w0.heap.size w0 w1 → Hid (Blk w1 w.heap.size 37 #[.int .i64 0, .int .i64 0, .slice none 0 0]) := fun w1 h => hid (hres.out.below h (by have := hsz0.out; omega))
  go_enter Tryd.func184, Tryd.ntmps184
  go_wp2_with fail
  refine (l19Cut_any t 32 w0 (by omega)).mono ?_
  rintro e w1 ⟨pv, ps, rfl, hcut⟩
  have hb1 := hcut.below
  have hplen := hcut.len
  obtain ⟨Ap, cp, hpv, hcp, hcp'⟩ := own_slice hcut.own
  subst hpv
  replace hcut := hid hcut
  by_cases hlen : ps.length < 2
  · have hfin := hzero w1 hb1
    have hbl := hrb w1 hb1
    have d0 := hbl.out.cell 0
    have d1 := hbl.out.cell 1
    have d2 := hbl.out.cell 2
    have f0 := hbl.out.frozen 0
    have f1 := hbl.out.frozen 1
    have f2 := hbl.out.frozen 2
    simp only [List.getElem?_toArray, List.getElem?_cons_zero, List.getElem?_cons_succ] at d0 d1 d2
    have hlt := hbl.out.lt
    clear hw0
    go_wp2
    refine bodyPost_ret (v := .tuple #[.agg #[.int .i64 0, .int .i64 0, .slice none 0 0], .bool false]) (by simp [results, Tryd.results184, go_sem, d0, d1, d2]) rfl ?_
    exact hfin.out
  · obtain ⟨gp, cap, hve, hg1, hg2, -, -, hP⟩ := own_strs hcut.out.own (by omega)
    injection hve with hv1 hv2 hv3
    subst hv1
    subst hv3
    have s0 := hP 0 (by omega)
    have hsm : ∀ i (h : i < ps.length), (ps[i]'h).size ≤ 900 := fun i h => by have := hcut.out.small _ (List.getElem_mem h); omega
    replace hsm := hid hsm
    replace hP := hid hP
    have i1 : (1 : Int) < (ps.length : Int) := by omega
    have i0' : (0 : Int) < (ps.length : Int) := by omega
    go_wp2_with fail
    refine (parseAlpha_any _ w1).mono ?_
    rintro e w2 ⟨al, ok, rfl, hb2⟩
    have s1 : w2.cell? ⟨gp, 1, none⟩ = some (.string ps[1]) := by rw [hb2.cell (by simpa using hg2)]; exact hP.out 1 (by omega)
    have hb02 := hb1.trans (hb2.mono hb1.size)
    clear s0
    go_wp2_with fail
    refine (l19Num_any ps[1] w2 (by have := hsm.out 1 (by omega); omega)).mono ?_
    rintro e w' ⟨st, fine, rfl, rfl⟩
    clear s1 hw0
    have hfin := hzero w2 hb02
    have hbl := hrb w2 hb02
    have d0 := hbl.out.cell 0
    have d1 := hbl.out.cell 1
    have d2 := hbl.out.cell 2
    have f0 := hbl.out.frozen 0
    have f1 := hbl.out.frozen 1
    have f2 := hbl.out.frozen 2
    simp only [List.getElem?_toArray, List.getElem?_cons_zero, List.getElem?_cons_succ] at d0 d1 d2
    have hlt := hbl.out.lt
    cases ok
    · go_wp2
      refine bodyPost_ret (v := .tuple #[.agg #[.int .i64 0, .int .i64 0, .slice none 0 0], .bool false]) (by simp [results, Tryd.results184, go_sem, d0, d1, d2]) rfl ?_
      exact hfin.out
    · cases fine
      · go_wp2
        refine bodyPost_ret (v := .tuple #[.agg #[.int .i64 0, .int .i64 0, .slice none 0 0], .bool false]) (by simp [results, Tryd.results184, go_sem, d0, d1, d2]) rfl ?_
        exact hfin.out
      · clear d0 d1 d2 f0 f1 f2 hfin hbl
        go_wp2_with fail
        have hs0 : PsSt w2 (w2.alloc (.cells #[.int .i64 al, .int .i64 st, .slice none 0 0] 37)) al st (.slice none 0 0) [] 2 :=
          ⟨Blk.new _ _ _, World.ownsRow_nil _ _ _ _, by simp, (Below.refl _ _).alloc (Nat.le_refl _) _⟩
        replace hs0 := hid hs0
        go_loopw [10] (fun i wr => ∃ (k : Nat) (v : Value) (es : List Ed), i = .int .i64 k ∧ 2 ≤ k ∧ k ≤ ps.length ∧ PsSt w2 wr al st v es k) (fun i _ => ps.length - (intOf i).toNat)
        case atStart => exact ⟨2, _, [], rfl, by omega, by omega, hs0.out⟩
        case round =>
          obtain ⟨k, v, es, rfl, hk2, hk, hs⟩ := hrel
          have hbr := hs.below
          have hln := hs.len
          have hb0r := hb02.trans (hbr.mono hb02.size)
          replace hs := hid hs
          by_cases hkl : k < ps.length
          · have s1 : wr.cell? ⟨gp, k, none⟩ = some (.string ps[k]) := by rw [hbr.cell (by have := hb2.size; simp; omega), hb2.cell (by simpa using hg2)]; exact hP.out k hkl
            have i2 : (0 : Int) ≤ (k : Int) ∧ (k : Int) < (ps.length : Int) := by omega
            go_wp2_with fail
            refine (l2Parse_any ps[k] wr (by have := hsm.out k (by omega); omega)).mono ?_
            rintro e w3 ⟨x, good, rfl, hb3⟩
            have hb03 := hb0r.trans (hb3.mono hb0r.size)
            have hs3 := hid (hs.out.later hb3)
            clear s1 hs
            unfold Ed.val
            cases good
            · have b4 : Below w0.heap.size w0 (w3.alloc (.cells #[.int .i64 x.f, .int .i64 x.l, .int .i64 x.t] 77)) := hb03.alloc hb03.size _
              have hfin := hzero _ b4
              have hbl := hrb _ b4
              have d0 := hbl.out.cell 0
              have d1 := hbl.out.cell 1
              have d2 := hbl.out.cell 2
              have f0 := hbl.out.frozen 0
              have f1 := hbl.out.frozen 1
              have f2 := hbl.out.frozen 2
              simp only [List.getElem?_toArray, List.getElem?_cons_zero, List.getElem?_cons_succ] at d0 d1 d2
              have hlt := hbl.out.lt
              generalize hw4 : w3.alloc (.cells #[.int .i64 x.f, .int .i64 x.l, .int .i64 x.t] 77) = w4 at *
              go_wp2
              refine bodyPost_ret (v := .tuple #[.agg #[.int .i64 0, .int .i64 0, .slice none 0 0], .bool false]) (by simp [results, Tryd.results184, go_sem, d0, d1, d2]) rfl ?_
              exact hfin.out
            · have hs4 := hid (hs3.out.later ((Below.refl _ w3).alloc (Nat.le_refl _) (.cells #[.int .i64 x.f, .int .i64 x.l, .int .i64 x.t] 77)))
              have hnb := Blk.new w3 77 #[.int .i64 x.f, .int .i64 x.l, .int .i64 x.t]
              have hsz4 : w3.heap.size < (w3.alloc (.cells #[.int .i64 x.f, .int .i64 x.l, .int .i64 x.t] 77)).heap.size := by simp
              have b4 : Below w0.heap.size w0 (w3.alloc (.cells #[.int .i64 x.f, .int .i64 x.l, .int .i64 x.t] 77)) := hb03.alloc hb03.size _
              generalize hw4 : w3.alloc (.cells #[.int .i64 x.f, .int .i64 x.l, .int .i64 x.t] 77) = w4 at *
              have m0 := hnb.cell 0
              have m1 := hnb.cell 1
              have m2 := hnb.cell 2
              simp only [List.getElem?_toArray, List.getElem?_cons_zero, List.getElem?_cons_succ] at m0 m1 m2
              have c2 := hs4.out.blk.cell 2
              simp only [List.getElem?_toArray, List.getElem?_cons_zero, List.getElem?_cons_succ] at c2
              have hgl := hs4.out.blk.lt
              have hown := hs4.out.own
              unfold OwnEds at hown
              have ag : v.ownBlock ≠ some w2.heap.size := fun e => by have := (hown.lt _ e).1; omega
              replace hown := hid hown
              replace hnb := hid hnb
              go_wp2_with (at_builtin; refine wpList_append_lies _ (by rfl) _ _ 35 (by rfl) (w2.heap.size + 1) 77 i0 (.agg #[.int .i64 0, .int .i64 0, .int .i64 0]) 3 24 Tryd.underlying35 hi hz0 hz1 hz2 rfl (by decide) v es.length (edCells es) (by rfl) (hown.out.alloc _) ⟨w4.heap.size, 0, none⟩ 1 1 [.int .i64 x.f, .int .i64 x.l, .int .i64 x.t] (by rfl) (by rfl) (World.news_of_block (heap_alloc_new w4 _)) ?c1 (by omega) ?c3 ?c4 ?c5 _ rfl ?_)
              case c1 => simp [Value.oneCell']
              case c3 => unfold maxLen; omega
              case c4 => omega
              case c5 => simp; omega
              intro gg cap5 w5 hown5 hgrow hat hlt5
              have hs5 := hid ((hs4.out.later ((Below.refl _ w4).alloc (Nat.le_refl _) _)).add (x := x) hown5 hgrow)
              have c2' : w5.cell? ⟨w2.heap.size, 2, none⟩ = some v := by rw [hgrow.cell_far _ (by simp; omega) (Ne.symm ag), World.cell?_alloc_lt (h := by simpa using hgl)]; exact c2
              have f2' : w5.frozen? ⟨w2.heap.size, 2, none⟩ = false := by rw [hgrow.frozen_far _ (by simp; omega) (Ne.symm ag)]; exact (hs4.out.blk.alloc _).frozen 2
              clear hown5 hgrow hat c2 m0 m1 m2 hw4
              go_wp2_with fail
              go_roundw
              case rel => exact ⟨k + 1, _, _, by go_num, by omega, by omega, hs5.out⟩
              case measure => simp [intOf]; omega
          · obtain ⟨Av, cv, hve, h1, h2⟩ := own_slice hs.out.own
            subst hve
            obtain ⟨A', c', hv', -, -, hE, hF⟩ := hs.out.own.read
            cases hv'
            have c0 := hs.out.blk.cell 0
            have c1 := hs.out.blk.cell 1
            have c2 := hs.out.blk.cell 2
            simp only [List.getElem?_toArray, List.getElem?_cons_zero, List.getElem?_cons_succ] at c0 c1 c2
            replace hE := hid hE
            replace hF := hid hF
            go_wp2_with fail
            refine (formatSystem_any ⟨al, st, es⟩ Av cv wr h1 h2 (by show es.length ≤ 10000; omega) hE.out).mono ?_
            rintro e w3 ⟨x, rfl, hx, hb3⟩
            have hb03 := hb0r.trans (hb3.mono hb0r.size)
            have hs3 := hid (hs.out.later hb3)
            have hE3 := hid (hE.out.later hb3)
            clear c0 c1 c2
            have c0 := hs3.out.blk.cell 0
            have c1 := hs3.out.blk.cell 1
            have c2 := hs3.out.blk.cell 2
            simp only [List.getElem?_toArray, List.getElem?_cons_zero, List.getElem?_cons_succ] at c0 c1 c2
            have hfin := hzero w3 hb03
            have hfin2 := hid (SyBPost.ret (w := w) (L := 1000) (s := ⟨al, st, es⟩) (A := Av) (c := cv) true h1 h2 (by show es.length ≤ 1000; omega) hE3.out (fun b o hA => by have := hF.out b o hA; have := hb02.size; have := hsz0.out; omega) (hb0.trans (hb03.mono (by have := hsz0.out; omega))) (.int .i64 al) (.int .i64 st) (.slice Av es.length cv))
            have hbl := hrb w3 hb03
            have d0 := hbl.out.cell 0
            have d1 := hbl.out.cell 1
            have d2 := hbl.out.cell 2
            have f0 := hbl.out.frozen 0
            have f1 := hbl.out.frozen 1
            have f2 := hbl.out.frozen 2
            simp only [List.getElem?_toArray, List.getElem?_cons_zero, List.getElem?_cons_succ] at d0 d1 d2
            have hlt := hbl.out.lt
            go_wp2
            all_goals first
              | (refine bodyPost_ret (v := .tuple #[.agg #[.int .i64 al, .int .i64 st, .slice Av es.length cv], .bool true]) (by simp [results, Tryd.results184, go_sem, d0, d1, d2]; done) rfl ?_; exact hfin2.out)
              | (refine bodyPost_ret (v := .tuple #[.agg #[.int .i64 0, .int .i64 0, .slice none 0 0], .bool false]) (by simp [results, Tryd.results184, go_sem, d0, d1, d2]; done) rfl ?_; exact hfin.out)

end Go.Proofs.YtjhlbeamfngebaaDoor

/- The drawing kit: l2Draw. -/
namespace Go.Proofs.YtjhlbeamfngebaaDoor
open Go.RowKit Go.BigFrame AG

set_option maxRecDepth 100000 in
set_option maxHeartbeats 4000000 in
theorem l2Draw_up (R P : Nat) (w : World) (hP : P + 200000 ≤ 1125899906842624) (hr : RdUp w R P) :
    Calls Tryd.prog 151 #[.pointer (some ⟨R, 0, none⟩)] w (SyUp R (P + 2000) 1536 w) := by
  have hR := hr.lt
  have hres := Blk.new w 37 #[.int .i64 0, .int .i64 0, .slice none 0 0]
  have hb0 : Below w.heap.size w (w.alloc (.cells #[.int .i64 0, .int .i64 0, .slice none 0 0] 37)) := (Below.refl _ _).alloc (Nat.le_refl _) _
  generalize hw0 : w.alloc (.cells #[.int .i64 0, .int .i64 0, .slice none 0 0] 37) = w0 at hres hb0
  have hz0 : w0.heap.size = w.heap.size + 1 := by rw [← hw0]; simp
  have hr0 := hid (hr.later hb0)
  replace hr := hid hr
  replace hres := hid hres
  replace hz0 := hid hz0
  go_enter Tryd.func151, Tryd.ntmps151
  go_wp2_with fail
  refine (pick_up R P 3 w0 (by omega) (by omega) hr0.out).mono ?_
  rintro e wp ⟨j, rfl, hj0, hj1, hrp, hkp⟩
  clear hw0 hj1
  by_cases hj : j = 0
  · subst hj
    replace hrp := hid hrp
    replace hkp := hid hkp
    go_wp2_with fail
    refine (l2Texts_any wp).mono ?_
    rintro e wt ⟨xs, hxl, hxs, rfl, hcell, hlt, hbt⟩
    have hrt := hid (hrp.out.later hbt)
    have hRt := hrp.out.lt
    replace hcell := hid hcell
    replace hxs := hid hxs
    replace hxl := hid hxl
    go_wp2_with fail
    refine (of_up R (P + 1) wp.heap.size 0 11 11 xs wt hxl.out (by omega) (by omega) (by omega) (by omega) hlt (fun i h => hcell.out i h) hrt.out).mono ?_
    rintro e wo ⟨x, hx, rfl, hro, hko⟩
    have hx60 : x.size ≤ 900 := by have := hxs.out x hx; omega
    replace hro := hid hro
    replace hko := hid hko
    clear hx
    go_wp2_with fail
    refine (parseSystem_any x wo hx60).mono ?_
    rintro e wq ⟨s, A, c, ok, rfl, h1, h2, h3, h4, h5, h6⟩
    unfold Sy.val
    have kq0 : KeepB (fun b => b = R) w0 wq := ((hkp.out.trans (KeepB.of_below hbt)).trans hko.out).trans (KeepB.of_below h6)
    have hnb := Blk.new wq 37 #[.int .i64 s.al, .int .i64 s.st, .slice A s.es.length c]
    have hba : Below wq.heap.size wq (wq.alloc (.cells #[.int .i64 s.al, .int .i64 s.st, .slice A s.es.length c] 37)) := (Below.refl _ _).alloc (Nat.le_refl _) _
    have hrq := hid ((hro.out.later h6).later hba)
    have hkq := hid (kq0.trans (KeepB.of_below hba))
    replace h4 := hid (h4.later hba)
    have h5' : Hid (FreshA (w.heap.size + 1) A) := hid (fun b o hA => by have := h5 b o hA; have := (hkp.out.trans (KeepB.of_below hbt)).size; have := hko.out.size; have := hz0.out; omega)
    clear h5 h6
    have hsq : wq.heap.size < (wq.alloc (.cells #[.int .i64 s.al, .int .i64 s.st, .slice A s.es.length c] 37)).heap.size := by simp
    generalize hwa : wq.alloc (.cells #[.int .i64 s.al, .int .i64 s.st, .slice A s.es.length c] 37) = wa at *
    cases ok
    · go_wp2_with fail
      clear hwa
      refine (num_lit R (P + 2) [3, 6, 7, 5, 1, 0, 12] wa _ (by decide) (by decide) (by omega) hrq.out).mono ?_
      rintro e w1 ⟨al, hal, rfl, hr1, hk1⟩
      replace hr1 := hid hr1
      replace hk1 := hid hk1
      clear hal
      go_wp2_with fail
      refine (num_lit R (P + 2 + 1) [3, 2, 4, 1, 5] w1 _ (by decide) (by decide) (by omega) hr1.out).mono ?_
      rintro e w2 ⟨st, hst, rfl, hr2, hk2⟩
      have hst2 : st ≤ 16 := by simp at hst; omega
      replace hr2 := hid hr2
      replace hk2 := hid hk2
      clear hst
      go_wp2_with fail
      refine (num_lit R (P + 2 + 2) [3, 2, 4, 6] w2 _ (by decide) (by decide) (by omega) hr2.out).mono ?_
      rintro e w3 ⟨few, hfew, rfl, hr3, hk3⟩
      have hf : few ≤ 9223372036854775807 := by simp at hfew; omega
      replace hr3 := hid hr3
      replace hk3 := hid hk3
      clear hfew
      go_wp2_with fail
      refine (l2Random_up R (P + 2 + 3) al st few w3 (by omega) hst2 hf hr3.out).mono ?_
      rintro e w4 ⟨s, A, c, rfl, h1, h2, h3, h4, h5, h6, h7⟩
      unfold Sy.val
      have K1 : KeepB (fun b => b = R) w0 w3 := ((hkq.out.trans hk1.out).trans hk2.out).trans hk3.out
      have K2 : KeepB (fun b => b = R) w0 w4 := K1.trans h7
      have hbl := hres.out.keep K2 (by omega)
      have d0 := hbl.cell 0
      have d1 := hbl.cell 1
      have d2 := hbl.cell 2
      have f0 := hbl.frozen 0
      have f1 := hbl.frozen 1
      have f2 := hbl.frozen 2
      simp only [List.getElem?_toArray, List.getElem?_cons_zero, List.getElem?_cons_succ] at d0 d1 d2
      have hfin := hid (SyUp.ret (w := w) h1 h2 h3 h4 (fun b o hA => by have := h5 b o hA; have := K1.size; have := hz0.out; omega) (h6.more (by omega : P + 2 + 3 + 1536 ≤ P + 2000)) ((KeepB.of_below hb0).trans K2) hR (.int .i64 s.al) (.int .i64 s.st) (.slice A s.es.length c))
      have hlt := hbl.lt
      clear h4 h5 h6 h7 hbl K1 K2
      go_wp2
      refine bodyPost_ret (v := .agg #[.int .i64 s.al, .int .i64 s.st, .slice A s.es.length c]) (by simp [results, Tryd.results151, go_sem, d0, d1, d2]) rfl ?_
      exact hfin.out
    · have c0 := hnb.cell 0
      have c1 := hnb.cell 1
      have c2 := hnb.cell 2
      have hbl := hres.out.keep hkq.out (by omega)
      have d0 := hbl.cell 0
      have d1 := hbl.cell 1
      have d2 := hbl.cell 2
      have f0 := hbl.frozen 0
      have f1 := hbl.frozen 1
      have f2 := hbl.frozen 2
      simp only [List.getElem?_toArray, List.getElem?_cons_zero, List.getElem?_cons_succ] at d0 d1 d2 c0 c1 c2
      have hfin := hid (SyUp.ret (w := w) h1 h2 (show s.es.length ≤ 1536 by omega) h4.out h5'.out (hrq.out.more (by omega : P + 1 + 1 ≤ P + 2000)) ((KeepB.of_below hb0).trans hkq.out) hR (.int .i64 s.al) (.int .i64 s.st) (.slice A s.es.length c))
      have hlt2 := hbl.lt
      replace hnb := hid hnb
      replace hbl := hid hbl
      go_wp2
      refine bodyPost_ret (v := .agg #[.int .i64 s.al, .int .i64 s.st, .slice A s.es.length c]) (by simp [results, Tryd.results151, go_sem, d0, d1, d2]) rfl ?_
      exact hfin.out
  · have hjb : ((j : Int) == 0) = false := by simp; omega
    replace hj := hid hj
    have hrq := hid hrp
    have hkq := hid hkp
    clear hrp hkp
    go_wp2_with fail
    refine (num_lit R (P + 1) [3, 6, 7, 5, 1, 0, 12] wp _ (by decide) (by decide) (by omega) hrq.out).mono ?_
    rintro e w1 ⟨al, hal, rfl, hr1, hk1⟩
    replace hr1 := hid hr1
    replace hk1 := hid hk1
    clear hal
    go_wp2_with fail
    refine (num_lit R (P + 1 + 1) [3, 2, 4, 1, 5] w1 _ (by decide) (by decide) (by omega) hr1.out).mono ?_
    rintro e w2 ⟨st, hst, rfl, hr2, hk2⟩
    have hst2 : st ≤ 16 := by simp at hst; omega
    replace hr2 := hid hr2
    replace hk2 := hid hk2
    clear hst
    go_wp2_with fail
    refine (num_lit R (P + 1 + 2) [3, 2, 4, 6] w2 _ (by decide) (by decide) (by omega) hr2.out).mono ?_
    rintro e w3 ⟨few, hfew, rfl, hr3, hk3⟩
    have hf : few ≤ 9223372036854775807 := by simp at hfew; omega
    replace hr3 := hid hr3
    replace hk3 := hid hk3
    clear hfew
    go_wp2_with fail
    refine (l2Random_up R (P + 1 + 3) al st few w3 (by omega) hst2 hf hr3.out).mono ?_
    rintro e w4 ⟨s, A, c, rfl, h1, h2, h3, h4, h5, h6, h7⟩
    unfold Sy.val
    have K1 : KeepB (fun b => b = R) w0 w3 := ((hkq.out.trans hk1.out).trans hk2.out).trans hk3.out
    have K2 : KeepB (fun b => b = R) w0 w4 := K1.trans h7
    have hbl := hres.out.keep K2 (by omega)
    have d0 := hbl.cell 0
    have d1 := hbl.cell 1
    have d2 := hbl.cell 2
    have f0 := hbl.frozen 0
    have f1 := hbl.frozen 1
    have f2 := hbl.frozen 2
    simp only [List.getElem?_toArray, List.getElem?_cons_zero, List.getElem?_cons_succ] at d0 d1 d2
    have hfin := hid (SyUp.ret (w := w) h1 h2 h3 h4 (fun b o hA => by have := h5 b o hA; have := K1.size; have := hz0.out; omega) (h6.more (by omega : P + 1 + 3 + 1536 ≤ P + 2000)) ((KeepB.of_below hb0).trans K2) hR (.int .i64 s.al) (.int .i64 s.st) (.slice A s.es.length c))
    have hlt := hbl.lt
    clear h4 h5 h6 h7 hbl K1 K2
    go_wp2
    refine bodyPost_ret (v := .agg #[.int .i64 s.al, .int .i64 s.st, .slice A s.es.length c]) (by simp [results, Tryd.results151, go_sem, d0, d1, d2]) rfl ?_
    exact hfin.out

end Go.Proofs.YtjhlbeamfngebaaDoor

/- The drawing kit: l2Wrong. -/
namespace Go.Proofs.YtjhlbeamfngebaaDoor
open Go.RowKit Go.BigFrame AG

/-- Worlds behind m operations of a statement that draws. -/
def RI (w0 : World) (R P : Nat) : Nat → World → Prop := fun m w => KeepB (fun b => b = R) w0 w ∧ RdUp w R (P + m * 10000)
theorem RI.way (w0 : World) (R P : Nat) : AG.Way (KeepB fun b => b = R) (RI w0 R P) := ⟨fun w => KeepB.refl _ w, fun _ _ _ h k => h.trans k, fun m _ h => ⟨h.1, h.2.more (by omega)⟩⟩
theorem RI.begin {w0 : World} {R P : Nat} (h : RdUp w0 R P) : RI w0 R P 0 w0 := ⟨KeepB.refl _ _, h.more (by omega)⟩
theorem RI.drew {w0 : World} {R P : Nat} (h : RdUp w0 R P) : RI w0 R P 0 w0.drew := ⟨⟨rfl, rfl, rfl, Nat.le_refl _, fun _ _ _ => rfl⟩, (h.later ((Below.refl _ _).drew)).more (by omega)⟩
theorem RI.fam {w0 : World} {R P : Nat} (h : RdUp w0 R P) (x : World) : KeepB (fun b => b = R) w0 (GK.FamI (GK.Upto (RI w0 R P) 200) w0 x) := by
  obtain ⟨_, _, h⟩ := GK.FamI.is (J := GK.Upto (RI w0 R P) 200) (w1 := w0) ⟨0, by omega, RI.begin h⟩ x
  exact h.1
theorem RI.cell {w0 : World} {R P b o : Nat} {v : Value} (hr : RdUp w0 R P) (h : w0.cell? ⟨b, o, none⟩ = some v) (hb : b ≠ R) (x : World) : (GK.FamI (GK.Upto (RI w0 R P) 200) w0 x).cell? ⟨b, o, none⟩ = some v := by
  rw [KeepB.cell_ (RI.fam hr x) (World.block_lt_of_cell? _ _ h) hb]
  exact h
theorem RI.alloc {w0 w : World} {R P m : Nat} (o : Obj) (h : RI w0 R P m w) : RI w0 R P (m + 1) (w.alloc o) := ⟨h.1.alloc o, (h.2.later ((Below.refl _ _).alloc (Nat.le_refl _) o)).more (by omega)⟩
theorem RI.call {w0 w w' : World} {R P P' m : Nat} (h : RI w0 R P m w) (hk : KeepB (fun b => b = R) w w') (hr : RdUp w' R P') (hP : P' ≤ P + m * 10000 + 10000) : KeepB (fun b => b = R) w w' ∧ RI w0 R P (m + 1) w' := ⟨hk, h.1.trans hk, hr.more (by omega)⟩
theorem RI.size {w0 w : World} {R P m : Nat} (h : RI w0 R P m w) : w0.heap.size ≤ w.heap.size := h.1.size

theorem num_blk (R P g : Nat) (xs : List Int) (w : World) (T : TypeId) (hk : 0 < xs.length) (hk2 : xs.length ≤ 1000) (hP : P < 1125899906842624) (hg : w.heap[g]? = some (.cells (xs.map (Value.int .i64)).toArray T (0, 0))) (hgR : g ≠ R) (hr : RdUp w R P) :
    Calls Tryd.prog 154 #[.pointer (some ⟨R, 0, none⟩), .slice (some ⟨g, 0, none⟩) xs.length xs.length] w (NumUp R P xs w) := by
  have hb : Blk w g T (xs.map (Value.int .i64)).toArray := hg
  refine (num_up R P g 0 xs.length xs.length xs _ rfl hk (by omega) hP hgR hb.lt (fun i h => ?_) hr).mono fun e w' ⟨x, h1, h2, h3, h4⟩ => ⟨x, h1, h2, h3, h4⟩
  rw [Nat.zero_add, hb.cell]
  simp [h]

theorem edCells_set : ∀ (es : List Ed) (k : Nat) (x : Ed), edCells (es.set k x) = (((edCells es).set (k * 3) (.int .i64 x.f)).set (k * 3 + 1) (.int .i64 x.l)).set (k * 3 + 2) (.int .i64 x.t)
  | [], k, x => rfl
  | e :: es, 0, x => rfl
  | e :: es, k + 1, x => by
    have := edCells_set es k x
    rw [show (k + 1) * 3 = k * 3 + 1 + 1 + 1 from by omega]
    simp only [List.set_cons_succ, edCells]
    rw [this]
theorem set_same {α : Type} {l : List α} {i : Nat} {x : α} (h : l[i]? = some x) : l.set i x = l := by
  apply List.ext_getElem?
  intro j
  rw [List.getElem?_set]
  split
  · rename_i e
    subst e
    split
    · exact h.symm
    · rename_i h'
      rw [List.getElem?_eq_none (by omega)] at h
      cases h
  · rfl

theorem edCells_set0 {es : List Ed} {k : Nat} (hk : k < es.length) (x : Int) : (edCells es).set (k * 3) (.int .i64 x) = edCells (es.set k ⟨x, (es[k]'hk).l, (es[k]'hk).t⟩) := by
  obtain ⟨h0, h1, h2⟩ := edCells_at es k hk
  rw [edCells_set]
  have g1 : ((edCells es).set (k * 3) (.int .i64 x))[k * 3 + 1]? = some (.int .i64 (es[k]'hk).l) := by rw [List.getElem?_set_ne (by omega)]; exact h1
  have g2 : ((edCells es).set (k * 3) (.int .i64 x))[k * 3 + 2]? = some (.int .i64 (es[k]'hk).t) := by rw [List.getElem?_set_ne (by omega)]; exact h2
  rw [set_same g1, set_same g2]
theorem edCells_set1 {es : List Ed} {k : Nat} (hk : k < es.length) (x : Int) : (edCells es).set (k * 3 + 1) (.int .i64 x) = edCells (es.set k ⟨(es[k]'hk).f, x, (es[k]'hk).t⟩) := by
  obtain ⟨h0, h1, h2⟩ := edCells_at es k hk
  rw [edCells_set]
  have g2 : ((edCells es).set (k * 3 + 1) (.int .i64 x))[k * 3 + 2]? = some (.int .i64 (es[k]'hk).t) := by rw [List.getElem?_set_ne (by omega)]; exact h2
  rw [set_same h0, set_same g2]
theorem edCells_set2 {es : List Ed} {k : Nat} (hk : k < es.length) (x : Int) : (edCells es).set (k * 3 + 2) (.int .i64 x) = edCells (es.set k ⟨(es[k]'hk).f, (es[k]'hk).l, x⟩) := by
  obtain ⟨h0, h1, h2⟩ := edCells_at es k hk
  rw [edCells_set]
  rw [set_same h0, set_same h1]

/-- A copy of a system that the call may write. -/
structure OutSt (w wr : World) (R P B gs : Nat) (al st : Int) (v : Value) (es : List Ed) (L : Nat) : Prop where
  blk : Blk wr gs 37 #[.int .i64 al, .int .i64 st, v]
  own : OwnEds wr B v es
  len : es.length ≤ L
  rd : RdUp wr R P
  keep : KeepB (fun b => b = R) w wr
  hB : w.heap.size ≤ B
  hgs : B ≤ gs
theorem OutSt.ne {w wr : World} {R P B gs : Nat} {al st : Int} {v : Value} {es : List Ed} {L : Nat} (h : OutSt w wr R P B gs al st v es L) : v.ownBlock ≠ some gs := fun e => own_ne h.own h.blk (by decide) gs e rfl
theorem OutSt.call {w wr w1 : World} {R P P' B gs : Nat} {al st : Int} {v : Value} {es : List Ed} {L : Nat} (h : OutSt w wr R P B gs al st v es L) (hk : KeepB (fun b => b = R) wr w1) (hr : RdUp w1 R P') (hR : R < w.heap.size) : OutSt w w1 R P' B gs al st v es L :=
  ⟨h.blk.keep hk (by have := h.hB; have := h.hgs; omega), own_keep h.own hk (fun g hg => by have := (h.own.lt g hg).1; have := h.hB; omega), h.len, hr, h.keep.trans hk, h.hB, h.hgs⟩
theorem OutSt.later {w wr w1 : World} {R P B gs : Nat} {al st : Int} {v : Value} {es : List Ed} {L : Nat} (h : OutSt w wr R P B gs al st v es L) (hb : Below wr.heap.size wr w1) (hR : R < w.heap.size) : OutSt w w1 R P B gs al st v es L := h.call (KeepB.of_below hb) (h.rd.later hb) hR
theorem OutSt.set0 {w wr : World} {R P B gs : Nat} {al st : Int} {v : Value} {es : List Ed} {L : Nat} (h : OutSt w wr R P B gs al st v es L) (hR : R < w.heap.size) (x : Int) : OutSt w (wr.setCell ⟨gs, 0, none⟩ (.int .i64 x)) R P B gs x st v es L := by
  have hk : KeepB (fun b => b = gs) wr (wr.setCell ⟨gs, 0, none⟩ (.int .i64 x)) := (KeepB.refl _ wr).setCell _ _ (by simp)
  have h1 := h.hB
  have h2 := h.hgs
  exact ⟨by simpa using h.blk.set_ 0 (.int .i64 x), ownsRow_setCell_other h.own h.ne _, h.len, h.rd.keep hk (by omega), h.keep.setCell _ _ (fun hlt => by simp at hlt; omega), h1, h2⟩
theorem OutSt.set1 {w wr : World} {R P B gs : Nat} {al st : Int} {v : Value} {es : List Ed} {L : Nat} (h : OutSt w wr R P B gs al st v es L) (hR : R < w.heap.size) (x : Int) : OutSt w (wr.setCell ⟨gs, 1, none⟩ (.int .i64 x)) R P B gs al x v es L := by
  have hk : KeepB (fun b => b = gs) wr (wr.setCell ⟨gs, 1, none⟩ (.int .i64 x)) := (KeepB.refl _ wr).setCell _ _ (by simp)
  have h1 := h.hB
  have h2 := h.hgs
  exact ⟨by simpa using h.blk.set_ 1 (.int .i64 x), ownsRow_setCell_other h.own h.ne _, h.len, h.rd.keep hk (by omega), h.keep.setCell _ _ (fun hlt => by simp at hlt; omega), h1, h2⟩
theorem OutSt.edit {w wr : World} {R P B gs g c : Nat} {al st : Int} {es : List Ed} {L : Nat} (h : OutSt w wr R P B gs al st (.slice (some ⟨g, 0, none⟩) es.length c) es L) (hR : R < w.heap.size) (k j : Nat) (y : Ed) (x : Int) (hk : k < es.length)
    (hj : (edCells es).set j (.int .i64 x) = edCells (es.set k y)) : OutSt w (wr.setCell ⟨g, j, none⟩ (.int .i64 x)) R P B gs al st (.slice (some ⟨g, 0, none⟩) es.length c) (es.set k y) L := by
  have hs := World.ownsRow.stored h.own j (.int .i64 x)
  have h1 := h.hB
  have h2 := h.hgs
  have hg := h.own.lt g rfl
  have hne : gs ≠ g := fun e => h.ne (by rw [e]; rfl)
  have hkk : KeepB (fun b => b = g) wr (wr.setCell ⟨g, j, none⟩ (.int .i64 x)) := (KeepB.refl _ wr).setCell _ _ (by simp)
  refine ⟨h.blk.keep hkk (by omega), ?_, by simpa using h.len, h.rd.keep hkk (by omega), h.keep.setCell _ _ (fun hlt => by simp at hlt; omega), h1, h2⟩
  unfold OwnEds
  rw [List.length_set, ← hj]
  exact hs.1
theorem OutSt.add {w wr w1 : World} {R P B gs : Nat} {al st : Int} {v v' : Value} {es : List Ed} {L : Nat} {x : Ed} (h : OutSt w wr R P B gs al st v es L) (hR : R < w.heap.size)
    (hown : w1.ownsRow B 77 3 v' (es.length + 1) (edCells es ++ [.int .i64 x.f, .int .i64 x.l, .int .i64 x.t])) (hg : wr.grownBy w1 v.ownBlock) (hat : v'.ownBlock = v.ownBlock ∨ v'.ownBlock = some wr.heap.size) :
    OutSt w (w1.setCell ⟨gs, 2, none⟩ v') R P B gs al st v' (es ++ [x]) (L + 1) := by
  have h1 := h.hB
  have h2 := h.hgs
  have hv : ∀ k, v.ownBlock = some k → B ≤ k ∧ k ≠ gs := fun k hk => ⟨(h.own.lt k hk).1, fun e => h.ne (by rw [hk, e])⟩
  have k1 : KeepB (fun b => v.ownBlock = some b) wr w1 := (KeepB.refl _ wr).grown hg (fun k hk _ => hk)
  have hb := h.blk.lt
  have hne' : v'.ownBlock ≠ some gs := fun e => by
    rcases hat with h3 | h3
    · exact h.ne (by rw [← h3, e])
    · rw [h3] at e; injection e with e; omega
  have k2 : KeepB (fun b => v.ownBlock = some b ∨ b = gs) wr (w1.setCell ⟨gs, 2, none⟩ v') := (k1.mono fun _ h => .inl h).setCell _ _ fun _ => .inr rfl
  refine ⟨?_, ?_, by have := h.len; simp; omega, h.rd.keep k2 ?_, (h.keep.grown hg (fun k hk hlt => by have := (hv k hk).1; omega)).setCell _ _ (fun hlt => by simp at hlt; omega), h1, h2⟩
  · have := (h.blk.keep k1 (fun hk => (hv _ hk).2 rfl)).set_ 2 v'
    simpa using this
  · have e : (es ++ [x]).length = es.length + 1 := by simp
    unfold OwnEds
    rw [e, edCells_append]
    exact ownsRow_setCell_other hown hne' _
  · rintro k (hk | rfl)
    · have := (hv k hk).1; omega
    · omega
theorem OutSt.fin {w wr : World} {R P B gs ρ L : Nat} {al st : Int} {A : Option Addr} {c : Nat} {es : List Ed} (h : OutSt w wr R P B gs al st (.slice A es.length c) es L) (hR : R < w.heap.size) (hρ : w.heap.size ≤ ρ) (hρB : ρ < B) (v1 v2 v3 : Value) :
    SyUp R P L w (.returned (.agg #[.int .i64 al, .int .i64 st, .slice A es.length c])) (((wr.setCell ⟨ρ, 0, none⟩ v1).setCell ⟨ρ, 1, none⟩ v2).setCell ⟨ρ, 2, none⟩ v3) := by
  obtain ⟨A', c', hv, h1, h2, h3, h4⟩ := h.own.read
  cases hv
  have hk : KeepB (fun b => b = ρ) wr (((wr.setCell ⟨ρ, 0, none⟩ v1).setCell ⟨ρ, 1, none⟩ v2).setCell ⟨ρ, 2, none⟩ v3) := (((KeepB.refl _ wr).setCell _ _ (by simp)).setCell _ _ (by simp)).setCell _ _ (by simp)
  have hne : ∀ b o, A = some ⟨b, o, none⟩ → 0 < es.length → b ≠ ρ := fun b o hA _ => by have := h4 b o hA; omega
  refine ⟨⟨al, st, es⟩, A, c, rfl, h1, h2, h.len, ?_, fun b o hA => by have := h4 b o hA; omega, h.rd.keep hk (by omega), ?_⟩
  · simpa [World.setCell] using ((h3.stored v1 hne).stored v2 hne).stored v3 hne
  · exact ((h.keep.setCell _ _ (by simp; omega)).setCell _ _ (by simp; omega)).setCell _ _ (by simp; omega)

theorem OutSt.fin' {w wr : World} {R P B gs ρ L n : Nat} {al st : Int} {A : Option Addr} {c : Nat} {es : List Ed} (hn : es.length = n) (h : OutSt w wr R P B gs al st (.slice A n c) es L) (hR : R < w.heap.size) (hρ : w.heap.size ≤ ρ) (hρB : ρ < B) (v1 v2 v3 : Value) :
    SyUp R P L w (.returned (.agg #[.int .i64 al, .int .i64 st, .slice A n c])) (((wr.setCell ⟨ρ, 0, none⟩ v1).setCell ⟨ρ, 1, none⟩ v2).setCell ⟨ρ, 2, none⟩ v3) := by
  subst hn
  exact h.fin hR hρ hρB v1 v2 v3
theorem OutSt.up {w w0 wr : World} {R P P' B gs : Nat} {al st : Int} {v : Value} {es : List Ed} {L L' : Nat} (h : OutSt w0 wr R P B gs al st v es L) (hb : Below w.heap.size w w0) (hP : P ≤ P') (hL : L ≤ L') : OutSt w wr R P' B gs al st v es L' :=
  ⟨h.blk, h.own, by have := h.len; omega, h.rd.more hP, (KeepB.of_below hb).trans h.keep, Nat.le_trans hb.size h.hB, h.hgs⟩
theorem EdsAt.news {w : World} {B : Nat} {A : Option Addr} {es : List Ed} (h : EdsAt w B A es) (hn : 0 < es.length) : ∃ a, A = some a ∧ ∀ (j : Nat) u, (edCells es)[j]? = some u → w.cell? (a.add j) = some u := by
  obtain ⟨b, o, hA, -, hE⟩ := h hn
  refine ⟨_, hA, fun j u hj => ?_⟩
  have hjl : j < es.length * 3 := by
    rw [← edCells_len]
    rcases Nat.lt_or_ge j (edCells es).length with h | h
    · exact h
    · rw [List.getElem?_eq_none h] at hj; cases hj
  have hadd : (⟨b, o, none⟩ : Addr).add j = ⟨b, o + j, none⟩ := by unfold Addr.add; split <;> simp_all
  rw [hadd]
  have hi : j / 3 < es.length := by omega
  obtain ⟨c0, c1, c2⟩ := hE (j / 3) hi
  obtain ⟨d0, d1, d2⟩ := edCells_at es (j / 3) hi
  rcases (by omega : j = j / 3 * 3 ∨ j = j / 3 * 3 + 1 ∨ j = j / 3 * 3 + 2) with e | e | e
  · rw [← e] at d0; rw [hj] at d0; rw [← c0] at d0; rw [show o + j = o + j / 3 * 3 from by omega]; exact d0.symm
  · rw [← e] at d1; rw [hj] at d1; rw [← c1] at d1; rw [show o + j = o + j / 3 * 3 + 1 from by omega]; exact d1.symm
  · rw [← e] at d2; rw [hj] at d2; rw [← c2] at d2; rw [show o + j = o + j / 3 * 3 + 2 from by omega]; exact d2.symm
theorem edCells_one : ∀ (es : List Ed) (u : Value), u ∈ edCells es → u.oneCell' = true
  | [], u, h => by cases h
  | e :: es, u, h => by
    simp only [edCells, List.mem_cons] at h
    rcases h with rfl | rfl | rfl | h
    · rfl
    · rfl
    · rfl
    · exact edCells_one es u h

set_option maxRecDepth 100000 in
set_option maxHeartbeats 8000000 in
theorem l2Wrong_up (R P L : Nat) (s : Sy) (A : Option Addr) (c : Nat) (w : World) (hP : P + 3000000 ≤ 1125899906842624) (hl : s.es.length ≤ c) (hc : c ≤ 9223372036854775807) (hL : s.es.length ≤ L) (hL2 : L ≤ 100000)
    (hs : EdsAt w w.heap.size A s.es) (hr : RdUp w R P) :
    Calls Tryd.prog 155 #[.pointer (some ⟨R, 0, none⟩), s.val A c] w (SyUp R (P + 400000) (L + 1) w) := by
  obtain ⟨i0, hi, hz0, hz1, hz2⟩ := info_parts infoEd
  have hR := hr.lt
  unfold Sy.val
  have hres := (Blk.new (w.alloc (.cells #[.int .i64 s.al, .int .i64 s.st, .slice A s.es.length c] 37)) 37 #[.int .i64 0, .int .i64 0, .slice none 0 0])
  have hpar := (Blk.new w 37 #[.int .i64 s.al, .int .i64 s.st, .slice A s.es.length c]).alloc (.cells #[.int .i64 0, .int .i64 0, .slice none 0 0] 37)
  have hb0 : Below w.heap.size w ((w.alloc (.cells #[.int .i64 s.al, .int .i64 s.st, .slice A s.es.length c] 37)).alloc (.cells #[.int .i64 0, .int .i64 0, .slice none 0 0] 37)) := ((Below.refl _ _).alloc (Nat.le_refl _) _).alloc (by simp) _
  have hsz0 : ((w.alloc (.cells #[.int .i64 s.al, .int .i64 s.st, .slice A s.es.length c] 37)).alloc (.cells #[.int .i64 0, .int .i64 0, .slice none 0 0] 37)).heap.size = w.heap.size + 2 := by simp
  simp only [World.size_alloc] at hres
  generalize hw0 : (w.alloc (.cells #[.int .i64 s.al, .int .i64 s.st, .slice A s.es.length c] 37)).alloc (.cells #[.int .i64 0, .int .i64 0, .slice none 0 0] 37) = w0 at hres hb0 hsz0 hpar
  have p0 := hpar.cell 0
  have p1 := hpar.cell 1
  have p2 := hpar.cell 2
  simp only [List.getElem?_toArray, List.getElem?_cons_zero, List.getElem?_cons_succ] at p0 p1 p2
  have q0 := GK.BI.cell p0
  have q1 := GK.BI.cell p1
  have q2 := GK.BI.cell p2
  have hr0 := hid (hr.later hb0)
  have hs0 := hid (hs.later hb0)
  replace hr := hid hr
  replace hs := hid hs
  replace hres := hid hres
  replace hsz0 := hid hsz0
  clear p0 p1 p2 hpar
  go_enter Tryd.func155, Tryd.ntmps155
  go_wp2_with fail
  refine GK.wp_region 10 [10] 200 (KeepB fun _ => False) (GK.BI w0) (fun _ _ _ => True) (by kernel_rfl) (by kernel_rfl) (GK.BI.way w0) (by decide) (Below.refl _ _).drew ?_
  simp only [List.take_succ_cons, List.take_zero]
  (repeat (refine GK.grow_quiet w0 (by rfl) (by rfl) ?_; intro K hK; go_big_quiet_op; go_big_quiet_on))
  refine GK.grow_new (K := fun _ => False) (by rfl) _ (fun b => .slice (some ⟨b, 0, none⟩) 0 0) 77 #[] (fun _ => by go_simp) rfl (fun _ _ o h => GK.BI.alloc o h) (fun _ _ h => GK.BI.size h) (fun _ h => h.elim) (fun b hb => ?_)
  simp only [Act.put, List.setIfInBounds_toArray, List.set_cons_zero, List.set_cons_succ]
  (repeat (refine GK.grow_quiet w0 (by rfl) (by rfl) ?_; intro K hK; go_big_quiet_op; go_big_quiet_on))
  refine GK.grow_copy (by rfl) _ _ 35 (by rfl) 77 i0 (.agg #[.int .i64 0, .int .i64 0, .int .i64 0]) 3 24 Tryd.underlying35 hi hz0 hz1 hz2 rfl b (by rfl) (fun w hf => ?_) A s.es.length c (edCells s.es) (by rfl) (edCells_len _) (fun hn => EdsAt.news hs0.out hn) (edCells_one _) (by unfold maxLen; omega) (by omega) fun v hv => ?_
  · obtain ⟨b', e1, e2, e3⟩ := hf _ List.mem_cons_self (by kernel_rfl)
    cases e1
    exact ⟨e2, e3⟩
  obtain ⟨Av, cv, hve, -, -⟩ : ∃ Av cv, v = .slice Av s.es.length cv ∧ s.es.length ≤ cv ∧ cv ≤ 9223372036854775807 := by obtain ⟨_, _, hv⟩ := hv; exact own_slice hv
  subst hve
  clear hv
  simp only [Act.put, List.setIfInBounds_toArray, List.set_cons_zero, List.set_cons_succ]
  (repeat (refine GK.grow_quiet w0 (by rfl) (by rfl) ?_; intro K hK; go_big_quiet_op; go_big_quiet_on))
  refine GK.grow_new (K := fun _ => False) (by rfl) _ (fun b => .pointer (some ⟨b, 0, none⟩)) 37 #[.int .i64 0, .int .i64 0, .slice none 0 0] (fun _ => by go_simp) rfl (fun _ _ o h => GK.BI.alloc o h) (fun _ _ h => GK.BI.size h) (fun _ h => h.elim) (fun gs hgs => ?_)
  simp only [Act.put, List.setIfInBounds_toArray, List.set_cons_zero, List.set_cons_succ]
  refine GK.grow_nil ?_
  intro w1 hw1 hf
  simp only [List.filterMap_cons, List.filterMap_nil, List.getElem?_cons_zero, List.getElem?_cons_succ]
  obtain ⟨gs', e1, -, hblk⟩ := hf _ List.mem_cons_self
  cases e1
  have hown := hf _ (List.mem_cons_of_mem _ List.mem_cons_self)
  replace hw1 : Below w0.heap.size w0 w1 := hw1
  clear hf q0 q1 q2 hw0
  have hblk' : Blk w1 gs 37 #[.int .i64 0, .int .i64 0, .slice none 0 0] := hblk
  have hgl := hblk'.lt
  have c0 := hblk'.cell 0
  have c1 := hblk'.cell 1
  have c2 := hblk'.cell 2
  have f0 := hblk'.frozen 0
  have f1 := hblk'.frozen 1
  have f2 := hblk'.frozen 2
  simp only [List.getElem?_toArray, List.getElem?_cons_zero, List.getElem?_cons_succ] at c0 c1 c2
  have hneO : (Value.slice Av s.es.length cv).ownBlock ≠ some gs := fun e => own_ne hown hblk' (by decide) gs e rfl
  have hO : OutSt w0 (((w1.setCell ⟨gs, 0, none⟩ (.int .i64 s.al)).setCell ⟨gs, 1, none⟩ (.int .i64 s.st)).setCell ⟨gs, 2, none⟩ (.slice Av s.es.length cv)) R P w0.heap.size gs s.al s.st (.slice Av s.es.length cv) s.es L := by
    have hsz := hsz0.out
    have hkk : KeepB (fun b => b = gs) w1 (((w1.setCell ⟨gs, 0, none⟩ (.int .i64 s.al)).setCell ⟨gs, 1, none⟩ (.int .i64 s.st)).setCell ⟨gs, 2, none⟩ (.slice Av s.es.length cv)) := (((KeepB.refl _ w1).setCell _ _ (by simp)).setCell _ _ (by simp)).setCell _ _ (by simp)
    refine ⟨by simpa using ((hblk'.set_ 0 (.int .i64 s.al)).set_ 1 (.int .i64 s.st)).set_ 2 (.slice Av s.es.length cv), ownsRow_setCell_other (ownsRow_setCell_other (ownsRow_setCell_other hown hneO _) hneO _) hneO _, hL, (hr0.out.later hw1).keep hkk (by omega), ?_, Nat.le_refl _, hgs⟩
    exact (((KeepB.of_below hw1).setCell _ _ (by simp; omega)).setCell _ _ (by simp; omega)).setCell _ _ (by simp; omega)
  have hO' : ∃ w2, ((w1.setCell ⟨gs, 0, none⟩ (.int .i64 s.al)).setCell ⟨gs, 1, none⟩ (.int .i64 s.st)).setCell ⟨gs, 2, none⟩ (.slice Av s.es.length cv) = w2 := ⟨_, rfl⟩
  obtain ⟨w2, hw2⟩ := hO'
  rw [hw2] at hO
  replace hO := hid hO
  have hcopy := hid hblk'
  clear hblk hblk' hown hneO c0 c1 c2 f0 f1 f2
  have c0 := hO.out.blk.cell 0
  have c1 := hO.out.blk.cell 1
  have c2 := hO.out.blk.cell 2
  simp only [List.getElem?_toArray, List.getElem?_cons_zero, List.getElem?_cons_succ] at c0 c1 c2
  have hf0 := hcopy.out.frozen 0
  have hf1 := hcopy.out.frozen 1
  have hf2 := hcopy.out.frozen 2
  have hm0 := hcopy.out.cell 0
  have hm1 := hcopy.out.cell 1
  have hm2 := hcopy.out.cell 2
  simp only [List.getElem?_toArray, List.getElem?_cons_zero, List.getElem?_cons_succ] at hm0 hm1 hm2
  go_wp2_with fail
  refine (pick_up R P s.es.length w2 (by omega) (by omega) hO.out.rd).mono ?_
  rintro e w3 ⟨k, rfl, hk0, hk1, hr3, hk3⟩
  have hR0 : Hid (R < w0.heap.size) := hid (by have := hsz0.out; omega)
  have hO3 := hid (hO.out.call hk3 hr3 hR0.out)
  clear hr3 hk3 hw2 hO c0 c1 c2 hf0 hf1 hf2 hm0 hm1 hm2 hcopy
  go_wp2_with fail
  refine (pick_up R (P + 1) 30 w3 (by omega) (by omega) hO3.out.rd).mono ?_
  rintro e w4 ⟨j, rfl, hj0, hj1, hr4, hk4⟩
  have hO4 := hid (hO3.out.call hk4 hr4 hR0.out)
  clear hr4 hk4 hO3 hj0 hj1
  obtain ⟨kn, rfl⟩ := Int.eq_ofNat_of_zero_le hk0
  have hkn : 0 < s.es.length → kn < s.es.length := fun h => by omega
  replace hkn := hid hkn
  clear hk0 hk1
  have c0 := hO4.out.blk.cell 0
  have c1 := hO4.out.blk.cell 1
  have c2 := hO4.out.blk.cell 2
  have g0 := hO4.out.blk.frozen 0
  have g1 := hO4.out.blk.frozen 1
  have g2 := hO4.out.blk.frozen 2
  have hgl4 := hO4.out.blk.lt
  simp only [List.getElem?_toArray, List.getElem?_cons_zero, List.getElem?_cons_succ] at c0 c1 c2
  by_cases hj0 : j = 0
  · subst hj0
    go_wp2_with fail
    refine (num_lit R (P + 2) [64, (-1), 1, 63] w4 _ (by decide) (by decide) (by omega) hO4.out.rd).mono ?_
    rintro e w5 ⟨x, hx, rfl, hr5, hk5⟩
    clear hx
    have hO5 := hid (hO4.out.call hk5 hr5 hR0.out)
    clear hr5 hk5 c0 c1 c2 g0 g1 g2
    have c0 := hO5.out.blk.cell 0
    have g0 := hO5.out.blk.frozen 0
    simp only [List.getElem?_toArray, List.getElem?_cons_zero, List.getElem?_cons_succ] at c0
    obtain ⟨w6, hw6⟩ : ∃ w6, w5.setCell ⟨gs, 0, none⟩ (.int .i64 x) = w6 := ⟨_, rfl⟩
    have hX := hid (hO5.out.set0 hR0.out x)
    rw [hw6] at hX
    have hgl5 := hO5.out.blk.lt
    have k0 := hX.out.blk.cell 0
    have k1 := hX.out.blk.cell 1
    have k2 := hX.out.blk.cell 2
    have hbl := hid (hres.out.keep hX.out.keep (by have := hsz0.out; omega))
    have d0 := hbl.out.cell 0
    have d1 := hbl.out.cell 1
    have d2 := hbl.out.cell 2
    have y0 := hbl.out.frozen 0
    have y1 := hbl.out.frozen 1
    have y2 := hbl.out.frozen 2
    have hlt := hbl.out.lt
    simp only [List.getElem?_toArray, List.getElem?_cons_zero, List.getElem?_cons_succ] at d0 d1 d2 k0 k1 k2
    have hfin := hid ((hX.out.up hb0 (P' := P + 400000) (L' := L + 1) (by omega) (by omega)).fin hR (ρ := w.heap.size + 1) (by omega) (by have := hsz0.out; omega) (.int .i64 x) (.int .i64 s.st) (.slice Av s.es.length cv))
    go_wp2
    refine bodyPost_ret (v := .agg #[.int .i64 x, .int .i64 s.st, .slice Av s.es.length cv]) (by simp [results, Tryd.results155, go_sem, d0, d1, d2]) rfl ?_
    exact hfin.out
  · have hjb0 : ((j : Int) == 0) = false := by simpa using hj0
    replace hj0 := hid hj0
    by_cases hj1 : j = 1
    · subst hj1
      go_wp2_with fail
      refine (num_lit R (P + 2) [0, 17, (-1), 16, 1] w4 _ (by decide) (by decide) (by omega) hO4.out.rd).mono ?_
      rintro e w5 ⟨x, hx, rfl, hr5, hk5⟩
      clear hx
      have hO5 := hid (hO4.out.call hk5 hr5 hR0.out)
      clear hr5 hk5 c0 c1 c2 g0 g1 g2
      have c0 := hO5.out.blk.cell 1
      have g0 := hO5.out.blk.frozen 1
      simp only [List.getElem?_toArray, List.getElem?_cons_zero, List.getElem?_cons_succ] at c0
      obtain ⟨w6, hw6⟩ : ∃ w6, w5.setCell ⟨gs, 1, none⟩ (.int .i64 x) = w6 := ⟨_, rfl⟩
      have hX := hid (hO5.out.set1 hR0.out x)
      rw [hw6] at hX
      have hgl5 := hO5.out.blk.lt
      have k0 := hX.out.blk.cell 0
      have k1 := hX.out.blk.cell 1
      have k2 := hX.out.blk.cell 2
      have hbl := hid (hres.out.keep hX.out.keep (by have := hsz0.out; omega))
      have d0 := hbl.out.cell 0
      have d1 := hbl.out.cell 1
      have d2 := hbl.out.cell 2
      have y0 := hbl.out.frozen 0
      have y1 := hbl.out.frozen 1
      have y2 := hbl.out.frozen 2
      have hlt := hbl.out.lt
      simp only [List.getElem?_toArray, List.getElem?_cons_zero, List.getElem?_cons_succ] at d0 d1 d2 k0 k1 k2
      have hfin := hid ((hX.out.up hb0 (P' := P + 400000) (L' := L + 1) (by omega) (by omega)).fin hR (ρ := w.heap.size + 1) (by omega) (by have := hsz0.out; omega) (.int .i64 s.al) (.int .i64 x) (.slice Av s.es.length cv))
      go_wp2
      refine bodyPost_ret (v := .agg #[.int .i64 s.al, .int .i64 x, .slice Av s.es.length cv]) (by simp [results, Tryd.results155, go_sem, d0, d1, d2]) rfl ?_
      exact hfin.out
    · have hjb1 : ((j : Int) == 1) = false := by simpa using hj1
      replace hj1 := hid hj1
      by_cases hj2 : j = 2
      · subst hj2
        by_cases hn : s.es.length = 0
        · have hn2 : decide (0 < s.es.length) = false := decide_eq_false (by omega)
          have hX := hO4
          replace hn := hid hn
          have k0 := hX.out.blk.cell 0
          have k1 := hX.out.blk.cell 1
          have k2 := hX.out.blk.cell 2
          have hbl := hid (hres.out.keep hX.out.keep (by have := hsz0.out; omega))
          have d0 := hbl.out.cell 0
          have d1 := hbl.out.cell 1
          have d2 := hbl.out.cell 2
          have y0 := hbl.out.frozen 0
          have y1 := hbl.out.frozen 1
          have y2 := hbl.out.frozen 2
          have hlt := hbl.out.lt
          simp only [List.getElem?_toArray, List.getElem?_cons_zero, List.getElem?_cons_succ] at d0 d1 d2 k0 k1 k2
          have hfin := hid ((hX.out.up hb0 (P' := P + 400000) (L' := L + 1) (by omega) (by omega)).fin hR (ρ := w.heap.size + 1) (by omega) (by have := hsz0.out; omega) (.int .i64 s.al) (.int .i64 s.st) (.slice Av s.es.length cv))
          go_wp2
          refine bodyPost_ret (v := .agg #[.int .i64 s.al, .int .i64 s.st, .slice Av s.es.length cv]) (by simp [results, Tryd.results155, go_sem, d0, d1, d2]) rfl ?_
          exact hfin.out
        · have hkl := hkn.out (by omega)
          obtain ⟨g, cap, hve, hg1, hg2, -, -, -⟩ := own_shape hO4.out.own (by omega)
          cases hve
          have hn2 : (0 : Int) < (s.es.length : Int) := by omega
          have i1 : (0 : Int) ≤ (kn : Int) ∧ (kn : Int) < (s.es.length : Int) := by omega
          have hgsR : gs ≠ R := by have := hO4.out.hgs; have := hR0.out; omega
          have q2 := RI.cell hO4.out.rd c2 hgsR
          replace hn := hid hn
          clear c0 c1 g0 g1 g2
          go_wp2_with fail
          clear c2
          refine GK.wp_region 8 [8] 200 (KeepB fun b => b = R) (RI w4 R (P + 2)) (fun _ u _ => ∃ x : Int, u = .int .i64 x) (by kernel_rfl) (by kernel_rfl) (RI.way w4 R (P + 2)) (by decide) (RI.drew hO4.out.rd) ?_
          simp only [List.take_succ_cons, List.take_zero]
          (repeat (refine GK.grow_quiet w4 (by rfl) (by rfl) ?_; intro K hK; go_big_quiet_op; go_big_quiet_on))
          refine GK.grow_new (K := fun b => b = R) (by rfl) w4.heap.size (fun b => .slice (some ⟨b, 0, none⟩) 4 4) 3 #[.int .i64 (-1), .int .i64 16, .int .i64 0, .int .i64 2] (fun _ => by go_simp) rfl (fun _ _ o h => RI.alloc o h) (fun _ _ h => RI.size h) (fun k hk => by have := hO4.out.rd.lt; omega) (fun b hb => ?_)
          simp only [Act.put, List.setIfInBounds_toArray, List.set_cons_zero, List.set_cons_succ]
          (repeat (refine GK.grow_quiet w4 (by rfl) (by rfl) ?_; intro K hK; go_big_quiet_op; go_big_quiet_on))
          refine GK.grow_call (by rfl) (fun u w w' _ h => h) (fun m wq hm hbq hf => ?_) ?_
          · obtain ⟨b', z1, z2, z3⟩ := hf _ List.mem_cons_self (by kernel_rfl)
            cases z1
            have hlt4 := hO4.out.rd.lt
            go_simp
            exact ⟨rfl, (num_blk R (P + 2 + m * 10000) b [(-1), 16, 0, 2] wq _ (by decide) (by decide) (by omega) z3 (by omega) hbq.2).mono fun e w' ⟨x, _, h2, h3, h4⟩ => ⟨_, h2, RI.call hbq h4 h3 (by omega), x, rfl⟩⟩
          rintro u ⟨_, _, _, x, rfl⟩
          simp only [Act.put, List.setIfInBounds_toArray, List.set_cons_zero, List.set_cons_succ]
          (repeat (refine GK.grow_quiet w4 (by rfl) (by rfl) ?_; intro K hK; go_big_quiet_op; go_big_quiet_on))
          refine GK.grow_nil ?_
          intro w5 hw5 _
          simp only [List.filterMap_cons, List.filterMap_nil, List.getElem?_cons_zero, List.getElem?_cons_succ]
          have hO5 := hid (hO4.out.call hw5.1 hw5.2 hR0.out)
          clear q2
          have hcg := World.ownsRow.cellAt hO5.out.own (kn * 3) (by omega)
          rw [(edCells_at s.es kn hkl).1] at hcg
          have hfg := World.ownsRow.frozenAt hO5.out.own (kn * 3)
          obtain ⟨w6, hw6⟩ : ∃ w6, w5.setCell ⟨g, kn * 3, none⟩ (.int .i64 x) = w6 := ⟨_, rfl⟩
          have hX := hid (hO5.out.edit hR0.out kn (kn * 3) ⟨x, (s.es[kn]'hkl).l, (s.es[kn]'hkl).t⟩ x hkl (edCells_set0 hkl x))
          rw [hw6] at hX
          have hgl5 := hO5.out.blk.lt
          have hsl : (s.es.set kn ⟨x, (s.es[kn]'hkl).l, (s.es[kn]'hkl).t⟩).length = s.es.length := List.length_set
          have k0 := hX.out.blk.cell 0
          have k1 := hX.out.blk.cell 1
          have k2 := hX.out.blk.cell 2
          have hbl := hid (hres.out.keep hX.out.keep (by have := hsz0.out; omega))
          have d0 := hbl.out.cell 0
          have d1 := hbl.out.cell 1
          have d2 := hbl.out.cell 2
          have y0 := hbl.out.frozen 0
          have y1 := hbl.out.frozen 1
          have y2 := hbl.out.frozen 2
          have hlt := hbl.out.lt
          simp only [List.getElem?_toArray, List.getElem?_cons_zero, List.getElem?_cons_succ] at d0 d1 d2 k0 k1 k2
          have hfin := hid (OutSt.fin' hsl (hX.out.up hb0 (P' := P + 400000) (L' := L + 1) (by omega) (by omega)) hR (ρ := w.heap.size + 1) (by omega) (by have := hsz0.out; omega) (.int .i64 s.al) (.int .i64 s.st) (.slice (some ⟨g, 0, none⟩) s.es.length cv))
          go_wp2
          refine bodyPost_ret (v := .agg #[.int .i64 s.al, .int .i64 s.st, .slice (some ⟨g, 0, none⟩) s.es.length cv]) (by simp [results, Tryd.results155, go_sem, d0, d1, d2]) rfl ?_
          exact hfin.out
      · have hjb2 : ((j : Int) == 2) = false := by simpa using hj2
        replace hj2 := hid hj2
        by_cases hj3 : j = 3
        · subst hj3
          by_cases hn : s.es.length = 0
          · have hn2 : decide (0 < s.es.length) = false := decide_eq_false (by omega)
            have hX := hO4
            replace hn := hid hn
            have k0 := hX.out.blk.cell 0
            have k1 := hX.out.blk.cell 1
            have k2 := hX.out.blk.cell 2
            have hbl := hid (hres.out.keep hX.out.keep (by have := hsz0.out; omega))
            have d0 := hbl.out.cell 0
            have d1 := hbl.out.cell 1
            have d2 := hbl.out.cell 2
            have y0 := hbl.out.frozen 0
            have y1 := hbl.out.frozen 1
            have y2 := hbl.out.frozen 2
            have hlt := hbl.out.lt
            simp only [List.getElem?_toArray, List.getElem?_cons_zero, List.getElem?_cons_succ] at d0 d1 d2 k0 k1 k2
            have hfin := hid ((hX.out.up hb0 (P' := P + 400000) (L' := L + 1) (by omega) (by omega)).fin hR (ρ := w.heap.size + 1) (by omega) (by have := hsz0.out; omega) (.int .i64 s.al) (.int .i64 s.st) (.slice Av s.es.length cv))
            go_wp2
            refine bodyPost_ret (v := .agg #[.int .i64 s.al, .int .i64 s.st, .slice Av s.es.length cv]) (by simp [results, Tryd.results155, go_sem, d0, d1, d2]) rfl ?_
            exact hfin.out
          · have hkl := hkn.out (by omega)
            obtain ⟨g, cap, hve, hg1, hg2, -, -, -⟩ := own_shape hO4.out.own (by omega)
            cases hve
            have hn2 : (0 : Int) < (s.es.length : Int) := by omega
            have i1 : (0 : Int) ≤ (kn : Int) ∧ (kn : Int) < (s.es.length : Int) := by omega
            have hgsR : gs ≠ R := by have := hO4.out.hgs; have := hR0.out; omega
            have q2 := RI.cell hO4.out.rd c2 hgsR
            replace hn := hid hn
            clear c0 c1 g0 g1 g2
            go_wp2_with fail
            clear c2
            refine GK.wp_region 8 [8] 200 (KeepB fun b => b = R) (RI w4 R (P + 2)) (fun _ u _ => ∃ x : Int, u = .int .i64 x) (by kernel_rfl) (by kernel_rfl) (RI.way w4 R (P + 2)) (by decide) (RI.drew hO4.out.rd) ?_
            simp only [List.take_succ_cons, List.take_zero]
            (repeat (refine GK.grow_quiet w4 (by rfl) (by rfl) ?_; intro K hK; go_big_quiet_op; go_big_quiet_on))
            refine GK.grow_new (K := fun b => b = R) (by rfl) w4.heap.size (fun b => .slice (some ⟨b, 0, none⟩) 4 4) 3 #[.int .i64 (-1), .int .i64 16, .int .i64 0, .int .i64 3] (fun _ => by go_simp) rfl (fun _ _ o h => RI.alloc o h) (fun _ _ h => RI.size h) (fun k hk => by have := hO4.out.rd.lt; omega) (fun b hb => ?_)
            simp only [Act.put, List.setIfInBounds_toArray, List.set_cons_zero, List.set_cons_succ]
            (repeat (refine GK.grow_quiet w4 (by rfl) (by rfl) ?_; intro K hK; go_big_quiet_op; go_big_quiet_on))
            refine GK.grow_call (by rfl) (fun u w w' _ h => h) (fun m wq hm hbq hf => ?_) ?_
            · obtain ⟨b', z1, z2, z3⟩ := hf _ List.mem_cons_self (by kernel_rfl)
              cases z1
              have hlt4 := hO4.out.rd.lt
              go_simp
              exact ⟨rfl, (num_blk R (P + 2 + m * 10000) b [(-1), 16, 0, 3] wq _ (by decide) (by decide) (by omega) z3 (by omega) hbq.2).mono fun e w' ⟨x, _, h2, h3, h4⟩ => ⟨_, h2, RI.call hbq h4 h3 (by omega), x, rfl⟩⟩
            rintro u ⟨_, _, _, x, rfl⟩
            simp only [Act.put, List.setIfInBounds_toArray, List.set_cons_zero, List.set_cons_succ]
            (repeat (refine GK.grow_quiet w4 (by rfl) (by rfl) ?_; intro K hK; go_big_quiet_op; go_big_quiet_on))
            refine GK.grow_nil ?_
            intro w5 hw5 _
            simp only [List.filterMap_cons, List.filterMap_nil, List.getElem?_cons_zero, List.getElem?_cons_succ]
            have hO5 := hid (hO4.out.call hw5.1 hw5.2 hR0.out)
            clear q2
            have hcg := World.ownsRow.cellAt hO5.out.own (kn * 3 + 2) (by omega)
            rw [(edCells_at s.es kn hkl).2.2] at hcg
            have hfg := World.ownsRow.frozenAt hO5.out.own (kn * 3 + 2)
            obtain ⟨w6, hw6⟩ : ∃ w6, w5.setCell ⟨g, kn * 3 + 2, none⟩ (.int .i64 x) = w6 := ⟨_, rfl⟩
            have hX := hid (hO5.out.edit hR0.out kn (kn * 3 + 2) ⟨(s.es[kn]'hkl).f, (s.es[kn]'hkl).l, x⟩ x hkl (edCells_set2 hkl x))
            rw [hw6] at hX
            have hgl5 := hO5.out.blk.lt
            have hsl : (s.es.set kn ⟨(s.es[kn]'hkl).f, (s.es[kn]'hkl).l, x⟩).length = s.es.length := List.length_set
            have k0 := hX.out.blk.cell 0
            have k1 := hX.out.blk.cell 1
            have k2 := hX.out.blk.cell 2
            have hbl := hid (hres.out.keep hX.out.keep (by have := hsz0.out; omega))
            have d0 := hbl.out.cell 0
            have d1 := hbl.out.cell 1
            have d2 := hbl.out.cell 2
            have y0 := hbl.out.frozen 0
            have y1 := hbl.out.frozen 1
            have y2 := hbl.out.frozen 2
            have hlt := hbl.out.lt
            simp only [List.getElem?_toArray, List.getElem?_cons_zero, List.getElem?_cons_succ] at d0 d1 d2 k0 k1 k2
            have hfin := hid (OutSt.fin' hsl (hX.out.up hb0 (P' := P + 400000) (L' := L + 1) (by omega) (by omega)) hR (ρ := w.heap.size + 1) (by omega) (by have := hsz0.out; omega) (.int .i64 s.al) (.int .i64 s.st) (.slice (some ⟨g, 0, none⟩) s.es.length cv))
            go_wp2
            refine bodyPost_ret (v := .agg #[.int .i64 s.al, .int .i64 s.st, .slice (some ⟨g, 0, none⟩) s.es.length cv]) (by simp [results, Tryd.results155, go_sem, d0, d1, d2]) rfl ?_
            exact hfin.out
        · have hjb3 : ((j : Int) == 3) = false := by simpa using hj3
          replace hj3 := hid hj3
          by_cases hj4 : j = 4
          · subst hj4
            by_cases hn : s.es.length = 0
            · have hn2 : decide (0 < s.es.length) = false := decide_eq_false (by omega)
              have hX := hO4
              replace hn := hid hn
              have k0 := hX.out.blk.cell 0
              have k1 := hX.out.blk.cell 1
              have k2 := hX.out.blk.cell 2
              have hbl := hid (hres.out.keep hX.out.keep (by have := hsz0.out; omega))
              have d0 := hbl.out.cell 0
              have d1 := hbl.out.cell 1
              have d2 := hbl.out.cell 2
              have y0 := hbl.out.frozen 0
              have y1 := hbl.out.frozen 1
              have y2 := hbl.out.frozen 2
              have hlt := hbl.out.lt
              simp only [List.getElem?_toArray, List.getElem?_cons_zero, List.getElem?_cons_succ] at d0 d1 d2 k0 k1 k2
              have hfin := hid ((hX.out.up hb0 (P' := P + 400000) (L' := L + 1) (by omega) (by omega)).fin hR (ρ := w.heap.size + 1) (by omega) (by have := hsz0.out; omega) (.int .i64 s.al) (.int .i64 s.st) (.slice Av s.es.length cv))
              go_wp2
              refine bodyPost_ret (v := .agg #[.int .i64 s.al, .int .i64 s.st, .slice Av s.es.length cv]) (by simp [results, Tryd.results155, go_sem, d0, d1, d2]) rfl ?_
              exact hfin.out
            · have hkl := hkn.out (by omega)
              obtain ⟨g, cap, hve, hg1, hg2, -, -, -⟩ := own_shape hO4.out.own (by omega)
              cases hve
              have hn2 : (0 : Int) < (s.es.length : Int) := by omega
              have i1 : (0 : Int) ≤ (kn : Int) ∧ (kn : Int) < (s.es.length : Int) := by omega
              have hgsR : gs ≠ R := by have := hO4.out.hgs; have := hR0.out; omega
              have q2 := RI.cell hO4.out.rd c2 hgsR
              replace hn := hid hn
              clear c0 c1 g0 g1 g2
              go_wp2_with fail
              clear c2
              refine GK.wp_region 8 [8] 200 (KeepB fun b => b = R) (RI w4 R (P + 2)) (fun _ u _ => ∃ x : Int, u = .int .i64 x) (by kernel_rfl) (by kernel_rfl) (RI.way w4 R (P + 2)) (by decide) (RI.drew hO4.out.rd) ?_
              simp only [List.take_succ_cons, List.take_zero]
              (repeat (refine GK.grow_quiet w4 (by rfl) (by rfl) ?_; intro K hK; go_big_quiet_op; go_big_quiet_on))
              refine GK.grow_new (K := fun b => b = R) (by rfl) w4.heap.size (fun b => .slice (some ⟨b, 0, none⟩) 5 5) 3 #[.int .i64 (-1), .int .i64 6, .int .i64 70, .int .i64 5, .int .i64 0] (fun _ => by go_simp) rfl (fun _ _ o h => RI.alloc o h) (fun _ _ h => RI.size h) (fun k hk => by have := hO4.out.rd.lt; omega) (fun b hb => ?_)
              simp only [Act.put, List.setIfInBounds_toArray, List.set_cons_zero, List.set_cons_succ]
              (repeat (refine GK.grow_quiet w4 (by rfl) (by rfl) ?_; intro K hK; go_big_quiet_op; go_big_quiet_on))
              refine GK.grow_call (by rfl) (fun u w w' _ h => h) (fun m wq hm hbq hf => ?_) ?_
              · obtain ⟨b', z1, z2, z3⟩ := hf _ List.mem_cons_self (by kernel_rfl)
                cases z1
                have hlt4 := hO4.out.rd.lt
                go_simp
                exact ⟨rfl, (num_blk R (P + 2 + m * 10000) b [(-1), 6, 70, 5, 0] wq _ (by decide) (by decide) (by omega) z3 (by omega) hbq.2).mono fun e w' ⟨x, _, h2, h3, h4⟩ => ⟨_, h2, RI.call hbq h4 h3 (by omega), x, rfl⟩⟩
              rintro u ⟨_, _, _, x, rfl⟩
              simp only [Act.put, List.setIfInBounds_toArray, List.set_cons_zero, List.set_cons_succ]
              (repeat (refine GK.grow_quiet w4 (by rfl) (by rfl) ?_; intro K hK; go_big_quiet_op; go_big_quiet_on))
              refine GK.grow_nil ?_
              intro w5 hw5 _
              simp only [List.filterMap_cons, List.filterMap_nil, List.getElem?_cons_zero, List.getElem?_cons_succ]
              have hO5 := hid (hO4.out.call hw5.1 hw5.2 hR0.out)
              clear q2
              have hcg := World.ownsRow.cellAt hO5.out.own (kn * 3 + 1) (by omega)
              rw [(edCells_at s.es kn hkl).2.1] at hcg
              have hfg := World.ownsRow.frozenAt hO5.out.own (kn * 3 + 1)
              obtain ⟨w6, hw6⟩ : ∃ w6, w5.setCell ⟨g, kn * 3 + 1, none⟩ (.int .i64 x) = w6 := ⟨_, rfl⟩
              have hX := hid (hO5.out.edit hR0.out kn (kn * 3 + 1) ⟨(s.es[kn]'hkl).f, x, (s.es[kn]'hkl).t⟩ x hkl (edCells_set1 hkl x))
              rw [hw6] at hX
              have hgl5 := hO5.out.blk.lt
              have hsl : (s.es.set kn ⟨(s.es[kn]'hkl).f, x, (s.es[kn]'hkl).t⟩).length = s.es.length := List.length_set
              have k0 := hX.out.blk.cell 0
              have k1 := hX.out.blk.cell 1
              have k2 := hX.out.blk.cell 2
              have hbl := hid (hres.out.keep hX.out.keep (by have := hsz0.out; omega))
              have d0 := hbl.out.cell 0
              have d1 := hbl.out.cell 1
              have d2 := hbl.out.cell 2
              have y0 := hbl.out.frozen 0
              have y1 := hbl.out.frozen 1
              have y2 := hbl.out.frozen 2
              have hlt := hbl.out.lt
              simp only [List.getElem?_toArray, List.getElem?_cons_zero, List.getElem?_cons_succ] at d0 d1 d2 k0 k1 k2
              have hfin := hid (OutSt.fin' hsl (hX.out.up hb0 (P' := P + 400000) (L' := L + 1) (by omega) (by omega)) hR (ρ := w.heap.size + 1) (by omega) (by have := hsz0.out; omega) (.int .i64 s.al) (.int .i64 s.st) (.slice (some ⟨g, 0, none⟩) s.es.length cv))
              go_wp2
              refine bodyPost_ret (v := .agg #[.int .i64 s.al, .int .i64 s.st, .slice (some ⟨g, 0, none⟩) s.es.length cv]) (by simp [results, Tryd.results155, go_sem, d0, d1, d2]) rfl ?_
              exact hfin.out
          · have hjb4 : ((j : Int) == 4) = false := by simpa using hj4
            replace hj4 := hid hj4
            by_cases hj5 : j = 5
            · subst hj5
              by_cases hn : s.es.length = 0
              · have hn2 : decide (0 < s.es.length) = false := decide_eq_false (by omega)
                have hX := hO4
                replace hn := hid hn
                have k0 := hX.out.blk.cell 0
                have k1 := hX.out.blk.cell 1
                have k2 := hX.out.blk.cell 2
                have hbl := hid (hres.out.keep hX.out.keep (by have := hsz0.out; omega))
                have d0 := hbl.out.cell 0
                have d1 := hbl.out.cell 1
                have d2 := hbl.out.cell 2
                have y0 := hbl.out.frozen 0
                have y1 := hbl.out.frozen 1
                have y2 := hbl.out.frozen 2
                have hlt := hbl.out.lt
                simp only [List.getElem?_toArray, List.getElem?_cons_zero, List.getElem?_cons_succ] at d0 d1 d2 k0 k1 k2
                have hfin := hid ((hX.out.up hb0 (P' := P + 400000) (L' := L + 1) (by omega) (by omega)).fin hR (ρ := w.heap.size + 1) (by omega) (by have := hsz0.out; omega) (.int .i64 s.al) (.int .i64 s.st) (.slice Av s.es.length cv))
                go_wp2
                refine bodyPost_ret (v := .agg #[.int .i64 s.al, .int .i64 s.st, .slice Av s.es.length cv]) (by simp [results, Tryd.results155, go_sem, d0, d1, d2]) rfl ?_
                exact hfin.out
              · have hkl := hkn.out (by omega)
                obtain ⟨g, cap, hve, hg1, hg2, -, -, -⟩ := own_shape hO4.out.own (by omega)
                cases hve
                have hn2 : (0 : Int) < (s.es.length : Int) := by omega
                have i1 : (0 : Int) ≤ (kn : Int) ∧ (kn : Int) < (s.es.length : Int) := by omega
                obtain ⟨e0, e1, e2⟩ := edCells_at s.es kn hkl
                have r0 := World.ownsRow.cellAt hO4.out.own (kn * 3) (by omega)
                have r1 := World.ownsRow.cellAt hO4.out.own (kn * 3 + 1) (by omega)
                have r2 := World.ownsRow.cellAt hO4.out.own (kn * 3 + 2) (by omega)
                rw [e0] at r0
                rw [e1] at r1
                rw [e2] at r2
                obtain ⟨x, hx⟩ : ∃ x, x = s.es[kn] := ⟨_, rfl⟩
                rw [← hx] at r0 r1 r2
                replace hx := hid hx
                have q2 := GK.BI.cell c2
                have q3 := GK.BI.cell r0
                have q4 := GK.BI.cell r1
                have q5 := GK.BI.cell r2
                replace hn := hid hn
                clear c0 c1 c2 g0 g1 g2 r0 r1 r2 e0 e1 e2
                go_wp2_with fail
                refine GK.wp_region 8 [8, 9, 10] 200 (KeepB fun _ => False) (GK.BI w4) (fun _ _ _ => True) (by kernel_rfl) (by kernel_rfl) (GK.BI.way w4) (by decide) (Below.refl _ _).drew ?_
                simp only [List.take_succ_cons, List.take_zero]
                (repeat (refine GK.grow_quiet w4 (by rfl) (by rfl) ?_; intro K hK; go_big_quiet_op; go_big_quiet_on))
                refine GK.grow_new (K := fun _ => False) (by rfl) _ (fun b => .slice (some ⟨b, 0, none⟩) 1 1) 77 #[.int .i64 x.f, .int .i64 x.l, .int .i64 x.t] (fun _ => by go_simp) rfl (fun _ _ o h => GK.BI.alloc o h) (fun _ _ h => GK.BI.size h) (fun _ h => h.elim) (fun b hb => ?_)
                simp only [Act.put, List.setIfInBounds_toArray, List.set_cons_zero, List.set_cons_succ]
                refine GK.grow_nil ?_
                intro w5 hw5 hf
                obtain ⟨b', z1, z2, hblk5⟩ := hf _ List.mem_cons_self
                cases z1
                clear hf q2 q3 q4 q5
                simp only [List.filterMap_cons, List.filterMap_nil, List.getElem?_cons_zero, List.getElem?_cons_succ]
                replace hw5 : Below w4.heap.size w4 w5 := hw5
                have hO5 := hid (hO4.out.later hw5 hR0.out)
                refine wpList_append_own_at _ (by rfl) _ _ 35 (by rfl) w0.heap.size 77 i0 (.agg #[.int .i64 0, .int .i64 0, .int .i64 0]) 3 24 Tryd.underlying35 hi hz0 hz1 hz2 rfl (by decide) _ s.es.length (edCells s.es) (by rfl) hO5.out.own ⟨b, 0, none⟩ 1 1 [.int .i64 x.f, .int .i64 x.l, .int .i64 x.t] (by rfl) (by rfl) (World.news_of_block hblk5) ?c1 ?c3 ?c4 ?c5 ?_
                case c1 => simp [Value.oneCell']
                case c3 => unfold maxLen; omega
                case c4 => omega
                case c5 => have := hO5.out.keep.size; omega
                intro v6 w6 hown6 hgrow6 hnil6 hat6
                obtain ⟨A6, c6, rfl, -, -⟩ := own_slice hown6
                have ag := hO5.out.ne
                have hgl5 := hO5.out.blk.lt
                have c2' : w6.cell? ⟨gs, 2, none⟩ = some (.slice (some ⟨g, 0, none⟩) s.es.length cv) := by rw [hgrow6.cell_far _ (by simpa using hgl5) (Ne.symm ag)]; exact hO5.out.blk.cell 2
                have f2' : w6.frozen? ⟨gs, 2, none⟩ = false := by rw [hgrow6.frozen_far _ (by simpa using hgl5) (Ne.symm ag)]; exact hO5.out.blk.frozen 2
                obtain ⟨w7, hw7⟩ : ∃ w7, w6.setCell ⟨gs, 2, none⟩ (.slice A6 (s.es.length + 1) c6) = w7 := ⟨_, rfl⟩
                have hX := hid (hO5.out.add (x := x) hR0.out hown6 hgrow6 hat6)
                rw [hw7] at hX
                have hsl : (s.es ++ [(x : Ed)]).length = s.es.length + 1 := by simp
                have hgl6 := hgrow6.size
                clear hown6 hgrow6 hnil6 hat6 ag
                have k0 := hX.out.blk.cell 0
                have k1 := hX.out.blk.cell 1
                have k2 := hX.out.blk.cell 2
                have hbl := hid (hres.out.keep hX.out.keep (by have := hsz0.out; omega))
                have d0 := hbl.out.cell 0
                have d1 := hbl.out.cell 1
                have d2 := hbl.out.cell 2
                have y0 := hbl.out.frozen 0
                have y1 := hbl.out.frozen 1
                have y2 := hbl.out.frozen 2
                have hlt := hbl.out.lt
                simp only [List.getElem?_toArray, List.getElem?_cons_zero, List.getElem?_cons_succ] at d0 d1 d2 k0 k1 k2
                have hfin := hid (OutSt.fin' hsl (hX.out.up hb0 (P' := P + 400000) (L' := L + 1) (by omega) (by omega)) hR (ρ := w.heap.size + 1) (by omega) (by have := hsz0.out; omega) (.int .i64 s.al) (.int .i64 s.st) (.slice A6 (s.es.length + 1) c6))
                go_wp2
                refine bodyPost_ret (v := .agg #[.int .i64 s.al, .int .i64 s.st, .slice A6 (s.es.length + 1) c6]) (by simp [results, Tryd.results155, go_sem, d0, d1, d2]) rfl ?_
                exact hfin.out
            · have hjb5 : ((j : Int) == 5) = false := by simpa using hj5
              replace hj5 := hid hj5
              by_cases hj6 : j = 6
              · subst hj6
                have hgsR : gs ≠ R := by have := hO4.out.hgs; have := hR0.out; omega
                have q2 := RI.cell hO4.out.rd c2 hgsR
                clear c0 c1 g0 g1 g2
                go_wp2_with fail
                clear c2
                refine GK.wp_region 10 [10, 11, 12] 200 (KeepB fun b => b = R) (RI w4 R (P + 2)) (fun _ u _ => ∃ x : Int, u = .int .i64 x) (by kernel_rfl) (by kernel_rfl) (RI.way w4 R (P + 2)) (by decide) (RI.drew hO4.out.rd) ?_
                simp only [List.take_succ_cons, List.take_zero]
                (repeat (refine GK.grow_quiet w4 (by rfl) (by rfl) ?_; intro K hK; go_big_quiet_op; go_big_quiet_on))
                refine GK.grow_call (by rfl) (fun u w w' _ h => h) (fun m wq hm hbq hf => ?_) ?_
                · go_simp
                  exact ⟨rfl, (pick_up R (P + 2 + m * 10000) 4 wq (by omega) (by omega) hbq.2).mono fun e w' ⟨x, h2, _, _, h3, h4⟩ => ⟨_, h2, RI.call hbq h4 h3 (by omega), x, rfl⟩⟩
                rintro u ⟨_, _, _, x1, rfl⟩
                simp only [Act.put, List.setIfInBounds_toArray, List.set_cons_zero, List.set_cons_succ]
                (repeat (refine GK.grow_quiet w4 (by rfl) (by rfl) ?_; intro K hK; go_big_quiet_op; go_big_quiet_on))
                refine GK.grow_call (by rfl) (fun u w w' _ h => h) (fun m wq hm hbq hf => ?_) ?_
                · go_simp
                  exact ⟨rfl, (pick_up R (P + 2 + m * 10000) 3 wq (by omega) (by omega) hbq.2).mono fun e w' ⟨x, h2, _, _, h3, h4⟩ => ⟨_, h2, RI.call hbq h4 h3 (by omega), x, rfl⟩⟩
                rintro u ⟨_, _, _, x2, rfl⟩
                simp only [Act.put, List.setIfInBounds_toArray, List.set_cons_zero, List.set_cons_succ]
                (repeat (refine GK.grow_quiet w4 (by rfl) (by rfl) ?_; intro K hK; go_big_quiet_op; go_big_quiet_on))
                refine GK.grow_call (by rfl) (fun u w w' _ h => h) (fun m wq hm hbq hf => ?_) ?_
                · go_simp
                  exact ⟨rfl, (pick_up R (P + 2 + m * 10000) 4 wq (by omega) (by omega) hbq.2).mono fun e w' ⟨x, h2, _, _, h3, h4⟩ => ⟨_, h2, RI.call hbq h4 h3 (by omega), x, rfl⟩⟩
                rintro u ⟨_, _, _, x3, rfl⟩
                simp only [Act.put, List.setIfInBounds_toArray, List.set_cons_zero, List.set_cons_succ]
                (repeat (refine GK.grow_quiet w4 (by rfl) (by rfl) ?_; intro K hK; go_big_quiet_op; go_big_quiet_on))
                refine GK.grow_new (K := fun b => b = R) (by rfl) w4.heap.size (fun b => .slice (some ⟨b, 0, none⟩) 1 1) 77 #[.int .i64 x1, .int .i64 x2, .int .i64 x3] (fun _ => by go_simp) rfl (fun _ _ o h => RI.alloc o h) (fun _ _ h => RI.size h) (fun k hk => by have := hO4.out.rd.lt; omega) (fun b hb => ?_)
                simp only [Act.put, List.setIfInBounds_toArray, List.set_cons_zero, List.set_cons_succ]
                refine GK.grow_nil ?_
                intro w5 hw5 hf
                obtain ⟨b', z1, z2, hblk5⟩ := hf _ List.mem_cons_self
                cases z1
                clear hf q2
                simp only [List.filterMap_cons, List.filterMap_nil, List.getElem?_cons_zero, List.getElem?_cons_succ]
                have hO5 := hid (hO4.out.call hw5.1 hw5.2 hR0.out)
                refine wpList_append_own_at _ (by rfl) _ _ 35 (by rfl) w0.heap.size 77 i0 (.agg #[.int .i64 0, .int .i64 0, .int .i64 0]) 3 24 Tryd.underlying35 hi hz0 hz1 hz2 rfl (by decide) _ s.es.length (edCells s.es) (by rfl) hO5.out.own ⟨b, 0, none⟩ 1 1 [.int .i64 x1, .int .i64 x2, .int .i64 x3] (by rfl) (by rfl) (World.news_of_block hblk5) ?c1 ?c3 ?c4 ?c5 ?_
                case c1 => simp [Value.oneCell']
                case c3 => unfold maxLen; omega
                case c4 => omega
                case c5 => have := hO5.out.keep.size; omega
                intro v6 w6 hown6 hgrow6 hnil6 hat6
                obtain ⟨A6, c6, rfl, -, -⟩ := own_slice hown6
                have ag := hO5.out.ne
                have hgl5 := hO5.out.blk.lt
                have c2' : w6.cell? ⟨gs, 2, none⟩ = some (.slice Av s.es.length cv) := by rw [hgrow6.cell_far _ (by simpa using hgl5) (Ne.symm ag)]; exact hO5.out.blk.cell 2
                have f2' : w6.frozen? ⟨gs, 2, none⟩ = false := by rw [hgrow6.frozen_far _ (by simpa using hgl5) (Ne.symm ag)]; exact hO5.out.blk.frozen 2
                obtain ⟨w7, hw7⟩ : ∃ w7, w6.setCell ⟨gs, 2, none⟩ (.slice A6 (s.es.length + 1) c6) = w7 := ⟨_, rfl⟩
                have hX := hid (hO5.out.add (x := (⟨x1, x2, x3⟩ : Ed)) hR0.out hown6 hgrow6 hat6)
                rw [hw7] at hX
                have hsl : (s.es ++ [(⟨x1, x2, x3⟩ : Ed)]).length = s.es.length + 1 := by simp
                have hgl6 := hgrow6.size
                clear hown6 hgrow6 hnil6 hat6 ag
                have k0 := hX.out.blk.cell 0
                have k1 := hX.out.blk.cell 1
                have k2 := hX.out.blk.cell 2
                have hbl := hid (hres.out.keep hX.out.keep (by have := hsz0.out; omega))
                have d0 := hbl.out.cell 0
                have d1 := hbl.out.cell 1
                have d2 := hbl.out.cell 2
                have y0 := hbl.out.frozen 0
                have y1 := hbl.out.frozen 1
                have y2 := hbl.out.frozen 2
                have hlt := hbl.out.lt
                simp only [List.getElem?_toArray, List.getElem?_cons_zero, List.getElem?_cons_succ] at d0 d1 d2 k0 k1 k2
                have hfin := hid (OutSt.fin' hsl (hX.out.up hb0 (P' := P + 400000) (L' := L + 1) (by omega) (by omega)) hR (ρ := w.heap.size + 1) (by omega) (by have := hsz0.out; omega) (.int .i64 s.al) (.int .i64 s.st) (.slice A6 (s.es.length + 1) c6))
                go_wp2
                refine bodyPost_ret (v := .agg #[.int .i64 s.al, .int .i64 s.st, .slice A6 (s.es.length + 1) c6]) (by simp [results, Tryd.results155, go_sem, d0, d1, d2]) rfl ?_
                exact hfin.out
              · have hjb6 : ((j : Int) == 6) = false := by simpa using hj6
                replace hj6 := hid hj6
                have hX := hO4
                have k0 := hX.out.blk.cell 0
                have k1 := hX.out.blk.cell 1
                have k2 := hX.out.blk.cell 2
                have hbl := hid (hres.out.keep hX.out.keep (by have := hsz0.out; omega))
                have d0 := hbl.out.cell 0
                have d1 := hbl.out.cell 1
                have d2 := hbl.out.cell 2
                have y0 := hbl.out.frozen 0
                have y1 := hbl.out.frozen 1
                have y2 := hbl.out.frozen 2
                have hlt := hbl.out.lt
                simp only [List.getElem?_toArray, List.getElem?_cons_zero, List.getElem?_cons_succ] at d0 d1 d2 k0 k1 k2
                have hfin := hid ((hX.out.up hb0 (P' := P + 400000) (L' := L + 1) (by omega) (by omega)).fin hR (ρ := w.heap.size + 1) (by omega) (by have := hsz0.out; omega) (.int .i64 s.al) (.int .i64 s.st) (.slice Av s.es.length cv))
                go_wp2
                refine bodyPost_ret (v := .agg #[.int .i64 s.al, .int .i64 s.st, .slice Av s.es.length cv]) (by simp [results, Tryd.results155, go_sem, d0, d1, d2]) rfl ?_
                exact hfin.out

end Go.Proofs.YtjhlbeamfngebaaDoor

/- The drawing kit: l7Draw, l7Wrong. -/
namespace Go.Proofs.YtjhlbeamfngebaaDoor
open Go.RowKit Go.BigFrame AG

theorem infoSy : (Tryd.prog.info? 37).map (fun i => (i.zero, i.size, i.bytes)) = some (some (.agg #[.int .i64 0, .int .i64 0, .slice none 0 0]), 3, 40) := by kernel_rfl

/-- A system and where its edges lie. -/
structure SyV where
  s : Sy
  A : Option Addr
  c : Nat
def sysCells : List SyV → List Value
  | [] => []
  | x :: xs => .int .i64 x.s.al :: .int .i64 x.s.st :: .slice x.A x.s.es.length x.c :: sysCells xs
theorem sysCells_append : ∀ ps qs : List SyV, sysCells (ps ++ qs) = sysCells ps ++ sysCells qs
  | [], _ => rfl
  | p :: ps, qs => by rw [List.cons_append, sysCells, sysCells_append ps qs]; rfl
theorem sysCells_at : ∀ (ps : List SyV) (i : Nat) (h : i < ps.length), (sysCells ps)[i * 3]? = some (.int .i64 ps[i].s.al) ∧ (sysCells ps)[i * 3 + 1]? = some (.int .i64 ps[i].s.st) ∧ (sysCells ps)[i * 3 + 2]? = some (.slice ps[i].A ps[i].s.es.length ps[i].c)
  | p :: ps, 0, _ => ⟨rfl, rfl, rfl⟩
  | p :: ps, i + 1, h => by
    have := sysCells_at ps i (by simpa using h)
    rw [show (i + 1) * 3 = i * 3 + 1 + 1 + 1 from by omega]
    exact this

/-- One system of a list that the call owns: its edges lie apart. -/
structure SyIn (w : World) (R L : Nat) (v : Value) (x : SyV) : Prop where
  le : x.s.es.length ≤ x.c
  top : x.c ≤ 9223372036854775807
  len : x.s.es.length ≤ L
  at_ : EdsAt w w.heap.size x.A x.s.es
  far : 0 < x.s.es.length → ∃ b o, x.A = some ⟨b, o, none⟩ ∧ b < w.heap.size ∧ v.ownBlock ≠ some b ∧ R < b
/-- A list of systems that the call owns. -/
structure LstSt (w wr : World) (R P L : Nat) (v : Value) (xs : List SyV) : Prop where
  own : wr.ownsRow w.heap.size 37 3 v xs.length (sysCells xs)
  each : ∀ x ∈ xs, SyIn wr R L v x
  rd : RdUp wr R P
  keep : KeepB (fun b => b = R) w wr

theorem SyIn.keep {w w' : World} {R L : Nat} {v : Value} {x : SyV} {K : Nat → Prop} (h : SyIn w R L v x) (hk : KeepB K w w') (hK : ∀ b, K b → b = R ∨ v.ownBlock = some b) : SyIn w' R L v x := by
  refine ⟨h.le, h.top, h.len, fun hn => ?_, fun hn => ?_⟩
  · obtain ⟨b, o, hA, hlt, hne, hR⟩ := h.far hn
    obtain ⟨b', o', hA', -, hE⟩ := h.at_ hn
    rw [hA] at hA'
    cases hA'
    have hnb : ¬ K b := fun hk => by rcases hK b hk with e | e; omega; exact hne e
    refine ⟨b, o, hA, Nat.lt_of_lt_of_le hlt hk.size, fun i hi => ?_⟩
    rw [KeepB.cell_ hk hlt hnb, KeepB.cell_ hk hlt hnb, KeepB.cell_ hk hlt hnb]
    exact hE i hi
  · obtain ⟨b, o, hA, hlt, hne, hR⟩ := h.far hn
    exact ⟨b, o, hA, Nat.lt_of_lt_of_le hlt hk.size, hne, hR⟩
theorem LstSt.call {w wr w1 : World} {R P P' L : Nat} {v : Value} {xs : List SyV} (h : LstSt w wr R P L v xs) (hk : KeepB (fun b => b = R) wr w1) (hr : RdUp w1 R P') (hR : R < w.heap.size) : LstSt w w1 R P' L v xs :=
  ⟨own_keep h.own hk (fun g hg => by have := (World.ownsRow.lt h.own g hg).1; omega), fun x hx => (h.each x hx).keep hk fun _ e => .inl e, hr, h.keep.trans hk⟩
theorem LstSt.later {w wr w1 : World} {R P L : Nat} {v : Value} {xs : List SyV} (h : LstSt w wr R P L v xs) (hb : Below wr.heap.size wr w1) (hR : R < w.heap.size) : LstSt w w1 R P L v xs := h.call (KeepB.of_below hb) (h.rd.later hb) hR
theorem LstSt.more {w wr : World} {R P P' L L' : Nat} {v : Value} {xs : List SyV} (h : LstSt w wr R P L v xs) (hP : P ≤ P') (hL : L ≤ L') : LstSt w wr R P' L' v xs :=
  ⟨h.own, fun x hx => ⟨(h.each x hx).le, (h.each x hx).top, by have := (h.each x hx).len; omega, (h.each x hx).at_, (h.each x hx).far⟩, h.rd.more hP, h.keep⟩
theorem LstSt.add {w wr w1 : World} {R P L : Nat} {v v' : Value} {xs : List SyV} {x : SyV} (h : LstSt w wr R P L v xs) (hR : R < w.heap.size) (hx : SyIn wr R L v x)
    (hown : w1.ownsRow w.heap.size 37 3 v' (xs.length + 1) (sysCells xs ++ [.int .i64 x.s.al, .int .i64 x.s.st, .slice x.A x.s.es.length x.c])) (hg : wr.grownBy w1 v.ownBlock) (hat : v'.ownBlock = v.ownBlock ∨ v'.ownBlock = some wr.heap.size) :
    LstSt w w1 R P L v' (xs ++ [x]) := by
  have hv : ∀ k, v.ownBlock = some k → w.heap.size ≤ k := fun k hk => (World.ownsRow.lt h.own k hk).1
  have k1 : KeepB (fun b => v.ownBlock = some b) wr w1 := (KeepB.refl _ wr).grown hg (fun k hk _ => hk)
  have key : ∀ y, SyIn wr R L v y → SyIn w1 R L v' y := fun y hy => by
    have h1 := hy.keep k1 fun b hb => .inr hb
    refine ⟨h1.le, h1.top, h1.len, h1.at_, fun hn => ?_⟩
    obtain ⟨b, o, hA, hlt, hne, hRb⟩ := hy.far hn
    refine ⟨b, o, hA, Nat.lt_of_lt_of_le hlt k1.size, ?_, hRb⟩
    rcases hat with e | e
    · rw [e]; exact hne
    · rw [e]; intro e'; injection e' with e'; omega
  refine ⟨?_, fun y hy => ?_, h.rd.keep k1 (fun k hk => by have := hv k hk; omega), h.keep.grown hg (fun k hk hlt => by have := hv k hk; omega)⟩
  · have e : (xs ++ [x]).length = xs.length + 1 := by simp
    rw [e, sysCells_append]
    exact hown
  · rcases List.mem_append.1 hy with hy | hy
    · exact key y (h.each y hy)
    · rw [List.mem_singleton.1 hy]; exact key x hx
/-- A system that has just been drawn. -/
theorem SyIn.new {w wr w1 : World} {R P L : Nat} {v : Value} {xs : List SyV} {s : Sy} {A : Option Addr} {c : Nat} (h : LstSt w wr R P L v xs) (h1 : s.es.length ≤ c) (h2 : c ≤ 9223372036854775807) (h3 : s.es.length ≤ L) (h4 : EdsAt w1 w1.heap.size A s.es) (h5 : FreshA wr.heap.size A) (hR : R < w.heap.size) : SyIn w1 R L v ⟨s, A, c⟩ :=
  ⟨h1, h2, h3, h4, fun hn => by
    obtain ⟨b, o, hA, hlt, -⟩ := h4 hn
    have h6 := h5 b o hA
    have h7 := h.keep.size
    exact ⟨b, o, hA, hlt, fun e => by have := (World.ownsRow.lt h.own b e).2; omega, by omega⟩⟩
theorem LstSt.read {w wr : World} {R P L : Nat} {v : Value} {xs : List SyV} (h : LstSt w wr R P L v xs) : ∃ A c, v = .slice A xs.length c ∧ xs.length ≤ c ∧ c ≤ 9223372036854775807 ∧ SysAt wr wr.heap.size A (xs.map (·.s)) := by
  by_cases hn : xs.length = 0
  · obtain ⟨A, c, hv, h1, h2⟩ := own_slice h.own
    exact ⟨A, c, hv, h1, h2, fun hl => by simp at hl; omega⟩
  · obtain ⟨g, cap, hv, h1, h2, h3, h4, h5⟩ := own_shape h.own (by omega)
    refine ⟨_, cap, hv, h3, h4, fun _ => ⟨g, 0, rfl, h2, fun i hi => ?_⟩⟩
    have hi' : i < xs.length := by simpa using hi
    obtain ⟨a0, a1, a2⟩ := sysCells_at xs i hi'
    have hx := h.each xs[i] (List.getElem_mem _)
    simp only [List.getElem_map, Nat.zero_add]
    exact ⟨h5 _ _ a0, h5 _ _ a1, xs[i].A, xs[i].c, h5 _ _ a2, hx.le, hx.top, hx.at_⟩

def LsUp (w0 : World) (R P L : Nat) (e : Ending) (w' : World) : Prop := ∃ v xs, e = .returned v ∧ xs.length ≤ 10 ∧ LstSt w0 w' R P L v xs

set_option maxRecDepth 100000 in
set_option maxHeartbeats 8000000 in
theorem l7Draw_up (R P : Nat) (w : World) (hP : P + 3000000 ≤ 1125899906842624) (hr : RdUp w R P) :
    Calls Tryd.prog 144 #[.pointer (some ⟨R, 0, none⟩)] w fun e w' => ∃ v xs, e = .returned v ∧ 1 ≤ xs.length ∧ xs.length ≤ 3 ∧ LstSt w w' R (P + 30000) 1536 v xs := by
  obtain ⟨i0, hi, hz0, hz1, hz2⟩ := info_parts infoSy
  have hR := hr.lt
  have h0 : LstSt w (w.alloc (.cells #[] 37)) R P 1536 (.slice (some ⟨w.heap.size, 0, none⟩) 0 0) [] :=
    ⟨⟨rfl, .inr ⟨w.heap.size, 0, #[], rfl, Nat.le_refl _, heap_alloc_self _ _, Nat.le_refl _, Nat.zero_le _, rfl, rfl⟩⟩, fun x hx => (by cases hx), hr.later ((Below.refl _ _).alloc (Nat.le_refl _) _), (KeepB.refl _ _).alloc _⟩
  generalize hw0 : w.alloc (.cells #[] 37) = w0 at h0
  replace hr := hid hr
  replace h0 := hid h0
  go_enter Tryd.func144, Tryd.ntmps144
  go_wp2_with fail
  refine (num_lit R P [2, 2, 3, 1] w0 _ (by decide) (by decide) (by omega) h0.out.rd).mono ?_
  rintro e w1 ⟨n, hn, rfl, hr1, hk1⟩
  have hn1 : 1 ≤ n ∧ n ≤ 3 := by simp at hn; omega
  obtain ⟨m, rfl⟩ := Int.eq_ofNat_of_zero_le (show 0 ≤ n by omega)
  have h1 := hid (h0.out.call hk1 hr1 hR)
  clear hn hr1 hk1 h0 hw0
  have hm1 : 1 ≤ m ∧ m ≤ 3 := by omega
  go_wp2_with fail
  go_loopw [3, 4] (fun v i wr => ∃ (k : Nat) (xs : List SyV), i = .int .i64 k ∧ k + xs.length = m ∧ LstSt w wr R (P + 1 + xs.length * 5000) 1536 v xs) (fun _ i _ => (intOf i).toNat)
  case atStart => exact ⟨m, [], rfl, by simp, h1.out⟩
  case round =>
    obtain ⟨k, xs, rfl, hk, hs⟩ := hrel
    by_cases hk0 : 0 < k
    · have hs' := hid hs
      clear hs
      have hk0' : (0 : Int) < (k : Int) := by omega
      go_wp2_with fail
      refine (l2Small_up R (P + 1 + xs.length * 5000) wr (by omega) hs'.out.rd).mono ?_
      rintro e w2 ⟨s, A, c, rfl, a1, a2, a3, a4, a5, a6, a7⟩
      unfold Sy.val
      have h2 := hid (hs'.out.call a7 a6 hR)
      have hx2 := hid (SyIn.new hs'.out a1 a2 a3 a4 a5 hR)
      have hkr2 := hid a7
      have hz7 := a7.size
      clear a4 a5 a6 a7
      have hnb := Blk.new w2 37 #[.int .i64 s.al, .int .i64 s.st, .slice A s.es.length c]
      have hba : Below w2.heap.size w2 (w2.alloc (.cells #[.int .i64 s.al, .int .i64 s.st, .slice A s.es.length c] 37)) := (Below.refl _ _).alloc (Nat.le_refl _) _
      have hbs : w2.heap.size < (w2.alloc (.cells #[.int .i64 s.al, .int .i64 s.st, .slice A s.es.length c] 37)).heap.size := by simp
      generalize hwa : w2.alloc (.cells #[.int .i64 s.al, .int .i64 s.st, .slice A s.es.length c] 37) = wa at hnb hba hbs
      have h3 := hid (h2.out.later hba hR)
      have hx3 := hid (hx2.out.keep (KeepB.of_below (K := fun b => b = R) hba) fun _ e => .inl e)
      have hbg : w.heap.size ≤ w2.heap.size := h2.out.keep.size
      clear h2 hx2
      go_wp2_with fail
      refine (pick_up R (P + 1 + xs.length * 5000 + 2000) 3 wa (by omega) (by omega) h3.out.rd).mono ?_
      rintro e w3 ⟨j, rfl, hj0, hj1, hr4, hk4⟩
      have h4 := hid (h3.out.call hk4 hr4 hR)
      have hx4 := hid (hx3.out.keep hk4 fun _ e => .inl e)
      have hnb4 := hid (hnb.keep hk4 (by omega))
      have hk4s := hk4.size
      have hkr4 : KeepB (fun b => b = R) wr w3 := ((hkr2.out.trans (KeepB.of_below hba)).trans hk4)
      clear hr4 hk4 h3 hx3 hj1 hwa hba hnb
      by_cases hj : j = 0
      · subst hj
        go_wp2_with fail
        refine (l2Draw_up R (P + 1 + xs.length * 5000 + 2001) w3 (by omega) h4.out.rd).mono ?_
        rintro e w5 ⟨s', A', c', rfl, a1, a2, a3, a4, a5, a6, a7⟩
        unfold Sy.val
        have h5 := hid (h4.out.call a7 a6 hR)
        have hx5 := SyIn.new h4.out a1 a2 a3 a4 a5 hR
        have hnb5 := hnb4.out.keep a7 (by omega)
        have hlt5 := hnb5.lt
        have d0 := hnb5.cell 0
        have d1 := hnb5.cell 1
        have d2 := hnb5.cell 2
        have f0 := hnb5.frozen 0
        have f1 := hnb5.frozen 1
        have f2 := hnb5.frozen 2
        simp only [List.getElem?_toArray, List.getElem?_cons_zero, List.getElem?_cons_succ] at d0 d1 d2
        have hsz5 := a7.size
        have hkr5 : KeepB (fun b => b = R) wr w5 := (hkr4.trans a7)
        have hE5 := hid a4
        have hF5 := hid a5
        clear a4 a5 a6 a7 h4 hx4 hnb4
        obtain ⟨w6, hw6⟩ : ∃ w6, ((w5.setCell ⟨w2.heap.size, 0, none⟩ (.int .i64 s'.al)).setCell ⟨w2.heap.size, 1, none⟩ (.int .i64 s'.st)).setCell ⟨w2.heap.size, 2, none⟩ (.slice A' s'.es.length c') = w6 := ⟨_, rfl⟩
        have hb6 : Blk w6 w2.heap.size 37 #[.int .i64 s'.al, .int .i64 s'.st, .slice A' s'.es.length c'] := by
          rw [← hw6]
          simpa using ((hnb5.set_ 0 (.int .i64 s'.al)).set_ 1 (.int .i64 s'.st)).set_ 2 (.slice A' s'.es.length c')
        have hkw : KeepB (fun b => b = R) wr w6 := by
          rw [← hw6]
          exact (((hkr5.setCell _ _ (by simp; omega)).setCell _ _ (by simp; omega)).setCell _ _ (by simp; omega))
        have hkk : KeepB (fun b => b = w2.heap.size) w5 w6 := by
          rw [← hw6]
          exact (((KeepB.refl _ w5).setCell _ _ (by simp)).setCell _ _ (by simp)).setCell _ _ (by simp)
        have hE6 : EdsAt w6 w6.heap.size A' s'.es := by
          rw [← hw6]
          have hne : ∀ b o, A' = some ⟨b, o, none⟩ → 0 < s'.es.length → b ≠ w2.heap.size := fun b o hA _ => by have := hF5.out b o hA; omega
          simpa [World.setCell] using ((hE5.out.stored _ hne).stored _ hne).stored _ hne
        have hs6 := hid (hs'.out.call hkw (h5.out.rd.keep hkk (by omega)) hR)
        have hx6 := hid (SyIn.new (w1 := w6) hs'.out a1 a2 a3 hE6 (fun b o hA => by have := hF5.out b o hA; omega) hR)
        replace hb6 := hid hb6
        clear hkw hkk hE6 hnb5 h5 hx5
        have c0 := hb6.out.cell 0
        have c1 := hb6.out.cell 1
        have c2 := hb6.out.cell 2
        simp only [List.getElem?_toArray, List.getElem?_cons_zero, List.getElem?_cons_succ] at c0 c1 c2
        have hgl := hb6.out.lt
        have hown := hid hs6.out.own
        go_wp2_with (at_builtin; refine wpList_append_own_at _ (by rfl) _ _ 49 (by rfl) w.heap.size 37 i0 (.agg #[.int .i64 0, .int .i64 0, .slice none 0 0]) 3 40 Tryd.underlying49 hi hz0 hz1 hz2 rfl (by decide) _ xs.length (sysCells xs) (by rfl) (hown.out.alloc _) ⟨w6.heap.size, 0, none⟩ 1 1 [.int .i64 s'.al, .int .i64 s'.st, .slice A' s'.es.length c'] (by rfl) (by rfl) (World.news_of_block (heap_alloc_new w6 _)) ?c1 ?c3 ?c4 ?c5 ?_)
        case c1 => simp [Value.oneCell']
        case c3 => unfold maxLen; omega
        case c4 => omega
        case c5 => have := hs6.out.keep.size; simp; omega
        intro v9 w9 hown9 hgrow9 hnil9 hat9
        have hL := hs6.out.later ((Below.refl _ w6).alloc (Nat.le_refl _) (.cells #[.int .i64 s'.al, .int .i64 s'.st, .slice A' s'.es.length c'] 37)) hR
        have hX := hx6.out.keep (KeepB.of_below (K := fun b => b = R) ((Below.refl _ w6).alloc (Nat.le_refl _) (.cells #[.int .i64 s'.al, .int .i64 s'.st, .slice A' s'.es.length c'] 37))) fun _ e => .inl e
        have hfin := hid ((hL.add hR hX hown9 hgrow9 (by rw [World.size_alloc]; exact hat9)).more (P' := P + 1 + (xs.length + 1) * 5000) (L' := 1536) (by omega) (by omega))
        clear hown9 hgrow9 hnil9 hat9 hL hX c0 c1 c2
        go_wp2_with fail
        go_roundw
        case rel => exact ⟨k - 1, xs ++ [⟨s', A', c'⟩], by go_num, by simp; omega, by rw [show (xs ++ [(⟨s', A', c'⟩ : SyV)]).length = xs.length + 1 from by simp]; exact hfin.out⟩
        case measure => simp [intOf]; omega
      · have hjb : ((j : Int) == 0) = false := by simpa using hj
        replace hj := hid hj
        have c0 := hnb4.out.cell 0
        have c1 := hnb4.out.cell 1
        have c2 := hnb4.out.cell 2
        simp only [List.getElem?_toArray, List.getElem?_cons_zero, List.getElem?_cons_succ] at c0 c1 c2
        have hgl := hnb4.out.lt
        have hown := hid h4.out.own
        go_wp2_with (at_builtin; refine wpList_append_own_at _ (by rfl) _ _ 49 (by rfl) w.heap.size 37 i0 (.agg #[.int .i64 0, .int .i64 0, .slice none 0 0]) 3 40 Tryd.underlying49 hi hz0 hz1 hz2 rfl (by decide) _ xs.length (sysCells xs) (by rfl) (hown.out.alloc _) ⟨w3.heap.size, 0, none⟩ 1 1 [.int .i64 s.al, .int .i64 s.st, .slice A s.es.length c] (by rfl) (by rfl) (World.news_of_block (heap_alloc_new w3 _)) ?c1 ?c3 ?c4 ?c5 ?_)
        case c1 => simp [Value.oneCell']
        case c3 => unfold maxLen; omega
        case c4 => omega
        case c5 => have := h4.out.keep.size; simp; omega
        intro v9 w9 hown9 hgrow9 hnil9 hat9
        have hL := h4.out.later ((Below.refl _ w3).alloc (Nat.le_refl _) (.cells #[.int .i64 s.al, .int .i64 s.st, .slice A s.es.length c] 37)) hR
        have hX := hx4.out.keep (KeepB.of_below (K := fun b => b = R) ((Below.refl _ w3).alloc (Nat.le_refl _) (.cells #[.int .i64 s.al, .int .i64 s.st, .slice A s.es.length c] 37))) fun _ e => .inl e
        have hfin := hid ((hL.add hR hX hown9 hgrow9 (by rw [World.size_alloc]; exact hat9)).more (P' := P + 1 + (xs.length + 1) * 5000) (L' := 1536) (by omega) (by omega))
        clear hown9 hgrow9 hnil9 hat9 hL hX c0 c1 c2
        go_wp2_with fail
        go_roundw
        case rel => exact ⟨k - 1, xs ++ [⟨s, A, c⟩], by go_num, by simp; omega, by rw [show (xs ++ [(⟨s, A, c⟩ : SyV)]).length = xs.length + 1 from by simp]; exact hfin.out⟩
        case measure => simp [intOf]; omega
    · obtain rfl : k = 0 := by omega
      go_wp2_with fail
      go_ret
      exact ⟨_, xs, rfl, by omega, by omega, hs.more (by omega) (by omega)⟩

end Go.Proofs.YtjhlbeamfngebaaDoor

/- The drawing kit: l7Wrong, DrawPartsAlphabet. -/
namespace Go.Proofs.YtjhlbeamfngebaaDoor
open Go.RowKit Go.BigFrame AG

def sliceLen : Value → Nat
  | .slice _ n _ => n
  | _ => 0

theorem sysCells_set0 : ∀ (xs : List SyV) (x : SyV), 0 < xs.length → (((sysCells xs).set 0 (.int .i64 x.s.al)).set 1 (.int .i64 x.s.st)).set 2 (.slice x.A x.s.es.length x.c) = sysCells (xs.set 0 x)
  | [], _, h => by simp at h
  | y :: ys, x, _ => rfl

/-- The first system of a list is replaced. -/
theorem LstSt.put {w wr : World} {R P L g c : Nat} {xs : List SyV} {x : SyV} (h : LstSt w wr R P L (.slice (some ⟨g, 0, none⟩) xs.length c) xs) (hR : R < w.heap.size) (hn : 0 < xs.length) (hx : SyIn wr R L (.slice (some ⟨g, 0, none⟩) xs.length c) x) :
    LstSt w (((wr.setCell ⟨g, 0, none⟩ (.int .i64 x.s.al)).setCell ⟨g, 1, none⟩ (.int .i64 x.s.st)).setCell ⟨g, 2, none⟩ (.slice x.A x.s.es.length x.c)) R P L (.slice (some ⟨g, 0, none⟩) xs.length c) (xs.set 0 x) := by
  have hg := World.ownsRow.lt h.own g rfl
  have s1 := (World.ownsRow.stored h.own 0 (.int .i64 x.s.al)).1
  have s2 := (World.ownsRow.stored s1 1 (.int .i64 x.s.st)).1
  have s3 := (World.ownsRow.stored s2 2 (.slice x.A x.s.es.length x.c)).1
  rw [sysCells_set0 xs x hn] at s3
  have hk : KeepB (fun b => b = g) wr (((wr.setCell ⟨g, 0, none⟩ (.int .i64 x.s.al)).setCell ⟨g, 1, none⟩ (.int .i64 x.s.st)).setCell ⟨g, 2, none⟩ (.slice x.A x.s.es.length x.c)) := (((KeepB.refl _ wr).setCell _ _ (by simp)).setCell _ _ (by simp)).setCell _ _ (by simp)
  have hk2 : ∀ b, b = g → b = R ∨ (Value.slice (some ⟨g, 0, none⟩) xs.length c).ownBlock = some b := fun b hb => .inr (by rw [hb]; rfl)
  refine ⟨by rw [List.length_set]; exact s3, fun y hy => ?_, h.rd.keep hk (by omega), ((h.keep.setCell _ _ (by simp; omega)).setCell _ _ (by simp; omega)).setCell _ _ (by simp; omega)⟩
  rcases List.mem_or_eq_of_mem_set hy with hy | rfl
  · exact (h.each y hy).keep hk hk2
  · exact hx.keep hk hk2

set_option maxRecDepth 100000 in
set_option maxHeartbeats 8000000 in
theorem l7Wrong_up (R P : Nat) (v : Value) (xs : List SyV) (wo w : World) (hP : P + 5000000 ≤ 1125899906842624) (hR : R < wo.heap.size) (hn1 : 1 ≤ xs.length) (hn3 : xs.length ≤ 3) (hs : LstSt wo w R P 1536 v xs) :
    Calls Tryd.prog 143 #[.pointer (some ⟨R, 0, none⟩), v] w (LsUp wo R (P + 2000000) 2000) := by
  obtain ⟨i0, hi, hz0, hz1, hz2⟩ := info_parts infoSy
  obtain ⟨Av, cv, hve, hc1, hc2⟩ := own_slice hs.own
  subst hve
  replace hs := hid hs
  go_enter Tryd.func143, Tryd.ntmps143
  go_wp2_with fail
  refine (pick_up R P 20 w (by omega) (by omega) hs.out.rd).mono ?_
  rintro e w1 ⟨j, rfl, hj0, hj1, hr1, hk1⟩
  have h1 := hid (hs.out.call hk1 hr1 hR)
  clear hr1 hk1 hs hj0 hj1
  by_cases hj : j = 0
  · subst hj
    go_wp2_with fail
    go_ret
    have hz := h1.out.keep.size
    exact ⟨_, [], rfl, by simp, ⟨⟨rfl, .inr ⟨w1.heap.size, 0, #[], rfl, hz, heap_alloc_self _ _, Nat.le_refl _, Nat.zero_le _, rfl, rfl⟩⟩, fun x hx => (by cases hx), (h1.out.rd.later ((Below.refl _ _).alloc (Nat.le_refl _) _)).more (by omega), h1.out.keep.alloc _⟩⟩
  · have hjb : ((j : Int) == 0) = false := by simpa using hj
    replace hj := hid hj
    by_cases hj1 : j = 1
    · subst hj1
      go_wp2_with fail
      go_loopw [1] (fun v wr => ∃ (ys : List SyV) (A : Option Addr) (c : Nat), v = .slice A ys.length c ∧ 1 ≤ ys.length ∧ ys.length ≤ 4 ∧ LstSt wo wr R (P + 1 + ys.length * 5000) 1536 v ys) (fun v _ => 4 - sliceLen v)
      case atStart => exact ⟨xs, Av, cv, rfl, by omega, by omega, h1.out.more (by omega) (by omega)⟩
      case round =>
        clear h1
        obtain ⟨ys, A, c, rfl, hy1, hy4, h1⟩ := hrel
        replace h1 := hid h1
        by_cases hlt : ys.length ≤ 3
        · have hlt' : (ys.length : Int) ≤ 3 := by omega
          go_wp2_with fail
          refine (l2Small_up R (P + 1 + ys.length * 5000) wr (by omega) h1.out.rd).mono ?_
          rintro e w2 ⟨s, A2, c2, rfl, a1, a2, a3, a4, a5, a6, a7⟩
          unfold Sy.val
          have h2 := hid (h1.out.call a7 a6 hR)
          have hx2 := hid (SyIn.new h1.out a1 a2 a3 a4 a5 hR)
          clear a4 a5 a6 a7
          have hown := hid h2.out.own
          go_wp2_with (at_builtin; refine wpList_append_own_at _ (by rfl) _ _ 49 (by rfl) wo.heap.size 37 i0 (.agg #[.int .i64 0, .int .i64 0, .slice none 0 0]) 3 40 Tryd.underlying49 hi hz0 hz1 hz2 rfl (by decide) _ ys.length (sysCells ys) (by rfl) (hown.out.alloc _) ⟨w2.heap.size, 0, none⟩ 1 1 [.int .i64 s.al, .int .i64 s.st, .slice A2 s.es.length c2] (by rfl) (by rfl) (World.news_of_block (heap_alloc_new w2 _)) ?c1 ?c3 ?c4 ?c5 ?_)
          case c1 => simp [Value.oneCell']
          case c3 => unfold maxLen; omega
          case c4 => omega
          case c5 => have := h2.out.keep.size; simp; omega
          intro v9 w9 hown9 hgrow9 hnil9 hat9
          have hL := h2.out.later ((Below.refl _ w2).alloc (Nat.le_refl _) (.cells #[.int .i64 s.al, .int .i64 s.st, .slice A2 s.es.length c2] 37)) hR
          have hX := hx2.out.keep (KeepB.of_below (K := fun b => b = R) ((Below.refl _ w2).alloc (Nat.le_refl _) (.cells #[.int .i64 s.al, .int .i64 s.st, .slice A2 s.es.length c2] 37))) fun _ e => .inl e
          obtain ⟨A9, c9, hv9, -, -⟩ := own_slice hown9
          subst hv9
          have hfin := hid ((hL.add hR hX hown9 hgrow9 (by rw [World.size_alloc]; exact hat9)).more (P' := P + 1 + (ys.length + 1) * 5000) (L' := 1536) (by omega) (by omega))
          clear hown9 hgrow9 hnil9 hat9 hL hX
          have hyl : (ys ++ [(⟨s, A2, c2⟩ : SyV)]).length = ys.length + 1 := by simp
          replace hyl := hid hyl
          go_wp2_with fail
          go_roundw
          case rel => exact ⟨ys ++ [⟨s, A2, c2⟩], A9, c9, by rw [hyl.out], by rw [hyl.out]; omega, by rw [hyl.out]; omega, by rw [hyl.out]; exact hfin.out⟩
          case measure => simp [sliceLen]; omega
        · have hlt' : (3 : Int) < (ys.length : Int) := by omega
          go_wp2_with fail
          go_ret
          exact ⟨_, ys, rfl, by omega, h1.out.more (by omega) (by omega)⟩
    · have hjb1 : ((j : Int) == 1) = false := by simpa using hj1
      replace hj1 := hid hj1
      by_cases hj2 : j = 2
      · subst hj2
        obtain ⟨g, cap, hve, hg1, hg2, -, -, -⟩ := own_shape h1.out.own (by omega)
        cases hve
        obtain ⟨e0, e1, e2⟩ := sysCells_at xs 0 (by omega)
        have r0 := World.ownsRow.cellAt h1.out.own 0 (by omega)
        have r1 := World.ownsRow.cellAt h1.out.own 1 (by omega)
        have r2 := World.ownsRow.cellAt h1.out.own 2 (by omega)
        simp only [Nat.zero_mul, Nat.zero_add] at e0 e1 e2
        rw [e0] at r0
        rw [e1] at r1
        rw [e2] at r2
        have hx0 := h1.out.each xs[0] (List.getElem_mem _)
        obtain ⟨x, hx⟩ : ∃ x, x = xs[0] := ⟨_, rfl⟩
        rw [← hx] at r0 r1 r2 hx0
        obtain ⟨s, A, c⟩ := x
        clear e0 e1 e2 hx
        have i1 : (0 : Int) < (xs.length : Int) := by omega
        have b1 := hx0.le
        have b2 := hx0.top
        have b3 := hx0.len
        have b4 := hid hx0.at_
        simp only at r0 r1 r2 b1 b2 b3 b4
        clear hx0
        go_wp2_with fail
        clear r0 r1 r2
        refine (l2Wrong_up R (P + 1) 1536 s A c w1 (by omega) b1 b2 b3 (by omega) b4.out h1.out.rd).mono ?_
        rintro e w2 ⟨s2, A2, c2, rfl, a1, a2, a3, a4, a5, a6, a7⟩
        have h2 := hid (h1.out.call a7 a6 hR)
        replace a4 := hid a4
        replace a7 := hid a7
        clear a5 a6 b1 b2 b3 b4
        go_wp2_with fail
        refine (l2Wrong_up R (P + 1 + 400000) 1537 s2 A2 c2 w2 (by omega) a1 a2 a3 (by omega) a4.out h2.out.rd).mono ?_
        rintro e w3 ⟨s3, A3, c3, rfl, d1, d2, d3, d4, d5, d6, d7⟩
        have h3 := hid (h2.out.call d7 d6 hR)
        replace d4 := hid d4
        replace d7 := hid d7
        clear d5 d6 a1 a2 a3 a4
        go_wp2_with fail
        refine (l2Wrong_up R (P + 1 + 400000 + 400000) 1538 s3 A3 c3 w3 (by omega) d1 d2 d3 (by omega) d4.out h3.out.rd).mono ?_
        rintro e w4 ⟨s4, A4, c4, rfl, f1, f2, f3, f4, f5, f6, f7⟩
        unfold Sy.val
        have h4 := hid ((h3.out.call f7 f6 hR).more (P' := P + 2000000) (L' := 2000) (by omega) (by omega))
        have hX := hid (SyIn.new (h3.out.more (Nat.le_refl _) (by omega : 1536 ≤ 2000)) f1 f2 (by omega) f4 f5 hR)
        clear f4 f5 f6 d1 d2 d3 d4 h3 h2 h1
        have m0 := World.ownsRow.cellAt h4.out.own 0 (by omega)
        have m1 := World.ownsRow.cellAt h4.out.own 1 (by omega)
        have m2 := World.ownsRow.cellAt h4.out.own 2 (by omega)
        obtain ⟨e0, e1, e2⟩ := sysCells_at xs 0 (by omega)
        simp only [Nat.zero_mul, Nat.zero_add] at e0 e1 e2
        rw [e0] at m0
        rw [e1] at m1
        rw [e2] at m2
        have n0 := World.ownsRow.frozenAt h4.out.own 0
        have n1 := World.ownsRow.frozenAt h4.out.own 1
        have n2 := World.ownsRow.frozenAt h4.out.own 2
        have hfin := hid (h4.out.put hR (by omega) hX.out)
        simp only at hfin
        have hlt4 := (World.ownsRow.lt h4.out.own g rfl).2
        clear e0 e1 e2
        go_wp2_with fail
        go_ret
        exact ⟨_, xs.set 0 ⟨s4, A4, c4⟩, rfl, by simp; omega, hfin.out⟩
      · have hjb2 : ((j : Int) == 2) = false := by simpa using hj2
        replace hj2 := hid hj2
        go_wp2_with fail
        go_ret
        exact ⟨_, xs, rfl, by omega, h1.out.more (by omega) (by omega)⟩

def DrawSys (w : World) (e : Ending) (w' : World) : Prop := ∃ (ss : List Sy) (A : Option Addr) (c : Nat), e = .returned (.slice A ss.length c) ∧ ss.length ≤ c ∧ c ≤ 9223372036854775807 ∧ ss.length ≤ 10 ∧ SysAt w' w'.heap.size A ss ∧ Below w.heap.size w w'

set_option maxHeartbeats 2000000 in
theorem drawPartsAlphabet_any (A : Option Addr) (n c : Nat) (w : World) (hn : n ≤ c) (hc : c ≤ 9223372036854775807) (hx : CodeAt w A n) :
    Calls Tryd.prog 84 #[.slice A n c] w (DrawSys w) := by
  replace hx := hid hx
  go_enter Tryd.func84, Tryd.ntmps84
  go_wp2_with fail
  refine (l19Open_any A n c w hn hc hx.out).mono ?_
  rintro e w1 ⟨R, rfl, hR, hr1, hb1⟩
  replace hr1 := hid hr1
  have hR1 := hr1.out.lt
  go_wp2_with fail
  refine (l7Draw_up R 0 w1 (by omega) hr1.out).mono ?_
  rintro e w2 ⟨v, xs, rfl, h1, h3, hs⟩
  replace hs := hid hs
  go_wp2_with fail
  refine (l7Wrong_up R (0 + 30000) v xs w1 w2 (by omega) hR1 h1 h3 hs.out).mono ?_
  rintro e w3 ⟨v', ys, rfl, hl, hs'⟩
  obtain ⟨A', c', rfl, b1, b2, b3⟩ := hs'.read
  have hk := hs'.keep
  clear hs'
  replace b3 := hid b3
  go_wp2_with fail
  go_ret
  refine ⟨ys.map (·.s), A', c', by simp, by simpa using b1, b2, by simpa using hl, b3.out, ?_⟩
  exact KeepB.below hb1 hk hb1.size (fun k hk => by omega)


end Go.Proofs.YtjhlbeamfngebaaDoor

/- The two tables of math/bits that the cards list: what a walk reads of them, and a world that holds them. -/
namespace Go.Proofs.YtjhlbeamfngebaaDoor
open Go.ChangeShapes Go.WideShapes Go.ChangeAt Go.RowKit AG

theorem g64 : Tryd.prog.globalNamed "math/bits.deBruijn64tab" = some 1 := by kernel_rfl
theorem g64Type : (Tryd.prog.globals[1]?).map (·.type) = some 198 := by kernel_rfl
theorem g64Under : Tryd.prog.underlying 198 = some (.array 64 5) := by kernel_rfl
theorem u8Under : Tryd.prog.underlying 5 = some (.int .u8) := by kernel_rfl
theorem u8Cells : Tryd.prog.cellsOf 5 = 1 := by kernel_rfl
theorem g64Cells : Tryd.prog.cellsOf 198 = 64 := by kernel_rfl

theorem tab_of_laid {W : World} (h : laidMetH Tryd.prog [("math/bits.deBruijn32tab", Rows.laid_math_bits_deBruijn32tab), ("math/bits.deBruijn64tab", Rows.laid_math_bits_deBruijn64tab)] W) : Tab W := by
  have h1 : laidMet Tryd.prog [("math/bits.deBruijn32tab", Rows.laid_math_bits_deBruijn32tab), ("math/bits.deBruijn64tab", Rows.laid_math_bits_deBruijn64tab)] W := h
  have h2 : laidMet Tryd.prog (("math/bits.deBruijn64tab", Lib.tabData .u8 (Lib.deBruijn64tab.map Int.ofNat)) :: []) W := laidMet.tail h1
  have h3 := Lib.tabIs_of_head g64 g64Type g64Under u8Under u8Cells g64Cells h2
  intro j hj
  rw [h3.cell g64 j (by simpa using hj)]
  simp [List.getD, hj]

def layTab (zs : List Nat) : Obj → Obj
  | .cells _ t frozen => .cells (zs.map fun n => Value.int .u8 (Int.ofNat n)).toArray t frozen
  | o => o

/-- A world for the witness: the settled one, the two tables holding what their initialisers lay. -/
noncomputable def laidWorld (os : Os) : World :=
  { World.holding Tryd.prog os ⟨#[], #[], []⟩ with heap := ((World.holding Tryd.prog os ⟨#[], #[], []⟩).heap.modify 0 (layTab Lib.deBruijn32tab)).modify 1 (layTab Lib.deBruijn64tab) }

end Go.Proofs.YtjhlbeamfngebaaDoor

/- The reference's l5Order. -/
namespace Go.Proofs.YtjhlbeamfngebaaDoor
open Go.RowKit Go.BigFrame Go.Maps AG

/-- A list of numbers under way. -/
structure OrdSt (w0 wr : World) (v : Value) (ns : List Nat) : Prop where
  below : Below w0.heap.size w0 wr
  own : wr.ownsRow w0.heap.size 3 1 v ns.length (natVals ns)
theorem OrdSt.later {w0 wr w' : World} {v : Value} {ns : List Nat} (h : OrdSt w0 wr v ns) (hb : Below wr.heap.size wr w') : OrdSt w0 w' v ns := ⟨h.below.trans (hb.mono h.below.size), own_later_ h.own hb⟩
theorem OrdSt.app {w0 wr w1 : World} {v v' : Value} {ns : List Nat} {o : Obj} {x : Nat} (h : OrdSt w0 wr v ns) (hg : (wr.alloc o).grownBy w1 v.ownBlock)
    (ho : w1.ownsRow w0.heap.size 3 1 v' (ns.length + 1) (natVals ns ++ [.int .i64 (x : Nat)])) : OrdSt w0 w1 v' (ns ++ [x]) := by
  have hkA : KeepB (fun b => v.ownBlock = some b) wr w1 := ((KeepB.refl _ wr).alloc o).grown hg fun k hk _ => hk
  refine ⟨hkA.below h.below h.below.size fun b e => own_block h.own b e, ?_⟩
  rw [List.length_append]
  unfold natVals at ho ⊢
  simpa using ho
theorem OrdSt.new (w0 : World) (x : Nat) : OrdSt w0 (w0.alloc (.cells #[.int .i64 (x : Nat)] 3)) (.slice (some ⟨w0.heap.size, 0, none⟩) 1 1) [x] :=
  ⟨(Below.refl _ _).alloc (Nat.le_refl _) _, ⟨rfl, .inr ⟨w0.heap.size, 1, #[.int .i64 (x : Nat)], rfl, Nat.le_refl _, heap_alloc_self _ _, Nat.le_refl _, by unfold maxLen; omega, rfl, rfl⟩⟩⟩
theorem OrdSt.new0 (w0 : World) : OrdSt w0 (w0.alloc (.cells #[] 3)) (.slice (some ⟨w0.heap.size, 0, none⟩) 0 0) [] :=
  ⟨(Below.refl _ _).alloc (Nat.le_refl _) _, ⟨rfl, .inr ⟨w0.heap.size, 0, #[], rfl, Nat.le_refl _, heap_alloc_self _ _, Nat.le_refl _, Nat.zero_le _, rfl, rfl⟩⟩⟩

end Go.Proofs.YtjhlbeamfngebaaDoor
