/- The drawing kit: FormatSystem, ParseSystem. -/
import Derived.Test.YtbomhfbiaedbiaaDoorD7
import Derived.Test.YtbomhfbiaedbiaaDoorD5
import Derived.Test.YtbomhfbiaedbiaaDoorW2
namespace Go.Proofs.YtbomhfbiaedbiaaDoor
open Go.RowKit Go.BigFrame AG

def isStr (N : Nat) (u : Value) : Prop := ∃ x : ByteArray, u = .string x ∧ x.size ≤ N

set_option maxRecDepth 100000 in
set_option maxHeartbeats 4000000 in
theorem formatSystem_any (s : Sy) (A : Option Addr) (c : Nat) (w : World) (hl : s.es.length ≤ c) (hc : c ≤ 9223372036854775807) (hL : s.es.length ≤ 10000) (hr : EdsAt w w.heap.size A s.es) :
    Calls Tryd.prog 159 #[s.val A c] w (StrPost 1000000000 w) := by
  unfold Sy.val
  replace hr := hid hr
  obtain ⟨w0, hw0, hz0, hB0, hS0, hS1, hS2⟩ := boxed3 w (Value.int IntKind.i64 s.al) (Value.int IntKind.i64 s.st) (Value.slice A s.es.length c) 36
  have hr0 := hid (hr.out.later hB0)
  have p0 := hS0 _ (Below.refl _ _)
  have p1 := hS1 _ (Below.refl _ _)
  have p2 := hS2 _ (Below.refl _ _)
  cases hok : sysOk s
  · replace hok := hid hok
    go_enter Tryd.func159, Tryd.ntmps159
    go_wp2_with fail
    refine (specSystemValid_any s A c w0 hl hc hr0.out).mono ?_
    rintro e w1 ⟨rfl, hb1⟩
    rw [hok.out]
    have hB1 : Below w.heap.size w w1 := hB0.trans (hb1.mono (by omega))
    go_wp2_with fail
    go_ret
    exact ⟨_, rfl, by decide, hB1⟩
  · have hst := sysOk_st hok
    have hin := hid (sysOk_in hok)
    replace hok := hid hok
    obtain ⟨sn, hsn⟩ := Int.eq_ofNat_of_zero_le (show 0 ≤ s.st by omega)
    have hsn16 : sn ≤ 1000 := by omega
    replace hsn := hid hsn
    go_enter Tryd.func159, Tryd.ntmps159
    go_wp2_with fail
    refine (specSystemValid_any s A c w0 hl hc hr0.out).mono ?_
    rintro e w1 ⟨rfl, hb1⟩
    rw [hok.out]
    have hb1' := hb1.mono hz0
    clear p0 p1 p2
    have p0 := hS0 _ hb1'
    have p1 := hS1 _ hb1'
    rw [hsn.out] at p1
    have q0 := GK.BI.cell p0
    have q1 := GK.BI.cell p1
    clear p0 p1 hw0
    go_wp2_with fail
    refine GK.wp_region 9 [] 200 (KeepB fun _ => False) (GK.BI w1) (fun _ u _ => isStr 1001 u) (by kernel_rfl) (by kernel_rfl) (GK.BI.way w1) (by decide) (Below.refl _ _).drew ?_
    simp only [List.take_succ_cons, List.take_zero]
    (repeat (refine GK.grow_quiet w1 (by rfl) (by rfl) ?_; intro K hK; go_big_quiet_op; go_big_quiet_on))
    refine GK.grow_call (by rfl) (fun u w w' _ h => h) (fun m wq hm hbq _ => ?_) ?_
    · go_simp
      exact ⟨rfl, (formatAlpha_any s.al wq).mono fun e w' ⟨x, h1, h2, h3⟩ => ⟨_, h1, hbq.after h3, x, rfl, by omega⟩⟩
    rintro u ⟨_, _, _, x, rfl, hx⟩
    simp only [Act.put, List.setIfInBounds_toArray, List.set_cons_zero, List.set_cons_succ]
    (repeat (refine GK.grow_quiet w1 (by rfl) (by rfl) ?_; intro K hK; go_big_quiet_op; go_big_quiet_on))
    refine GK.grow_call (by rfl) (fun u w w' _ h => h) (fun m wq hm hbq _ => ?_) ?_
    · go_simp
      exact ⟨rfl, (l19Dec_any sn hsn16 wq).mono fun e w' ⟨x, h1, h2, h3⟩ => ⟨_, h1, hbq.after h3, x, rfl, by omega⟩⟩
    rintro u ⟨_, _, _, y, rfl, hy⟩
    simp only [Act.put, List.setIfInBounds_toArray, List.set_cons_zero, List.set_cons_succ]
    (repeat (refine GK.grow_quiet w1 (by rfl) (by rfl) ?_; intro K hK; go_big_quiet_op; go_big_quiet_on))
    refine GK.grow_nil ?_
    intro w2 hw2 _
    simp only [List.filterMap_nil]
    have hw2' : Below w1.heap.size w1 w2 := hw2
    have hb2 := hb1'.trans (hw2'.mono (by have := hb1.size; omega))
    have hB2 : Below w.heap.size w w2 := hB0.trans (hb2.mono (by omega))
    have hr2 := hid (hr.out.later hB2)
    clear q0 q1
    go_wp2_with fail
    go_loopw [3, 4] (fun o i wr => ∃ (k : Nat) (x : ByteArray), i = .int .i64 k ∧ o = .string x ∧ x.size ≤ 10000 + k * 10000 ∧ k ≤ s.es.length ∧ Below w2.heap.size w2 wr) (fun _ i _ => s.es.length - (intOf i).toNat)
    case atStart => exact ⟨0, _, rfl, rfl, by rw [ByteArray.size_append, ByteArray.size_append]; show x.size + 1 + y.size ≤ _; omega, by omega, Below.refl _ _⟩
    case round =>
      clear hx hy
      obtain ⟨k, x, rfl, rfl, hx, hk, hb⟩ := hrel
      have hbw : Below (w.heap.size + 1) w0 wr := hb2.trans (hb.mono (by have := hB2.size; have := hb2.size; omega))
      have p0 := hS0 _ hbw
      have p2 := hS2 _ hbw
      have hzr := hb.size
      by_cases hlt : k < s.es.length
      · obtain ⟨b, o, rfl, hbb, hE⟩ := hr2.out (by omega)
        obtain ⟨e0, e1, e2⟩ := hE k hlt
        have hok2 := hin.out s.es[k] (List.getElem_mem _)
        replace hE := hid hE
        obtain ⟨f, hf⟩ := Int.eq_ofNat_of_zero_le hok2.1
        obtain ⟨tt, ht⟩ := Int.eq_ofNat_of_zero_le hok2.2.2.1
        obtain ⟨l, hll⟩ := Int.eq_ofNat_of_zero_le hok2.2.2.2.2.1
        have hf1 : f ≤ 1000 := by omega
        have ht1 : tt ≤ 1000 := by omega
        have hl1 : l < 6 := by omega
        rw [hf] at e0
        rw [hll] at e1
        rw [ht] at e2
        replace hf := hid hf
        replace ht := hid ht
        replace hll := hid hll
        replace hok2 := hid hok2
        have g0 : wr.cell? ⟨b, o + k * 3, none⟩ = some (.int .i64 (f : Nat)) := by rw [hb.cell (by simpa using hbb)]; exact e0
        have g1 : wr.cell? ⟨b, o + k * 3 + 1, none⟩ = some (.int .i64 (l : Nat)) := by rw [hb.cell (by simpa using hbb)]; exact e1
        have g2 : wr.cell? ⟨b, o + k * 3 + 2, none⟩ = some (.int .i64 (tt : Nat)) := by rw [hb.cell (by simpa using hbb)]; exact e2
        have k1 : (0 : Int) ≤ (k : Int) ∧ (k : Int) < (s.es.length : Int) := by omega
        clear e0 e1 e2
        have hnb : Below wr.heap.size wr (wr.alloc (.cells #[.int .i64 (f : Nat), .int .i64 (l : Nat), .int .i64 (tt : Nat)] 76)) := (Below.refl _ _).alloc (Nat.le_refl _) _
        have hnk := Blk.new wr 76 #[.int .i64 (f : Nat), .int .i64 (l : Nat), .int .i64 (tt : Nat)]
        generalize hw3 : wr.alloc (.cells #[.int .i64 (f : Nat), .int .i64 (l : Nat), .int .i64 (tt : Nat)] 76) = w3 at hnb hnk
        have m0 := hnk.cell 0
        have m1 := hnk.cell 1
        have m2 := hnk.cell 2
        simp only [List.getElem?_toArray, List.getElem?_cons_zero, List.getElem?_cons_succ] at m0 m1 m2
        have q0 := GK.BI.cell m0
        have q1 := GK.BI.cell m1
        have q2 := GK.BI.cell m2
        replace hnk := hid hnk
        go_wp2_with fail
        clear m0 m1 m2 g0 g1 g2 p0 p2
        refine GK.wp_region 14 [14] 200 (KeepB fun _ => False) (GK.BI w3) (fun _ u _ => isStr 1001 u) (by kernel_rfl) (by kernel_rfl) (GK.BI.way w3) (by decide) (Below.refl _ _).drew ?_
        simp only [List.take_succ_cons, List.take_zero]
        (repeat (refine GK.grow_quiet w3 (by rfl) (by rfl) ?_; intro K hK; go_big_quiet_op; go_big_quiet_on))
        refine GK.grow_call (by rfl) (fun u w w' _ h => h) (fun m wq hm hbq _ => ?_) ?_
        · go_simp
          exact ⟨rfl, (l19Dec_any f hf1 wq).mono fun e w' ⟨x, h1, h2, h3⟩ => ⟨_, h1, hbq.after h3, x, rfl, by omega⟩⟩
        rintro u ⟨_, _, _, y, rfl, hy⟩
        simp only [Act.put, List.setIfInBounds_toArray, List.set_cons_zero, List.set_cons_succ]
        (repeat (refine GK.grow_quiet w3 (by rfl) (by rfl) ?_; intro K hK; go_big_quiet_op; go_big_quiet_on))
        refine GK.grow_call (by rfl) (fun u w w' _ h => h) (fun m wq hm hbq _ => ?_) ?_
        · go_simp
          exact ⟨rfl, (l1Text_any l hl1 wq).mono fun e w' ⟨h1, h3⟩ => ⟨_, h1, hbq.after h3, _, rfl, by show 1 ≤ 1001; omega⟩⟩
        rintro u ⟨_, _, _, z, rfl, hz⟩
        simp only [Act.put, List.setIfInBounds_toArray, List.set_cons_zero, List.set_cons_succ]
        (repeat (refine GK.grow_quiet w3 (by rfl) (by rfl) ?_; intro K hK; go_big_quiet_op; go_big_quiet_on))
        refine GK.grow_call (by rfl) (fun u w w' _ h => h) (fun m wq hm hbq _ => ?_) ?_
        · go_simp
          exact ⟨rfl, (l19Dec_any tt ht1 wq).mono fun e w' ⟨x, h1, h2, h3⟩ => ⟨_, h1, hbq.after h3, x, rfl, by omega⟩⟩
        rintro u ⟨_, _, _, y2, rfl, hy2⟩
        simp only [Act.put, List.setIfInBounds_toArray, List.set_cons_zero, List.set_cons_succ]
        (repeat (refine GK.grow_quiet w3 (by rfl) (by rfl) ?_; intro K hK; go_big_quiet_op; go_big_quiet_on))
        refine GK.grow_nil ?_
        intro w4 hw4 _
        simp only [List.filterMap_cons, List.filterMap_nil, List.getElem?_cons_zero, List.getElem?_cons_succ]
        have hw4' : Below w3.heap.size w3 w4 := hw4
        have hb4 := hb.trans ((hnb.trans (hw4'.mono hnb.size)).mono hzr)
        clear q0 q1 q2
        go_wp2_with fail
        go_roundw
        case rel => exact ⟨k + 1, _, by go_num, rfl, by simp only [ByteArray.size_append]; show x.size + 1 + y.size + z.size + y2.size ≤ _; omega, by omega, hb4⟩
        case measure => simp [intOf]; omega
      · have hb4 := hB2.trans (hb.mono hB2.size)
        go_wp2_with fail
        go_ret
        exact ⟨_, rfl, by omega, hb4⟩

end Go.Proofs.YtbomhfbiaedbiaaDoor
