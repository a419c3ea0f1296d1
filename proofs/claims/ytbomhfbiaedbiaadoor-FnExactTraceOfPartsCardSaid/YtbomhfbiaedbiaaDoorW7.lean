/- The laws' own functions on systems: sizes, copies, comparisons. -/
import Derived.Test.YtbomhfbiaedbiaaDoorProg
import Derived.Test.YtbomhfbiaedbiaaDoorBase
namespace Go.Proofs.YtbomhfbiaedbiaaDoor
open Go.RowKit Go.BigFrame AG

set_option maxHeartbeats 400000 in
theorem szEdgeS_any (A : Option Addr) (n c : Nat) (left : Int) (w : World) (hn : n ≤ 9223372036854775807) (h0 : 0 ≤ left) (h1 : left ≤ 9223372036854775807) :
    Calls Tryd.prog 68 #[.slice A n c, .int .i64 left] w fun e w' => e = .returned (.int .i64 (sz1 n left)) ∧ w = w' := by
  go_enter Tryd.func68, Tryd.ntmps68
  go_wp2
  all_goals go_ret
  all_goals exact ⟨ret_int (by unfold sz1; split <;> omega), rfl⟩

set_option maxHeartbeats 400000 in
theorem szSystem_any (s : Sy) (A : Option Addr) (c : Nat) (left : Int) (w : World) (hn : s.es.length ≤ 9223372036854775807) (h0 : 0 ≤ left) (h1 : left ≤ 9223372036854775807) :
    Calls Tryd.prog 25 #[s.val A c, .int .i64 left] w fun e w' => e = .returned (.int .i64 (sz1 s.es.length left)) ∧ Below w.heap.size w w' := by
  unfold Sy.val
  go_enter Tryd.func25, Tryd.ntmps25
  go_wp2_with (go_at_call 68; refine (szEdgeS_any _ _ _ _ _ hn h0 h1).mono ?_; rintro e w' ⟨rfl, rfl⟩)
  all_goals go_ret
  all_goals exact ⟨ret_int (by unfold sz1 at *; split <;> simp_all <;> omega), by (repeat (first | exact Below.refl _ _ | assumption | refine Below.drew ?_ | refine Below.alloc ?_ (by first | omega | (simp; done) | (simp; omega)) _ | refine Below.setCell ?_ (by first | omega | (simp; done) | (simp; omega)) _))⟩

set_option maxHeartbeats 400000 in
theorem szSystemS_any (ss : List Sy) (A : Option Addr) (c : Nat) (left : Int) (w : World) (hn : ss.length ≤ 9223372036854775807) (hc : c ≤ 9223372036854775807) (hl : ss.length ≤ c) (h0 : 0 ≤ left) (h1 : left ≤ 9223372036854775807) (hr : SysAt w w.heap.size A ss) :
    Calls Tryd.prog 11 #[.slice A ss.length c, .int .i64 left] w fun e w' => e = .returned (.int .i64 (szSys ss left)) ∧ Below w.heap.size w w' := by
  replace hr := hid hr
  by_cases hb0 : left - ss.length < 0
  · go_enter Tryd.func11, Tryd.ntmps11
    go_wp2
    go_ret
    exact ⟨ret_int (by unfold szSys; rw [if_pos hb0]), Below.refl _ _⟩
  · have hsz : Hid (szSys ss left = szL (ss.map fun s => s.es.length) (left - ss.length)) := hid (by unfold szSys; rw [if_neg hb0])
    go_enter Tryd.func11, Tryd.ntmps11
    go_wp2
    go_loopw [1, 5] (fun l i wr => ∃ (k : Nat) (x : Int), i = .int .i64 k ∧ k ≤ ss.length ∧ l = .int .i64 x ∧ 0 ≤ x ∧ x ≤ 9223372036854775807 ∧ szL ((ss.drop k).map fun s => s.es.length) x = szL (ss.map fun s => s.es.length) (left - ss.length) ∧ Below w.heap.size w wr) (fun _ i _ => ss.length - (intOf i).toNat)
    case atStart => exact ⟨0, _, rfl, by omega, rfl, by omega, by omega, rfl, Below.refl _ _⟩
    case round =>
      obtain ⟨k, x, rfl, hk, rfl, hx0, hx1, hsl, hb⟩ := hrel
      by_cases hlt : k < ss.length
      · obtain ⟨b, o, Ai, ci, rfl, hB, c0, c1, c2, hAl, hAc, hAe⟩ := hr.out.get hlt
        rw [List.drop_eq_getElem_cons hlt, List.map_cons, szL] at hsl
        by_cases hneg : x - ss[k].es.length < 0
        · rw [if_pos hneg] at hsl
          have h1 : Hid (sz1 ss[k].es.length x = -1) := hid (by unfold sz1; rw [if_pos hneg])
          replace hsl := hid hsl
          replace hAe := hid hAe
          go_wp2_with (go_at_call 25; refine (szSystem_any ss[k] Ai ci x _ (by omega) (by omega) (by omega)).mono ?_; rintro e w' ⟨rfl, hb'⟩; rw [h1.out])
          go_ret
          exact ⟨by rw [hsz.out, ← hsl.out]; rfl, hb.trans (hb'.mono hb.size)⟩
        · rw [if_neg hneg] at hsl
          have h1 : Hid (sz1 ss[k].es.length x = x - ss[k].es.length) := hid (by unfold sz1; rw [if_neg hneg])
          replace hsl := hid hsl
          replace hAe := hid hAe
          go_wp2_with (go_at_call 25; refine (szSystem_any ss[k] Ai ci x _ (by omega) (by omega) (by omega)).mono ?_; rintro e w' ⟨rfl, hb'⟩; rw [h1.out])
          go_roundw
          case rel => exact ⟨k + 1, _, by go_num, by omega, rfl, by omega, by omega, hsl.out, hb.trans (hb'.mono hb.size)⟩
          case measure => simp [intOf]; omega
      · obtain rfl : k = ss.length := by omega
        replace hsl := hid hsl
        go_wp2
        go_ret
        exact ⟨ret_int (by have := hsl.out; rw [List.drop_length] at this; rw [hsz.out, ← this]; rfl), hb⟩

set_option maxHeartbeats 400000 in
theorem toEdge_any (a : Ed) (w : World) :
    Calls Tryd.prog 122 #[a.val] w fun e w' => e = .returned a.val ∧ Below w.heap.size w w' := by
  unfold Ed.val
  go_enter Tryd.func122, Tryd.ntmps122
  go_wp2
  exact bodyPost_ret (v := .agg #[.int .i64 a.f, .int .i64 a.l, .int .i64 a.t]) (by simp [results, Tryd.results122, go_sem]) rfl ⟨rfl, by (repeat (first | exact Below.refl _ _ | assumption | refine Below.drew ?_ | refine Below.alloc ?_ (by first | omega | (simp; done) | (simp; omega)) _ | refine Below.setCell ?_ (by first | omega | (simp; done) | (simp; omega)) _))⟩

theorem infoEdge : (Tryd.prog.info? 76).map (fun i => (i.zero, i.size, i.bytes)) = some (some (.agg #[.int .i64 0, .int .i64 0, .int .i64 0]), 3, 24) := by kernel_rfl

set_option maxHeartbeats 1000000 in
theorem toEdgeS_any (es : List Ed) (A : Option Addr) (c : Nat) (w : World) (hn : es.length ≤ 1048576) (hl : es.length ≤ c) (hc : c ≤ 9223372036854775807) (hr : EdsAt w w.heap.size A es) :
    Calls Tryd.prog 72 #[.slice A es.length c] w (EdsPost es w) := by
  replace hr := hid hr
  obtain ⟨i0, hi, hz0, hz1, hz2⟩ := info_parts infoEdge
  have hmk := fun W => run_make_rowN (P := Tryd.prog) 34 76 i0 _ Tryd.underlying34 hi hz0 .i64 .i64 es.length es.length (Nat.le_refl _) (by rw [hz2]; omega) (by omega) W
  rw [hz1] at hmk
  clear hz1 hz0 hz2 hi
  go_enter Tryd.func72, Tryd.ntmps72
  go_wp2
  have hblk0 := Blk.new w 76 (madeCells #[Value.int IntKind.i64 0, Value.int IntKind.i64 0, Value.int IntKind.i64 0] (es.length * 3))
  have hin0 : EdsIn (madeCells #[Value.int IntKind.i64 0, Value.int IntKind.i64 0, Value.int IntKind.i64 0] (es.length * 3)) es 0 := ⟨size_madeCells _ _, fun i _ h => by omega⟩
  replace hblk0 := hid hblk0
  replace hin0 := hid hin0
  go_loopw [4] (fun i wr => ∃ (k : Nat) (cs : Array Value), i = .int .i64 k ∧ k ≤ es.length ∧ EdsIn cs es k ∧ Blk wr w.heap.size 76 cs ∧ Below w.heap.size w wr) (fun i _ => es.length - (intOf i).toNat)
  case atStart => exact ⟨0, _, rfl, by omega, hin0.out, hblk0.out, by (repeat (first | exact Below.refl _ _ | assumption | refine Below.drew ?_ | refine Below.alloc ?_ (by first | omega | (simp; done) | (simp; omega)) _ | refine Below.setCell ?_ (by first | omega | (simp; done) | (simp; omega)) _))⟩
  case round =>
    obtain ⟨k, cs, rfl, hk, hin, hblk, hb⟩ := hrel
    by_cases hlt : k < es.length
    · obtain ⟨b, o, rfl, hB, hE⟩ := hr.out.get (Below.refl _ _) (Nat.le_refl _) hlt
      obtain ⟨e0, e1, e2⟩ := hE k hlt
      have hsz := hin.1
      have hg := hblk.lt
      have hnx := hid (hin.next hlt)
      replace hblk := hid hblk
      replace hin := hid hin
      replace hE := hid hE
      go_wp2_with (go_at_call 122; refine (toEdge_any es[k] _).mono ?_; rintro e w1 ⟨rfl, hb1⟩; obtain ⟨hbl1, ⟨v0, d0⟩, ⟨v1, d1⟩, ⟨v2, d2⟩, z0, z1, z2⟩ := hblk.out.three hb1 hg (i := k * 3) (by omega); unfold Ed.val; replace hbl1 := hid hbl1)
      have hb2 := hb.trans (hb1.mono hb.size)
      go_roundw
      case rel => exact ⟨k + 1, _, by go_num, by omega, hnx.out, ((hbl1.out.set_ _ _).set_ _ _).set_ _ _, by (repeat (first | exact Below.refl _ _ | assumption | refine Below.drew ?_ | refine Below.alloc ?_ (by first | omega | (simp; done) | (simp; omega)) _ | refine Below.setCell ?_ (by first | omega | (simp; done) | (simp; omega)) _))⟩
      case measure => simp [intOf]; omega
    · obtain rfl : k = es.length := by omega
      have hat := hid (hin.at_ hblk)
      replace hblk := hid hblk
      replace hin := hid hin
      go_wp2
      go_ret
      exact ⟨_, rfl, hat.out, fun b o e => by injection e with e; injection e with e; omega, hb⟩

set_option maxHeartbeats 400000 in
theorem toSystem_any (s : Sy) (A : Option Addr) (c : Nat) (w : World) (hn : s.es.length ≤ 1048576) (hl : s.es.length ≤ c) (hc : c ≤ 9223372036854775807) (hr : EdsAt w w.heap.size A s.es) :
    Calls Tryd.prog 27 #[s.val A c] w (SyPost s w) := by
  unfold Sy.val
  replace hr := hid hr
  go_enter Tryd.func27, Tryd.ntmps27
  go_wp2_with fail
  obtain ⟨w0, hw0⟩ : ∃ w0, ((w.alloc (Obj.cells #[Value.int IntKind.i64 s.al, Value.int IntKind.i64 s.st, Value.slice A s.es.length c] 48)).alloc (Obj.cells #[Value.int IntKind.i64 0, Value.int IntKind.i64 0, Value.slice none 0 0] 36)).alloc
      (Obj.cells #[Value.int IntKind.i64 s.al, Value.int IntKind.i64 s.st, Value.slice none 0 0] 36) = w0 := ⟨_, rfl⟩
  have hz : w0.heap.size = w.heap.size + 3 := by rw [← hw0]; simp
  have hB0 : Below w.heap.size w w0 := by rw [← hw0]; (repeat (first | exact Below.refl _ _ | assumption | refine Below.drew ?_ | refine Below.alloc ?_ (by first | omega | (simp; done) | (simp; omega)) _ | refine Below.setCell ?_ (by first | omega | (simp; done) | (simp; omega)) _))
  have k1 : Blk w0 (w.heap.size + 1) 36 #[Value.int IntKind.i64 0, Value.int IntKind.i64 0, Value.slice none 0 0] := by
    rw [← hw0]
    refine Blk.alloc ?_ _
    have := Blk.new (w.alloc (Obj.cells #[Value.int IntKind.i64 s.al, Value.int IntKind.i64 s.st, Value.slice A s.es.length c] 48)) 36 #[Value.int IntKind.i64 0, Value.int IntKind.i64 0, Value.slice none 0 0]
    simpa using this
  have k2 : Blk w0 (w.heap.size + 1 + 1) 36 #[Value.int IntKind.i64 s.al, Value.int IntKind.i64 s.st, Value.slice none 0 0] := by
    rw [← hw0]
    have := Blk.new ((w.alloc (Obj.cells #[Value.int IntKind.i64 s.al, Value.int IntKind.i64 s.st, Value.slice A s.es.length c] 48)).alloc (Obj.cells #[Value.int IntKind.i64 0, Value.int IntKind.i64 0, Value.slice none 0 0] 36)) 36 #[Value.int IntKind.i64 s.al, Value.int IntKind.i64 s.st, Value.slice none 0 0]
    simpa using this
  rw [hw0]
  clear hw0
  have hr0 : EdsAt w0 w0.heap.size A s.es := hr.out.later hB0
  refine (toEdgeS_any s.es A c w0 hn hl hc hr0).mono ?_
  rintro e w1 ⟨A', rfl, hA', hfr, hb1⟩
  have hk1 := k1.below hb1 (by omega)
  have hk2 := k2.below hb1 (by omega)
  have c0 : w1.cell? ⟨w.heap.size + 1, 0, none⟩ = some (.int .i64 0) := by rw [hk1.cell]; rfl
  have c1 : w1.cell? ⟨w.heap.size + 1, 1, none⟩ = some (.int .i64 0) := by rw [hk1.cell]; rfl
  have c2 : w1.cell? ⟨w.heap.size + 1, 2, none⟩ = some (.slice none 0 0) := by rw [hk1.cell]; rfl
  have d0 : w1.cell? ⟨w.heap.size + 1 + 1, 0, none⟩ = some (.int .i64 s.al) := by rw [hk2.cell]; rfl
  have d1 : w1.cell? ⟨w.heap.size + 1 + 1, 1, none⟩ = some (.int .i64 s.st) := by rw [hk2.cell]; rfl
  have d2 : w1.cell? ⟨w.heap.size + 1 + 1, 2, none⟩ = some (.slice none 0 0) := by rw [hk2.cell]; rfl
  have y0 := hk1.frozen 0
  have y1 := hk1.frozen 1
  have y2 := hk1.frozen 2
  have y3 := hk2.frozen 2
  have hB1 : Below w.heap.size w w1 := hB0.trans (hb1.mono (by omega))
  rw [hz] at hfr
  clear k1 k2 hr0
  replace hk1 := hid hk1
  replace hk2 := hid hk2
  replace hA' := hid hA'
  replace hfr := hid hfr
  replace hz := hid hz
  go_wp2
  refine bodyPost_ret (v := .agg #[.int .i64 s.al, .int .i64 s.st, .slice A' s.es.length s.es.length]) (by simp [results, Tryd.results27, go_sem, c0, c1, c2]) rfl ⟨A', rfl, ?_, fun b o e => by have := hfr.out b o e; omega, by (repeat (first | exact Below.refl _ _ | assumption | refine Below.drew ?_ | refine Below.alloc ?_ (by first | omega | (simp; done) | (simp; omega)) _ | refine Below.setCell ?_ (by first | omega | (simp; done) | (simp; omega)) _))⟩
  have e1 := hA'.out.setFar hfr.out (g := w.heap.size + 1 + 1) (i := 2) (.slice A' s.es.length s.es.length) (by omega)
  have e2 := e1.setFar hfr.out (g := w.heap.size + 1) (i := 0) (.int .i64 s.al) (by omega)
  have e3 := e2.setFar hfr.out (g := w.heap.size + 1) (i := 1) (.int .i64 s.st) (by omega)
  exact e3.setFar hfr.out (g := w.heap.size + 1) (i := 2) _ (by omega)

theorem infoSystem : (Tryd.prog.info? 36).map (fun i => (i.zero, i.size, i.bytes)) = some (some (.agg #[.int .i64 0, .int .i64 0, .slice none 0 0]), 3, 40) := by kernel_rfl

set_option maxHeartbeats 1000000 in
theorem toSystemS_any (ss : List Sy) (A : Option Addr) (c : Nat) (w : World) (hn : ss.length ≤ 1048576) (hes : ∀ s ∈ ss, s.es.length ≤ 1048576) (hl : ss.length ≤ c) (hc : c ≤ 9223372036854775807) (hr : SysAt w w.heap.size A ss) :
    Calls Tryd.prog 13 #[.slice A ss.length c] w (SysPost ss w) := by
  replace hr := hid hr
  replace hes := hid hes
  obtain ⟨i0, hi, hz0, hz1, hz2⟩ := info_parts infoSystem
  have hmk := fun W => run_make_rowN (P := Tryd.prog) 25 36 i0 _ Tryd.underlying25 hi hz0 .i64 .i64 ss.length ss.length (Nat.le_refl _) (by rw [hz2]; omega) (by omega) W
  rw [hz1] at hmk
  clear hz1 hz0 hz2 hi
  go_enter Tryd.func13, Tryd.ntmps13
  go_wp2
  have hblk0 := Blk.new w 36 (madeCells #[Value.int IntKind.i64 0, Value.int IntKind.i64 0, Value.slice none 0 0] (ss.length * 3))
  have hin0 : SysIn (w.alloc (.cells (madeCells #[Value.int IntKind.i64 0, Value.int IntKind.i64 0, Value.slice none 0 0] (ss.length * 3)) 36)) w.heap.size (madeCells #[Value.int IntKind.i64 0, Value.int IntKind.i64 0, Value.slice none 0 0] (ss.length * 3)) ss 0 := ⟨size_madeCells _ _, fun i _ h => by omega⟩
  replace hblk0 := hid hblk0
  replace hin0 := hid hin0
  go_loopw [4] (fun i wr => ∃ (k : Nat) (cs : Array Value), i = .int .i64 k ∧ k ≤ ss.length ∧ SysIn wr w.heap.size cs ss k ∧ Blk wr w.heap.size 36 cs ∧ Below w.heap.size w wr) (fun i _ => ss.length - (intOf i).toNat)
  case atStart => exact ⟨0, _, rfl, by omega, hin0.out, hblk0.out, by (repeat (first | exact Below.refl _ _ | assumption | refine Below.drew ?_ | refine Below.alloc ?_ (by first | omega | (simp; done) | (simp; omega)) _ | refine Below.setCell ?_ (by first | omega | (simp; done) | (simp; omega)) _))⟩
  case round =>
    obtain ⟨k, cs, rfl, hk, hin, hblk, hb⟩ := hrel
    by_cases hlt : k < ss.length
    · obtain ⟨b, o, Ai, ci, rfl, hB, c0, c1, c2, hAl, hAc, hAe⟩ := hr.out.get hlt
      have hsz := hin.1
      have hg := hblk.lt
      have hsk := hes.out ss[k] (List.getElem_mem _)
      have hAe' : EdsAt wr wr.heap.size Ai ss[k].es := (hAe.keep hb).more hb.size
      replace hAe := hid hAe'
      clear hAe'
      replace hblk := hid hblk
      replace hin := hid hin
      go_wp2_with (go_at_call 27; refine (toSystem_any ss[k] Ai ci _ hsk hAl hAc hAe.out).mono ?_; rintro e w1 ⟨A', rfl, hA', hfr, hb1⟩; obtain ⟨hbl1, ⟨v0, d0⟩, ⟨v1, d1⟩, ⟨v2, d2⟩, z0, z1, z2⟩ := hblk.out.three hb1 hg (i := k * 3) (by omega); unfold Sy.val; replace hbl1 := hid hbl1; replace hA' := hid hA'; replace hfr := hid hfr)
      have hb2 := hb.trans (hb1.mono hb.size)
      have hnx := (hin.out.later hb1).next hlt (A := A') (c := ss[k].es.length) (Nat.le_refl _) (by omega) hA'.out (fun b o e => by have := hfr.out b o e; omega)
      go_roundw
      case rel => exact ⟨k + 1, _, by go_num, by omega, ((hnx.set_ _).set_ _).set_ _, ((hbl1.out.set_ _ _).set_ _ _).set_ _ _, by (repeat (first | exact Below.refl _ _ | assumption | refine Below.drew ?_ | refine Below.alloc ?_ (by first | omega | (simp; done) | (simp; omega)) _ | refine Below.setCell ?_ (by first | omega | (simp; done) | (simp; omega)) _))⟩
      case measure => simp [intOf]; omega
    · obtain rfl : k = ss.length := by omega
      have hat := hid (hin.at_ hblk)
      replace hblk := hid hblk
      replace hin := hid hin
      go_wp2
      go_ret
      exact ⟨_, rfl, hat.out, hb⟩

set_option maxHeartbeats 400000 in
theorem eqEdge_any (a b : Ed) (w : World) :
    Calls Tryd.prog 113 #[a.val, b.val] w fun e w' => e = .returned (.bool (decide (a = b))) ∧ Below w.heap.size w w' := by
  obtain ⟨af, al, at_⟩ := a
  obtain ⟨bf, bl, bt⟩ := b
  unfold Ed.val
  go_enter Tryd.func113, Tryd.ntmps113
  go_wp2
  all_goals go_ret
  all_goals exact ⟨ret_bool (by simp_all), by (repeat (first | exact Below.refl _ _ | assumption | refine Below.drew ?_ | refine Below.alloc ?_ (by first | omega | (simp; done) | (simp; omega)) _ | refine Below.setCell ?_ (by first | omega | (simp; done) | (simp; omega)) _))⟩

set_option maxHeartbeats 1000000 in
theorem eqEdgeS_any (es fs : List Ed) (A B : Option Addr) (c d : Nat) (w : World) (hn : es.length ≤ c) (hc : c ≤ 9223372036854775807) (hm : fs.length ≤ d) (_hd : d ≤ 9223372036854775807) (hr : EdsAt w w.heap.size A es) (hs : EdsAt w w.heap.size B fs) :
    Calls Tryd.prog 61 #[.slice A es.length c, .slice B fs.length d] w fun e w' => e = .returned (.bool (decide (es = fs))) ∧ Below w.heap.size w w' := by
  replace hr := hid hr
  replace hs := hid hs
  by_cases hlen : es.length = fs.length
  · go_enter Tryd.func61, Tryd.ntmps61
    go_wp2
    go_loopw [5] (fun i wr => ∃ k : Nat, i = .int .i64 k ∧ k ≤ es.length ∧ (∀ i (h : i < es.length) (h' : i < fs.length), i < k → es[i] = fs[i]) ∧ Below w.heap.size w wr) (fun i _ => es.length - (intOf i).toNat)
    case atStart => exact ⟨0, rfl, by omega, by intro i _ _ h; omega, Below.refl _ _⟩
    case round =>
      obtain ⟨k, rfl, hk, heq, hb⟩ := hrel
      by_cases hlt : k < es.length
      · obtain ⟨b, o, rfl, hB, hE⟩ := hr.out.get (Below.refl _ _) (Nat.le_refl _) hlt
        obtain ⟨b', o', rfl, hB', hF⟩ := hs.out.get (Below.refl _ _) (Nat.le_refl _) (show k < fs.length by omega)
        obtain ⟨e0, e1, e2⟩ := hE k hlt
        obtain ⟨f0, f1, f2⟩ := hF k (by omega)
        replace hE := hid hE
        replace hF := hid hF
        have hB1 := hid hB
        have g0 := fun x => e0 _ (Fam.below _ _ x)
        have g1 := fun x => e1 _ (Fam.below _ _ x)
        have g2 := fun x => e2 _ (Fam.below _ _ x)
        have i0 := fun x => f0 _ (Fam.below _ _ x)
        have i1 := fun x => f1 _ (Fam.below _ _ x)
        have i2 := fun x => f2 _ (Fam.below _ _ x)
        cases hq : decide (es[k] = fs[k])
        all_goals
          replace hq := hid hq
          replace heq := hid heq
          go_wp2_with fail
          refine wp_region_fam w.heap.size w (by kernel_rfl) (by kernel_rfl) hb ?_
          (repeat (go_big_quiet_step ((refine (eqEdge_any es[k] fs[k] _).mono ?_; rintro e w1 ⟨rfl, hb1⟩; exact ⟨by rw [hq.out], Fam.next (Nat.le_refl _) hb1⟩))))
          refine wpQuiet_nil ?_
          intro w2 hw2
          replace hw2 := Fam.out hw2
          go_wp2
        · go_ret
          exact ⟨ret_bool (by
            have := hq.out
            rw [decide_eq_false_iff_not] at this
            rw [eq_comm, decide_eq_false_iff_not]
            intro h
            subst h
            exact this rfl), hw2⟩
        · go_roundw
          case rel =>
            refine ⟨k + 1, by go_num, by omega, fun i hi hi' hik => ?_, hw2⟩
            by_cases e : i = k
            · subst e; exact of_decide_eq_true hq.out
            · exact heq.out i hi hi' (by omega)
          case measure => simp [intOf]; omega
      · replace heq := hid heq
        go_wp2
        go_ret
        exact ⟨ret_bool (by
          rw [eq_comm, decide_eq_true_iff]
          exact List.ext_getElem hlen fun i hi hi' => heq.out i hi hi' (by omega)), hb⟩
  · go_enter Tryd.func61, Tryd.ntmps61
    go_wp2
    go_ret
    exact ⟨ret_bool (by rw [eq_comm, decide_eq_false_iff_not]; intro h; exact hlen (by rw [h])), Below.refl _ _⟩

set_option maxHeartbeats 1000000 in
theorem eqSystem_any (s t : Sy) (A B : Option Addr) (c d : Nat) (w : World) (hn : s.es.length ≤ c) (hc : c ≤ 9223372036854775807) (hm : t.es.length ≤ d) (hd : d ≤ 9223372036854775807) (hr : EdsAt w w.heap.size A s.es) (hs : EdsAt w w.heap.size B t.es) :
    Calls Tryd.prog 20 #[s.val A c, t.val B d] w fun e w' => e = .returned (.bool (decide (s = t))) ∧ Below w.heap.size w w' := by
  obtain ⟨sa, ss, se⟩ := s
  obtain ⟨ta, ts, te⟩ := t
  dsimp only at hn hm hr hs
  have hsp : Hid (decide (({ al := sa, st := ss, es := se } : Sy) = { al := ta, st := ts, es := te }) = (decide (sa = ta) && (decide (ss = ts) && decide (se = te)))) := hid (by simp)
  unfold Sy.val
  replace hr := hid hr
  replace hs := hid hs
  go_enter Tryd.func20, Tryd.ntmps20
  go_wp2_with (refine (eqEdgeS_any se te A B c d _ hn hc hm hd (hr.out.later (by (repeat (first | exact Below.refl _ _ | assumption | refine Below.drew ?_ | refine Below.alloc ?_ (by first | omega | (simp; done) | (simp; omega)) _ | refine Below.setCell ?_ (by first | omega | (simp; done) | (simp; omega)) _)))) (hs.out.later (by (repeat (first | exact Below.refl _ _ | assumption | refine Below.drew ?_ | refine Below.alloc ?_ (by first | omega | (simp; done) | (simp; omega)) _ | refine Below.setCell ?_ (by first | omega | (simp; done) | (simp; omega)) _))))).mono ?_; rintro e w' ⟨rfl, hb⟩)
  all_goals
    go_ret
    exact ⟨ret_bool (by rw [hsp.out]; simp_all), by first | ((repeat (first | exact Below.refl _ _ | assumption | refine Below.drew ?_ | refine Below.alloc ?_ (by first | omega | (simp; done) | (simp; omega)) _ | refine Below.setCell ?_ (by first | omega | (simp; done) | (simp; omega)) _)); done) | exact Below.trans (by (repeat (first | exact Below.refl _ _ | assumption | refine Below.drew ?_ | refine Below.alloc ?_ (by first | omega | (simp; done) | (simp; omega)) _ | refine Below.setCell ?_ (by first | omega | (simp; done) | (simp; omega)) _))) (hb.mono (by first | (simp; done) | (simp; omega)))⟩

set_option maxHeartbeats 1000000 in
theorem eqSystemS_any (es fs : List Sy) (A B : Option Addr) (c d : Nat) (w : World) (hn : es.length ≤ c) (hc : c ≤ 9223372036854775807) (hm : fs.length ≤ d) (hr : SysAt w w.heap.size A es) (hs : SysAt w w.heap.size B fs) :
    Calls Tryd.prog 15 #[.slice A es.length c, .slice B fs.length d] w fun e w' => e = .returned (.bool (decide (es = fs))) ∧ Below w.heap.size w w' := by
  replace hr := hid hr
  replace hs := hid hs
  by_cases hlen : es.length = fs.length
  · go_enter Tryd.func15, Tryd.ntmps15
    go_wp2
    go_loopw [5] (fun i wr => ∃ k : Nat, i = .int .i64 k ∧ k ≤ es.length ∧ (∀ i (h : i < es.length) (h' : i < fs.length), i < k → es[i] = fs[i]) ∧ Below w.heap.size w wr) (fun i _ => es.length - (intOf i).toNat)
    case atStart => exact ⟨0, rfl, by omega, by intro i _ _ h; omega, Below.refl _ _⟩
    case round =>
      obtain ⟨k, rfl, hk, heq, hb⟩ := hrel
      by_cases hlt : k < es.length
      · obtain ⟨b, o, Ai, ci, rfl, hB, e0, e1, e2, hAl, hAc, hAe⟩ := hr.out.get hlt
        obtain ⟨b', o', Bi, di, rfl, hB', f0, f1, f2, hBl, hBc, hBe⟩ := hs.out.get (show k < fs.length by omega)
        have hB1 := hid hB
        have g0 := fun x => e0 _ (Fam.below _ _ x)
        have g1 := fun x => e1 _ (Fam.below _ _ x)
        have g2 := fun x => e2 _ (Fam.below _ _ x)
        have i0 := fun x => f0 _ (Fam.below _ _ x)
        have i1 := fun x => f1 _ (Fam.below _ _ x)
        have i2 := fun x => f2 _ (Fam.below _ _ x)
        have hAe' : ∀ x, EdsAt (Fam w.heap.size w x) (Fam w.heap.size w x).heap.size Ai es[k].es := fun x => hAe.later (Fam.below _ _ x)
        have hBe' : ∀ x, EdsAt (Fam w.heap.size w x) (Fam w.heap.size w x).heap.size Bi fs[k].es := fun x => hBe.later (Fam.below _ _ x)
        replace hAe := hid hAe'
        replace hBe := hid hBe'
        clear hAe' hBe'
        cases hq : decide (es[k] = fs[k])
        all_goals
          replace hq := hid hq
          replace heq := hid heq
          go_wp2_with fail
          refine wp_region_fam w.heap.size w (by kernel_rfl) (by kernel_rfl) hb ?_
          (repeat (go_big_quiet_step ((refine (eqSystem_any es[k] fs[k] Ai Bi ci di _ hAl hAc hBl hBc (hAe.out _) (hBe.out _)).mono ?_; rintro e w1 ⟨rfl, hb1⟩; exact ⟨by rw [hq.out], Fam.next (Nat.le_refl _) hb1⟩))))
          refine wpQuiet_nil ?_
          intro w2 hw2
          replace hw2 := Fam.out hw2
          go_wp2
        · go_ret
          exact ⟨ret_bool (by
            have := hq.out
            rw [decide_eq_false_iff_not] at this
            rw [eq_comm, decide_eq_false_iff_not]
            intro h
            subst h
            exact this rfl), hw2⟩
        · go_roundw
          case rel =>
            refine ⟨k + 1, by go_num, by omega, fun i hi hi' hik => ?_, hw2⟩
            by_cases e : i = k
            · subst e; exact of_decide_eq_true hq.out
            · exact heq.out i hi hi' (by omega)
          case measure => simp [intOf]; omega
      · replace heq := hid heq
        go_wp2
        go_ret
        exact ⟨ret_bool (by
          rw [eq_comm, decide_eq_true_iff]
          exact List.ext_getElem hlen fun i hi hi' => heq.out i hi hi' (by omega)), hb⟩
  · go_enter Tryd.func15, Tryd.ntmps15
    go_wp2
    go_ret
    exact ⟨ret_bool (by rw [eq_comm, decide_eq_false_iff_not]; intro h; exact hlen (by rw [h])), Below.refl _ _⟩

end Go.Proofs.YtbomhfbiaedbiaaDoor
