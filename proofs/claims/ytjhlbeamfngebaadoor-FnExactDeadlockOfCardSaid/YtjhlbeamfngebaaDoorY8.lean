/- Lemmas, part 8: several texts in one. -/
import Derived.Test.YtjhlbeamfngebaaDoorProg
import Derived.Test.YtjhlbeamfngebaaDoorY2
import Derived.Test.YtjhlbeamfngebaaDoorY7
import Derived.Test.YtjhlbeamfngebaaDoorY5
import Derived.Lib.SmallJoins
import Derived.Test.YtjhlbeamfngebaaDoorY4
import Derived.Test.YtjhlbeamfngebaaDoorY3
import Derived.Test.YtjhlbeamfngebaaDoorY1
import Derived.Deep.Upon
import Derived.Deep.AppendSrc
set_option linter.unusedSimpArgs false
set_option linter.unusedVariables false

/- The laws' own functions on systems: sizes, copies, comparisons. -/
namespace Go.Proofs.YtjhlbeamfngebaaDoor
open Go.RowKit Go.BigFrame AG

set_option maxHeartbeats 400000 in
theorem szEdgeS_any (A : Option Addr) (n c : Nat) (left : Int) (w : World) (hn : n ≤ 9223372036854775807) (h0 : 0 ≤ left) (h1 : left ≤ 9223372036854775807) :
    Calls Tryd.prog 128 #[.slice A n c, .int .i64 left] w fun e w' => e = .returned (.int .i64 (sz1 n left)) ∧ w = w' := by
  go_enter Tryd.func128, Tryd.ntmps128
  go_wp2
  all_goals go_ret
  all_goals exact ⟨ret_int (by unfold sz1; split <;> omega), rfl⟩

set_option maxHeartbeats 400000 in
theorem szSystem_any (s : Sy) (A : Option Addr) (c : Nat) (left : Int) (w : World) (hn : s.es.length ≤ 9223372036854775807) (h0 : 0 ≤ left) (h1 : left ≤ 9223372036854775807) :
    Calls Tryd.prog 72 #[s.val A c, .int .i64 left] w fun e w' => e = .returned (.int .i64 (sz1 s.es.length left)) ∧ Below w.heap.size w w' := by
  unfold Sy.val
  go_enter Tryd.func72, Tryd.ntmps72
  go_wp2_with (go_at_call 128; refine (szEdgeS_any _ _ _ _ _ hn h0 h1).mono ?_; rintro e w' ⟨rfl, rfl⟩)
  all_goals go_ret
  all_goals exact ⟨ret_int (by unfold sz1 at *; split <;> simp_all <;> omega), by (repeat (first | exact Below.refl _ _ | assumption | refine Below.drew ?_ | refine Below.alloc ?_ (by first | omega | (simp; done) | (simp; omega)) _ | refine Below.setCell ?_ (by first | omega | (simp; done) | (simp; omega)) _))⟩

set_option maxHeartbeats 400000 in
theorem szSystemS_any (ss : List Sy) (A : Option Addr) (c : Nat) (left : Int) (w : World) (hn : ss.length ≤ 9223372036854775807) (hc : c ≤ 9223372036854775807) (hl : ss.length ≤ c) (h0 : 0 ≤ left) (h1 : left ≤ 9223372036854775807) (hr : SysAt w w.heap.size A ss) :
    Calls Tryd.prog 26 #[.slice A ss.length c, .int .i64 left] w fun e w' => e = .returned (.int .i64 (szSys ss left)) ∧ Below w.heap.size w w' := by
  replace hr := hid hr
  by_cases hb0 : left - ss.length < 0
  · go_enter Tryd.func26, Tryd.ntmps26
    go_wp2
    go_ret
    exact ⟨ret_int (by unfold szSys; rw [if_pos hb0]), Below.refl _ _⟩
  · have hsz : Hid (szSys ss left = szL (ss.map fun s => s.es.length) (left - ss.length)) := hid (by unfold szSys; rw [if_neg hb0])
    go_enter Tryd.func26, Tryd.ntmps26
    go_wp2
    go_loopw [1, 5] (fun l i wr => ∃ (k : Nat) (x : Int), i = .int .i64 k ∧ k ≤ ss.length ∧ l = .int .i64 x ∧ 0 ≤ x ∧ x ≤ 9223372036854775807 ∧ szL ((ss.drop k).map fun s => s.es.length) x = szL (ss.map fun s => s.es.length) (left - ss.length) ∧ Below w.heap.size w wr) (fun _ i _ => ss.length - (intOf i).toNat)
    case atStart => exact ⟨0, _, rfl, by omega, rfl, by omega, by omega, rfl, Below.refl _ _⟩
    case round =>
      obtain ⟨k, x, rfl, hk, rfl, hx0, hx1, hsl, hb⟩ := hrel
      by_cases hlt : k < ss.length
      · obtain ⟨b, o, Ai, ci, rfl, hB, c0, c1, c2, hAl, hAc, hAe⟩ := hr.out.get hlt
        rw [List.drop_eq_getElem_cons hlt, List.map_cons, szL] at hsl
        by_cases hneg : x - ss[k].es.length < 0
        · rw [if_pos hneg] at hsl
          have h1 : Hid (sz1 ss[k].es.length x = -1) := hid (by unfold sz1; rw [if_pos hneg])
          replace hsl := hid hsl
          replace hAe := hid hAe
          go_wp2_with (go_at_call 72; refine (szSystem_any ss[k] Ai ci x _ (by omega) (by omega) (by omega)).mono ?_; rintro e w' ⟨rfl, hb'⟩; rw [h1.out])
          go_ret
          exact ⟨by rw [hsz.out, ← hsl.out]; rfl, hb.trans (hb'.mono hb.size)⟩
        · rw [if_neg hneg] at hsl
          have h1 : Hid (sz1 ss[k].es.length x = x - ss[k].es.length) := hid (by unfold sz1; rw [if_neg hneg])
          replace hsl := hid hsl
          replace hAe := hid hAe
          go_wp2_with (go_at_call 72; refine (szSystem_any ss[k] Ai ci x _ (by omega) (by omega) (by omega)).mono ?_; rintro e w' ⟨rfl, hb'⟩; rw [h1.out])
          go_roundw
          case rel => exact ⟨k + 1, _, by go_num, by omega, rfl, by omega, by omega, hsl.out, hb.trans (hb'.mono hb.size)⟩
          case measure => simp [intOf]; omega
      · obtain rfl : k = ss.length := by omega
        replace hsl := hid hsl
        go_wp2
        go_ret
        exact ⟨ret_int (by have := hsl.out; rw [List.drop_length] at this; rw [hsz.out, ← this]; rfl), hb⟩

set_option maxHeartbeats 400000 in
theorem toEdge_any (a : Ed) (w : World) :
    Calls Tryd.prog 179 #[a.val] w fun e w' => e = .returned a.val ∧ Below w.heap.size w w' := by
  unfold Ed.val
  go_enter Tryd.func179, Tryd.ntmps179
  go_wp2
  exact bodyPost_ret (v := .agg #[.int .i64 a.f, .int .i64 a.l, .int .i64 a.t]) (by simp [results, Tryd.results179, go_sem]) rfl ⟨rfl, by (repeat (first | exact Below.refl _ _ | assumption | refine Below.drew ?_ | refine Below.alloc ?_ (by first | omega | (simp; done) | (simp; omega)) _ | refine Below.setCell ?_ (by first | omega | (simp; done) | (simp; omega)) _))⟩

theorem infoEdge : (Tryd.prog.info? 77).map (fun i => (i.zero, i.size, i.bytes)) = some (some (.agg #[.int .i64 0, .int .i64 0, .int .i64 0]), 3, 24) := by kernel_rfl

set_option maxHeartbeats 1000000 in
theorem toEdgeS_any (es : List Ed) (A : Option Addr) (c : Nat) (w : World) (hn : es.length ≤ 1048576) (hl : es.length ≤ c) (hc : c ≤ 9223372036854775807) (hr : EdsAt w w.heap.size A es) :
    Calls Tryd.prog 137 #[.slice A es.length c] w (EdsPost es w) := by
  replace hr := hid hr
  obtain ⟨i0, hi, hz0, hz1, hz2⟩ := info_parts infoEdge
  have hmk := fun W => run_make_rowN (P := Tryd.prog) 35 77 i0 _ Tryd.underlying35 hi hz0 .i64 .i64 es.length es.length (Nat.le_refl _) (by rw [hz2]; omega) (by omega) W
  rw [hz1] at hmk
  clear hz1 hz0 hz2 hi
  go_enter Tryd.func137, Tryd.ntmps137
  go_wp2
  have hblk0 := Blk.new w 77 (madeCells #[Value.int IntKind.i64 0, Value.int IntKind.i64 0, Value.int IntKind.i64 0] (es.length * 3))
  have hin0 : EdsIn (madeCells #[Value.int IntKind.i64 0, Value.int IntKind.i64 0, Value.int IntKind.i64 0] (es.length * 3)) es 0 := ⟨size_madeCells _ _, fun i _ h => by omega⟩
  replace hblk0 := hid hblk0
  replace hin0 := hid hin0
  go_loopw [4] (fun i wr => ∃ (k : Nat) (cs : Array Value), i = .int .i64 k ∧ k ≤ es.length ∧ EdsIn cs es k ∧ Blk wr w.heap.size 77 cs ∧ Below w.heap.size w wr) (fun i _ => es.length - (intOf i).toNat)
  case atStart => exact ⟨0, _, rfl, by omega, hin0.out, hblk0.out, by (repeat (first | exact Below.refl _ _ | assumption | refine Below.drew ?_ | refine Below.alloc ?_ (by first | omega | (simp; done) | (simp; omega)) _ | refine Below.setCell ?_ (by first | omega | (simp; done) | (simp; omega)) _))⟩
  case round =>
    obtain ⟨k, cs, rfl, hk, hin, hblk, hb⟩ := hrel
    by_cases hlt : k < es.length
    · obtain ⟨b, o, rfl, hB, hE⟩ := hr.out.get (Below.refl _ _) (Nat.le_refl _) hlt
      obtain ⟨e0, e1, e2⟩ := hE k hlt
      have hsz := hin.1
      have hg := hblk.lt
      have hnx := hid (hin.next hlt)
      replace hblk := hid hblk
      replace hin := hid hin
      replace hE := hid hE
      go_wp2_with (go_at_call 179; refine (toEdge_any es[k] _).mono ?_; rintro e w1 ⟨rfl, hb1⟩; obtain ⟨hbl1, ⟨v0, d0⟩, ⟨v1, d1⟩, ⟨v2, d2⟩, z0, z1, z2⟩ := hblk.out.three hb1 hg (i := k * 3) (by omega); unfold Ed.val; replace hbl1 := hid hbl1)
      have hb2 := hb.trans (hb1.mono hb.size)
      go_roundw
      case rel => exact ⟨k + 1, _, by go_num, by omega, hnx.out, ((hbl1.out.set_ _ _).set_ _ _).set_ _ _, by (repeat (first | exact Below.refl _ _ | assumption | refine Below.drew ?_ | refine Below.alloc ?_ (by first | omega | (simp; done) | (simp; omega)) _ | refine Below.setCell ?_ (by first | omega | (simp; done) | (simp; omega)) _))⟩
      case measure => simp [intOf]; omega
    · obtain rfl : k = es.length := by omega
      have hat := hid (hin.at_ hblk)
      replace hblk := hid hblk
      replace hin := hid hin
      go_wp2
      go_ret
      exact ⟨_, rfl, hat.out, fun b o e => by injection e with e; injection e with e; omega, hb⟩

set_option maxHeartbeats 400000 in
theorem toSystem_any (s : Sy) (A : Option Addr) (c : Nat) (w : World) (hn : s.es.length ≤ 1048576) (hl : s.es.length ≤ c) (hc : c ≤ 9223372036854775807) (hr : EdsAt w w.heap.size A s.es) :
    Calls Tryd.prog 75 #[s.val A c] w (SyPost s w) := by
  unfold Sy.val
  replace hr := hid hr
  go_enter Tryd.func75, Tryd.ntmps75
  go_wp2_with fail
  obtain ⟨w0, hw0⟩ : ∃ w0, ((w.alloc (Obj.cells #[Value.int IntKind.i64 s.al, Value.int IntKind.i64 s.st, Value.slice A s.es.length c] 89)).alloc (Obj.cells #[Value.int IntKind.i64 0, Value.int IntKind.i64 0, Value.slice none 0 0] 37)).alloc
      (Obj.cells #[Value.int IntKind.i64 s.al, Value.int IntKind.i64 s.st, Value.slice none 0 0] 37) = w0 := ⟨_, rfl⟩
  have hz : w0.heap.size = w.heap.size + 3 := by rw [← hw0]; simp
  have hB0 : Below w.heap.size w w0 := by rw [← hw0]; (repeat (first | exact Below.refl _ _ | assumption | refine Below.drew ?_ | refine Below.alloc ?_ (by first | omega | (simp; done) | (simp; omega)) _ | refine Below.setCell ?_ (by first | omega | (simp; done) | (simp; omega)) _))
  have k1 : Blk w0 (w.heap.size + 1) 37 #[Value.int IntKind.i64 0, Value.int IntKind.i64 0, Value.slice none 0 0] := by
    rw [← hw0]
    refine Blk.alloc ?_ _
    have := Blk.new (w.alloc (Obj.cells #[Value.int IntKind.i64 s.al, Value.int IntKind.i64 s.st, Value.slice A s.es.length c] 89)) 37 #[Value.int IntKind.i64 0, Value.int IntKind.i64 0, Value.slice none 0 0]
    simpa using this
  have k2 : Blk w0 (w.heap.size + 1 + 1) 37 #[Value.int IntKind.i64 s.al, Value.int IntKind.i64 s.st, Value.slice none 0 0] := by
    rw [← hw0]
    have := Blk.new ((w.alloc (Obj.cells #[Value.int IntKind.i64 s.al, Value.int IntKind.i64 s.st, Value.slice A s.es.length c] 89)).alloc (Obj.cells #[Value.int IntKind.i64 0, Value.int IntKind.i64 0, Value.slice none 0 0] 37)) 37 #[Value.int IntKind.i64 s.al, Value.int IntKind.i64 s.st, Value.slice none 0 0]
    simpa using this
  rw [hw0]
  clear hw0
  have hr0 : EdsAt w0 w0.heap.size A s.es := hr.out.later hB0
  refine (toEdgeS_any s.es A c w0 hn hl hc hr0).mono ?_
  rintro e w1 ⟨A', rfl, hA', hfr, hb1⟩
  have hk1 := k1.below hb1 (by omega)
  have hk2 := k2.below hb1 (by omega)
  have c0 : w1.cell? ⟨w.heap.size + 1, 0, none⟩ = some (.int .i64 0) := by rw [hk1.cell]; rfl
  have c1 : w1.cell? ⟨w.heap.size + 1, 1, none⟩ = some (.int .i64 0) := by rw [hk1.cell]; rfl
  have c2 : w1.cell? ⟨w.heap.size + 1, 2, none⟩ = some (.slice none 0 0) := by rw [hk1.cell]; rfl
  have d0 : w1.cell? ⟨w.heap.size + 1 + 1, 0, none⟩ = some (.int .i64 s.al) := by rw [hk2.cell]; rfl
  have d1 : w1.cell? ⟨w.heap.size + 1 + 1, 1, none⟩ = some (.int .i64 s.st) := by rw [hk2.cell]; rfl
  have d2 : w1.cell? ⟨w.heap.size + 1 + 1, 2, none⟩ = some (.slice none 0 0) := by rw [hk2.cell]; rfl
  have y0 := hk1.frozen 0
  have y1 := hk1.frozen 1
  have y2 := hk1.frozen 2
  have y3 := hk2.frozen 2
  have hB1 : Below w.heap.size w w1 := hB0.trans (hb1.mono (by omega))
  rw [hz] at hfr
  clear k1 k2 hr0
  replace hk1 := hid hk1
  replace hk2 := hid hk2
  replace hA' := hid hA'
  replace hfr := hid hfr
  replace hz := hid hz
  go_wp2
  refine bodyPost_ret (v := .agg #[.int .i64 s.al, .int .i64 s.st, .slice A' s.es.length s.es.length]) (by simp [results, Tryd.results75, go_sem, c0, c1, c2]) rfl ⟨A', rfl, ?_, fun b o e => by have := hfr.out b o e; omega, by (repeat (first | exact Below.refl _ _ | assumption | refine Below.drew ?_ | refine Below.alloc ?_ (by first | omega | (simp; done) | (simp; omega)) _ | refine Below.setCell ?_ (by first | omega | (simp; done) | (simp; omega)) _))⟩
  have e1 := hA'.out.setFar hfr.out (g := w.heap.size + 1 + 1) (i := 2) (.slice A' s.es.length s.es.length) (by omega)
  have e2 := e1.setFar hfr.out (g := w.heap.size + 1) (i := 0) (.int .i64 s.al) (by omega)
  have e3 := e2.setFar hfr.out (g := w.heap.size + 1) (i := 1) (.int .i64 s.st) (by omega)
  exact e3.setFar hfr.out (g := w.heap.size + 1) (i := 2) _ (by omega)

theorem infoSystem : (Tryd.prog.info? 37).map (fun i => (i.zero, i.size, i.bytes)) = some (some (.agg #[.int .i64 0, .int .i64 0, .slice none 0 0]), 3, 40) := by kernel_rfl

set_option maxHeartbeats 1000000 in
theorem toSystemS_any (ss : List Sy) (A : Option Addr) (c : Nat) (w : World) (hn : ss.length ≤ 1048576) (hes : ∀ s ∈ ss, s.es.length ≤ 1048576) (hl : ss.length ≤ c) (hc : c ≤ 9223372036854775807) (hr : SysAt w w.heap.size A ss) :
    Calls Tryd.prog 28 #[.slice A ss.length c] w (SysPost ss w) := by
  replace hr := hid hr
  replace hes := hid hes
  obtain ⟨i0, hi, hz0, hz1, hz2⟩ := info_parts infoSystem
  have hmk := fun W => run_make_rowN (P := Tryd.prog) 49 37 i0 _ Tryd.underlying49 hi hz0 .i64 .i64 ss.length ss.length (Nat.le_refl _) (by rw [hz2]; omega) (by omega) W
  rw [hz1] at hmk
  clear hz1 hz0 hz2 hi
  go_enter Tryd.func28, Tryd.ntmps28
  go_wp2
  have hblk0 := Blk.new w 37 (madeCells #[Value.int IntKind.i64 0, Value.int IntKind.i64 0, Value.slice none 0 0] (ss.length * 3))
  have hin0 : SysIn (w.alloc (.cells (madeCells #[Value.int IntKind.i64 0, Value.int IntKind.i64 0, Value.slice none 0 0] (ss.length * 3)) 37)) w.heap.size (madeCells #[Value.int IntKind.i64 0, Value.int IntKind.i64 0, Value.slice none 0 0] (ss.length * 3)) ss 0 := ⟨size_madeCells _ _, fun i _ h => by omega⟩
  replace hblk0 := hid hblk0
  replace hin0 := hid hin0
  go_loopw [4] (fun i wr => ∃ (k : Nat) (cs : Array Value), i = .int .i64 k ∧ k ≤ ss.length ∧ SysIn wr w.heap.size cs ss k ∧ Blk wr w.heap.size 37 cs ∧ Below w.heap.size w wr) (fun i _ => ss.length - (intOf i).toNat)
  case atStart => exact ⟨0, _, rfl, by omega, hin0.out, hblk0.out, by (repeat (first | exact Below.refl _ _ | assumption | refine Below.drew ?_ | refine Below.alloc ?_ (by first | omega | (simp; done) | (simp; omega)) _ | refine Below.setCell ?_ (by first | omega | (simp; done) | (simp; omega)) _))⟩
  case round =>
    obtain ⟨k, cs, rfl, hk, hin, hblk, hb⟩ := hrel
    by_cases hlt : k < ss.length
    · obtain ⟨b, o, Ai, ci, rfl, hB, c0, c1, c2, hAl, hAc, hAe⟩ := hr.out.get hlt
      have hsz := hin.1
      have hg := hblk.lt
      have hsk := hes.out ss[k] (List.getElem_mem _)
      have hAe' : EdsAt wr wr.heap.size Ai ss[k].es := (hAe.keep hb).more hb.size
      replace hAe := hid hAe'
      clear hAe'
      replace hblk := hid hblk
      replace hin := hid hin
      go_wp2_with (go_at_call 75; refine (toSystem_any ss[k] Ai ci _ hsk hAl hAc hAe.out).mono ?_; rintro e w1 ⟨A', rfl, hA', hfr, hb1⟩; obtain ⟨hbl1, ⟨v0, d0⟩, ⟨v1, d1⟩, ⟨v2, d2⟩, z0, z1, z2⟩ := hblk.out.three hb1 hg (i := k * 3) (by omega); unfold Sy.val; replace hbl1 := hid hbl1; replace hA' := hid hA'; replace hfr := hid hfr)
      have hb2 := hb.trans (hb1.mono hb.size)
      have hnx := (hin.out.later hb1).next hlt (A := A') (c := ss[k].es.length) (Nat.le_refl _) (by omega) hA'.out (fun b o e => by have := hfr.out b o e; omega)
      go_roundw
      case rel => exact ⟨k + 1, _, by go_num, by omega, ((hnx.set_ _).set_ _).set_ _, ((hbl1.out.set_ _ _).set_ _ _).set_ _ _, by (repeat (first | exact Below.refl _ _ | assumption | refine Below.drew ?_ | refine Below.alloc ?_ (by first | omega | (simp; done) | (simp; omega)) _ | refine Below.setCell ?_ (by first | omega | (simp; done) | (simp; omega)) _))⟩
      case measure => simp [intOf]; omega
    · obtain rfl : k = ss.length := by omega
      have hat := hid (hin.at_ hblk)
      replace hblk := hid hblk
      replace hin := hid hin
      go_wp2
      go_ret
      exact ⟨_, rfl, hat.out, hb⟩

set_option maxHeartbeats 400000 in
theorem eqEdge_any (a b : Ed) (w : World) :
    Calls Tryd.prog 125 #[a.val, b.val] w fun e w' => e = .returned (.bool (decide (a = b))) ∧ Below w.heap.size w w' := by
  obtain ⟨af, al, at_⟩ := a
  obtain ⟨bf, bl, bt⟩ := b
  unfold Ed.val
  go_enter Tryd.func125, Tryd.ntmps125
  go_wp2
  all_goals go_ret
  all_goals exact ⟨ret_bool (by simp_all), by (repeat (first | exact Below.refl _ _ | assumption | refine Below.drew ?_ | refine Below.alloc ?_ (by first | omega | (simp; done) | (simp; omega)) _ | refine Below.setCell ?_ (by first | omega | (simp; done) | (simp; omega)) _))⟩

set_option maxHeartbeats 1000000 in
theorem eqEdgeS_any (es fs : List Ed) (A B : Option Addr) (c d : Nat) (w : World) (hn : es.length ≤ c) (hc : c ≤ 9223372036854775807) (hm : fs.length ≤ d) (_hd : d ≤ 9223372036854775807) (hr : EdsAt w w.heap.size A es) (hs : EdsAt w w.heap.size B fs) :
    Calls Tryd.prog 65 #[.slice A es.length c, .slice B fs.length d] w fun e w' => e = .returned (.bool (decide (es = fs))) ∧ Below w.heap.size w w' := by
  replace hr := hid hr
  replace hs := hid hs
  by_cases hlen : es.length = fs.length
  · go_enter Tryd.func65, Tryd.ntmps65
    go_wp2
    go_loopw [5] (fun i wr => ∃ k : Nat, i = .int .i64 k ∧ k ≤ es.length ∧ (∀ i (h : i < es.length) (h' : i < fs.length), i < k → es[i] = fs[i]) ∧ Below w.heap.size w wr) (fun i _ => es.length - (intOf i).toNat)
    case atStart => exact ⟨0, rfl, by omega, by intro i _ _ h; omega, Below.refl _ _⟩
    case round =>
      obtain ⟨k, rfl, hk, heq, hb⟩ := hrel
      by_cases hlt : k < es.length
      · obtain ⟨b, o, rfl, hB, hE⟩ := hr.out.get (Below.refl _ _) (Nat.le_refl _) hlt
        obtain ⟨b', o', rfl, hB', hF⟩ := hs.out.get (Below.refl _ _) (Nat.le_refl _) (show k < fs.length by omega)
        obtain ⟨e0, e1, e2⟩ := hE k hlt
        obtain ⟨f0, f1, f2⟩ := hF k (by omega)
        replace hE := hid hE
        replace hF := hid hF
        have hB1 := hid hB
        have g0 := fun x => e0 _ (Fam.below _ _ x)
        have g1 := fun x => e1 _ (Fam.below _ _ x)
        have g2 := fun x => e2 _ (Fam.below _ _ x)
        have i0 := fun x => f0 _ (Fam.below _ _ x)
        have i1 := fun x => f1 _ (Fam.below _ _ x)
        have i2 := fun x => f2 _ (Fam.below _ _ x)
        cases hq : decide (es[k] = fs[k])
        all_goals
          replace hq := hid hq
          replace heq := hid heq
          go_wp2_with fail
          refine wp_region_fam w.heap.size w (by kernel_rfl) (by kernel_rfl) hb ?_
          (repeat (go_big_quiet_step ((refine (eqEdge_any es[k] fs[k] _).mono ?_; rintro e w1 ⟨rfl, hb1⟩; exact ⟨by rw [hq.out], Fam.next (Nat.le_refl _) hb1⟩))))
          refine wpQuiet_nil ?_
          intro w2 hw2
          replace hw2 := Fam.out hw2
          go_wp2
        · go_ret
          exact ⟨ret_bool (by
            have := hq.out
            rw [decide_eq_false_iff_not] at this
            rw [eq_comm, decide_eq_false_iff_not]
            intro h
            subst h
            exact this rfl), hw2⟩
        · go_roundw
          case rel =>
            refine ⟨k + 1, by go_num, by omega, fun i hi hi' hik => ?_, hw2⟩
            by_cases e : i = k
            · subst e; exact of_decide_eq_true hq.out
            · exact heq.out i hi hi' (by omega)
          case measure => simp [intOf]; omega
      · replace heq := hid heq
        go_wp2
        go_ret
        exact ⟨ret_bool (by
          rw [eq_comm, decide_eq_true_iff]
          exact List.ext_getElem hlen fun i hi hi' => heq.out i hi hi' (by omega)), hb⟩
  · go_enter Tryd.func65, Tryd.ntmps65
    go_wp2
    go_ret
    exact ⟨ret_bool (by rw [eq_comm, decide_eq_false_iff_not]; intro h; exact hlen (by rw [h])), Below.refl _ _⟩

set_option maxHeartbeats 1000000 in
theorem eqSystem_any (s t : Sy) (A B : Option Addr) (c d : Nat) (w : World) (hn : s.es.length ≤ c) (hc : c ≤ 9223372036854775807) (hm : t.es.length ≤ d) (hd : d ≤ 9223372036854775807) (hr : EdsAt w w.heap.size A s.es) (hs : EdsAt w w.heap.size B t.es) :
    Calls Tryd.prog 21 #[s.val A c, t.val B d] w fun e w' => e = .returned (.bool (decide (s = t))) ∧ Below w.heap.size w w' := by
  obtain ⟨sa, ss, se⟩ := s
  obtain ⟨ta, ts, te⟩ := t
  dsimp only at hn hm hr hs
  have hsp : Hid (decide (({ al := sa, st := ss, es := se } : Sy) = { al := ta, st := ts, es := te }) = (decide (sa = ta) && (decide (ss = ts) && decide (se = te)))) := hid (by simp)
  unfold Sy.val
  replace hr := hid hr
  replace hs := hid hs
  go_enter Tryd.func21, Tryd.ntmps21
  go_wp2_with (refine (eqEdgeS_any se te A B c d _ hn hc hm hd (hr.out.later (by (repeat (first | exact Below.refl _ _ | assumption | refine Below.drew ?_ | refine Below.alloc ?_ (by first | omega | (simp; done) | (simp; omega)) _ | refine Below.setCell ?_ (by first | omega | (simp; done) | (simp; omega)) _)))) (hs.out.later (by (repeat (first | exact Below.refl _ _ | assumption | refine Below.drew ?_ | refine Below.alloc ?_ (by first | omega | (simp; done) | (simp; omega)) _ | refine Below.setCell ?_ (by first | omega | (simp; done) | (simp; omega)) _))))).mono ?_; rintro e w' ⟨rfl, hb⟩)
  all_goals
    go_ret
    exact ⟨ret_bool (by rw [hsp.out]; simp_all), by first | ((repeat (first | exact Below.refl _ _ | assumption | refine Below.drew ?_ | refine Below.alloc ?_ (by first | omega | (simp; done) | (simp; omega)) _ | refine Below.setCell ?_ (by first | omega | (simp; done) | (simp; omega)) _)); done) | exact Below.trans (by (repeat (first | exact Below.refl _ _ | assumption | refine Below.drew ?_ | refine Below.alloc ?_ (by first | omega | (simp; done) | (simp; omega)) _ | refine Below.setCell ?_ (by first | omega | (simp; done) | (simp; omega)) _))) (hb.mono (by first | (simp; done) | (simp; omega)))⟩

set_option maxHeartbeats 1000000 in
theorem eqSystemS_any (es fs : List Sy) (A B : Option Addr) (c d : Nat) (w : World) (hn : es.length ≤ c) (hc : c ≤ 9223372036854775807) (hm : fs.length ≤ d) (hr : SysAt w w.heap.size A es) (hs : SysAt w w.heap.size B fs) :
    Calls Tryd.prog 30 #[.slice A es.length c, .slice B fs.length d] w fun e w' => e = .returned (.bool (decide (es = fs))) ∧ Below w.heap.size w w' := by
  replace hr := hid hr
  replace hs := hid hs
  by_cases hlen : es.length = fs.length
  · go_enter Tryd.func30, Tryd.ntmps30
    go_wp2
    go_loopw [5] (fun i wr => ∃ k : Nat, i = .int .i64 k ∧ k ≤ es.length ∧ (∀ i (h : i < es.length) (h' : i < fs.length), i < k → es[i] = fs[i]) ∧ Below w.heap.size w wr) (fun i _ => es.length - (intOf i).toNat)
    case atStart => exact ⟨0, rfl, by omega, by intro i _ _ h; omega, Below.refl _ _⟩
    case round =>
      obtain ⟨k, rfl, hk, heq, hb⟩ := hrel
      by_cases hlt : k < es.length
      · obtain ⟨b, o, Ai, ci, rfl, hB, e0, e1, e2, hAl, hAc, hAe⟩ := hr.out.get hlt
        obtain ⟨b', o', Bi, di, rfl, hB', f0, f1, f2, hBl, hBc, hBe⟩ := hs.out.get (show k < fs.length by omega)
        have hB1 := hid hB
        have g0 := fun x => e0 _ (Fam.below _ _ x)
        have g1 := fun x => e1 _ (Fam.below _ _ x)
        have g2 := fun x => e2 _ (Fam.below _ _ x)
        have i0 := fun x => f0 _ (Fam.below _ _ x)
        have i1 := fun x => f1 _ (Fam.below _ _ x)
        have i2 := fun x => f2 _ (Fam.below _ _ x)
        have hAe' : ∀ x, EdsAt (Fam w.heap.size w x) (Fam w.heap.size w x).heap.size Ai es[k].es := fun x => hAe.later (Fam.below _ _ x)
        have hBe' : ∀ x, EdsAt (Fam w.heap.size w x) (Fam w.heap.size w x).heap.size Bi fs[k].es := fun x => hBe.later (Fam.below _ _ x)
        replace hAe := hid hAe'
        replace hBe := hid hBe'
        clear hAe' hBe'
        cases hq : decide (es[k] = fs[k])
        all_goals
          replace hq := hid hq
          replace heq := hid heq
          go_wp2_with fail
          refine wp_region_fam w.heap.size w (by kernel_rfl) (by kernel_rfl) hb ?_
          (repeat (go_big_quiet_step ((refine (eqSystem_any es[k] fs[k] Ai Bi ci di _ hAl hAc hBl hBc (hAe.out _) (hBe.out _)).mono ?_; rintro e w1 ⟨rfl, hb1⟩; exact ⟨by rw [hq.out], Fam.next (Nat.le_refl _) hb1⟩))))
          refine wpQuiet_nil ?_
          intro w2 hw2
          replace hw2 := Fam.out hw2
          go_wp2
        · go_ret
          exact ⟨ret_bool (by
            have := hq.out
            rw [decide_eq_false_iff_not] at this
            rw [eq_comm, decide_eq_false_iff_not]
            intro h
            subst h
            exact this rfl), hw2⟩
        · go_roundw
          case rel =>
            refine ⟨k + 1, by go_num, by omega, fun i hi hi' hik => ?_, hw2⟩
            by_cases e : i = k
            · subst e; exact of_decide_eq_true hq.out
            · exact heq.out i hi hi' (by omega)
          case measure => simp [intOf]; omega
      · replace heq := hid heq
        go_wp2
        go_ret
        exact ⟨ret_bool (by
          rw [eq_comm, decide_eq_true_iff]
          exact List.ext_getElem hlen fun i hi hi' => heq.out i hi hi' (by omega)), hb⟩
  · go_enter Tryd.func30, Tryd.ntmps30
    go_wp2
    go_ret
    exact ⟨ret_bool (by rw [eq_comm, decide_eq_false_iff_not]; intro h; exact hlen (by rw [h])), Below.refl _ _⟩

end Go.Proofs.YtjhlbeamfngebaaDoor

/- The law FnExactDeadlockOf returns true. -/
namespace Go.Proofs.YtjhlbeamfngebaaDoor
open Go.RowKit Go.BigFrame AG

theorem dead_same {ss : List Sy} {o o' : Option (List Nat)} (h : partsOk ss = true → DeadP ss o) (h0 : partsOk ss = false → o = none) (k : partsOk ss = true → DeadP ss o') (k0 : partsOk ss = false → o' = none) : o = o' := by
  cases hp : partsOk ss
  · rw [h0 hp, k0 hp]
  · exact PathPost_unique (h hp) (k hp)

set_option maxRecDepth 100000 in
set_option maxHeartbeats 4000000 in
theorem FnExactDeadlockOf_any (ss : List Sy) (A : Option Addr) (c : Nat) (w : World) (hl : ss.length ≤ c) (hc : c ≤ 9223372036854775807) (hT : Tab w) (hr : SysAt w w.heap.size A ss) :
    Calls Tryd.prog 6 #[.slice A ss.length c] w fun e w' => e = .returned (.bool true) ∧ Below w.heap.size w w' := by
  replace hr := hid hr
  replace hT := hid hT
  by_cases hsz : szSys ss 1048576 < 0
  · go_enter Tryd.func6, Tryd.ntmps6
    go_wp2_with (go_at_call 26; refine (szSystemS_any ss A c 1048576 _ (by omega) hc hl (by omega) (by omega) hr.out).mono ?_; rintro e w' ⟨rfl, hb⟩)
    go_ret
    exact ⟨rfl, hb⟩
  · have hge := szSys_ge (ss := ss) (left := 1048576) (by omega)
    obtain ⟨hn, hes⟩ := hge
    have hes' : ∀ s ∈ ss, s.es.length ≤ 1048576 := fun s hs => by have := hes s hs; omega
    replace hes := hid hes'
    clear hes'
    go_enter Tryd.func6, Tryd.ntmps6
    go_wp2_with (go_at_call 26; refine (szSystemS_any ss A c 1048576 _ (by omega) hc hl (by omega) (by omega) hr.out).mono ?_; rintro e w1 ⟨rfl, hb1⟩)
    have r1 := hid (hr.out.later hb1)
    refine (toSystemS_any ss A c w1 (by omega) hes.out hl hc r1.out).mono ?_
    rintro e w2 ⟨A2, rfl, hA2, hb2⟩
    replace hA2 := hid hA2
    go_wp2_with fail
    refine (specDeadlockOf_any ss A2 ss.length w2 (Nat.le_refl _) (by omega) hA2.out).mono ?_
    rintro e w3 ⟨o, rfl, ho1, ho2, hb3⟩
    have r3 := hid ((r1.out.later hb2).later hb3)
    have b2 := hb1.trans (hb2.mono hb1.size)
    have b3 := b2.trans (hb3.mono b2.size)
    obtain ⟨Sv, Fv, hpv⟩ : ∃ Sv Fv, pathV o = .tuple #[.string Sv, .bool Fv] := ⟨_, _, rfl⟩
    rw [hpv]
    have hpv' := hid hpv
    clear hpv
    replace ho1 := hid ho1
    replace ho2 := hid ho2
    go_wp2_with fail
    refine (toSystemS_any ss A c w3 (by omega) hes.out hl hc r3.out).mono ?_
    rintro e w4 ⟨A4, rfl, hA4, hb4⟩
    replace hA4 := hid hA4
    have b4 := b3.trans (hb4.mono b3.size)
    have hT4 := hid (hT.out.later b4)
    go_wp2_with fail
    refine (implDeadlockOf_any ss A4 ss.length w4 (Nat.le_refl _) (by omega) hT4.out hA4.out).mono ?_
    rintro e w5 ⟨o', rfl, ho3, ho4, hb5⟩
    obtain rfl : o = o' := dead_same ho1.out ho2.out ho3 ho4
    rw [hpv'.out]
    clear ho3 ho4
    have b5 := b4.trans (hb5.mono b4.size)
    have hself : Hid (Sv.toList == Sv.toList) := hid (by simp)
    go_wp2_with fail
    have r5 := hid ((r3.out.later hb4).later hb5)
    refine (toSystemS_any ss A c w5 (by omega) hes.out hl hc r5.out).mono ?_
    rintro e w6 ⟨A6, rfl, hA6, hb6⟩
    have r6 := hid ((hA4.out.later hb5).later hb6)
    replace hA6 := hid hA6
    have b6 := b5.trans (hb6.mono b5.size)
    go_wp2_with fail
    refine (eqSystemS_any ss ss A4 A6 ss.length ss.length w6 (Nat.le_refl _) (by omega) (Nat.le_refl _) r6.out hA6.out).mono ?_
    rintro e w7 ⟨rfl, hb7⟩
    rw [decide_eq_true (show ss = ss from rfl)]
    go_wp2
    go_ret
    exact ⟨rfl, b6.trans (hb7.mono b6.size)⟩

end Go.Proofs.YtjhlbeamfngebaaDoor

/- Closed facts on the whole program, each a lemma of its own: the rows of all laws of the seat use them. -/
namespace Go.Proofs.YtjhlbeamfngebaaDoor
open Go.ChangeShapes Go.WideShapes Go.ChangeAt Go.RowKit AG
theorem and2 {a b : Bool} (h : a = true) (k : b = true) : (a && b) = true := by rw [h, k]; rfl
theorem whLaid : laidOutB Tryd.prog = true := by kernel_rfl
theorem whRowed : mapsRowed Tryd.prog = true := by kernel_rfl
theorem whHeard : Tryd.prog.stopsHeard = true := by kernel_rfl
theorem whMay : Tryd.prog.mayEnter = true := by kernel_rfl
theorem whLift : Tryd.prog.liftsFinal = false := by kernel_rfl
theorem whMake : (Tryd.prog.make == some Rows.fnDeadlockLeastRow.make) = true := by kernel_rfl
theorem whMain : Tryd.prog.mainIs = some (Rows.fnDeadlockLeastCard.stood.harness.1, Rows.fnDeadlockLeastCard.stood.harness.2.toList) := by kernel_rfl
theorem whLooks : false = Tryd.prog.looks [] := by kernel_rfl
end Go.Proofs.YtjhlbeamfngebaaDoor

/- Plain: systems of automata: their traces, their automata, projections in steps; deterministic systems. -/
namespace Go.Proofs.YtjhlbeamfngebaaDoor
open AG

theorem step_back {s : Sy} {S l t : Nat} (h : (stepSet s S l).testBit t = true) : ∃ e ∈ s.es, e.l = (l : Int) ∧ S.testBit e.f.toNat = true ∧ e.t.toNat = t := by
  unfold stepSet at h
  exact ((bitsOf_testBit _ 16 t).1 h).2
theorem ne_zero_bit {S : Nat} (h : S ≠ 0) : ∃ q, S.testBit q = true := Nat.exists_testBit_of_ne_zero h
theorem detB_iff (s : Sy) : detB s = true ↔ sysOk s = true ∧ detAt s (reachAll s) s.es.length := by unfold detB; simp
/-- In a deterministic system a word leads to one state at most. -/
theorem det_one {s : Sy} (h : detB s = true) : ∀ r : List Nat, setW s r = 0 ∨ ∃ q, q < 16 ∧ setW s r = 2 ^ q ∧ (reachAll s).testBit q = true := by
  have hs : sysOk s = true := ((detB_iff s).1 h).1
  have hd : DetP s := (detAt_iff hs).1 ((detB_iff s).1 h).2
  intro r
  induction r with
  | nil => exact .inr ⟨0, by omega, rfl, reach_zero⟩
  | cons l r ih =>
    have hdef : setW s (l :: r) = stepSet s (setW s r) (l : Nat) := rfl
    by_cases h0 : setW s (l :: r) = 0
    · exact .inl h0
    · right
      rcases ih with h1 | ⟨q, hq, h1, hR⟩
      · rw [hdef, h1, stepSet_zero] at h0
        exact absurd rfl h0
      · rw [hdef] at h0 ⊢
        obtain ⟨t, ht⟩ := ne_zero_bit h0
        obtain ⟨e, he, e1, e2, rfl⟩ := step_back ht
        have hef : e.f.toNat = q := by
          rw [h1, Nat.testBit_two_pow, decide_eq_true_eq] at e2
          exact e2.symm
        obtain ⟨g1, g2, g3, g4, _⟩ := sysOk_in hs e he
        refine ⟨e.t.toNat, by omega, ?_, reach_step hs he (by rw [hef]; exact hR)⟩
        refine Nat.eq_of_testBit_eq fun j => ?_
        rw [Nat.testBit_two_pow, Bool.eq_iff_iff, decide_eq_true_eq]
        constructor
        · intro hj
          obtain ⟨e', he', e1', e2', rfl⟩ := step_back hj
          have hef' : e'.f.toNat = q := by
            rw [h1, Nat.testBit_two_pow, decide_eq_true_eq] at e2'
            exact e2'.symm
          obtain ⟨g1', _⟩ := sysOk_in hs e' he'
          have := hd e he e' he' (by rw [hef]; exact hR) (by omega) (by rw [e1, e1'])
          rw [this]
        · rintro rfl
          exact ht
end Go.Proofs.YtjhlbeamfngebaaDoor

/- A slice is copied: append(empty, s...). -/
namespace AG
open Go Go.RowKit

theorem run_append_copy {P : Program} (w : World) (base : Nat) (t ty e : TypeId) (i : TypeInfo) (z : Value) (size bytes : Nat) (ht : P.underlying t = some (.slice e)) (hi : P.info? e = some i) (hz : i.zero = some z)
    (hsize : i.size = size) (hby : i.bytes = bytes) (hzs : z.cells.size = size) (g : Nat) (hg : w.heap[g]? = some (.cells #[] e (0, 0))) (hbg : base ≤ g) (hbase : base ≤ w.heap.size)
    (A : Option Addr) (m c : Nat) (news : List Value) (hl : news.length = m * size) (hA : 0 < m → ∃ a, A = some a ∧ ∀ j u, news[j]? = some u → w.cell? (a.add j) = some u) (h1 : ∀ u ∈ news, u.oneCell' = true)
    (h63 : m ≤ maxLen) (hbytes : m * bytes ≤ 140737488355328) :
    ∃ v' w', (Builtin.append_ #[t, t] ty #[.slice (some ⟨g, 0, none⟩) 0 0, .slice A m c]).run P w = .ok v' w' ∧ w'.ownsRow base e size v' m news ∧ Below w.heap.size w w' := by
  subst hsize
  subst hby
  by_cases hm : m = 0
  · subst hm
    have hn : news = [] := List.eq_nil_of_length_eq_zero (by simpa using hl)
    subst hn
    have hs : Src P i.size t (.slice A 0 c) 0 [] w := by
      cases A with
      | none => exact Src.ofNil w ht c
      | some a => exact Src.ofSlice w ht a 0 c [] (by simp) (fun j u hj => by simp at hj) (fun u hu => by cases hu)
    exact ⟨_, w, run_append_nothing w t t ty e i ht hi (some ⟨g, 0, none⟩) 0 0 (Nat.le_refl _) _ hs, ⟨by simp, .inr ⟨g, 0, #[], rfl, hbg, hg, Nat.le_refl _, Nat.zero_le _, by simp, by simp⟩⟩, Below.refl _ _⟩
  · obtain ⟨a, rfl, hnews⟩ := hA (by omega)
    have hsmall : m ≤ 9223372036854775807 := by simp only [maxLen] at h63; omega
    have hr := run_append_grow (P := P) w t ty e i z ht hi hz ⟨g, 0, none⟩ 0 0 [] (by simp) (fun j u hj => by simp at hj) a m c news hl hnews (by omega) (by omega) (growslice_fits (by omega) (by simpa using hbytes))
    simp only [Nat.zero_add] at hr
    refine ⟨_, _, hr, ⟨hl, .inr ⟨w.heap.size, _, _, rfl, hbase, heap_alloc_new w.drew _, grownCap_ge w m 0 e, grownCap_le_maxLen w m 0 e h63, ?_, ?_⟩⟩, ?_⟩
    · have := grownCap_ge w m 0 e
      simp only [Array.size_append, List.size_toArray, size_zeroCells, hzs, List.length_nil, Nat.zero_add, hl, ← Nat.add_mul]
      congr 1
      omega
    · have e1 : ([].toArray ++ news.toArray ++ Builtin.zeroCells z.cells (grownCap w m 0 e - m)).toList = news ++ (Builtin.zeroCells z.cells (grownCap w m 0 e - m)).toList := by simp
      rw [e1, ← hl]
      exact List.take_left
    · exact (Below.refl w.heap.size w).drew.alloc (Nat.le_refl _) _

namespace GK
section
variable {P : Program} {ops : Array Oper} {M : Nat} {S : World → World → Prop} {I : Nat → World → Prop} {sp : Nat → Value → World → Prop} {w0 w1 : World}
variable {Q : List (Nat × (World → Prop)) → Act → Prop} {o : Oper} {rest : List Oper} {i : Nat} {Γ : List (Nat × (World → Prop))} {a : Act}
theorem grow_fact (Z : Value → World → Prop) (hw : Region.wanted o (yielded ops a.tmps) = true) (hs : ∀ u, Steady S (Z u))
    (hc : ∀ m w, m < M → I m w → FactsAt .any ops i Γ w → fnUpon (fun u w' => (S w w' ∧ I (m + 1) w') ∧ Z u w') ((execOp a.eval o).run P w))
    (h : ∀ u, (∃ m w', I m w' ∧ Z u w') → wpGrow P ops S I M w0 sp Q rest (i + 1) ((i, Z u) :: Γ) (a.put o.dst u)) : wpGrow P ops S I M w0 sp Q (o :: rest) i Γ a := by
  unfold wpGrow Res
  rw [if_pos hw]
  exact .inr (.inl ⟨Z, hs, hc, (fun h => by cases h), fun u _ hu => h u (hu rfl)⟩)

theorem own_steady {base : Nat} {e : TypeId} {size m : Nat} {news : List Value} (u : Value) : Steady (KeepB fun _ => False) (fun w => w.ownsRow base e size u m news) := fun _ _ h k => own_keep k h fun _ _ h => h

/-- append(empty, s...): a copy is made. -/
theorem grow_copy (hw : Region.wanted o (yielded ops a.tmps) = true) (s x : Operand) (t : TypeId) (ho : o.op = .call { callee := .builtin .append, args := #[s, x], argTypes := #[t, t] })
    (e : TypeId) (ti : TypeInfo) (z : Value) (size bytes : Nat) (ht : P.underlying t = some (.slice e)) (hi : P.info? e = some ti) (hz : ti.zero = some z)
    (hsize : ti.size = size) (hby : ti.bytes = bytes) (hzs : z.cells.size = size) (g : Nat) (hs : a.eval s = .slice (some ⟨g, 0, none⟩) 0 0) (hgf : ∀ w, FactsAt .any ops i Γ w → w1.heap.size ≤ g ∧ w.heap[g]? = some (.cells #[] e (0, 0)))
    (A : Option Addr) (m c : Nat) (news : List Value) (hx : a.eval x = .slice A m c) (hl : news.length = m * size) (hA : 0 < m → ∃ a, A = some a ∧ ∀ j u, news[j]? = some u → w1.cell? (a.add j) = some u) (h1 : ∀ u ∈ news, u.oneCell' = true)
    (h63 : m ≤ maxLen) (hbytes : m * bytes ≤ 140737488355328)
    (h : ∀ u, (∃ w', Below w1.heap.size w1 w' ∧ w'.ownsRow w1.heap.size e size u m news) → wpGrow P ops (KeepB fun _ => False) (BI w1) M w0 sp Q rest (i + 1) ((i, fun w' => w'.ownsRow w1.heap.size e size u m news) :: Γ) (a.put o.dst u)) :
    wpGrow P ops (KeepB fun _ => False) (BI w1) M w0 sp Q (o :: rest) i Γ a := by
  refine grow_fact (fun u w' => w'.ownsRow w1.heap.size e size u m news) hw own_steady (fun k w hk hb hf => ?_) fun u ⟨_, w', h1, h2⟩ => h u ⟨w', h1, h2⟩
  obtain ⟨g1, g2⟩ := hgf w hf
  obtain ⟨v', w', hr, h2, h3⟩ := run_append_copy (P := P) w w1.heap.size t o.type e ti z size bytes ht hi hz hsize hby hzs g g2 g1 hb.size A m c news hl (fun hm => by
    obtain ⟨a, ha, hc⟩ := hA hm
    refine ⟨a, ha, fun j u hj => ?_⟩
    have h4 := hc j u hj
    rw [Below.cell hb (World.block_lt_of_cell? _ _ h4)]
    exact h4) h1 h63 hbytes
  unfold execOp
  simp only [ho, resolve, invoke, builtin, Sem.run_bind, Sem.run_pure, Result.andThen_ok, List.map_toArray, List.map_cons, List.map_nil, hs, hx, hr]
  exact ⟨hb.after h3, h2⟩
end
end GK
end AG

/- The drawing kit: l2Texts, l19Num. -/
namespace Go.Proofs.YtjhlbeamfngebaaDoor
open Go.RowKit Go.BigFrame AG

def isText (v : Value) : Bool := match v with | .string b => decide (b.size ≤ 60) | _ => false
theorem texts_list : ∀ vs : List Value, vs.all isText = true → ∃ xs : List ByteArray, vs = xs.map Value.string ∧ ∀ x ∈ xs, x.size ≤ 60
  | [], _ => ⟨[], rfl, by simp⟩
  | v :: vs, h => by
    rw [List.all_cons, Bool.and_eq_true] at h
    obtain ⟨xs, h1, h2⟩ := texts_list vs h.2
    have h3 := h.1
    unfold isText at h3
    split at h3
    · rename_i b
      refine ⟨b :: xs, by rw [h1]; rfl, fun x hx => ?_⟩
      rcases List.mem_cons.1 hx with rfl | hx
      · exact of_decide_eq_true h3
      · exact h2 x hx
    · cases h3
theorem texts_of (w : World) (T : TypeId) (cs : Array Value) (h : cs.toList.all isText = true) :
    ∃ xs : List ByteArray, xs.length = cs.size ∧ (∀ x ∈ xs, x.size ≤ 60) ∧ ∀ i (hi : i < xs.length), (w.alloc (.cells cs T)).cell? ⟨w.heap.size, 0 + i, none⟩ = some (.string xs[i]) := by
  obtain ⟨xs, h1, h2⟩ := texts_list _ h
  have hlen : xs.length = cs.size := by
    have := congrArg List.length h1
    simpa using this.symm
  refine ⟨xs, hlen, h2, fun i hi => ?_⟩
  rw [Nat.zero_add, World.cell?_alloc_at _ _ _ _ rfl, ← Array.getElem?_toList, h1, List.getElem?_map, List.getElem?_eq_getElem hi]
  rfl

theorem texts_post (w : World) (T : TypeId) (cs : Array Value) (e : Ending) (he : e = .returned (.slice (some ⟨w.heap.size, 0, none⟩) 11 11)) (hn : cs.size = 11) (h : cs.toList.all isText = true) :
    ∃ xs : List ByteArray, xs.length = 11 ∧ (∀ x ∈ xs, x.size ≤ 60) ∧ e = .returned (.slice (some ⟨w.heap.size, 0, none⟩) 11 11) ∧ (∀ i (hi : i < xs.length), (w.alloc (.cells cs T)).cell? ⟨w.heap.size, 0 + i, none⟩ = some (.string xs[i])) ∧ w.heap.size < (w.alloc (.cells cs T)).heap.size ∧ Below w.heap.size w (w.alloc (.cells cs T)) := by
  obtain ⟨xs, h1, h2, h3⟩ := texts_of w T cs h
  exact ⟨xs, h1.trans hn, h2, he, h3, by simp, (Below.refl _ _).alloc (Nat.le_refl _) _⟩

set_option maxHeartbeats 1000000 in
theorem l2Texts_any (w : World) :
    Calls Tryd.prog 185 #[] w fun e w' => ∃ xs : List ByteArray, xs.length = 11 ∧ (∀ x ∈ xs, x.size ≤ 60) ∧ e = .returned (.slice (some ⟨w.heap.size, 0, none⟩) 11 11) ∧ (∀ i (hi : i < xs.length), w'.cell? ⟨w.heap.size, 0 + i, none⟩ = some (.string xs[i])) ∧ w.heap.size < w'.heap.size ∧ Below w.heap.size w w' := by
  go_enter Tryd.func185, Tryd.ntmps185
  go_wp2
  go_ret
  exact texts_post w _ _ _ rfl rfl (by kernel_rfl)

end Go.Proofs.YtjhlbeamfngebaaDoor
