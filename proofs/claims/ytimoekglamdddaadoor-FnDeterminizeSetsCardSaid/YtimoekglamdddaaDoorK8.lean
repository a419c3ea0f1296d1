/- Lemmas, part 8: several texts in one. -/
import Derived.Test.YtimoekglamdddaaDoorProg
import Derived.Test.YtimoekglamdddaaDoorK2
import Derived.Test.YtimoekglamdddaaDoorK3
import Derived.Test.YtimoekglamdddaaDoorK6
import Derived.Test.YtimoekglamdddaaDoorK7
import Derived.Test.YtimoekglamdddaaDoorCards
import Derived.Test.YtimoekglamdddaaDoorTie
import Derived.WalkKit
import Derived.ProofKit
import Derived.OpenShut
import Derived.Deep.DeepHandedRow
import Derived.Lib.LaidTab
import Derived.Stop.LaidErr
import Derived.Test.YtimoekglamdddaaDoorK5
import Derived.Deep.Quiet
import Derived.Deep.Slices
import Derived.Deep.Fields
import Derived.ChangeSame
import Derived.ChangeSlices
set_option linter.unusedSimpArgs false
set_option linter.unusedVariables false

/- The laws' own functions on systems: sizes, copies, comparisons. -/
namespace Go.Proofs.YtimoekglamdddaaDoor
open Go.RowKit Go.BigFrame AG

set_option maxHeartbeats 400000 in
theorem szEdgeS_any (A : Option Addr) (n c : Nat) (left : Int) (w : World) (hn : n ≤ 9223372036854775807) (h0 : 0 ≤ left) (h1 : left ≤ 9223372036854775807) :
    Calls Tryd.prog 49 #[.slice A n c, .int .i64 left] w fun e w' => e = .returned (.int .i64 (sz1 n left)) ∧ w = w' := by
  go_enter Tryd.func49, Tryd.ntmps49
  go_wp2
  all_goals go_ret
  all_goals exact ⟨ret_int (by unfold sz1; split <;> omega), rfl⟩

set_option maxHeartbeats 400000 in
theorem szSystem_any (s : Sy) (A : Option Addr) (c : Nat) (left : Int) (w : World) (hn : s.es.length ≤ 9223372036854775807) (h0 : 0 ≤ left) (h1 : left ≤ 9223372036854775807) :
    Calls Tryd.prog 15 #[s.val A c, .int .i64 left] w fun e w' => e = .returned (.int .i64 (sz1 s.es.length left)) ∧ Below w.heap.size w w' := by
  unfold Sy.val
  go_enter Tryd.func15, Tryd.ntmps15
  go_wp2_with (go_at_call 49; refine (szEdgeS_any _ _ _ _ _ hn h0 h1).mono ?_; rintro e w' ⟨rfl, rfl⟩)
  all_goals go_ret
  all_goals exact ⟨ret_int (by unfold sz1 at *; split <;> simp_all <;> omega), by (repeat (first | exact Below.refl _ _ | assumption | refine Below.drew ?_ | refine Below.alloc ?_ (by first | omega | (simp; done) | (simp; omega)) _ | refine Below.setCell ?_ (by first | omega | (simp; done) | (simp; omega)) _))⟩


set_option maxHeartbeats 400000 in
theorem toEdge_any (a : Ed) (w : World) :
    Calls Tryd.prog 116 #[a.val] w fun e w' => e = .returned a.val ∧ Below w.heap.size w w' := by
  unfold Ed.val
  go_enter Tryd.func116, Tryd.ntmps116
  go_wp2
  exact bodyPost_ret (v := .agg #[.int .i64 a.f, .int .i64 a.l, .int .i64 a.t]) (by simp [results, Tryd.results116, go_sem]) rfl ⟨rfl, by (repeat (first | exact Below.refl _ _ | assumption | refine Below.drew ?_ | refine Below.alloc ?_ (by first | omega | (simp; done) | (simp; omega)) _ | refine Below.setCell ?_ (by first | omega | (simp; done) | (simp; omega)) _))⟩

theorem infoEdge : (Tryd.prog.info? 93).map (fun i => (i.zero, i.size, i.bytes)) = some (some (.agg #[.int .i64 0, .int .i64 0, .int .i64 0]), 3, 24) := by kernel_rfl

set_option maxHeartbeats 1000000 in
theorem toEdgeS_any (es : List Ed) (A : Option Addr) (c : Nat) (w : World) (hn : es.length ≤ 1048576) (hl : es.length ≤ c) (hc : c ≤ 9223372036854775807) (hr : EdsAt w w.heap.size A es) :
    Calls Tryd.prog 52 #[.slice A es.length c] w (EdsPost es w) := by
  replace hr := hid hr
  obtain ⟨i0, hi, hz0, hz1, hz2⟩ := info_parts infoEdge
  have hmk := fun W => run_make_rowN (P := Tryd.prog) 32 93 i0 _ Tryd.underlying32 hi hz0 .i64 .i64 es.length es.length (Nat.le_refl _) (by rw [hz2]; omega) (by omega) W
  rw [hz1] at hmk
  clear hz1 hz0 hz2 hi
  go_enter Tryd.func52, Tryd.ntmps52
  go_wp2
  have hblk0 := Blk.new w 93 (madeCells #[Value.int IntKind.i64 0, Value.int IntKind.i64 0, Value.int IntKind.i64 0] (es.length * 3))
  have hin0 : EdsIn (madeCells #[Value.int IntKind.i64 0, Value.int IntKind.i64 0, Value.int IntKind.i64 0] (es.length * 3)) es 0 := ⟨size_madeCells _ _, fun i _ h => by omega⟩
  replace hblk0 := hid hblk0
  replace hin0 := hid hin0
  go_loopw [4] (fun i wr => ∃ (k : Nat) (cs : Array Value), i = .int .i64 k ∧ k ≤ es.length ∧ EdsIn cs es k ∧ Blk wr w.heap.size 93 cs ∧ Below w.heap.size w wr) (fun i _ => es.length - (intOf i).toNat)
  case atStart => exact ⟨0, _, rfl, by omega, hin0.out, hblk0.out, by (repeat (first | exact Below.refl _ _ | assumption | refine Below.drew ?_ | refine Below.alloc ?_ (by first | omega | (simp; done) | (simp; omega)) _ | refine Below.setCell ?_ (by first | omega | (simp; done) | (simp; omega)) _))⟩
  case round =>
    obtain ⟨k, cs, rfl, hk, hin, hblk, hb⟩ := hrel
    by_cases hlt : k < es.length
    · obtain ⟨b, o, rfl, hB, hE⟩ := hr.out.get (Below.refl _ _) (Nat.le_refl _) hlt
      obtain ⟨e0, e1, e2⟩ := hE k hlt
      have hsz := hin.1
      have hg := hblk.lt
      have hnx := hid (hin.next hlt)
      replace hblk := hid hblk
      replace hin := hid hin
      replace hE := hid hE
      go_wp2_with (go_at_call 116; refine (toEdge_any es[k] _).mono ?_; rintro e w1 ⟨rfl, hb1⟩; obtain ⟨hbl1, ⟨v0, d0⟩, ⟨v1, d1⟩, ⟨v2, d2⟩, z0, z1, z2⟩ := hblk.out.three hb1 hg (i := k * 3) (by omega); unfold Ed.val; replace hbl1 := hid hbl1)
      have hb2 := hb.trans (hb1.mono hb.size)
      go_roundw
      case rel => exact ⟨k + 1, _, by go_num, by omega, hnx.out, ((hbl1.out.set_ _ _).set_ _ _).set_ _ _, by (repeat (first | exact Below.refl _ _ | assumption | refine Below.drew ?_ | refine Below.alloc ?_ (by first | omega | (simp; done) | (simp; omega)) _ | refine Below.setCell ?_ (by first | omega | (simp; done) | (simp; omega)) _))⟩
      case measure => simp [intOf]; omega
    · obtain rfl : k = es.length := by omega
      have hat := hid (hin.at_ hblk)
      replace hblk := hid hblk
      replace hin := hid hin
      go_wp2
      go_ret
      exact ⟨_, rfl, hat.out, fun b o e => by injection e with e; injection e with e; omega, hb⟩

set_option maxHeartbeats 400000 in
theorem toSystem_any (s : Sy) (A : Option Addr) (c : Nat) (w : World) (hn : s.es.length ≤ 1048576) (hl : s.es.length ≤ c) (hc : c ≤ 9223372036854775807) (hr : EdsAt w w.heap.size A s.es) :
    Calls Tryd.prog 17 #[s.val A c] w (SyPost s w) := by
  unfold Sy.val
  replace hr := hid hr
  go_enter Tryd.func17, Tryd.ntmps17
  go_wp2_with fail
  obtain ⟨w0, hw0⟩ : ∃ w0, ((w.alloc (Obj.cells #[Value.int IntKind.i64 s.al, Value.int IntKind.i64 s.st, Value.slice A s.es.length c] 24)).alloc (Obj.cells #[Value.int IntKind.i64 0, Value.int IntKind.i64 0, Value.slice none 0 0] 34)).alloc
      (Obj.cells #[Value.int IntKind.i64 s.al, Value.int IntKind.i64 s.st, Value.slice none 0 0] 34) = w0 := ⟨_, rfl⟩
  have hz : w0.heap.size = w.heap.size + 3 := by rw [← hw0]; simp
  have hB0 : Below w.heap.size w w0 := by rw [← hw0]; (repeat (first | exact Below.refl _ _ | assumption | refine Below.drew ?_ | refine Below.alloc ?_ (by first | omega | (simp; done) | (simp; omega)) _ | refine Below.setCell ?_ (by first | omega | (simp; done) | (simp; omega)) _))
  have k1 : Blk w0 (w.heap.size + 1) 34 #[Value.int IntKind.i64 0, Value.int IntKind.i64 0, Value.slice none 0 0] := by
    rw [← hw0]
    refine Blk.alloc ?_ _
    have := Blk.new (w.alloc (Obj.cells #[Value.int IntKind.i64 s.al, Value.int IntKind.i64 s.st, Value.slice A s.es.length c] 24)) 34 #[Value.int IntKind.i64 0, Value.int IntKind.i64 0, Value.slice none 0 0]
    simpa using this
  have k2 : Blk w0 (w.heap.size + 1 + 1) 34 #[Value.int IntKind.i64 s.al, Value.int IntKind.i64 s.st, Value.slice none 0 0] := by
    rw [← hw0]
    have := Blk.new ((w.alloc (Obj.cells #[Value.int IntKind.i64 s.al, Value.int IntKind.i64 s.st, Value.slice A s.es.length c] 24)).alloc (Obj.cells #[Value.int IntKind.i64 0, Value.int IntKind.i64 0, Value.slice none 0 0] 34)) 34 #[Value.int IntKind.i64 s.al, Value.int IntKind.i64 s.st, Value.slice none 0 0]
    simpa using this
  rw [hw0]
  clear hw0
  have hr0 : EdsAt w0 w0.heap.size A s.es := hr.out.later hB0
  refine (toEdgeS_any s.es A c w0 hn hl hc hr0).mono ?_
  rintro e w1 ⟨A', rfl, hA', hfr, hb1⟩
  have hk1 := k1.below hb1 (by omega)
  have hk2 := k2.below hb1 (by omega)
  have c0 : w1.cell? ⟨w.heap.size + 1, 0, none⟩ = some (.int .i64 0) := by rw [hk1.cell]; rfl
  have c1 : w1.cell? ⟨w.heap.size + 1, 1, none⟩ = some (.int .i64 0) := by rw [hk1.cell]; rfl
  have c2 : w1.cell? ⟨w.heap.size + 1, 2, none⟩ = some (.slice none 0 0) := by rw [hk1.cell]; rfl
  have d0 : w1.cell? ⟨w.heap.size + 1 + 1, 0, none⟩ = some (.int .i64 s.al) := by rw [hk2.cell]; rfl
  have d1 : w1.cell? ⟨w.heap.size + 1 + 1, 1, none⟩ = some (.int .i64 s.st) := by rw [hk2.cell]; rfl
  have d2 : w1.cell? ⟨w.heap.size + 1 + 1, 2, none⟩ = some (.slice none 0 0) := by rw [hk2.cell]; rfl
  have y0 := hk1.frozen 0
  have y1 := hk1.frozen 1
  have y2 := hk1.frozen 2
  have y3 := hk2.frozen 2
  have hB1 : Below w.heap.size w w1 := hB0.trans (hb1.mono (by omega))
  rw [hz] at hfr
  clear k1 k2 hr0
  replace hk1 := hid hk1
  replace hk2 := hid hk2
  replace hA' := hid hA'
  replace hfr := hid hfr
  replace hz := hid hz
  go_wp2
  refine bodyPost_ret (v := .agg #[.int .i64 s.al, .int .i64 s.st, .slice A' s.es.length s.es.length]) (by simp [results, Tryd.results17, go_sem, c0, c1, c2]) rfl ⟨A', rfl, ?_, fun b o e => by have := hfr.out b o e; omega, by (repeat (first | exact Below.refl _ _ | assumption | refine Below.drew ?_ | refine Below.alloc ?_ (by first | omega | (simp; done) | (simp; omega)) _ | refine Below.setCell ?_ (by first | omega | (simp; done) | (simp; omega)) _))⟩
  have e1 := hA'.out.setFar hfr.out (g := w.heap.size + 1 + 1) (i := 2) (.slice A' s.es.length s.es.length) (by omega)
  have e2 := e1.setFar hfr.out (g := w.heap.size + 1) (i := 0) (.int .i64 s.al) (by omega)
  have e3 := e2.setFar hfr.out (g := w.heap.size + 1) (i := 1) (.int .i64 s.st) (by omega)
  exact e3.setFar hfr.out (g := w.heap.size + 1) (i := 2) _ (by omega)


set_option maxHeartbeats 400000 in
theorem eqEdge_any (a b : Ed) (w : World) :
    Calls Tryd.prog 118 #[a.val, b.val] w fun e w' => e = .returned (.bool (decide (a = b))) ∧ Below w.heap.size w w' := by
  obtain ⟨af, al, at_⟩ := a
  obtain ⟨bf, bl, bt⟩ := b
  unfold Ed.val
  go_enter Tryd.func118, Tryd.ntmps118
  go_wp2
  all_goals go_ret
  all_goals exact ⟨ret_bool (by simp_all), by (repeat (first | exact Below.refl _ _ | assumption | refine Below.drew ?_ | refine Below.alloc ?_ (by first | omega | (simp; done) | (simp; omega)) _ | refine Below.setCell ?_ (by first | omega | (simp; done) | (simp; omega)) _))⟩

set_option maxHeartbeats 1000000 in
theorem eqEdgeS_any (es fs : List Ed) (A B : Option Addr) (c d : Nat) (w : World) (hn : es.length ≤ c) (hc : c ≤ 9223372036854775807) (hm : fs.length ≤ d) (_hd : d ≤ 9223372036854775807) (hr : EdsAt w w.heap.size A es) (hs : EdsAt w w.heap.size B fs) :
    Calls Tryd.prog 55 #[.slice A es.length c, .slice B fs.length d] w fun e w' => e = .returned (.bool (decide (es = fs))) ∧ Below w.heap.size w w' := by
  replace hr := hid hr
  replace hs := hid hs
  by_cases hlen : es.length = fs.length
  · go_enter Tryd.func55, Tryd.ntmps55
    go_wp2
    go_loopw [5] (fun i wr => ∃ k : Nat, i = .int .i64 k ∧ k ≤ es.length ∧ (∀ i (h : i < es.length) (h' : i < fs.length), i < k → es[i] = fs[i]) ∧ Below w.heap.size w wr) (fun i _ => es.length - (intOf i).toNat)
    case atStart => exact ⟨0, rfl, by omega, by intro i _ _ h; omega, Below.refl _ _⟩
    case round =>
      obtain ⟨k, rfl, hk, heq, hb⟩ := hrel
      by_cases hlt : k < es.length
      · obtain ⟨b, o, rfl, hB, hE⟩ := hr.out.get (Below.refl _ _) (Nat.le_refl _) hlt
        obtain ⟨b', o', rfl, hB', hF⟩ := hs.out.get (Below.refl _ _) (Nat.le_refl _) (show k < fs.length by omega)
        obtain ⟨e0, e1, e2⟩ := hE k hlt
        obtain ⟨f0, f1, f2⟩ := hF k (by omega)
        replace hE := hid hE
        replace hF := hid hF
        have hB1 := hid hB
        have g0 := fun x => e0 _ (Fam.below _ _ x)
        have g1 := fun x => e1 _ (Fam.below _ _ x)
        have g2 := fun x => e2 _ (Fam.below _ _ x)
        have i0 := fun x => f0 _ (Fam.below _ _ x)
        have i1 := fun x => f1 _ (Fam.below _ _ x)
        have i2 := fun x => f2 _ (Fam.below _ _ x)
        cases hq : decide (es[k] = fs[k])
        all_goals
          replace hq := hid hq
          replace heq := hid heq
          go_wp2_with fail
          refine wp_region_fam w.heap.size w (by kernel_rfl) (by kernel_rfl) hb ?_
          (repeat (go_big_quiet_step ((refine (eqEdge_any es[k] fs[k] _).mono ?_; rintro e w1 ⟨rfl, hb1⟩; exact ⟨by rw [hq.out], Fam.next (Nat.le_refl _) hb1⟩))))
          refine wpQuiet_nil ?_
          intro w2 hw2
          replace hw2 := Fam.out hw2
          go_wp2
        · go_ret
          exact ⟨ret_bool (by
            have := hq.out
            rw [decide_eq_false_iff_not] at this
            rw [eq_comm, decide_eq_false_iff_not]
            intro h
            subst h
            exact this rfl), hw2⟩
        · go_roundw
          case rel =>
            refine ⟨k + 1, by go_num, by omega, fun i hi hi' hik => ?_, hw2⟩
            by_cases e : i = k
            · subst e; exact of_decide_eq_true hq.out
            · exact heq.out i hi hi' (by omega)
          case measure => simp [intOf]; omega
      · replace heq := hid heq
        go_wp2
        go_ret
        exact ⟨ret_bool (by
          rw [eq_comm, decide_eq_true_iff]
          exact List.ext_getElem hlen fun i hi hi' => heq.out i hi hi' (by omega)), hb⟩
  · go_enter Tryd.func55, Tryd.ntmps55
    go_wp2
    go_ret
    exact ⟨ret_bool (by rw [eq_comm, decide_eq_false_iff_not]; intro h; exact hlen (by rw [h])), Below.refl _ _⟩

set_option maxHeartbeats 1000000 in
theorem eqSystem_any (s t : Sy) (A B : Option Addr) (c d : Nat) (w : World) (hn : s.es.length ≤ c) (hc : c ≤ 9223372036854775807) (hm : t.es.length ≤ d) (hd : d ≤ 9223372036854775807) (hr : EdsAt w w.heap.size A s.es) (hs : EdsAt w w.heap.size B t.es) :
    Calls Tryd.prog 20 #[s.val A c, t.val B d] w fun e w' => e = .returned (.bool (decide (s = t))) ∧ Below w.heap.size w w' := by
  obtain ⟨sa, ss, se⟩ := s
  obtain ⟨ta, ts, te⟩ := t
  dsimp only at hn hm hr hs
  have hsp : Hid (decide (({ al := sa, st := ss, es := se } : Sy) = { al := ta, st := ts, es := te }) = (decide (sa = ta) && (decide (ss = ts) && decide (se = te)))) := hid (by simp)
  unfold Sy.val
  replace hr := hid hr
  replace hs := hid hs
  go_enter Tryd.func20, Tryd.ntmps20
  go_wp2_with (refine (eqEdgeS_any se te A B c d _ hn hc hm hd (hr.out.later (by (repeat (first | exact Below.refl _ _ | assumption | refine Below.drew ?_ | refine Below.alloc ?_ (by first | omega | (simp; done) | (simp; omega)) _ | refine Below.setCell ?_ (by first | omega | (simp; done) | (simp; omega)) _)))) (hs.out.later (by (repeat (first | exact Below.refl _ _ | assumption | refine Below.drew ?_ | refine Below.alloc ?_ (by first | omega | (simp; done) | (simp; omega)) _ | refine Below.setCell ?_ (by first | omega | (simp; done) | (simp; omega)) _))))).mono ?_; rintro e w' ⟨rfl, hb⟩)
  all_goals
    go_ret
    exact ⟨ret_bool (by rw [hsp.out]; simp_all), by first | ((repeat (first | exact Below.refl _ _ | assumption | refine Below.drew ?_ | refine Below.alloc ?_ (by first | omega | (simp; done) | (simp; omega)) _ | refine Below.setCell ?_ (by first | omega | (simp; done) | (simp; omega)) _)); done) | exact Below.trans (by (repeat (first | exact Below.refl _ _ | assumption | refine Below.drew ?_ | refine Below.alloc ?_ (by first | omega | (simp; done) | (simp; omega)) _ | refine Below.setCell ?_ (by first | omega | (simp; done) | (simp; omega)) _))) (hb.mono (by first | (simp; done) | (simp; omega)))⟩


end Go.Proofs.YtimoekglamdddaaDoor

/- Copies of systems whose edges may be written; marks in systems. -/
namespace Go.Proofs.YtimoekglamdddaaDoor
open Go.RowKit Go.BigFrame AG

/-- The edges lie in a block that may be written. -/
def WrB (w : World) (A : Option Addr) (n : Nat) : Prop := ∀ b o, A = some ⟨b, o, none⟩ → o = 0 ∧ ∃ cs, Blk w b 93 cs ∧ n * 3 ≤ cs.size
theorem WrB.setFar {w : World} {n m : Nat} {A : Option Addr} (h : WrB w A n) (hf : FreshA m A) {g i : Nat} (v : Value) (hg : g < m) : WrB (w.setCell ⟨g, i, none⟩ v) A n := fun b o hA => by
  obtain ⟨h1, cs, h2, h3⟩ := h b o hA
  have := hf b o hA
  exact ⟨h1, cs, (Below.heap_setCell w ⟨g, i, none⟩ v b (by simp; omega)).trans h2, h3⟩
theorem WrB.later {w w' : World} {A : Option Addr} {n : Nat} (h : WrB w A n) (hb : Below w.heap.size w w') : WrB w' A n := fun b o hA => by
  obtain ⟨h1, cs, h2, h3⟩ := h b o hA
  exact ⟨h1, cs, h2.below hb h2.lt, h3⟩
def EdsPostW (es : List Ed) (w : World) (e : Ending) (w' : World) : Prop := ∃ A, e = .returned (.slice A es.length es.length) ∧ EdsAt w' w'.heap.size A es ∧ FreshA w.heap.size A ∧ WrB w' A es.length ∧ Below w.heap.size w w'
def SyPostW (s : Sy) (w : World) (e : Ending) (w' : World) : Prop := ∃ A, e = .returned (s.val A s.es.length) ∧ EdsAt w' w'.heap.size A s.es ∧ FreshA w.heap.size A ∧ WrB w' A s.es.length ∧ Below w.heap.size w w'

set_option maxHeartbeats 1000000 in
theorem toEdgeSW_any (es : List Ed) (A : Option Addr) (c : Nat) (w : World) (hn : es.length ≤ 1048576) (hl : es.length ≤ c) (hc : c ≤ 9223372036854775807) (hr : EdsAt w w.heap.size A es) :
    Calls Tryd.prog 52 #[.slice A es.length c] w (EdsPostW es w) := by
  replace hr := hid hr
  obtain ⟨i0, hi, hz0, hz1, hz2⟩ := info_parts infoEdge
  have hmk := fun W => run_make_rowN (P := Tryd.prog) 32 93 i0 _ Tryd.underlying32 hi hz0 .i64 .i64 es.length es.length (Nat.le_refl _) (by rw [hz2]; omega) (by omega) W
  rw [hz1] at hmk
  clear hz1 hz0 hz2 hi
  go_enter Tryd.func52, Tryd.ntmps52
  go_wp2
  have hblk0 := Blk.new w 93 (madeCells #[Value.int IntKind.i64 0, Value.int IntKind.i64 0, Value.int IntKind.i64 0] (es.length * 3))
  have hin0 : EdsIn (madeCells #[Value.int IntKind.i64 0, Value.int IntKind.i64 0, Value.int IntKind.i64 0] (es.length * 3)) es 0 := ⟨size_madeCells _ _, fun i _ h => by omega⟩
  replace hblk0 := hid hblk0
  replace hin0 := hid hin0
  go_loopw [4] (fun i wr => ∃ (k : Nat) (cs : Array Value), i = .int .i64 k ∧ k ≤ es.length ∧ EdsIn cs es k ∧ Blk wr w.heap.size 93 cs ∧ Below w.heap.size w wr) (fun i _ => es.length - (intOf i).toNat)
  case atStart => exact ⟨0, _, rfl, by omega, hin0.out, hblk0.out, by (repeat (first | exact Below.refl _ _ | assumption | refine Below.drew ?_ | refine Below.alloc ?_ (by first | omega | (simp; done) | (simp; omega)) _ | refine Below.setCell ?_ (by first | omega | (simp; done) | (simp; omega)) _))⟩
  case round =>
    obtain ⟨k, cs, rfl, hk, hin, hblk, hb⟩ := hrel
    by_cases hlt : k < es.length
    · obtain ⟨b, o, rfl, hB, hE⟩ := hr.out.get (Below.refl _ _) (Nat.le_refl _) hlt
      obtain ⟨e0, e1, e2⟩ := hE k hlt
      have hsz := hin.1
      have hg := hblk.lt
      have hnx := hid (hin.next hlt)
      replace hblk := hid hblk
      replace hin := hid hin
      replace hE := hid hE
      go_wp2_with (go_at_call 116; refine (toEdge_any es[k] _).mono ?_; rintro e w1 ⟨rfl, hb1⟩; obtain ⟨hbl1, ⟨v0, d0⟩, ⟨v1, d1⟩, ⟨v2, d2⟩, z0, z1, z2⟩ := hblk.out.three hb1 hg (i := k * 3) (by omega); unfold Ed.val; replace hbl1 := hid hbl1)
      have hb2 := hb.trans (hb1.mono hb.size)
      go_roundw
      case rel => exact ⟨k + 1, _, by go_num, by omega, hnx.out, ((hbl1.out.set_ _ _).set_ _ _).set_ _ _, by (repeat (first | exact Below.refl _ _ | assumption | refine Below.drew ?_ | refine Below.alloc ?_ (by first | omega | (simp; done) | (simp; omega)) _ | refine Below.setCell ?_ (by first | omega | (simp; done) | (simp; omega)) _))⟩
      case measure => simp [intOf]; omega
    · obtain rfl : k = es.length := by omega
      have hat := hid (hin.at_ hblk)
      replace hblk := hid hblk
      replace hin := hid hin
      go_wp2
      go_ret
      exact ⟨_, rfl, hat.out, fun b o e => by injection e with e; injection e with e; omega, (fun b o e => by
        injection e with e
        injection e with e1 e2
        subst e1
        exact ⟨e2.symm, cs, hblk.out, by have := hin.out.1; omega⟩), hb⟩

set_option maxHeartbeats 400000 in
theorem toSystemW_any (s : Sy) (A : Option Addr) (c : Nat) (w : World) (hn : s.es.length ≤ 1048576) (hl : s.es.length ≤ c) (hc : c ≤ 9223372036854775807) (hr : EdsAt w w.heap.size A s.es) :
    Calls Tryd.prog 17 #[s.val A c] w (SyPostW s w) := by
  unfold Sy.val
  replace hr := hid hr
  go_enter Tryd.func17, Tryd.ntmps17
  go_wp2_with fail
  obtain ⟨w0, hw0⟩ : ∃ w0, ((w.alloc (Obj.cells #[Value.int IntKind.i64 s.al, Value.int IntKind.i64 s.st, Value.slice A s.es.length c] 24)).alloc (Obj.cells #[Value.int IntKind.i64 0, Value.int IntKind.i64 0, Value.slice none 0 0] 34)).alloc
      (Obj.cells #[Value.int IntKind.i64 s.al, Value.int IntKind.i64 s.st, Value.slice none 0 0] 34) = w0 := ⟨_, rfl⟩
  have hz : w0.heap.size = w.heap.size + 3 := by rw [← hw0]; simp
  have hB0 : Below w.heap.size w w0 := by rw [← hw0]; (repeat (first | exact Below.refl _ _ | assumption | refine Below.drew ?_ | refine Below.alloc ?_ (by first | omega | (simp; done) | (simp; omega)) _ | refine Below.setCell ?_ (by first | omega | (simp; done) | (simp; omega)) _))
  have k1 : Blk w0 (w.heap.size + 1) 34 #[Value.int IntKind.i64 0, Value.int IntKind.i64 0, Value.slice none 0 0] := by
    rw [← hw0]
    refine Blk.alloc ?_ _
    have := Blk.new (w.alloc (Obj.cells #[Value.int IntKind.i64 s.al, Value.int IntKind.i64 s.st, Value.slice A s.es.length c] 24)) 34 #[Value.int IntKind.i64 0, Value.int IntKind.i64 0, Value.slice none 0 0]
    simpa using this
  have k2 : Blk w0 (w.heap.size + 1 + 1) 34 #[Value.int IntKind.i64 s.al, Value.int IntKind.i64 s.st, Value.slice none 0 0] := by
    rw [← hw0]
    have := Blk.new ((w.alloc (Obj.cells #[Value.int IntKind.i64 s.al, Value.int IntKind.i64 s.st, Value.slice A s.es.length c] 24)).alloc (Obj.cells #[Value.int IntKind.i64 0, Value.int IntKind.i64 0, Value.slice none 0 0] 34)) 34 #[Value.int IntKind.i64 s.al, Value.int IntKind.i64 s.st, Value.slice none 0 0]
    simpa using this
  rw [hw0]
  clear hw0
  have hr0 : EdsAt w0 w0.heap.size A s.es := hr.out.later hB0
  refine (toEdgeSW_any s.es A c w0 hn hl hc hr0).mono ?_
  rintro e w1 ⟨A', rfl, hA', hfr, hwr, hb1⟩
  have hk1 := k1.below hb1 (by omega)
  have hk2 := k2.below hb1 (by omega)
  have c0 : w1.cell? ⟨w.heap.size + 1, 0, none⟩ = some (.int .i64 0) := by rw [hk1.cell]; rfl
  have c1 : w1.cell? ⟨w.heap.size + 1, 1, none⟩ = some (.int .i64 0) := by rw [hk1.cell]; rfl
  have c2 : w1.cell? ⟨w.heap.size + 1, 2, none⟩ = some (.slice none 0 0) := by rw [hk1.cell]; rfl
  have d0 : w1.cell? ⟨w.heap.size + 1 + 1, 0, none⟩ = some (.int .i64 s.al) := by rw [hk2.cell]; rfl
  have d1 : w1.cell? ⟨w.heap.size + 1 + 1, 1, none⟩ = some (.int .i64 s.st) := by rw [hk2.cell]; rfl
  have d2 : w1.cell? ⟨w.heap.size + 1 + 1, 2, none⟩ = some (.slice none 0 0) := by rw [hk2.cell]; rfl
  have y0 := hk1.frozen 0
  have y1 := hk1.frozen 1
  have y2 := hk1.frozen 2
  have y3 := hk2.frozen 2
  have hB1 : Below w.heap.size w w1 := hB0.trans (hb1.mono (by omega))
  rw [hz] at hfr
  clear k1 k2 hr0
  replace hk1 := hid hk1
  replace hk2 := hid hk2
  replace hA' := hid hA'
  replace hfr := hid hfr
  replace hwr := hid hwr
  replace hz := hid hz
  go_wp2
  refine bodyPost_ret (v := .agg #[.int .i64 s.al, .int .i64 s.st, .slice A' s.es.length s.es.length]) (by simp [results, Tryd.results17, go_sem, c0, c1, c2]) rfl ⟨A', rfl, ?_, fun b o e => by have := hfr.out b o e; omega, ?_, by (repeat (first | exact Below.refl _ _ | assumption | refine Below.drew ?_ | refine Below.alloc ?_ (by first | omega | (simp; done) | (simp; omega)) _ | refine Below.setCell ?_ (by first | omega | (simp; done) | (simp; omega)) _))⟩
  rotate_left
  · have e1 := hwr.out.setFar hfr.out (g := w.heap.size + 1 + 1) (i := 2) (.slice A' s.es.length s.es.length) (by omega)
    have e2 := e1.setFar hfr.out (g := w.heap.size + 1) (i := 0) (.int .i64 s.al) (by omega)
    have e3 := e2.setFar hfr.out (g := w.heap.size + 1) (i := 1) (.int .i64 s.st) (by omega)
    exact e3.setFar hfr.out (g := w.heap.size + 1) (i := 2) _ (by omega)
  have e1 := hA'.out.setFar hfr.out (g := w.heap.size + 1 + 1) (i := 2) (.slice A' s.es.length s.es.length) (by omega)
  have e2 := e1.setFar hfr.out (g := w.heap.size + 1) (i := 0) (.int .i64 s.al) (by omega)
  have e3 := e2.setFar hfr.out (g := w.heap.size + 1) (i := 1) (.int .i64 s.st) (by omega)
  exact e3.setFar hfr.out (g := w.heap.size + 1) (i := 2) _ (by omega)


set_option maxRecDepth 100000 in
set_option maxHeartbeats 1000000 in
theorem markEdgeS_any (A : Option Addr) (n c : Nat) (es : List Ed) (k : Int) (w : World) (hn : es.length = n) (h0 : 0 ≤ k) (h1 : k + 3 * n ≤ 1152921504606846976) (hcn : n ≤ c) (hcm : c ≤ 9223372036854775807) (hr : EdsAt w w.heap.size A es) (hw : WrB w A n) :
    Calls Tryd.prog 56 #[.slice A n c, .int .i64 k] w fun e w' => e = .returned (.int .i64 (k + 3 * n)) ∧ KeepB (fun b => 0 < n ∧ ∃ o, A = some ⟨b, o, none⟩) w w' := by
  by_cases hn0 : n = 0
  · replace hr := hid hr
    replace hw := hid hw
    subst hn0
    go_enter Tryd.func56, Tryd.ntmps56
    go_wp2
    go_loopw [1, 5] (fun kv i wr => kv = .int .i64 k ∧ i = .int .i64 0 ∧ wr = w) (fun _ _ _ => 0)
    case atStart => exact ⟨rfl, rfl, rfl⟩
    case round =>
      obtain ⟨rfl, rfl, rfl⟩ := hrel
      go_wp2
      go_ret
      exact ⟨ret_int (by omega), KeepB.refl _ _⟩
  · obtain ⟨b, o, rfl, -, -⟩ := hr (by omega)
    obtain ⟨rfl, cur, hblk, hsz⟩ := hw b o rfl
    clear hr hw
    replace hblk := hid hblk
    go_enter Tryd.func56, Tryd.ntmps56
    go_wp2
    go_loopw [1, 5] (fun kv i wr => ∃ (j : Nat) (cs : Array Value), kv = .int .i64 (k + 3 * j) ∧ i = .int .i64 (j : Nat) ∧ j ≤ n ∧ Blk wr b 93 cs ∧ cs.size = cur.size ∧ KeepB (fun x => x = b) w wr) (fun _ i _ => n - (intOf i).toNat)
    case atStart => exact ⟨0, cur, by simp, rfl, by omega, hblk.out, rfl, KeepB.refl _ _⟩
    case round =>
      obtain ⟨j, cs, rfl, rfl, hj, hbr, hs, hkp⟩ := hrel
      by_cases hlt : j < n
      · obtain ⟨v0, d0⟩ := hbr.some_ (i := j * 3) (by omega)
        obtain ⟨v1, d1⟩ := hbr.some_ (i := j * 3 + 1) (by omega)
        obtain ⟨v2, d2⟩ := hbr.some_ (i := j * 3 + 2) (by omega)
        have z0 := hbr.frozen (j * 3)
        have z1 := hbr.frozen (j * 3 + 1)
        have z2 := hbr.frozen (j * 3 + 2)
        have k1 : (0 : Int) ≤ (j : Int) ∧ (j : Int) < (n : Int) := by omega
        replace hbr := hid hbr
        go_wp2
        go_roundw
        case rel => exact ⟨j + 1, _, by go_num, by go_num, by omega, ((hbr.out.set_ _ _).set_ _ _).set_ _ _, by simpa using hs, ((hkp.setCell _ _ fun _ => rfl).setCell _ _ fun _ => rfl).setCell _ _ fun _ => rfl⟩
        case measure => simp [intOf]; omega
      · obtain rfl : j = n := by omega
        replace hbr := hid hbr
        go_wp2
        go_ret
        exact ⟨rfl, hkp.mono fun x e => ⟨by omega, 0, by rw [e]⟩⟩

set_option maxRecDepth 100000 in
set_option maxHeartbeats 1000000 in
theorem markSystem_any (s : Sy) (A : Option Addr) (c : Nat) (k : Int) (w : World) (h0 : 0 ≤ k) (h1 : k + 3 * s.es.length ≤ 1152921504606846976) (hcn : s.es.length ≤ c) (hcm : c ≤ 9223372036854775807) (hr : EdsAt w w.heap.size A s.es) (hw : WrB w A s.es.length) :
    Calls Tryd.prog 21 #[s.val A c, .int .i64 k] w fun e w' => e = .returned (.int .i64 (k + 3 * s.es.length)) ∧ KeepB (fun b => 0 < s.es.length ∧ ∃ o, A = some ⟨b, o, none⟩) w w' := by
  unfold Sy.val
  obtain ⟨w0, hw0, hz0, hB0, hS0, hS1, hS2⟩ := boxed3 w (Value.int IntKind.i64 s.al) (Value.int IntKind.i64 s.st) (Value.slice A s.es.length c) 34
  have p2 := hS2 _ (Below.refl _ _)
  have hr0 := hid (hr.later hB0)
  have hw0' := hid (hw.later hB0)
  replace hr := hid hr
  replace hw := hid hw
  go_enter Tryd.func21, Tryd.ntmps21
  go_wp2_with fail
  refine (markEdgeS_any A s.es.length c s.es k w0 rfl h0 h1 hcn hcm hr0.out hw0'.out).mono ?_
  rintro e w1 ⟨rfl, hk1⟩
  have hk := (KeepB.of_below (K := fun b => 0 < s.es.length ∧ ∃ o, A = some ⟨b, o, none⟩) hB0).trans hk1
  go_wp2
  go_ret
  exact ⟨rfl, hk⟩

end Go.Proofs.YtimoekglamdddaaDoor

/- The laws FnExactDeterminize, FnExactProjectSystem return true. -/
namespace Go.Proofs.YtimoekglamdddaaDoor
open Go.RowKit Go.BigFrame Go.Maps AG

theorem sum_le_mul {k : Nat} : ∀ l : List Nat, (∀ x ∈ l, x ≤ k) → l.sum ≤ l.length * k
  | [], _ => by simp
  | x :: l, h => by
    have h1 := sum_le_mul l fun y hy => h y (List.mem_cons_of_mem _ hy)
    have h2 := h x List.mem_cons_self
    rw [List.sum_cons, List.length_cons, Nat.add_mul]
    omega
theorem prA_small (s : Sy) (al : Int) : cntR (prA s al).nx ≤ 72 ∧ (prA s al).ac.length ≤ 12 := by
  cases hk : prOk s al with
  | false => rw [(prA_bad hk).1]; decide
  | true =>
    cases hn : prNum s al with
    | none => rw [(prA_none hn).1]; decide
    | some x =>
      rw [(prA_some hk hn).1]
      obtain ⟨h1, h2, h3⟩ := numRes_len hn
      unfold prAu
      dsimp only
      refine ⟨?_, by rw [List.length_map]; exact h1⟩
      unfold cntR
      have h4 := sum_le_mul (k := 6) ((toRows x.2).map List.length) fun y hy => by
        obtain ⟨r, hr, rfl⟩ := List.mem_map.1 hy
        unfold toRows at hr
        obtain ⟨r', hr', rfl⟩ := List.mem_map.1 hr
        rw [List.length_map, h3 r' hr']
        exact lettersTo_len al 6
      rw [List.length_map, toRows_len] at h4
      have : x.2.length * 6 ≤ 12 * 6 := Nat.mul_le_mul_right 6 (by omega)
      omega
theorem cell_keep {K : Nat → Prop} {w w' : World} (hk : KeepB K w w') {p : Addr} {v : Value} (h : w.cell? p = some v) (hn : ¬ K p.block) : w'.cell? p = some v := by
  rw [World.cell?_of_block (hk.block p.block (World.block_lt_of_cell? _ _ h) hn)]
  exact h
theorem AuOwn.keepB {K : Nat → Prop} {w w' : World} {base : Nat} {v1 v2 : Value} {a : Au} {xs : List RowV} (h : AuOwn w base v1 v2 a xs) (hk : KeepB K w w') (hK : ∀ b, base ≤ b → b < w.heap.size → ¬ K b) : AuOwn w' base v1 v2 a xs :=
  ⟨h.rows.keep hk (fun g hg => hK g (h.rows.own.lt g hg).1 (h.rows.own.lt g hg).2) (fun x hx g hg => hK g ((h.rows.rows x hx).lt g hg).1 ((h.rows.rows x hx).lt g hg).2), h.eq, own_keep h.acc hk fun g hg => hK g (h.acc.lt g hg).1 (h.acc.lt g hg).2⟩
theorem AuOwn.read {w : World} {base : Nat} {A B : Option Addr} {a : Au} {c d : Nat} {xs : List RowV} (h : AuOwn w base (.slice A a.nx.length c) (.slice B a.ac.length d) a xs) : AuAt w A c B d a := by
  obtain ⟨A', c', B', d', e1, e2, hat⟩ := h.at_
  cases e1
  cases e2
  exact hat

set_option maxRecDepth 100000 in
set_option maxHeartbeats 8000000 in
theorem FnExactProjectSystem_any (s : Sy) (A : Option Addr) (c : Nat) (al : Int) (w : World) (hl : s.es.length ≤ c) (hc : c ≤ 9223372036854775807) (hT : Tab w) (hr : EdsAt w w.heap.size A s.es) :
    Calls Tryd.prog 4 #[s.val A c, .int .i64 al] w fun e w' => e = .returned (.bool true) ∧ Below w.heap.size w w' := by
  unfold Sy.val
  obtain ⟨a, ha⟩ : ∃ a, Hid (a = prA s al) := ⟨_, hid rfl⟩
  obtain ⟨ok, hok⟩ : ∃ ok, Hid (ok = prK s al) := ⟨_, hid rfl⟩
  have hsm1 := prA_small s al
  rw [← ha.out] at hsm1
  obtain ⟨hsm1, hsm2⟩ := hsm1
  obtain ⟨w0, hw0, hz0, hB0, hS⟩ := boxed w #[Value.int IntKind.i64 s.al, Value.int IntKind.i64 s.st, Value.slice A s.es.length c] 24
  have p0 := hS 0 _ rfl _ (Below.refl _ _)
  have p1 := hS 1 _ rfl _ (Below.refl _ _)
  have p2 := hS 2 _ rfl _ (Below.refl _ _)
  have hs0 := fun w' (hb : Below w0.heap.size w0 w') => hS 0 _ rfl w' (hb.mono hz0)
  have hs1 := fun w' (hb : Below w0.heap.size w0 w') => hS 1 _ rfl w' (hb.mono hz0)
  have hs2 := fun w' (hb : Below w0.heap.size w0 w') => hS 2 _ rfl w' (hb.mono hz0)
  replace hr := hid hr
  replace hT := hid hT
  replace hs0 := hid hs0
  replace hs1 := hid hs1
  replace hs2 := hid hs2
  go_enter Tryd.func4, Tryd.ntmps4
  go_wp2_with fail
  refine (szSystem_any s A c 1048576 w0 (by omega) (by omega) (by omega)).mono ?_
  rintro e w1 ⟨rfl, hb1⟩
  have hB1 := hB0.trans (hb1.mono hB0.size)
  have hz1 := hb1.size
  clear p0 p1 p2 hw0 hS
  by_cases hsz : sz1 s.es.length 1048576 < 0
  · go_wp2_with fail
    go_ret
    exact ⟨rfl, hB1⟩
  have hn : s.es.length ≤ 1048576 := by unfold sz1 at hsz; split at hsz <;> omega
  have p0 := hs0.out _ hb1
  have p1 := hs1.out _ hb1
  have p2 := hs2.out _ hb1
  go_wp2_with fail
  refine (toSystem_any s A c w1 hn hl hc (hr.out.later hB1)).mono ?_
  rintro e w2 ⟨A2, rfl, hA2, -, hb2⟩
  unfold Sy.val
  have hB2 := hB1.trans (hb2.mono hB1.size)
  have hz2 := hb2.size
  replace hA2 := hid hA2
  have hcs := hid (specProjectSystem_any s A2 s.es.length al w2 (Nat.le_refl _) (by omega) hA2.out)
  rw [← ha.out, ← hok.out] at hcs
  clear p0 p1 p2
  go_wp2_with fail
  refine hcs.out.mono ?_
  clear hcs
  rintro e w3 ⟨hb3, v1, v2, xs0, rfl, hau0⟩
  obtain ⟨A0, c0, B0, d0, rfl, rfl, -⟩ := hau0.at_
  have hB3 := hB2.trans (hb3.mono hB2.size)
  have hz3 := hb3.size
  have hb03 := (hb1.trans ((hb2.trans (hb3.mono hz2)).mono hz1))
  replace hau0 := hid hau0
  go_upto_region 6 with fail
  obtain ⟨w4, hw4, hz4, hB4', hQ⟩ := boxed w3 #[.int .i64 a.al, .slice A0 a.nx.length c0, .slice B0 a.ac.length d0] 29
  rw [hw4]
  clear hw4
  have hB4 := hB3.trans (hB4'.mono hB3.size)
  have hq0 := fun w' (hb : KeepB (fun b => w4.heap.size ≤ b) w4 w') => cell_keep hb (hQ 0 _ rfl _ (Below.refl _ _)) (show ¬ w4.heap.size ≤ w3.heap.size by omega)
  have hq1 := fun w' (hb : KeepB (fun b => w4.heap.size ≤ b) w4 w') => cell_keep hb (hQ 1 _ rfl _ (Below.refl _ _)) (show ¬ w4.heap.size ≤ w3.heap.size by omega)
  have hq2 := fun w' (hb : KeepB (fun b => w4.heap.size ≤ b) w4 w') => cell_keep hb (hQ 2 _ rfl _ (Below.refl _ _)) (show ¬ w4.heap.size ≤ w3.heap.size by omega)
  have hb04 := hb03.trans (hB4'.mono hb03.size)
  have ht0 := fun w' (hb : KeepB (fun b => w4.heap.size ≤ b) w4 w') => cell_keep hb (hs0.out _ hb04) (show ¬ w4.heap.size ≤ w.heap.size by have := hb03.size; omega)
  have ht1 := fun w' (hb : KeepB (fun b => w4.heap.size ≤ b) w4 w') => cell_keep hb (hs1.out _ hb04) (show ¬ w4.heap.size ≤ w.heap.size by have := hb03.size; omega)
  have ht2 := fun w' (hb : KeepB (fun b => w4.heap.size ≤ b) w4 w') => cell_keep hb (hs2.out _ hb04) (show ¬ w4.heap.size ≤ w.heap.size by have := hb03.size; omega)
  have hau4 := hid (hau0.out.later hB4')
  have hau := fun w' (hb : KeepB (fun b => w4.heap.size ≤ b) w4 w') => (hau4.out.keepB hb fun b _ h1 h2 => by omega).read
  replace hq0 := hid hq0
  replace hq1 := hid hq1
  replace hq2 := hid hq2
  replace ht0 := hid ht0
  replace ht1 := hid ht1
  replace ht2 := hid ht2
  replace hau := hid hau
  have p0 := ht0.out _ (KeepB.refl _ _)
  have p1 := ht1.out _ (KeepB.refl _ _)
  have p2 := ht2.out _ (KeepB.refl _ _)
  clear hQ
  go_wp2_with fail
  refine (toSystemW_any s A c w4 hn hl hc (hr.out.later hB4)).mono ?_
  rintro e w5 ⟨A5, rfl, hA5, hf5, hw5, hb5⟩
  unfold Sy.val
  have hB5 := hB4.trans (hb5.mono hB4.size)
  have hz5 := hb5.size
  have hk5 : KeepB (fun b => w4.heap.size ≤ b) w4 w5 := .of_below hb5
  clear p0 p1 p2
  replace hA5 := hid hA5
  replace hf5 := hid hf5
  replace hw5 := hid hw5
  have hbX : Hid (∀ b, (0 < s.es.length ∧ ∃ o, A5 = some ⟨b, o, none⟩) → w4.heap.size ≤ b ∧ b < w5.heap.size) := hid fun b ⟨h0, o, e⟩ => by
    obtain ⟨b', o', e', hlt, -⟩ := hA5.out h0
    rw [e] at e'
    injection e' with e'
    injection e' with e' _
    have := hf5.out b o e
    omega
  go_upto_region 7 with fail
  obtain ⟨w6, hw6, hz6, hB6', hX⟩ := boxed w5 #[.int .i64 s.al, .int .i64 s.st, .slice A5 s.es.length s.es.length] 34
  rw [hw6]
  clear hw6
  have hB6 := hB5.trans (hB6'.mono hB5.size)
  have hk6 : KeepB (fun b => w4.heap.size ≤ b) w4 w6 := hk5.trans (.of_below hB6')
  have x0 := hX 0 _ rfl _ (Below.refl _ _)
  have x1 := hX 1 _ rfl _ (Below.refl _ _)
  have x2 := hX 2 _ rfl _ (Below.refl _ _)
  have hA6 := hid (hA5.out.later hB6')
  have hT6 := hid (hT.out.later hB6)
  have hci := hid (implProjectSystem_any s A5 s.es.length al w6 (Nat.le_refl _) (by omega) hT6.out hA6.out)
  rw [← ha.out, ← hok.out] at hci
  go_wp2_with fail
  refine hci.out.mono ?_
  clear hci x0 x1 x2
  rintro e w7 ⟨hb7, v1, v2, xs, rfl, hau7⟩
  obtain ⟨A7, c7, B7, d7, rfl, rfl, -⟩ := hau7.at_
  have hB7 := hB6.trans (hb7.mono hB6.size)
  have hz7 := hb7.size
  have hk7 : KeepB (fun b => w4.heap.size ≤ b) w4 w7 := hk6.trans (.of_below hb7)
  replace hau7 := hid hau7
  go_upto_region 8 with fail
  obtain ⟨w8, hw8, hz8, hB8', hY⟩ := boxed w7 #[.int .i64 a.al, .slice A7 a.nx.length c7, .slice B7 a.ac.length d7] 29
  rw [hw8]
  clear hw8
  have hB8 := hB7.trans (hB8'.mono hB7.size)
  have hk8 : KeepB (fun b => w4.heap.size ≤ b) w4 w8 := hk7.trans (.of_below hB8')
  have hy0 := fun w' (hb : KeepB (fun b => b < w7.heap.size) w8 w') => cell_keep hb (hY 0 _ rfl _ (Below.refl _ _)) (show ¬ w7.heap.size < w7.heap.size by omega)
  have hy1 := fun w' (hb : KeepB (fun b => b < w7.heap.size) w8 w') => cell_keep hb (hY 1 _ rfl _ (Below.refl _ _)) (show ¬ w7.heap.size < w7.heap.size by omega)
  have hy2 := fun w' (hb : KeepB (fun b => b < w7.heap.size) w8 w') => cell_keep hb (hY 2 _ rfl _ (Below.refl _ _)) (show ¬ w7.heap.size < w7.heap.size by omega)
  have y0 := hy0 _ (KeepB.refl _ _)
  have y1 := hy1 _ (KeepB.refl _ _)
  have y2 := hy2 _ (KeepB.refl _ _)
  have q0 := hq0.out _ hk8
  have q1 := hq1.out _ hk8
  have q2 := hq2.out _ hk8
  replace hy0 := hid hy0
  replace hy1 := hid hy1
  replace hy2 := hid hy2
  have hau8 := hid (hau7.out.later hB8')
  clear hY
  go_wp2_with fail
  refine (eqAutomaton_any a a A7 B7 A0 B0 c7 d7 c0 d0 w8 hau8.out.read (hau.out _ hk8)).mono ?_
  rintro e w9 ⟨rfl, hb9⟩
  rw [decide_eq_true rfl]
  have hB9 := hB8.trans (hb9.mono hB8.size)
  have hz9 := hb9.size
  have hk9 : KeepB (fun b => w4.heap.size ≤ b) w4 w9 := hk8.trans (.of_below hb9)
  have hr9 : KeepB (fun b => b < w7.heap.size) w8 w9 := .of_below hb9
  have hb69 := hb7.trans ((hB8'.trans (hb9.mono hB8'.size)).mono hz7)
  clear y0 y1 y2 q0 q1 q2
  have hrr9 := hid (hr.out.later hB9)
  have hA9 := hid (hA6.out.later hb69)
  have hFk : ∀ x, KeepB (fun b => w4.heap.size ≤ b) w4 (Fam w9.heap.size w9 x) := fun x => hk9.trans (.of_below (Fam.below w9.heap.size w9 x))
  have u0 := fun x => ht0.out _ (hFk x)
  have u1 := fun x => ht1.out _ (hFk x)
  have u2 := fun x => ht2.out _ (hFk x)
  have hFx : ∀ x, Below (w5.heap.size + 1) w6 (Fam w9.heap.size w9 x) := fun x => (hb69.trans ((Fam.below w9.heap.size w9 x).mono (by have := hb69.size; exact this))).mono hz6
  have z0 := fun x => hX 0 _ rfl _ (hFx x)
  have z1 := fun x => hX 1 _ rfl _ (hFx x)
  have z2 := fun x => hX 2 _ rfl _ (hFx x)
  replace hFk := hid hFk
  replace hFx := hid hFx
  go_wp2_with fail
  refine wp_region_grow 5 w9.heap.size w9 (fun i u w' => if i = 2 then ∃ A2, u = s.val A2 s.es.length ∧ EdsAt w' w'.heap.size A2 s.es else u = .bool true) (by kernel_rfl) (by kernel_rfl) (Nat.le_refl _) (Below.refl _ _) ?_
  simp only [List.take_succ_cons, List.take_zero, List.drop_succ_cons, List.drop_zero]
  (repeat (refine grow_quiet (by rfl) (by rfl) (by rfl) ?_; intro K hK; go_big_quiet_op; go_big_quiet_on))
  refine grow_call (by rfl) (by rfl) (fun u v v' hb h => ?_) (fun wq hbq _ => ?_) fun u hu => ?_
  · obtain ⟨g, e, h⟩ := h
    exact ⟨g, e, h.later hb⟩
  · go_simp
    refine ⟨rfl, (toSystem_any s A c wq hn hl hc (hrr9.out.later hbq)).mono ?_⟩
    rintro e w3 ⟨A3, rfl, hA3, -, hb3⟩
    exact ⟨_, rfl, hb3, A3, rfl, hA3⟩
  obtain ⟨wx, -, A3, rfl, -⟩ := hu
  simp only [Act.put, List.setIfInBounds_toArray, List.set_cons_zero, List.set_cons_succ]
  (repeat (refine grow_quiet (by rfl) (by rfl) (by rfl) ?_; intro K hK; go_big_quiet_op; go_big_quiet_on))
  refine grow_val (.bool true) (by rfl) (by rfl) rfl (fun wq hbq hfx => ?_) ?_
  · obtain ⟨_, e3, h3⟩ := hfx _ List.mem_cons_self (by kernel_rfl)
    cases e3
    have h3' := hid h3
    clear h3 hfx
    go_simp
    refine ⟨rfl, (eqSystem_any s s A5 A3 _ _ wq (Nat.le_refl _) (by omega) (Nat.le_refl _) (by omega) (hA9.out.later hbq) h3'.out).mono ?_⟩
    rintro e w4 ⟨rfl, hb4⟩
    exact ⟨by rw [decide_eq_true rfl], hb4⟩
  simp only [Act.put, List.setIfInBounds_toArray, List.set_cons_zero, List.set_cons_succ]
  (repeat (refine grow_quiet (by rfl) (by rfl) (by rfl) ?_; intro K hK; go_big_quiet_op; go_big_quiet_on))
  refine grow_nil ?_
  intro w10 hb10 hf
  clear hf u0 u1 u2 z0 z1 z2
  have hB10 := hB9.trans (hb10.mono hB9.size)
  have hz10 := hb10.size
  have hk10 : KeepB (fun b => w4.heap.size ≤ b) w4 w10 := hk9.trans (.of_below hb10)
  have hr10 : KeepB (fun b => b < w7.heap.size) w8 w10 := hr9.trans (.of_below hb10)
  have hb6a := hb69.trans (hb10.mono hb69.size)
  have x0 := hX 0 _ rfl _ (hb6a.mono hz6)
  have x1 := hX 1 _ rfl _ (hb6a.mono hz6)
  have x2 := hX 2 _ rfl _ (hb6a.mono hz6)
  have hA10 := hid (hA6.out.later hb6a)
  have hw10 := hid (hw5.out.later (hB6'.trans (hb6a.mono hB6'.size)))
  go_wp2_with fail
  refine (markSystem_any s A5 s.es.length 1 w10 (by omega) (by omega) (Nat.le_refl _) (by omega) hA10.out hw10.out).mono ?_
  rintro e w11 ⟨rfl, hm11⟩
  replace hm11 := hm11.mono hbX.out
  have hk11 : KeepB (fun b => w4.heap.size ≤ b) w4 w11 := hk10.trans (hm11.mono fun b h => h.1)
  have hr11 : KeepB (fun b => b < w7.heap.size) w8 w11 := hr10.trans (hm11.mono fun b h => by have := h.2; omega)
  have hB11 : Below w.heap.size w w11 := KeepB.below hB4 hk11 hB4.size fun b h => by have := hB4.size; omega
  have ha11 : Hid (AuOwn w11 w6.heap.size (.slice A7 a.nx.length c7) (.slice B7 a.ac.length d7) a xs) := hid (hau8.out.keepB ((KeepB.of_below (K := fun b => w4.heap.size ≤ b ∧ b < w5.heap.size) (hb9.trans (hb10.mono hz9))).trans hm11) fun b h1 _ h3 => by have := h3.2; omega)
  have hmk : ¬ ((1 : Int) + 3 * (s.es.length : Int) < 0) := by omega
  clear x0 x1 x2
  have y0 := hy0.out _ hr11
  have y1 := hy1.out _ hr11
  have y2 := hy2.out _ hr11
  have q0 := hq0.out _ hk11
  have q1 := hq1.out _ hk11
  have q2 := hq2.out _ hk11
  go_wp2_with fail
  refine (eqAutomaton_any a a A7 B7 A0 B0 c7 d7 c0 d0 w11 ha11.out.read (hau.out _ hk11)).mono ?_
  rintro e w12 ⟨rfl, hb12⟩
  rw [decide_eq_true rfl]
  have hB12 := hB11.trans (hb12.mono hB11.size)
  have hk12 : KeepB (fun b => w4.heap.size ≤ b) w4 w12 := hk11.trans (.of_below hb12)
  have hr12 : KeepB (fun b => b < w7.heap.size) w8 w12 := hr11.trans (.of_below hb12)
  have ha12 := hid (ha11.out.later hb12)
  clear y0 y1 y2 q0 q1 q2
  have y0 := hy0.out _ hr12
  have y1 := hy1.out _ hr12
  have y2 := hy2.out _ hr12
  go_wp2_with fail
  refine (markAutomaton_any w6.heap.size _ _ a xs 1 w12 (by omega) (by omega) ha12.out).mono ?_
  rintro e w13 ⟨rfl, ha13, hm13⟩
  replace hm13 := hm13.mono (K' := fun b => w6.heap.size ≤ b ∧ b < w7.heap.size) fun b h => by
    rcases h with ⟨x, hx, e⟩ | e
    · exact (hau7.out.rows.rows x hx).lt b e
    · exact hau7.out.acc.lt b e
  have hz56 : w5.heap.size < w6.heap.size := by omega
  have hk13 : KeepB (fun b => w4.heap.size ≤ b) w4 w13 := hk12.trans (hm13.mono fun b h => by have := h.1; omega)
  have hr13 : KeepB (fun b => b < w7.heap.size) w8 w13 := hr12.trans (hm13.mono fun b h => h.2)
  have hB13 : Below w.heap.size w w13 := KeepB.below hB4 hk13 hB4.size fun b h => by have := hB4.size; omega
  replace ha13 := hid ha13
  obtain ⟨M, hM⟩ : ∃ M, M = (1 : Int) + (cntR a.nx : Int) + (a.ac.length : Int) := ⟨_, rfl⟩
  have hM0 : 0 ≤ M ∧ M ≤ 1000 := by omega
  have hMn : ¬ (M < 0) := by omega
  have hMM : (M != M) = false := by simp
  rw [← hM]
  clear y0 y1 y2
  have y0 := hy0.out _ hr13
  have y1 := hy1.out _ hr13
  have y2 := hy2.out _ hr13
  go_wp2_with fail
  refine (heldAutomaton_any w6.heap.size _ _ a.al a.nx a.ac.length (markV xs 1) 1 w13 (by omega) (by omega) ha13.out).mono ?_
  rintro e w14 ⟨rfl, hb14⟩
  rw [← hM]
  have hB14 := hB13.trans (hb14.mono hB13.size)
  have hk14 : KeepB (fun b => w4.heap.size ≤ b) w4 w14 := hk13.trans (.of_below hb14)
  have hr14 : KeepB (fun b => b < w7.heap.size) w8 w14 := hr13.trans (.of_below hb14)
  clear y0 y1 y2
  have p0 := ht0.out _ hk14
  have p1 := ht1.out _ hk14
  have p2 := ht2.out _ hk14
  go_wp2_with fail
  refine (toSystem_any s A c w14 hn hl hc (hr.out.later hB14)).mono ?_
  rintro e w15 ⟨A15, rfl, hA15, -, hb15⟩
  unfold Sy.val
  have hB15 := hB14.trans (hb15.mono hB14.size)
  replace hA15 := hid hA15
  have hT15 := hid (hT.out.later hB15)
  have hci := hid (implProjectSystem_any s A15 s.es.length al w15 (Nat.le_refl _) (by omega) hT15.out hA15.out)
  rw [← ha.out, ← hok.out] at hci
  clear p0 p1 p2
  go_wp2_with fail
  refine hci.out.mono ?_
  clear hci
  rintro e w16 ⟨hb16, v1, v2, xs16, rfl, hau16⟩
  obtain ⟨A16, c16, B16, d16, rfl, rfl, -⟩ := hau16.at_
  have hB16 := hB15.trans (hb16.mono hB15.size)
  replace hau16 := hid hau16
  go_upto_region 25 with fail
  obtain ⟨w17, hw17, hz17, hB17', hY⟩ := boxed w16 #[.int .i64 a.al, .slice A16 a.nx.length c16, .slice B16 a.ac.length d16] 29
  rw [hw17]
  clear hw17
  have hb1417 := hb15.trans ((hb16.trans (hB17'.mono hb16.size)).mono hb15.size)
  have hB17 := hB16.trans (hB17'.mono hB16.size)
  have hk17 : KeepB (fun b => w4.heap.size ≤ b) w4 w17 := hk14.trans (.of_below hb1417)
  have hr17 : KeepB (fun b => b < w7.heap.size) w8 w17 := hr14.trans (.of_below hb1417)
  have y0 := hY 0 _ rfl _ (Below.refl _ _)
  have y1 := hY 1 _ rfl _ (Below.refl _ _)
  have y2 := hY 2 _ rfl _ (Below.refl _ _)
  have q0 := hq0.out _ hk17
  have q1 := hq1.out _ hk17
  have q2 := hq2.out _ hk17
  have ha17 := hid (hau16.out.later hB17')
  clear hY
  go_wp2_with fail
  refine (eqAutomaton_any a a A16 B16 A0 B0 c16 d16 c0 d0 w17 ha17.out.read (hau.out _ hk17)).mono ?_
  rintro e w18 ⟨rfl, hb18⟩
  rw [decide_eq_true rfl]
  have hB18 := hB17.trans (hb18.mono hB17.size)
  have hr18 : KeepB (fun b => b < w7.heap.size) w8 w18 := hr17.trans (.of_below hb18)
  have ha18 := hid (ha13.out.later (hb14.trans ((hb1417.trans (hb18.mono hb1417.size)).mono hb14.size)))
  clear y0 y1 y2 q0 q1 q2
  have y0 := hy0.out _ hr18
  have y1 := hy1.out _ hr18
  have y2 := hy2.out _ hr18
  go_wp2_with fail
  refine (heldAutomaton_any w6.heap.size _ _ a.al a.nx a.ac.length (markV xs 1) 1 w18 (by omega) (by omega) ha18.out).mono ?_
  rintro e w19 ⟨rfl, hb19⟩
  rw [← hM]
  have hB19 := hB18.trans (hb19.mono hB18.size)
  clear y0 y1 y2
  go_wp2_with fail
  go_ret
  exact ⟨rfl, hB19⟩

set_option maxRecDepth 100000 in
set_option maxHeartbeats 8000000 in
theorem FnExactDeterminize_any (s : Sy) (A : Option Addr) (c : Nat) (w : World) (hl : s.es.length ≤ c) (hc : c ≤ 9223372036854775807) (hT : Tab w) (hr : EdsAt w w.heap.size A s.es) :
    Calls Tryd.prog 3 #[s.val A c] w fun e w' => e = .returned (.bool true) ∧ Below w.heap.size w w' := by
  unfold Sy.val
  obtain ⟨a, ha⟩ : ∃ a, Hid (a = prA s s.al) := ⟨_, hid rfl⟩
  obtain ⟨ok, hok⟩ : ∃ ok, Hid (ok = prK s s.al) := ⟨_, hid rfl⟩
  have hsm1 := prA_small s s.al
  rw [← ha.out] at hsm1
  obtain ⟨hsm1, hsm2⟩ := hsm1
  obtain ⟨w0, hw0, hz0, hB0, hS⟩ := boxed w #[Value.int IntKind.i64 s.al, Value.int IntKind.i64 s.st, Value.slice A s.es.length c] 24
  have p0 := hS 0 _ rfl _ (Below.refl _ _)
  have p1 := hS 1 _ rfl _ (Below.refl _ _)
  have p2 := hS 2 _ rfl _ (Below.refl _ _)
  have hs0 := fun w' (hb : Below w0.heap.size w0 w') => hS 0 _ rfl w' (hb.mono hz0)
  have hs1 := fun w' (hb : Below w0.heap.size w0 w') => hS 1 _ rfl w' (hb.mono hz0)
  have hs2 := fun w' (hb : Below w0.heap.size w0 w') => hS 2 _ rfl w' (hb.mono hz0)
  replace hr := hid hr
  replace hT := hid hT
  replace hs0 := hid hs0
  replace hs1 := hid hs1
  replace hs2 := hid hs2
  go_enter Tryd.func3, Tryd.ntmps3
  go_wp2_with fail
  refine (szSystem_any s A c 1048576 w0 (by omega) (by omega) (by omega)).mono ?_
  rintro e w1 ⟨rfl, hb1⟩
  have hB1 := hB0.trans (hb1.mono hB0.size)
  have hz1 := hb1.size
  clear p0 p1 p2 hw0 hS
  by_cases hsz : sz1 s.es.length 1048576 < 0
  · go_wp2_with fail
    go_ret
    exact ⟨rfl, hB1⟩
  have hn : s.es.length ≤ 1048576 := by unfold sz1 at hsz; split at hsz <;> omega
  have p0 := hs0.out _ hb1
  have p1 := hs1.out _ hb1
  have p2 := hs2.out _ hb1
  go_wp2_with fail
  refine (toSystem_any s A c w1 hn hl hc (hr.out.later hB1)).mono ?_
  rintro e w2 ⟨A2, rfl, hA2, -, hb2⟩
  unfold Sy.val
  have hB2 := hB1.trans (hb2.mono hB1.size)
  have hz2 := hb2.size
  replace hA2 := hid hA2
  have hcs := hid (specDeterminize_any s A2 s.es.length w2 (Nat.le_refl _) (by omega) hA2.out)
  rw [← ha.out, ← hok.out] at hcs
  clear p0 p1 p2
  go_wp2_with fail
  refine hcs.out.mono ?_
  clear hcs
  rintro e w3 ⟨hb3, v1, v2, xs0, rfl, hau0⟩
  obtain ⟨A0, c0, B0, d0, rfl, rfl, -⟩ := hau0.at_
  have hB3 := hB2.trans (hb3.mono hB2.size)
  have hz3 := hb3.size
  have hb03 := (hb1.trans ((hb2.trans (hb3.mono hz2)).mono hz1))
  replace hau0 := hid hau0
  go_upto_region 6 with fail
  obtain ⟨w4, hw4, hz4, hB4', hQ⟩ := boxed w3 #[.int .i64 a.al, .slice A0 a.nx.length c0, .slice B0 a.ac.length d0] 29
  rw [hw4]
  clear hw4
  have hB4 := hB3.trans (hB4'.mono hB3.size)
  have hq0 := fun w' (hb : KeepB (fun b => w4.heap.size ≤ b) w4 w') => cell_keep hb (hQ 0 _ rfl _ (Below.refl _ _)) (show ¬ w4.heap.size ≤ w3.heap.size by omega)
  have hq1 := fun w' (hb : KeepB (fun b => w4.heap.size ≤ b) w4 w') => cell_keep hb (hQ 1 _ rfl _ (Below.refl _ _)) (show ¬ w4.heap.size ≤ w3.heap.size by omega)
  have hq2 := fun w' (hb : KeepB (fun b => w4.heap.size ≤ b) w4 w') => cell_keep hb (hQ 2 _ rfl _ (Below.refl _ _)) (show ¬ w4.heap.size ≤ w3.heap.size by omega)
  have hb04 := hb03.trans (hB4'.mono hb03.size)
  have ht0 := fun w' (hb : KeepB (fun b => w4.heap.size ≤ b) w4 w') => cell_keep hb (hs0.out _ hb04) (show ¬ w4.heap.size ≤ w.heap.size by have := hb03.size; omega)
  have ht1 := fun w' (hb : KeepB (fun b => w4.heap.size ≤ b) w4 w') => cell_keep hb (hs1.out _ hb04) (show ¬ w4.heap.size ≤ w.heap.size by have := hb03.size; omega)
  have ht2 := fun w' (hb : KeepB (fun b => w4.heap.size ≤ b) w4 w') => cell_keep hb (hs2.out _ hb04) (show ¬ w4.heap.size ≤ w.heap.size by have := hb03.size; omega)
  have hau4 := hid (hau0.out.later hB4')
  have hau := fun w' (hb : KeepB (fun b => w4.heap.size ≤ b) w4 w') => (hau4.out.keepB hb fun b _ h1 h2 => by omega).read
  replace hq0 := hid hq0
  replace hq1 := hid hq1
  replace hq2 := hid hq2
  replace ht0 := hid ht0
  replace ht1 := hid ht1
  replace ht2 := hid ht2
  replace hau := hid hau
  have p0 := ht0.out _ (KeepB.refl _ _)
  have p1 := ht1.out _ (KeepB.refl _ _)
  have p2 := ht2.out _ (KeepB.refl _ _)
  clear hQ
  go_wp2_with fail
  refine (toSystemW_any s A c w4 hn hl hc (hr.out.later hB4)).mono ?_
  rintro e w5 ⟨A5, rfl, hA5, hf5, hw5, hb5⟩
  unfold Sy.val
  have hB5 := hB4.trans (hb5.mono hB4.size)
  have hz5 := hb5.size
  have hk5 : KeepB (fun b => w4.heap.size ≤ b) w4 w5 := .of_below hb5
  clear p0 p1 p2
  replace hA5 := hid hA5
  replace hf5 := hid hf5
  replace hw5 := hid hw5
  have hbX : Hid (∀ b, (0 < s.es.length ∧ ∃ o, A5 = some ⟨b, o, none⟩) → w4.heap.size ≤ b ∧ b < w5.heap.size) := hid fun b ⟨h0, o, e⟩ => by
    obtain ⟨b', o', e', hlt, -⟩ := hA5.out h0
    rw [e] at e'
    injection e' with e'
    injection e' with e' _
    have := hf5.out b o e
    omega
  go_upto_region 7 with fail
  obtain ⟨w6, hw6, hz6, hB6', hX⟩ := boxed w5 #[.int .i64 s.al, .int .i64 s.st, .slice A5 s.es.length s.es.length] 34
  rw [hw6]
  clear hw6
  have hB6 := hB5.trans (hB6'.mono hB5.size)
  have hk6 : KeepB (fun b => w4.heap.size ≤ b) w4 w6 := hk5.trans (.of_below hB6')
  have x0 := hX 0 _ rfl _ (Below.refl _ _)
  have x1 := hX 1 _ rfl _ (Below.refl _ _)
  have x2 := hX 2 _ rfl _ (Below.refl _ _)
  have hA6 := hid (hA5.out.later hB6')
  have hT6 := hid (hT.out.later hB6)
  have hci := hid (implDeterminize_any s A5 s.es.length w6 (Nat.le_refl _) (by omega) hT6.out hA6.out)
  rw [← ha.out, ← hok.out] at hci
  go_wp2_with fail
  refine hci.out.mono ?_
  clear hci x0 x1 x2
  rintro e w7 ⟨hb7, v1, v2, xs, rfl, hau7⟩
  obtain ⟨A7, c7, B7, d7, rfl, rfl, -⟩ := hau7.at_
  have hB7 := hB6.trans (hb7.mono hB6.size)
  have hz7 := hb7.size
  have hk7 : KeepB (fun b => w4.heap.size ≤ b) w4 w7 := hk6.trans (.of_below hb7)
  replace hau7 := hid hau7
  go_upto_region 8 with fail
  obtain ⟨w8, hw8, hz8, hB8', hY⟩ := boxed w7 #[.int .i64 a.al, .slice A7 a.nx.length c7, .slice B7 a.ac.length d7] 29
  rw [hw8]
  clear hw8
  have hB8 := hB7.trans (hB8'.mono hB7.size)
  have hk8 : KeepB (fun b => w4.heap.size ≤ b) w4 w8 := hk7.trans (.of_below hB8')
  have hy0 := fun w' (hb : KeepB (fun b => b < w7.heap.size) w8 w') => cell_keep hb (hY 0 _ rfl _ (Below.refl _ _)) (show ¬ w7.heap.size < w7.heap.size by omega)
  have hy1 := fun w' (hb : KeepB (fun b => b < w7.heap.size) w8 w') => cell_keep hb (hY 1 _ rfl _ (Below.refl _ _)) (show ¬ w7.heap.size < w7.heap.size by omega)
  have hy2 := fun w' (hb : KeepB (fun b => b < w7.heap.size) w8 w') => cell_keep hb (hY 2 _ rfl _ (Below.refl _ _)) (show ¬ w7.heap.size < w7.heap.size by omega)
  have y0 := hy0 _ (KeepB.refl _ _)
  have y1 := hy1 _ (KeepB.refl _ _)
  have y2 := hy2 _ (KeepB.refl _ _)
  have q0 := hq0.out _ hk8
  have q1 := hq1.out _ hk8
  have q2 := hq2.out _ hk8
  replace hy0 := hid hy0
  replace hy1 := hid hy1
  replace hy2 := hid hy2
  have hau8 := hid (hau7.out.later hB8')
  clear hY
  go_wp2_with fail
  refine (eqAutomaton_any a a A7 B7 A0 B0 c7 d7 c0 d0 w8 hau8.out.read (hau.out _ hk8)).mono ?_
  rintro e w9 ⟨rfl, hb9⟩
  rw [decide_eq_true rfl]
  have hB9 := hB8.trans (hb9.mono hB8.size)
  have hz9 := hb9.size
  have hk9 : KeepB (fun b => w4.heap.size ≤ b) w4 w9 := hk8.trans (.of_below hb9)
  have hr9 : KeepB (fun b => b < w7.heap.size) w8 w9 := .of_below hb9
  have hb69 := hb7.trans ((hB8'.trans (hb9.mono hB8'.size)).mono hz7)
  clear y0 y1 y2 q0 q1 q2
  have hrr9 := hid (hr.out.later hB9)
  have hA9 := hid (hA6.out.later hb69)
  have hFk : ∀ x, KeepB (fun b => w4.heap.size ≤ b) w4 (Fam w9.heap.size w9 x) := fun x => hk9.trans (.of_below (Fam.below w9.heap.size w9 x))
  have u0 := fun x => ht0.out _ (hFk x)
  have u1 := fun x => ht1.out _ (hFk x)
  have u2 := fun x => ht2.out _ (hFk x)
  have hFx : ∀ x, Below (w5.heap.size + 1) w6 (Fam w9.heap.size w9 x) := fun x => (hb69.trans ((Fam.below w9.heap.size w9 x).mono (by have := hb69.size; exact this))).mono hz6
  have z0 := fun x => hX 0 _ rfl _ (hFx x)
  have z1 := fun x => hX 1 _ rfl _ (hFx x)
  have z2 := fun x => hX 2 _ rfl _ (hFx x)
  replace hFk := hid hFk
  replace hFx := hid hFx
  go_wp2_with fail
  refine wp_region_grow 5 w9.heap.size w9 (fun i u w' => if i = 2 then ∃ A2, u = s.val A2 s.es.length ∧ EdsAt w' w'.heap.size A2 s.es else u = .bool true) (by kernel_rfl) (by kernel_rfl) (Nat.le_refl _) (Below.refl _ _) ?_
  simp only [List.take_succ_cons, List.take_zero, List.drop_succ_cons, List.drop_zero]
  (repeat (refine grow_quiet (by rfl) (by rfl) (by rfl) ?_; intro K hK; go_big_quiet_op; go_big_quiet_on))
  refine grow_call (by rfl) (by rfl) (fun u v v' hb h => ?_) (fun wq hbq _ => ?_) fun u hu => ?_
  · obtain ⟨g, e, h⟩ := h
    exact ⟨g, e, h.later hb⟩
  · go_simp
    refine ⟨rfl, (toSystem_any s A c wq hn hl hc (hrr9.out.later hbq)).mono ?_⟩
    rintro e w3 ⟨A3, rfl, hA3, -, hb3⟩
    exact ⟨_, rfl, hb3, A3, rfl, hA3⟩
  obtain ⟨wx, -, A3, rfl, -⟩ := hu
  simp only [Act.put, List.setIfInBounds_toArray, List.set_cons_zero, List.set_cons_succ]
  (repeat (refine grow_quiet (by rfl) (by rfl) (by rfl) ?_; intro K hK; go_big_quiet_op; go_big_quiet_on))
  refine grow_val (.bool true) (by rfl) (by rfl) rfl (fun wq hbq hfx => ?_) ?_
  · obtain ⟨_, e3, h3⟩ := hfx _ List.mem_cons_self (by kernel_rfl)
    cases e3
    have h3' := hid h3
    clear h3 hfx
    go_simp
    refine ⟨rfl, (eqSystem_any s s A5 A3 _ _ wq (Nat.le_refl _) (by omega) (Nat.le_refl _) (by omega) (hA9.out.later hbq) h3'.out).mono ?_⟩
    rintro e w4 ⟨rfl, hb4⟩
    exact ⟨by rw [decide_eq_true rfl], hb4⟩
  simp only [Act.put, List.setIfInBounds_toArray, List.set_cons_zero, List.set_cons_succ]
  (repeat (refine grow_quiet (by rfl) (by rfl) (by rfl) ?_; intro K hK; go_big_quiet_op; go_big_quiet_on))
  refine grow_nil ?_
  intro w10 hb10 hf
  clear hf u0 u1 u2 z0 z1 z2
  have hB10 := hB9.trans (hb10.mono hB9.size)
  have hz10 := hb10.size
  have hk10 : KeepB (fun b => w4.heap.size ≤ b) w4 w10 := hk9.trans (.of_below hb10)
  have hr10 : KeepB (fun b => b < w7.heap.size) w8 w10 := hr9.trans (.of_below hb10)
  have hb6a := hb69.trans (hb10.mono hb69.size)
  have x0 := hX 0 _ rfl _ (hb6a.mono hz6)
  have x1 := hX 1 _ rfl _ (hb6a.mono hz6)
  have x2 := hX 2 _ rfl _ (hb6a.mono hz6)
  have hA10 := hid (hA6.out.later hb6a)
  have hw10 := hid (hw5.out.later (hB6'.trans (hb6a.mono hB6'.size)))
  go_wp2_with fail
  refine (markSystem_any s A5 s.es.length 1 w10 (by omega) (by omega) (Nat.le_refl _) (by omega) hA10.out hw10.out).mono ?_
  rintro e w11 ⟨rfl, hm11⟩
  replace hm11 := hm11.mono hbX.out
  have hk11 : KeepB (fun b => w4.heap.size ≤ b) w4 w11 := hk10.trans (hm11.mono fun b h => h.1)
  have hr11 : KeepB (fun b => b < w7.heap.size) w8 w11 := hr10.trans (hm11.mono fun b h => by have := h.2; omega)
  have hB11 : Below w.heap.size w w11 := KeepB.below hB4 hk11 hB4.size fun b h => by have := hB4.size; omega
  have ha11 : Hid (AuOwn w11 w6.heap.size (.slice A7 a.nx.length c7) (.slice B7 a.ac.length d7) a xs) := hid (hau8.out.keepB ((KeepB.of_below (K := fun b => w4.heap.size ≤ b ∧ b < w5.heap.size) (hb9.trans (hb10.mono hz9))).trans hm11) fun b h1 _ h3 => by have := h3.2; omega)
  have hmk : ¬ ((1 : Int) + 3 * (s.es.length : Int) < 0) := by omega
  clear x0 x1 x2
  have y0 := hy0.out _ hr11
  have y1 := hy1.out _ hr11
  have y2 := hy2.out _ hr11
  have q0 := hq0.out _ hk11
  have q1 := hq1.out _ hk11
  have q2 := hq2.out _ hk11
  go_wp2_with fail
  refine (eqAutomaton_any a a A7 B7 A0 B0 c7 d7 c0 d0 w11 ha11.out.read (hau.out _ hk11)).mono ?_
  rintro e w12 ⟨rfl, hb12⟩
  rw [decide_eq_true rfl]
  have hB12 := hB11.trans (hb12.mono hB11.size)
  have hk12 : KeepB (fun b => w4.heap.size ≤ b) w4 w12 := hk11.trans (.of_below hb12)
  have hr12 : KeepB (fun b => b < w7.heap.size) w8 w12 := hr11.trans (.of_below hb12)
  have ha12 := hid (ha11.out.later hb12)
  clear y0 y1 y2 q0 q1 q2
  have y0 := hy0.out _ hr12
  have y1 := hy1.out _ hr12
  have y2 := hy2.out _ hr12
  go_wp2_with fail
  refine (markAutomaton_any w6.heap.size _ _ a xs 1 w12 (by omega) (by omega) ha12.out).mono ?_
  rintro e w13 ⟨rfl, ha13, hm13⟩
  replace hm13 := hm13.mono (K' := fun b => w6.heap.size ≤ b ∧ b < w7.heap.size) fun b h => by
    rcases h with ⟨x, hx, e⟩ | e
    · exact (hau7.out.rows.rows x hx).lt b e
    · exact hau7.out.acc.lt b e
  have hz56 : w5.heap.size < w6.heap.size := by omega
  have hk13 : KeepB (fun b => w4.heap.size ≤ b) w4 w13 := hk12.trans (hm13.mono fun b h => by have := h.1; omega)
  have hr13 : KeepB (fun b => b < w7.heap.size) w8 w13 := hr12.trans (hm13.mono fun b h => h.2)
  have hB13 : Below w.heap.size w w13 := KeepB.below hB4 hk13 hB4.size fun b h => by have := hB4.size; omega
  replace ha13 := hid ha13
  obtain ⟨M, hM⟩ : ∃ M, M = (1 : Int) + (cntR a.nx : Int) + (a.ac.length : Int) := ⟨_, rfl⟩
  have hM0 : 0 ≤ M ∧ M ≤ 1000 := by omega
  have hMn : ¬ (M < 0) := by omega
  have hMM : (M != M) = false := by simp
  rw [← hM]
  clear y0 y1 y2
  have y0 := hy0.out _ hr13
  have y1 := hy1.out _ hr13
  have y2 := hy2.out _ hr13
  go_wp2_with fail
  refine (heldAutomaton_any w6.heap.size _ _ a.al a.nx a.ac.length (markV xs 1) 1 w13 (by omega) (by omega) ha13.out).mono ?_
  rintro e w14 ⟨rfl, hb14⟩
  rw [← hM]
  have hB14 := hB13.trans (hb14.mono hB13.size)
  have hk14 : KeepB (fun b => w4.heap.size ≤ b) w4 w14 := hk13.trans (.of_below hb14)
  have hr14 : KeepB (fun b => b < w7.heap.size) w8 w14 := hr13.trans (.of_below hb14)
  clear y0 y1 y2
  have p0 := ht0.out _ hk14
  have p1 := ht1.out _ hk14
  have p2 := ht2.out _ hk14
  go_wp2_with fail
  refine (toSystem_any s A c w14 hn hl hc (hr.out.later hB14)).mono ?_
  rintro e w15 ⟨A15, rfl, hA15, -, hb15⟩
  unfold Sy.val
  have hB15 := hB14.trans (hb15.mono hB14.size)
  replace hA15 := hid hA15
  have hT15 := hid (hT.out.later hB15)
  have hci := hid (implDeterminize_any s A15 s.es.length w15 (Nat.le_refl _) (by omega) hT15.out hA15.out)
  rw [← ha.out, ← hok.out] at hci
  clear p0 p1 p2
  go_wp2_with fail
  refine hci.out.mono ?_
  clear hci
  rintro e w16 ⟨hb16, v1, v2, xs16, rfl, hau16⟩
  obtain ⟨A16, c16, B16, d16, rfl, rfl, -⟩ := hau16.at_
  have hB16 := hB15.trans (hb16.mono hB15.size)
  replace hau16 := hid hau16
  go_upto_region 25 with fail
  obtain ⟨w17, hw17, hz17, hB17', hY⟩ := boxed w16 #[.int .i64 a.al, .slice A16 a.nx.length c16, .slice B16 a.ac.length d16] 29
  rw [hw17]
  clear hw17
  have hb1417 := hb15.trans ((hb16.trans (hB17'.mono hb16.size)).mono hb15.size)
  have hB17 := hB16.trans (hB17'.mono hB16.size)
  have hk17 : KeepB (fun b => w4.heap.size ≤ b) w4 w17 := hk14.trans (.of_below hb1417)
  have hr17 : KeepB (fun b => b < w7.heap.size) w8 w17 := hr14.trans (.of_below hb1417)
  have y0 := hY 0 _ rfl _ (Below.refl _ _)
  have y1 := hY 1 _ rfl _ (Below.refl _ _)
  have y2 := hY 2 _ rfl _ (Below.refl _ _)
  have q0 := hq0.out _ hk17
  have q1 := hq1.out _ hk17
  have q2 := hq2.out _ hk17
  have ha17 := hid (hau16.out.later hB17')
  clear hY
  go_wp2_with fail
  refine (eqAutomaton_any a a A16 B16 A0 B0 c16 d16 c0 d0 w17 ha17.out.read (hau.out _ hk17)).mono ?_
  rintro e w18 ⟨rfl, hb18⟩
  rw [decide_eq_true rfl]
  have hB18 := hB17.trans (hb18.mono hB17.size)
  have hr18 : KeepB (fun b => b < w7.heap.size) w8 w18 := hr17.trans (.of_below hb18)
  have ha18 := hid (ha13.out.later (hb14.trans ((hb1417.trans (hb18.mono hb1417.size)).mono hb14.size)))
  clear y0 y1 y2 q0 q1 q2
  have y0 := hy0.out _ hr18
  have y1 := hy1.out _ hr18
  have y2 := hy2.out _ hr18
  go_wp2_with fail
  refine (heldAutomaton_any w6.heap.size _ _ a.al a.nx a.ac.length (markV xs 1) 1 w18 (by omega) (by omega) ha18.out).mono ?_
  rintro e w19 ⟨rfl, hb19⟩
  rw [← hM]
  have hB19 := hB18.trans (hb19.mono hB18.size)
  clear y0 y1 y2
  go_wp2_with fail
  go_ret
  exact ⟨rfl, hB19⟩

end Go.Proofs.YtimoekglamdddaaDoor

/- The two tables of math/bits that the cards list: what a walk reads of them, and a world that holds them. -/
namespace Go.Proofs.YtimoekglamdddaaDoor
open Go.ChangeShapes Go.WideShapes Go.ChangeAt Go.RowKit AG

theorem g64 : Tryd.prog.globalNamed "math/bits.deBruijn64tab" = some 1 := by kernel_rfl
theorem g64Type : (Tryd.prog.globals[1]?).map (·.type) = some 161 := by kernel_rfl
theorem g64Under : Tryd.prog.underlying 161 = some (.array 64 5) := by kernel_rfl
theorem u8Under : Tryd.prog.underlying 5 = some (.int .u8) := by kernel_rfl
theorem u8Cells : Tryd.prog.cellsOf 5 = 1 := by kernel_rfl
theorem g64Cells : Tryd.prog.cellsOf 161 = 64 := by kernel_rfl

theorem tab_of_laid {W : World} (h : laidMetH Tryd.prog [("math/bits.deBruijn32tab", Rows.laid_math_bits_deBruijn32tab), ("math/bits.deBruijn64tab", Rows.laid_math_bits_deBruijn64tab)] W) : Tab W := by
  have h1 : laidMet Tryd.prog [("math/bits.deBruijn32tab", Rows.laid_math_bits_deBruijn32tab), ("math/bits.deBruijn64tab", Rows.laid_math_bits_deBruijn64tab)] W := h
  have h2 : laidMet Tryd.prog (("math/bits.deBruijn64tab", Lib.tabData .u8 (Lib.deBruijn64tab.map Int.ofNat)) :: []) W := laidMet.tail h1
  have h3 := Lib.tabIs_of_head g64 g64Type g64Under u8Under u8Cells g64Cells h2
  intro j hj
  rw [h3.cell g64 j (by simpa using hj)]
  simp [List.getD, hj]

def layTab (zs : List Nat) : Obj → Obj
  | .cells _ t frozen => .cells (zs.map fun n => Value.int .u8 (Int.ofNat n)).toArray t frozen
  | o => o

/-- A world for the witness: the settled one, the two tables holding what their initialisers lay. -/
noncomputable def laidWorld (os : Os) : World :=
  { World.holding Tryd.prog os ⟨#[], #[], []⟩ with heap := ((World.holding Tryd.prog os ⟨#[], #[], []⟩).heap.modify 0 (layTab Lib.deBruijn32tab)).modify 1 (layTab Lib.deBruijn64tab) }

end Go.Proofs.YtimoekglamdddaaDoor

/- The drawing kit's reader: what it is in memory; pick. -/
namespace Go.Proofs.YtimoekglamdddaaDoor
open Go.RowKit Go.BigFrame AG

/-- The reader at block R: its bytes are the slice '.slice A n c', its position p. -/
structure RdAt (w : World) (R : Nat) (A : Option Addr) (n c p : Nat) : Prop where
  blk : Blk w R 132 #[.slice A n c, .int .i64 (p : Int)]
  len : n ≤ 2000
  cap : n ≤ c
  top : c ≤ 9223372036854775807
  pos : p ≤ 1125899906842624
  bytes : 0 < n → ∃ b o, A = some ⟨b, o, none⟩ ∧ b < R ∧ ∀ i, i < n → ∃ x : Nat, x < 256 ∧ w.cell? ⟨b, o + i, none⟩ = some (.int .u8 (x : Int))

theorem xor_nonneg {a b : Int} (ha : 0 ≤ a ∧ a < 9223372036854775808) (hb : 0 ≤ b ∧ b < 9223372036854775808) : 0 ≤ bits .xor .i64 a b ∧ bits .xor .i64 a b < 9223372036854775808 := by
  obtain ⟨a, rfl⟩ := Int.eq_ofNat_of_zero_le ha.1
  obtain ⟨b, rfl⟩ := Int.eq_ofNat_of_zero_le hb.1
  have hx : a ^^^ b < 2 ^ 63 := Nat.xor_lt_two_pow (by omega) (by omega)
  have : bits .xor .i64 (a : Int) (b : Int) = ((a ^^^ b : Nat) : Int) := by
    show IntKind.i64.wrap ((BitVec.ofInt 64 (a : Int) ^^^ BitVec.ofInt 64 (b : Int)).toNat : Int) = _
    rw [BitVec.toNat_xor, ofInt_i64 a (by omega), ofInt_i64 b (by omega), IntKind.wrap_i64]
    omega
  rw [this]
  omega

theorem RdAt.later {w w' : World} {R : Nat} {A : Option Addr} {n c p : Nat} (h : RdAt w R A n c p) (hb : Below w.heap.size w w') : RdAt w' R A n c p :=
  ⟨h.blk.below hb h.blk.lt, h.len, h.cap, h.top, h.pos, fun hn => by
    obtain ⟨b, o, hA, hlt, hx⟩ := h.bytes hn
    have hR := h.blk.lt
    refine ⟨b, o, hA, hlt, fun i hi => ?_⟩
    obtain ⟨x, h1, h2⟩ := hx i hi
    exact ⟨x, h1, by rw [hb.cell (by simp; omega)]; exact h2⟩⟩

theorem RdAt.step {w : World} {R : Nat} {A : Option Addr} {n c p : Nat} {v : Value} (h : RdAt w R A n c p) (hp : p < 1125899906842624) (hv : v = .int .i64 ((p : Int) + 1)) :
    RdAt (w.setCell ⟨R, 1, none⟩ v) R A n c (p + 1) ∧ KeepB (fun b => b = R) w (w.setCell ⟨R, 1, none⟩ v) := by
  subst hv
  refine ⟨⟨?_, h.len, h.cap, h.top, by omega, fun hn => ?_⟩, (KeepB.refl _ w).setCell _ _ (fun _ => rfl)⟩
  · have := h.blk.set_ 1 (.int .i64 ((p : Int) + 1))
    simpa using this
  · obtain ⟨b, o, hA, hlt, hx⟩ := h.bytes hn
    refine ⟨b, o, hA, hlt, fun i hi => ?_⟩
    obtain ⟨x, h1, h2⟩ := hx i hi
    refine ⟨x, h1, ?_⟩
    rw [World.cell?_setCell_other (h := addr_ne (by omega))]
    exact h2

set_option maxRecDepth 100000 in
set_option maxHeartbeats 2000000 in
theorem pick_any (R : Nat) (A : Option Addr) (n c p : Nat) (m : Int) (w : World) (hp : p < 1125899906842624) (hm : m ≤ 9223372036854775807) (hr : RdAt w R A n c p) :
    Calls Tryd.prog 72 #[.pointer (some ⟨R, 0, none⟩), .int .i64 m] w fun e w' => ∃ k : Int, e = .returned (.int .i64 k) ∧ 0 ≤ k ∧ (k < m ∨ k = 0) ∧ RdAt w' R A n c (p + 1) ∧ KeepB (fun b => b = R) w w' := by
  have hblk := hr.blk
  have hR := hblk.lt
  have e0 : w.cell? ⟨R, 0, none⟩ = some (.slice A n c) := by rw [hblk.cell]; rfl
  have e1 : w.cell? ⟨R, 1, none⟩ = some (.int .i64 (p : Int)) := by rw [hblk.cell]; rfl
  have hfr : w.frozen? ⟨R, 1, none⟩ = false := hblk.frozen 1
  have hlen := hr.len
  have hcap := hr.cap
  have htop := hr.top
  replace hr := hid hr
  replace hblk := hid hblk
  have hst := hid (hr.out.step (v := .int .i64 ((p : Int) + 1)) hp rfl)
  by_cases hm1 : m < 1
  · go_enter Tryd.func72, Tryd.ntmps72
    go_wp2
    go_ret
    exact ⟨0, rfl, by omega, .inr rfl, hst.out.1, hst.out.2⟩
  · have hm0 : (m == 0) = false := by simp; omega
    by_cases hn : n = 0
    · subst hn
      go_enter Tryd.func72, Tryd.ntmps72
      go_wp2
      go_ret
      exact ⟨0, rfl, by omega, .inr rfl, hst.out.1, hst.out.2⟩
    · obtain ⟨b, o, rfl, hltR, hx⟩ := hr.out.bytes (by omega)
      have hne : b ≠ R := by omega
      have hlt : b < w.heap.size := by omega
      have hn0 : ((n : Int) == 0) = false := by simp; omega
      by_cases hpn : p < n
      · obtain ⟨x, hx1, hx2⟩ := hx p hpn
        have hmod : 0 ≤ (x : Int) % m ∧ (x : Int) % m < m := ⟨Int.emod_nonneg _ (by omega), Int.emod_lt_of_pos _ (by omega)⟩
        replace hx := hid hx
        replace hmod := hid hmod
        have hneA : (⟨R, 1, none⟩ : Addr) ≠ ⟨b, o + p, none⟩ := addr_ne hne
        go_enter Tryd.func72, Tryd.ntmps72
        go_wp2
        go_ret
        exact ⟨_, rfl, hmod.out.1, .inl hmod.out.2, hst.out.1, hst.out.2⟩
      · have hw1 := hst.out.1
        obtain ⟨i1, hi1⟩ : ∃ i1, i1 = p % n := ⟨_, rfl⟩
        obtain ⟨i2, hi2⟩ : ∃ i2, i2 = (p * 7 + 3) % n := ⟨_, rfl⟩
        obtain ⟨q, hq⟩ : ∃ q, q = p / n := ⟨_, rfl⟩
        have hi1n : i1 < n := by rw [hi1]; exact Nat.mod_lt _ (by omega)
        have hi2n : i2 < n := by rw [hi2]; exact Nat.mod_lt _ (by omega)
        have hqp : q ≤ p := by rw [hq]; exact Nat.div_le_self _ _
        have k1 : (p : Int) % (n : Int) = (i1 : Int) := by rw [hi1]; omega
        have k2 : ((p : Int) * 7 + 3) % (n : Int) = (i2 : Int) := by rw [hi2]; simp
        have k3 : (p : Int) / (n : Int) = (q : Int) := by rw [hq]; omega
        obtain ⟨b', o', hA', -, hx'⟩ := hw1.bytes (by omega)
        injection hA' with hA'
        injection hA' with hA1 hA2
        subst hA1 hA2
        obtain ⟨x1, hx1, hy1⟩ := hx' i1 hi1n
        obtain ⟨x2, hx2, hy2⟩ := hx' i2 hi2n
        have hblk1 := hw1.blk
        replace hx := hid hx
        replace hx' := hid hx'
        replace hi1 := hid hi1
        replace hi2 := hid hi2
        replace hq := hid hq
        obtain ⟨w1, hw1e⟩ : ∃ w1, w1 = w.setCell ⟨R, 1, none⟩ (.int .i64 ((p : Int) + 1)) := ⟨_, rfl⟩
        rw [← hw1e] at hy1 hy2 hblk1
        have g0 : ∀ y, (Fam w1.heap.size w1 y).cell? ⟨R, 0, none⟩ = some (.slice (some ⟨b, o, none⟩) n c) := fun y => by rw [(Fam.below _ _ y).cell (by simpa using hblk1.lt), hblk1.cell]; rfl
        have hb1 : b < w1.heap.size := by rw [hw1e]; simpa using hlt
        have g1 : ∀ y, (Fam w1.heap.size w1 y).cell? ⟨b, o + i1, none⟩ = some (.int .u8 (x1 : Int)) := fun y => by rw [(Fam.below _ _ y).cell (by simpa using hb1)]; exact hy1
        have g2 : ∀ y, (Fam w1.heap.size w1 y).cell? ⟨b, o + i2, none⟩ = some (.int .u8 (x2 : Int)) := fun y => by rw [(Fam.below _ _ y).cell (by simpa using hb1)]; exact hy2
        replace hw1e := hid hw1e
        replace hw1 := hid hw1
        replace hblk1 := hid hblk1
        clear hy1 hy2
        have hxor := hid (xor_nonneg (a := (x1 : Int) * 131 + x2 * 1117 + p * 29 + q * 53) (b := ((x1 : Int) * 131 + x2 * 1117 + p * 29 + q * 53) / 64) (by omega) (by omega))
        go_enter Tryd.func72, Tryd.ntmps72
        go_wp2_with fail
        rw [← hw1e.out]
        refine wp_region_fam w1.heap.size w1 (by kernel_rfl) (by kernel_rfl) (Below.refl _ _) ?_
        (repeat (go_big_quiet_step (fail)))
        refine wpQuiet_nil ?_
        intro w2 hw2
        replace hw2 := Fam.out hw2
        go_wp2
        go_ret
        have hw1' : RdAt w1 R (some ⟨b, o, none⟩) n c (p + 1) := by rw [hw1e.out]; exact hw1.out
        have hk1 : KeepB (fun b => b = R) w w1 := by rw [hw1e.out]; exact hst.out.2
        exact ⟨_, rfl, Int.tmod_nonneg _ hxor.out.1, .inl (Int.tmod_lt_of_pos _ (by omega)), hw1'.later hw2, hk1.trans (KeepB.of_below hw2)⟩

/-- The reader at block R, its position at most P. -/
def RdUp (w : World) (R P : Nat) : Prop := ∃ A n c p, p ≤ P ∧ RdAt w R A n c p
theorem RdUp.more {w : World} {R P P' : Nat} (h : RdUp w R P) (hP : P ≤ P') : RdUp w R P' := by
  obtain ⟨A, n, c, p, h1, h2⟩ := h
  exact ⟨A, n, c, p, by omega, h2⟩
theorem RdUp.later {w w' : World} {R P : Nat} (h : RdUp w R P) (hb : Below w.heap.size w w') : RdUp w' R P := by
  obtain ⟨A, n, c, p, h1, h2⟩ := h
  exact ⟨A, n, c, p, h1, h2.later hb⟩
theorem RdUp.lt {w : World} {R P : Nat} (h : RdUp w R P) : R < w.heap.size := by
  obtain ⟨A, n, c, p, h1, h2⟩ := h
  exact h2.blk.lt
/-- Later blocks may be written. -/
theorem RdUp.keep {K : Nat → Prop} {w w' : World} {R P : Nat} (h : RdUp w R P) (hb : KeepB K w w') (hK : ∀ k, K k → R < k) : RdUp w' R P := by
  obtain ⟨A, n, c, p, h1, h2⟩ := h
  have hR := h2.blk.lt
  refine ⟨A, n, c, p, h1, h2.blk.keep hb (fun hk => by have := hK _ hk; omega), h2.len, h2.cap, h2.top, h2.pos, fun hn => ?_⟩
  obtain ⟨b, o, hA, hlt, hx⟩ := h2.bytes hn
  refine ⟨b, o, hA, hlt, fun i hi => ?_⟩
  obtain ⟨x, g1, g2⟩ := hx i hi
  refine ⟨x, g1, ?_⟩
  have : w'.cell? ⟨b, o + i, none⟩ = w.cell? ⟨b, o + i, none⟩ := by
    unfold World.cell?
    rw [hb.block b (by omega) (fun hk => by have := hK _ hk; omega)]
  rw [this]
  exact g2

def PickPost (R P : Nat) (m : Int) (w : World) (e : Ending) (w' : World) : Prop := ∃ k : Int, e = .returned (.int .i64 k) ∧ 0 ≤ k ∧ (k < m ∨ k = 0) ∧ RdUp w' R (P + 1) ∧ KeepB (fun b => b = R) w w'
theorem pick_up (R P : Nat) (m : Int) (w : World) (hP : P < 1125899906842624) (hm : m ≤ 9223372036854775807) (h : RdUp w R P) :
    Calls Tryd.prog 72 #[.pointer (some ⟨R, 0, none⟩), .int .i64 m] w (PickPost R P m w) := by
  obtain ⟨A, n, c, p, h1, h2⟩ := h
  exact (pick_any R A n c p m w (by omega) hm h2).mono fun e w' ⟨k, a1, a2, a3, a4, a5⟩ => ⟨k, a1, a2, a3, ⟨A, n, c, p + 1, by omega, a4⟩, a5⟩

end Go.Proofs.YtimoekglamdddaaDoor

/- The drawing kit: l19Open, num, of. -/
namespace Go.Proofs.YtimoekglamdddaaDoor
open Go.RowKit Go.BigFrame AG

theorem KeepB.cell_ {K : Nat → Prop} {w w' : World} (h : KeepB K w w') {p : Addr} (hb : p.block < w.heap.size) (hK : ¬ K p.block) : w'.cell? p = w.cell? p := by
  unfold World.cell?
  rw [h.block _ hb hK]

set_option maxHeartbeats 1000000 in
theorem num_up (R P g o k cap : Nat) (xs : List Int) (w : World) (hxl : xs.length = k) (hk : 0 < k) (hk2 : k ≤ 4294967296) (hP : P < 1125899906842624)
    (hgR : g ≠ R) (hgl : g < w.heap.size) (hxs : ∀ i (h : i < xs.length), w.cell? ⟨g, o + i, none⟩ = some (.int .i64 xs[i])) (hr : RdUp w R P) :
    Calls Tryd.prog 71 #[.pointer (some ⟨R, 0, none⟩), .slice (some ⟨g, o, none⟩) k cap] w fun e w' => ∃ x, x ∈ xs ∧ e = .returned (.int .i64 x) ∧ RdUp w' R (P + 1) ∧ KeepB (fun b => b = R) w w' := by
  replace hr := hid hr
  replace hxs := hid hxs
  go_enter Tryd.func71, Tryd.ntmps71
  go_wp2_with fail
  refine (pick_up R P k w hP (by omega) hr.out).mono ?_
  rintro e w1 ⟨j, rfl, hj0, hj1, hr1, hk1⟩
  obtain ⟨i, rfl⟩ := Int.eq_ofNat_of_zero_le hj0
  have hik : i < xs.length := by omega
  have e1 : w1.cell? ⟨g, o + i, none⟩ = some (.int .i64 xs[i]) := by rw [KeepB.cell_ hk1 (p := ⟨g, o + i, none⟩) hgl hgR]; exact hxs.out i hik
  have hik2 : (i : Int) < (k : Int) := by omega
  replace hr1 := hid hr1
  replace hk1 := hid hk1
  clear hj1
  go_wp2
  go_ret
  exact ⟨_, List.getElem_mem _, rfl, hr1.out, hk1.out⟩

set_option maxHeartbeats 1000000 in
theorem of_up (R P g o k cap : Nat) (xs : List ByteArray) (w : World) (hxl : xs.length = k) (hk : 0 < k) (hk2 : k ≤ 4294967296) (hP : P < 1125899906842624)
    (hgR : g ≠ R) (hgl : g < w.heap.size) (hxs : ∀ i (h : i < xs.length), w.cell? ⟨g, o + i, none⟩ = some (.string xs[i])) (hr : RdUp w R P) :
    Calls Tryd.prog 135 #[.pointer (some ⟨R, 0, none⟩), .slice (some ⟨g, o, none⟩) k cap] w fun e w' => ∃ x, x ∈ xs ∧ e = .returned (.string x) ∧ RdUp w' R (P + 1) ∧ KeepB (fun b => b = R) w w' := by
  replace hr := hid hr
  replace hxs := hid hxs
  go_enter Tryd.func135, Tryd.ntmps135
  go_wp2_with fail
  refine (pick_up R P k w hP (by omega) hr.out).mono ?_
  rintro e w1 ⟨j, rfl, hj0, hj1, hr1, hk1⟩
  obtain ⟨i, rfl⟩ := Int.eq_ofNat_of_zero_le hj0
  have hik : i < xs.length := by omega
  have e1 : w1.cell? ⟨g, o + i, none⟩ = some (.string xs[i]) := by rw [KeepB.cell_ hk1 (p := ⟨g, o + i, none⟩) hgl hgR]; exact hxs.out i hik
  have hik2 : (i : Int) < (k : Int) := by omega
  replace hr1 := hid hr1
  replace hk1 := hid hk1
  clear hj1
  go_wp2
  go_ret
  exact ⟨_, List.getElem_mem _, rfl, hr1.out, hk1.out⟩

/-- The bytes of an argument, below block B. -/
def CodeAt (w : World) (A : Option Addr) (n : Nat) : Prop := 0 < n → ∃ b o, A = some ⟨b, o, none⟩ ∧ b < w.heap.size ∧ ∀ i, i < n → ∃ x : Nat, x < 256 ∧ w.cell? ⟨b, o + i, none⟩ = some (.int .u8 (x : Int))

set_option maxHeartbeats 1000000 in
theorem l19Open_any (A : Option Addr) (n c : Nat) (w : World) (hn : n ≤ c) (hc : c ≤ 9223372036854775807) (hx : 0 < n → ∃ b o, A = some ⟨b, o, none⟩ ∧ b < w.heap.size ∧ ∀ i, i < n → ∃ x : Nat, x < 256 ∧ w.cell? ⟨b, o + i, none⟩ = some (.int .u8 (x : Int))) :
    Calls Tryd.prog 69 #[.slice A n c] w fun e w' => ∃ R, e = .returned (.pointer (some ⟨R, 0, none⟩)) ∧ w.heap.size ≤ R ∧ RdUp w' R 0 ∧ Below w.heap.size w w' := by
  replace hx := hid hx
  by_cases h2 : n ≤ 2000
  · go_enter Tryd.func69, Tryd.ntmps69
    go_wp2
    go_ret
    refine ⟨w.heap.size, rfl, Nat.le_refl _, ⟨A, n, c, 0, Nat.le_refl _, Blk.new w _ _, h2, hn, hc, by omega, fun hpos => ?_⟩, (Below.refl _ _).alloc (Nat.le_refl _) _⟩
    obtain ⟨b, o, hA, hb, hx'⟩ := hx.out hpos
    refine ⟨b, o, hA, hb, fun i hi => ?_⟩
    obtain ⟨x, h1, h3⟩ := hx' i hi
    exact ⟨x, h1, by rw [World.cell?_alloc_lt (h := by simpa using hb)]; exact h3⟩
  · obtain ⟨b, o, rfl, hb, hx'⟩ := hx.out (by omega)
    replace hx' := hid hx'
    go_enter Tryd.func69, Tryd.ntmps69
    go_wp2
    go_ret
    refine ⟨w.heap.size, rfl, Nat.le_refl _, ⟨_, 2000, c, 0, Nat.le_refl _, Blk.new w _ _, Nat.le_refl _, by omega, hc, by omega, fun _ => ⟨b, o, rfl, hb, fun i hi => ?_⟩⟩, (Below.refl _ _).alloc (Nat.le_refl _) _⟩
    obtain ⟨x, h1, h3⟩ := hx'.out i (by omega)
    exact ⟨x, h1, by rw [World.cell?_alloc_lt (h := by simpa using hb)]; exact h3⟩

def NumUp (R P : Nat) (xs : List Int) (w : World) (e : Ending) (w' : World) : Prop := ∃ x, x ∈ xs ∧ e = .returned (.int .i64 x) ∧ RdUp w' R (P + 1) ∧ KeepB (fun b => b = R) w w'
/-- A number out of a list that has just been made. -/
theorem num_lit (R P : Nat) (xs : List Int) (w : World) (T : TypeId) (hk : 0 < xs.length) (hk2 : xs.length ≤ 1000) (hP : P < 1125899906842624) (hr : RdUp w R P) :
    Calls Tryd.prog 71 #[.pointer (some ⟨R, 0, none⟩), .slice (some ⟨w.heap.size, 0, none⟩) xs.length xs.length] (w.alloc (.cells (xs.map (Value.int .i64)).toArray T)) (NumUp R P xs w) := by
  have hR := hr.lt
  have hb : Below w.heap.size w (w.alloc (.cells (xs.map (Value.int .i64)).toArray T)) := (Below.refl _ _).alloc (Nat.le_refl _) _
  refine (num_up R P w.heap.size 0 xs.length xs.length xs _ rfl hk (by omega) hP (by omega) (by simp) (fun i h => ?_) (hr.later hb)).mono fun e w' ⟨x, h1, h2, h3, h4⟩ => ⟨x, h1, h2, h3, (KeepB.of_below hb).trans h4⟩
  rw [Nat.zero_add, World.cell?_alloc_at _ _ _ _ rfl]
  simp [h]

end Go.Proofs.YtimoekglamdddaaDoor

/- How a slice of edges, a system, a slice of systems read as data: opened to cells. -/
namespace AG
open Go Go.RowKit Go.ChangeShapes Go.WideShapes Go.Deep

theorem list_of_forall {α : Type} (P : Nat → α → Prop) : ∀ n, (∀ i, i < n → ∃ a, P i a) → ∃ l : List α, l.length = n ∧ ∀ i (hi : i < l.length), P i l[i] := by
  intro n
  induction n with
  | zero => intro _; exact ⟨[], rfl, fun i hi => by simp at hi⟩
  | succ n ih =>
    intro h
    obtain ⟨l, hl, hP⟩ := ih fun i hi => h i (by omega)
    obtain ⟨a, ha⟩ := h n (by omega)
    refine ⟨l ++ [a], by simp [hl], fun i hi => ?_⟩
    simp only [List.length_append, List.length_singleton] at hi
    by_cases e : i < l.length
    · rw [List.getElem_append_left e]; exact hP i e
    · obtain rfl : i = l.length := by omega
      rw [List.getElem_append_right (Nat.le_refl _)]
      simp only [Nat.sub_self, List.getElem_cons_zero]
      rw [hl]
      exact ha

section
variable {H : Type} {enc : TypeId × Value → H} {P : Program} {w : World} {base : Nat} {spare : Nat → Bool} {held : Bool}
/-- A slice of structs, each field of one cell: every element's fields. -/
theorem open_fields {t e : TypeId} {fs : Array Field} {fuel : Nat} {cs : List Value} {x : DataW H × List MemPlace} (ht : P.underlying t = some (.slice e)) (he : P.underlying e = some (.struct fs))
    (hone : oneCellFields P fs = true) (hC : P.cellsOf e = fs.size) (h : DataW.trod enc P w base spare held fuel t cs = some x) :
    cs = [.slice none 0 0] ∨
    ∃ (a : Addr) (len cap : Nat), cs = [.slice (some a) len cap] ∧ len ≤ cap ∧ cap ≤ maxLen ∧
      ∀ i, i < len → ∀ (j : Nat) (f : Field), fs[j]? = some f → ∃ (v : Value) (y : DataW H × List MemPlace) (n : Nat), w.cell? (a.add (i * fs.size + j)) = some v ∧ DataW.trod enc P w base spare held n f.type [v] = some y := by
  rcases open_slice ht h with h0 | ⟨a, len, cap, m, n, D, Pl, hcs, hb, hl, hm, hmm, hx, hi⟩
  · exact .inl h0.1
  · refine .inr ⟨a, len, cap, hcs, hl, hm, fun i hil => ?_⟩
    have hlm : len ≤ m := by rw [hmm]; split <;> omega
    obtain ⟨cs', hc, ht'⟩ := hi i (by omega)
    rw [hC] at hc
    obtain ⟨ys, n', hn', hy, hlen, hyl, hf⟩ := DataW.trod_struct he ht'
    obtain ⟨_, hcl, hat⟩ := World.cells?_some hc
    intro j f hj
    obtain ⟨ho, hk⟩ := hone_of hone j f hj
    have hjl : j < fs.size := (Array.getElem?_eq_some_iff.1 hj).1
    have hcell := hat j hjl
    have hv : cs'[j]? = some (cs'[j]'(by omega)) := List.getElem?_eq_getElem (by omega)
    have h1 := hf j f hj
    rw [ho, hk] at h1
    have hone' : (cs'.drop j).take 1 = [cs'[j]'(by omega)] := by
      rw [List.drop_eq_getElem_cons (by omega)]
      rfl
    rw [hone'] at h1
    have hys : ys[j]? = some (ys[j]'(by omega)) := List.getElem?_eq_getElem (by omega)
    refine ⟨_, _, n', ?_, h1.trans hys⟩
    rw [← Go.Deep.add_add, hcell, hv]

theorem addr_of {a : Addr} {v : Value} (h : w.cell? (a.add 0) = some v) : ∃ b o, a = ⟨b, o, none⟩ := by
  obtain ⟨b, o, sp⟩ := a
  have : (⟨b, o, sp⟩ : Addr).spot = none := World.cell?_spot (by simpa [Addr.add] using h)
  exact ⟨b, o, by simp_all⟩
theorem add_at (b o n : Nat) : (⟨b, o, none⟩ : Addr).add n = ⟨b, o + n, none⟩ := by
  unfold Addr.add
  split
  · subst_vars; rfl
  · rfl

/-- A slice of edges. -/
theorem open_edges {t e ti : TypeId} {f0 f1 f2 : Field} {fuel : Nat} {v : Value} {x : DataW H × List MemPlace} (ht : P.underlying t = some (.slice e)) (he : P.underlying e = some (.struct #[f0, f1, f2]))
    (hone : oneCellFields P #[f0, f1, f2] = true) (hC : P.cellsOf e = 3) (h0 : f0.type = ti) (h1 : f1.type = ti) (h2 : f2.type = ti) (hti : P.underlying ti = some (.int .i64))
    (h : DataW.trod enc P w base spare held fuel t [v] = some x) :
    ∃ A c es, v = .slice A (List.length es) c ∧ List.length es ≤ c ∧ c ≤ 9223372036854775807 ∧ EdsAt w w.heap.size A es := by
  rcases open_fields ht he hone hC h with h | ⟨a, n, c, hcs, hl, hm, hf⟩
  · exact ⟨none, 0, [], by simpa using h, by simp, by omega, fun h => by simp at h⟩
  · have hcs' : v = .slice (some a) n c := by simpa using hcs
    have hm' : c ≤ 9223372036854775807 := by unfold maxLen at hm; omega
    have hcell : ∀ i, i < n → ∃ e : Ed, w.cell? (a.add (i * 3 + 0)) = some (.int .i64 e.f) ∧ w.cell? (a.add (i * 3 + 1)) = some (.int .i64 e.l) ∧ w.cell? (a.add (i * 3 + 2)) = some (.int .i64 e.t) := fun i hi => by
      obtain ⟨v0, y0, n0, c0, t0⟩ := hf i hi 0 f0 rfl
      obtain ⟨v1, y1, n1, c1, t1⟩ := hf i hi 1 f1 rfl
      obtain ⟨v2, y2, n2, c2, t2⟩ := hf i hi 2 f2 rfl
      obtain ⟨m0, e0, _⟩ := DataW.trod_int (by rw [h0]; exact hti) t0
      obtain ⟨m1, e1, _⟩ := DataW.trod_int (by rw [h1]; exact hti) t1
      obtain ⟨m2, e2, _⟩ := DataW.trod_int (by rw [h2]; exact hti) t2
      simp only [List.cons.injEq, and_true] at e0 e1 e2
      subst e0 e1 e2
      exact ⟨⟨m0, m1, m2⟩, c0, c1, c2⟩
    obtain ⟨es, hes, hE⟩ := list_of_forall _ n hcell
    subst hes
    refine ⟨some a, c, es, hcs', hl, hm', fun hpos => ?_⟩
    obtain ⟨b, o, rfl⟩ := addr_of (w := w) (v := .int .i64 es[0].f) (by simpa using (hE 0 hpos).1)
    refine ⟨b, o, rfl, ?_, fun i hi => ?_⟩
    · have := (hE 0 hpos).1
      rw [add_at] at this
      exact World.block_lt_of_cell? _ _ this
    · obtain ⟨q0, q1, q2⟩ := hE i hi
      rw [add_at] at q0 q1 q2
      exact ⟨by simpa using q0, by rw [Nat.add_assoc]; exact q1, by rw [Nat.add_assoc]; exact q2⟩

/-- A slice of systems. -/
theorem open_systems {t e te ee ti : TypeId} {f0 f1 f2 g0 g1 g2 : Field} {fuel : Nat} {v : Value} {x : DataW H × List MemPlace} (ht : P.underlying t = some (.slice e)) (he : P.underlying e = some (.struct #[f0, f1, f2]))
    (hone : oneCellFields P #[f0, f1, f2] = true) (hC : P.cellsOf e = 3) (h0 : f0.type = ti) (h1 : f1.type = ti) (h2 : f2.type = te) (hti : P.underlying ti = some (.int .i64))
    (ht' : P.underlying te = some (.slice ee)) (he' : P.underlying ee = some (.struct #[g0, g1, g2])) (hone' : oneCellFields P #[g0, g1, g2] = true) (hC' : P.cellsOf ee = 3) (h0' : g0.type = ti) (h1' : g1.type = ti) (h2' : g2.type = ti)
    (h : DataW.trod enc P w base spare held fuel t [v] = some x) :
    ∃ A c ss, v = .slice A (List.length ss) c ∧ List.length ss ≤ c ∧ c ≤ 9223372036854775807 ∧ SysAt w w.heap.size A ss := by
  rcases open_fields ht he hone hC h with h | ⟨a, n, c, hcs, hl, hm, hf⟩
  · exact ⟨none, 0, [], by simpa using h, by simp, by omega, fun h => by simp at h⟩
  · have hcs' : v = .slice (some a) n c := by simpa using hcs
    have hm' : c ≤ 9223372036854775807 := by unfold maxLen at hm; omega
    have hcell : ∀ i, i < n → ∃ s : Sy, w.cell? (a.add (i * 3 + 0)) = some (.int .i64 s.al) ∧ w.cell? (a.add (i * 3 + 1)) = some (.int .i64 s.st) ∧
        ∃ Ai ci, w.cell? (a.add (i * 3 + 2)) = some (.slice Ai s.es.length ci) ∧ s.es.length ≤ ci ∧ ci ≤ 9223372036854775807 ∧ EdsAt w w.heap.size Ai s.es := fun i hi => by
      obtain ⟨v0, y0, n0, c0, t0⟩ := hf i hi 0 f0 rfl
      obtain ⟨v1, y1, n1, c1, t1⟩ := hf i hi 1 f1 rfl
      obtain ⟨v2, y2, n2, c2, t2⟩ := hf i hi 2 f2 rfl
      obtain ⟨m0, e0, _⟩ := DataW.trod_int (by rw [h0]; exact hti) t0
      obtain ⟨m1, e1, _⟩ := DataW.trod_int (by rw [h1]; exact hti) t1
      simp only [List.cons.injEq, and_true] at e0 e1
      subst e0 e1
      obtain ⟨Ai, ci, es, rfl, hel, hec, hE⟩ := open_edges (by rw [h2]; exact ht') he' hone' hC' h0' h1' h2' hti t2
      exact ⟨⟨m0, m1, es⟩, c0, c1, Ai, ci, c2, hel, hec, hE⟩
    obtain ⟨ss, hss, hS⟩ := list_of_forall _ n hcell
    subst hss
    refine ⟨some a, c, ss, hcs', hl, hm', fun hpos => ?_⟩
    obtain ⟨b, o, rfl⟩ := addr_of (w := w) (v := .int .i64 ss[0].al) (by simpa using (hS 0 hpos).1)
    refine ⟨b, o, rfl, ?_, fun i hi => ?_⟩
    · have := (hS 0 hpos).1
      rw [add_at] at this
      exact World.block_lt_of_cell? _ _ this
    · obtain ⟨q0, q1, Ai, ci, q2, q3, q4, q5⟩ := hS i hi
      rw [add_at] at q0 q1 q2
      exact ⟨by simpa using q0, by rw [Nat.add_assoc]; exact q1, Ai, ci, by rw [Nat.add_assoc]; exact q2, q3, q4, q5⟩
end

section
variable {H : Type} {enc : TypeId × Value → H} {P : Program}
/-- An argument reads behind the call as it did. -/
theorem trod_later {t : TypeId} (hl : laidOutB P = true) (hr : P.readableRec t = true) (hrow : t < P.types.size) {W W' : World} {v : Value} {d : DataW H} {ps : List MemPlace} {sp : Nat → Bool}
    (h : DataW.Trod enc P W 0 (fun _ => true) true t v d ps) (hb : Below W.heap.size W W') (hlt : ∀ x ∈ ps, x.block < W.heap.size) (hsp : ∀ x ∈ ps, sp x.block = true) : DataW.Trod enc P W' 0 sp true t v d ps :=
  WideElems.Trod_stays hl hr hrow h (fun x hx => hb.same (hlt x hx)) hsp
/-- The row's last step where of the world behind the call 'Below' is known. -/
theorem post_of_below {f : Func} {s : ChangeSpec} {apart fresh handsOn again : Bool} {W W' : World} {args : Array Value} {v : Value} {ds gs : List (DataW H)} {before pa pv : List MemPlace}
    (hW : DataW.Whole enc P f.params.toList s.vars apart W args.toList ds gs before)
    (hres : ∀ (b : Nat) (sp : Nat → Bool) (hd : Bool), DataW.TrodAll enc P W' b sp hd f.resultTypes.toList (v.resultList f.resultTypes.size) (s.fn H (ds ++ gs)).results [])
    (hargs : ∀ sp : Nat → Bool, (∀ p ∈ before, sp p.block = true) → DataW.TrodAll enc P W' 0 sp true f.params.toList args.toList (s.fn H (ds ++ gs)).args pa)
    (hvars : ∀ sp : Nat → Bool, (∀ p ∈ before, sp p.block = true) → DataW.TrodVars enc P W' sp s.vars (s.fn H (ds ++ gs)).vars pv)
    (hps : before = pa ++ pv) (hb : Below W.heap.size W W')
    (hok : ∀ (j : Nat) (t : TypeId) (r : Value), f.resultTypes[j]? = some t → (v.resultList f.resultTypes.size)[j]? = some r → Value.okWide P W' .any 0 t r) :
    s.post enc P f apart fresh handsOn again W args v W' := by
  have hlt : ∀ p ∈ before, p.block < W.heap.size := fun p hp => hW.lt p hp
  have hold : ∀ p ∈ before, (fun b => decide (b < W.heap.size)) p.block = true := fun p hp => by simpa using hlt p hp
  refine ⟨ds, gs, before, [], pa, pv, hW, hres _ _ _, hargs _ hold, hvars _ hold, World.keptBut_mono (fun p hp => ⟨hp, ?_⟩) (hb.frame (· ∈ before)), fun _ => ?_⟩
  · rw [hps, List.mem_append] at hp
    exact Or.inr hp
  · obtain ⟨_, _, _, _, _, hz, hn⟩ := hW
    refine ⟨hok, _, _, ([] ++ pa) ++ pv, ⟨[] ++ pa, pv, trodAll_append (hargs _ (fun _ _ => rfl)) (hres _ _ _), hvars _ (fun _ _ => rfl), rfl, ?_, ?_⟩, ?_⟩
    · intro b off hp
      have hin : MemPlace.cell b off ∈ before := by rw [hps]; simpa using hp
      rw [hb.frozen (hlt _ hin)]
      exact hz b off hin
    · intro ha
      have := hn ha
      rw [hps] at this
      simpa using this
    · intro p hp _
      rw [hps]
      simpa using hp
end
end AG

/- A slice of bytes that came in. -/
namespace Go.Proofs.YtimoekglamdddaaDoor
open Go.RowKit Go.ChangeShapes Go.WideShapes AG

theorem cells_u8 : Tryd.prog.cellsOf 5 = 1 := by kernel_rfl

theorem open_code {H : Type} {enc : TypeId × Value → H} {W : World} {A : Option Addr} {n c fuel : Nat} {x : DataW H × List MemPlace} (h : DataW.trod enc Tryd.prog W 0 (fun _ => true) true fuel 43 [.slice A n c] = some x) :
    n ≤ c ∧ c ≤ 9223372036854775807 ∧ CodeAt W A n := by
  rcases open_ints Tryd.underlying43 Tryd.underlying5 cells_u8 h with ⟨hcs, _⟩ | ⟨a, len, cap, zs, hcs, _, hl, hm, hz, _, hcell, hwf⟩
  · simp only [List.cons.injEq, Value.slice.injEq, and_true] at hcs
    obtain ⟨rfl, rfl, rfl⟩ := hcs
    exact ⟨Nat.le_refl _, by omega, fun h => by omega⟩
  · simp only [List.cons.injEq, Value.slice.injEq, and_true] at hcs
    obtain ⟨rfl, rfl, rfl⟩ := hcs
    unfold maxLen at hm
    simp only [if_true] at hz
    refine ⟨hl, by omega, fun hn => ?_⟩
    obtain ⟨b, o, sp⟩ := a
    have hsp : sp = none := by simpa [Addr.add] using World.cell?_spot (hcell 0 (by omega))
    subst hsp
    refine ⟨b, o, rfl, World.block_lt_of_cell? _ _ (by simpa [Addr.add] using hcell 0 (by omega)), fun i hi => ?_⟩
    have h1 := hcell i (by omega)
    rw [add_at] at h1
    have hmem : zs.getD i 0 ∈ zs := by
      have : i < zs.length := by omega
      rw [List.getD_eq_getElem?_getD, List.getElem?_eq_getElem this]
      exact List.getElem_mem _
    have h2 := hwf _ hmem
    have h3 : 0 ≤ zs.getD i 0 ∧ zs.getD i 0 < 256 := by
      have h4 : IntKind.u8.min ≤ zs.getD i 0 ∧ zs.getD i 0 ≤ IntKind.u8.max := by simpa [Lit.wf] using h2
      have e1 : IntKind.u8.min = 0 := by decide
      have e2 : IntKind.u8.max = 255 := by decide
      omega
    obtain ⟨y, hy⟩ := Int.eq_ofNat_of_zero_le h3.1
    rw [hy] at h1
    exact ⟨y, by omega, h1⟩

end Go.Proofs.YtimoekglamdddaaDoor
