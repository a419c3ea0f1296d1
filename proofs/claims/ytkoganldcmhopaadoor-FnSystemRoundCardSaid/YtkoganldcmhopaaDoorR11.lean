/- Lemmas, part 11: several texts in one. -/
import Derived.Test.YtkoganldcmhopaaDoorR4
import Derived.Test.YtkoganldcmhopaaDoorR3
import Derived.BigRegion
import Derived.Test.YtkoganldcmhopaaDoorR7
import Derived.Test.YtkoganldcmhopaaDoorR5
import Derived.Test.YtkoganldcmhopaaDoorR10
import Derived.Test.YtkoganldcmhopaaDoorR9
import Derived.Test.YtkoganldcmhopaaDoorR6
import Derived.Test.YtkoganldcmhopaaDoorR1
import Derived.ProofKit
import Derived.Deep.Slices
import Derived.Deep.Fields
import Derived.ChangeSame
import Derived.ChangeSlices
import Derived.Lib.SmallJoins
set_option linter.unusedSimpArgs false
set_option linter.unusedVariables false

/- Both IsDeterministic return detB. -/
namespace Go.Proofs.YtkoganldcmhopaaDoor
open Go.RowKit Go.BigFrame AG

theorem detB_false {s : Sy} {k : Nat} (h : ¬ detAt s (reachAll s) (k + 1)) : detB s = false := by
  unfold detB
  have : ¬ detAt s (reachAll s) s.es.length := fun h' => h fun i hi _ => h' i hi (by omega)
  simp [this]

theorem detAt.next {s : Sy} {S k : Nat} (h : detAt s S k) (hlt : k + 1 < s.es.length) (hn : ¬ (Has (S : Int) s.es[k].f.toNat = true ∧ s.es[k].f = s.es[k + 1].f ∧ s.es[k].l = s.es[k + 1].l)) : detAt s S (k + 1) := fun i hi hik => by
  by_cases e : i = k
  · subst e
    exact hn
  · exact h i hi (by omega)

set_option maxHeartbeats 1000000 in
theorem implIsDeterministic_any (s : Sy) (A : Option Addr) (c : Nat) (w : World) (hl : s.es.length ≤ c) (hc : c ≤ 9223372036854775807) (hT : Tab w) (hr : EdsAt w w.heap.size A s.es) :
    Calls Tryd.prog 21 #[s.val A c] w fun e w' => e = .returned (.bool (detB s)) ∧ Below w.heap.size w w' := by
  unfold Sy.val
  replace hr := hid hr
  replace hT := hid hT
  cases hok : sysOk s
  all_goals
    replace hok := hid hok
    go_enter Tryd.func21, Tryd.ntmps21
    go_wp2_with fail
    obtain ⟨w0, hw0, hz0, hB0, hS0, hS1, hS2⟩ := boxed3 w (Value.int IntKind.i64 s.al) (Value.int IntKind.i64 s.st) (Value.slice A s.es.length c) 30
    rw [hw0]
    clear hw0
    have hr0 := hid (hr.out.later hB0)
    refine (implSystemValid_any s A c w0 hl hc hr0.out).mono ?_
    rintro e w1 ⟨rfl, hb1⟩
    rw [hok.out]
    have hB1 : Below w.heap.size w w1 := hB0.trans (hb1.mono (by omega))
    have hb1' := hb1.mono hz0
  · go_wp2
    go_ret
    exact ⟨ret_bool (by unfold detB; rw [hok.out]; rfl), hB1⟩
  · have hr1 := hid (hr0.out.later hb1)
    have hT1 := hid (hT.out.later hB1)
    go_wp2_with fail
    refine (implReachableStates_any s A c w1 hl hc hT1.out hr1.out).mono ?_
    rintro e w2 ⟨rfl, hb2⟩
    rw [hok.out, if_pos rfl]
    have hb2' : Below (w.heap.size + 1) w0 w2 := hb1'.trans (hb2.mono (Nat.le_trans hz0 hb1.size))
    have hin := hid (sysOk_in hok.out)
    go_wp2_with fail
    go_loopw [4] (fun i wr => ∃ k : Nat, i = .int .i64 (k + 1 : Nat) ∧ (k = 0 ∨ k + 1 ≤ s.es.length) ∧ detAt s (reachAll s) k ∧ Below (w.heap.size + 1) w0 wr) (fun i _ => s.es.length + 1 - (intOf i).toNat)
    case atStart => exact ⟨0, rfl, .inl rfl, fun i _ h => by omega, hb2'⟩
    case round =>
      obtain ⟨k, rfl, hk, hdet, hb⟩ := hrel
      replace hdet := hid hdet
      by_cases hlt : k + 1 < s.es.length
      · obtain ⟨b, o, rfl, hB, hE⟩ := hr.out.get hB0 (Nat.le_succ w.heap.size) hlt
        obtain ⟨e0, e1, e2⟩ := hE k (by omega)
        obtain ⟨f0, f1, f2⟩ := hE (k + 1) hlt
        replace hE := hid hE
        replace e0 := e0 _ hb
        replace e1 := e1 _ hb
        replace e2 := e2 _ hb
        replace f0 := f0 _ hb
        replace f1 := f1 _ hb
        replace f2 := f2 _ hb
        have q0 := hS0 _ hb
        have q1 := hS1 _ hb
        have q2 := hS2 _ hb
        have hzr := hb.size
        have up : ∀ (B' O' : Nat) (v : Value), B' < wr.heap.size → wr.cell? ⟨B', O', none⟩ = some v → ∀ X Y : Array Value, ((wr.alloc (Obj.cells X 66)).alloc (Obj.cells Y 66)).cell? ⟨B', O', none⟩ = some v := fun B' O' v hB' h X Y => by
          rw [World.cell?_alloc_lt (h := by simp; omega), World.cell?_alloc_lt (h := by simpa using hB')]
          exact h
        have u2 := up _ _ _ (by omega) q2
        have v0 := up _ _ _ (by omega) e0
        have v1 := up _ _ _ (by omega) e1
        have v2 := up _ _ _ (by omega) e2
        have w0' := up _ _ _ (by omega) f0
        have w1' := up _ _ _ (by omega) f1
        have w2' := up _ _ _ (by omega) f2
        have up1 : ∀ (B' O' : Nat) (v : Value), B' < wr.heap.size → wr.cell? ⟨B', O', none⟩ = some v → ∀ X : Array Value, (wr.alloc (Obj.cells X 66)).cell? ⟨B', O', none⟩ = some v := fun B' O' v hB' h X => by
          rw [World.cell?_alloc_lt (h := by simpa using hB')]
          exact h
        have x2 := up1 _ _ _ (by omega) q2
        have y0 := up1 _ _ _ (by omega) e0
        have y1 := up1 _ _ _ (by omega) e1
        have y2 := up1 _ _ _ (by omega) e2
        have z0 := up1 _ _ _ (by omega) f0
        have z1 := up1 _ _ _ (by omega) f1
        have z2 := up1 _ _ _ (by omega) f2
        replace up := hid up
        replace up1 := hid up1
        obtain ⟨fa, fb, _⟩ := hin.out s.es[k] (List.getElem_mem _)
        have hasZ : Hid (HasZ (reachAll s : Nat) s.es[k].f = Has (reachAll s : Nat) s.es[k].f.toNat) := hid (by unfold HasZ; rw [decide_eq_true fa]; rfl)
        have hbx := hb.mono (Nat.le_succ w.heap.size)
        go_wp2_with fail
        go_region
        all_goals
          go_wp2_with (go_at_call 67; refine (has_any _ _ _ (by omega)).mono ?_; rintro e w' ⟨rfl, rfl⟩)
        all_goals
          first
          | (refine ⟨⟨k + 1, by go_num, .inr (by omega), detAt.next hdet.out hlt ?_, ?_⟩, by simp [intOf]; omega⟩
             · rintro ⟨h1, h2, h3⟩
               rw [← hasZ.out] at h1
               first
               | contradiction
               | exact absurd (beq_iff_eq.mpr h3) (ne_true_of_eq_false ‹_›)
             · (repeat (first | exact Below.refl _ _ | assumption | refine Below.drew ?_ | refine Below.alloc ?_ (by first | omega | (simp; done) | (simp; omega)) _ | refine Below.setCell ?_ (by first | omega | (simp; done) | (simp; omega)) _)))
          | (go_ret
             refine ⟨ret_bool (detB_false (k := k) fun h => h k hlt (by omega) ⟨?_, ?_, ?_⟩).symm, hB0.trans (by (repeat (first | exact Below.refl _ _ | assumption | refine Below.drew ?_ | refine Below.alloc ?_ (by first | omega | (simp; done) | (simp; omega)) _ | refine Below.setCell ?_ (by first | omega | (simp; done) | (simp; omega)) _)))⟩
             · rw [← hasZ.out]; assumption
             · assumption
             · exact beq_iff_eq.mp (by assumption))
      · have hall : Hid (detB s = true) := hid (by
          unfold detB
          rw [hok.out]
          simp only [Bool.true_and, decide_eq_true_eq]
          exact fun i hi _ => hdet.out i hi (by omega))
        go_wp2
        go_ret
        exact ⟨ret_bool hall.out.symm, hB0.trans (hb.mono (by omega))⟩

end Go.Proofs.YtkoganldcmhopaaDoor

/- Both versions of TracesWithin and SameTraces. -/
namespace Go.Proofs.YtkoganldcmhopaaDoor
open Go.RowKit Go.BigFrame AG

theorem specFTO_any (s t : Sy) (A B : Option Addr) (c d : Nat) (w : World) (hl : s.es.length ≤ c) (hc : c ≤ 9223372036854775807) (hm : t.es.length ≤ d) (hd : d ≤ 9223372036854775807) (hr : EdsAt w w.heap.size A s.es) (hs : EdsAt w w.heap.size B t.es) :
    Calls Tryd.prog 165 #[s.val A c, t.val B d] w fun e w' => ∃ o, e = .returned (pathV o) ∧ IsOut s t o ∧ Below w.heap.size w w' :=
  (specFirstTraceOutside_any s t A B c d w hl hc hm hd hr hs).mono fun e w' ⟨o, he, hf, hb⟩ => ⟨o, he, by
    unfold IsFirst at hf
    by_cases hC : cmpOk s t = true
    · rw [if_pos hC] at hf
      have hsy : sysOk s = true ∧ sysOk t = true := by
        have := hC
        unfold cmpOk at this
        simp only [Bool.and_eq_true] at this
        exact ⟨this.1, this.2.1⟩
      exact out_of_first (spec_hits (s := s) (t := t)) hC hf
    · rw [if_neg hC] at hf
      unfold IsOut
      rw [if_neg hC]
      exact hf, hb⟩

/-- Every trace of s is one of t. -/
noncomputable def withinB (s t : Sy) : Bool := open Classical in cmpOk s t && decide (∀ q, ¬ AG.Outside s t q)
theorem within_of {s t : Sy} {o : Option (List Nat)} (h : IsOut s t o) : (cmpOk s t && !o.isSome) = withinB s t := by
  unfold IsOut at h
  unfold withinB
  cases hC : cmpOk s t
  · rfl
  · rw [if_pos hC] at h
    cases o with
    | none => simpa using h
    | some r => simp; exact ⟨r, h.1⟩
noncomputable def sameB (s t : Sy) : Bool := withinB s t && withinB t s

set_option maxRecDepth 100000 in
set_option maxHeartbeats 1000000 in
theorem specTracesWithin_any (s t : Sy) (A B : Option Addr) (c d : Nat) (w : World) (hl : s.es.length ≤ c) (hc : c ≤ 9223372036854775807) (hm : t.es.length ≤ d) (hd : d ≤ 9223372036854775807) (hr : EdsAt w w.heap.size A s.es) (hs : EdsAt w w.heap.size B t.es) :
    Calls Tryd.prog 105 #[s.val A c, t.val B d] w fun e w' => e = .returned (.bool (withinB s t)) ∧ Below w.heap.size w w' := by
  unfold Sy.val
  replace hr := hid hr
  replace hs := hid hs
  go_enter Tryd.func105, Tryd.ntmps105
  go_wp2_with fail
  obtain ⟨w0, hw0, hz0, hB0, hS, hU⟩ := boxed2 w #[Value.int IntKind.i64 s.al, Value.int IntKind.i64 s.st, Value.slice A s.es.length c] 30 #[Value.int IntKind.i64 t.al, Value.int IntKind.i64 t.st, Value.slice B t.es.length d] 30
  rw [hw0]
  clear hw0
  have p0 := hS 0 _ rfl _ (Below.refl _ _)
  have p1 := hS 1 _ rfl _ (Below.refl _ _)
  have p2 := hS 2 _ rfl _ (Below.refl _ _)
  have q0 := hU 0 _ rfl _ (Below.refl _ _)
  have q1 := hU 1 _ rfl _ (Below.refl _ _)
  have q2 := hU 2 _ rfl _ (Below.refl _ _)
  have hr0 := hid (hr.out.later hB0)
  have hs0 := hid (hs.out.later hB0)
  go_wp2_with fail
  refine (specFTO_any s t A B c d w0 hl hc hm hd hr0.out hs0.out).mono ?_
  rintro e w1 ⟨o, rfl, ho, hb1⟩
  have b1 := hb1.mono hz0
  clear p0 p1 p2 q0 q1 q2
  have p0 := hS 0 _ rfl _ b1
  have p1 := hS 1 _ rfl _ b1
  have p2 := hS 2 _ rfl _ b1
  have q0 := hU 0 _ rfl _ b1
  have q1 := hU 1 _ rfl _ b1
  have q2 := hU 2 _ rfl _ b1
  have B1 : Below w.heap.size w w1 := hB0.trans (b1.mono (by omega))
  have hr1 := hid (hr.out.later B1)
  have hs1 := hid (hs.out.later B1)
  have hwi := within_of ho
  obtain ⟨Sv, Fv, hpv, hfv⟩ : ∃ Sv Fv, pathV o = .tuple #[.string Sv, .bool Fv] ∧ Fv = o.isSome := ⟨_, _, rfl, rfl⟩
  rw [hpv]
  rw [← hfv] at hwi
  replace hwi := hid hwi
  clear ho hpv hfv
  have z1 := hb1.size
  go_wp2_with fail
  refine (l6Comparable_any s t A B c d w1 hl hc hm hd hr1.out hs1.out).mono ?_
  rintro e w2 ⟨rfl, hb2⟩
  have B2 : Below w.heap.size w w2 := B1.trans (hb2.mono (by omega))
  cases hC : cmpOk s t
  · replace hC := hid hC
    go_wp2_with fail
    go_ret
    exact ⟨ret_bool (by rw [← hwi.out, hC.out]; rfl), B2⟩
  · replace hC := hid hC
    go_wp2_with fail
    go_ret
    exact ⟨ret_bool (by rw [← hwi.out, hC.out]; rfl), B2⟩

set_option maxRecDepth 100000 in
set_option maxHeartbeats 1000000 in
theorem specSameTraces_any (s t : Sy) (A B : Option Addr) (c d : Nat) (w : World) (hl : s.es.length ≤ c) (hc : c ≤ 9223372036854775807) (hm : t.es.length ≤ d) (hd : d ≤ 9223372036854775807) (hr : EdsAt w w.heap.size A s.es) (hs : EdsAt w w.heap.size B t.es) :
    Calls Tryd.prog 51 #[s.val A c, t.val B d] w fun e w' => e = .returned (.bool (sameB s t)) ∧ Below w.heap.size w w' := by
  unfold Sy.val
  replace hr := hid hr
  replace hs := hid hs
  have hval : Hid (sameB s t = (withinB s t && withinB t s)) := hid rfl
  go_enter Tryd.func51, Tryd.ntmps51
  go_wp2_with fail
  obtain ⟨w0, hw0, hz0, hB0, hS, hU⟩ := boxed2 w #[Value.int IntKind.i64 s.al, Value.int IntKind.i64 s.st, Value.slice A s.es.length c] 30 #[Value.int IntKind.i64 t.al, Value.int IntKind.i64 t.st, Value.slice B t.es.length d] 30
  rw [hw0]
  clear hw0
  have p0 := hS 0 _ rfl _ (Below.refl _ _)
  have p1 := hS 1 _ rfl _ (Below.refl _ _)
  have p2 := hS 2 _ rfl _ (Below.refl _ _)
  have q0 := hU 0 _ rfl _ (Below.refl _ _)
  have q1 := hU 1 _ rfl _ (Below.refl _ _)
  have q2 := hU 2 _ rfl _ (Below.refl _ _)
  have hr0 := hid (hr.out.later hB0)
  have hs0 := hid (hs.out.later hB0)
  go_wp2_with fail
  refine (specTracesWithin_any s t A B c d w0 hl hc hm hd hr0.out hs0.out).mono ?_
  rintro e w1 ⟨rfl, hb1⟩
  have b1 := hb1.mono hz0
  clear p0 p1 p2 q0 q1 q2
  have B1 : Below w.heap.size w w1 := hB0.trans (b1.mono (by omega))
  have z1 := hb1.size
  cases hW : withinB s t
  · replace hW := hid hW
    go_wp2_with fail
    go_ret
    exact ⟨ret_bool (by rw [hval.out, hW.out]; rfl), B1⟩
  · replace hW := hid hW
    have p0 := hS 0 _ rfl _ b1
    have p1 := hS 1 _ rfl _ b1
    have p2 := hS 2 _ rfl _ b1
    have q0 := hU 0 _ rfl _ b1
    have q1 := hU 1 _ rfl _ b1
    have q2 := hU 2 _ rfl _ b1
    have hr1 := hid (hr.out.later B1)
    have hs1 := hid (hs.out.later B1)
    go_wp2_with fail
    refine (specTracesWithin_any t s B A d c w1 hm hd hl hc hs1.out hr1.out).mono ?_
    rintro e w2 ⟨rfl, hb2⟩
    have B2 : Below w.heap.size w w2 := B1.trans (hb2.mono (by omega))
    go_wp2_with fail
    go_ret
    exact ⟨ret_bool (by rw [hval.out, hW.out]; rfl), B2⟩

set_option maxRecDepth 100000 in
set_option maxHeartbeats 1000000 in
theorem implTracesWithin_any (s t : Sy) (A B : Option Addr) (c d : Nat) (w : World) (hl : s.es.length ≤ c) (hc : c ≤ 9223372036854775807) (hm : t.es.length ≤ d) (hd : d ≤ 9223372036854775807) (hT : Tab w) (hr : EdsAt w w.heap.size A s.es) (hs : EdsAt w w.heap.size B t.es) :
    Calls Tryd.prog 96 #[s.val A c, t.val B d] w fun e w' => e = .returned (.bool (withinB s t)) ∧ Below w.heap.size w w' := by
  unfold Sy.val
  replace hr := hid hr
  replace hs := hid hs
  replace hT := hid hT
  go_enter Tryd.func96, Tryd.ntmps96
  go_wp2_with fail
  obtain ⟨w0, hw0, hz0, hB0, hS, hU⟩ := boxed2 w #[Value.int IntKind.i64 s.al, Value.int IntKind.i64 s.st, Value.slice A s.es.length c] 30 #[Value.int IntKind.i64 t.al, Value.int IntKind.i64 t.st, Value.slice B t.es.length d] 30
  rw [hw0]
  clear hw0
  have p0 := hS 0 _ rfl _ (Below.refl _ _)
  have p1 := hS 1 _ rfl _ (Below.refl _ _)
  have p2 := hS 2 _ rfl _ (Below.refl _ _)
  have q0 := hU 0 _ rfl _ (Below.refl _ _)
  have q1 := hU 1 _ rfl _ (Below.refl _ _)
  have q2 := hU 2 _ rfl _ (Below.refl _ _)
  have hr0 := hid (hr.out.later hB0)
  have hs0 := hid (hs.out.later hB0)
  have hT0 := hid (hT.out.later hB0)
  go_wp2_with fail
  refine (implFirstTraceOutside_any s t A B c d w0 hl hc hm hd hT0.out hr0.out hs0.out).mono ?_
  rintro e w1 ⟨o, rfl, ho, hb1⟩
  have b1 := hb1.mono hz0
  clear p0 p1 p2 q0 q1 q2
  have p0 := hS 0 _ rfl _ b1
  have p1 := hS 1 _ rfl _ b1
  have p2 := hS 2 _ rfl _ b1
  have q0 := hU 0 _ rfl _ b1
  have q1 := hU 1 _ rfl _ b1
  have q2 := hU 2 _ rfl _ b1
  have B1 : Below w.heap.size w w1 := hB0.trans (b1.mono (by omega))
  have hr1 := hid (hr.out.later B1)
  have hs1 := hid (hs.out.later B1)
  have hwi := within_of ho
  obtain ⟨Sv, Fv, hpv, hfv⟩ : ∃ Sv Fv, pathV o = .tuple #[.string Sv, .bool Fv] ∧ Fv = o.isSome := ⟨_, _, rfl, rfl⟩
  rw [hpv]
  rw [← hfv] at hwi
  replace hwi := hid hwi
  clear ho hpv hfv
  have z1 := hb1.size
  go_wp2_with fail
  refine (sameAlphabets_any s t A B c d w1 hl hc hm hd hr1.out hs1.out).mono ?_
  rintro e w2 ⟨rfl, hb2⟩
  have B2 : Below w.heap.size w w2 := B1.trans (hb2.mono (by omega))
  cases hC : cmpOk s t
  · replace hC := hid hC
    go_wp2_with fail
    go_ret
    exact ⟨ret_bool (by rw [← hwi.out, hC.out]; rfl), B2⟩
  · replace hC := hid hC
    go_wp2_with fail
    go_ret
    exact ⟨ret_bool (by rw [← hwi.out, hC.out]; rfl), B2⟩

set_option maxRecDepth 100000 in
set_option maxHeartbeats 1000000 in
theorem implSameTraces_any (s t : Sy) (A B : Option Addr) (c d : Nat) (w : World) (hl : s.es.length ≤ c) (hc : c ≤ 9223372036854775807) (hm : t.es.length ≤ d) (hd : d ≤ 9223372036854775807) (hT : Tab w) (hr : EdsAt w w.heap.size A s.es) (hs : EdsAt w w.heap.size B t.es) :
    Calls Tryd.prog 38 #[s.val A c, t.val B d] w fun e w' => e = .returned (.bool (sameB s t)) ∧ Below w.heap.size w w' := by
  unfold Sy.val
  replace hr := hid hr
  replace hs := hid hs
  replace hT := hid hT
  have hval : Hid (sameB s t = (withinB s t && withinB t s)) := hid rfl
  go_enter Tryd.func38, Tryd.ntmps38
  go_wp2_with fail
  obtain ⟨w0, hw0, hz0, hB0, hS, hU⟩ := boxed2 w #[Value.int IntKind.i64 s.al, Value.int IntKind.i64 s.st, Value.slice A s.es.length c] 30 #[Value.int IntKind.i64 t.al, Value.int IntKind.i64 t.st, Value.slice B t.es.length d] 30
  rw [hw0]
  clear hw0
  have p0 := hS 0 _ rfl _ (Below.refl _ _)
  have p1 := hS 1 _ rfl _ (Below.refl _ _)
  have p2 := hS 2 _ rfl _ (Below.refl _ _)
  have q0 := hU 0 _ rfl _ (Below.refl _ _)
  have q1 := hU 1 _ rfl _ (Below.refl _ _)
  have q2 := hU 2 _ rfl _ (Below.refl _ _)
  have hr0 := hid (hr.out.later hB0)
  have hs0 := hid (hs.out.later hB0)
  have hT0 := hid (hT.out.later hB0)
  go_wp2_with fail
  refine (implTracesWithin_any s t A B c d w0 hl hc hm hd hT0.out hr0.out hs0.out).mono ?_
  rintro e w1 ⟨rfl, hb1⟩
  have b1 := hb1.mono hz0
  clear p0 p1 p2 q0 q1 q2
  have B1 : Below w.heap.size w w1 := hB0.trans (b1.mono (by omega))
  have z1 := hb1.size
  cases hW : withinB s t
  · replace hW := hid hW
    go_wp2_with fail
    go_ret
    exact ⟨ret_bool (by rw [hval.out, hW.out]; rfl), B1⟩
  · replace hW := hid hW
    have p0 := hS 0 _ rfl _ b1
    have p1 := hS 1 _ rfl _ b1
    have p2 := hS 2 _ rfl _ b1
    have q0 := hU 0 _ rfl _ b1
    have q1 := hU 1 _ rfl _ b1
    have q2 := hU 2 _ rfl _ b1
    have hr1 := hid (hr.out.later B1)
    have hs1 := hid (hs.out.later B1)
    have hT1 := hid (hT.out.later B1)
    go_wp2_with fail
    refine (implTracesWithin_any t s B A d c w1 hm hd hl hc hT1.out hs1.out hr1.out).mono ?_
    rintro e w2 ⟨rfl, hb2⟩
    have B2 : Below w.heap.size w w2 := B1.trans (hb2.mono (by omega))
    go_wp2_with fail
    go_ret
    exact ⟨ret_bool (by rw [hval.out, hW.out]; rfl), B2⟩

end Go.Proofs.YtkoganldcmhopaaDoor

/- The laws FnSameMinimal, FnSystemRound. -/
namespace Go.Proofs.YtkoganldcmhopaaDoor
open Go.RowKit Go.BigFrame Go.Maps AG

theorem acc_prA {s : Sy} (h : prK s s.al = true) {r : List Nat} (hr : ∀ l ∈ r, l ∈ letters s.al) : accA (prA s s.al) r = decide (setW s r ≠ 0) := by
  obtain ⟨hk, x, hn, e⟩ := prK_true h
  obtain ⟨hs, _, _⟩ := prOk_parts hk
  rw [e, accA_pr hn hr, prW_self (sysOk_alpha hs).1]
theorem sameB_iff {s t : Sy} (hs : sysOk s = true) (ht : sysOk t = true) : sameB s t = true ↔ s.al = t.al ∧ ∀ r : List Nat, (∀ l ∈ r, l ∈ letters s.al) → (setW s r ≠ 0 ↔ setW t r ≠ 0) := by
  unfold sameB withinB cmpOk
  rw [hs, ht]
  by_cases hal : s.al = t.al
  · have hal' := hal.symm
    simp only [Bool.true_and, Bool.and_eq_true, decide_eq_true_eq, hal, true_and]
    unfold AG.Outside
    rw [hal]
    constructor
    · rintro ⟨h1, h2⟩ r hr
      constructor
      · intro h3 h4
        exact h1 r ⟨hr, h3, h4⟩
      · intro h3 h4
        exact h2 r ⟨hr, h3, h4⟩
    · intro h
      exact ⟨fun q ⟨h1, h2, h3⟩ => (h q h1).1 h2 h3, fun q ⟨h1, h2, h3⟩ => (h q h1).2 h2 h3⟩
  · simp [hal]
theorem same_mins {s t : Sy} (hs : prK s s.al = true) (ht : prK t t.al = true) : sameB s t = decide (minA (prA s s.al) = minA (prA t t.al)) := by
  have hso := (prOk_parts (prK_true hs).1).1
  have hto := (prOk_parts (prK_true ht).1).1
  have ha := auOk_prA hs
  have hb := auOk_prA ht
  rw [Bool.eq_iff_iff, sameB_iff hso hto, decide_eq_true_iff]
  constructor
  · rintro ⟨h1, h2⟩
    refine min_unique ha hb (by rw [prA_al hs, prA_al ht, h1]) fun r hr => ?_
    rw [prA_al hs] at hr
    have hr2 : ∀ l ∈ r, l ∈ letters t.al := fun l hl => by rw [← h1]; exact hr l hl
    rw [acc_prA hs hr, acc_prA ht hr2, Bool.eq_iff_iff, decide_eq_true_iff, decide_eq_true_iff]
    exact h2 r hr
  · intro h
    have h1 : s.al = t.al := by
      have e := congrArg Au.al h
      rwa [minA_al ha, minA_al hb, prA_al hs, prA_al ht] at e
    refine ⟨h1, fun r hr => ?_⟩
    have hr2 : ∀ l ∈ r, l ∈ letters t.al := fun l hl => by rw [← h1]; exact hr l hl
    have e1 := acc_min ha (r := r) (by rw [prA_al hs]; exact hr)
    have e2 := acc_min hb (r := r) (by rw [prA_al ht]; exact hr2)
    rw [h, e2, acc_prA hs hr, acc_prA ht hr2, Bool.eq_iff_iff, decide_eq_true_iff, decide_eq_true_iff] at e1
    exact e1.symm
theorem round_safe {s : Sy} (hs : prK s s.al = true) : ∀ r : List Nat, (∀ l ∈ r, l ∈ letters s.al) → safeA (minA (prA s s.al)) r = decide (setW s r ≠ 0)
  | [], _ => by
    have e1 := acc_min (auOk_prA hs) (r := []) (by simp)
    rw [acc_prA hs (by simp)] at e1
    exact e1
  | l :: r, hr => by
    have ih := round_safe hs r fun x hx => hr x (List.mem_cons_of_mem _ hx)
    have e1 := acc_min (auOk_prA hs) (r := l :: r) (by rw [prA_al hs]; exact hr)
    rw [acc_prA hs hr] at e1
    show (safeA _ r && accA (minA (prA s s.al)) (l :: r)) = _
    rw [ih, e1, Bool.eq_iff_iff, Bool.and_eq_true, decide_eq_true_iff, decide_eq_true_iff]
    refine ⟨fun h => h.2, fun h => ⟨fun h0 => h ?_, h⟩⟩
    show stepSet s (setW s r) (l : Int) = 0
    rw [h0, stepSet_zero]
theorem round_ok {s : Sy} (hs : prK s s.al = true) : soOk (minA (prA s s.al)) = true := by
  refine soOk_iff.2 ⟨minA_ok (auOk_prA hs), ?_⟩
  have := round_safe hs [] (by simp)
  rw [show setW s [] = 1 from rfl] at this
  exact this
theorem round_same {s : Sy} (hs : prK s s.al = true) : sameB s (soS (minA (prA s s.al))) = true := by
  have hso := (prOk_parts (prK_true hs).1).1
  have hk := round_ok hs
  have hal : (soS (minA (prA s s.al))).al = s.al := by rw [soS_al hk, minA_al (auOk_prA hs), prA_al hs]
  refine (sameB_iff hso (soS_ok hk)).2 ⟨hal.symm, fun r hr => ?_⟩
  rw [setW_so hk r (by rw [minA_al (auOk_prA hs), prA_al hs]; exact hr), round_safe hs r hr]
  by_cases h : setW s r = 0
  · simp [h]
  · simp [h]

set_option maxRecDepth 100000 in
set_option maxHeartbeats 16000000 in
theorem FnSameMinimal_any (A : Option Addr) (n c : Nat) (w : World) (hn : n ≤ c) (hc : c ≤ 9223372036854775807) (hT : Tab w) (hx : CodeAt w A n) :
    Calls Tryd.prog 12 #[.slice A n c] w fun e w' => e = .returned (.bool true) ∧ Below w.heap.size w w' := by
  replace hT := hid hT
  replace hx := hid hx
  by_cases hlen : 1048576 < n
  · have hgt : (1048576 : Int) < (n : Int) := by omega
    go_enter Tryd.func12, Tryd.ntmps12
    go_wp2
    go_ret
    exact ⟨rfl, Below.refl _ _⟩
  have hgt : ¬ ((1048576 : Int) < (n : Int)) := by omega
  go_enter Tryd.func12, Tryd.ntmps12
  go_wp2_with fail
  have BW_w : Below w.heap.size w w := Below.refl _ _
  refine (drawSameTraces_any A n c w hn hc hx.out).mono ?_
  rintro e w1 ⟨s, t, As, At, cs, ct, rfl, a1, a2, b1, b2, ea, eb, hb_w1⟩
  unfold Sy.val
  have BW_w1 := BW_w.trans (hb_w1.mono BW_w.size)
  have es := hid ea
  have BEs_w1 : Below w1.heap.size w1 w1 := Below.refl _ _
  clear ea
  have et := hid eb
  have BEt_w1 : Below w1.heap.size w1 w1 := Below.refl _ _
  clear eb
  go_upto_region 4 with fail
  obtain ⟨w2, hw_w2, hz_w2, hb_w2, hS_w2, hU_w2⟩ := boxed2 w1 #[.int .i64 s.al, .int .i64 s.st, .slice As s.es.length cs] 30 #[.int .i64 t.al, .int .i64 t.st, .slice At t.es.length ct] 30
  rw [hw_w2]
  clear hw_w2
  have hs0 := fun w' (hb : Below w2.heap.size w2 w') => hS_w2 0 _ rfl w' (hb.mono hz_w2)
  have hs1 := fun w' (hb : Below w2.heap.size w2 w') => hS_w2 1 _ rfl w' (hb.mono hz_w2)
  have hs2 := fun w' (hb : Below w2.heap.size w2 w') => hS_w2 2 _ rfl w' (hb.mono hz_w2)
  replace hs0 := hid hs0
  replace hs1 := hid hs1
  replace hs2 := hid hs2
  have ht0 := fun w' (hb : Below w2.heap.size w2 w') => hU_w2 0 _ rfl w' (hb.mono hz_w2)
  have ht1 := fun w' (hb : Below w2.heap.size w2 w') => hU_w2 1 _ rfl w' (hb.mono hz_w2)
  have ht2 := fun w' (hb : Below w2.heap.size w2 w') => hU_w2 2 _ rfl w' (hb.mono hz_w2)
  replace ht0 := hid ht0
  replace ht1 := hid ht1
  replace ht2 := hid ht2
  clear hS_w2 hU_w2
  have BW_w2 := BW_w1.trans (hb_w2.mono BW_w1.size)
  have BEs_w2 := BEs_w1.trans (hb_w2.mono BEs_w1.size)
  have BEt_w2 := BEt_w1.trans (hb_w2.mono BEt_w1.size)
  have Bs_w2 : Below w2.heap.size w2 w2 := Below.refl _ _
  have Bt_w2 : Below w2.heap.size w2 w2 := Below.refl _ _
  obtain ⟨D, hD⟩ : ∃ D, Hid (D = sameB s t) := ⟨_, hid rfl⟩
  obtain ⟨a, hae⟩ : ∃ a, Hid (a = prA s s.al) := ⟨_, hid rfl⟩
  obtain ⟨ka, hak⟩ : ∃ k, Hid (k = prK s s.al) := ⟨_, hid rfl⟩
  obtain ⟨b, hbe⟩ : ∃ b, Hid (b = prA t t.al) := ⟨_, hid rfl⟩
  obtain ⟨kb, hbk⟩ : ∃ k, Hid (k = prK t t.al) := ⟨_, hid rfl⟩
  have hoo : (D != D) = false := by simp
  have hoe : (D == D) = true := by simp
  have ps0 := hs0.out _ Bs_w2
  have ps1 := hs1.out _ Bs_w2
  have ps2 := hs2.out _ Bs_w2
  have pt0 := ht0.out _ Bt_w2
  have pt1 := ht1.out _ Bt_w2
  have pt2 := ht2.out _ Bt_w2
  go_wp2_with fail
  refine (implSameTraces_any s t As At cs ct w2 a1 a2 b1 b2 (hT.out.later BW_w2) (es.out.later BEs_w2) (et.out.later BEt_w2)).mono ?_
  clear ps0 ps1 ps2 pt0 pt1 pt2
  rintro e w3 ⟨rfl, hb_w3⟩
  have BW_w3 := BW_w2.trans (hb_w3.mono BW_w2.size)
  have BEs_w3 := BEs_w2.trans (hb_w3.mono BEs_w2.size)
  have BEt_w3 := BEt_w2.trans (hb_w3.mono BEt_w2.size)
  have Bs_w3 := Bs_w2.trans (hb_w3.mono Bs_w2.size)
  have Bt_w3 := Bt_w2.trans (hb_w3.mono Bt_w2.size)
  rw [← hD.out]
  have ps0 := hs0.out _ Bs_w3
  have ps1 := hs1.out _ Bs_w3
  have ps2 := hs2.out _ Bs_w3
  go_wp2_with fail
  have hc_a := hid (implDeterminize_any s As cs w3 a1 a2 (hT.out.later BW_w3) (es.out.later BEs_w3))
  rw [← hae.out, ← hak.out] at hc_a
  refine hc_a.out.mono ?_
  clear hc_a
  clear ps0 ps1 ps2
  rintro e w4 ⟨hb_w4, v1, v2, xs, rfl, hau⟩
  obtain ⟨Aa, ca, Ba, da, rfl, rfl, ta⟩ := hau.at_
  replace ta := hid ta
  clear hau
  have BW_w4 := BW_w3.trans (hb_w4.mono BW_w3.size)
  have BEs_w4 := BEs_w3.trans (hb_w4.mono BEs_w3.size)
  have BEt_w4 := BEt_w3.trans (hb_w4.mono BEt_w3.size)
  have Bs_w4 := Bs_w3.trans (hb_w4.mono Bs_w3.size)
  have Bt_w4 := Bt_w3.trans (hb_w4.mono Bt_w3.size)
  have BTa_w4 : Below w4.heap.size w4 w4 := Below.refl _ _
  go_upto_region 6 with fail
  obtain ⟨w5, hw_w5, hz_w5, hb_w5, hS_w5⟩ := boxed w4 #[.int .i64 a.al, .slice Aa a.nx.length ca, .slice Ba a.ac.length da] 26
  rw [hw_w5]
  clear hw_w5
  have ha0 := fun w' (hb : Below w5.heap.size w5 w') => hS_w5 0 _ rfl w' (hb.mono hz_w5)
  have ha1 := fun w' (hb : Below w5.heap.size w5 w') => hS_w5 1 _ rfl w' (hb.mono hz_w5)
  have ha2 := fun w' (hb : Below w5.heap.size w5 w') => hS_w5 2 _ rfl w' (hb.mono hz_w5)
  replace ha0 := hid ha0
  replace ha1 := hid ha1
  replace ha2 := hid ha2
  clear hS_w5
  have BW_w5 := BW_w4.trans (hb_w5.mono BW_w4.size)
  have BEs_w5 := BEs_w4.trans (hb_w5.mono BEs_w4.size)
  have BEt_w5 := BEt_w4.trans (hb_w5.mono BEt_w4.size)
  have Bs_w5 := Bs_w4.trans (hb_w5.mono Bs_w4.size)
  have Bt_w5 := Bt_w4.trans (hb_w5.mono Bt_w4.size)
  have BTa_w5 := BTa_w4.trans (hb_w5.mono BTa_w4.size)
  have Ba_w5 : Below w5.heap.size w5 w5 := Below.refl _ _
  have pt0 := ht0.out _ Bt_w5
  have pt1 := ht1.out _ Bt_w5
  have pt2 := ht2.out _ Bt_w5
  go_wp2_with fail
  have hc_b := hid (implDeterminize_any t At ct w5 b1 b2 (hT.out.later BW_w5) (et.out.later BEt_w5))
  rw [← hbe.out, ← hbk.out] at hc_b
  refine hc_b.out.mono ?_
  clear hc_b
  clear pt0 pt1 pt2
  rintro e w6 ⟨hb_w6, v1, v2, xs, rfl, hau⟩
  obtain ⟨Ab, cb, Bb, db, rfl, rfl, tb⟩ := hau.at_
  replace tb := hid tb
  clear hau
  have BW_w6 := BW_w5.trans (hb_w6.mono BW_w5.size)
  have BEs_w6 := BEs_w5.trans (hb_w6.mono BEs_w5.size)
  have BEt_w6 := BEt_w5.trans (hb_w6.mono BEt_w5.size)
  have Bs_w6 := Bs_w5.trans (hb_w6.mono Bs_w5.size)
  have Bt_w6 := Bt_w5.trans (hb_w6.mono Bt_w5.size)
  have BTa_w6 := BTa_w5.trans (hb_w6.mono BTa_w5.size)
  have Ba_w6 := Ba_w5.trans (hb_w6.mono Ba_w5.size)
  have BTb_w6 : Below w6.heap.size w6 w6 := Below.refl _ _
  go_upto_region 7 with fail
  obtain ⟨w7, hw_w7, hz_w7, hb_w7, hS_w7⟩ := boxed w6 #[.int .i64 b.al, .slice Ab b.nx.length cb, .slice Bb b.ac.length db] 26
  rw [hw_w7]
  clear hw_w7
  have hb0 := fun w' (hb : Below w7.heap.size w7 w') => hS_w7 0 _ rfl w' (hb.mono hz_w7)
  have hb1 := fun w' (hb : Below w7.heap.size w7 w') => hS_w7 1 _ rfl w' (hb.mono hz_w7)
  have hb2 := fun w' (hb : Below w7.heap.size w7 w') => hS_w7 2 _ rfl w' (hb.mono hz_w7)
  replace hb0 := hid hb0
  replace hb1 := hid hb1
  replace hb2 := hid hb2
  clear hS_w7
  have BW_w7 := BW_w6.trans (hb_w7.mono BW_w6.size)
  have BEs_w7 := BEs_w6.trans (hb_w7.mono BEs_w6.size)
  have BEt_w7 := BEt_w6.trans (hb_w7.mono BEt_w6.size)
  have Bs_w7 := Bs_w6.trans (hb_w7.mono Bs_w6.size)
  have Bt_w7 := Bt_w6.trans (hb_w7.mono Bt_w6.size)
  have BTa_w7 := BTa_w6.trans (hb_w7.mono BTa_w6.size)
  have Ba_w7 := Ba_w6.trans (hb_w7.mono Ba_w6.size)
  have BTb_w7 := BTb_w6.trans (hb_w7.mono BTb_w6.size)
  have Bb_w7 : Below w7.heap.size w7 w7 := Below.refl _ _
  have ps0 := hs0.out _ Bs_w7
  have ps1 := hs1.out _ Bs_w7
  have ps2 := hs2.out _ Bs_w7
  have pt0 := ht0.out _ Bt_w7
  have pt1 := ht1.out _ Bt_w7
  have pt2 := ht2.out _ Bt_w7
  go_wp2_with fail
  refine (specSameTraces_any s t As At cs ct w7 a1 a2 b1 b2 (es.out.later BEs_w7) (et.out.later BEt_w7)).mono ?_
  clear ps0 ps1 ps2 pt0 pt1 pt2
  rintro e w8 ⟨rfl, hb_w8⟩
  have BW_w8 := BW_w7.trans (hb_w8.mono BW_w7.size)
  have BEs_w8 := BEs_w7.trans (hb_w8.mono BEs_w7.size)
  have BEt_w8 := BEt_w7.trans (hb_w8.mono BEt_w7.size)
  have Bs_w8 := Bs_w7.trans (hb_w8.mono Bs_w7.size)
  have Bt_w8 := Bt_w7.trans (hb_w8.mono Bt_w7.size)
  have BTa_w8 := BTa_w7.trans (hb_w8.mono BTa_w7.size)
  have Ba_w8 := Ba_w7.trans (hb_w8.mono Ba_w7.size)
  have BTb_w8 := BTb_w7.trans (hb_w8.mono BTb_w7.size)
  have Bb_w8 := Bb_w7.trans (hb_w8.mono Bb_w7.size)
  rw [← hD.out]
  cases hac : ka
  case false =>
    have ps0 := hs0.out _ Bs_w8
    have ps1 := hs1.out _ Bs_w8
    have ps2 := hs2.out _ Bs_w8
    have pt0 := ht0.out _ Bt_w8
    have pt1 := ht1.out _ Bt_w8
    have pt2 := ht2.out _ Bt_w8
    go_wp2_with fail
    refine (specSameTraces_any s t As At cs ct w8 a1 a2 b1 b2 (es.out.later BEs_w8) (et.out.later BEt_w8)).mono ?_
    clear ps0 ps1 ps2 pt0 pt1 pt2
    rintro e w9 ⟨rfl, hb_w9⟩
    have BW_w9 := BW_w8.trans (hb_w9.mono BW_w8.size)
    have BEs_w9 := BEs_w8.trans (hb_w9.mono BEs_w8.size)
    have BEt_w9 := BEt_w8.trans (hb_w9.mono BEt_w8.size)
    have Bs_w9 := Bs_w8.trans (hb_w9.mono Bs_w8.size)
    have Bt_w9 := Bt_w8.trans (hb_w9.mono Bt_w8.size)
    have BTa_w9 := BTa_w8.trans (hb_w9.mono BTa_w8.size)
    have Ba_w9 := Ba_w8.trans (hb_w9.mono Ba_w8.size)
    have BTb_w9 := BTb_w8.trans (hb_w9.mono BTb_w8.size)
    have Bb_w9 := Bb_w8.trans (hb_w9.mono Bb_w8.size)
    rw [← hD.out]
    go_wp2_with fail
    go_ret
    exact ⟨rfl, BW_w9⟩
  case true =>
  cases hbc : kb
  case false =>
    have ps0 := hs0.out _ Bs_w8
    have ps1 := hs1.out _ Bs_w8
    have ps2 := hs2.out _ Bs_w8
    have pt0 := ht0.out _ Bt_w8
    have pt1 := ht1.out _ Bt_w8
    have pt2 := ht2.out _ Bt_w8
    go_wp2_with fail
    refine (specSameTraces_any s t As At cs ct w8 a1 a2 b1 b2 (es.out.later BEs_w8) (et.out.later BEt_w8)).mono ?_
    clear ps0 ps1 ps2 pt0 pt1 pt2
    rintro e w10 ⟨rfl, hb_w10⟩
    have BW_w10 := BW_w8.trans (hb_w10.mono BW_w8.size)
    have BEs_w10 := BEs_w8.trans (hb_w10.mono BEs_w8.size)
    have BEt_w10 := BEt_w8.trans (hb_w10.mono BEt_w8.size)
    have Bs_w10 := Bs_w8.trans (hb_w10.mono Bs_w8.size)
    have Bt_w10 := Bt_w8.trans (hb_w10.mono Bt_w8.size)
    have BTa_w10 := BTa_w8.trans (hb_w10.mono BTa_w8.size)
    have Ba_w10 := Ba_w8.trans (hb_w10.mono Ba_w8.size)
    have BTb_w10 := BTb_w8.trans (hb_w10.mono BTb_w8.size)
    have Bb_w10 := Bb_w8.trans (hb_w10.mono Bb_w8.size)
    rw [← hD.out]
    go_wp2_with fail
    go_ret
    exact ⟨rfl, BW_w10⟩
  case true =>
  have hps : Hid (prK s s.al = true) := hid (by rw [← hak.out, hac])
  have hpt : Hid (prK t t.al = true) := hid (by rw [← hbk.out, hbc])
  have haok : Hid (true = auOk a) := hid (by rw [hae.out]; exact (auOk_prA hps.out).symm)
  have hbok : Hid (true = auOk b) := hid (by rw [hbe.out]; exact (auOk_prA hpt.out).symm)
  obtain ⟨p, hp⟩ : ∃ p, Hid (p = minX a) := ⟨_, hid rfl⟩
  obtain ⟨q, hq⟩ : ∃ q, Hid (q = minX b) := ⟨_, hid rfl⟩
  have hDD : (decide (p = q) == D) = true := by
    rw [hp.out, hq.out, minX_ok haok.out.symm, minX_ok hbok.out.symm, hae.out, hbe.out, hD.out, same_mins hps.out hpt.out]
    simp
  replace hDD := hid hDD
  obtain ⟨E, hE⟩ : ∃ E, Hid (E = decide (p = q)) := ⟨_, hid rfl⟩
  rw [← hE.out] at hDD
  have hDD' := hDD.out
  subst hac
  subst hbc
  clear hoo hoe
  have pa0 := ha0.out _ Ba_w8
  have pa1 := ha1.out _ Ba_w8
  have pa2 := ha2.out _ Ba_w8
  go_wp2_with fail
  have hc_x := hid (implMinimizeAutomaton_any a Aa Ba ca da w8 (ta.out.later BTa_w8))
  rw [← hp.out, ← haok.out] at hc_x
  refine hc_x.out.mono ?_
  clear hc_x
  clear pa0 pa1 pa2
  rintro e w11 ⟨hb_w11, v1, v2, xs, rfl, hau⟩
  obtain ⟨Ax, cx, Bx, dx, rfl, rfl, tx⟩ := hau.at_
  replace tx := hid tx
  clear hau
  have BW_w11 := BW_w8.trans (hb_w11.mono BW_w8.size)
  have BEs_w11 := BEs_w8.trans (hb_w11.mono BEs_w8.size)
  have BEt_w11 := BEt_w8.trans (hb_w11.mono BEt_w8.size)
  have Bs_w11 := Bs_w8.trans (hb_w11.mono Bs_w8.size)
  have Bt_w11 := Bt_w8.trans (hb_w11.mono Bt_w8.size)
  have BTa_w11 := BTa_w8.trans (hb_w11.mono BTa_w8.size)
  have Ba_w11 := Ba_w8.trans (hb_w11.mono Ba_w8.size)
  have BTb_w11 := BTb_w8.trans (hb_w11.mono BTb_w8.size)
  have Bb_w11 := Bb_w8.trans (hb_w11.mono Bb_w8.size)
  have BTx_w11 : Below w11.heap.size w11 w11 := Below.refl _ _
  go_upto_region 10 with fail
  obtain ⟨w12, hw_w12, hz_w12, hb_w12, hS_w12⟩ := boxed w11 #[.int .i64 p.al, .slice Ax p.nx.length cx, .slice Bx p.ac.length dx] 26
  rw [hw_w12]
  clear hw_w12
  have hx0 := fun w' (hb : Below w12.heap.size w12 w') => hS_w12 0 _ rfl w' (hb.mono hz_w12)
  have hx1 := fun w' (hb : Below w12.heap.size w12 w') => hS_w12 1 _ rfl w' (hb.mono hz_w12)
  have hx2 := fun w' (hb : Below w12.heap.size w12 w') => hS_w12 2 _ rfl w' (hb.mono hz_w12)
  replace hx0 := hid hx0
  replace hx1 := hid hx1
  replace hx2 := hid hx2
  clear hS_w12
  have BW_w12 := BW_w11.trans (hb_w12.mono BW_w11.size)
  have BEs_w12 := BEs_w11.trans (hb_w12.mono BEs_w11.size)
  have BEt_w12 := BEt_w11.trans (hb_w12.mono BEt_w11.size)
  have Bs_w12 := Bs_w11.trans (hb_w12.mono Bs_w11.size)
  have Bt_w12 := Bt_w11.trans (hb_w12.mono Bt_w11.size)
  have BTa_w12 := BTa_w11.trans (hb_w12.mono BTa_w11.size)
  have Ba_w12 := Ba_w11.trans (hb_w12.mono Ba_w11.size)
  have BTb_w12 := BTb_w11.trans (hb_w12.mono BTb_w11.size)
  have Bb_w12 := Bb_w11.trans (hb_w12.mono Bb_w11.size)
  have BTx_w12 := BTx_w11.trans (hb_w12.mono BTx_w11.size)
  have Bx_w12 : Below w12.heap.size w12 w12 := Below.refl _ _
  have pb0 := hb0.out _ Bb_w12
  have pb1 := hb1.out _ Bb_w12
  have pb2 := hb2.out _ Bb_w12
  go_wp2_with fail
  have hc_y := hid (implMinimizeAutomaton_any b Ab Bb cb db w12 (tb.out.later BTb_w12))
  rw [← hq.out, ← hbok.out] at hc_y
  refine hc_y.out.mono ?_
  clear hc_y
  clear pb0 pb1 pb2
  rintro e w13 ⟨hb_w13, v1, v2, xs, rfl, hau⟩
  obtain ⟨Ay, cy, By, dy, rfl, rfl, ty⟩ := hau.at_
  replace ty := hid ty
  clear hau
  have BW_w13 := BW_w12.trans (hb_w13.mono BW_w12.size)
  have BEs_w13 := BEs_w12.trans (hb_w13.mono BEs_w12.size)
  have BEt_w13 := BEt_w12.trans (hb_w13.mono BEt_w12.size)
  have Bs_w13 := Bs_w12.trans (hb_w13.mono Bs_w12.size)
  have Bt_w13 := Bt_w12.trans (hb_w13.mono Bt_w12.size)
  have BTa_w13 := BTa_w12.trans (hb_w13.mono BTa_w12.size)
  have Ba_w13 := Ba_w12.trans (hb_w13.mono Ba_w12.size)
  have BTb_w13 := BTb_w12.trans (hb_w13.mono BTb_w12.size)
  have Bb_w13 := Bb_w12.trans (hb_w13.mono Bb_w12.size)
  have BTx_w13 := BTx_w12.trans (hb_w13.mono BTx_w12.size)
  have Bx_w13 := Bx_w12.trans (hb_w13.mono Bx_w12.size)
  have BTy_w13 : Below w13.heap.size w13 w13 := Below.refl _ _
  go_upto_region 11 with fail
  obtain ⟨w14, hw_w14, hz_w14, hb_w14, hS_w14⟩ := boxed w13 #[.int .i64 q.al, .slice Ay q.nx.length cy, .slice By q.ac.length dy] 26
  rw [hw_w14]
  clear hw_w14
  have hy0 := fun w' (hb : Below w14.heap.size w14 w') => hS_w14 0 _ rfl w' (hb.mono hz_w14)
  have hy1 := fun w' (hb : Below w14.heap.size w14 w') => hS_w14 1 _ rfl w' (hb.mono hz_w14)
  have hy2 := fun w' (hb : Below w14.heap.size w14 w') => hS_w14 2 _ rfl w' (hb.mono hz_w14)
  replace hy0 := hid hy0
  replace hy1 := hid hy1
  replace hy2 := hid hy2
  clear hS_w14
  have BW_w14 := BW_w13.trans (hb_w14.mono BW_w13.size)
  have BEs_w14 := BEs_w13.trans (hb_w14.mono BEs_w13.size)
  have BEt_w14 := BEt_w13.trans (hb_w14.mono BEt_w13.size)
  have Bs_w14 := Bs_w13.trans (hb_w14.mono Bs_w13.size)
  have Bt_w14 := Bt_w13.trans (hb_w14.mono Bt_w13.size)
  have BTa_w14 := BTa_w13.trans (hb_w14.mono BTa_w13.size)
  have Ba_w14 := Ba_w13.trans (hb_w14.mono Ba_w13.size)
  have BTb_w14 := BTb_w13.trans (hb_w14.mono BTb_w13.size)
  have Bb_w14 := Bb_w13.trans (hb_w14.mono Bb_w13.size)
  have BTx_w14 := BTx_w13.trans (hb_w14.mono BTx_w13.size)
  have Bx_w14 := Bx_w13.trans (hb_w14.mono Bx_w13.size)
  have BTy_w14 := BTy_w13.trans (hb_w14.mono BTy_w13.size)
  have By_w14 : Below w14.heap.size w14 w14 := Below.refl _ _
  have px0 := hx0.out _ Bx_w14
  have px1 := hx1.out _ Bx_w14
  have px2 := hx2.out _ Bx_w14
  have py0 := hy0.out _ By_w14
  have py1 := hy1.out _ By_w14
  have py2 := hy2.out _ By_w14
  go_wp2_with fail
  refine (agAutomata_any p q Ax Bx Ay By cx dx cy dy w14 (tx.out.later BTx_w14) (ty.out.later BTy_w14)).mono ?_
  clear px0 px1 px2 py0 py1 py2
  rintro e w15 ⟨rfl, hb_w15⟩
  have BW_w15 := BW_w14.trans (hb_w15.mono BW_w14.size)
  have BEs_w15 := BEs_w14.trans (hb_w15.mono BEs_w14.size)
  have BEt_w15 := BEt_w14.trans (hb_w15.mono BEt_w14.size)
  have Bs_w15 := Bs_w14.trans (hb_w15.mono Bs_w14.size)
  have Bt_w15 := Bt_w14.trans (hb_w15.mono Bt_w14.size)
  have BTa_w15 := BTa_w14.trans (hb_w15.mono BTa_w14.size)
  have Ba_w15 := Ba_w14.trans (hb_w15.mono Ba_w14.size)
  have BTb_w15 := BTb_w14.trans (hb_w15.mono BTb_w14.size)
  have Bb_w15 := Bb_w14.trans (hb_w15.mono Bb_w14.size)
  have BTx_w15 := BTx_w14.trans (hb_w15.mono BTx_w14.size)
  have Bx_w15 := Bx_w14.trans (hb_w15.mono Bx_w14.size)
  have BTy_w15 := BTy_w14.trans (hb_w15.mono BTy_w14.size)
  have By_w15 := By_w14.trans (hb_w15.mono By_w14.size)
  rw [← hE.out]
  go_wp2_with fail
  go_ret
  exact ⟨by first | rfl | (rw [hDD']), BW_w15⟩

set_option maxRecDepth 100000 in
set_option maxHeartbeats 16000000 in
theorem FnSystemRound_any (A : Option Addr) (n c : Nat) (w : World) (hn : n ≤ c) (hc : c ≤ 9223372036854775807) (hT : Tab w) (hx : CodeAt w A n) :
    Calls Tryd.prog 6 #[.slice A n c] w fun e w' => e = .returned (.bool true) ∧ Below w.heap.size w w' := by
  replace hT := hid hT
  replace hx := hid hx
  by_cases hlen : 1048576 < n
  · have hgt : (1048576 : Int) < (n : Int) := by omega
    go_enter Tryd.func6, Tryd.ntmps6
    go_wp2
    go_ret
    exact ⟨rfl, Below.refl _ _⟩
  have hgt : ¬ ((1048576 : Int) < (n : Int)) := by omega
  go_enter Tryd.func6, Tryd.ntmps6
  go_wp2_with fail
  have BW_w : Below w.heap.size w w := Below.refl _ _
  refine (drawDeterminize_any A n c w hn hc hx.out).mono ?_
  rintro e w1 ⟨s, As, cs, rfl, a1, a2, a3, a4, -, hb_w1⟩
  unfold Sy.val
  have BW_w1 := BW_w.trans (hb_w1.mono BW_w.size)
  have es := hid a4
  have BEs_w1 : Below w1.heap.size w1 w1 := Below.refl _ _
  clear a4
  obtain ⟨a, ha⟩ : ∃ a, Hid (a = prA s s.al) := ⟨_, hid rfl⟩
  obtain ⟨ok, hok⟩ : ∃ ok, Hid (ok = prK s s.al) := ⟨_, hid rfl⟩
  go_upto_region 4 with fail
  obtain ⟨w2, hw_w2, hz_w2, hb_w2, hS_w2⟩ := boxed w1 #[.int .i64 s.al, .int .i64 s.st, .slice As s.es.length cs] 30
  rw [hw_w2]
  clear hw_w2
  have hs0 := fun w' (hb : Below w2.heap.size w2 w') => hS_w2 0 _ rfl w' (hb.mono hz_w2)
  have hs1 := fun w' (hb : Below w2.heap.size w2 w') => hS_w2 1 _ rfl w' (hb.mono hz_w2)
  have hs2 := fun w' (hb : Below w2.heap.size w2 w') => hS_w2 2 _ rfl w' (hb.mono hz_w2)
  replace hs0 := hid hs0
  replace hs1 := hid hs1
  replace hs2 := hid hs2
  clear hS_w2
  have BW_w2 := BW_w1.trans (hb_w2.mono BW_w1.size)
  have BEs_w2 := BEs_w1.trans (hb_w2.mono BEs_w1.size)
  have Bs_w2 : Below w2.heap.size w2 w2 := Below.refl _ _
  have ps0 := hs0.out _ Bs_w2
  have ps1 := hs1.out _ Bs_w2
  have ps2 := hs2.out _ Bs_w2
  go_wp2_with fail
  have hc_a := hid (implDeterminize_any s As cs w2 a1 a2 (hT.out.later BW_w2) (es.out.later BEs_w2))
  rw [← ha.out, ← hok.out] at hc_a
  refine hc_a.out.mono ?_
  clear hc_a
  clear ps0 ps1 ps2
  rintro e w3 ⟨hb_w3, v1, v2, xs, rfl, hau⟩
  obtain ⟨Aa, ca, Ba, da, rfl, rfl, ta⟩ := hau.at_
  replace ta := hid ta
  clear hau
  have BW_w3 := BW_w2.trans (hb_w3.mono BW_w2.size)
  have BEs_w3 := BEs_w2.trans (hb_w3.mono BEs_w2.size)
  have Bs_w3 := Bs_w2.trans (hb_w3.mono Bs_w2.size)
  have BTa_w3 : Below w3.heap.size w3 w3 := Below.refl _ _
  go_upto_region 5 with fail
  obtain ⟨w4, hw_w4, hz_w4, hb_w4, hS_w4⟩ := boxed w3 #[.int .i64 a.al, .slice Aa a.nx.length ca, .slice Ba a.ac.length da] 26
  rw [hw_w4]
  clear hw_w4
  have ha0 := fun w' (hb : Below w4.heap.size w4 w') => hS_w4 0 _ rfl w' (hb.mono hz_w4)
  have ha1 := fun w' (hb : Below w4.heap.size w4 w') => hS_w4 1 _ rfl w' (hb.mono hz_w4)
  have ha2 := fun w' (hb : Below w4.heap.size w4 w') => hS_w4 2 _ rfl w' (hb.mono hz_w4)
  replace ha0 := hid ha0
  replace ha1 := hid ha1
  replace ha2 := hid ha2
  clear hS_w4
  have BW_w4 := BW_w3.trans (hb_w4.mono BW_w3.size)
  have BEs_w4 := BEs_w3.trans (hb_w4.mono BEs_w3.size)
  have Bs_w4 := Bs_w3.trans (hb_w4.mono Bs_w3.size)
  have BTa_w4 := BTa_w3.trans (hb_w4.mono BTa_w3.size)
  have Ba_w4 : Below w4.heap.size w4 w4 := Below.refl _ _
  have ps0 := hs0.out _ Bs_w4
  have ps1 := hs1.out _ Bs_w4
  have ps2 := hs2.out _ Bs_w4
  go_wp2_with fail
  have hc_x := hid (specDeterminize_any s As cs w4 a1 a2 (es.out.later BEs_w4))
  rw [← ha.out, ← hok.out] at hc_x
  refine hc_x.out.mono ?_
  clear hc_x
  clear ps0 ps1 ps2
  rintro e w5 ⟨hb_w5, v1, v2, xs, rfl, hau⟩
  obtain ⟨Ax, cx, Bx, dx, rfl, rfl, tx⟩ := hau.at_
  replace tx := hid tx
  clear hau
  have BW_w5 := BW_w4.trans (hb_w5.mono BW_w4.size)
  have BEs_w5 := BEs_w4.trans (hb_w5.mono BEs_w4.size)
  have Bs_w5 := Bs_w4.trans (hb_w5.mono Bs_w4.size)
  have BTa_w5 := BTa_w4.trans (hb_w5.mono BTa_w4.size)
  have Ba_w5 := Ba_w4.trans (hb_w5.mono Ba_w4.size)
  have BTx_w5 : Below w5.heap.size w5 w5 := Below.refl _ _
  go_upto_region 6 with fail
  obtain ⟨w6, hw_w6, hz_w6, hb_w6, hS_w6⟩ := boxed w5 #[.int .i64 a.al, .slice Ax a.nx.length cx, .slice Bx a.ac.length dx] 26
  rw [hw_w6]
  clear hw_w6
  have hx0 := fun w' (hb : Below w6.heap.size w6 w') => hS_w6 0 _ rfl w' (hb.mono hz_w6)
  have hx1 := fun w' (hb : Below w6.heap.size w6 w') => hS_w6 1 _ rfl w' (hb.mono hz_w6)
  have hx2 := fun w' (hb : Below w6.heap.size w6 w') => hS_w6 2 _ rfl w' (hb.mono hz_w6)
  replace hx0 := hid hx0
  replace hx1 := hid hx1
  replace hx2 := hid hx2
  clear hS_w6
  have BW_w6 := BW_w5.trans (hb_w6.mono BW_w5.size)
  have BEs_w6 := BEs_w5.trans (hb_w6.mono BEs_w5.size)
  have Bs_w6 := Bs_w5.trans (hb_w6.mono Bs_w5.size)
  have BTa_w6 := BTa_w5.trans (hb_w6.mono BTa_w5.size)
  have Ba_w6 := Ba_w5.trans (hb_w6.mono Ba_w5.size)
  have BTx_w6 := BTx_w5.trans (hb_w6.mono BTx_w5.size)
  have Bx_w6 : Below w6.heap.size w6 w6 := Below.refl _ _
  have pa0 := ha0.out _ Ba_w6
  have pa1 := ha1.out _ Ba_w6
  have pa2 := ha2.out _ Ba_w6
  have px0 := hx0.out _ Bx_w6
  have px1 := hx1.out _ Bx_w6
  have px2 := hx2.out _ Bx_w6
  go_wp2_with fail
  refine (agAutomata_any a a Aa Ba Ax Bx ca da cx dx w6 (ta.out.later BTa_w6) (tx.out.later BTx_w6)).mono ?_
  clear pa0 pa1 pa2 px0 px1 px2
  rintro e w7 ⟨rfl, hb_w7⟩
  have BW_w7 := BW_w6.trans (hb_w7.mono BW_w6.size)
  have BEs_w7 := BEs_w6.trans (hb_w7.mono BEs_w6.size)
  have Bs_w7 := Bs_w6.trans (hb_w7.mono Bs_w6.size)
  have BTa_w7 := BTa_w6.trans (hb_w7.mono BTa_w6.size)
  have Ba_w7 := Ba_w6.trans (hb_w7.mono Ba_w6.size)
  have BTx_w7 := BTx_w6.trans (hb_w7.mono BTx_w6.size)
  have Bx_w7 := Bx_w6.trans (hb_w7.mono Bx_w6.size)
  rw [decide_eq_true rfl]
  cases hokc : ok
  case false =>
    rw [hokc] at hok
    have pa0 := ha0.out _ Ba_w7
    have pa1 := ha1.out _ Ba_w7
    have pa2 := ha2.out _ Ba_w7
    have px0 := hx0.out _ Bx_w7
    have px1 := hx1.out _ Bx_w7
    have px2 := hx2.out _ Bx_w7
    go_wp2_with fail
    refine (agAutomata_any a a Aa Ba Ax Bx ca da cx dx w7 (ta.out.later BTa_w7) (tx.out.later BTx_w7)).mono ?_
    clear pa0 pa1 pa2 px0 px1 px2
    rintro e w8 ⟨rfl, hb_w8⟩
    have BW_w8 := BW_w7.trans (hb_w8.mono BW_w7.size)
    have BEs_w8 := BEs_w7.trans (hb_w8.mono BEs_w7.size)
    have Bs_w8 := Bs_w7.trans (hb_w8.mono Bs_w7.size)
    have BTa_w8 := BTa_w7.trans (hb_w8.mono BTa_w7.size)
    have Ba_w8 := Ba_w7.trans (hb_w8.mono Ba_w7.size)
    have BTx_w8 := BTx_w7.trans (hb_w8.mono BTx_w7.size)
    have Bx_w8 := Bx_w7.trans (hb_w8.mono Bx_w7.size)
    rw [decide_eq_true rfl]
    go_wp2_with fail
    go_ret
    exact ⟨rfl, BW_w8⟩
  case true =>
  have hpk : Hid (prK s s.al = true) := hid (by rw [← hok.out, hokc])
  have haok : Hid (true = auOk a) := hid (by rw [ha.out]; exact (auOk_prA hpk.out).symm)
  obtain ⟨m, hm⟩ : ∃ m, Hid (m = minX a) := ⟨_, hid rfl⟩
  have hme : Hid (m = minA (prA s s.al)) := hid (by rw [hm.out, minX_ok haok.out.symm, ha.out])
  obtain ⟨S, hS1⟩ : ∃ S, Hid (S = soS m) := ⟨_, hid rfl⟩
  have hso : Hid (true = soOk m) := hid (by rw [hme.out]; exact (round_ok hpk.out).symm)
  have hsame : Hid (sameB s S = true) := hid (by rw [hS1.out, hme.out]; exact round_same hpk.out)
  have hdet : Hid (detB S = true) := hid (by rw [hS1.out]; exact det_so hso.out.symm)
  subst hokc
  have pa0 := ha0.out _ Ba_w7
  have pa1 := ha1.out _ Ba_w7
  have pa2 := ha2.out _ Ba_w7
  go_wp2_with fail
  have hc_m := hid (implMinimizeAutomaton_any a Aa Ba ca da w7 (ta.out.later BTa_w7))
  rw [← hm.out, ← haok.out] at hc_m
  refine hc_m.out.mono ?_
  clear hc_m
  clear pa0 pa1 pa2
  rintro e w9 ⟨hb_w9, v1, v2, xs, rfl, hau⟩
  obtain ⟨Am, cm, Bm, dm, rfl, rfl, tm⟩ := hau.at_
  replace tm := hid tm
  clear hau
  have BW_w9 := BW_w7.trans (hb_w9.mono BW_w7.size)
  have BEs_w9 := BEs_w7.trans (hb_w9.mono BEs_w7.size)
  have Bs_w9 := Bs_w7.trans (hb_w9.mono Bs_w7.size)
  have BTa_w9 := BTa_w7.trans (hb_w9.mono BTa_w7.size)
  have Ba_w9 := Ba_w7.trans (hb_w9.mono Ba_w7.size)
  have BTx_w9 := BTx_w7.trans (hb_w9.mono BTx_w7.size)
  have Bx_w9 := Bx_w7.trans (hb_w9.mono Bx_w7.size)
  have BTm_w9 : Below w9.heap.size w9 w9 := Below.refl _ _
  go_upto_region 9 with fail
  obtain ⟨w10, hw_w10, hz_w10, hb_w10, hS_w10⟩ := boxed w9 #[.int .i64 m.al, .slice Am m.nx.length cm, .slice Bm m.ac.length dm] 26
  rw [hw_w10]
  clear hw_w10
  have hm0 := fun w' (hb : Below w10.heap.size w10 w') => hS_w10 0 _ rfl w' (hb.mono hz_w10)
  have hm1 := fun w' (hb : Below w10.heap.size w10 w') => hS_w10 1 _ rfl w' (hb.mono hz_w10)
  have hm2 := fun w' (hb : Below w10.heap.size w10 w') => hS_w10 2 _ rfl w' (hb.mono hz_w10)
  replace hm0 := hid hm0
  replace hm1 := hid hm1
  replace hm2 := hid hm2
  clear hS_w10
  have BW_w10 := BW_w9.trans (hb_w10.mono BW_w9.size)
  have BEs_w10 := BEs_w9.trans (hb_w10.mono BEs_w9.size)
  have Bs_w10 := Bs_w9.trans (hb_w10.mono Bs_w9.size)
  have BTa_w10 := BTa_w9.trans (hb_w10.mono BTa_w9.size)
  have Ba_w10 := Ba_w9.trans (hb_w10.mono Ba_w9.size)
  have BTx_w10 := BTx_w9.trans (hb_w10.mono BTx_w9.size)
  have Bx_w10 := Bx_w9.trans (hb_w10.mono Bx_w9.size)
  have BTm_w10 := BTm_w9.trans (hb_w10.mono BTm_w9.size)
  have Bm_w10 : Below w10.heap.size w10 w10 := Below.refl _ _
  have pm0 := hm0.out _ Bm_w10
  have pm1 := hm1.out _ Bm_w10
  have pm2 := hm2.out _ Bm_w10
  go_wp2_with fail
  have hc_t := hid (implSystemOf_any m Am Bm cm dm w10 (hT.out.later BW_w10) (tm.out.later BTm_w10))
  rw [← hS1.out, ← hso.out] at hc_t
  refine hc_t.out.mono ?_
  clear hc_t
  clear pm0 pm1 pm2
  rintro e w11 hpost
  replace hpost := SoOwn.read hpost
  obtain ⟨At, ct, rfl, lt1, lt2, et3, -, hb_w11⟩ := hpost
  unfold Sy.val
  have BW_w11 := BW_w10.trans (hb_w11.mono BW_w10.size)
  have BEs_w11 := BEs_w10.trans (hb_w11.mono BEs_w10.size)
  have Bs_w11 := Bs_w10.trans (hb_w11.mono Bs_w10.size)
  have BTa_w11 := BTa_w10.trans (hb_w11.mono BTa_w10.size)
  have Ba_w11 := Ba_w10.trans (hb_w11.mono Ba_w10.size)
  have BTx_w11 := BTx_w10.trans (hb_w11.mono BTx_w10.size)
  have Bx_w11 := Bx_w10.trans (hb_w11.mono Bx_w10.size)
  have BTm_w11 := BTm_w10.trans (hb_w11.mono BTm_w10.size)
  have Bm_w11 := Bm_w10.trans (hb_w11.mono Bm_w10.size)
  have et := hid et3
  have BEt_w11 : Below w11.heap.size w11 w11 := Below.refl _ _
  clear et3
  go_upto_region 10 with fail
  obtain ⟨w12, hw_w12, hz_w12, hb_w12, hS_w12⟩ := boxed w11 #[.int .i64 S.al, .int .i64 S.st, .slice At S.es.length ct] 30
  rw [hw_w12]
  clear hw_w12
  have ht0 := fun w' (hb : Below w12.heap.size w12 w') => hS_w12 0 _ rfl w' (hb.mono hz_w12)
  have ht1 := fun w' (hb : Below w12.heap.size w12 w') => hS_w12 1 _ rfl w' (hb.mono hz_w12)
  have ht2 := fun w' (hb : Below w12.heap.size w12 w') => hS_w12 2 _ rfl w' (hb.mono hz_w12)
  replace ht0 := hid ht0
  replace ht1 := hid ht1
  replace ht2 := hid ht2
  clear hS_w12
  have BW_w12 := BW_w11.trans (hb_w12.mono BW_w11.size)
  have BEs_w12 := BEs_w11.trans (hb_w12.mono BEs_w11.size)
  have Bs_w12 := Bs_w11.trans (hb_w12.mono Bs_w11.size)
  have BTa_w12 := BTa_w11.trans (hb_w12.mono BTa_w11.size)
  have Ba_w12 := Ba_w11.trans (hb_w12.mono Ba_w11.size)
  have BTx_w12 := BTx_w11.trans (hb_w12.mono BTx_w11.size)
  have Bx_w12 := Bx_w11.trans (hb_w12.mono Bx_w11.size)
  have BTm_w12 := BTm_w11.trans (hb_w12.mono BTm_w11.size)
  have Bm_w12 := Bm_w11.trans (hb_w12.mono Bm_w11.size)
  have BEt_w12 := BEt_w11.trans (hb_w12.mono BEt_w11.size)
  have Bt_w12 : Below w12.heap.size w12 w12 := Below.refl _ _
  have ps0 := hs0.out _ Bs_w12
  have ps1 := hs1.out _ Bs_w12
  have ps2 := hs2.out _ Bs_w12
  have pt0 := ht0.out _ Bt_w12
  have pt1 := ht1.out _ Bt_w12
  have pt2 := ht2.out _ Bt_w12
  go_wp2_with fail
  refine (implSameTraces_any s S As At cs ct w12 a1 a2 lt1 lt2 (hT.out.later BW_w12) (es.out.later BEs_w12) (et.out.later BEt_w12)).mono ?_
  clear ps0 ps1 ps2 pt0 pt1 pt2
  rintro e w13 ⟨rfl, hb_w13⟩
  have BW_w13 := BW_w12.trans (hb_w13.mono BW_w12.size)
  have BEs_w13 := BEs_w12.trans (hb_w13.mono BEs_w12.size)
  have Bs_w13 := Bs_w12.trans (hb_w13.mono Bs_w12.size)
  have BTa_w13 := BTa_w12.trans (hb_w13.mono BTa_w12.size)
  have Ba_w13 := Ba_w12.trans (hb_w13.mono Ba_w12.size)
  have BTx_w13 := BTx_w12.trans (hb_w13.mono BTx_w12.size)
  have Bx_w13 := Bx_w12.trans (hb_w13.mono Bx_w12.size)
  have BTm_w13 := BTm_w12.trans (hb_w13.mono BTm_w12.size)
  have Bm_w13 := Bm_w12.trans (hb_w13.mono Bm_w12.size)
  have BEt_w13 := BEt_w12.trans (hb_w13.mono BEt_w12.size)
  have Bt_w13 := Bt_w12.trans (hb_w13.mono Bt_w12.size)
  rw [hsame.out]
  have pt0 := ht0.out _ Bt_w13
  have pt1 := ht1.out _ Bt_w13
  have pt2 := ht2.out _ Bt_w13
  go_wp2_with fail
  refine (implIsDeterministic_any S At ct w13 lt1 lt2 (hT.out.later BW_w13) (et.out.later BEt_w13)).mono ?_
  clear pt0 pt1 pt2
  rintro e w14 ⟨rfl, hb_w14⟩
  have BW_w14 := BW_w13.trans (hb_w14.mono BW_w13.size)
  have BEs_w14 := BEs_w13.trans (hb_w14.mono BEs_w13.size)
  have Bs_w14 := Bs_w13.trans (hb_w14.mono Bs_w13.size)
  have BTa_w14 := BTa_w13.trans (hb_w14.mono BTa_w13.size)
  have Ba_w14 := Ba_w13.trans (hb_w14.mono Ba_w13.size)
  have BTx_w14 := BTx_w13.trans (hb_w14.mono BTx_w13.size)
  have Bx_w14 := Bx_w13.trans (hb_w14.mono Bx_w13.size)
  have BTm_w14 := BTm_w13.trans (hb_w14.mono BTm_w13.size)
  have Bm_w14 := Bm_w13.trans (hb_w14.mono Bm_w13.size)
  have BEt_w14 := BEt_w13.trans (hb_w14.mono BEt_w13.size)
  have Bt_w14 := Bt_w13.trans (hb_w14.mono Bt_w13.size)
  rw [hdet.out]
  go_wp2_with fail
  go_ret
  exact ⟨rfl, BW_w14⟩

end Go.Proofs.YtkoganldcmhopaaDoor

/- How a slice of edges, a system, a slice of systems read as data: opened to cells. -/
namespace AG
open Go Go.RowKit Go.ChangeShapes Go.WideShapes Go.Deep

section
variable {H : Type} {enc : TypeId × Value → H} {P : Program} {w : World} {base : Nat} {spare : Nat → Bool} {held : Bool}
theorem add_at (b o n : Nat) : (⟨b, o, none⟩ : Addr).add n = ⟨b, o + n, none⟩ := by
  unfold Addr.add
  split
  · subst_vars; rfl
  · rfl

end

section
variable {H : Type} {enc : TypeId × Value → H} {P : Program}
/-- An argument reads behind the call as it did. -/
theorem trod_later {t : TypeId} (hl : laidOutB P = true) (hr : P.readableRec t = true) (hrow : t < P.types.size) {W W' : World} {v : Value} {d : DataW H} {ps : List MemPlace} {sp : Nat → Bool}
    (h : DataW.Trod enc P W 0 (fun _ => true) true t v d ps) (hb : Below W.heap.size W W') (hlt : ∀ x ∈ ps, x.block < W.heap.size) (hsp : ∀ x ∈ ps, sp x.block = true) : DataW.Trod enc P W' 0 sp true t v d ps :=
  WideElems.Trod_stays hl hr hrow h (fun x hx => hb.same (hlt x hx)) hsp
/-- The row's last step where of the world behind the call 'Below' is known. -/
theorem post_of_below {f : Func} {s : ChangeSpec} {apart fresh handsOn again : Bool} {W W' : World} {args : Array Value} {v : Value} {ds gs : List (DataW H)} {before pa pv : List MemPlace}
    (hW : DataW.Whole enc P f.params.toList s.vars apart W args.toList ds gs before)
    (hres : ∀ (b : Nat) (sp : Nat → Bool) (hd : Bool), DataW.TrodAll enc P W' b sp hd f.resultTypes.toList (v.resultList f.resultTypes.size) (s.fn H (ds ++ gs)).results [])
    (hargs : ∀ sp : Nat → Bool, (∀ p ∈ before, sp p.block = true) → DataW.TrodAll enc P W' 0 sp true f.params.toList args.toList (s.fn H (ds ++ gs)).args pa)
    (hvars : ∀ sp : Nat → Bool, (∀ p ∈ before, sp p.block = true) → DataW.TrodVars enc P W' sp s.vars (s.fn H (ds ++ gs)).vars pv)
    (hps : before = pa ++ pv) (hb : Below W.heap.size W W')
    (hok : ∀ (j : Nat) (t : TypeId) (r : Value), f.resultTypes[j]? = some t → (v.resultList f.resultTypes.size)[j]? = some r → Value.okWide P W' .any 0 t r) :
    s.post enc P f apart fresh handsOn again W args v W' := by
  have hlt : ∀ p ∈ before, p.block < W.heap.size := fun p hp => hW.lt p hp
  have hold : ∀ p ∈ before, (fun b => decide (b < W.heap.size)) p.block = true := fun p hp => by simpa using hlt p hp
  refine ⟨ds, gs, before, [], pa, pv, hW, hres _ _ _, hargs _ hold, hvars _ hold, World.keptBut_mono (fun p hp => ⟨hp, ?_⟩) (hb.frame (· ∈ before)), fun _ => ?_⟩
  · rw [hps, List.mem_append] at hp
    exact Or.inr hp
  · obtain ⟨_, _, _, _, _, hz, hn⟩ := hW
    refine ⟨hok, _, _, ([] ++ pa) ++ pv, ⟨[] ++ pa, pv, trodAll_append (hargs _ (fun _ _ => rfl)) (hres _ _ _), hvars _ (fun _ _ => rfl), rfl, ?_, ?_⟩, ?_⟩
    · intro b off hp
      have hin : MemPlace.cell b off ∈ before := by rw [hps]; simpa using hp
      rw [hb.frozen (hlt _ hin)]
      exact hz b off hin
    · intro ha
      have := hn ha
      rw [hps] at this
      simpa using this
    · intro p hp _
      rw [hps]
      simpa using hp
end
end AG

/- A slice of bytes that came in. -/
namespace Go.Proofs.YtkoganldcmhopaaDoor
open Go.RowKit Go.ChangeShapes Go.WideShapes AG

theorem cells_u8 : Tryd.prog.cellsOf 5 = 1 := by kernel_rfl

theorem open_code {H : Type} {enc : TypeId × Value → H} {W : World} {A : Option Addr} {n c fuel : Nat} {x : DataW H × List MemPlace} (h : DataW.trod enc Tryd.prog W 0 (fun _ => true) true fuel 22 [.slice A n c] = some x) :
    n ≤ c ∧ c ≤ 9223372036854775807 ∧ CodeAt W A n := by
  rcases open_ints Tryd.underlying22 Tryd.underlying5 cells_u8 h with ⟨hcs, _⟩ | ⟨a, len, cap, zs, hcs, _, hl, hm, hz, _, hcell, hwf⟩
  · simp only [List.cons.injEq, Value.slice.injEq, and_true] at hcs
    obtain ⟨rfl, rfl, rfl⟩ := hcs
    exact ⟨Nat.le_refl _, by omega, fun h => by omega⟩
  · simp only [List.cons.injEq, Value.slice.injEq, and_true] at hcs
    obtain ⟨rfl, rfl, rfl⟩ := hcs
    unfold maxLen at hm
    simp only [if_true] at hz
    refine ⟨hl, by omega, fun hn => ?_⟩
    obtain ⟨b, o, sp⟩ := a
    have hsp : sp = none := by simpa [Addr.add] using World.cell?_spot (hcell 0 (by omega))
    subst hsp
    refine ⟨b, o, rfl, World.block_lt_of_cell? _ _ (by simpa [Addr.add] using hcell 0 (by omega)), fun i hi => ?_⟩
    have h1 := hcell i (by omega)
    rw [add_at] at h1
    have hmem : zs.getD i 0 ∈ zs := by
      have : i < zs.length := by omega
      rw [List.getD_eq_getElem?_getD, List.getElem?_eq_getElem this]
      exact List.getElem_mem _
    have h2 := hwf _ hmem
    have h3 : 0 ≤ zs.getD i 0 ∧ zs.getD i 0 < 256 := by
      have h4 : IntKind.u8.min ≤ zs.getD i 0 ∧ zs.getD i 0 ≤ IntKind.u8.max := by simpa [Lit.wf] using h2
      have e1 : IntKind.u8.min = 0 := by decide
      have e2 : IntKind.u8.max = 255 := by decide
      omega
    obtain ⟨y, hy⟩ := Int.eq_ofNat_of_zero_le h3.1
    rw [hy] at h1
    exact ⟨y, by omega, h1⟩

end Go.Proofs.YtkoganldcmhopaaDoor

/- Closed facts on the whole program, each a lemma of its own: the rows of all laws of the seat use them. -/
namespace Go.Proofs.YtkoganldcmhopaaDoor
open Go.ChangeShapes Go.WideShapes Go.ChangeAt Go.RowKit AG
theorem and2 {a b : Bool} (h : a = true) (k : b = true) : (a && b) = true := by rw [h, k]; rfl
theorem whLaid : laidOutB Tryd.prog = true := by kernel_rfl
theorem whRowed : mapsRowed Tryd.prog = true := by kernel_rfl
theorem whHeard : Tryd.prog.stopsHeard = true := by kernel_rfl
theorem whMay : Tryd.prog.mayEnter = true := by kernel_rfl
theorem whLift : Tryd.prog.liftsFinal = false := by kernel_rfl
theorem whMake : (Tryd.prog.make == some Rows.fnMinimizeRow.make) = true := by kernel_rfl
theorem whMain : Tryd.prog.mainIs = some (Rows.fnMinimizeCard.stood.harness.1, Rows.fnMinimizeCard.stood.harness.2.toList) := by kernel_rfl
theorem whLooks : false = Tryd.prog.looks [] := by kernel_rfl
end Go.Proofs.YtkoganldcmhopaaDoor
