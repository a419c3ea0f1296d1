/- Both versions of TracesWithin and SameTraces. -/
import Derived.Test.YtnchoiljcdicdaaDoorW25
import Derived.Test.YtnchoiljcdicdaaDoorW19
namespace Go.Proofs.YtnchoiljcdicdaaDoor
open Go.RowKit Go.BigFrame AG

theorem specFTO_any (s t : Sy) (A B : Option Addr) (c d : Nat) (w : World) (hl : s.es.length ≤ c) (hc : c ≤ 9223372036854775807) (hm : t.es.length ≤ d) (hd : d ≤ 9223372036854775807) (hr : EdsAt w w.heap.size A s.es) (hs : EdsAt w w.heap.size B t.es) :
    Calls Tryd.prog 12 #[s.val A c, t.val B d] w fun e w' => ∃ o, e = .returned (pathV o) ∧ IsOut s t o ∧ Below w.heap.size w w' :=
  (specFirstTraceOutside_any s t A B c d w hl hc hm hd hr hs).mono fun e w' ⟨o, he, hf, hb⟩ => ⟨o, he, by
    unfold IsFirst at hf
    by_cases hC : cmpOk s t = true
    · rw [if_pos hC] at hf
      have hsy : sysOk s = true ∧ sysOk t = true := by
        have := hC
        unfold cmpOk at this
        simp only [Bool.and_eq_true] at this
        exact ⟨this.1, this.2.1⟩
      exact out_of_first (spec_hits (s := s) (t := t)) hC hf
    · rw [if_neg hC] at hf
      unfold IsOut
      rw [if_neg hC]
      exact hf, hb⟩

/-- Every trace of s is one of t. -/
noncomputable def withinB (s t : Sy) : Bool := open Classical in cmpOk s t && decide (∀ q, ¬ AG.Outside s t q)
theorem within_of {s t : Sy} {o : Option (List Nat)} (h : IsOut s t o) : (cmpOk s t && !o.isSome) = withinB s t := by
  unfold IsOut at h
  unfold withinB
  cases hC : cmpOk s t
  · rfl
  · rw [if_pos hC] at h
    cases o with
    | none => simpa using h
    | some r => simp; exact ⟨r, h.1⟩
noncomputable def sameB (s t : Sy) : Bool := withinB s t && withinB t s

set_option maxHeartbeats 1000000 in
theorem specTracesWithin_any (s t : Sy) (A B : Option Addr) (c d : Nat) (w : World) (hl : s.es.length ≤ c) (hc : c ≤ 9223372036854775807) (hm : t.es.length ≤ d) (hd : d ≤ 9223372036854775807) (hr : EdsAt w w.heap.size A s.es) (hs : EdsAt w w.heap.size B t.es) :
    Calls Tryd.prog 14 #[s.val A c, t.val B d] w fun e w' => e = .returned (.bool (withinB s t)) ∧ Below w.heap.size w w' := by
  unfold Sy.val
  replace hr := hid hr
  replace hs := hid hs
  go_enter Tryd.func14, Tryd.ntmps14
  go_wp2_with fail
  obtain ⟨w0, hw0, hz0, hB0, hS, hU⟩ := boxed2 w #[Value.int IntKind.i64 s.al, Value.int IntKind.i64 s.st, Value.slice A s.es.length c] 29 #[Value.int IntKind.i64 t.al, Value.int IntKind.i64 t.st, Value.slice B t.es.length d] 29
  rw [hw0]
  clear hw0
  have p0 := hS 0 _ rfl _ (Below.refl _ _)
  have p1 := hS 1 _ rfl _ (Below.refl _ _)
  have p2 := hS 2 _ rfl _ (Below.refl _ _)
  have q0 := hU 0 _ rfl _ (Below.refl _ _)
  have q1 := hU 1 _ rfl _ (Below.refl _ _)
  have q2 := hU 2 _ rfl _ (Below.refl _ _)
  have hr0 := hid (hr.out.later hB0)
  have hs0 := hid (hs.out.later hB0)
  go_wp2_with fail
  refine (specFTO_any s t A B c d w0 hl hc hm hd hr0.out hs0.out).mono ?_
  rintro e w1 ⟨o, rfl, ho, hb1⟩
  have b1 := hb1.mono hz0
  clear p0 p1 p2 q0 q1 q2
  have p0 := hS 0 _ rfl _ b1
  have p1 := hS 1 _ rfl _ b1
  have p2 := hS 2 _ rfl _ b1
  have q0 := hU 0 _ rfl _ b1
  have q1 := hU 1 _ rfl _ b1
  have q2 := hU 2 _ rfl _ b1
  have B1 : Below w.heap.size w w1 := hB0.trans (b1.mono (by omega))
  have hr1 := hid (hr.out.later B1)
  have hs1 := hid (hs.out.later B1)
  have hwi := within_of ho
  obtain ⟨Sv, Fv, hpv, hfv⟩ : ∃ Sv Fv, pathV o = .tuple #[.string Sv, .bool Fv] ∧ Fv = o.isSome := ⟨_, _, rfl, rfl⟩
  rw [hpv]
  rw [← hfv] at hwi
  replace hwi := hid hwi
  clear ho hpv hfv
  have z1 := hb1.size
  go_wp2_with fail
  refine (l6Comparable_any s t A B c d w1 hl hc hm hd hr1.out hs1.out).mono ?_
  rintro e w2 ⟨rfl, hb2⟩
  have B2 : Below w.heap.size w w2 := B1.trans (hb2.mono (by omega))
  cases hC : cmpOk s t
  · replace hC := hid hC
    go_wp2_with fail
    go_ret
    exact ⟨ret_bool (by rw [← hwi.out, hC.out]; rfl), B2⟩
  · replace hC := hid hC
    go_wp2_with fail
    go_ret
    exact ⟨ret_bool (by rw [← hwi.out, hC.out]; rfl), B2⟩

set_option maxHeartbeats 1000000 in
theorem specSameTraces_any (s t : Sy) (A B : Option Addr) (c d : Nat) (w : World) (hl : s.es.length ≤ c) (hc : c ≤ 9223372036854775807) (hm : t.es.length ≤ d) (hd : d ≤ 9223372036854775807) (hr : EdsAt w w.heap.size A s.es) (hs : EdsAt w w.heap.size B t.es) :
    Calls Tryd.prog 16 #[s.val A c, t.val B d] w fun e w' => e = .returned (.bool (sameB s t)) ∧ Below w.heap.size w w' := by
  unfold Sy.val
  replace hr := hid hr
  replace hs := hid hs
  have hval : Hid (sameB s t = (withinB s t && withinB t s)) := hid rfl
  go_enter Tryd.func16, Tryd.ntmps16
  go_wp2_with fail
  obtain ⟨w0, hw0, hz0, hB0, hS, hU⟩ := boxed2 w #[Value.int IntKind.i64 s.al, Value.int IntKind.i64 s.st, Value.slice A s.es.length c] 29 #[Value.int IntKind.i64 t.al, Value.int IntKind.i64 t.st, Value.slice B t.es.length d] 29
  rw [hw0]
  clear hw0
  have p0 := hS 0 _ rfl _ (Below.refl _ _)
  have p1 := hS 1 _ rfl _ (Below.refl _ _)
  have p2 := hS 2 _ rfl _ (Below.refl _ _)
  have q0 := hU 0 _ rfl _ (Below.refl _ _)
  have q1 := hU 1 _ rfl _ (Below.refl _ _)
  have q2 := hU 2 _ rfl _ (Below.refl _ _)
  have hr0 := hid (hr.out.later hB0)
  have hs0 := hid (hs.out.later hB0)
  go_wp2_with fail
  refine (specTracesWithin_any s t A B c d w0 hl hc hm hd hr0.out hs0.out).mono ?_
  rintro e w1 ⟨rfl, hb1⟩
  have b1 := hb1.mono hz0
  clear p0 p1 p2 q0 q1 q2
  have B1 : Below w.heap.size w w1 := hB0.trans (b1.mono (by omega))
  have z1 := hb1.size
  cases hW : withinB s t
  · replace hW := hid hW
    go_wp2_with fail
    go_ret
    exact ⟨ret_bool (by rw [hval.out, hW.out]; rfl), B1⟩
  · replace hW := hid hW
    have p0 := hS 0 _ rfl _ b1
    have p1 := hS 1 _ rfl _ b1
    have p2 := hS 2 _ rfl _ b1
    have q0 := hU 0 _ rfl _ b1
    have q1 := hU 1 _ rfl _ b1
    have q2 := hU 2 _ rfl _ b1
    have hr1 := hid (hr.out.later B1)
    have hs1 := hid (hs.out.later B1)
    go_wp2_with fail
    refine (specTracesWithin_any t s B A d c w1 hm hd hl hc hs1.out hr1.out).mono ?_
    rintro e w2 ⟨rfl, hb2⟩
    have B2 : Below w.heap.size w w2 := B1.trans (hb2.mono (by omega))
    go_wp2_with fail
    go_ret
    exact ⟨ret_bool (by rw [hval.out, hW.out]; rfl), B2⟩

set_option maxHeartbeats 1000000 in
theorem implTracesWithin_any (s t : Sy) (A B : Option Addr) (c d : Nat) (w : World) (hl : s.es.length ≤ c) (hc : c ≤ 9223372036854775807) (hm : t.es.length ≤ d) (hd : d ≤ 9223372036854775807) (hT : Tab w) (hr : EdsAt w w.heap.size A s.es) (hs : EdsAt w w.heap.size B t.es) :
    Calls Tryd.prog 15 #[s.val A c, t.val B d] w fun e w' => e = .returned (.bool (withinB s t)) ∧ Below w.heap.size w w' := by
  unfold Sy.val
  replace hr := hid hr
  replace hs := hid hs
  replace hT := hid hT
  go_enter Tryd.func15, Tryd.ntmps15
  go_wp2_with fail
  obtain ⟨w0, hw0, hz0, hB0, hS, hU⟩ := boxed2 w #[Value.int IntKind.i64 s.al, Value.int IntKind.i64 s.st, Value.slice A s.es.length c] 29 #[Value.int IntKind.i64 t.al, Value.int IntKind.i64 t.st, Value.slice B t.es.length d] 29
  rw [hw0]
  clear hw0
  have p0 := hS 0 _ rfl _ (Below.refl _ _)
  have p1 := hS 1 _ rfl _ (Below.refl _ _)
  have p2 := hS 2 _ rfl _ (Below.refl _ _)
  have q0 := hU 0 _ rfl _ (Below.refl _ _)
  have q1 := hU 1 _ rfl _ (Below.refl _ _)
  have q2 := hU 2 _ rfl _ (Below.refl _ _)
  have hr0 := hid (hr.out.later hB0)
  have hs0 := hid (hs.out.later hB0)
  have hT0 := hid (hT.out.later hB0)
  go_wp2_with fail
  refine (implFirstTraceOutside_any s t A B c d w0 hl hc hm hd hT0.out hr0.out hs0.out).mono ?_
  rintro e w1 ⟨o, rfl, ho, hb1⟩
  have b1 := hb1.mono hz0
  clear p0 p1 p2 q0 q1 q2
  have p0 := hS 0 _ rfl _ b1
  have p1 := hS 1 _ rfl _ b1
  have p2 := hS 2 _ rfl _ b1
  have q0 := hU 0 _ rfl _ b1
  have q1 := hU 1 _ rfl _ b1
  have q2 := hU 2 _ rfl _ b1
  have B1 : Below w.heap.size w w1 := hB0.trans (b1.mono (by omega))
  have hr1 := hid (hr.out.later B1)
  have hs1 := hid (hs.out.later B1)
  have hwi := within_of ho
  obtain ⟨Sv, Fv, hpv, hfv⟩ : ∃ Sv Fv, pathV o = .tuple #[.string Sv, .bool Fv] ∧ Fv = o.isSome := ⟨_, _, rfl, rfl⟩
  rw [hpv]
  rw [← hfv] at hwi
  replace hwi := hid hwi
  clear ho hpv hfv
  have z1 := hb1.size
  go_wp2_with fail
  refine (sameAlphabets_any s t A B c d w1 hl hc hm hd hr1.out hs1.out).mono ?_
  rintro e w2 ⟨rfl, hb2⟩
  have B2 : Below w.heap.size w w2 := B1.trans (hb2.mono (by omega))
  cases hC : cmpOk s t
  · replace hC := hid hC
    go_wp2_with fail
    go_ret
    exact ⟨ret_bool (by rw [← hwi.out, hC.out]; rfl), B2⟩
  · replace hC := hid hC
    go_wp2_with fail
    go_ret
    exact ⟨ret_bool (by rw [← hwi.out, hC.out]; rfl), B2⟩

set_option maxHeartbeats 1000000 in
theorem implSameTraces_any (s t : Sy) (A B : Option Addr) (c d : Nat) (w : World) (hl : s.es.length ≤ c) (hc : c ≤ 9223372036854775807) (hm : t.es.length ≤ d) (hd : d ≤ 9223372036854775807) (hT : Tab w) (hr : EdsAt w w.heap.size A s.es) (hs : EdsAt w w.heap.size B t.es) :
    Calls Tryd.prog 17 #[s.val A c, t.val B d] w fun e w' => e = .returned (.bool (sameB s t)) ∧ Below w.heap.size w w' := by
  unfold Sy.val
  replace hr := hid hr
  replace hs := hid hs
  replace hT := hid hT
  have hval : Hid (sameB s t = (withinB s t && withinB t s)) := hid rfl
  go_enter Tryd.func17, Tryd.ntmps17
  go_wp2_with fail
  obtain ⟨w0, hw0, hz0, hB0, hS, hU⟩ := boxed2 w #[Value.int IntKind.i64 s.al, Value.int IntKind.i64 s.st, Value.slice A s.es.length c] 29 #[Value.int IntKind.i64 t.al, Value.int IntKind.i64 t.st, Value.slice B t.es.length d] 29
  rw [hw0]
  clear hw0
  have p0 := hS 0 _ rfl _ (Below.refl _ _)
  have p1 := hS 1 _ rfl _ (Below.refl _ _)
  have p2 := hS 2 _ rfl _ (Below.refl _ _)
  have q0 := hU 0 _ rfl _ (Below.refl _ _)
  have q1 := hU 1 _ rfl _ (Below.refl _ _)
  have q2 := hU 2 _ rfl _ (Below.refl _ _)
  have hr0 := hid (hr.out.later hB0)
  have hs0 := hid (hs.out.later hB0)
  have hT0 := hid (hT.out.later hB0)
  go_wp2_with fail
  refine (implTracesWithin_any s t A B c d w0 hl hc hm hd hT0.out hr0.out hs0.out).mono ?_
  rintro e w1 ⟨rfl, hb1⟩
  have b1 := hb1.mono hz0
  clear p0 p1 p2 q0 q1 q2
  have B1 : Below w.heap.size w w1 := hB0.trans (b1.mono (by omega))
  have z1 := hb1.size
  cases hW : withinB s t
  · replace hW := hid hW
    go_wp2_with fail
    go_ret
    exact ⟨ret_bool (by rw [hval.out, hW.out]; rfl), B1⟩
  · replace hW := hid hW
    have p0 := hS 0 _ rfl _ b1
    have p1 := hS 1 _ rfl _ b1
    have p2 := hS 2 _ rfl _ b1
    have q0 := hU 0 _ rfl _ b1
    have q1 := hU 1 _ rfl _ b1
    have q2 := hU 2 _ rfl _ b1
    have hr1 := hid (hr.out.later B1)
    have hs1 := hid (hs.out.later B1)
    have hT1 := hid (hT.out.later B1)
    go_wp2_with fail
    refine (implTracesWithin_any t s B A d c w1 hm hd hl hc hT1.out hs1.out hr1.out).mono ?_
    rintro e w2 ⟨rfl, hb2⟩
    have B2 : Below w.heap.size w w2 := B1.trans (hb2.mono (by omega))
    go_wp2_with fail
    go_ret
    exact ⟨ret_bool (by rw [hval.out, hW.out]; rfl), B2⟩

end Go.Proofs.YtnchoiljcdicdaaDoor
