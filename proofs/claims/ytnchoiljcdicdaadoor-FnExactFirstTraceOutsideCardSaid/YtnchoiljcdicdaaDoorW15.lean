/- The reference's l6Comparable. -/
import Derived.Test.YtnchoiljcdicdaaDoorW2
import Derived.Test.YtnchoiljcdicdaaDoorMathD
namespace Go.Proofs.YtnchoiljcdicdaaDoor
open Go.RowKit Go.BigFrame AG

set_option maxHeartbeats 1000000 in
theorem l6Comparable_any (s t : Sy) (A B : Option Addr) (c d : Nat) (w : World) (hl : s.es.length ≤ c) (hc : c ≤ 9223372036854775807) (hm : t.es.length ≤ d) (hd : d ≤ 9223372036854775807) (hr : EdsAt w w.heap.size A s.es) (hs : EdsAt w w.heap.size B t.es) :
    Calls Tryd.prog 27 #[s.val A c, t.val B d] w fun e w' => e = .returned (.bool (cmpOk s t)) ∧ Below w.heap.size w w' := by
  unfold Sy.val
  replace hr := hid hr
  replace hs := hid hs
  have hval : Hid (cmpOk s t = (sysOk s && (sysOk t && decide (s.al = t.al)))) := hid rfl
  go_enter Tryd.func27, Tryd.ntmps27
  go_wp2_with fail
  obtain ⟨w0, hw0, hz0, hB0, hS, hT⟩ := boxed2 w #[Value.int IntKind.i64 s.al, Value.int IntKind.i64 s.st, Value.slice A s.es.length c] 29 #[Value.int IntKind.i64 t.al, Value.int IntKind.i64 t.st, Value.slice B t.es.length d] 29
  rw [hw0]
  clear hw0
  have p0 := hS 0 _ rfl _ (Below.refl _ _)
  have p1 := hS 1 _ rfl _ (Below.refl _ _)
  have p2 := hS 2 _ rfl _ (Below.refl _ _)
  have hr0 := hid (hr.out.later hB0)
  go_wp2_with fail
  refine (specSystemValid_any s A c w0 hl hc hr0.out).mono ?_
  rintro e w1 ⟨rfl, hb1⟩
  have b1 := hb1.mono hz0
  clear p0 p1 p2
  have p0 := hS 0 _ rfl _ b1
  have q0 := hT 0 _ rfl _ b1
  have q1 := hT 1 _ rfl _ b1
  have q2 := hT 2 _ rfl _ b1
  have B1 : Below w.heap.size w w1 := hB0.trans (b1.mono (by omega))
  cases hA : sysOk s
  · replace hA := hid hA
    go_wp2_with fail
    go_ret
    exact ⟨ret_bool (by rw [hval.out, hA.out]; rfl), B1⟩
  · replace hA := hid hA
    have hs1 := hid (hs.out.later B1)
    go_wp2_with fail
    refine (specSystemValid_any t B d w1 hm hd hs1.out).mono ?_
    rintro e w2 ⟨rfl, hb2⟩
    have b2 := b1.trans (hb2.mono (Nat.le_trans hz0 hb1.size))
    clear p0 q0 q1 q2
    have p0 := hS 0 _ rfl _ b2
    have q0 := hT 0 _ rfl _ b2
    have B2 : Below w.heap.size w w2 := hB0.trans (b2.mono (by omega))
    cases hB : sysOk t
    · replace hB := hid hB
      go_wp2_with fail
      go_ret
      exact ⟨ret_bool (by rw [hval.out, hA.out, hB.out]; rfl), B2⟩
    · replace hB := hid hB
      go_wp2_with fail
      go_ret
      exact ⟨ret_bool (by rw [hval.out, hA.out, hB.out, Bool.eq_iff_iff]; simp), B2⟩

end Go.Proofs.YtnchoiljcdicdaaDoor
