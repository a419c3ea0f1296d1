/- Both IsDeterministic return detB. -/
import Derived.Test.YtnchoiljcdicdaaDoorW9
import Derived.Test.YtnchoiljcdicdaaDoorW10
import Derived.BigRegion
namespace Go.Proofs.YtnchoiljcdicdaaDoor
open Go.RowKit Go.BigFrame AG

theorem detB_false {s : Sy} {k : Nat} (h : ¬ detAt s (reachAll s) (k + 1)) : detB s = false := by
  unfold detB
  have : ¬ detAt s (reachAll s) s.es.length := fun h' => h fun i hi _ => h' i hi (by omega)
  simp [this]

theorem detAt.next {s : Sy} {S k : Nat} (h : detAt s S k) (hlt : k + 1 < s.es.length) (hn : ¬ (Has (S : Int) s.es[k].f.toNat = true ∧ s.es[k].f = s.es[k + 1].f ∧ s.es[k].l = s.es[k + 1].l)) : detAt s S (k + 1) := fun i hi hik => by
  by_cases e : i = k
  · subst e
    exact hn
  · exact h i hi (by omega)

set_option maxHeartbeats 1000000 in
theorem implIsDeterministic_any (s : Sy) (A : Option Addr) (c : Nat) (w : World) (hl : s.es.length ≤ c) (hc : c ≤ 9223372036854775807) (hT : Tab w) (hr : EdsAt w w.heap.size A s.es) :
    Calls Tryd.prog 10 #[s.val A c] w fun e w' => e = .returned (.bool (detB s)) ∧ Below w.heap.size w w' := by
  unfold Sy.val
  replace hr := hid hr
  replace hT := hid hT
  cases hok : sysOk s
  all_goals
    replace hok := hid hok
    go_enter Tryd.func10, Tryd.ntmps10
    go_wp2_with fail
    obtain ⟨w0, hw0, hz0, hB0, hS0, hS1, hS2⟩ := boxed3 w (Value.int IntKind.i64 s.al) (Value.int IntKind.i64 s.st) (Value.slice A s.es.length c) 29
    rw [hw0]
    clear hw0
    have hr0 := hid (hr.out.later hB0)
    refine (implSystemValid_any s A c w0 hl hc hr0.out).mono ?_
    rintro e w1 ⟨rfl, hb1⟩
    rw [hok.out]
    have hB1 : Below w.heap.size w w1 := hB0.trans (hb1.mono (by omega))
    have hb1' := hb1.mono hz0
  · go_wp2
    go_ret
    exact ⟨ret_bool (by unfold detB; rw [hok.out]; rfl), hB1⟩
  · have hr1 := hid (hr0.out.later hb1)
    have hT1 := hid (hT.out.later hB1)
    go_wp2_with fail
    refine (implReachableStates_any s A c w1 hl hc hT1.out hr1.out).mono ?_
    rintro e w2 ⟨rfl, hb2⟩
    rw [hok.out, if_pos rfl]
    have hb2' : Below (w.heap.size + 1) w0 w2 := hb1'.trans (hb2.mono (Nat.le_trans hz0 hb1.size))
    have hin := hid (sysOk_in hok.out)
    go_wp2_with fail
    go_loopw [4] (fun i wr => ∃ k : Nat, i = .int .i64 (k + 1 : Nat) ∧ (k = 0 ∨ k + 1 ≤ s.es.length) ∧ detAt s (reachAll s) k ∧ Below (w.heap.size + 1) w0 wr) (fun i _ => s.es.length + 1 - (intOf i).toNat)
    case atStart => exact ⟨0, rfl, .inl rfl, fun i _ h => by omega, hb2'⟩
    case round =>
      obtain ⟨k, rfl, hk, hdet, hb⟩ := hrel
      replace hdet := hid hdet
      by_cases hlt : k + 1 < s.es.length
      · obtain ⟨b, o, rfl, hB, hE⟩ := hr.out.get hB0 (Nat.le_succ w.heap.size) hlt
        obtain ⟨e0, e1, e2⟩ := hE k (by omega)
        obtain ⟨f0, f1, f2⟩ := hE (k + 1) hlt
        replace hE := hid hE
        replace e0 := e0 _ hb
        replace e1 := e1 _ hb
        replace e2 := e2 _ hb
        replace f0 := f0 _ hb
        replace f1 := f1 _ hb
        replace f2 := f2 _ hb
        have q0 := hS0 _ hb
        have q1 := hS1 _ hb
        have q2 := hS2 _ hb
        have hzr := hb.size
        have up : ∀ (B' O' : Nat) (v : Value), B' < wr.heap.size → wr.cell? ⟨B', O', none⟩ = some v → ∀ X Y : Array Value, ((wr.alloc (Obj.cells X 39)).alloc (Obj.cells Y 39)).cell? ⟨B', O', none⟩ = some v := fun B' O' v hB' h X Y => by
          rw [World.cell?_alloc_lt (h := by simp; omega), World.cell?_alloc_lt (h := by simpa using hB')]
          exact h
        have u2 := up _ _ _ (by omega) q2
        have v0 := up _ _ _ (by omega) e0
        have v1 := up _ _ _ (by omega) e1
        have v2 := up _ _ _ (by omega) e2
        have w0' := up _ _ _ (by omega) f0
        have w1' := up _ _ _ (by omega) f1
        have w2' := up _ _ _ (by omega) f2
        have up1 : ∀ (B' O' : Nat) (v : Value), B' < wr.heap.size → wr.cell? ⟨B', O', none⟩ = some v → ∀ X : Array Value, (wr.alloc (Obj.cells X 39)).cell? ⟨B', O', none⟩ = some v := fun B' O' v hB' h X => by
          rw [World.cell?_alloc_lt (h := by simpa using hB')]
          exact h
        have x2 := up1 _ _ _ (by omega) q2
        have y0 := up1 _ _ _ (by omega) e0
        have y1 := up1 _ _ _ (by omega) e1
        have y2 := up1 _ _ _ (by omega) e2
        have z0 := up1 _ _ _ (by omega) f0
        have z1 := up1 _ _ _ (by omega) f1
        have z2 := up1 _ _ _ (by omega) f2
        replace up := hid up
        replace up1 := hid up1
        obtain ⟨fa, fb, _⟩ := hin.out s.es[k] (List.getElem_mem _)
        have hasZ : Hid (HasZ (reachAll s : Nat) s.es[k].f = Has (reachAll s : Nat) s.es[k].f.toNat) := hid (by unfold HasZ; rw [decide_eq_true fa]; rfl)
        have hbx := hb.mono (Nat.le_succ w.heap.size)
        go_wp2_with fail
        go_region
        all_goals
          go_wp2_with (go_at_call 25; refine (has_any _ _ _ (by omega)).mono ?_; rintro e w' ⟨rfl, rfl⟩)
        all_goals
          first
          | (refine ⟨⟨k + 1, by go_num, .inr (by omega), detAt.next hdet.out hlt ?_, ?_⟩, by simp [intOf]; omega⟩
             · rintro ⟨h1, h2, h3⟩
               rw [← hasZ.out] at h1
               first
               | contradiction
               | exact absurd (beq_iff_eq.mpr h3) (ne_true_of_eq_false ‹_›)
             · (repeat (first | exact Below.refl _ _ | assumption | refine Below.drew ?_ | refine Below.alloc ?_ (by first | omega | (simp; done) | (simp; omega)) _ | refine Below.setCell ?_ (by first | omega | (simp; done) | (simp; omega)) _)))
          | (go_ret
             refine ⟨ret_bool (detB_false (k := k) fun h => h k hlt (by omega) ⟨?_, ?_, ?_⟩).symm, hB0.trans (by (repeat (first | exact Below.refl _ _ | assumption | refine Below.drew ?_ | refine Below.alloc ?_ (by first | omega | (simp; done) | (simp; omega)) _ | refine Below.setCell ?_ (by first | omega | (simp; done) | (simp; omega)) _)))⟩
             · rw [← hasZ.out]; assumption
             · assumption
             · exact beq_iff_eq.mp (by assumption))
      · have hall : Hid (detB s = true) := hid (by
          unfold detB
          rw [hok.out]
          simp only [Bool.true_and, decide_eq_true_eq]
          exact fun i hi _ => hdet.out i hi (by omega))
        go_wp2
        go_ret
        exact ⟨ret_bool hall.out.symm, hB0.trans (hb.mono (by omega))⟩

end Go.Proofs.YtnchoiljcdicdaaDoor
