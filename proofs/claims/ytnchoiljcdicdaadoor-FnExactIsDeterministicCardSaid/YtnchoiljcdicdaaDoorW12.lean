/- The reference's IsDeterministic returns detB too. -/
import Derived.Test.YtnchoiljcdicdaaDoorW11
import Derived.BigQuiet
namespace Go.Proofs.YtnchoiljcdicdaaDoor
open Go.RowKit Go.BigFrame AG

theorem l1Has_zero (n : Int) (w : World) :
    Calls Tryd.prog 20 #[.int .i64 0, .int .i64 n] w fun e w' => e = .returned (.bool false) ∧ w = w' := by
  go_enter Tryd.func20, Tryd.ntmps20
  go_wp2
  go_ret
  exact ⟨ret_bool (by simp; first | decide | (intro h; exact absurd h (by rw [show bits BinOp.and IntKind.i64 0 1 = 0 from rfl]; decide))), rfl⟩

theorem below_drewNd {B : Nat} {a w : World} (h : Below B a w) (n : Nat) : Below B a (w.drewN n) := h.trans ⟨rfl, rfl, rfl, Nat.le_refl _, fun _ _ => rfl⟩

set_option maxHeartbeats 4000000 in
theorem specIsDeterministic_any (s : Sy) (A : Option Addr) (c : Nat) (w : World) (hl : s.es.length ≤ c) (hc : c ≤ 9223372036854775807) (hr : EdsAt w w.heap.size A s.es) :
    Calls Tryd.prog 8 #[s.val A c] w fun e w' => e = .returned (.bool (detB s)) ∧ Below w.heap.size w w' := by
  obtain ⟨R, hR⟩ : ∃ R : Nat, R = if sysOk s then reachAll s else 0 := ⟨_, rfl⟩
  have hH : Hid (∀ k, ∀ h : k < s.es.length, ∃ H : Bool, (H = true → sysOk s = true ∧ Has (R : Int) s.es[k].f.toNat = true) ∧ (sysOk s = true → Has (R : Int) s.es[k].f.toNat = true → H = true) ∧ ∀ w : World, Calls Tryd.prog 20 #[.int .i64 R, .int .i64 s.es[k].f] w fun e w' => e = .returned (.bool H) ∧ w = w') := hid (by
    intro k h
    cases hok : sysOk s
    · rw [hok] at hR
      subst hR
      exact ⟨false, fun h => absurd h (by simp), fun h => absurd h (by simp), fun w => l1Has_zero _ w⟩
    · obtain ⟨fa, fb, _⟩ := sysOk_in hok s.es[k] (List.getElem_mem _)
      exact ⟨_, fun h => ⟨rfl, h⟩, fun _ h => h, fun w => l1Has_any _ _ w fa (by omega)⟩)
  unfold Sy.val
  replace hr := hid hr
  go_enter Tryd.func8, Tryd.ntmps8
  go_wp2_with fail
  obtain ⟨w0, hw0, hz0, hB0, hS0, hS1, hS2⟩ := boxed3 w (Value.int IntKind.i64 s.al) (Value.int IntKind.i64 s.st) (Value.slice A s.es.length c) 29
  rw [hw0]
  clear hw0
  have hr0 := hid (hr.out.later hB0)
  have p0 := hS0 _ (Below.refl _ _)
  have p1 := hS1 _ (Below.refl _ _)
  have p2 := hS2 _ (Below.refl _ _)
  go_wp2_with fail
  have hreach := specReachableStates_any s A c w0 hl hc hr0.out
  rw [← hR] at hreach
  replace hR := hid hR
  refine hreach.mono ?_
  clear hreach
  rintro e w1 ⟨rfl, hb1⟩
  have hB1 : Below w.heap.size w w1 := hB0.trans (hb1.mono (by omega))
  have hb1' := hb1.mono hz0
  clear p0 p1 p2
  go_wp2_with fail
  go_loopw [4] (fun i wr => ∃ k : Nat, i = .int .i64 (k + 1 : Nat) ∧ (k = 0 ∨ k + 1 ≤ s.es.length) ∧ (sysOk s = true → detAt s R k) ∧ Below (w.heap.size + 1) w0 wr) (fun i _ => s.es.length + 1 - (intOf i).toNat)
  case atStart => exact ⟨0, rfl, .inl rfl, fun _ i _ h => by omega, hb1'⟩
  case round =>
    obtain ⟨k, rfl, hk, hdet, hb⟩ := hrel
    replace hdet := hid hdet
    have q0 := hS0 _ hb
    have q1 := hS1 _ hb
    have q2 := hS2 _ hb
    by_cases hlt : k + 1 < s.es.length
    · obtain ⟨b, o, rfl, hB, hE⟩ := hr.out.get hB0 (Nat.le_succ w.heap.size) hlt
      obtain ⟨e0, e1, e2⟩ := hE k (by omega)
      obtain ⟨f0, f1, f2⟩ := hE (k + 1) hlt
      replace hE := hid hE
      replace e0 := e0 _ hb
      replace e1 := e1 _ hb
      replace e2 := e2 _ hb
      replace f0 := f0 _ hb
      replace f1 := f1 _ hb
      replace f2 := f2 _ hb
      have hzr := hb.size
      have up1 : ∀ (B' O' : Nat) (v : Value), B' < wr.heap.size → wr.cell? ⟨B', O', none⟩ = some v → ∀ X : Array Value, (wr.alloc (Obj.cells X 39)).cell? ⟨B', O', none⟩ = some v := fun B' O' v hB' h X => by
        rw [World.cell?_alloc_lt (h := by simpa using hB')]
        exact h
      have x2 := up1 _ _ _ (by omega) q2
      have z0 := up1 _ _ _ (by omega) f0
      have z1 := up1 _ _ _ (by omega) f1
      have z2 := up1 _ _ _ (by omega) f2
      replace up1 := hid up1
      obtain ⟨H, hH1, hH2, hH3⟩ := hH.out k (by omega)
      have hbx := hb.mono (Nat.le_succ w.heap.size)
      replace hH1 := hid hH1
      replace hH2 := hid hH2
      replace hH3 := hid hH3
      have hcase : (H = false) ∨ (H = true ∧ (s.es[k].f == s.es[k + 1].f) = false) ∨ (H = true ∧ (s.es[k].f == s.es[k + 1].f) = true ∧ (s.es[k].l == s.es[k + 1].l) = false) ∨ (H = true ∧ (s.es[k].f == s.es[k + 1].f) = true ∧ (s.es[k].l == s.es[k + 1].l) = true) := by
        cases H
        · exact .inl rfl
        · by_cases d1 : s.es[k].f = s.es[k + 1].f
          · by_cases d2 : s.es[k].l = s.es[k + 1].l
            · exact .inr (.inr (.inr ⟨rfl, beq_iff_eq.mpr d1, beq_iff_eq.mpr d2⟩))
            · exact .inr (.inr (.inl ⟨rfl, beq_iff_eq.mpr d1, beq_eq_false_iff_ne.mpr d2⟩))
          · exact .inr (.inl ⟨rfl, beq_eq_false_iff_ne.mpr d1⟩)
      have i1 : (0 : Int) ≤ (k : Int) + 1 := by omega
      have i2 : (k : Int) + 1 < (s.es.length : Int) := by omega
      have i3 : ((k : Int) + 1).toNat = k + 1 := by omega
      go_wp2_with fail
      rcases hcase with rfl | ⟨rfl, g1⟩ | ⟨rfl, g1, g2⟩ | ⟨rfl, g1, g2⟩
      all_goals
        go_quiet ((go_at_call 20; refine (hH3.out _).mono ?_; rintro e w3 ⟨rfl, rfl⟩; exact ⟨rfl, _, rfl⟩))
      all_goals
        go_wp2
      all_goals
        first
        | (refine ⟨⟨k + 1, by go_num, .inr (by omega), fun hk => detAt.next (hdet.out hk) hlt ?_, below_drewNd (by (repeat (first | exact Below.refl _ _ | assumption | refine Below.drew ?_ | refine Below.alloc ?_ (by first | omega | (simp; done) | (simp; omega)) _ | refine Below.setCell ?_ (by first | omega | (simp; done) | (simp; omega)) _))) _⟩, by simp [intOf]; omega⟩
           rintro ⟨h1, h2, h3⟩
           first
           | exact absurd (hH2.out hk h1) Bool.false_ne_true
           | exact absurd (beq_iff_eq.mpr h2) (ne_true_of_eq_false g1)
           | exact absurd (beq_iff_eq.mpr h3) (ne_true_of_eq_false g2))
        | (go_ret
           obtain ⟨hok, h1⟩ := hH1.out (by simp)
           have hR' : R = reachAll s := by rw [hR.out, hok]; rfl
           refine ⟨ret_bool (detB_false (k := k) fun h => h k hlt (by omega) ⟨?_, ?_, ?_⟩).symm, hB0.trans (below_drewNd (by (repeat (first | exact Below.refl _ _ | assumption | refine Below.drew ?_ | refine Below.alloc ?_ (by first | omega | (simp; done) | (simp; omega)) _ | refine Below.setCell ?_ (by first | omega | (simp; done) | (simp; omega)) _))) _)⟩
           · rw [← hR']; exact h1
           · exact beq_iff_eq.mp g1
           · exact beq_iff_eq.mp g2)
    · have hzr := hb.size
      have hr3 := hid (hr.out.later (hB0.trans (hb.mono (Nat.le_succ _))))
      go_wp2_with fail
      refine (specSystemValid_any s A c wr hl hc hr3.out).mono ?_
      rintro e w3 ⟨rfl, hb3⟩
      go_wp2
      go_ret
      refine ⟨ret_bool ?_, hB0.trans ((hb.mono (by omega)).trans (hb3.mono ?_))⟩
      · cases hok : sysOk s
        · unfold detB
          rw [hok]; rfl
        · have hR' : R = reachAll s := by rw [hR.out, hok]; rfl
          have hd := hdet.out hok
          rw [hR'] at hd
          unfold detB
          rw [hok]
          symm
          simp only [Bool.true_and, decide_eq_true_eq]
          exact fun i hi _ => hd i hi (by omega)
      · have := hb.size
        omega

end Go.Proofs.YtnchoiljcdicdaaDoor
