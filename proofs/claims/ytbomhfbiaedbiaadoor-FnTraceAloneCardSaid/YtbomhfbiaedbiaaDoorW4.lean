/- The program's SystemValid returns sysOk. -/
import Derived.Test.YtbomhfbiaedbiaaDoorW3
namespace Go.Proofs.YtbomhfbiaedbiaaDoor
open Go.RowKit Go.BigFrame AG
attribute [local go_sem] Fam.below

set_option maxHeartbeats 4000000 in
theorem implSystemValid_any (s : Sy) (A : Option Addr) (c : Nat) (w : World) (hl : s.es.length ≤ c) (hc : c ≤ 9223372036854775807) (hr : EdsAt w w.heap.size A s.es) :
    Calls Tryd.prog 34 #[s.val A c] w fun e w' => e = .returned (.bool (sysOk s)) ∧ Below w.heap.size w w' := by
  by_cases ha : alphaOk s.al = true
  · by_cases h1 : 1 ≤ s.st ∧ s.st ≤ 16
    · obtain ⟨h1, h2⟩ := h1
      have hbad : ∀ k, ¬ edgesOkTo s.al s.st s.es (k + 1) → sysOk s = false := fun k h => by
        unfold sysOk
        rw [decide_eq_false_iff_not]
        rintro ⟨_, _, _, h'⟩
        exact h fun i hi _ => h' i hi hi
      have hgood : edgesOkTo s.al s.st s.es s.es.length → sysOk s = true := fun h => by
        unfold sysOk
        rw [decide_eq_true_iff]
        exact ⟨ha, h1, h2, h⟩
      unfold Sy.val
      go_enter Tryd.func34, Tryd.ntmps34
      go_wp2_with (go_at_call 73; refine (isAlphabet_any _ _).mono ?_; rintro e w' ⟨rfl, rfl⟩)
      obtain ⟨w0, hw0, hz0, hB0, hS0, hS1, hS2⟩ := boxed3 w (Value.int IntKind.i64 s.al) (Value.int IntKind.i64 s.st) (Value.slice A s.es.length c) 36
      rw [hw0]
      clear hw0
      replace hgood := hid hgood
      replace hbad := hid hbad
      go_loopw [22] (fun i wr => ∃ k : Nat, i = .int .i64 k ∧ k ≤ s.es.length ∧ edgesOkTo s.al s.st s.es k ∧ Below (w.heap.size + 1) w0 wr) (fun i _ => s.es.length - (intOf i).toNat)
      case atStart => exact ⟨0, rfl, by omega, by intro i _ h; omega, Below.refl _ _⟩
      case round =>
        obtain ⟨k, rfl, hk, hok, hb⟩ := hrel
        by_cases hlt : k < s.es.length
        · obtain ⟨b, o, rfl, hB, hE⟩ := hr.get hB0 (Nat.le_succ w.heap.size) hlt
          obtain ⟨e0, e1, e2⟩ := hE k hlt
          have hek : edgeOk s.al s.st s.es[k] = (decide (0 ≤ s.es[k].f ∧ s.es[k].f < s.st) && (decide (0 ≤ s.es[k].t ∧ s.es[k].t < s.st) && (decide (s.es[k].l < 6) && HasZ s.al s.es[k].l))) := edgeOk_split _ _ _
          have hbadE : edgeOk s.al s.st s.es[k] = false → sysOk s = false := fun h => hbad.out k fun h' => by
            have := (h' k hlt (by omega)).1
            rw [h] at this
            cases this
          have hzr : w.heap.size + 1 ≤ wr.heap.size := Nat.le_trans hz0 hb.size
          replace hr := hid hr
          replace hok := hid hok
          replace hbadE := hid hbadE
          replace hek := hid hek
          go_wp2_with fail
          obtain ⟨w1, hw1, hz1, hB1, hE0, hE1, hE2⟩ := boxed3 wr (Value.int IntKind.i64 s.es[k].f) (Value.int IntKind.i64 s.es[k].l) (Value.int IntKind.i64 s.es[k].t) 76
          rw [hw1]
          clear hw1
          have hB1' : Below (w.heap.size + 1) wr w1 := hB1.mono hzr
          have hF : ∀ x, Below (w.heap.size + 1) w0 (Fam (wr.heap.size + 1) w1 x) := fun x => (hb.trans hB1').trans ((Fam.below _ _ _).mono (by omega))
          have hle : w.heap.size + 1 ≤ wr.heap.size + 1 := by omega
          have q0 := fun x => hS0 _ (hF x)
          have q1 := fun x => hS1 _ (hF x)
          have q2 := fun x => hS2 _ (hF x)
          clear hz0
          cases B1 : decide (0 ≤ s.es[k].f ∧ s.es[k].f < s.st)
          · replace B1 := hid B1
            replace hE := hid hE
            (refine wp_region_fam (wr.heap.size + 1) w1 (by kernel_rfl) (by kernel_rfl) (Below.refl _ _) ?_; (repeat (go_big_quiet_step (first | (go_at_call 89; refine (isState_any s _ c _ _).mono ?_; rintro e w3 ⟨rfl, hb3⟩; exact ⟨(by first | rw [B1.out] | rw [B2.out]), Fam.next hz1 hb3⟩) | (go_at_call 90; refine (has_any _ _ _ (by omega)).mono ?_; rintro e w3 ⟨rfl, rfl⟩; exact ⟨by rw [B4.out], _, rfl⟩) | (go_at_call 91; fail)))); refine wpQuiet_nil ?_; intro w2 hw2; replace hw2 := Fam.out hw2; have hw3 : Below (w.heap.size + 1) w0 w2 := (hb.trans hB1').trans (hw2.mono hle); go_wp2)
            go_ret
            exact ⟨by rw [hbadE.out (by rw [hek.out, B1.out]; rfl)]; rfl, hB0.trans (hw3.mono (by omega))⟩
          cases B2 : decide (0 ≤ s.es[k].t ∧ s.es[k].t < s.st)
          · replace B1 := hid B1
            replace B2 := hid B2
            replace hE := hid hE
            (refine wp_region_fam (wr.heap.size + 1) w1 (by kernel_rfl) (by kernel_rfl) (Below.refl _ _) ?_; (repeat (go_big_quiet_step (first | (go_at_call 89; refine (isState_any s _ c _ _).mono ?_; rintro e w3 ⟨rfl, hb3⟩; exact ⟨(by first | rw [B1.out] | rw [B2.out]), Fam.next hz1 hb3⟩) | (go_at_call 90; refine (has_any _ _ _ (by omega)).mono ?_; rintro e w3 ⟨rfl, rfl⟩; exact ⟨by rw [B4.out], _, rfl⟩) | (go_at_call 91; fail)))); refine wpQuiet_nil ?_; intro w2 hw2; replace hw2 := Fam.out hw2; have hw3 : Below (w.heap.size + 1) w0 w2 := (hb.trans hB1').trans (hw2.mono hle); go_wp2)
            go_ret
            exact ⟨by rw [hbadE.out (by rw [hek.out, B1.out, B2.out]; rfl)]; rfl, hB0.trans (hw3.mono (by omega))⟩
          by_cases h3 : s.es[k].l < 6
          · have h3d : decide (6 ≤ s.es[k].l) = false := by simp; omega
            cases B4 : HasZ s.al s.es[k].l
            · replace B1 := hid B1
              replace B2 := hid B2
              replace B4 := hid B4
              replace hE := hid hE
              (refine wp_region_fam (wr.heap.size + 1) w1 (by kernel_rfl) (by kernel_rfl) (Below.refl _ _) ?_; (repeat (go_big_quiet_step (first | (go_at_call 89; refine (isState_any s _ c _ _).mono ?_; rintro e w3 ⟨rfl, hb3⟩; exact ⟨(by first | rw [B1.out] | rw [B2.out]), Fam.next hz1 hb3⟩) | (go_at_call 90; refine (has_any _ _ _ (by omega)).mono ?_; rintro e w3 ⟨rfl, rfl⟩; exact ⟨by rw [B4.out], _, rfl⟩) | (go_at_call 91; fail)))); refine wpQuiet_nil ?_; intro w2 hw2; replace hw2 := Fam.out hw2; have hw3 : Below (w.heap.size + 1) w0 w2 := (hb.trans hB1').trans (hw2.mono hle); go_wp2)
              go_ret
              exact ⟨by rw [hbadE.out (by rw [hek.out, B1.out, B2.out, B4.out]; simp)]; rfl, hB0.trans (hw3.mono (by omega))⟩
            · have hek' : edgeOk s.al s.st s.es[k] = true := by rw [hek.out, B1, B2, B4]; simpa using h3
              by_cases hk0 : k = 0
              · subst hk0
                simp only [Nat.zero_mul, Nat.add_zero] at e0 e1 e2
                have hok' : edgesOkTo s.al s.st s.es (0 + 1) := fun i hi hi' => by
                  obtain rfl : i = 0 := by omega
                  exact ⟨hek', fun j _ h => by omega⟩
                replace hok' := hid hok'
                replace B1 := hid B1
                replace B2 := hid B2
                replace B4 := hid B4
                replace hek' := hid hek'
                replace hE := hid hE
                (refine wp_region_fam (wr.heap.size + 1) w1 (by kernel_rfl) (by kernel_rfl) (Below.refl _ _) ?_; (repeat (go_big_quiet_step (first | (go_at_call 89; refine (isState_any s _ c _ _).mono ?_; rintro e w3 ⟨rfl, hb3⟩; exact ⟨(by first | rw [B1.out] | rw [B2.out]), Fam.next hz1 hb3⟩) | (go_at_call 90; refine (has_any _ _ _ (by omega)).mono ?_; rintro e w3 ⟨rfl, rfl⟩; exact ⟨by rw [B4.out], _, rfl⟩) | (go_at_call 91; fail)))); refine wpQuiet_nil ?_; intro w2 hw2; replace hw2 := Fam.out hw2; have hw3 : Below (w.heap.size + 1) w0 w2 := (hb.trans hB1').trans (hw2.mono hle); go_wp2)
                go_roundw
                case rel => exact ⟨1, by go_num, by omega, hok'.out, hw3⟩
                case measure => simp [intOf]; omega
              · obtain ⟨j, rfl⟩ : ∃ j, k = j + 1 := ⟨k - 1, by omega⟩
                obtain ⟨p0, p1, p2⟩ := hE j (by omega)
                replace p0 := fun x => p0 _ (hF x)
                replace p1 := fun x => p1 _ (hF x)
                replace p2 := fun x => p2 _ (hF x)
                replace hE := hid hE
                have hcmp := cmpE_ge s.es[j] s.es[j + 1]
                have hrng : edgeLt s.es[j] s.es[j + 1] = true → edgesOkTo s.al s.st s.es (j + 1 + 1) := fun h i hi hi' => by
                  by_cases e : i = j + 1
                  · subst e
                    exact ⟨hek', fun m hm e => by obtain rfl : m = j := by omega
                                                  exact h⟩
                  · exact hok.out i hi (by omega)
                replace B1 := hid B1
                replace B2 := hid B2
                replace B4 := hid B4
                replace hek' := hid hek'
                replace hrng := hid hrng
                by_cases hge : 0 ≤ cmpE s.es[j] s.es[j + 1]
                · have hno : edgeLt s.es[j] s.es[j + 1] = false := by simpa [hge] using hcmp
                  replace hno := hid hno
                  have hgd : decide (0 ≤ cmpE s.es[j] s.es[j + 1]) = true := by simpa using hge
                  clear hcmp
                  (refine wp_region_fam (wr.heap.size + 1) w1 (by kernel_rfl) (by kernel_rfl) (Below.refl _ _) ?_; (repeat (go_big_quiet_step (first | (go_at_call 89; refine (isState_any s _ c _ _).mono ?_; rintro e w3 ⟨rfl, hb3⟩; exact ⟨(by first | rw [B1.out] | rw [B2.out]), Fam.next hz1 hb3⟩) | (go_at_call 90; refine (has_any _ _ _ (by omega)).mono ?_; rintro e w3 ⟨rfl, rfl⟩; exact ⟨by rw [B4.out], _, rfl⟩) | (go_at_call 91; refine (compareEdges_any s.es[j] s.es[j + 1] _).mono ?_; rintro e w3 ⟨rfl, hb3⟩; exact ⟨rfl, Fam.next hz1 hb3⟩)))); refine wpQuiet_nil ?_; intro w2 hw2; replace hw2 := Fam.out hw2; have hw3 : Below (w.heap.size + 1) w0 w2 := (hb.trans hB1').trans (hw2.mono hle); go_wp2)
                  go_ret
                  have hfin := hbad.out (j + 1) fun h => by have := (h (j + 1) hlt (by omega)).2 j (by omega) rfl; rw [hno.out] at this; cases this
                  exact ⟨by rw [hfin]; rfl, hB0.trans (hw3.mono (by omega))⟩
                · have hyes : edgeLt s.es[j] s.es[j + 1] = true := by simpa [hge] using hcmp
                  replace hyes := hid hyes
                  have hgd : decide (0 ≤ cmpE s.es[j] s.es[j + 1]) = false := by simpa using hge
                  clear hcmp
                  (refine wp_region_fam (wr.heap.size + 1) w1 (by kernel_rfl) (by kernel_rfl) (Below.refl _ _) ?_; (repeat (go_big_quiet_step (first | (go_at_call 89; refine (isState_any s _ c _ _).mono ?_; rintro e w3 ⟨rfl, hb3⟩; exact ⟨(by first | rw [B1.out] | rw [B2.out]), Fam.next hz1 hb3⟩) | (go_at_call 90; refine (has_any _ _ _ (by omega)).mono ?_; rintro e w3 ⟨rfl, rfl⟩; exact ⟨by rw [B4.out], _, rfl⟩) | (go_at_call 91; refine (compareEdges_any s.es[j] s.es[j + 1] _).mono ?_; rintro e w3 ⟨rfl, hb3⟩; exact ⟨rfl, Fam.next hz1 hb3⟩)))); refine wpQuiet_nil ?_; intro w2 hw2; replace hw2 := Fam.out hw2; have hw3 : Below (w.heap.size + 1) w0 w2 := (hb.trans hB1').trans (hw2.mono hle); go_wp2)
                  go_roundw
                  case rel => exact ⟨j + 1 + 1, by go_num, by omega, hrng.out hyes.out, hw3⟩
                  case measure => simp [intOf]; omega
          · have h3d : decide (6 ≤ s.es[k].l) = true := by simp; omega
            replace B1 := hid B1
            replace B2 := hid B2
            replace hE := hid hE
            (refine wp_region_fam (wr.heap.size + 1) w1 (by kernel_rfl) (by kernel_rfl) (Below.refl _ _) ?_; (repeat (go_big_quiet_step (first | (go_at_call 89; refine (isState_any s _ c _ _).mono ?_; rintro e w3 ⟨rfl, hb3⟩; exact ⟨(by first | rw [B1.out] | rw [B2.out]), Fam.next hz1 hb3⟩) | (go_at_call 90; refine (has_any _ _ _ (by omega)).mono ?_; rintro e w3 ⟨rfl, rfl⟩; exact ⟨by rw [B4.out], _, rfl⟩) | (go_at_call 91; fail)))); refine wpQuiet_nil ?_; intro w2 hw2; replace hw2 := Fam.out hw2; have hw3 : Below (w.heap.size + 1) w0 w2 := (hb.trans hB1').trans (hw2.mono hle); go_wp2)
            go_ret
            exact ⟨by rw [hbadE.out (by rw [hek.out, B1.out, B2.out]; simp; omega)]; rfl, hB0.trans (hw3.mono (by omega))⟩
        · have hfin : Hid (sysOk s = true) := hid (hgood.out fun i hi hi' => hok i hi (by omega))
          replace hok := hid hok
          go_wp2
          go_ret
          exact ⟨by rw [hfin.out]; rfl, hB0.trans (hb.mono (by omega))⟩
    · have hfin : Hid (sysOk s = false) := hid (by
        unfold sysOk
        rw [decide_eq_false_iff_not]
        rintro ⟨_, h2, h3, _⟩
        omega)
      unfold Sy.val
      go_enter Tryd.func34, Tryd.ntmps34
      go_wp2_with (go_at_call 73; refine (isAlphabet_any _ _).mono ?_; rintro e w' ⟨rfl, rfl⟩)
      all_goals
        go_ret
        exact ⟨by rw [hfin.out]; rfl, by (repeat (first | exact Below.refl _ _ | assumption | refine Below.drew ?_ | refine Below.alloc ?_ (by first | omega | (simp; done) | (simp; omega)) _ | refine Below.setCell ?_ (by first | omega | (simp; done) | (simp; omega)) _))⟩
  · have hfin : Hid (sysOk s = false) := hid (by
      unfold sysOk
      rw [decide_eq_false_iff_not]
      rintro ⟨h, _⟩
      exact ha h)
    unfold Sy.val
    go_enter Tryd.func34, Tryd.ntmps34
    go_wp2_with (go_at_call 73; refine (isAlphabet_any _ _).mono ?_; rintro e w' ⟨rfl, rfl⟩)
    all_goals
      go_ret
      exact ⟨by rw [hfin.out]; rfl, by (repeat (first | exact Below.refl _ _ | assumption | refine Below.drew ?_ | refine Below.alloc ?_ (by first | omega | (simp; done) | (simp; omega)) _ | refine Below.setCell ?_ (by first | omega | (simp; done) | (simp; omega)) _))⟩

end Go.Proofs.YtbomhfbiaedbiaaDoor
