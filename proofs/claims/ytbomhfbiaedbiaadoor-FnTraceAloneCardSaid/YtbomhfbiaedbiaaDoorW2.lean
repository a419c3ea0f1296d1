/- The reference's SystemValid returns sysOk. -/
import Derived.Test.YtbomhfbiaedbiaaDoorW1
namespace Go.Proofs.YtbomhfbiaedbiaaDoor
open Go.RowKit Go.BigFrame AG

attribute [local go_sem] Fam.below

set_option maxHeartbeats 1000000 in
theorem specSystemValid_any (s : Sy) (A : Option Addr) (c : Nat) (w : World) (hl : s.es.length ≤ c) (hc : c ≤ 9223372036854775807) (hr : EdsAt w w.heap.size A s.es) :
    Calls Tryd.prog 69 #[s.val A c] w fun e w' => e = .returned (.bool (sysOk s)) ∧ Below w.heap.size w w' := by
  unfold Sy.val
  by_cases ha : alphaOk s.al = true
  · by_cases h1 : 1 ≤ s.st ∧ s.st ≤ 16
    · obtain ⟨h1, h2⟩ := h1
      go_enter Tryd.func69, Tryd.ntmps69
      go_wp2_with (go_at_call 70; refine (l1Alphabet_any _ _).mono ?_; rintro e w' ⟨rfl, rfl⟩)
      obtain ⟨w0, hw0, hz0, hB0, hS0, hS1, hS2⟩ := boxed3 w (Value.int IntKind.i64 s.al) (Value.int IntKind.i64 s.st) (Value.slice A s.es.length c) 36
      rw [hw0]
      replace hw0 := hid hw0
      go_loopw [3] (fun i wr => ∃ k : Nat, i = .int .i64 k ∧ k ≤ s.es.length ∧ edgesOkTo s.al s.st s.es k ∧ Below (w.heap.size + 1) w0 wr) (fun i _ => s.es.length - (intOf i).toNat)
      case atStart => exact ⟨0, rfl, by omega, by intro i _ h; omega, Below.refl _ _⟩
      case round =>
        obtain ⟨k, rfl, hk, hok, hb⟩ := hrel
        by_cases hlt : k < s.es.length
        · obtain ⟨b, o, rfl, hB, hE⟩ := hr.get hB0 (Nat.le_succ w.heap.size) hlt
          obtain ⟨e0, e1, e2⟩ := hE k hlt
          have hnot : ¬ edgesOkTo s.al s.st s.es (k + 1) → sysOk s = false := fun h => by
            unfold sysOk
            rw [decide_eq_false_iff_not]
            rintro ⟨_, _, _, h'⟩
            exact h fun i hi _ => h' i hi hi
          by_cases hek : edgeOk s.al s.st s.es[k] = true
          · by_cases hk0 : k = 0
            · subst hk0
              simp only [Nat.zero_mul, Nat.add_zero] at e0 e1 e2
              have hok' : edgesOkTo s.al s.st s.es (0 + 1) := fun i hi hi' => by
                obtain rfl : i = 0 := by omega
                exact ⟨hek, fun j _ h => by omega⟩
              replace hE := hid hE
              replace hr := hid hr
              replace hok := hid hok
              replace hok' := hid hok'
              replace hnot := hid hnot
              replace hek := hid hek
              go_wp2_with fail
              refine wp_region_fam _ _ (by kernel_rfl) (by kernel_rfl) hb ?_
              repeat (go_big_quiet_step ((refine (l2Edge_any _ _ s.es[0] _).mono ?_; rintro e w1 ⟨rfl, hb1⟩; exact ⟨by rw [hek.out], Fam.next hz0 hb1⟩)))
              refine wpQuiet_nil ?_
              intro w2 hw2
              replace hw2 := Fam.out hw2
              go_wp2
              go_roundw
              case rel => exact ⟨1, by go_num, by omega, hok'.out, hw2⟩
              case measure => simp [intOf]; omega
            · obtain ⟨j, rfl⟩ : ∃ j, k = j + 1 := ⟨k - 1, by omega⟩
              obtain ⟨p0, p1, p2⟩ := hE j (by omega)
              replace hE := hid hE
              replace hr := hid hr
              have hyes : edgeLt s.es[j] s.es[j + 1] = true → edgesOkTo s.al s.st s.es (j + 1 + 1) := fun h i hi hi' => by
                by_cases e : i = j + 1
                · subst e
                  exact ⟨hek, fun m hm e => by obtain rfl : m = j := by omega
                                               exact h⟩
                · exact hok i hi (by omega)
              cases hlt' : edgeLt s.es[j] s.es[j + 1]
              all_goals
                replace hok := hid hok
                replace hnot := hid hnot
                replace hyes := hid hyes
                replace hek := hid hek
                replace hlt' := hid hlt'
                go_wp2_with fail
                refine wp_region_fam _ _ (by kernel_rfl) (by kernel_rfl) hb ?_
                repeat (go_big_quiet_step (first | (go_at_call 116; refine (l2Edge_any _ _ s.es[j + 1] _).mono ?_; rintro e w1 ⟨rfl, hb1⟩; exact ⟨by rw [hek.out], Fam.next hz0 hb1⟩) | (go_at_call 117; refine (l2Before_any s.es[j] s.es[j + 1] _).mono ?_; rintro e w1 ⟨rfl, hb1⟩; exact ⟨by rw [hlt'.out], Fam.next hz0 hb1⟩)))
                refine wpQuiet_nil ?_
                intro w2 hw2
                replace hw2 := Fam.out hw2
                go_wp2
              · go_ret
                have hfin := hnot.out fun h => by have := (h (j + 1) hlt (by omega)).2 j (by omega) rfl; rw [hlt'.out] at this; cases this
                exact ⟨by rw [hfin]; rfl, hB0.trans (hw2.mono (by omega))⟩
              · go_roundw
                case rel => exact ⟨j + 1 + 1, by go_num, by omega, hyes.out hlt'.out, hw2⟩
                case measure => simp [intOf]; omega
          · replace hE := hid hE
            replace hr := hid hr
            replace hok := hid hok
            replace hek : edgeOk s.al s.st s.es[k] = false := by simpa using hek
            have hfin := hid (hnot fun h => by have := (h k hlt (by omega)).1; rw [this] at hek; cases hek)
            clear hnot
            replace hek := hid hek
            go_wp2_with fail
            refine wp_region_fam _ _ (by kernel_rfl) (by kernel_rfl) hb ?_
            repeat (go_big_quiet_step ((refine (l2Edge_any _ _ s.es[k] _).mono ?_; rintro e w1 ⟨rfl, hb1⟩; exact ⟨by rw [hek.out], Fam.next hz0 hb1⟩)))
            refine wpQuiet_nil ?_
            intro w2 hw2
            replace hw2 := Fam.out hw2
            go_wp2
            go_ret
            exact ⟨by rw [hfin.out]; rfl, hB0.trans (hw2.mono (by omega))⟩
        · have hfin : Hid (sysOk s = true) := hid (by
            unfold sysOk
            rw [decide_eq_true_iff]
            exact ⟨ha, h1, h2, fun i hi hi' => hok i hi (by omega)⟩)
          replace hok := hid hok
          go_wp2
          go_ret
          exact ⟨by rw [hfin.out]; rfl, hB0.trans (hb.mono (by omega))⟩
    · have hfin : Hid (sysOk s = false) := hid (by
        unfold sysOk
        rw [decide_eq_false_iff_not]
        rintro ⟨_, h2, h3, _⟩
        omega)
      go_enter Tryd.func69, Tryd.ntmps69
      go_wp2_with (go_at_call 70; refine (l1Alphabet_any _ _).mono ?_; rintro e w' ⟨rfl, rfl⟩)
      all_goals
        go_ret
        exact ⟨by rw [hfin.out]; rfl, by (repeat (first | exact Below.refl _ _ | assumption | refine Below.drew ?_ | refine Below.alloc ?_ (by first | omega | (simp; done) | (simp; omega)) _ | refine Below.setCell ?_ (by first | omega | (simp; done) | (simp; omega)) _))⟩
  · have hfin : Hid (sysOk s = false) := hid (by
      unfold sysOk
      rw [decide_eq_false_iff_not]
      rintro ⟨h, _⟩
      exact ha h)
    go_enter Tryd.func69, Tryd.ntmps69
    go_wp2_with (go_at_call 70; refine (l1Alphabet_any _ _).mono ?_; rintro e w' ⟨rfl, rfl⟩)
    all_goals
      go_ret
      exact ⟨by rw [hfin.out]; rfl, by (repeat (first | exact Below.refl _ _ | assumption | refine Below.drew ?_ | refine Below.alloc ?_ (by first | omega | (simp; done) | (simp; omega)) _ | refine Below.setCell ?_ (by first | omega | (simp; done) | (simp; omega)) _))⟩

end Go.Proofs.YtbomhfbiaedbiaaDoor
