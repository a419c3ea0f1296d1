/- Lemmas, part 6: several texts in one. -/
import Derived.Test.YtempjhgajcdibaaDoorK3
import Derived.Test.YtempjhgajcdibaaDoorK2
import Derived.Lib.TrailingZeros
import Derived.Laws.Bits64b
import Derived.Shelf.Spec.TrailingZeros
import Derived.Maps.AppendAt
import Derived.Test.YtempjhgajcdibaaDoorK1
import Derived.BigQuiet
import Derived.BigRegion
import Derived.RegionTactic
set_option linter.unusedSimpArgs false
set_option linter.unusedVariables false

/- The program's SystemValid returns sysOk. -/
namespace Go.Proofs.YtempjhgajcdibaaDoor
open Go.RowKit Go.BigFrame AG
attribute [local go_sem] Fam.below

set_option maxHeartbeats 4000000 in
theorem implSystemValid_any (s : Sy) (A : Option Addr) (c : Nat) (w : World) (hl : s.es.length ≤ c) (hc : c ≤ 9223372036854775807) (hr : EdsAt w w.heap.size A s.es) :
    Calls Tryd.prog 19 #[s.val A c] w fun e w' => e = .returned (.bool (sysOk s)) ∧ Below w.heap.size w w' := by
  by_cases ha : alphaOk s.al = true
  · by_cases h1 : 1 ≤ s.st ∧ s.st ≤ 16
    · obtain ⟨h1, h2⟩ := h1
      have hbad : ∀ k, ¬ edgesOkTo s.al s.st s.es (k + 1) → sysOk s = false := fun k h => by
        unfold sysOk
        rw [decide_eq_false_iff_not]
        rintro ⟨_, _, _, h'⟩
        exact h fun i hi _ => h' i hi hi
      have hgood : edgesOkTo s.al s.st s.es s.es.length → sysOk s = true := fun h => by
        unfold sysOk
        rw [decide_eq_true_iff]
        exact ⟨ha, h1, h2, h⟩
      unfold Sy.val
      go_enter Tryd.func19, Tryd.ntmps19
      go_wp2_with (go_at_call 56; refine (isAlphabet_any _ _).mono ?_; rintro e w' ⟨rfl, rfl⟩)
      obtain ⟨w0, hw0, hz0, hB0, hS0, hS1, hS2⟩ := boxed3 w (Value.int IntKind.i64 s.al) (Value.int IntKind.i64 s.st) (Value.slice A s.es.length c) 25
      rw [hw0]
      clear hw0
      replace hgood := hid hgood
      replace hbad := hid hbad
      go_loopw [22] (fun i wr => ∃ k : Nat, i = .int .i64 k ∧ k ≤ s.es.length ∧ edgesOkTo s.al s.st s.es k ∧ Below (w.heap.size + 1) w0 wr) (fun i _ => s.es.length - (intOf i).toNat)
      case atStart => exact ⟨0, rfl, by omega, by intro i _ h; omega, Below.refl _ _⟩
      case round =>
        obtain ⟨k, rfl, hk, hok, hb⟩ := hrel
        by_cases hlt : k < s.es.length
        · obtain ⟨b, o, rfl, hB, hE⟩ := hr.get hB0 (Nat.le_succ w.heap.size) hlt
          obtain ⟨e0, e1, e2⟩ := hE k hlt
          have hek : edgeOk s.al s.st s.es[k] = (decide (0 ≤ s.es[k].f ∧ s.es[k].f < s.st) && (decide (0 ≤ s.es[k].t ∧ s.es[k].t < s.st) && (decide (s.es[k].l < 6) && HasZ s.al s.es[k].l))) := edgeOk_split _ _ _
          have hbadE : edgeOk s.al s.st s.es[k] = false → sysOk s = false := fun h => hbad.out k fun h' => by
            have := (h' k hlt (by omega)).1
            rw [h] at this
            cases this
          have hzr : w.heap.size + 1 ≤ wr.heap.size := Nat.le_trans hz0 hb.size
          replace hr := hid hr
          replace hok := hid hok
          replace hbadE := hid hbadE
          replace hek := hid hek
          go_wp2_with fail
          obtain ⟨w1, hw1, hz1, hB1, hE0, hE1, hE2⟩ := boxed3 wr (Value.int IntKind.i64 s.es[k].f) (Value.int IntKind.i64 s.es[k].l) (Value.int IntKind.i64 s.es[k].t) 64
          rw [hw1]
          clear hw1
          have hB1' : Below (w.heap.size + 1) wr w1 := hB1.mono hzr
          have hF : ∀ x, Below (w.heap.size + 1) w0 (Fam (wr.heap.size + 1) w1 x) := fun x => (hb.trans hB1').trans ((Fam.below _ _ _).mono (by omega))
          have hle : w.heap.size + 1 ≤ wr.heap.size + 1 := by omega
          have q0 := fun x => hS0 _ (hF x)
          have q1 := fun x => hS1 _ (hF x)
          have q2 := fun x => hS2 _ (hF x)
          clear hz0
          cases B1 : decide (0 ≤ s.es[k].f ∧ s.es[k].f < s.st)
          · replace B1 := hid B1
            replace hE := hid hE
            (refine wp_region_fam (wr.heap.size + 1) w1 (by kernel_rfl) (by kernel_rfl) (Below.refl _ _) ?_; (repeat (go_big_quiet_step (first | (go_at_call 57; refine (isState_any s _ c _ _).mono ?_; rintro e w3 ⟨rfl, hb3⟩; exact ⟨(by first | rw [B1.out] | rw [B2.out]), Fam.next hz1 hb3⟩) | (go_at_call 58; refine (has_any _ _ _ (by omega)).mono ?_; rintro e w3 ⟨rfl, rfl⟩; exact ⟨by rw [B4.out], _, rfl⟩) | (go_at_call 59; fail)))); refine wpQuiet_nil ?_; intro w2 hw2; replace hw2 := Fam.out hw2; have hw3 : Below (w.heap.size + 1) w0 w2 := (hb.trans hB1').trans (hw2.mono hle); go_wp2)
            go_ret
            exact ⟨by rw [hbadE.out (by rw [hek.out, B1.out]; rfl)]; rfl, hB0.trans (hw3.mono (by omega))⟩
          cases B2 : decide (0 ≤ s.es[k].t ∧ s.es[k].t < s.st)
          · replace B1 := hid B1
            replace B2 := hid B2
            replace hE := hid hE
            (refine wp_region_fam (wr.heap.size + 1) w1 (by kernel_rfl) (by kernel_rfl) (Below.refl _ _) ?_; (repeat (go_big_quiet_step (first | (go_at_call 57; refine (isState_any s _ c _ _).mono ?_; rintro e w3 ⟨rfl, hb3⟩; exact ⟨(by first | rw [B1.out] | rw [B2.out]), Fam.next hz1 hb3⟩) | (go_at_call 58; refine (has_any _ _ _ (by omega)).mono ?_; rintro e w3 ⟨rfl, rfl⟩; exact ⟨by rw [B4.out], _, rfl⟩) | (go_at_call 59; fail)))); refine wpQuiet_nil ?_; intro w2 hw2; replace hw2 := Fam.out hw2; have hw3 : Below (w.heap.size + 1) w0 w2 := (hb.trans hB1').trans (hw2.mono hle); go_wp2)
            go_ret
            exact ⟨by rw [hbadE.out (by rw [hek.out, B1.out, B2.out]; rfl)]; rfl, hB0.trans (hw3.mono (by omega))⟩
          by_cases h3 : s.es[k].l < 6
          · have h3d : decide (6 ≤ s.es[k].l) = false := by simp; omega
            cases B4 : HasZ s.al s.es[k].l
            · replace B1 := hid B1
              replace B2 := hid B2
              replace B4 := hid B4
              replace hE := hid hE
              (refine wp_region_fam (wr.heap.size + 1) w1 (by kernel_rfl) (by kernel_rfl) (Below.refl _ _) ?_; (repeat (go_big_quiet_step (first | (go_at_call 57; refine (isState_any s _ c _ _).mono ?_; rintro e w3 ⟨rfl, hb3⟩; exact ⟨(by first | rw [B1.out] | rw [B2.out]), Fam.next hz1 hb3⟩) | (go_at_call 58; refine (has_any _ _ _ (by omega)).mono ?_; rintro e w3 ⟨rfl, rfl⟩; exact ⟨by rw [B4.out], _, rfl⟩) | (go_at_call 59; fail)))); refine wpQuiet_nil ?_; intro w2 hw2; replace hw2 := Fam.out hw2; have hw3 : Below (w.heap.size + 1) w0 w2 := (hb.trans hB1').trans (hw2.mono hle); go_wp2)
              go_ret
              exact ⟨by rw [hbadE.out (by rw [hek.out, B1.out, B2.out, B4.out]; simp)]; rfl, hB0.trans (hw3.mono (by omega))⟩
            · have hek' : edgeOk s.al s.st s.es[k] = true := by rw [hek.out, B1, B2, B4]; simpa using h3
              by_cases hk0 : k = 0
              · subst hk0
                simp only [Nat.zero_mul, Nat.add_zero] at e0 e1 e2
                have hok' : edgesOkTo s.al s.st s.es (0 + 1) := fun i hi hi' => by
                  obtain rfl : i = 0 := by omega
                  exact ⟨hek', fun j _ h => by omega⟩
                replace hok' := hid hok'
                replace B1 := hid B1
                replace B2 := hid B2
                replace B4 := hid B4
                replace hek' := hid hek'
                replace hE := hid hE
                (refine wp_region_fam (wr.heap.size + 1) w1 (by kernel_rfl) (by kernel_rfl) (Below.refl _ _) ?_; (repeat (go_big_quiet_step (first | (go_at_call 57; refine (isState_any s _ c _ _).mono ?_; rintro e w3 ⟨rfl, hb3⟩; exact ⟨(by first | rw [B1.out] | rw [B2.out]), Fam.next hz1 hb3⟩) | (go_at_call 58; refine (has_any _ _ _ (by omega)).mono ?_; rintro e w3 ⟨rfl, rfl⟩; exact ⟨by rw [B4.out], _, rfl⟩) | (go_at_call 59; fail)))); refine wpQuiet_nil ?_; intro w2 hw2; replace hw2 := Fam.out hw2; have hw3 : Below (w.heap.size + 1) w0 w2 := (hb.trans hB1').trans (hw2.mono hle); go_wp2)
                go_roundw
                case rel => exact ⟨1, by go_num, by omega, hok'.out, hw3⟩
                case measure => simp [intOf]; omega
              · obtain ⟨j, rfl⟩ : ∃ j, k = j + 1 := ⟨k - 1, by omega⟩
                obtain ⟨p0, p1, p2⟩ := hE j (by omega)
                replace p0 := fun x => p0 _ (hF x)
                replace p1 := fun x => p1 _ (hF x)
                replace p2 := fun x => p2 _ (hF x)
                replace hE := hid hE
                have hcmp := cmpE_ge s.es[j] s.es[j + 1]
                have hrng : edgeLt s.es[j] s.es[j + 1] = true → edgesOkTo s.al s.st s.es (j + 1 + 1) := fun h i hi hi' => by
                  by_cases e : i = j + 1
                  · subst e
                    exact ⟨hek', fun m hm e => by obtain rfl : m = j := by omega
                                                  exact h⟩
                  · exact hok.out i hi (by omega)
                replace B1 := hid B1
                replace B2 := hid B2
                replace B4 := hid B4
                replace hek' := hid hek'
                replace hrng := hid hrng
                by_cases hge : 0 ≤ cmpE s.es[j] s.es[j + 1]
                · have hno : edgeLt s.es[j] s.es[j + 1] = false := by simpa [hge] using hcmp
                  replace hno := hid hno
                  have hgd : decide (0 ≤ cmpE s.es[j] s.es[j + 1]) = true := by simpa using hge
                  clear hcmp
                  (refine wp_region_fam (wr.heap.size + 1) w1 (by kernel_rfl) (by kernel_rfl) (Below.refl _ _) ?_; (repeat (go_big_quiet_step (first | (go_at_call 57; refine (isState_any s _ c _ _).mono ?_; rintro e w3 ⟨rfl, hb3⟩; exact ⟨(by first | rw [B1.out] | rw [B2.out]), Fam.next hz1 hb3⟩) | (go_at_call 58; refine (has_any _ _ _ (by omega)).mono ?_; rintro e w3 ⟨rfl, rfl⟩; exact ⟨by rw [B4.out], _, rfl⟩) | (go_at_call 59; refine (compareEdges_any s.es[j] s.es[j + 1] _).mono ?_; rintro e w3 ⟨rfl, hb3⟩; exact ⟨rfl, Fam.next hz1 hb3⟩)))); refine wpQuiet_nil ?_; intro w2 hw2; replace hw2 := Fam.out hw2; have hw3 : Below (w.heap.size + 1) w0 w2 := (hb.trans hB1').trans (hw2.mono hle); go_wp2)
                  go_ret
                  have hfin := hbad.out (j + 1) fun h => by have := (h (j + 1) hlt (by omega)).2 j (by omega) rfl; rw [hno.out] at this; cases this
                  exact ⟨by rw [hfin]; rfl, hB0.trans (hw3.mono (by omega))⟩
                · have hyes : edgeLt s.es[j] s.es[j + 1] = true := by simpa [hge] using hcmp
                  replace hyes := hid hyes
                  have hgd : decide (0 ≤ cmpE s.es[j] s.es[j + 1]) = false := by simpa using hge
                  clear hcmp
                  (refine wp_region_fam (wr.heap.size + 1) w1 (by kernel_rfl) (by kernel_rfl) (Below.refl _ _) ?_; (repeat (go_big_quiet_step (first | (go_at_call 57; refine (isState_any s _ c _ _).mono ?_; rintro e w3 ⟨rfl, hb3⟩; exact ⟨(by first | rw [B1.out] | rw [B2.out]), Fam.next hz1 hb3⟩) | (go_at_call 58; refine (has_any _ _ _ (by omega)).mono ?_; rintro e w3 ⟨rfl, rfl⟩; exact ⟨by rw [B4.out], _, rfl⟩) | (go_at_call 59; refine (compareEdges_any s.es[j] s.es[j + 1] _).mono ?_; rintro e w3 ⟨rfl, hb3⟩; exact ⟨rfl, Fam.next hz1 hb3⟩)))); refine wpQuiet_nil ?_; intro w2 hw2; replace hw2 := Fam.out hw2; have hw3 : Below (w.heap.size + 1) w0 w2 := (hb.trans hB1').trans (hw2.mono hle); go_wp2)
                  go_roundw
                  case rel => exact ⟨j + 1 + 1, by go_num, by omega, hrng.out hyes.out, hw3⟩
                  case measure => simp [intOf]; omega
          · have h3d : decide (6 ≤ s.es[k].l) = true := by simp; omega
            replace B1 := hid B1
            replace B2 := hid B2
            replace hE := hid hE
            (refine wp_region_fam (wr.heap.size + 1) w1 (by kernel_rfl) (by kernel_rfl) (Below.refl _ _) ?_; (repeat (go_big_quiet_step (first | (go_at_call 57; refine (isState_any s _ c _ _).mono ?_; rintro e w3 ⟨rfl, hb3⟩; exact ⟨(by first | rw [B1.out] | rw [B2.out]), Fam.next hz1 hb3⟩) | (go_at_call 58; refine (has_any _ _ _ (by omega)).mono ?_; rintro e w3 ⟨rfl, rfl⟩; exact ⟨by rw [B4.out], _, rfl⟩) | (go_at_call 59; fail)))); refine wpQuiet_nil ?_; intro w2 hw2; replace hw2 := Fam.out hw2; have hw3 : Below (w.heap.size + 1) w0 w2 := (hb.trans hB1').trans (hw2.mono hle); go_wp2)
            go_ret
            exact ⟨by rw [hbadE.out (by rw [hek.out, B1.out, B2.out]; simp; omega)]; rfl, hB0.trans (hw3.mono (by omega))⟩
        · have hfin : Hid (sysOk s = true) := hid (hgood.out fun i hi hi' => hok i hi (by omega))
          replace hok := hid hok
          go_wp2
          go_ret
          exact ⟨by rw [hfin.out]; rfl, hB0.trans (hb.mono (by omega))⟩
    · have hfin : Hid (sysOk s = false) := hid (by
        unfold sysOk
        rw [decide_eq_false_iff_not]
        rintro ⟨_, h2, h3, _⟩
        omega)
      unfold Sy.val
      go_enter Tryd.func19, Tryd.ntmps19
      go_wp2_with (go_at_call 56; refine (isAlphabet_any _ _).mono ?_; rintro e w' ⟨rfl, rfl⟩)
      all_goals
        go_ret
        exact ⟨by rw [hfin.out]; rfl, by (repeat (first | exact Below.refl _ _ | assumption | refine Below.drew ?_ | refine Below.alloc ?_ (by first | omega | (simp; done) | (simp; omega)) _ | refine Below.setCell ?_ (by first | omega | (simp; done) | (simp; omega)) _))⟩
  · have hfin : Hid (sysOk s = false) := hid (by
      unfold sysOk
      rw [decide_eq_false_iff_not]
      rintro ⟨h, _⟩
      exact ha h)
    unfold Sy.val
    go_enter Tryd.func19, Tryd.ntmps19
    go_wp2_with (go_at_call 56; refine (isAlphabet_any _ _).mono ?_; rintro e w' ⟨rfl, rfl⟩)
    all_goals
      go_ret
      exact ⟨by rw [hfin.out]; rfl, by (repeat (first | exact Below.refl _ _ | assumption | refine Below.drew ?_ | refine Below.alloc ?_ (by first | omega | (simp; done) | (simp; omega)) _ | refine Below.setCell ?_ (by first | omega | (simp; done) | (simp; omega)) _))⟩

end Go.Proofs.YtempjhgajcdibaaDoor

/- The program's moves, and the states that it reaches. -/
namespace Go.Proofs.YtempjhgajcdibaaDoor
open Go.RowKit Go.BigFrame AG

/-- The library's table lies as its initialiser lays it. -/
def Tab (w : World) : Prop := ∀ j, j < Lib.deBruijn64tab.length → w.cell? ⟨1, j, none⟩ = some (.int .u8 (Lib.deBruijn64tab.getD j 0))

theorem Tab.later {w w' : World} (h : Tab w) (hb : Below w.heap.size w w') : Tab w' := fun j hj => by
  have := h j hj
  rw [hb.cell (World.block_lt_of_cell? _ _ this)]
  exact this

set_option maxHeartbeats 1000000 in
theorem tz64_core_ (x k idx : Nat) (w : World) (hx0 : ((x : Int) == 0) = false)
    (key : IntKind.u64.wrap (bits BinOp.and IntKind.u64 (x : Int) (IntKind.u64.wrap (-(x : Int))) * 285870213051353865) / 288230376151711744 = (idx : Int))
    (hi : idx < 64) (hk : k < 64) (hcell : w.cell? ⟨1, idx, none⟩ = some (.int .u8 k)) :
    Calls Tryd.prog 162 #[.int .u64 x] w fun e w' => e = .returned (.int .i64 k) ∧ w = w' := by
  go_enter Tryd.func162, Tryd.ntmps162
  go_wp2_with (simp only [key])
  go_ret
  exact ⟨rfl, rfl⟩

theorem trailingZeros64_any (x : Nat) (hx : x < 18446744073709551616) (hx0 : x ≠ 0) (w : World) (hT : Tab w) :
    Calls Tryd.prog 162 #[.int .u64 x] w fun e w' => e = .returned (.int .i64 (Lib.ctz 64 x)) ∧ w = w' := by
  obtain ⟨hlow, hk⟩ := Lib.lowest_bit 64 x hx0 hx
  obtain ⟨hi, htab⟩ := Lib.deBruijn64_at _ hk
  have hcell := hT _ hi
  rw [htab] at hcell
  exact tz64_core_ x _ _ w (by simp; omega) (tz64_key x _ hx hx0 hlow) hi hk hcell

set_option maxHeartbeats 1000000 in
theorem trailingZeros_any (x : Nat) (hx : x < 18446744073709551616) (hx0 : x ≠ 0) (w : World) (hT : Tab w) :
    Calls Tryd.prog 131 #[.int .u64 x] w fun e w' => e = .returned (.int .i64 (Lib.ctz 64 x)) ∧ w = w' := by
  replace hT := hid hT
  go_enter Tryd.func131, Tryd.ntmps131
  go_wp2_with (go_at_call 162; refine (trailingZeros64_any x hx hx0 _ hT.out).mono ?_; rintro e w' ⟨rfl, rfl⟩)
  go_ret
  exact ⟨rfl, rfl⟩

theorem zeroMoves : Tryd.zeroCells131 = Array.replicate 96 (Value.int .i64 0) := by kernel_rfl

set_option maxHeartbeats 1000000 in
theorem movesOf_any (s : Sy) (A : Option Addr) (c : Nat) (w : World) (hs : edgesIn s) (hl : s.es.length ≤ c) (hc : c ≤ 9223372036854775807) (hr : EdsAt w w.heap.size A s.es) :
    Calls Tryd.prog 77 #[s.val A c] w (MvPost (mv s) w) := by
  unfold Sy.val
  replace hr := hid hr
  replace hs := hid hs
  go_enter Tryd.func77, Tryd.ntmps77
  go_wp2_with fail
  obtain ⟨w0, hw0, hz0, hB0, hS0, hS1, hS2⟩ := boxed3 w (Value.int IntKind.i64 s.al) (Value.int IntKind.i64 s.st) (Value.slice A s.es.length c) 25
  obtain ⟨w1, hw1⟩ : ∃ w1, (w.alloc (Obj.cells #[Value.int IntKind.i64 s.al, Value.int IntKind.i64 s.st, Value.slice A s.es.length c] 25)).alloc (Obj.cells Tryd.zeroCells131 131) = w1 := ⟨_, rfl⟩
  have hblk0 : Blk w1 (w.heap.size + 1) 131 Tryd.zeroCells131 := by
    rw [← hw1]
    have := Blk.new (w.alloc (Obj.cells #[Value.int IntKind.i64 s.al, Value.int IntKind.i64 s.st, Value.slice A s.es.length c] 25)) 131 Tryd.zeroCells131
    simpa using this
  have hB1 : Below w.heap.size w w1 := by rw [← hw1]; (repeat (first | exact Below.refl _ _ | assumption | refine Below.drew ?_ | refine Below.alloc ?_ (by first | omega | (simp; done) | (simp; omega)) _ | refine Below.setCell ?_ (by first | omega | (simp; done) | (simp; omega)) _))
  have hz1 : w1.heap.size = w.heap.size + 2 := by rw [← hw1]; simp
  have hin0 : MvIn Tryd.zeroCells131 (mvTo s 0) := by
    rw [zeroMoves]
    refine ⟨by simp, fun q l hq hl => ?_⟩
    rw [mvTo_zero, Array.getElem?_replicate, if_pos (by omega)]
    rfl
  rw [hw1]
  clear hw1 hw0 hS0 hS1 hS2 hB0 hz0 w0
  replace hz1 := hid hz1
  replace hin0 := hid hin0
  replace hblk0 := hid hblk0
  go_loopw [10] (fun i wr => ∃ (k : Nat) (cs : Array Value), i = .int .i64 k ∧ k ≤ s.es.length ∧ MvIn cs (mvTo s k) ∧ Blk wr (w.heap.size + 1) 131 cs ∧ Below w.heap.size w wr) (fun i _ => s.es.length - (intOf i).toNat)
  case atStart => exact ⟨0, _, rfl, by omega, hin0.out, hblk0.out, hB1⟩
  case round =>
    obtain ⟨k, cs, rfl, hk, hin, hblk, hb⟩ := hrel
    by_cases hlt : k < s.es.length
    · obtain ⟨b, o, rfl, hB, hE⟩ := hr.out.get (Below.refl _ _) (Nat.le_refl _) hlt
      obtain ⟨e0, e1, e2⟩ := hE k hlt
      obtain ⟨f1, f2, f3, f4, f5, f6, _⟩ := hs.out s.es[k] (List.getElem_mem _)
      have hzr := hb.size
      have hg := hblk.lt
      replace hE := hid hE
      replace hin := hid hin
      replace hblk := hid hblk
      go_wp2_with fail
      obtain ⟨w2, hw2, hz2, hB2, hE0, hE1, hE2⟩ := boxed3 wr (Value.int IntKind.i64 s.es[k].f) (Value.int IntKind.i64 s.es[k].l) (Value.int IntKind.i64 s.es[k].t) 64
      rw [hw2]
      clear hw2
      have g0 := fun x => hE0 _ (Fam.below (wr.heap.size + 1) w2 x)
      have g1 := fun x => hE1 _ (Fam.below (wr.heap.size + 1) w2 x)
      have g2 := fun x => hE2 _ (Fam.below (wr.heap.size + 1) w2 x)
      have hblk2 := hblk.out.below hB2 hg
      have hm : ∀ x, (Fam (wr.heap.size + 1) w2 x).cell? ⟨w.heap.size + 1, s.es[k].f.toNat * 6 + s.es[k].l.toNat, none⟩ = some (.int .i64 (mvTo s k s.es[k].f.toNat s.es[k].l.toNat : Nat)) := fun x => by
        rw [(hblk2.below (Fam.below (wr.heap.size + 1) w2 x) (by omega)).cell]
        exact hin.out.2 _ _ (by omega) (by omega)
      refine wp_region_fam_tail (wr.heap.size + 1) w2 16 (by kernel_rfl) (by kernel_rfl) (Below.refl _ _) ?_
      simp only [List.take_succ_cons, List.take_zero, List.drop_succ_cons, List.drop_zero]
      (repeat (go_big_quiet_step (fail)))
      refine wpQuiet_nil ?_
      intro w3 hw3
      replace hw3 := Fam.out hw3
      have hblk3 := hblk2.below hw3 (by omega)
      have hsz := hin.out.1
      obtain ⟨v3, d3⟩ := hblk3.some_ (i := s.es[k].f.toNat * 6 + s.es[k].l.toNat) (by omega)
      have z3 := hblk3.frozen (s.es[k].f.toNat * 6 + s.es[k].l.toNat)
      have hb3 : Below w.heap.size w w3 := (hb.trans (hB2.mono hzr)).trans (hw3.mono (by omega))
      have hval : bits BinOp.or IntKind.i64 (mvTo s k s.es[k].f.toNat s.es[k].l.toNat : Nat) (wrap64 (2 ^ s.es[k].t.toNat)) = (mvTo s (k + 1) s.es[k].f.toNat s.es[k].l.toNat : Nat) := by
        rw [wrap_pow (by omega), bits_orN _ _ (mvTo_lt s k _ _) (by have := Nat.pow_lt_pow_right (a := 2) (by omega) (show s.es[k].t.toNat < 16 by omega); omega), mvTo_hit hs.out hlt]
      have hnx := hin.out.set_ (m' := mvTo s (k + 1)) (q0 := s.es[k].f.toNat) (l0 := s.es[k].l.toNat) (by omega) (by omega) hval (fun q l h => mvTo_miss hlt h)
      replace hnx := hid hnx
      replace hval := hid hval
      replace hblk3 := hid hblk3
      replace hblk2 := hid hblk2
      replace hsz := hid hsz
      go_wp2
      go_roundw
      case rel => exact ⟨k + 1, _, by go_num, by omega, hnx.out, hblk3.out.set_ _ _, by (repeat (first | exact Below.refl _ _ | assumption | refine Below.drew ?_ | refine Below.alloc ?_ (by first | omega | (simp; done) | (simp; omega)) _ | refine Below.setCell ?_ (by first | omega | (simp; done) | (simp; omega)) _))⟩
      case measure => simp [intOf]; omega
    · obtain rfl : k = s.es.length := by omega
      have hmv : MvAt wr wr.heap.size (w.heap.size + 1) (mv s) := ⟨hblk.lt, fun q l hq hl => by rw [hblk.cell]; exact hin.2 q l hq hl⟩
      replace hmv := hid hmv
      replace hin := hid hin
      replace hblk := hid hblk
      go_wp2
      go_ret
      exact ⟨_, rfl, hmv.out, hb⟩

set_option maxHeartbeats 1000000 in
theorem step_any (m : Nat → Nat → Nat) (g S l : Nat) (w : World) (hl : l < 6) (hm : ∀ q, m q l < 65536) (hS : S < 65536) (hT : Tab w) (hg : MvAt w w.heap.size g m) :
    Calls Tryd.prog 79 #[.pointer (some ⟨g, 0, none⟩), .int .i64 S, .int .i64 l] w fun e w' => e = .returned (.int .i64 (unionOf m S l : Nat)) ∧ Below w.heap.size w w' := by
  replace hT := hid hT
  replace hg := hid hg
  have hst := hid (Gather.start (l := l) hm hS)
  replace hm := hid hm
  go_enter Tryd.func79, Tryd.ntmps79
  go_wp2_with fail
  go_loopw [1, 7] (fun st o wr => ∃ T O : Nat, st = .int .i64 T ∧ o = .int .i64 O ∧ Gather m S l T O ∧ Below w.heap.size w wr) (fun st _ _ => (intOf st).toNat)
  case atStart => exact ⟨S, 0, rfl, rfl, hst.out, Below.refl _ _⟩
  case round =>
    obtain ⟨T, O, rfl, rfl, hga, hb⟩ := hrel
    have hTl := hga.lt
    by_cases hT0 : T = 0
    · subst hT0
      have hdone := hid hga.done
      replace hga := hid hga
      go_wp2
      go_ret
      exact ⟨by rw [← hdone.out]; rfl, hb⟩
    · obtain ⟨mm, hTm, hq64⟩ := Lib.ctzFrom_spec 64 T (by omega) (by omega)
      have hctz : Lib.ctz 64 T = Lib.ctzFrom 64 T := by unfold Lib.ctz; rw [if_neg hT0]
      rw [← hctz] at hTm hq64
      obtain ⟨hbit, hbits, hdec⟩ := drop_low hTm
      have hq16 : Lib.ctz 64 T < 16 := testBit_lt (n := 16) hTl hbit
      have hnx := hid (hga.next (hm.out _) hbit hbits)
      have hOl := hga.olt
      have hcell : ∀ x, (Fam w.heap.size w x).cell? ⟨g, Lib.ctz 64 T * 6 + l, none⟩ = some (.int .i64 (m (Lib.ctz 64 T) l : Nat)) := fun x => (hg.out.keep (Fam.below _ _ x)).2 _ _ hq16 hl
      have hTF : ∀ x, Tab (Fam w.heap.size w x) := fun x => hT.out.later (Fam.below _ _ x)
      have hne : ((T : Int) != 0) = true := by simpa using hT0
      have hand := hid (bits_andN T (T - 1) hTl (by omega))
      have hor := hid (bits_orN O (m (Lib.ctz 64 T) l) hOl (hm.out _))
      have e1 : ((T : Int) - 1) = ((T - 1 : Nat) : Int) := by omega
      replace e1 := hid e1
      replace hTF := hid hTF
      replace hga := hid hga
      replace hdec := hid hdec
      clear hbits hbit hTm hctz
      generalize hqq : Lib.ctz 64 T = q at *
      replace hqq := hid hqq
      go_wp2_with fail
      refine wp_region_fam w.heap.size w (by kernel_rfl) (by kernel_rfl) hb ?_
      (repeat (go_big_quiet_step ((refine (trailingZeros_any T (by omega) hT0 _ (hTF.out _)).mono ?_; rintro e w1 ⟨rfl, rfl⟩; exact ⟨by rw [hqq.out], _, rfl⟩))))
      refine wpQuiet_nil ?_
      intro w2 hw2
      replace hw2 := Fam.out hw2
      go_wp2
      go_roundw
      case rel => exact ⟨_, _, by rw [e1.out, hand.out], by rw [hor.out], hnx.out, hw2⟩
      case measure => rw [e1.out, hand.out]; simp [intOf]; exact hdec.out

set_option maxHeartbeats 1000000 in
theorem implReachableStates_any (s : Sy) (A : Option Addr) (c : Nat) (w : World) (hl : s.es.length ≤ c) (hc : c ≤ 9223372036854775807) (hT : Tab w) (hr : EdsAt w w.heap.size A s.es) :
    Calls Tryd.prog 93 #[s.val A c] w fun e w' => e = .returned (.int .i64 (if sysOk s then reachAll s else 0 : Nat)) ∧ Below w.heap.size w w' := by
  unfold Sy.val
  replace hr := hid hr
  replace hT := hid hT
  cases hok : sysOk s
  all_goals
    replace hok := hid hok
    go_enter Tryd.func93, Tryd.ntmps93
    go_wp2_with fail
    obtain ⟨w0, hw0, hz0, hB0, hS0, hS1, hS2⟩ := boxed3 w (Value.int IntKind.i64 s.al) (Value.int IntKind.i64 s.st) (Value.slice A s.es.length c) 25
    rw [hw0]
    clear hw0
    have hr0 := hid ((hr.out.keep hB0).more (show w.heap.size ≤ w0.heap.size by omega))
    refine (implSystemValid_any s A c w0 hl hc hr0.out).mono ?_
    rintro e w1 ⟨rfl, hb1⟩
    rw [hok.out]
    have hB1 : Below w.heap.size w w1 := hB0.trans (hb1.mono (by omega))
    have hb1' := hb1.mono hz0
  · go_wp2
    go_ret
    exact ⟨rfl, hB1⟩
  · have hr1 := hid (hr0.out.later hb1)
    go_wp2_with fail
    refine (movesOf_any s A c w1 (sysOk_in hok.out) hl hc hr1.out).mono ?_
    rintro e w2 ⟨g, rfl, hg, hb2⟩
    have hB2 : Below w.heap.size w w2 := hB1.trans (hb2.mono hB1.size)
    replace hg := hid hg
    go_wp2_with fail
    have hin := hid (sysOk_in hok.out)
    have hT2 := hid (hT.out.later hB2)
    have hls1 : ∀ e ∈ s.es, e.l.toNat ∈ List.range 6 → Has s.al e.l.toNat = true := fun e he _ => (hin.out e he).2.2.2.2.2.2.1
    have hls2 : ∀ e ∈ s.es, Has s.al e.l.toNat = true → e.l.toNat ∈ List.range 6 := fun e he _ => by have := hin.out e he; rw [List.mem_range]; omega
    replace hls1 := hid hls1
    replace hls2 := hid hls2
    go_loopw [4] (fun st wr => ∃ T : Nat, st = .int .i64 T ∧ T < 65536 ∧ (∀ x, (1 : Nat).testBit x = true → T.testBit x = true) ∧ (∀ x, T.testBit x = true → Rch s s.al 1 x) ∧ Below w2.heap.size w2 wr) (fun st _ => 65536 - (intOf st).toNat)
    case atStart => exact ⟨1, rfl, by omega, fun _ h => h, fun _ h => Rch.start h, Below.refl _ _⟩
    case round =>
      obtain ⟨T, rfl, hTl, hbase, hins, hb⟩ := hrel
      replace hbase := hid hbase
      replace hins := hid hins
      go_wp2_with fail
      obtain ⟨wo, rfl⟩ : ∃ wo : World, wo = wr := ⟨_, rfl⟩
      go_loopw [5, 13] (fun mo i wr => ∃ k : Nat, i = .int .i64 k ∧ k ≤ 6 ∧ mo = .int .i64 (closeTo (mv s) T k : Nat) ∧ Below w2.heap.size w2 wr) (fun _ i _ => 6 - (intOf i).toNat)
      case atStart => exact ⟨0, rfl, by omega, by rw [closeTo_zero], hb⟩
      case round =>
        obtain ⟨k, rfl, hk, rfl, hb1⟩ := hrel
        have hcl : closeTo (mv s) T k < 65536 := closeL_lt (mv s) hTl (List.range k)
        by_cases hlt : k < 6
        · have hcs := hid (closeTo_succ (mv s) T k)
          have hor := hid (bits_orN (closeTo (mv s) T k) (unionOf (mv s) T k) hcl (unionOf_lt _ _ _))
          have hzr := hb1.size
          have hgr := hid (hg.out.later hb1)
          have hTr := hid (hT2.out.later hb1)
          go_wp2_with (refine (step_any (mv s) g T k _ hlt (fun q => mv_lt s q k) hTl hTr.out hgr.out).mono ?_; rintro e w3 ⟨rfl, hb3⟩)
          have hb4 := hb1.trans (hb3.mono hzr)
          go_roundw
          case rel => exact ⟨k + 1, by go_num, by omega, by rw [hor.out, hcs.out], hb4⟩
          case measure => simp [intOf]; omega
        · obtain rfl : k = 6 := by omega
          have hge : T ≤ closeTo (mv s) T 6 := closeL_ge (mv s) T (List.range 6)
          have hB3 : Below w.heap.size w wr := hB2.trans (hb1.mono hB2.size)
          by_cases hfix : closeTo (mv s) T 6 = T
          · have hfin := hid (closeL_fix hin.out hTl hfix hbase.out hins.out hls2.out)
            have hd : ((closeTo (mv s) T 6 : Nat) == (T : Int)) = true := by rw [hfix]; simp
            replace hfix := hid hfix
            go_wp2
            go_ret
            exact ⟨ret_int (by unfold reachAll; rw [← hfin.out]), hB3⟩
          · have hd : (((closeTo (mv s) T 6 : Nat) : Int) == (T : Int)) = false := by simp; omega
            have hins2 := hid (closeL_inside hin.out hins.out hls1.out)
            have hbase2 : Hid (∀ x, (1 : Nat).testBit x = true → (closeTo (mv s) T 6).testBit x = true) := hid fun x hx => (closeL_testBit _ _ _ _).2 (.inl (hbase.out x hx))
            have hlt' : T < closeTo (mv s) T 6 := by omega
            replace hfix := hid hfix
            go_wp2
            go_roundw
            case rel => exact ⟨_, rfl, hcl, hbase2.out, hins2.out, hb1⟩
            case measure => simp [intOf]; omega

end Go.Proofs.YtempjhgajcdibaaDoor

/- Plain: the members of a set of small numbers as a list. -/
namespace AG

theorem sorted_ext : ∀ {l1 l2 : List Nat}, l1.Pairwise (· < ·) → l2.Pairwise (· < ·) → (∀ x, x ∈ l1 ↔ x ∈ l2) → l1 = l2
  | [], [], _, _, _ => rfl
  | [], b :: l2, _, _, h => by have := (h b).2 List.mem_cons_self; cases this
  | a :: l1, [], _, _, h => by have := (h a).1 List.mem_cons_self; cases this
  | a :: l1, b :: l2, h1, h2, h => by
    rw [List.pairwise_cons] at h1 h2
    have hab : a = b := by
      have ha := (h a).1 List.mem_cons_self
      have hb := (h b).2 List.mem_cons_self
      rcases List.mem_cons.1 ha with e | ha
      · exact e
      · rcases List.mem_cons.1 hb with e | hb
        · exact e.symm
        · have := h1.1 b hb
          have := h2.1 a ha
          omega
    subst hab
    have : l1 = l2 := sorted_ext h1.2 h2.2 fun x => by
      have hx := h x
      simp only [List.mem_cons] at hx
      constructor
      · intro hm
        rcases hx.1 (.inr hm) with e | e
        · subst e
          exact absurd (h1.1 x hm) (by omega)
        · exact e
      · intro hm
        rcases hx.2 (.inr hm) with e | e
        · subst e
          exact absurd (h2.1 x hm) (by omega)
        · exact e
    rw [this]

/-- The members of a set of states, in order. -/
def memL (S : Nat) : List Nat := (List.range 16).filter fun q => S.testBit q
theorem memL_mem {S q : Nat} : q ∈ memL S ↔ q < 16 ∧ S.testBit q = true := by unfold memL; rw [List.mem_filter, List.mem_range]
theorem memL_sorted (S : Nat) : (memL S).Pairwise (· < ·) := by unfold memL; exact List.Pairwise.filter _ List.pairwise_lt_range
theorem memL_len (S : Nat) : (memL S).length ≤ 16 := Nat.le_trans (List.length_filter_le _ _) (by simp)
theorem memL_zero : memL 0 = [] := by unfold memL; rw [List.filter_eq_nil_iff]; intro x _; simp
theorem memL_low {S q m : Nat} (hS : S < 65536) (h : S = 2 ^ q * (2 * m + 1)) : memL S = q :: memL (S &&& (S - 1)) := by
  obtain ⟨hbit, hbits, _⟩ := drop_low h
  have hq : q < 16 := testBit_lt (n := 16) hS hbit
  have hlow : ∀ j, j < q → S.testBit j = false := fun j hj => by
    have : S = 2 ^ q * (2 * m + 1) + 0 := by omega
    rw [this, Nat.testBit_two_pow_mul_add _ (Nat.two_pow_pos q), if_pos hj, Nat.zero_testBit]
  refine sorted_ext (memL_sorted _) ?_ fun x => ?_
  · rw [List.pairwise_cons]
    refine ⟨fun x hx => ?_, memL_sorted _⟩
    have hx2 := (memL_mem.1 hx).2
    rw [hbits] at hx2
    simp only [Bool.and_eq_true, decide_eq_true_eq] at hx2
    rcases Nat.lt_trichotomy x q with h1 | h1 | h1
    · rw [hlow x h1] at hx2
      cases hx2.1
    · exact absurd h1 hx2.2
    · exact h1
  · rw [List.mem_cons, memL_mem, memL_mem, hbits]
    simp only [Bool.and_eq_true, decide_eq_true_eq]
    constructor
    · rintro ⟨h1, h2⟩
      by_cases e : x = q
      · exact .inl e
      · exact .inr ⟨h1, h2, e⟩
    · rintro (rfl | ⟨h1, h2, _⟩)
      · exact ⟨hq, hbit⟩
      · exact ⟨h1, h2⟩

theorem letters_of_six {A : Int} {l : Nat} (h1 : l < 6) (h2 : Has A l = true) : l ∈ letters A := by
  unfold letters lettersTo
  rw [List.mem_filter, List.mem_range]
  exact ⟨h1, h2⟩
end AG

/- The program's sameAlphabets, lettersOf, letterByte, members. -/
namespace Go.Proofs.YtempjhgajcdibaaDoor
open Go.RowKit Go.BigFrame AG

set_option maxRecDepth 100000 in
set_option maxHeartbeats 1000000 in
theorem sameAlphabets_any (s t : Sy) (A B : Option Addr) (c d : Nat) (w : World) (hl : s.es.length ≤ c) (hc : c ≤ 9223372036854775807) (hm : t.es.length ≤ d) (hd : d ≤ 9223372036854775807) (hr : EdsAt w w.heap.size A s.es) (hs : EdsAt w w.heap.size B t.es) :
    Calls Tryd.prog 55 #[s.val A c, t.val B d] w fun e w' => e = .returned (.bool (cmpOk s t)) ∧ Below w.heap.size w w' := by
  unfold Sy.val
  replace hr := hid hr
  replace hs := hid hs
  have hval : Hid (cmpOk s t = (sysOk s && (sysOk t && decide (s.al = t.al)))) := hid rfl
  go_enter Tryd.func55, Tryd.ntmps55
  go_wp2_with fail
  obtain ⟨w0, hw0, hz0, hB0, hS, hT⟩ := boxed2 w #[Value.int IntKind.i64 s.al, Value.int IntKind.i64 s.st, Value.slice A s.es.length c] 25 #[Value.int IntKind.i64 t.al, Value.int IntKind.i64 t.st, Value.slice B t.es.length d] 25
  rw [hw0]
  clear hw0
  have p0 := hS 0 _ rfl _ (Below.refl _ _)
  have p1 := hS 1 _ rfl _ (Below.refl _ _)
  have p2 := hS 2 _ rfl _ (Below.refl _ _)
  have hr0 := hid (hr.out.later hB0)
  go_wp2_with fail
  refine (implSystemValid_any s A c w0 hl hc hr0.out).mono ?_
  rintro e w1 ⟨rfl, hb1⟩
  have b1 := hb1.mono hz0
  clear p0 p1 p2
  have p0 := hS 0 _ rfl _ b1
  have q0 := hT 0 _ rfl _ b1
  have q1 := hT 1 _ rfl _ b1
  have q2 := hT 2 _ rfl _ b1
  have B1 : Below w.heap.size w w1 := hB0.trans (b1.mono (by omega))
  cases hA : sysOk s
  · replace hA := hid hA
    go_wp2_with fail
    go_ret
    exact ⟨ret_bool (by rw [hval.out, hA.out]; rfl), B1⟩
  · replace hA := hid hA
    have hs1 := hid (hs.out.later B1)
    go_wp2_with fail
    refine (implSystemValid_any t B d w1 hm hd hs1.out).mono ?_
    rintro e w2 ⟨rfl, hb2⟩
    have b2 := b1.trans (hb2.mono (Nat.le_trans hz0 hb1.size))
    clear p0 q0 q1 q2
    have p0 := hS 0 _ rfl _ b2
    have q0 := hT 0 _ rfl _ b2
    have B2 : Below w.heap.size w w2 := hB0.trans (b2.mono (by omega))
    cases hB : sysOk t
    · replace hB := hid hB
      go_wp2_with fail
      go_ret
      exact ⟨ret_bool (by rw [hval.out, hA.out, hB.out]; rfl), B2⟩
    · replace hB := hid hB
      go_wp2_with fail
      go_ret
      exact ⟨ret_bool (by rw [hval.out, hA.out, hB.out, Bool.eq_iff_iff]; simp), B2⟩

set_option maxRecDepth 100000 in
set_option maxHeartbeats 400000 in
theorem letterByte_any (l : Nat) (h : l < 6) (w : World) :
    Calls Tryd.prog 89 #[.int .i64 l] w fun e w' => e = .returned (.int .u8 (97 + l : Nat)) ∧ w = w' := by
  go_enter Tryd.func89, Tryd.ntmps89
  go_wp2
  go_ret
  exact ⟨rfl, rfl⟩

set_option maxRecDepth 100000 in
set_option maxHeartbeats 1000000 in
theorem lettersOf_any (A : Int) (w : World) :
    Calls Tryd.prog 82 #[.int .i64 A] w fun e w' => ∃ v, e = .returned v ∧ OwnNats w' w.heap.size v (letters A) ∧ Below w.heap.size w w' := by
  obtain ⟨i0, hi, hz0, hz1, hz2⟩ := info_parts infoInt
  go_enter Tryd.func82, Tryd.ntmps82
  go_wp2_with fail
  go_loopw [3, 5] (fun v i wr => ∃ k : Nat, k ≤ 6 ∧ i = .int .i64 k ∧ OwnNats wr w.heap.size v (lettersTo A k) ∧ Below w.heap.size w wr) (fun _ i _ => 6 - (intOf i).toNat)
  case atStart =>
    refine ⟨0, by omega, rfl, ?_, by (repeat (first | exact Below.refl _ _ | assumption | refine Below.drew ?_ | refine Below.alloc ?_ (by first | omega | (simp; done) | (simp; omega)) _ | refine Below.setCell ?_ (by first | omega | (simp; done) | (simp; omega)) _))⟩
    exact World.ownsRow_nil _ _ _ _
  case round =>
    obtain ⟨k, hk, rfl, hown, hb⟩ := hrel
    have hz := hb.size
    have hlen := lettersTo_len A k
    by_cases hlt : k < 6
    · have hHZ : Hid (HasZ A (k : Int) = Has A k) := hid (by unfold HasZ; simp)
      cases hH : Has A k
      · replace hH := hid hH
        go_wp2_with (go_at_call 58; refine (has_any A k _ (by omega)).mono ?_; rintro e w' ⟨rfl, rfl⟩; rw [hHZ.out, hH.out])
        go_roundw
        case rel => exact ⟨k + 1, by omega, by go_num, by rw [lettersTo_succ, hH.out]; exact hown, hb⟩
        case measure => simp [intOf]; omega
      · replace hH := hid hH
        unfold OwnNats at hown
        go_wp2_with (first
          | (go_at_call 58; refine (has_any A k _ (by omega)).mono ?_; rintro e w' ⟨rfl, rfl⟩; rw [hHZ.out, hH.out])
          | (at_builtin; refine wpList_append_own _ rfl _ _ 81 rfl w.heap.size 3 i0 (.int .i64 0) 1 8 Tryd.underlying81 hi hz0 hz1 hz2 rfl (by decide) _ _ _ rfl (hown.alloc _) ⟨wr.heap.size, 0, none⟩ 1 1 [.int .i64 (k : Int)] rfl rfl (cell_one_new _ _ _) (by intro u hu; simp at hu; subst hu; rfl) (by unfold maxLen; omega) (by omega) (by simp; omega) ?_; intro v' w1 hown' hgrow _))
        have R := letters_next hz hH.out hown hb hown' hgrow
        clear hown' hgrow hown hb hlen
        go_roundw
        case rel => exact ⟨k + 1, by omega, by go_num, R.1, R.2⟩
        case measure => simp [intOf]; omega
    · obtain rfl : k = 6 := by omega
      go_wp2
      go_ret
      exact ⟨_, rfl, hown, hb⟩

set_option maxRecDepth 100000 in
set_option maxHeartbeats 1000000 in
theorem members_any (S : Nat) (hS : S < 65536) (w : World) (hT : Tab w) :
    Calls Tryd.prog 80 #[.int .i64 S] w fun e w' => ∃ v, e = .returned v ∧ OwnNats w' w.heap.size v (memL S) ∧ Below w.heap.size w w' := by
  obtain ⟨i0, hi, hz0, hz1, hz2⟩ := info_parts infoInt
  replace hT := hid hT
  go_enter Tryd.func80, Tryd.ntmps80
  go_wp2_with fail
  go_loopw [0, 3] (fun st v wr => ∃ (T : Nat) (ns : List Nat), st = .int .i64 T ∧ T < 65536 ∧ ns ++ memL T = memL S ∧ OwnNats wr w.heap.size v ns ∧ Below w.heap.size w wr) (fun st _ _ => (intOf st).toNat)
  case atStart => exact ⟨S, [], rfl, hS, rfl, World.ownsRow_nil _ _ _ _, by (repeat (first | exact Below.refl _ _ | assumption | refine Below.drew ?_ | refine Below.alloc ?_ (by first | omega | (simp; done) | (simp; omega)) _ | refine Below.setCell ?_ (by first | omega | (simp; done) | (simp; omega)) _))⟩
  case round =>
    obtain ⟨T, ns, rfl, hTl, hns, hown, hb⟩ := hrel
    by_cases hT0 : T = 0
    · subst hT0
      have hfin : Hid (ns = memL S) := hid (by rw [memL_zero, List.append_nil] at hns; exact hns)
      replace hns := hid hns
      replace hown := hid hown
      go_wp2
      go_ret
      exact ⟨_, rfl, by rw [← hfin.out]; exact hown.out, hb⟩
    · obtain ⟨mm, hTm, hq64⟩ := Lib.ctzFrom_spec 64 T (by omega) (by omega)
      have hctz : Lib.ctz 64 T = Lib.ctzFrom 64 T := by unfold Lib.ctz; rw [if_neg hT0]
      rw [← hctz] at hTm hq64
      have hlow := memL_low hTl hTm
      obtain ⟨hbit, -, hdec⟩ := drop_low hTm
      have hq16 : Lib.ctz 64 T < 16 := testBit_lt (n := 16) hTl hbit
      have hnl : ns.length ≤ 16 := by
        have h1 := congrArg List.length hns
        have h2 := memL_len S
        rw [List.length_append] at h1
        omega
      have hne : ((T : Int) != 0) = true := by simpa using hT0
      have hand := hid (bits_andN T (T - 1) hTl (by omega))
      have e1 : ((T : Int) - 1) = ((T - 1 : Nat) : Int) := by omega
      replace e1 := hid e1
      have hTr := hid (hT.out.later hb)
      have hlt2 : Hid (T &&& (T - 1) < 65536) := hid (by omega)
      replace hdec := hid hdec
      replace hlow := hid hlow
      replace hns := hid hns
      have hzr := hb.size
      clear hbit hTm hctz
      generalize hqq : Lib.ctz 64 T = q at *
      replace hqq := hid hqq
      unfold OwnNats at hown
      replace hown := hid hown
      go_wp2_with (first
        | (go_at_call 131; refine (trailingZeros_any T (by omega) hT0 _ hTr.out).mono ?_; rintro e w' ⟨rfl, rfl⟩; rw [hqq.out])
        | (at_builtin; refine wpList_append_own _ rfl _ _ 81 rfl w.heap.size 3 i0 (.int .i64 0) 1 8 Tryd.underlying81 hi hz0 hz1 hz2 rfl (by decide) _ _ _ rfl (hown.out.alloc _) ⟨wr.heap.size, 0, none⟩ 1 1 [.int .i64 (q : Int)] rfl rfl (cell_one_new _ _ _) (by intro u hu; simp at hu; subst hu; rfl) (by unfold maxLen; omega) (by omega) (by simp; omega) ?_; intro v' w1 hown' hgrow _))
      go_roundw
      case rel =>
        refine ⟨T &&& (T - 1), ns ++ [q], by rw [e1.out, hand.out], hlt2.out, by rw [← hns.out, hlow.out, List.append_assoc]; rfl, ?_, Below.grown (hb.alloc hzr _) hgrow (by simp; omega) (own_block hown.out)⟩
        unfold OwnNats
        rw [List.length_append, List.map_append]
        exact hown'
      case measure => rw [e1.out, hand.out]; simp [intOf]; exact hdec.out

end Go.Proofs.YtempjhgajcdibaaDoor

/- Lists of pairs of sets in memory; the reference's l5Find. -/
namespace Go.Proofs.YtempjhgajcdibaaDoor
open Go.RowKit Go.BigFrame AG

/-- The place of p in ps, or -1. -/
def findP (ps : List (Nat × Nat)) (p : Nat × Nat) : Int :=
  match ps.findIdx? (· == p) with
  | some i => (i : Int)
  | none => -1
theorem findP_at {ps : List (Nat × Nat)} {p : Nat × Nat} {k : Nat} (hk : k < ps.length) (h : ps[k] = p) (hb : ∀ j (hj : j < ps.length), j < k → ps[j] ≠ p) : findP ps p = k := by
  unfold findP
  rw [show ps.findIdx? (· == p) = some k from List.findIdx?_eq_some_iff_getElem.2 ⟨hk, by simpa using h, fun j hj => by simpa using hb j (by omega) hj⟩]
theorem findP_none {ps : List (Nat × Nat)} {p : Nat × Nat} (hb : ∀ j (hj : j < ps.length), ps[j] ≠ p) : findP ps p = -1 := by
  unfold findP
  rw [show ps.findIdx? (· == p) = none from List.findIdx?_eq_none_iff.2 fun x hx => by
    obtain ⟨j, hj, rfl⟩ := List.mem_iff_getElem.1 hx
    simpa using hb j hj]
theorem findP_neg (ps : List (Nat × Nat)) (p : Nat × Nat) : findP ps p < 0 ↔ p ∉ ps := by
  constructor
  · intro h hp
    unfold findP at h
    cases hf : ps.findIdx? (· == p) with
    | none =>
      have := List.findIdx?_eq_none_iff.1 hf p hp
      simp at this
    | some i =>
      rw [hf] at h
      have h' : (i : Int) < 0 := h
      omega
  · intro h
    rw [findP_none fun j hj e => h (by rw [← e]; exact List.getElem_mem _)]
    decide

/-- The slice of pairs reads as ps, below block B. -/
def PairsAt (w : World) (B : Nat) (A : Option Addr) (ps : List (Nat × Nat)) : Prop :=
  0 < ps.length → ∃ b o, A = some ⟨b, o, none⟩ ∧ b < B ∧ ∀ i (h : i < ps.length), w.cell? ⟨b, o + i * 2, none⟩ = some (.int .i64 ps[i].1) ∧ w.cell? ⟨b, o + i * 2 + 1, none⟩ = some (.int .i64 ps[i].2)

theorem below_drewNp {B : Nat} {a w : World} (h : Below B a w) (n : Nat) : Below B a (w.drewN n) := h.trans ⟨rfl, rfl, rfl, Nat.le_refl _, fun _ _ => rfl⟩

set_option maxHeartbeats 2000000 in
theorem l5Find_any (ps : List (Nat × Nat)) (A : Option Addr) (c : Nat) (p : Nat × Nat) (w : World) (hl : ps.length ≤ c) (hc : c ≤ 9223372036854775807) (hr : PairsAt w w.heap.size A ps) :
    Calls Tryd.prog 87 #[.slice A ps.length c, .agg #[.int .i64 p.1, .int .i64 p.2]] w fun e w' => e = .returned (.int .i64 (findP ps p)) ∧ Below w.heap.size w w' := by
  replace hr := hid hr
  go_enter Tryd.func87, Tryd.ntmps87
  go_wp2_with fail
  obtain ⟨w0, hw0, hz0, hB0, hS⟩ := boxed w #[Value.int IntKind.i64 p.1, Value.int IntKind.i64 p.2] 88
  rw [hw0]
  clear hw0
  have s0 := hS 0 _ rfl
  have s1 := hS 1 _ rfl
  go_loopw [5] (fun i wr => ∃ k : Nat, k ≤ ps.length ∧ i = .int .i64 k ∧ (∀ j (hj : j < ps.length), j < k → ps[j] ≠ p) ∧ Below (w.heap.size + 1) w0 wr) (fun i _ => ps.length - (intOf i).toNat)
  case atStart => exact ⟨0, by omega, rfl, fun j _ h => by omega, Below.refl _ _⟩
  case round =>
    obtain ⟨k, hk, rfl, hbf, hb⟩ := hrel
    replace hbf := hid hbf
    have q0 := s0 _ hb
    have q1 := s1 _ hb
    have hzr := hb.size
    by_cases hlt : k < ps.length
    · obtain ⟨b, o, rfl, hB, hE⟩ := hr.out (by omega)
      obtain ⟨e0, e1⟩ := hE k hlt
      replace hE := hid hE
      have e0' : wr.cell? ⟨b, o + k * 2, none⟩ = some (.int .i64 ps[k].1) := by rw [hb.cell (by simp; omega), hB0.cell (by simpa using hB)]; exact e0
      have e1' : wr.cell? ⟨b, o + k * 2 + 1, none⟩ = some (.int .i64 ps[k].2) := by rw [hb.cell (by simp; omega), hB0.cell (by simpa using hB)]; exact e1
      have i1 : (0 : Int) ≤ (k : Int) := by omega
      have i2 : (k : Int) < (ps.length : Int) := by omega
      have hcase : (((ps[k].1 : Int) == (p.1 : Int)) = false) ∨ (((ps[k].1 : Int) == (p.1 : Int)) = true ∧ ((ps[k].2 : Int) == (p.2 : Int)) = false) ∨ (((ps[k].1 : Int) == (p.1 : Int)) = true ∧ ((ps[k].2 : Int) == (p.2 : Int)) = true) := by
        cases ((ps[k].1 : Int) == (p.1 : Int)) <;> cases ((ps[k].2 : Int) == (p.2 : Int)) <;> simp
      go_wp2_with fail
      rcases hcase with g1 | ⟨g1, g2⟩ | ⟨g1, g2⟩
      all_goals
        go_quiet (fail)
      all_goals go_wp2
      · refine ⟨⟨k + 1, by omega, by go_num, fun j hj hjk e => ?_, below_drewNp hb _⟩, by simp [intOf]; omega⟩
        by_cases ej : j = k
        · subst ej
          rw [e] at g1
          simp at g1
        · exact hbf.out j hj (by omega) e
      · refine ⟨⟨k + 1, by omega, by go_num, fun j hj hjk e => ?_, below_drewNp hb _⟩, by simp [intOf]; omega⟩
        by_cases ej : j = k
        · subst ej
          rw [e] at g2
          simp at g2
        · exact hbf.out j hj (by omega) e
      · have hp : ps[k] = p := by
          rw [beq_iff_eq] at g1 g2
          exact Prod.ext (by omega) (by omega)
        go_ret
        exact ⟨by rw [findP_at hlt hp hbf.out]; rfl, hB0.trans (below_drewNp (hb.mono (by omega)) _)⟩
    · go_wp2
      go_ret
      exact ⟨by rw [findP_none fun j hj => hbf.out j hj (by omega)]; rfl, hB0.trans (hb.mono (by omega))⟩

end Go.Proofs.YtempjhgajcdibaaDoor

/- The rows that the reference's search owns: pairs and words. -/
namespace Go.Proofs.YtempjhgajcdibaaDoor
open Go.RowKit Go.BigFrame AG

/-- The word r (its last letter first) as a string. -/
def wordS (r : List Nat) : ByteArray := ⟨(r.reverse.map letB).toArray⟩
theorem wordS_cons (l : Nat) (r : List Nat) : wordS r ++ ⟨#[letB l]⟩ = wordS (l :: r) := by
  unfold wordS
  rw [List.reverse_cons, List.map_append]
  apply ByteArray.ext
  simp

theorem wordS_size (r : List Nat) : (wordS r).size = r.length := by unfold wordS; simp [ByteArray.size]

def pairCells : List (Nat × Nat) → List Value
  | [] => []
  | p :: ps => .int .i64 p.1 :: .int .i64 p.2 :: pairCells ps
theorem pairCells_append : ∀ ps qs : List (Nat × Nat), pairCells (ps ++ qs) = pairCells ps ++ pairCells qs
  | [], _ => rfl
  | p :: ps, qs => by rw [List.cons_append, pairCells, pairCells_append ps qs]; rfl
theorem pairCells_at : ∀ (ps : List (Nat × Nat)) (i : Nat) (h : i < ps.length), (pairCells ps)[i * 2]? = some (.int .i64 ps[i].1) ∧ (pairCells ps)[i * 2 + 1]? = some (.int .i64 ps[i].2)
  | p :: ps, 0, _ => ⟨rfl, rfl⟩
  | p :: ps, i + 1, h => by
    have := pairCells_at ps i (by simpa using h)
    rw [show (i + 1) * 2 = i * 2 + 1 + 1 from by omega]
    exact this

/-- Pairs that are owned are read. -/
theorem own_pairs {w : World} {B : Nat} {v : Value} {ps : List (Nat × Nat)} (h : w.ownsRow B 88 2 v ps.length (pairCells ps)) (hn : 0 < ps.length) :
    ∃ g cap, v = .slice (some ⟨g, 0, none⟩) ps.length cap ∧ B ≤ g ∧ g < w.heap.size ∧ ps.length ≤ cap ∧ cap ≤ 9223372036854775807 ∧ PairsAt w w.heap.size (some ⟨g, 0, none⟩) ps ∧
      ∀ i (hi : i < ps.length), w.cell? ⟨g, i * 2, none⟩ = some (.int .i64 ps[i].1) ∧ w.cell? ⟨g, i * 2 + 1, none⟩ = some (.int .i64 ps[i].2) := by
  obtain ⟨g, cap, hv, h1, h2, h3, h4, h5⟩ := own_shape h hn
  have hat : ∀ i (hi : i < ps.length), w.cell? ⟨g, i * 2, none⟩ = some (.int .i64 ps[i].1) ∧ w.cell? ⟨g, i * 2 + 1, none⟩ = some (.int .i64 ps[i].2) := fun i hi =>
    ⟨h5 _ _ (pairCells_at ps i hi).1, h5 _ _ (pairCells_at ps i hi).2⟩
  exact ⟨g, cap, hv, h1, h2, h3, h4, fun _ => ⟨g, 0, rfl, h2, fun i hi => by simpa using hat i hi⟩, hat⟩

theorem own_words {w : World} {B : Nat} {v : Value} {ws : List (List Nat)} (h : w.ownsRow B 9 1 v ws.length (ws.map fun r => Value.string (wordS r))) (hn : 0 < ws.length) :
    ∃ g cap, v = .slice (some ⟨g, 0, none⟩) ws.length cap ∧ B ≤ g ∧ g < w.heap.size ∧ ws.length ≤ cap ∧ cap ≤ 9223372036854775807 ∧
      ∀ i (hi : i < ws.length), w.cell? ⟨g, i, none⟩ = some (.string (wordS ws[i])) := by
  obtain ⟨g, cap, hv, h1, h2, h3, h4, h5⟩ := own_shape h hn
  exact ⟨g, cap, hv, h1, h2, h3, h4, fun i hi => h5 _ _ (by simp [hi])⟩

end Go.Proofs.YtempjhgajcdibaaDoor

/- Plain: words from their last letter on, their order, and a breadth-first search for the first word that leads to a goal. -/
namespace AG

/-- The shortlex order of words that are written from their last letter on. -/
def rlt : List Nat → List Nat → Prop
  | _, [] => False
  | [], _ :: _ => True
  | a :: r, b :: q => rlt r q ∨ (r = q ∧ a < b)

theorem rlt_irrefl : ∀ r, ¬ rlt r r
  | [] => fun h => h
  | _ :: r => fun h => by
    rcases h with h | ⟨_, h⟩
    · exact rlt_irrefl r h
    · omega
theorem rlt_trans : ∀ {r q p : List Nat}, rlt r q → rlt q p → rlt r p
  | _, _, [], _, h => (by simp [rlt] at h)
  | [], _, _ :: _, _, _ => trivial
  | _ :: _, [], _ :: _, h, _ => (by simp [rlt] at h)
  | a :: r, b :: q, c :: p, h, k => by
    rcases h with h | ⟨rfl, h⟩
    · rcases k with k | ⟨rfl, _⟩
      · exact .inl (rlt_trans h k)
      · exact .inl h
    · rcases k with k | ⟨rfl, k⟩
      · exact .inl k
      · exact .inr ⟨rfl, by omega⟩
theorem rlt_total : ∀ r q : List Nat, rlt r q ∨ r = q ∨ rlt q r
  | [], [] => .inr (.inl rfl)
  | [], _ :: _ => .inl trivial
  | _ :: _, [] => .inr (.inr trivial)
  | a :: r, b :: q => by
    rcases rlt_total r q with h | rfl | h
    · exact .inl (.inl h)
    · rcases Nat.lt_trichotomy a b with h | rfl | h
      · exact .inl (.inr ⟨rfl, h⟩)
      · exact .inr (.inl rfl)
      · exact .inr (.inr (.inr ⟨rfl, h⟩))
    · exact .inr (.inr (.inl h))
def rle (r q : List Nat) : Prop := rlt r q ∨ r = q
theorem rle_refl (r : List Nat) : rle r r := .inr rfl
theorem rle_trans {r q p : List Nat} (h : rle r q) (k : rle q p) : rle r p := by
  rcases h with h | rfl
  · rcases k with k | rfl
    · exact .inl (rlt_trans h k)
    · exact .inl h
  · exact k
theorem rle_antisymm {r q : List Nat} (h : rle r q) (k : rle q r) : r = q := by
  rcases h with h | h
  · rcases k with k | k
    · exact absurd (rlt_trans h k) (rlt_irrefl r)
    · exact k.symm
  · exact h
theorem rlt_of_rlt_rle {r q p : List Nat} (h : rlt r q) (k : rle q p) : rlt r p := by
  rcases k with k | rfl
  · exact rlt_trans h k
  · exact h
theorem rlt_cons (a : Nat) : ∀ r, rlt r (a :: r)
  | [] => trivial
  | _ :: r => .inl (rlt_cons _ r)
theorem rle_cons {r q : List Nat} (a : Nat) (h : rle r q) : rle (a :: r) (a :: q) := by
  rcases h with h | rfl
  · exact .inl (.inl h)
  · exact .inr rfl
theorem rlt_nil (a : Nat) (r : List Nat) : rlt [] (a :: r) := trivial
theorem rle_nil (r : List Nat) : rle [] r := by
  cases r with
  | nil => exact .inr rfl
  | cons a r => exact .inl trivial

/-- The node n is reached by the word r (written from its last letter on) over the letters L. -/
def RW (I : Nat → Prop) (L : List Nat) (nx : Nat → Nat → List Nat) : List Nat → Nat → Prop
  | [], n => I n
  | l :: r, n => l ∈ L ∧ ∃ m, RW I L nx r m ∧ n ∈ nx m l

/-- r is the first word that leads to a goal. -/
def FirstW (I : Nat → Prop) (L : List Nat) (nx : Nat → Nat → List Nat) (G : Nat → Prop) (r : List Nat) : Prop :=
  (∃ n, RW I L nx r n ∧ G n) ∧ ∀ q n, RW I L nx q n → G n → rle r q
theorem FirstW.unique {I : Nat → Prop} {L : List Nat} {nx : Nat → Nat → List Nat} {G : Nat → Prop} {r q : List Nat} (h : FirstW I L nx G r) (k : FirstW I L nx G q) : r = q := by
  obtain ⟨⟨n, hn, hg⟩, h2⟩ := h
  obtain ⟨⟨m, hm, hg'⟩, k2⟩ := k
  exact rle_antisymm (h2 _ _ hm hg') (k2 _ _ hn hg)

/-- A step of the search: the word that was reached, and the nodes that no earlier word reaches. -/
structure Stp where
  par : Int
  let_ : Nat
  nodes : List Nat

/-- The pair of step j and letter number m is before the pair i, k. -/
def before (i k j m : Nat) : Prop := j < i ∨ (j = i ∧ m < k)

/-- The state of the search: all letters before number k of step i are done. ws: the steps' words. -/
structure Bfs (I : Nat → Prop) (L : List Nat) (nx : Nat → Nat → List Nat) (G : Nat → Prop) (ss : List Stp) (ws : List (List Nat)) (i k : Nat) : Prop where
  len : ws.length = ss.length
  zero : ∀ (h : 0 < ws.length), ws[0] = []
  pos : 0 < ss.length
  root : ∀ (h : 0 < ss.length), ss[0].par = -1
  link : ∀ j (h : j < ss.length) (h' : j < ws.length), 0 < j → ∃ p q, p < j ∧ before i k p q ∧ ss[j].par = (p : Int) ∧ ∃ (hp : p < ws.length) (hq : q < L.length), ss[j].let_ = L[q] ∧ ws[j] = L[q] :: ws[p]
  reach : ∀ j (h : j < ss.length) (h' : j < ws.length), ∀ n ∈ ss[j].nodes, RW I L nx ws[j] n
  incr : ∀ j j' (h : j < ws.length) (h' : j' < ws.length), j < j' → rlt ws[j] ws[j']
  done : ∀ j (h : j < ss.length) (h' : j < ws.length) m (hm : m < L.length), before i k j m → ∀ n ∈ ss[j].nodes, ∀ n' ∈ nx n L[m], ∃ j', ∃ (g : j' < ss.length) (g' : j' < ws.length), n' ∈ ss[j'].nodes ∧ rle ws[j'] (L[m] :: ws[j])
  start : ∀ (h : 0 < ss.length), ∀ n, I n → n ∈ ss[0].nodes
  noGoal : ∀ j (h : j < ss.length), ∀ n ∈ ss[j].nodes, ¬ G n

section
variable {I : Nat → Prop} {L : List Nat} {nx : Nat → Nat → List Nat} {G : Nat → Prop} {ss : List Stp} {ws : List (List Nat)} {i k : Nat}

/-- Whatever a word reaches has been found by a word not behind it, or the word is not before one that is still to come. -/
theorem Bfs.cover (h : Bfs I L nx G ss ws i k) : ∀ r n, RW I L nx r n →
    (∃ j, ∃ (g : j < ss.length) (g' : j < ws.length), n ∈ ss[j].nodes ∧ rle ws[j] r) ∨ (∃ j m, ∃ (_ : j < ss.length) (g' : j < ws.length) (hm : m < L.length), ¬ before i k j m ∧ rle (L[m] :: ws[j]) r) := by
  intro r
  induction r with
  | nil =>
    intro n hn
    have h0 : 0 < ws.length := by rw [h.len]; exact h.pos
    exact .inl ⟨0, h.pos, h0, h.start h.pos n hn, by rw [h.zero h0]; exact rle_refl _⟩
  | cons l r ih =>
    intro n ⟨hl, m, hm, hn⟩
    obtain ⟨q, hq, rfl⟩ := List.mem_iff_getElem.1 hl
    rcases ih m hm with ⟨j, g, g', hj, hr⟩ | ⟨j, m', g, g', hm', hny, hr⟩
    · by_cases hny : before i k j q
      · obtain ⟨j', g2, g2', hn', hr'⟩ := h.done j g g' q hq hny m hj n hn
        exact .inl ⟨j', g2, g2', hn', rle_trans hr' (rle_cons _ hr)⟩
      · exact .inr ⟨j, q, g, g', hq, hny, rle_cons _ hr⟩
    · exact .inr ⟨j, m', g, g', hm', hny, rle_trans hr (.inl (rlt_cons _ _))⟩

theorem Bfs.pairs (h : Bfs I L nx G ss ws i k) (hL : L.Pairwise (· < ·)) {j m j' m' : Nat} (hj : j < ws.length) (hm : m < L.length) (hj' : j' < ws.length) (hm' : m' < L.length) (hlt : before j' m' j m) : rlt (L[m] :: ws[j]) (L[m'] :: ws[j']) := by
  rcases hlt with h1 | ⟨rfl, h1⟩
  · exact .inl (h.incr j j' hj hj' h1)
  · exact .inr ⟨rfl, List.pairwise_iff_getElem.1 hL m m' hm hm' h1⟩

/-- Every step's word is before the one that is in hand. -/
theorem Bfs.front (h : Bfs I L nx G ss ws i k) (hL : L.Pairwise (· < ·)) (hi : i < ws.length) (hk : k < L.length) {j : Nat} (hj : j < ws.length) : rlt ws[j] (L[k] :: ws[i]) := by
  by_cases e : j = 0
  · subst e
    rw [h.zero hj]
    exact rlt_nil _ _
  · obtain ⟨p, q, hpj, hb, _, hp, hq, _, hw⟩ := h.link j (by rw [← h.len]; exact hj) hj (by omega)
    rw [hw]
    exact h.pairs hL hp hq hi hk hb

/-- The search has found a goal: its word is the first one. -/
theorem Bfs.found (h : Bfs I L nx G ss ws i k) (hL : L.Pairwise (· < ·)) (hi : i < ss.length) (hi' : i < ws.length) (hk : k < L.length) {n n' : Nat} (hn : n ∈ ss[i].nodes) (hn' : n' ∈ nx n L[k]) (hg : G n') : FirstW I L nx G (L[k] :: ws[i]) := by
  refine ⟨⟨n', ⟨List.getElem_mem _, n, h.reach i hi hi' n hn, hn'⟩, hg⟩, fun q m hm hgm => ?_⟩
  rcases h.cover q m hm with ⟨j, g, g', hj, _⟩ | ⟨j, m', g, g', hm', hny, hr⟩
  · exact absurd hgm (h.noGoal j g m hj)
  · refine rle_trans ?_ hr
    by_cases e : i = j ∧ k = m'
    · obtain ⟨rfl, rfl⟩ := e
      exact rle_refl _
    · refine .inl (h.pairs hL hi' hk g' hm' ?_)
      unfold before at *
      omega

/-- The search has come to its end without a goal: no word leads to one. -/
theorem Bfs.none (h : Bfs I L nx G ss ws ss.length 0) : ∀ q n, RW I L nx q n → ¬ G n := by
  intro q n hn
  rcases h.cover q n hn with ⟨j, g, g', hj, _⟩ | ⟨j, m, g, g', hm, hny, _⟩
  · exact h.noGoal j g n hj
  · exact absurd (.inl g) hny

/-- On to the next step. -/
theorem Bfs.over (h : Bfs I L nx G ss ws i k) (hk : L.length ≤ k) : Bfs I L nx G ss ws (i + 1) 0 :=
  { len := h.len, zero := h.zero, pos := h.pos, root := h.root, reach := h.reach, incr := h.incr, start := h.start, noGoal := h.noGoal
    link := fun j hj hj' h0 => by
      obtain ⟨p, q, hpj, hb, h1, hp, hq, h2, hw⟩ := h.link j hj hj' h0
      exact ⟨p, q, hpj, by unfold before at *; omega, h1, hp, hq, h2, hw⟩
    done := fun j hj hj' m hm hb => h.done j hj hj' m hm (by unfold before at *; omega) }

/-- A letter that leads to nothing new. -/
theorem Bfs.stale (h : Bfs I L nx G ss ws i k) (hL : L.Pairwise (· < ·)) (hi : i < ss.length) (hk : k < L.length)
    (hold : ∀ n ∈ ss[i].nodes, ∀ n' ∈ nx n L[k], ∃ j', ∃ (_ : j' < ss.length), n' ∈ ss[j'].nodes) : Bfs I L nx G ss ws i (k + 1) :=
  { len := h.len, zero := h.zero, pos := h.pos, root := h.root, reach := h.reach, incr := h.incr, start := h.start, noGoal := h.noGoal
    link := fun j hj hj' h0 => by
      obtain ⟨p, q, hpj, hb, h1, hp, hq, h2, hw⟩ := h.link j hj hj' h0
      exact ⟨p, q, hpj, by unfold before at *; omega, h1, hp, hq, h2, hw⟩
    done := fun j hj hj' m hm hb n hn n' hn' => by
      by_cases e : before i k j m
      · exact h.done j hj hj' m hm e n hn n' hn'
      · obtain ⟨rfl, rfl⟩ : j = i ∧ m = k := by unfold before at *; omega
        obtain ⟨j', g, hj'n⟩ := hold n hn n' hn'
        have g' : j' < ws.length := by rw [h.len]; exact g
        exact ⟨j', g, g', hj'n, .inl (h.front hL hj' hm g')⟩ }

/-- A letter that leads to something new. -/
theorem Bfs.fresh (h : Bfs I L nx G ss ws i k) (hL : L.Pairwise (· < ·)) (hi : i < ss.length) (hi' : i < ws.length) (hk : k < L.length) {fr : List Nat}
    (hfr : ∀ n' ∈ fr, ∃ n ∈ ss[i].nodes, n' ∈ nx n L[k]) (hall : ∀ n ∈ ss[i].nodes, ∀ n' ∈ nx n L[k], n' ∈ fr ∨ ∃ j', ∃ (_ : j' < ss.length), n' ∈ ss[j'].nodes) (hng : ∀ n' ∈ fr, ¬ G n') :
    Bfs I L nx G (ss ++ [⟨i, L[k], fr⟩]) (ws ++ [L[k] :: ws[i]]) i (k + 1) := by
  have hlen := h.len
  have hold : ∀ j (hj : j < ss.length), (ss ++ [(⟨i, L[k], fr⟩ : Stp)])[j]'(by simp; omega) = ss[j] := fun j hj => List.getElem_append_left hj
  have hnew : (ss ++ [(⟨i, L[k], fr⟩ : Stp)])[ss.length]'(by simp) = ⟨i, L[k], fr⟩ := by simp
  have wold : ∀ j (hj : j < ws.length), (ws ++ [L[k] :: ws[i]])[j]'(by simp; omega) = ws[j] := fun j hj => List.getElem_append_left hj
  have wnew : (ws ++ [L[k] :: ws[i]])[ws.length]'(by simp) = L[k] :: ws[i] := by simp
  refine ⟨by simp [hlen], fun h0 => ?_, by simp, fun h0 => ?_, ?_, ?_, ?_, ?_, ?_, ?_⟩
  · have h0' : 0 < ws.length := by rw [hlen]; exact h.pos
    rw [wold 0 h0']; exact h.zero h0'
  · rw [hold 0 h.pos]; exact h.root h.pos
  · intro j hj hj' h0
    by_cases e : j < ss.length
    · have e' : j < ws.length := by omega
      obtain ⟨p, q, hpj, hb, h1, hp, hq, h2, hw⟩ := h.link j e e' h0
      refine ⟨p, q, hpj, by unfold before at *; omega, by rw [hold j e]; exact h1, by simp; omega, hq, by rw [hold j e]; exact h2, ?_⟩
      rw [wold j e', wold p hp]
      exact hw
    · obtain rfl : j = ss.length := by simp at hj; omega
      refine ⟨i, k, hi, .inr ⟨rfl, by omega⟩, by rw [hnew], by simp; omega, hk, by rw [hnew], ?_⟩
      have : (ws ++ [L[k] :: ws[i]])[ss.length] = L[k] :: ws[i] := by simp only [← hlen]; exact wnew
      rw [this, wold i hi']
  · intro j hj hj' n hn
    by_cases e : j < ss.length
    · rw [hold j e] at hn
      rw [wold j (by omega)]
      exact h.reach j e (by omega) n hn
    · obtain rfl : j = ss.length := by simp at hj; omega
      rw [hnew] at hn
      have : (ws ++ [L[k] :: ws[i]])[ss.length] = L[k] :: ws[i] := by simp only [← hlen]; exact wnew
      rw [this]
      obtain ⟨m, hm, hn'⟩ := hfr n hn
      exact ⟨List.getElem_mem _, m, h.reach i hi hi' m hm, hn'⟩
  · intro j j' hj hj' hlt
    by_cases e : j' < ws.length
    · rw [wold j (by omega), wold j' e]
      exact h.incr j j' (by omega) e hlt
    · obtain rfl : j' = ws.length := by simp at hj'; omega
      rw [wnew, wold j hlt]
      exact h.front hL hi' hk hlt
  · intro j hj hj' m hm hb n hn n' hn'
    by_cases e : before i k j m
    · have hjs : j < ss.length := by unfold before at e; omega
      rw [hold j hjs] at hn
      obtain ⟨j2, g, g', h1, h2⟩ := h.done j hjs (by omega) m hm e n hn n' hn'
      refine ⟨j2, by simp; omega, by simp; omega, by rw [hold j2 g]; exact h1, ?_⟩
      rw [wold j2 g', wold j (by omega)]
      exact h2
    · obtain ⟨rfl, rfl⟩ : j = i ∧ m = k := by unfold before at *; omega
      rw [hold j hi] at hn
      rw [wold j hi']
      rcases hall n hn n' hn' with h1 | ⟨j2, g, h1⟩
      · refine ⟨ss.length, by simp, by simp; omega, by rw [hnew]; exact h1, ?_⟩
        have : (ws ++ [L[m] :: ws[j]])[ss.length]'(by simp; omega) = L[m] :: ws[j] := by simp only [← hlen]; exact wnew
        rw [this]
        exact rle_refl _
      · have g' : j2 < ws.length := by omega
        refine ⟨j2, by simp; omega, by simp; omega, by rw [hold j2 g]; exact h1, ?_⟩
        rw [wold j2 g']
        exact .inl (h.front hL hi' hm g')
  · intro h0 n hn
    rw [hold 0 h.pos]
    exact h.start h.pos n hn
  · intro j hj n hn
    by_cases e : j < ss.length
    · rw [hold j e] at hn
      exact h.noGoal j e n hn
    · obtain rfl : j = ss.length := by simp at hj; omega
      rw [hnew] at hn
      exact hng n hn

/-- The beginning. -/
theorem Bfs.begin {fr : List Nat} (hfr : ∀ n, n ∈ fr ↔ I n) (hng : ∀ n ∈ fr, ¬ G n) : Bfs I L nx G [⟨-1, 0, fr⟩] [[]] 0 0 := by
  refine ⟨rfl, fun _ => rfl, by simp, fun _ => rfl, ?_, ?_, ?_, ?_, ?_, ?_⟩
  · intro j hj _ h0; simp at hj; omega
  · intro j hj hj' n hn
    obtain rfl : j = 0 := by simp at hj; omega
    exact (hfr n).1 hn
  · intro j j' _ hj' h; simp at hj'; omega
  · intro j hj _ m _ hb; unfold before at hb; simp at hj; omega
  · intro _ n hn; exact (hfr n).2 hn
  · intro j hj n hn
    obtain rfl : j = 0 := by simp at hj; omega
    exact hng n hn
end

end AG

/- The library's slices.Reverse at bytes; the program's pathWord. -/
namespace Go.Proofs.YtempjhgajcdibaaDoor
open Go.RowKit Go.BigFrame AG

/-- xs with its first k and its last k elements exchanged. -/
def revTo (xs : List Nat) (k p : Nat) : Option Value := (if p < k ∨ xs.length ≤ p + k then xs[xs.length - 1 - p]? else xs[p]?).map fun b => Value.int .u8 (b : Nat)
theorem revTo_at {xs : List Nat} {k p : Nat} (h : ¬ (p < k ∨ xs.length ≤ p + k)) (hp : p < xs.length) : revTo xs k p = some (.int .u8 (xs[p] : Nat)) := by unfold revTo; rw [if_neg h]; simp [hp]
theorem revTo_swap {xs : List Nat} {k p : Nat} (h : p < k ∨ xs.length ≤ p + k) (q : Nat) (hq : q < xs.length) (e : xs.length - 1 - p = q) : revTo xs k p = some (.int .u8 (xs[q] : Nat)) := by unfold revTo; rw [if_pos h, e]; simp [hq]

theorem grown_two {w : World} {g : Nat} (i j : Nat) (u v : Value) : w.grownBy ((w.setCell ⟨g, i, none⟩ u).setCell ⟨g, j, none⟩ v).drew (some g) :=
  ⟨rfl, rfl, rfl, by simp, fun k _ hne => by
    have hk : k ≠ g := fun e => hne (by rw [e])
    show ((w.setCell ⟨g, i, none⟩ u).setCell ⟨g, j, none⟩ v).heap[k]? = _
    rw [Below.heap_setCell _ _ _ _ hk, Below.heap_setCell _ _ _ _ hk]⟩

set_option maxRecDepth 100000 in
set_option maxHeartbeats 2000000 in
theorem reverseBytes_any (g n c : Nat) (xs : List Nat) (cs : Array Value) (w : World) (hx : xs.length = n) (hn : n ≤ c) (hc : c ≤ 9223372036854775807) (hb : Blk w g 5 cs) (hs : n ≤ cs.size) (hcs : ∀ i (h : i < xs.length), cs[i]? = some (.int .u8 (xs[i] : Nat))) :
    Calls Tryd.prog 90 #[.slice (some ⟨g, 0, none⟩) n c] w fun e w' => e = .returned (.tuple #[]) ∧ w.grownBy w' (some g) ∧ ∃ cs', Blk w' g 5 cs' ∧ cs'.size = cs.size ∧ ∀ i (h : i < xs.length), cs'[i]? = some (.int .u8 (xs.reverse[i]'(by simpa using h) : Nat)) := by
  subst hx
  have hstart : Hid (∀ p, p < xs.length → cs[p]? = revTo xs 0 p) := hid fun p hp => by
    rw [revTo_at (by omega) hp, hcs p hp]
  replace hb := hid hb
  replace hcs := hid hcs
  go_enter Tryd.func90, Tryd.ntmps90
  go_wp2_with fail
  go_loopw [2, 3] (fun iv jv wr => ∃ (k : Nat) (cs' : Array Value), iv = .int .i64 k ∧ jv = .int .i64 ((xs.length : Int) - 1 - k) ∧ 2 * k ≤ xs.length + 1 ∧ Blk wr g 5 cs' ∧ cs'.size = cs.size ∧ (∀ p, p < xs.length → cs'[p]? = revTo xs k p) ∧ w.grownBy wr (some g)) (fun iv _ _ => xs.length - (intOf iv).toNat)
  case atStart => exact ⟨0, cs, rfl, by simp, by omega, hb.out, rfl, hstart.out, ⟨rfl, rfl, rfl, Nat.le_refl _, fun _ _ _ => rfl⟩⟩
  case round =>
    obtain ⟨k, cs', rfl, rfl, hk, hblk, hsz, hrev, hgr⟩ := hrel
    by_cases hlt : 2 * k + 1 < xs.length
    · obtain ⟨j, hj⟩ : ∃ j, j + k + 1 = xs.length := ⟨xs.length - 1 - k, by omega⟩
      have e1 : ((xs.length : Int) - 1 - k) = (j : Int) := by omega
      rw [e1]
      have hkj : k < j := by omega
      have hk1 : k < xs.length := by omega
      have hj1 : j < xs.length := by omega
      have ck := hblk.cell k
      have cj := hblk.cell j
      rw [hrev k hk1, revTo_at (by omega) hk1] at ck
      rw [hrev j hj1, revTo_at (by omega) hj1] at cj
      have zk := hblk.frozen k
      have zj := hblk.frozen j
      have hnx : Hid (∀ p, p < xs.length → ((cs'.setIfInBounds k (.int .u8 (xs[j] : Nat))).setIfInBounds j (.int .u8 (xs[k] : Nat)))[p]? = revTo xs (k + 1) p) := hid fun p hp => by
        have hrp := hrev p hp
        by_cases h1 : p = j
        · subst h1
          rw [Array.getElem?_setIfInBounds_self_of_lt (by simp; omega), revTo_swap (by omega) k hk1 (by omega)]
        · rw [Array.getElem?_setIfInBounds_ne (Ne.symm h1)]
          by_cases h2 : p = k
          · subst h2
            rw [Array.getElem?_setIfInBounds_self_of_lt (by omega), revTo_swap (by omega) j hj1 (by omega)]
          · rw [Array.getElem?_setIfInBounds_ne (Ne.symm h2), hrp]
            by_cases h3 : p < k ∨ xs.length ≤ p + k
            · rw [revTo_swap h3 (xs.length - 1 - p) (by omega) rfl, revTo_swap (by omega) (xs.length - 1 - p) (by omega) rfl]
            · rw [revTo_at h3 hp, revTo_at (by omega) hp]
      obtain ⟨a, ha⟩ : ∃ a, a = xs[k] := ⟨_, rfl⟩
      obtain ⟨b, hb'⟩ : ∃ b, b = xs[j] := ⟨_, rfl⟩
      rw [← ha] at ck
      rw [← hb'] at cj
      replace ha := hid ha
      replace hb' := hid hb'
      replace hrev := hid hrev
      replace hblk := hid hblk
      replace hsz := hid hsz
      have i1 : (0 : Int) ≤ (k : Int) := by omega
      have i2 : (k : Int) < (xs.length : Int) := by omega
      have i3 : (0 : Int) ≤ (j : Int) := by omega
      have i4 : (j : Int) < (xs.length : Int) := by omega
      have i5 : (k : Int) < (j : Int) := by omega
      clear e1
      go_wp2_with fail
      go_region
      go_wp2
      go_roundw
      case rel =>
        refine ⟨k + 1, _, by go_num, ?_, by omega, (hblk.out.set_ _ _).set_ _ _, by simp; exact hsz.out, by rw [ha.out, hb'.out]; exact hnx.out, hgr.trans (grown_two _ _ _ _)⟩
        rw [show ((xs.length : Int) - 1 - ((k + 1 : Nat) : Int)) = (j : Int) - 1 from by omega]
      case measure => simp [intOf]; omega
    · have hfin : Hid (∀ i (h : i < xs.length), cs'[i]? = some (.int .u8 (xs.reverse[i]'(by simpa using h) : Nat))) := hid fun i hi => by
        rw [hrev i hi, List.getElem_reverse]
        by_cases h3 : i < k ∨ xs.length ≤ i + k
        · rw [revTo_swap h3 (xs.length - 1 - i) (by omega) rfl]
        · rw [revTo_at h3 hi]
          simp only [show xs.length - 1 - i = i from by omega]
      replace hrev := hid hrev
      replace hblk := hid hblk
      replace hsz := hid hsz
      have hge : ¬ ((k : Int) < (xs.length : Int) - 1 - k) := by omega
      go_wp2
      go_end0
      exact ⟨rfl, hgr, cs', hblk.out, hsz.out, fun i hi => by have := hfin.out i hi; simpa using this⟩

/-- A step of the search as it lies in memory: where its list of nodes lies. -/
structure StV where
  st : Stp
  A : Option Addr
  c : Nat
def stCells : List StV → List Value
  | [] => []
  | x :: xs => .int .i64 x.st.par :: .int .i64 (x.st.let_ : Nat) :: .slice x.A x.st.nodes.length x.c :: stCells xs
theorem stCells_append : ∀ xs ys : List StV, stCells (xs ++ ys) = stCells xs ++ stCells ys
  | [], _ => rfl
  | x :: xs, ys => by rw [List.cons_append, stCells, stCells_append xs ys]; rfl
theorem stCells_at : ∀ (xs : List StV) (i : Nat) (h : i < xs.length), (stCells xs)[i * 3]? = some (.int .i64 xs[i].st.par) ∧ (stCells xs)[i * 3 + 1]? = some (.int .i64 (xs[i].st.let_ : Nat)) ∧ (stCells xs)[i * 3 + 2]? = some (.slice xs[i].A xs[i].st.nodes.length xs[i].c)
  | x :: xs, 0, _ => ⟨rfl, rfl, rfl⟩
  | x :: xs, i + 1, h => by
    have := stCells_at xs i (by simpa using h)
    rw [show (i + 1) * 3 = i * 3 + 1 + 1 + 1 from by omega]
    exact this

theorem own_blk {w : World} {B : Nat} {e : TypeId} {v : Value} {n : Nat} {xs : List Value} (h : w.ownsRow B e 1 v n xs) (hn : 0 < n) :
    ∃ g cap cur, v = .slice (some ⟨g, 0, none⟩) n cap ∧ B ≤ g ∧ n ≤ cap ∧ cap ≤ 9223372036854775807 ∧ Blk w g e cur ∧ n ≤ cur.size ∧ ∀ j (hj : j < xs.length), cur[j]? = some xs[j] := by
  have hl := h.1
  obtain ⟨g, cap, hv, hg, hlt, h1, h2, h3⟩ := own_shape h hn
  obtain ⟨_, ⟨rfl, h0⟩ | ⟨g', cap', cur, hv', hg', hw, h1', h2', h3', h4'⟩⟩ := h
  · omega
  · rw [hv'] at hv
    cases hv
    have hb : Blk w g e cur := hw
    refine ⟨g, cap, cur, hv', hg, h1, h2, hb, ?_, fun j hj => ?_⟩
    · rw [h3']; omega
    · have := h3 j xs[j] (by simp)
      rwa [hb.cell] at this

/-- Every step but the first hangs on an earlier one, by a letter. -/
structure PathOk (ss : List StV) (ws : List (List Nat)) : Prop where
  len : ws.length = ss.length
  zero : ∀ (h : 0 < ws.length), ws[0] = []
  root : ∀ (h : 0 < ss.length), ss[0].st.par = -1
  link : ∀ j (h : j < ss.length) (h' : j < ws.length), 0 < j → ∃ p, p < j ∧ ss[j].st.par = (p : Int) ∧ ss[j].st.let_ < 6 ∧ ∃ (hp : p < ws.length), ws[j] = ss[j].st.let_ :: ws[p]
theorem PathOk.wlen {ss : List StV} {ws : List (List Nat)} (h : PathOk ss ws) : ∀ j (hj : j < ws.length), ws[j].length ≤ j := by
  intro j
  induction j using Nat.strongRecOn with
  | _ j ih =>
    intro hj
    by_cases e : j = 0
    · subst e
      rw [h.zero hj]
      exact Nat.le_refl _
    · obtain ⟨p, hpj, _, _, hp, hw⟩ := h.link j (by rw [← h.len]; exact hj) hj (by omega)
      have := ih p hpj hp
      rw [hw, List.length_cons]
      omega
theorem PathOk.lt6 {ss : List StV} {ws : List (List Nat)} (h : PathOk ss ws) : ∀ j (hj : j < ws.length), ∀ l ∈ ws[j], l < 6 := by
  intro j
  induction j using Nat.strongRecOn with
  | _ j ih =>
    intro hj l hl
    by_cases e : j = 0
    · subst e
      rw [h.zero hj] at hl
      cases hl
    · obtain ⟨p, hpj, _, h6, hp, hw⟩ := h.link j (by rw [← h.len]; exact hj) hj (by omega)
      rw [hw] at hl
      rcases List.mem_cons.1 hl with rfl | hl
      · exact h6
      · exact ih p hpj hp l hl

def bytesOf (r : List Nat) : List Value := r.map fun l => Value.int .u8 (97 + l : Nat)
theorem infoByte : (Tryd.prog.info? 5).map (fun i => (i.zero, i.size, i.bytes)) = some (some (.int .u8 0), 1, 1) := by kernel_rfl

theorem own_steps {w : World} {B : Nat} {v : Value} {ss : List StV} (h : w.ownsRow B 136 3 v ss.length (stCells ss)) (hn : 0 < ss.length) :
    ∃ g cap, v = .slice (some ⟨g, 0, none⟩) ss.length cap ∧ B ≤ g ∧ g < w.heap.size ∧ ss.length ≤ cap ∧ cap ≤ 9223372036854775807 ∧
      ∀ i (hi : i < ss.length), w.cell? ⟨g, i * 3, none⟩ = some (.int .i64 ss[i].st.par) ∧ w.cell? ⟨g, i * 3 + 1, none⟩ = some (.int .i64 (ss[i].st.let_ : Nat)) ∧ w.cell? ⟨g, i * 3 + 2, none⟩ = some (.slice ss[i].A ss[i].st.nodes.length ss[i].c) := by
  obtain ⟨g, cap, hv, h1, h2, h3, h4, h5⟩ := own_shape h hn
  exact ⟨g, cap, hv, h1, h2, h3, h4, fun i hi => ⟨h5 _ _ (stCells_at ss i hi).1, h5 _ _ (stCells_at ss i hi).2.1, h5 _ _ (stCells_at ss i hi).2.2⟩⟩

set_option maxRecDepth 100000 in
set_option maxHeartbeats 2000000 in
theorem pathWord_core (ss : List StV) (ws : List (List Nat)) (g c n : Nat) (w : World) (hn : ss.length = n + 2) (hs : ss.length ≤ 4294967296) (hw : PathOk ss ws) (hw' : n + 1 < ws.length)
    (hl : ss.length ≤ c) (hc : c ≤ 9223372036854775807) (hg : g < w.heap.size) (hr : ∀ i (hi : i < ss.length), w.cell? ⟨g, i * 3, none⟩ = some (.int .i64 ss[i].st.par) ∧ w.cell? ⟨g, i * 3 + 1, none⟩ = some (.int .i64 (ss[i].st.let_ : Nat))) :
    Calls Tryd.prog 133 #[.slice (some ⟨g, 0, none⟩) ss.length c] w fun e w' => e = .returned (.string (wordS ws[n + 1])) ∧ Below w.heap.size w w' := by
  obtain ⟨i0, hi, hz0, hz1, hz2⟩ := info_parts infoByte
  have hlen := hw.len
  have hwl := hw.wlen (n + 1) hw'
  have hlast : Hid (((n + 1 : Nat) : Int) = (ss.length : Int) - 1) := hid (by omega)
  replace hw := hid hw
  replace hr := hid hr
  replace hn := hid hn
  go_enter Tryd.func133, Tryd.ntmps133
  go_wp2_with fail
  go_loopw [3, 4] (fun v iv wr => ∃ (j : Nat) (done : List Nat), iv = .int .i64 j ∧ j < ss.length ∧ (∀ h : j < ws.length, done ++ ws[j] = ws[n + 1]) ∧ wr.ownsRow w.heap.size 5 1 v done.length (bytesOf done) ∧ Below w.heap.size w wr) (fun _ iv _ => (intOf iv).toNat)
  case atStart => exact ⟨n + 1, [], by rw [hlast.out], by have := hn.out; omega, fun _ => rfl, World.ownsRow_nil _ _ _ _, by (repeat (first | exact Below.refl _ _ | assumption | refine Below.drew ?_ | refine Below.alloc ?_ (by first | omega | (simp; done) | (simp; omega)) _ | refine Below.setCell ?_ (by first | omega | (simp; done) | (simp; omega)) _))⟩
  case round =>
    obtain ⟨j, done, rfl, hj, hdone, hown, hb⟩ := hrel
    have hd := hdone (by omega)
    have hdl : done.length ≤ n + 1 := by
      have := congrArg List.length hd
      rw [List.length_append] at this
      omega
    have hjw : j < ws.length := by omega
    obtain ⟨e0, e1⟩ := hr.out j hj
    rw [← hb.cell (by simpa using hg)] at e0 e1
    have i1 : (0 : Int) ≤ (j : Int) := by omega
    have i2 : (j : Int) < (ss.length : Int) := by omega
    by_cases h0 : j = 0
    · have hz : ws[j]'hjw = [] := by subst h0; exact hw.out.zero (by omega)
      rw [hz, List.append_nil] at hd
      subst hd
      have hroot : ss[j].st.par = -1 := by subst h0; exact hw.out.root (by omega)
      rw [hroot] at e0
      replace h0 := hid h0
      have hpos : 0 < ws[n + 1].length := by
        obtain ⟨p, -, -, -, hp, hq⟩ := hw.out.link (n + 1) (by omega) hw' (by omega)
        rw [hq]
        simp
      have h6 := hw.out.lt6 (n + 1) hw'
      obtain ⟨gb, cap, cur, rfl, hgb, hcap, hcap', hblk, hsz, hcur⟩ := own_blk hown hpos
      generalize hR : ws[n + 1] = r at *
      replace hR := hid hR
      have hblk' := hid hblk
      have hcs : Hid (∀ i (h : i < (r.map (97 + ·)).length), cur[i]? = some (.int .u8 ((r.map (97 + ·))[i] : Nat))) := hid fun i h => by
        have hi : i < r.length := by simpa using h
        rw [hcur i (by unfold bytesOf; simpa using hi)]
        unfold bytesOf
        simp
      replace hdone := hid hdone
      replace hcur := hid hcur
      replace hblk := hid hblk
      replace hown := hid hown
      replace hwl := hid hwl
      replace h6 := hid h6
      go_wp2_with fail
      refine (reverseBytes_any gb r.length cap (r.map (97 + ·)) cur wr (by simp) hcap hcap' hblk'.out hsz hcs.out).mono ?_
      rintro e w2 ⟨rfl, hg2, cs2, hblk2, hsz2, hcs2⟩
      have hB2 : Hid (Below w.heap.size w w2) := hid (hb.grown hg2 hb.size (fun k hk => by cases hk; exact hgb))
      have kc : (convert 22 9 (.slice (some ⟨gb, 0, none⟩) r.length cap)).run Tryd.prog w2 = .ok (.string (wordS r)) w2 := by
        have := run_convert_bytes_back (P := Tryd.prog) w2 22 9 5 ⟨gb, 0, none⟩ cap (r.reverse.map letB) Tryd.underlying22 Tryd.underlying5 Tryd.underlying9 (fun j hj => by
          have hj' : j < r.length := by simpa using hj
          have e1 := hcs2 j (by simpa using hj')
          have hadd : (⟨gb, 0, none⟩ : Addr).add j = ⟨gb, j, none⟩ := by unfold Addr.add; split <;> simp_all
          rw [hadd, hblk2.cell, e1]
          have h6' : r.reverse[j]'(by simpa using hj') < 6 := h6.out _ (List.mem_reverse.1 (List.getElem_mem _))
          simp only [List.getElem_map, List.map_reverse, List.getElem_reverse] at h6' ⊢
          unfold letB
          rw [UInt8.toNat_ofNat']
          have := h6'
          simp only [List.length_map] at *
          rw [Nat.mod_eq_of_lt (by omega)])
        simpa [wordS] using this
      replace hcs2 := hid hcs2
      replace hblk2 := hid hblk2
      replace hg2 := hid hg2
      clear e0 e1
      go_wp2
      go_ret
      exact ⟨by rw [hR.out]; rfl, hB2.out⟩
    · obtain ⟨p, hpj, hpar, h6, hp, hq⟩ := hw.out.link j hj hjw (by omega)
      rw [hpar] at e0
      rw [hq] at hd
      obtain ⟨l, hll⟩ : ∃ l, l = ss[j].st.let_ := ⟨_, rfl⟩
      rw [← hll] at e1 hd h6
      have hps : p < ss.length := by omega
      have hge : (0 : Int) ≤ (p : Int) := by omega
      have hd2 : Hid ((done ++ [l]) ++ ws[p] = ws[n + 1]) := hid (by rw [List.append_assoc]; exact hd)
      replace hd := hid hd
      replace hll := hid hll
      replace hq := hid hq
      replace hpar := hid hpar
      replace hdone := hid hdone
      replace hown := hid hown
      have hzr := hb.size
      go_wp2_with (first
        | (go_at_call 89; refine (letterByte_any l h6 _).mono ?_; rintro e w' ⟨rfl, rfl⟩)
        | (at_builtin; refine wpList_append_own _ rfl _ _ 22 rfl w.heap.size 5 i0 (.int .u8 0) 1 1 Tryd.underlying22 hi hz0 hz1 hz2 rfl (by decide) _ _ _ rfl (hown.out.alloc _) ⟨wr.heap.size, 0, none⟩ 1 1 [.int .u8 (97 + l : Nat)] rfl rfl (cell_one_new _ _ _) (by intro u hu; simp at hu; subst hu; rfl) (by unfold maxLen; omega) (by omega) (by simp; omega) ?_; intro v' w1 hown' hgrow _; have hB1 : Below w.heap.size w w1 := Below.grown (hb.alloc hzr _) hgrow (by simp; omega) (own_block hown.out); have e2 := e0; rw [hb.cell (by simpa using hg), ← hB1.cell (by simpa using hg)] at e2))
      go_roundw
      case rel =>
        refine ⟨p, done ++ [l], rfl, hps, fun _ => hd2.out, ?_, hB1⟩
        unfold bytesOf at hown' ⊢
        rw [List.length_append, List.map_append]
        exact hown'
      case measure => simp [intOf]; omega

theorem pathWord_any (ss : List StV) (ws : List (List Nat)) (g c n m : Nat) (w : World) (hm : ss.length = m) (hn : ss.length = n + 2) (hs : ss.length ≤ 4294967296) (hw : PathOk ss ws) (hw' : n + 1 < ws.length)
    (hl : ss.length ≤ c) (hc : c ≤ 9223372036854775807) (hg : g < w.heap.size) (hr : ∀ i (hi : i < ss.length), w.cell? ⟨g, i * 3, none⟩ = some (.int .i64 ss[i].st.par) ∧ w.cell? ⟨g, i * 3 + 1, none⟩ = some (.int .i64 (ss[i].st.let_ : Nat))) :
    Calls Tryd.prog 133 #[.slice (some ⟨g, 0, none⟩) m c] w fun e w' => e = .returned (.string (wordS ws[n + 1])) ∧ Below w.heap.size w w' := by
  subst hm
  exact pathWord_core ss ws g c n w hn hs hw hw' hl hc hg hr

end Go.Proofs.YtempjhgajcdibaaDoor
