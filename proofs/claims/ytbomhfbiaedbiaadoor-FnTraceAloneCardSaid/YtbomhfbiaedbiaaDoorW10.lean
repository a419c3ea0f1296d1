/- The program's moves, and the states that it reaches. -/
import Derived.Test.YtbomhfbiaedbiaaDoorW4
import Derived.Test.YtbomhfbiaedbiaaDoorMathB
import Derived.Lib.TrailingZeros
import Derived.Laws.Bits64b
import Derived.Shelf.Spec.TrailingZeros
namespace Go.Proofs.YtbomhfbiaedbiaaDoor
open Go.RowKit Go.BigFrame AG

/-- The library's table lies as its initialiser lays it. -/
def Tab (w : World) : Prop := ∀ j, j < Lib.deBruijn64tab.length → w.cell? ⟨1, j, none⟩ = some (.int .u8 (Lib.deBruijn64tab.getD j 0))

theorem Tab.later {w w' : World} (h : Tab w) (hb : Below w.heap.size w w') : Tab w' := fun j hj => by
  have := h j hj
  rw [hb.cell (World.block_lt_of_cell? _ _ this)]
  exact this

set_option maxHeartbeats 1000000 in
theorem tz64_core_ (x k idx : Nat) (w : World) (hx0 : ((x : Int) == 0) = false)
    (key : IntKind.u64.wrap (bits BinOp.and IntKind.u64 (x : Int) (IntKind.u64.wrap (-(x : Int))) * 285870213051353865) / 288230376151711744 = (idx : Int))
    (hi : idx < 64) (hk : k < 64) (hcell : w.cell? ⟨1, idx, none⟩ = some (.int .u8 k)) :
    Calls Tryd.prog 144 #[.int .u64 x] w fun e w' => e = .returned (.int .i64 k) ∧ w = w' := by
  go_enter Tryd.func144, Tryd.ntmps144
  go_wp2_with (simp only [key])
  go_ret
  exact ⟨rfl, rfl⟩

theorem trailingZeros64_any (x : Nat) (hx : x < 18446744073709551616) (hx0 : x ≠ 0) (w : World) (hT : Tab w) :
    Calls Tryd.prog 144 #[.int .u64 x] w fun e w' => e = .returned (.int .i64 (Lib.ctz 64 x)) ∧ w = w' := by
  obtain ⟨hlow, hk⟩ := Lib.lowest_bit 64 x hx0 hx
  obtain ⟨hi, htab⟩ := Lib.deBruijn64_at _ hk
  have hcell := hT _ hi
  rw [htab] at hcell
  exact tz64_core_ x _ _ w (by simp; omega) (tz64_key x _ hx hx0 hlow) hi hk hcell

set_option maxHeartbeats 1000000 in
theorem trailingZeros_any (x : Nat) (hx : x < 18446744073709551616) (hx0 : x ≠ 0) (w : World) (hT : Tab w) :
    Calls Tryd.prog 112 #[.int .u64 x] w fun e w' => e = .returned (.int .i64 (Lib.ctz 64 x)) ∧ w = w' := by
  replace hT := hid hT
  go_enter Tryd.func112, Tryd.ntmps112
  go_wp2_with (go_at_call 144; refine (trailingZeros64_any x hx hx0 _ hT.out).mono ?_; rintro e w' ⟨rfl, rfl⟩)
  go_ret
  exact ⟨rfl, rfl⟩

theorem zeroMoves : Tryd.zeroCells127 = Array.replicate 96 (Value.int .i64 0) := by kernel_rfl

set_option maxHeartbeats 1000000 in
theorem movesOf_any (s : Sy) (A : Option Addr) (c : Nat) (w : World) (hs : edgesIn s) (hl : s.es.length ≤ c) (hc : c ≤ 9223372036854775807) (hr : EdsAt w w.heap.size A s.es) :
    Calls Tryd.prog 74 #[s.val A c] w (MvPost (mv s) w) := by
  unfold Sy.val
  replace hr := hid hr
  replace hs := hid hs
  go_enter Tryd.func74, Tryd.ntmps74
  go_wp2_with fail
  obtain ⟨w0, hw0, hz0, hB0, hS0, hS1, hS2⟩ := boxed3 w (Value.int IntKind.i64 s.al) (Value.int IntKind.i64 s.st) (Value.slice A s.es.length c) 36
  obtain ⟨w1, hw1⟩ : ∃ w1, (w.alloc (Obj.cells #[Value.int IntKind.i64 s.al, Value.int IntKind.i64 s.st, Value.slice A s.es.length c] 36)).alloc (Obj.cells Tryd.zeroCells127 127) = w1 := ⟨_, rfl⟩
  have hblk0 : Blk w1 (w.heap.size + 1) 127 Tryd.zeroCells127 := by
    rw [← hw1]
    have := Blk.new (w.alloc (Obj.cells #[Value.int IntKind.i64 s.al, Value.int IntKind.i64 s.st, Value.slice A s.es.length c] 36)) 127 Tryd.zeroCells127
    simpa using this
  have hB1 : Below w.heap.size w w1 := by rw [← hw1]; (repeat (first | exact Below.refl _ _ | assumption | refine Below.drew ?_ | refine Below.alloc ?_ (by first | omega | (simp; done) | (simp; omega)) _ | refine Below.setCell ?_ (by first | omega | (simp; done) | (simp; omega)) _))
  have hz1 : w1.heap.size = w.heap.size + 2 := by rw [← hw1]; simp
  have hin0 : MvIn Tryd.zeroCells127 (mvTo s 0) := by
    rw [zeroMoves]
    refine ⟨by simp, fun q l hq hl => ?_⟩
    rw [mvTo_zero, Array.getElem?_replicate, if_pos (by omega)]
    rfl
  rw [hw1]
  clear hw1 hw0 hS0 hS1 hS2 hB0 hz0 w0
  replace hz1 := hid hz1
  replace hin0 := hid hin0
  replace hblk0 := hid hblk0
  go_loopw [10] (fun i wr => ∃ (k : Nat) (cs : Array Value), i = .int .i64 k ∧ k ≤ s.es.length ∧ MvIn cs (mvTo s k) ∧ Blk wr (w.heap.size + 1) 127 cs ∧ Below w.heap.size w wr) (fun i _ => s.es.length - (intOf i).toNat)
  case atStart => exact ⟨0, _, rfl, by omega, hin0.out, hblk0.out, hB1⟩
  case round =>
    obtain ⟨k, cs, rfl, hk, hin, hblk, hb⟩ := hrel
    by_cases hlt : k < s.es.length
    · obtain ⟨b, o, rfl, hB, hE⟩ := hr.out.get (Below.refl _ _) (Nat.le_refl _) hlt
      obtain ⟨e0, e1, e2⟩ := hE k hlt
      obtain ⟨f1, f2, f3, f4, f5, f6, _⟩ := hs.out s.es[k] (List.getElem_mem _)
      have hzr := hb.size
      have hg := hblk.lt
      replace hE := hid hE
      replace hin := hid hin
      replace hblk := hid hblk
      go_wp2_with fail
      obtain ⟨w2, hw2, hz2, hB2, hE0, hE1, hE2⟩ := boxed3 wr (Value.int IntKind.i64 s.es[k].f) (Value.int IntKind.i64 s.es[k].l) (Value.int IntKind.i64 s.es[k].t) 76
      rw [hw2]
      clear hw2
      have g0 := fun x => hE0 _ (Fam.below (wr.heap.size + 1) w2 x)
      have g1 := fun x => hE1 _ (Fam.below (wr.heap.size + 1) w2 x)
      have g2 := fun x => hE2 _ (Fam.below (wr.heap.size + 1) w2 x)
      have hblk2 := hblk.out.below hB2 hg
      have hm : ∀ x, (Fam (wr.heap.size + 1) w2 x).cell? ⟨w.heap.size + 1, s.es[k].f.toNat * 6 + s.es[k].l.toNat, none⟩ = some (.int .i64 (mvTo s k s.es[k].f.toNat s.es[k].l.toNat : Nat)) := fun x => by
        rw [(hblk2.below (Fam.below (wr.heap.size + 1) w2 x) (by omega)).cell]
        exact hin.out.2 _ _ (by omega) (by omega)
      refine wp_region_fam_tail (wr.heap.size + 1) w2 16 (by kernel_rfl) (by kernel_rfl) (Below.refl _ _) ?_
      simp only [List.take_succ_cons, List.take_zero, List.drop_succ_cons, List.drop_zero]
      (repeat (go_big_quiet_step (fail)))
      refine wpQuiet_nil ?_
      intro w3 hw3
      replace hw3 := Fam.out hw3
      have hblk3 := hblk2.below hw3 (by omega)
      have hsz := hin.out.1
      obtain ⟨v3, d3⟩ := hblk3.some_ (i := s.es[k].f.toNat * 6 + s.es[k].l.toNat) (by omega)
      have z3 := hblk3.frozen (s.es[k].f.toNat * 6 + s.es[k].l.toNat)
      have hb3 : Below w.heap.size w w3 := (hb.trans (hB2.mono hzr)).trans (hw3.mono (by omega))
      have hval : bits BinOp.or IntKind.i64 (mvTo s k s.es[k].f.toNat s.es[k].l.toNat : Nat) (wrap64 (2 ^ s.es[k].t.toNat)) = (mvTo s (k + 1) s.es[k].f.toNat s.es[k].l.toNat : Nat) := by
        rw [wrap_pow (by omega), bits_orN _ _ (mvTo_lt s k _ _) (by have := Nat.pow_lt_pow_right (a := 2) (by omega) (show s.es[k].t.toNat < 16 by omega); omega), mvTo_hit hs.out hlt]
      have hnx := hin.out.set_ (m' := mvTo s (k + 1)) (q0 := s.es[k].f.toNat) (l0 := s.es[k].l.toNat) (by omega) (by omega) hval (fun q l h => mvTo_miss hlt h)
      replace hnx := hid hnx
      replace hval := hid hval
      replace hblk3 := hid hblk3
      replace hblk2 := hid hblk2
      replace hsz := hid hsz
      go_wp2
      go_roundw
      case rel => exact ⟨k + 1, _, by go_num, by omega, hnx.out, hblk3.out.set_ _ _, by (repeat (first | exact Below.refl _ _ | assumption | refine Below.drew ?_ | refine Below.alloc ?_ (by first | omega | (simp; done) | (simp; omega)) _ | refine Below.setCell ?_ (by first | omega | (simp; done) | (simp; omega)) _))⟩
      case measure => simp [intOf]; omega
    · obtain rfl : k = s.es.length := by omega
      have hmv : MvAt wr wr.heap.size (w.heap.size + 1) (mv s) := ⟨hblk.lt, fun q l hq hl => by rw [hblk.cell]; exact hin.2 q l hq hl⟩
      replace hmv := hid hmv
      replace hin := hid hin
      replace hblk := hid hblk
      go_wp2
      go_ret
      exact ⟨_, rfl, hmv.out, hb⟩

set_option maxHeartbeats 1000000 in
theorem step_any (m : Nat → Nat → Nat) (g S l : Nat) (w : World) (hl : l < 6) (hm : ∀ q, m q l < 65536) (hS : S < 65536) (hT : Tab w) (hg : MvAt w w.heap.size g m) :
    Calls Tryd.prog 78 #[.pointer (some ⟨g, 0, none⟩), .int .i64 S, .int .i64 l] w fun e w' => e = .returned (.int .i64 (unionOf m S l : Nat)) ∧ Below w.heap.size w w' := by
  replace hT := hid hT
  replace hg := hid hg
  have hst := hid (Gather.start (l := l) hm hS)
  replace hm := hid hm
  go_enter Tryd.func78, Tryd.ntmps78
  go_wp2_with fail
  go_loopw [1, 7] (fun st o wr => ∃ T O : Nat, st = .int .i64 T ∧ o = .int .i64 O ∧ Gather m S l T O ∧ Below w.heap.size w wr) (fun st _ _ => (intOf st).toNat)
  case atStart => exact ⟨S, 0, rfl, rfl, hst.out, Below.refl _ _⟩
  case round =>
    obtain ⟨T, O, rfl, rfl, hga, hb⟩ := hrel
    have hTl := hga.lt
    by_cases hT0 : T = 0
    · subst hT0
      have hdone := hid hga.done
      replace hga := hid hga
      go_wp2
      go_ret
      exact ⟨by rw [← hdone.out]; rfl, hb⟩
    · obtain ⟨mm, hTm, hq64⟩ := Lib.ctzFrom_spec 64 T (by omega) (by omega)
      have hctz : Lib.ctz 64 T = Lib.ctzFrom 64 T := by unfold Lib.ctz; rw [if_neg hT0]
      rw [← hctz] at hTm hq64
      obtain ⟨hbit, hbits, hdec⟩ := drop_low hTm
      have hq16 : Lib.ctz 64 T < 16 := testBit_lt (n := 16) hTl hbit
      have hnx := hid (hga.next (hm.out _) hbit hbits)
      have hOl := hga.olt
      have hcell : ∀ x, (Fam w.heap.size w x).cell? ⟨g, Lib.ctz 64 T * 6 + l, none⟩ = some (.int .i64 (m (Lib.ctz 64 T) l : Nat)) := fun x => (hg.out.keep (Fam.below _ _ x)).2 _ _ hq16 hl
      have hTF : ∀ x, Tab (Fam w.heap.size w x) := fun x => hT.out.later (Fam.below _ _ x)
      have hne : ((T : Int) != 0) = true := by simpa using hT0
      have hand := hid (bits_andN T (T - 1) hTl (by omega))
      have hor := hid (bits_orN O (m (Lib.ctz 64 T) l) hOl (hm.out _))
      have e1 : ((T : Int) - 1) = ((T - 1 : Nat) : Int) := by omega
      replace e1 := hid e1
      replace hTF := hid hTF
      replace hga := hid hga
      replace hdec := hid hdec
      clear hbits hbit hTm hctz
      generalize hqq : Lib.ctz 64 T = q at *
      replace hqq := hid hqq
      go_wp2_with fail
      refine wp_region_fam w.heap.size w (by kernel_rfl) (by kernel_rfl) hb ?_
      (repeat (go_big_quiet_step ((refine (trailingZeros_any T (by omega) hT0 _ (hTF.out _)).mono ?_; rintro e w1 ⟨rfl, rfl⟩; exact ⟨by rw [hqq.out], _, rfl⟩))))
      refine wpQuiet_nil ?_
      intro w2 hw2
      replace hw2 := Fam.out hw2
      go_wp2
      go_roundw
      case rel => exact ⟨_, _, by rw [e1.out, hand.out], by rw [hor.out], hnx.out, hw2⟩
      case measure => rw [e1.out, hand.out]; simp [intOf]; exact hdec.out


end Go.Proofs.YtbomhfbiaedbiaaDoor
