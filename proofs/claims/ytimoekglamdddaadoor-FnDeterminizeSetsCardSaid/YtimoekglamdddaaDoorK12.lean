/- Lemmas, part 12: several texts in one. -/
import Derived.Test.YtimoekglamdddaaDoorK11
import Derived.Test.YtimoekglamdddaaDoorK3
import Derived.Test.YtimoekglamdddaaDoorK4
import Derived.Laws.IdiomStrings
import Derived.Laws.BytesString
import Derived.Maps.AppendAt
import Derived.Test.YtimoekglamdddaaDoorK6
import Derived.Deep.Quiet
import Derived.Test.YtimoekglamdddaaDoorK7
import Derived.Test.YtimoekglamdddaaDoorK1
set_option linter.unusedSimpArgs false
set_option linter.unusedVariables false

/- Restricted words: the reference's RestrictWord, the program's restrict. -/
namespace Go.Proofs.YtimoekglamdddaaDoor
open Go.RowKit Go.BigFrame AG

theorem infoByte8 : (Tryd.prog.info? 5).map (fun i => (i.zero, i.size, i.bytes)) = some (some (.int .u8 0), 1, 1) := by kernel_rfl

def byteVals (l : List UInt8) : List Value := l.map fun b => Value.int .u8 (b.toNat : Int)

/-- string(b) of owned bytes. -/
theorem conv_own {w : World} {B : Nat} {v : Value} {l : List UInt8} (h : w.ownsRow B 5 1 v l.length (byteVals l)) : (convert 43 9 v).run Tryd.prog w = .ok (.string ⟨l.toArray⟩) w := by
  by_cases h0 : 0 < l.length
  · obtain ⟨g, cap, rfl, h1, h2, h3, h4, h5⟩ := own_shape h h0
    refine run_convert_bytes_back (P := Tryd.prog) w 43 9 5 ⟨g, 0, none⟩ cap l Tryd.underlying43 Tryd.underlying5 Tryd.underlying9 (fun j hj => ?_)
    have := h5 j (.int .u8 (l[j].toNat : Int)) (by unfold byteVals; simp [List.getElem?_eq_getElem hj])
    rw [show ((⟨g, 0, none⟩ : Addr).add j) = ⟨g, j, none⟩ from by unfold Addr.add; split <;> simp_all]
    exact this
  · obtain ⟨A, c, rfl, -, -⟩ := own_slice h
    obtain rfl : l = [] := List.length_eq_zero_iff.1 (by omega)
    rw [show ([] : List UInt8).length = 0 from rfl, run_convert_bytes_string w 43 9 5 A 0 c Tryd.underlying43 Tryd.underlying5 Tryd.underlying9]
    cases A <;> simp [Conv.bytesToString, loadCells]
    all_goals rfl

/-- A byte is appended. -/
theorem bytes_next {w wr w1 : World} {l : List UInt8} {b : UInt8} {n : Int} {v v' : Value} {c : Array Value} {t : TypeId} (hn : n = (b.toNat : Int)) (hB : w.heap.size ≤ wr.heap.size) (hown : wr.ownsRow w.heap.size 5 1 v l.length (byteVals l)) (hb : Below w.heap.size w wr)
    (hown' : w1.ownsRow w.heap.size 5 1 v' (l.length + 1) (byteVals l ++ [.int .u8 n])) (hgrow : (wr.alloc (.cells c t)).grownBy w1 v.ownBlock) :
    w1.ownsRow w.heap.size 5 1 v' (l ++ [b]).length (byteVals (l ++ [b])) ∧ Below w.heap.size w w1 := by
  subst hn
  refine ⟨?_, Below.grown (hb.alloc hB _) hgrow (by simp; omega) (own_block hown)⟩
  unfold byteVals at hown' ⊢
  rw [List.length_append, List.map_append]
  exact hown'

theorem keptTo_hit {s : ByteArray} {al : Int} {k : Nat} (h : HasZ al (ltr s k) = true) : keptTo s al (k + 1) = keptTo s al k ++ [s.data.getD k 0] := by rw [keptTo, if_pos h]
theorem keptTo_miss {s : ByteArray} {al : Int} {k : Nat} (h : HasZ al (ltr s k) = false) : keptTo s al (k + 1) = keptTo s al k := by rw [keptTo, if_neg (by rw [h]; simp)]
theorem byte_val (s : ByteArray) (k : Nat) : lz s k + 97 = ((s.data.getD k 0).toNat : Int) := by unfold lz; omega

set_option maxRecDepth 100000 in
set_option maxHeartbeats 2000000 in
theorem restrict_any (s : ByteArray) (al : Int) (w : World) (hz : s.size ≤ 50000) :
    Calls Tryd.prog 88 #[.string s, .int .i64 al] w fun e w' => e = .returned (.string (restr s al)) ∧ Below w.heap.size w w' := by
  obtain ⟨i0, hi, hz0, hz1, hz2⟩ := info_parts infoByte8
  go_enter Tryd.func88, Tryd.ntmps88
  go_wp2_with fail
  go_loopw [5, 9] (fun v i wr => ∃ k : Nat, i = .int .i64 k ∧ k ≤ s.size ∧ wr.ownsRow w.heap.size 5 1 v (keptTo s al k).length (byteVals (keptTo s al k)) ∧ Below w.heap.size w wr) (fun _ i _ => s.size - (intOf i).toNat)
  case atStart => exact ⟨0, rfl, by omega, World.ownsRow_nil _ _ _ _, Below.refl _ _⟩
  case round =>
    obtain ⟨k, rfl, hk, hown, hb⟩ := hrel
    have hzr := hb.size
    have hlen := keptTo_len s al k
    by_cases hlt : k < s.size
    · have h63 : ltr s k ≤ 63 := by unfold ltr lOk; split; rename_i h; have := of_decide_eq_true h; omega; omega
      cases hh : HasZ al (ltr s k)
      · have hnx := hid (keptTo_miss hh)
        replace hh := hid hh
        replace hown := hid hown
        go_wp2_with (first
          | (go_at_call 97; refine (letterAt_any s k _ hlt).mono ?_; rintro e w' ⟨rfl, rfl⟩)
          | (go_at_call 78; refine (has_any al _ _ h63).mono ?_; rintro e w' ⟨rfl, rfl⟩; rw [hh.out]))
        go_roundw
        case rel => exact ⟨k + 1, by go_num, by omega, by rw [hnx.out]; exact hown.out, hb⟩
        case measure => simp [intOf]; omega
      · have hnx := hid (keptTo_hit hh)
        have hbv := byte_at s k hlt
        have h0 : (0 : Int) ≤ (k : Int) ∧ (k : Int) < (s.size : Int) := by omega
        replace hh := hid hh
        go_wp2_with (first
          | (go_at_call 97; refine (letterAt_any s k _ hlt).mono ?_; rintro e w' ⟨rfl, rfl⟩)
          | (go_at_call 78; refine (has_any al _ _ h63).mono ?_; rintro e w' ⟨rfl, rfl⟩; rw [hh.out])
          | (at_builtin; refine wpList_append_own _ rfl _ _ 43 rfl w.heap.size 5 i0 (.int .u8 0) 1 1 Tryd.underlying43 hi hz0 hz1 hz2 rfl (by decide) _ _ _ rfl (hown.alloc _) ⟨wr.heap.size, 0, none⟩ 1 1 [.int .u8 (lz s k + 97)] rfl rfl (cell_one_new _ _ _) (by intro u hu; simp at hu; subst hu; rfl) (by unfold maxLen; omega) (by omega) (by simp; omega) ?_; intro v' w1 hown' hgrow _))
        have R := bytes_next (byte_val s k) hzr hown hb hown' hgrow
        clear hown' hgrow hown hb
        go_roundw
        case rel => exact ⟨k + 1, by go_num, by omega, by rw [hnx.out]; exact R.1, R.2⟩
        case measure => simp [intOf]; omega
    · obtain rfl : k = s.size := by omega
      have kc := conv_own hown
      replace hown := hid hown
      go_wp2
      go_ret
      exact ⟨rfl, hb⟩

end Go.Proofs.YtimoekglamdddaaDoor

/- The states behind a word: both StatesAfter and HasTrace. -/
namespace Go.Proofs.YtimoekglamdddaaDoor
open Go.RowKit Go.BigFrame AG

set_option maxRecDepth 100000 in
set_option maxHeartbeats 1000000 in
theorem l2Run_any (s : Sy) (A : Option Addr) (c : Nat) (x : ByteArray) (w : World) (hs : edgesIn s) (hx : x.size ≤ 50000) (hl : s.es.length ≤ c) (hc : c ≤ 9223372036854775807) (hr : EdsAt w w.heap.size A s.es) :
    Calls Tryd.prog 163 #[s.val A c, .int .i64 1, .string x] w fun e w' => e = .returned (.int .i64 (runTo s x x.size : Nat)) ∧ Below w.heap.size w w' := by
  unfold Sy.val
  replace hr := hid hr
  replace hs := hid hs
  go_enter Tryd.func163, Tryd.ntmps163
  go_wp2_with fail
  obtain ⟨w0, hw0, hz0, hB0, hS0, hS1, hS2⟩ := boxed3 w (Value.int IntKind.i64 s.al) (Value.int IntKind.i64 s.st) (Value.slice A s.es.length c) 34
  rw [hw0]
  clear hw0
  have hr0 := hid ((hr.out.keep hB0).more (show w.heap.size ≤ w0.heap.size by omega))
  go_loopw [1, 7] (fun st i wr => ∃ (T k : Nat), st = .int .i64 T ∧ i = .int .i64 k ∧ k ≤ x.size ∧ T = runTo s x k ∧ Below w0.heap.size w0 wr) (fun _ i _ => x.size - (intOf i).toNat)
  case atStart => exact ⟨1, 0, rfl, rfl, by omega, rfl, Below.refl _ _⟩
  case round =>
    obtain ⟨T, k, rfl, rfl, hk, hT, hb⟩ := hrel
    have hTl : T < 65536 := by rw [hT]; exact runTo_lt s x k
    replace hT := hid hT
    have hB1 : Below w.heap.size w wr := hB0.trans (hb.mono (by omega))
    by_cases hlt : k < x.size
    · by_cases hT0 : T = 0
      · have hd : ((T : Int) != 0) = false := by subst hT0; rfl
        have hfin := hid (runTo_done (s := s) (w := x) (k := k) (by rw [← hT.out]; exact hT0) hk)
        replace hT0 := hid hT0
        go_wp2
        go_ret
        exact ⟨ret_int (by rw [hfin.out, hT0.out]), hB1⟩
      · have hd : ((T : Int) != 0) = true := by simpa using hT0
        replace hT0 := hid hT0
        have q0 : ∀ y, (Fam w0.heap.size w0 y).cell? ⟨w.heap.size, 0, none⟩ = some (.int .i64 s.al) := fun y => hS0 _ ((Fam.below _ _ y).mono hz0)
        have q1 : ∀ y, (Fam w0.heap.size w0 y).cell? ⟨w.heap.size, 1, none⟩ = some (.int .i64 s.st) := fun y => hS1 _ ((Fam.below _ _ y).mono hz0)
        have q2 : ∀ y, (Fam w0.heap.size w0 y).cell? ⟨w.heap.size, 2, none⟩ = some (.slice A s.es.length c) := fun y => hS2 _ ((Fam.below _ _ y).mono hz0)
        have hrF : ∀ y, Hid (EdsAt (Fam w0.heap.size w0 y) (Fam w0.heap.size w0 y).heap.size A s.es) := fun y => hid (hr0.out.later (Fam.below _ _ y))
        have hnx : Hid (stepSet s T (lz x k) = runTo s x (k + 1)) := hid (by rw [runTo, hT.out])
        go_wp2_with fail
        refine wp_region_fam w0.heap.size w0 (by kernel_rfl) (by kernel_rfl) hb ?_
        (repeat (go_big_quiet_step ((first
          | (refine (l1At_any x k _ hlt).mono ?_; rintro e w1 ⟨rfl, rfl⟩; exact ⟨rfl, _, rfl⟩)
          | (refine (l2Step_any s A c T (lz x k) _ hs.out hl hc (hrF _).out).mono ?_; rintro e w1 ⟨rfl, hb1⟩; exact ⟨rfl, Fam.next (Nat.le_refl _) hb1⟩)))))
        refine wpQuiet_nil ?_
        intro w2 hw2
        replace hw2 := Fam.out hw2
        go_wp2
        go_roundw
        case rel => exact ⟨_, k + 1, rfl, by go_num, by omega, hnx.out, hw2⟩
        case measure => simp [intOf]; omega
    · obtain rfl : k = x.size := by omega
      go_wp2
      go_ret
      exact ⟨ret_int (by rw [hT.out]), hB1⟩

set_option maxRecDepth 100000 in
set_option maxHeartbeats 1000000 in
theorem specStatesAfter_any (s : Sy) (A : Option Addr) (c : Nat) (x : ByteArray) (w : World) (hz : x.size ≤ 9223372036854775807) (hl : s.es.length ≤ c) (hc : c ≤ 9223372036854775807) (hr : EdsAt w w.heap.size A s.es) :
    Calls Tryd.prog 159 #[s.val A c, .string x] w fun e w' => e = .returned (.int .i64 (aft s x : Nat)) ∧ Below w.heap.size w w' := by
  unfold Sy.val
  replace hr := hid hr
  cases hok : sysOk s
  · have hfin : Hid (aft s x = 0) := hid (by unfold aft; rw [hok]; rfl)
    replace hok := hid hok
    go_enter Tryd.func159, Tryd.ntmps159
    go_wp2_with fail
    obtain ⟨w0, hw0, hz0, hB0, hS0, hS1, hS2⟩ := boxed3 w (Value.int IntKind.i64 s.al) (Value.int IntKind.i64 s.st) (Value.slice A s.es.length c) 34
    rw [hw0]
    clear hw0
    have hr0 := hid ((hr.out.keep hB0).more (show w.heap.size ≤ w0.heap.size by omega))
    refine (specSystemValid_any s A c w0 hl hc hr0.out).mono ?_
    rintro e w1 ⟨rfl, hb1⟩
    rw [hok.out]
    have hB1 : Below w.heap.size w w1 := hB0.trans (hb1.mono (by omega))
    have hb1' := hb1.mono hz0
    go_wp2
    go_ret
    exact ⟨ret_int (by rw [hfin.out]; rfl), hB1⟩
  · cases hwi : within x s.al
    all_goals
      have hok2 := hid hok
      have hwi2 := hid hwi
      replace hok := hid hok
      replace hwi := hid hwi
      go_enter Tryd.func159, Tryd.ntmps159
      go_wp2_with fail
      obtain ⟨w0, hw0, hz0, hB0, hS0, hS1, hS2⟩ := boxed3 w (Value.int IntKind.i64 s.al) (Value.int IntKind.i64 s.st) (Value.slice A s.es.length c) 34
      rw [hw0]
      clear hw0
      have hr0 := hid ((hr.out.keep hB0).more (show w.heap.size ≤ w0.heap.size by omega))
      refine (specSystemValid_any s A c w0 hl hc hr0.out).mono ?_
      rintro e w1 ⟨rfl, hb1⟩
      rw [hok.out]
      have hB1 : Below w.heap.size w w1 := hB0.trans (hb1.mono (by omega))
      have hb1' := hb1.mono hz0
      have hr1 := hid (hr0.out.later hb1)
      have q0 := hS0 _ hb1'
      have q1 := hS1 _ hb1'
      have q2 := hS2 _ hb1'
    · have hfin : Hid (aft s x = 0) := hid (by unfold aft; rw [hok2.out, hwi2.out]; rfl)
      go_wp2_with (go_at_call 162; refine (specWordWithin_any x s.al _ hz).mono ?_; rintro e w' ⟨rfl, rfl⟩; rw [hwi.out])
      go_ret
      exact ⟨ret_int (by rw [hfin.out]; rfl), hB1⟩
    · have hfin : Hid (aft s x = runTo s x x.size) := hid (by unfold aft; rw [hok2.out, hwi2.out]; rfl)
      have h5 := within_size hwi2.out
      go_wp2_with (first
        | (go_at_call 162; refine (specWordWithin_any x s.al _ hz).mono ?_; rintro e w' ⟨rfl, rfl⟩; rw [hwi.out])
        | (go_at_call 163; refine (l2Run_any s A c x _ (sysOk_in hok2.out) h5 hl hc hr1.out).mono ?_; rintro e w2 ⟨rfl, hb2⟩))
      go_ret
      exact ⟨ret_int (by rw [hfin.out]), hB1.trans (hb2.mono hB1.size)⟩

set_option maxRecDepth 100000 in
set_option maxHeartbeats 1000000 in
theorem implStatesAfter_any (s : Sy) (A : Option Addr) (c : Nat) (x : ByteArray) (w : World) (hz : x.size ≤ 9223372036854775807) (hl : s.es.length ≤ c) (hc : c ≤ 9223372036854775807) (hT : Tab w) (hr : EdsAt w w.heap.size A s.es) :
    Calls Tryd.prog 41 #[s.val A c, .string x] w fun e w' => e = .returned (.int .i64 (aft s x : Nat)) ∧ Below w.heap.size w w' := by
  unfold Sy.val
  replace hr := hid hr
  replace hT := hid hT
  cases hok : sysOk s
  · have hfin : Hid (aft s x = 0) := hid (by unfold aft; rw [hok]; rfl)
    replace hok := hid hok
    go_enter Tryd.func41, Tryd.ntmps41
    go_wp2_with fail
    obtain ⟨w0, hw0, hz0, hB0, hS0, hS1, hS2⟩ := boxed3 w (Value.int IntKind.i64 s.al) (Value.int IntKind.i64 s.st) (Value.slice A s.es.length c) 34
    rw [hw0]
    clear hw0
    have hr0 := hid ((hr.out.keep hB0).more (show w.heap.size ≤ w0.heap.size by omega))
    refine (implSystemValid_any s A c w0 hl hc hr0.out).mono ?_
    rintro e w1 ⟨rfl, hb1⟩
    rw [hok.out]
    have hB1 : Below w.heap.size w w1 := hB0.trans (hb1.mono (by omega))
    have hb1' := hb1.mono hz0
    go_wp2
    go_ret
    exact ⟨ret_int (by rw [hfin.out]; rfl), hB1⟩
  · cases hwi : within x s.al
    all_goals
      have hok2 := hid hok
      have hwi2 := hid hwi
      replace hok := hid hok
      replace hwi := hid hwi
      go_enter Tryd.func41, Tryd.ntmps41
      go_wp2_with fail
      obtain ⟨w0, hw0, hz0, hB0, hS0, hS1, hS2⟩ := boxed3 w (Value.int IntKind.i64 s.al) (Value.int IntKind.i64 s.st) (Value.slice A s.es.length c) 34
      rw [hw0]
      clear hw0
      have hr0 := hid ((hr.out.keep hB0).more (show w.heap.size ≤ w0.heap.size by omega))
      refine (implSystemValid_any s A c w0 hl hc hr0.out).mono ?_
      rintro e w1 ⟨rfl, hb1⟩
      rw [hok.out]
      have hB1 : Below w.heap.size w w1 := hB0.trans (hb1.mono (by omega))
      have hb1' := hb1.mono hz0
      have hr1 := hid (hr0.out.later hb1)
      have q0 := hS0 _ hb1'
      have q1 := hS1 _ hb1'
      have q2 := hS2 _ hb1'
    · have hfin : Hid (aft s x = 0) := hid (by unfold aft; rw [hok2.out, hwi2.out]; rfl)
      go_wp2_with (go_at_call 96; refine (implWordWithin_any x s.al _ hz).mono ?_; rintro e w' ⟨rfl, rfl⟩; rw [hwi.out])
      go_ret
      exact ⟨ret_int (by rw [hfin.out]; rfl), hB1⟩
    · have hfin : Hid (aft s x = runTo s x x.size) := hid (by unfold aft; rw [hok2.out, hwi2.out]; rfl)
      have h5 := within_size hwi2.out
      go_wp2_with (first
        | (go_at_call 96; refine (implWordWithin_any x s.al _ hz).mono ?_; rintro e w' ⟨rfl, rfl⟩; rw [hwi.out])
        | (go_at_call 63; refine (movesOf_any s A c _ (sysOk_in hok2.out) hl hc hr1.out).mono ?_; rintro e w2 ⟨g, rfl, hg, hb2⟩))
      have hB2 : Below w.heap.size w w2 := hB1.trans (hb2.mono hB1.size)
      have hT2 := hid (hT.out.later hB2)
      replace hg := hid hg
      go_loopw [6, 7] (fun st i wr => ∃ (T k : Nat), st = .int .i64 T ∧ i = .int .i64 k ∧ k ≤ x.size ∧ T = runTo s x k ∧ Below w2.heap.size w2 wr) (fun _ i _ => x.size - (intOf i).toNat)
      case atStart => exact ⟨1, 0, rfl, rfl, by omega, rfl, Below.refl _ _⟩
      case round =>
        obtain ⟨T, k, rfl, rfl, hk, hT', hb⟩ := hrel
        have hTl : T < 65536 := by rw [hT']; exact runTo_lt s x k
        replace hT' := hid hT'
        have hB3 : Below w.heap.size w wr := hB2.trans (hb.mono hB2.size)
        by_cases hlt : k < x.size
        · by_cases hT0 : T = 0
          · have hd : ((T : Int) != 0) = false := by subst hT0; rfl
            have hfin2 := hid (runTo_done (s := s) (w := x) (k := k) (by rw [← hT'.out]; exact hT0) hk)
            replace hT0 := hid hT0
            go_wp2
            go_ret
            exact ⟨ret_int (by rw [hfin.out, hfin2.out, hT0.out]), hB3⟩
          · have hd : ((T : Int) != 0) = true := by simpa using hT0
            replace hT0 := hid hT0
            have hlr := wordOk_at (within_word hwi2.out) hlt
            have hle := ltr_ok hlr
            obtain ⟨l, hll⟩ := Int.eq_ofNat_of_zero_le hlr.1
            have hl6 : l < 6 := by omega
            have hnx : Hid (unionOf (mv s) T l = runTo s x (k + 1)) := hid (by rw [runTo, unionOf_mv s (sysOk_in hok2.out), ← hll, hT'.out])
            have hle2 : Hid (ltr x k = (l : Int)) := hid (by rw [hle, hll])
            have hgr := hid (hg.out.later hb)
            have hTr := hid (hT2.out.later hb)
            have hzr := hb.size
            replace hll := hid hll
            replace hle := hid hle
            go_wp2_with (first
              | (go_at_call 97; refine (letterAt_any x k _ hlt).mono ?_; rintro e w' ⟨rfl, rfl⟩; rw [hle2.out])
              | (go_at_call 68; refine (step_any (mv s) g T l _ hl6 (fun q => mv_lt s q l) hTl hTr.out hgr.out).mono ?_; rintro e w3 ⟨rfl, hb3⟩))
            have hb4 := hb.trans (hb3.mono hzr)
            go_roundw
            case rel => exact ⟨_, k + 1, rfl, by go_num, by omega, hnx.out, hb4⟩
            case measure => simp [intOf]; omega
        · obtain rfl : k = x.size := by omega
          go_wp2
          go_ret
          exact ⟨ret_int (by rw [hfin.out, hT'.out]), hB3⟩

set_option maxRecDepth 100000 in
set_option maxHeartbeats 1000000 in
theorem implHasTrace_any (s : Sy) (A : Option Addr) (c : Nat) (x : ByteArray) (w : World) (hz : x.size ≤ 9223372036854775807) (hl : s.es.length ≤ c) (hc : c ≤ 9223372036854775807) (hT : Tab w) (hr : EdsAt w w.heap.size A s.es) :
    Calls Tryd.prog 32 #[s.val A c, .string x] w fun e w' => e = .returned (.bool (hasTr s x)) ∧ Below w.heap.size w w' := by
  unfold Sy.val
  replace hr := hid hr
  replace hT := hid hT
  have hfin : Hid (hasTr s x = ((aft s x : Int) != 0)) := hid (by unfold hasTr; rw [Bool.eq_iff_iff]; simp)
  go_enter Tryd.func32, Tryd.ntmps32
  go_wp2_with fail
  obtain ⟨w0, hw0, hz0, hB0, hS0, hS1, hS2⟩ := boxed3 w (Value.int IntKind.i64 s.al) (Value.int IntKind.i64 s.st) (Value.slice A s.es.length c) 34
  rw [hw0]
  clear hw0
  have hr0 := hid ((hr.out.keep hB0).more (show w.heap.size ≤ w0.heap.size by omega))
  have hT0 := hid (hT.out.later hB0)
  refine (implStatesAfter_any s A c x w0 hz hl hc hT0.out hr0.out).mono ?_
  rintro e w1 ⟨rfl, hb1⟩
  have hB1 : Below w.heap.size w w1 := hB0.trans (hb1.mono (by omega))
  go_wp2
  go_ret
  exact ⟨ret_bool (by rw [hfin.out]), hB1⟩

end Go.Proofs.YtimoekglamdddaaDoor

/- The drawing kit: l2Any, words. -/
namespace Go.Proofs.YtimoekglamdddaaDoor
open Go.RowKit Go.BigFrame AG

set_option maxRecDepth 100000 in
set_option maxHeartbeats 4000000 in
theorem l2Any_up (R P : Nat) (w : World) (hP : P + 9000000 ≤ 1125899906842624) (hr : RdUp w R P) :
    Calls Tryd.prog 70 #[.pointer (some ⟨R, 0, none⟩)] w (SyUp R (P + 3000000) 2000 w) := by
  have hR := hr.lt
  have hres := Blk.new w 34 #[.int .i64 0, .int .i64 0, .slice none 0 0]
  have hb0 : Below w.heap.size w (w.alloc (.cells #[.int .i64 0, .int .i64 0, .slice none 0 0] 34)) := (Below.refl _ _).alloc (Nat.le_refl _) _
  generalize hw0 : w.alloc (.cells #[.int .i64 0, .int .i64 0, .slice none 0 0] 34) = w0 at hres hb0
  have hz0 : w0.heap.size = w.heap.size + 1 := by rw [← hw0]; simp
  have hr0 := hid (hr.later hb0)
  replace hr := hid hr
  replace hres := hid hres
  replace hz0 := hid hz0
  go_enter Tryd.func70, Tryd.ntmps70
  go_wp2_with fail
  refine (pick_up R P 12 w0 (by omega) (by omega) hr0.out).mono ?_
  rintro e w1 ⟨j, rfl, hj0, hj1, hr1, hk1⟩
  replace hr1 := hid hr1
  replace hk1 := hid hk1
  clear hw0 hj1
  by_cases hj : j = 0
  · subst hj
    go_wp2_with fail
    refine (l2Big_up R (P + 1) w1 (by omega) hr1.out).mono ?_
    rintro e w4 ⟨s, A, c, rfl, h1, h2, h3, h4, h5, h6, h7, -⟩
    unfold Sy.val
    have K2 : KeepB (fun b => b = R) w0 w4 := hk1.out.trans h7
    have hbl := hres.out.keep K2 (by omega)
    have d0 := hbl.cell 0
    have d1 := hbl.cell 1
    have d2 := hbl.cell 2
    have f0 := hbl.frozen 0
    have f1 := hbl.frozen 1
    have f2 := hbl.frozen 2
    simp only [List.getElem?_toArray, List.getElem?_cons_zero, List.getElem?_cons_succ] at d0 d1 d2
    have hfin := hid (SyUp.ret (w := w) (L := 2000) h1 h2 (by omega) h4 (fun b o hA => by have := h5 b o hA; have := hk1.out.size; have := hz0.out; omega) (h6.more (by omega : P + 1 + 2000000 ≤ P + 3000000)) ((KeepB.of_below hb0).trans K2) hR (.int .i64 s.al) (.int .i64 s.st) (.slice A s.es.length c))
    have hlt := hbl.lt
    clear h4 h5 h6 h7 hbl K2
    go_wp2
    refine bodyPost_ret (v := .agg #[.int .i64 s.al, .int .i64 s.st, .slice A s.es.length c]) (by simp [results, Tryd.results70, go_sem, d0, d1, d2]) rfl ?_
    exact hfin.out
  · have hjb : ((j : Int) == 0) = false := by simpa using hj
    replace hj := hid hj
    go_wp2_with fail
    refine (l2Draw_up R (P + 1) w1 (by omega) hr1.out).mono ?_
    rintro e w2 ⟨s', A', c', rfl, a1, a2, a3, a4, a5, a6, a7⟩
    replace a4 := hid a4
    replace a6 := hid a6
    replace a7 := hid a7
    clear a5
    go_wp2_with fail
    refine (l2Wrong_up R (P + 1 + 2000) 1536 s' A' c' w2 (by omega) a1 a2 a3 (by omega) a4.out a6.out).mono ?_
    rintro e w4 ⟨s, A, c, rfl, h1, h2, h3, h4, h5, h6, h7⟩
    unfold Sy.val
    have K1 : KeepB (fun b => b = R) w0 w2 := hk1.out.trans a7.out
    have K2 : KeepB (fun b => b = R) w0 w4 := K1.trans h7
    have hbl := hres.out.keep K2 (by omega)
    have d0 := hbl.cell 0
    have d1 := hbl.cell 1
    have d2 := hbl.cell 2
    have f0 := hbl.frozen 0
    have f1 := hbl.frozen 1
    have f2 := hbl.frozen 2
    simp only [List.getElem?_toArray, List.getElem?_cons_zero, List.getElem?_cons_succ] at d0 d1 d2
    have hfin := hid (SyUp.ret (w := w) (L := 2000) h1 h2 (by omega) h4 (fun b o hA => by have := h5 b o hA; have := K1.size; have := hz0.out; omega) (h6.more (by omega : P + 1 + 2000 + 400000 ≤ P + 3000000)) ((KeepB.of_below hb0).trans K2) hR (.int .i64 s.al) (.int .i64 s.st) (.slice A s.es.length c))
    have hlt := hbl.lt
    clear h4 h5 h6 h7 hbl K2 K1
    go_wp2
    refine bodyPost_ret (v := .agg #[.int .i64 s.al, .int .i64 s.st, .slice A s.es.length c]) (by simp [results, Tryd.results70, go_sem, d0, d1, d2]) rfl ?_
    exact hfin.out

def ManyPost (N : Nat) (w : World) (e : Ending) (w' : World) : Prop := ∃ x : ByteArray, e = .returned (.string x) ∧ x.size ≤ N ∧ w = w'

set_option maxRecDepth 100000 in
set_option maxHeartbeats 2000000 in
theorem l19Many_any (s : ByteArray) (n : Nat) (w : World) (hs : s.size = 1) (hn : n ≤ 100000) : Calls Tryd.prog 136 #[.string s, .int .i64 n] w (ManyPost 200000 w) := by
  replace hs := hid hs
  go_enter Tryd.func136, Tryd.ntmps136
  go_wp2_with fail
  go_loopw [0, 1, 5] (fun a i o wr => ∃ (x y : ByteArray) (m : Nat), a = .string x ∧ i = .int .i64 m ∧ o = .string y ∧ y.size + x.size * m ≤ 100000 ∧ x.size ≤ 200000 ∧ m ≤ 100000 ∧ w = wr) (fun _ i _ _ => (intOf i).toNat)
  case atStart => exact ⟨s, ⟨#[]⟩, n, rfl, rfl, rfl, by rw [hs.out]; show 0 + 1 * n ≤ 100000; omega, by rw [hs.out]; omega, by omega, rfl⟩
  case round =>
    obtain ⟨x, y, m, rfl, rfl, rfl, h1, h2, hmb, rfl⟩ := hrel
    by_cases hm : 0 < m
    · have hm' : (0 : Int) < (m : Int) := by omega
      obtain ⟨q, hq⟩ : ∃ q : Nat, q = m / 2 := ⟨_, rfl⟩
      have e2 : (m : Int) / 2 = (q : Int) := by omega
      have hqb : q ≤ 100000 := by omega
      have hxm : x.size ≤ x.size * m := Nat.le_mul_of_pos_right _ hm
      have hy1 : y.size ≤ 100000 := by omega
      have hx1 : x.size ≤ 100000 := by omega
      by_cases hodd : m % 2 = 1
      · have e1 : (m : Int) % 2 = 1 := by omega
        have hqm : m = 2 * q + 1 := by omega
        have h3 : Hid (y.size + x.size + (x.size + x.size) * q ≤ 100000) := hid (by
          rw [hqm] at h1
          have : x.size * (2 * q + 1) = x.size + (x.size + x.size) * q := by rw [Nat.mul_add, Nat.add_mul, Nat.mul_one]; rw [Nat.two_mul, Nat.mul_add]; omega
          omega)
        replace h1 := hid h1
        replace hq := hid hq
        replace hqm := hid hqm
        replace hxm := hid hxm
        go_wp2_with fail
        go_roundw
        case rel => exact ⟨_, _, q, rfl, rfl, rfl, by rw [ByteArray.size_append, ByteArray.size_append]; exact h3.out, by rw [ByteArray.size_append]; omega, hqb, by first | trivial | rfl⟩
        case measure => have := hqm.out; simp [intOf]; omega
      · have e1 : (m : Int) % 2 = 0 := by omega
        have hqm : m = 2 * q := by omega
        have h3 : Hid (y.size + (x.size + x.size) * q ≤ 100000) := hid (by
          rw [hqm] at h1
          have : x.size * (2 * q) = (x.size + x.size) * q := by rw [Nat.add_mul, Nat.two_mul, Nat.mul_add]
          omega)
        replace h1 := hid h1
        replace hq := hid hq
        replace hqm := hid hqm
        replace hxm := hid hxm
        go_wp2_with fail
        go_roundw
        case rel => exact ⟨_, _, q, rfl, rfl, rfl, by rw [ByteArray.size_append]; exact h3.out, by rw [ByteArray.size_append]; omega, hqb, by first | trivial | rfl⟩
        case measure => have := hqm.out; simp [intOf]; omega
    · go_wp2_with fail
      go_ret
      exact ⟨y, rfl, by omega, rfl⟩

def StrUp (R P N : Nat) (w : World) (e : Ending) (w' : World) : Prop := ∃ x : ByteArray, e = .returned (.string x) ∧ x.size ≤ N ∧ RdUp w' R P ∧ KeepB (fun b => b = R) w w'
def IntUp (R P : Nat) (w : World) (e : Ending) (w' : World) : Prop := ∃ x : Int, e = .returned (.int .i64 x) ∧ RdUp w' R P ∧ KeepB (fun b => b = R) w w'

set_option maxHeartbeats 1000000 in
theorem l1Some_up (R P : Nat) (w : World) (hP : P + 10 ≤ 1125899906842624) (hr : RdUp w R P) : Calls Tryd.prog 74 #[.pointer (some ⟨R, 0, none⟩)] w (IntUp R (P + 1) w) := by
  replace hr := hid hr
  go_enter Tryd.func74, Tryd.ntmps74
  go_wp2_with fail
  refine (num_lit R P [3, 7, 1, 5, 0, 6, 63, 2, 21] w _ (by decide) (by decide) (by omega) hr.out).mono ?_
  rintro e w1 ⟨al, hal, rfl, hr1, hk1⟩
  clear hal
  replace hr1 := hid hr1
  go_wp2_with fail
  go_ret
  exact ⟨al, rfl, hr1.out, hk1⟩

set_option maxRecDepth 100000 in
set_option maxHeartbeats 4000000 in
theorem l1Word_up (R P : Nat) (A : Int) (n : Nat) (w : World) (hP : P + 1000 ≤ 1125899906842624) (hn : n ≤ 100) (hr : RdUp w R P) :
    Calls Tryd.prog 85 #[.pointer (some ⟨R, 0, none⟩), .int .i64 A, .int .i64 n] w (StrUp R (P + 200) 200 w) := by
  have hR := hr.lt
  replace hr := hid hr
  go_enter Tryd.func85, Tryd.ntmps85
  go_wp2_with fail
  refine (l1Letters_any A w).mono ?_
  rintro e w1 ⟨lv, rfl, hown, hb1⟩
  obtain ⟨ls, hls⟩ : ∃ ls, Hid (ls = letters A) := ⟨_, hid rfl⟩
  rw [← hls.out] at hown
  have hl6 : ls.length ≤ 6 := by rw [hls.out]; exact lettersTo_len A 6
  obtain ⟨Al, cl, hvl, hcl, hcl'⟩ := own_slice hown
  subst hvl
  have hr1 := hid (hr.out.later hb1)
  replace hown := hid hown
  have hz1 := hb1.size
  go_wp2_with fail
  refine (pick_up R P (n + 1) w1 (by omega) (by omega) hr1.out).mono ?_
  rintro e w2 ⟨j, rfl, hj0, hj1, hr2, hk2⟩
  obtain ⟨m, rfl⟩ := Int.eq_ofNat_of_zero_le hj0
  have hmn : m ≤ n := by omega
  have hown2 := hid (own_keep hown.out hk2 (fun g hg => by have := (World.ownsRow.lt hown.out g hg).1; omega))
  have hkw : KeepB (fun b => b = R) w w2 := (KeepB.of_below hb1).trans hk2
  replace hr2 := hid hr2
  clear hk2 hj0 hj1 hown
  go_wp2_with fail
  go_loopw [8, 9] (fun o i wr => ∃ (x : ByteArray) (k : Nat), o = .string x ∧ i = .int .i64 k ∧ x.size + k ≤ n ∧ RdUp wr R (P + 1 + x.size) ∧ OwnNats wr w.heap.size (.slice Al ls.length cl) ls ∧ KeepB (fun b => b = R) w wr) (fun _ i _ => (intOf i).toNat)
  case atStart => exact ⟨⟨#[]⟩, m, rfl, rfl, by show 0 + m ≤ n; omega, hr2.out, hown2.out, hkw⟩
  case round =>
    clear hown2 hr2 hkw
    obtain ⟨x, k, rfl, rfl, hx, hrr, hown, hkw⟩ := hrel
    replace hrr := hid hrr
    replace hkw := hid hkw
    replace hown := hid hown
    by_cases hk : 0 < k
    · have hk' : (0 : Int) < (k : Int) := by omega
      by_cases hl0 : ls.length = 0
      · go_wp2_with fail
        go_ret
        exact ⟨x, rfl, by omega, hrr.out.more (by omega), hkw.out⟩
      · have e0 : (0 : Int) < (ls.length : Int) := by omega
        go_wp2_with fail
        refine (pick_up R (P + 1 + x.size) ls.length wr (by omega) (by omega) hrr.out).mono ?_
        rintro e w3 ⟨q, rfl, hq0, hq1, hr3, hk3⟩
        obtain ⟨q, rfl⟩ := Int.eq_ofNat_of_zero_le hq0
        have hql : q < ls.length := by omega
        have hown3 := hid (own_keep hown.out hk3 (fun g hg => by have := (World.ownsRow.lt hown.out g hg).1; omega))
        have hkw3 := hid (hkw.out.trans hk3)
        obtain ⟨g, cap, hve, hg1, hg2, -, -, hL⟩ := own_nats hown3.out (by omega)
        cases hve
        have l0 := hL q hql
        obtain ⟨l, hl⟩ : ∃ l : Nat, l = ls[q] := ⟨_, rfl⟩
        have hlt6 : l < 6 := by
          have := letters_lt (A := A) (l := l) (by rw [← hls.out, hl]; exact List.getElem_mem _)
          exact this.1
        rw [← hl] at l0
        have i1 : (0 : Int) ≤ (q : Int) ∧ (q : Int) < (ls.length : Int) := by omega
        replace hr3 := hid hr3
        replace hl := hid hl
        replace hL := hid hL
        replace hl0 := hid hl0
        clear hk3 hq0 hq1
        go_wp2_with (go_at_call 134; refine (l1Text_any l hlt6 _).mono ?_; rintro e w4 ⟨rfl, hb4⟩)
        have hr4 := hid (hr3.out.later hb4)
        have hown4 := hid (own_later hown3.out hb4)
        have hkw4 := hid (hkw3.out.trans (KeepB.of_below hb4))
        go_roundw
        case rel => exact ⟨_, k - 1, rfl, by go_num, by rw [ByteArray.size_append]; show x.size + 1 + (k - 1) ≤ n; omega, hr4.out.more (by rw [ByteArray.size_append]; show _ ≤ P + 1 + (x.size + 1); omega), hown4.out, hkw4.out⟩
        case measure => simp [intOf]; omega
    · go_wp2_with fail
      go_ret
      exact ⟨x, rfl, by omega, hrr.out.more (by omega), hkw.out⟩

end Go.Proofs.YtimoekglamdddaaDoor

/- The drawing kit: words that are traces; a system and a word. -/
namespace Go.Proofs.YtimoekglamdddaaDoor
open Go.RowKit Go.BigFrame AG

def OfUp (R P : Nat) (xs : List ByteArray) (w : World) (e : Ending) (w' : World) : Prop := ∃ x, x ∈ xs ∧ e = .returned (.string x) ∧ RdUp w' R (P + 1) ∧ KeepB (fun b => b = R) w w'
/-- A text out of a list that has just been made. -/
theorem of_lit (R P : Nat) (xs : List ByteArray) (w : World) (T : TypeId) (hk : 0 < xs.length) (hk2 : xs.length ≤ 1000) (hP : P < 1125899906842624) (hr : RdUp w R P) :
    Calls Tryd.prog 135 #[.pointer (some ⟨R, 0, none⟩), .slice (some ⟨w.heap.size, 0, none⟩) xs.length xs.length] (w.alloc (.cells (xs.map Value.string).toArray T)) (OfUp R P xs w) := by
  have hR := hr.lt
  have hb : Below w.heap.size w (w.alloc (.cells (xs.map Value.string).toArray T)) := (Below.refl _ _).alloc (Nat.le_refl _) _
  refine (of_up R P w.heap.size 0 xs.length xs.length xs _ rfl hk (by omega) hP (by omega) (by simp) (fun i h => ?_) (hr.later hb)).mono fun e w' ⟨x, h1, h2, h3, h4⟩ => ⟨x, h1, h2, h3, (KeepB.of_below hb).trans h4⟩
  rw [Nat.zero_add, World.cell?_alloc_at _ _ _ _ rfl]
  simp [h]

set_option maxRecDepth 100000 in
set_option maxHeartbeats 4000000 in
theorem l1Bad_up (R P : Nat) (s : ByteArray) (w : World) (hP : P + 1000 ≤ 1125899906842624) (hs : s.size ≤ 1000000) (hr : RdUp w R P) :
    Calls Tryd.prog 86 #[.pointer (some ⟨R, 0, none⟩), .string s] w (StrUp R (P + 10) 2000000 w) := by
  replace hr := hid hr
  go_enter Tryd.func86, Tryd.ntmps86
  go_wp2_with fail
  refine (pick_up R P 24 w (by omega) (by omega) hr.out).mono ?_
  rintro e w1 ⟨j, rfl, hj0, hj1, hr1, hk1⟩
  replace hr1 := hid hr1
  replace hk1 := hid hk1
  clear hj1
  by_cases hj0 : j = 0
  · subst hj0
    go_wp2_with fail
    refine (of_lit R (P + 1) [⟨#[103]⟩, ⟨#[65]⟩, ⟨#[96]⟩, ⟨#[32]⟩, ⟨#[97]⟩, ⟨#[0]⟩] w1 _ (by decide) (by decide) (by omega) hr1.out).mono ?_
    rintro e w2 ⟨x, hx, rfl, hr2, hk2⟩
    have hxz : x.size ≤ 10 := by
      simp only [List.mem_cons, List.not_mem_nil, or_false] at hx
      rcases hx with rfl | rfl | rfl | rfl | rfl | rfl <;> decide
    replace hr2 := hid hr2
    replace hk2 := hid hk2
    clear hx
    go_wp2_with fail
    go_ret
    exact ⟨_, rfl, by rw [ByteArray.size_append]; omega, hr2.out.more (by omega), hk1.out.trans hk2.out⟩
  · have hjb0 : ((j : Int) == 0) = false := by simpa using hj0
    replace hj0 := hid hj0
    by_cases hj1 : j = 1
    · subst hj1
      go_wp2_with fail
      refine (of_lit R (P + 1) [⟨#[98]⟩, ⟨#[120]⟩, ⟨#[45]⟩, ⟨#[102]⟩] w1 _ (by decide) (by decide) (by omega) hr1.out).mono ?_
      rintro e w2 ⟨x, hx, rfl, hr2, hk2⟩
      have hxz : x.size ≤ 10 := by
        simp only [List.mem_cons, List.not_mem_nil, or_false] at hx
        rcases hx with rfl | rfl | rfl | rfl <;> decide
      replace hr2 := hid hr2
      replace hk2 := hid hk2
      clear hx
      go_wp2_with fail
      go_ret
      exact ⟨_, rfl, by rw [ByteArray.size_append]; omega, hr2.out.more (by omega), hk1.out.trans hk2.out⟩
    · have hjb1 : ((j : Int) == 1) = false := by simpa using hj1
      replace hj1 := hid hj1
      by_cases hj2 : j = 2
      · subst hj2
        go_wp2_with fail
        refine (num_lit R (P + 1) [50000, 50001, 49999, 8] w1 _ (by decide) (by decide) (by omega) hr1.out).mono ?_
        rintro e w2 ⟨x, hx, rfl, hr2, hk2⟩
        have hxz : 0 ≤ x ∧ x ≤ 100000 := by simp at hx; omega
        obtain ⟨x, rfl⟩ := Int.eq_ofNat_of_zero_le hxz.1
        have hxz2 : x ≤ 100000 := by omega
        replace hr2 := hid hr2
        replace hk2 := hid hk2
        clear hx hxz
        go_wp2_with fail
        refine (l19Many_any _ x w2 (by decide) hxz2).mono ?_
        rintro e w' ⟨y, rfl, hy, rfl⟩
        go_wp2_with fail
        go_ret
        exact ⟨_, rfl, by omega, hr2.out.more (by omega), hk1.out.trans hk2.out⟩
      · have hjb2 : ((j : Int) == 2) = false := by simpa using hj2
        replace hj2 := hid hj2
        by_cases hj3 : j = 3
        · subst hj3
          go_wp2_with fail
          refine (num_lit R (P + 1) [50000, 8, 7] w1 _ (by decide) (by decide) (by omega) hr1.out).mono ?_
          rintro e w2 ⟨x, hx, rfl, hr2, hk2⟩
          have hxz : 0 ≤ x ∧ x ≤ 100000 := by simp at hx; omega
          obtain ⟨x, rfl⟩ := Int.eq_ofNat_of_zero_le hxz.1
          have hxz2 : x ≤ 100000 := by omega
          replace hr2 := hid hr2
          replace hk2 := hid hk2
          clear hx hxz
          go_wp2_with fail
          refine (l19Many_any _ x w2 (by decide) hxz2).mono ?_
          rintro e w' ⟨y, rfl, hy, rfl⟩
          go_wp2_with fail
          go_ret
          exact ⟨_, rfl, by omega, hr2.out.more (by omega), hk1.out.trans hk2.out⟩
        · have hjb3 : ((j : Int) == 3) = false := by simpa using hj3
          replace hj3 := hid hj3
          go_wp2_with fail
          go_ret
          exact ⟨_, rfl, by omega, hr1.out.more (by omega), hk1.out⟩

def IntPostB (w : World) (e : Ending) (w' : World) : Prop := ∃ n : Int, e = .returned (.int .i64 n) ∧ Below w.heap.size w w'

theorem aft_sys {s : Sy} {x : ByteArray} (h : aft s x ≠ 0) : sysOk s = true := by
  cases hs : sysOk s with
  | true => rfl
  | false => exact absurd (by unfold aft; rw [hs]; rfl) h

set_option maxRecDepth 100000 in
set_option maxHeartbeats 4000000 in
theorem lettersAfter_any (s : Sy) (A : Option Addr) (c : Nat) (x : ByteArray) (w : World) (hz : x.size ≤ 9223372036854775807) (hl : s.es.length ≤ c) (hc : c ≤ 9223372036854775807) (hr : EdsAt w w.heap.size A s.es) :
    Calls Tryd.prog 133 #[s.val A c, .string x] w (IntPostB w) := by
  unfold Sy.val
  replace hr := hid hr
  obtain ⟨w0, hw0, hz0, hB0, hS0, hS1, hS2⟩ := boxed3 w (Value.int IntKind.i64 s.al) (Value.int IntKind.i64 s.st) (Value.slice A s.es.length c) 34
  have hr0 := hid (hr.out.later hB0)
  have p0 := hS0 _ (Below.refl _ _)
  have p1 := hS1 _ (Below.refl _ _)
  have p2 := hS2 _ (Below.refl _ _)
  go_enter Tryd.func133, Tryd.ntmps133
  go_wp2_with fail
  refine (specStatesAfter_any s A c x w0 hz hl hc hr0.out).mono ?_
  rintro e w1 ⟨rfl, hb1⟩
  have hb1' := hb1.mono hz0
  have hB1 : Below w.heap.size w w1 := hB0.trans (hb1.mono (by omega))
  have hr1 := hid (hr0.out.later hb1)
  obtain ⟨T, hT⟩ : ∃ T, Hid (T = aft s x) := ⟨_, hid rfl⟩
  rw [← hT.out]
  clear p0 p1 p2 hw0
  have p2 := hS2 _ hb1'
  by_cases hT0 : T = 0
  · subst hT0
    by_cases hn0 : 0 < s.es.length
    all_goals
      go_wp2_with fail
      go_loopw [6, 7] (fun o i wr => ∃ (n : Int), o = .int .i64 n ∧ i = .int .i64 (0 : Nat) ∧ w1 = wr) (fun _ _ _ => 0)
      case atStart => exact ⟨0, rfl, rfl, rfl⟩
      case round =>
        obtain ⟨n, rfl, rfl, rfl⟩ := hrel
        go_wp2_with fail
        go_ret
        exact ⟨n, rfl, hB1⟩
  · have hTb : ((T : Int) != 0) = true := by simpa using hT0
    have hok := aft_sys (by rw [← hT.out]; exact hT0)
    have hin := hid (sysOk_in hok)
    replace hok := hid hok
    replace hT0 := hid hT0
    go_wp2_with fail
    go_loopw [6, 7] (fun o i wr => ∃ (n : Int) (k : Nat), o = .int .i64 n ∧ i = .int .i64 k ∧ k ≤ s.es.length ∧ w1 = wr) (fun _ i _ => s.es.length - (intOf i).toNat)
    case atStart => exact ⟨0, 0, rfl, rfl, by omega, rfl⟩
    case round =>
      obtain ⟨n, k, rfl, rfl, hk, rfl⟩ := hrel
      by_cases hlt : k < s.es.length
      · obtain ⟨b, o, rfl, hbb, hE⟩ := hr1.out (by omega)
        obtain ⟨e0, e1, e2⟩ := hE k hlt
        replace hE := hid hE
        have hok2 := hin.out s.es[k] (List.getElem_mem _)
        obtain ⟨f, hf⟩ := Int.eq_ofNat_of_zero_le hok2.1
        obtain ⟨l, hll⟩ := Int.eq_ofNat_of_zero_le hok2.2.2.2.2.1
        have hf16 : f < 16 := by omega
        have hl6 : l < 6 := by omega
        rw [hf] at e0
        rw [hll] at e1
        replace hf := hid hf
        replace hll := hid hll
        replace hok2 := hid hok2
        have k1 : (0 : Int) ≤ (k : Int) ∧ (k : Int) < (s.es.length : Int) := by omega
        cases hH : Has (T : Int) f
        · replace hH := hid hH
          go_wp2_with (go_at_call 150; refine (l1Has_any _ _ _ (by omega) (by omega)).mono ?_; rintro e w' ⟨rfl, rfl⟩; rw [Int.toNat_natCast, hH.out])
          go_roundw
          case rel => exact ⟨n, k + 1, rfl, by go_num, by omega, by first | trivial | rfl⟩
          case measure => simp [intOf]; omega
        · replace hH := hid hH
          go_wp2_with (first
            | (go_at_call 150; refine (l1Has_any _ _ _ (by omega) (by omega)).mono ?_; rintro e w' ⟨rfl, rfl⟩; rw [Int.toNat_natCast, hH.out])
            | (go_at_call 151; refine (l1Bit_any l _ (by omega)).mono ?_; rintro e w' ⟨rfl, rfl⟩))
          go_roundw
          case rel => exact ⟨_, k + 1, rfl, by go_num, by omega, by first | trivial | rfl⟩
          case measure => simp [intOf]; omega
      · go_wp2_with fail
        go_ret
        exact ⟨n, rfl, hB1⟩

end Go.Proofs.YtimoekglamdddaaDoor

/- The drawing kit: l2Trace, DrawStatesAfter, DrawHasTrace. -/
namespace Go.Proofs.YtimoekglamdddaaDoor
open Go.RowKit Go.BigFrame AG

set_option maxRecDepth 100000 in
set_option maxHeartbeats 4000000 in
theorem l2Trace_up (R P : Nat) (s : Sy) (A : Option Addr) (c n : Nat) (w : World) (hP : P + 1000 ≤ 1125899906842624) (hn : n ≤ 100) (hl : s.es.length ≤ c) (hc : c ≤ 9223372036854775807) (hs : EdsAt w w.heap.size A s.es) (hf : FreshA (R + 1) A) (hr : RdUp w R P) :
    Calls Tryd.prog 84 #[.pointer (some ⟨R, 0, none⟩), s.val A c, .int .i64 n] w (StrUp R (P + 200) 200 w) := by
  have hR := hr.lt
  unfold Sy.val
  obtain ⟨w0, hw0, hz0, hB0, hS0, hS1, hS2⟩ := boxed3 w (Value.int IntKind.i64 s.al) (Value.int IntKind.i64 s.st) (Value.slice A s.es.length c) 34
  have hr0 := hid (hr.later hB0)
  have hs0 := hid (hs.later hB0)
  have p0 := hS0 _ (Below.refl _ _)
  have p1 := hS1 _ (Below.refl _ _)
  have p2 := hS2 _ (Below.refl _ _)
  have hp := hid (show _ ∧ _ ∧ _ from ⟨p0, p1, p2⟩)
  replace hr := hid hr
  replace hs := hid hs
  replace hf := hid hf
  clear p0 p1 p2
  go_enter Tryd.func84, Tryd.ntmps84
  go_wp2_with fail
  refine (pick_up R P (n + 1) w0 (by omega) (by omega) hr0.out).mono ?_
  rintro e w2 ⟨j, rfl, hj0, hj1, hr2, hk2⟩
  obtain ⟨m, rfl⟩ := Int.eq_ofNat_of_zero_le hj0
  have hmn : m ≤ n := by omega
  replace hr2 := hid hr2
  replace hk2 := hid hk2
  clear hw0 hj0 hj1
  go_wp2_with fail
  go_loopw [7, 8] (fun o i wr => ∃ (x : ByteArray) (k : Nat), o = .string x ∧ i = .int .i64 k ∧ x.size + k ≤ n ∧ RdUp wr R (P + 1 + x.size) ∧ KeepB (fun b => b = R) w0 wr) (fun _ i _ => (intOf i).toNat)
  case atStart => exact ⟨⟨#[]⟩, m, rfl, rfl, by show 0 + m ≤ n; omega, hr2.out, hk2.out⟩
  case round =>
    clear hr2 hk2
    obtain ⟨x, k, rfl, rfl, hx, hrr, hkw⟩ := hrel
    have e0 : wr.cell? ⟨w.heap.size, 0, none⟩ = some (.int .i64 s.al) := by rw [KeepB.cell_ hkw (p := ⟨w.heap.size, 0, none⟩) (by show w.heap.size < _; omega) (by show ¬ w.heap.size = R; omega)]; exact hp.out.1
    have e1 : wr.cell? ⟨w.heap.size, 1, none⟩ = some (.int .i64 s.st) := by rw [KeepB.cell_ hkw (p := ⟨w.heap.size, 1, none⟩) (by show w.heap.size < _; omega) (by show ¬ w.heap.size = R; omega)]; exact hp.out.2.1
    have e2 : wr.cell? ⟨w.heap.size, 2, none⟩ = some (.slice A s.es.length c) := by rw [KeepB.cell_ hkw (p := ⟨w.heap.size, 2, none⟩) (by show w.heap.size < _; omega) (by show ¬ w.heap.size = R; omega)]; exact hp.out.2.2
    have hsr := hid (EdsAt.keepR hs0.out hkw hf.out)
    have hfin := hid (show KeepB (fun b => b = R) w wr from (KeepB.of_below hB0).trans hkw)
    replace hrr := hid hrr
    replace hkw := hid hkw
    by_cases hk : 0 < k
    · have hk' : (0 : Int) < (k : Int) := by omega
      go_wp2_with fail
      refine (lettersAfter_any s A c x wr (by omega) hl hc hsr.out).mono ?_
      rintro e w3 ⟨B, rfl, hb3⟩
      have hr3 := hid (hrr.out.later hb3)
      have hk3 := hid (hkw.out.trans (KeepB.of_below hb3))
      have hf3 := hid (hfin.out.trans (KeepB.of_below hb3))
      clear e0 e1 e2
      go_wp2_with fail
      refine (l1Letters_any B w3).mono ?_
      rintro e w4 ⟨lv, rfl, hown, hb4⟩
      obtain ⟨ls, hls⟩ : ∃ ls, Hid (ls = letters B) := ⟨_, hid rfl⟩
      rw [← hls.out] at hown
      have hl6 : ls.length ≤ 6 := by rw [hls.out]; exact lettersTo_len B 6
      obtain ⟨Al, cl, hvl, hcl, hcl'⟩ := own_slice hown
      subst hvl
      have hr4 := hid (hr3.out.later hb4)
      have hk4 := hid (hk3.out.trans (KeepB.of_below hb4))
      have hf4 := hid (hf3.out.trans (KeepB.of_below hb4))
      have hz3 := hr3.out.lt
      replace hown := hid hown
      by_cases hl0 : ls.length = 0
      · go_wp2_with fail
        go_ret
        exact ⟨x, rfl, by omega, hr4.out.more (by omega), hf4.out⟩
      · have hlb : ((ls.length : Int) == 0) = false := by rw [beq_eq_false_iff_ne]; omega
        go_wp2_with fail
        refine (pick_up R (P + 1 + x.size) ls.length w4 (by omega) (by omega) hr4.out).mono ?_
        rintro e w5 ⟨q, rfl, hq0, hq1, hr5, hk5⟩
        obtain ⟨q, rfl⟩ := Int.eq_ofNat_of_zero_le hq0
        have hql : q < ls.length := by omega
        have hown5 := hid (own_keep hown.out hk5 (fun g hg => by have := (World.ownsRow.lt hown.out g hg).1; omega))
        have hkw5 := hid (hk4.out.trans hk5)
        obtain ⟨g, cap, hve, hg1, hg2, -, -, hL⟩ := own_nats hown5.out (by omega)
        cases hve
        have l0 := hL q hql
        obtain ⟨l, hl'⟩ : ∃ l : Nat, l = ls[q] := ⟨_, rfl⟩
        have hlt6 : l < 6 := by
          have := letters_lt (A := B) (l := l) (by rw [← hls.out, hl']; exact List.getElem_mem _)
          exact this.1
        rw [← hl'] at l0
        have i1 : (0 : Int) ≤ (q : Int) ∧ (q : Int) < (ls.length : Int) := by omega
        replace hr5 := hid hr5
        replace hl' := hid hl'
        replace hL := hid hL
        replace hl0 := hid hl0
        clear hk5 hq0 hq1
        go_wp2_with (go_at_call 134; refine (l1Text_any l hlt6 _).mono ?_; rintro e w6 ⟨rfl, hb6⟩)
        have hr6 := hid (hr5.out.later hb6)
        have hk6 := hid (hkw5.out.trans (KeepB.of_below hb6))
        go_roundw
        case rel => exact ⟨_, k - 1, rfl, by go_num, by rw [ByteArray.size_append]; show x.size + 1 + (k - 1) ≤ n; omega, hr6.out.more (by rw [ByteArray.size_append]; show _ ≤ P + 1 + (x.size + 1); omega), hk6.out⟩
        case measure => simp [intOf]; omega
    · go_wp2_with fail
      go_ret
      exact ⟨x, rfl, by omega, hrr.out.more (by omega), hfin.out⟩

def DrawSW (w : World) (e : Ending) (w' : World) : Prop :=
  ∃ (s : Sy) (A : Option Addr) (c : Nat) (x : ByteArray), e = .returned (.tuple #[s.val A c, .string x]) ∧ s.es.length ≤ c ∧ c ≤ 9223372036854775807 ∧ s.es.length ≤ 2000 ∧ x.size ≤ 3000000 ∧ EdsAt w' w'.heap.size A s.es ∧ FreshA (w.heap.size + 1) A ∧ Below w.heap.size w w'
theorem DrawSW.ret {w w1 : World} {s : Sy} {A : Option Addr} {c : Nat} {x : ByteArray} (h1 : s.es.length ≤ c) (h2 : c ≤ 9223372036854775807) (h3 : s.es.length ≤ 2000) (hx : x.size ≤ 3000000) (h4 : EdsAt w1 w1.heap.size A s.es) (h5 : FreshA (w.heap.size + 1) A)
    (h7 : Below w.heap.size w w1) (v1 v2 v3 : Value) :
    DrawSW w (.returned (.tuple #[.agg #[.int .i64 s.al, .int .i64 s.st, .slice A s.es.length c], .string x])) (((w1.setCell ⟨w.heap.size, 0, none⟩ v1).setCell ⟨w.heap.size, 1, none⟩ v2).setCell ⟨w.heap.size, 2, none⟩ v3) := by
  have hne : ∀ b o, A = some ⟨b, o, none⟩ → 0 < s.es.length → b ≠ w.heap.size := fun b o hA _ => by have := h5 b o hA; omega
  refine ⟨s, A, c, x, rfl, h1, h2, h3, hx, ?_, h5, ?_⟩
  · simpa [World.setCell] using ((h4.stored v1 hne).stored v2 hne).stored v3 hne
  · (repeat (first | exact Below.refl _ _ | assumption | refine Below.drew ?_ | refine Below.alloc ?_ (by first | omega | (simp; done) | (simp; omega)) _ | refine Below.setCell ?_ (by first | omega | (simp; done) | (simp; omega)) _))

set_option maxRecDepth 100000 in
set_option maxHeartbeats 8000000 in
theorem drawStatesAfter_any (A : Option Addr) (n c : Nat) (w : World) (hn : n ≤ c) (hc : c ≤ 9223372036854775807) (hx : CodeAt w A n) :
    Calls Tryd.prog 33 #[.slice A n c] w (DrawSW w) := by
  have hres := Blk.new w 34 #[.int .i64 0, .int .i64 0, .slice none 0 0]
  have hb0 : Below w.heap.size w (w.alloc (.cells #[.int .i64 0, .int .i64 0, .slice none 0 0] 34)) := (Below.refl _ _).alloc (Nat.le_refl _) _
  have hx0 : CodeAt (w.alloc (.cells #[.int .i64 0, .int .i64 0, .slice none 0 0] 34)) A n := fun h => by
    obtain ⟨b, o, h1, h2, h3⟩ := hx h
    refine ⟨b, o, h1, by simp; omega, fun i hi => ?_⟩
    obtain ⟨y, h4, h5⟩ := h3 i hi
    exact ⟨y, h4, by rw [World.cell?_alloc_lt (h := by simpa using h2)]; exact h5⟩
  generalize hw0 : w.alloc (.cells #[.int .i64 0, .int .i64 0, .slice none 0 0] 34) = w0 at hres hb0 hx0
  have hz0 : w0.heap.size = w.heap.size + 1 := by rw [← hw0]; simp
  replace hres := hid hres
  replace hz0 := hid hz0
  replace hx := hid hx
  replace hx0 := hid hx0
  go_enter Tryd.func33, Tryd.ntmps33
  go_wp2_with fail
  refine (l19Open_any A n c w0 hn hc hx0.out).mono ?_
  rintro e w1 ⟨R, rfl, hR, hr1, hb1⟩
  clear hw0
  have hR1 := hr1.lt
  replace hr1 := hid hr1
  go_wp2_with fail
  refine (l2Any_up R 0 w1 (by omega) hr1.out).mono ?_
  rintro e w2 ⟨s, As, cs, rfl, a1, a2, a3, a4, a5, a6, a7⟩
  unfold Sy.val
  have hB2 : Below w0.heap.size w0 w2 := KeepB.below hb1 a7 hb1.size (fun k hk => by omega)
  have hnb := Blk.new w2 34 #[.int .i64 s.al, .int .i64 s.st, .slice As s.es.length cs]
  have hba : Below w2.heap.size w2 (w2.alloc (.cells #[.int .i64 s.al, .int .i64 s.st, .slice As s.es.length cs] 34)) := (Below.refl _ _).alloc (Nat.le_refl _) _
  have hsq : w2.heap.size < (w2.alloc (.cells #[.int .i64 s.al, .int .i64 s.st, .slice As s.es.length cs] 34)).heap.size := by simp
  generalize hwa : w2.alloc (.cells #[.int .i64 s.al, .int .i64 s.st, .slice As s.es.length cs] 34) = w3 at hnb hba hsq
  have hr3 := hid (a6.later hba)
  have hs3 := hid (a4.later hba)
  have hf3 : Hid (FreshA (R + 1) As) := hid (fun b o hA => by have := a5 b o hA; omega)
  have hB3 := hB2.trans (hba.mono hB2.size)
  have hRl := a7.size
  clear a4 a5 a6 a7
  have c0 := hnb.cell 0
  have c1 := hnb.cell 1
  have c2 := hnb.cell 2
  simp only [List.getElem?_toArray, List.getElem?_cons_zero, List.getElem?_cons_succ] at c0 c1 c2
  replace hnb := hid hnb
  go_wp2_with fail
  refine (l2Trace_up R (0 + 3000000) s As cs 7 w3 (by omega) (by omega) a1 a2 hs3.out hf3.out hr3.out).mono ?_
  rintro e w4 ⟨x, rfl, hx4, hr4, hk4⟩
  clear c0 c1 c2 hwa
  have hs4 := hid (EdsAt.keepR hs3.out hk4 hf3.out)
  have hnb4 := hid (hnb.out.keep hk4 (by omega))
  have hB4 : Below w0.heap.size w0 w4 := KeepB.below hB3 hk4 hB3.size (fun k hk => by omega)
  replace hr4 := hid hr4
  clear hk4
  go_wp2_with fail
  refine (pick_up R (0 + 3000000 + 200) 6 w4 (by omega) (by omega) hr4.out).mono ?_
  rintro e w5 ⟨j, rfl, hj0, hj1, hr5, hk5⟩
  have hs5 := hid (EdsAt.keepR hs4.out hk5 hf3.out)
  have hnb5 := hid (hnb4.out.keep hk5 (by omega))
  have hB5 : Below w0.heap.size w0 w5 := KeepB.below hB4 hk5 hB4.size (fun k hk => by omega)
  replace hr5 := hid hr5
  clear hk5 hj1
  by_cases h0 : j = 0
  · subst h0
    go_wp2_with fail
    refine (l1Word_up R (0 + 3000000 + 200 + 1) 7 5 w5 (by omega) (by omega) hr5.out).mono ?_
    rintro e w6 ⟨y6, rfl, hz6, hr6, hk6⟩
    have hs6 := hid (EdsAt.keepR hs5.out hk6 hf3.out)
    have hnb6 := hid (hnb5.out.keep hk6 (by omega))
    have hB6 : Below w0.heap.size w0 w6 := KeepB.below hB5 hk6 hB5.size (fun k hk => by omega)
    replace hr6 := hid hr6
    clear hk6
    have c0 := hnb6.out.cell 0
    have c1 := hnb6.out.cell 1
    have c2 := hnb6.out.cell 2
    simp only [List.getElem?_toArray, List.getElem?_cons_zero, List.getElem?_cons_succ] at c0 c1 c2
    have hneR : w2.heap.size ≠ R := by omega
    have q0 := RI.cell hr6.out c0 hneR
    have q1 := RI.cell hr6.out c1 hneR
    have q2 := RI.cell hr6.out c2 hneR
    go_wp2_with fail
    clear c0 c1 c2
    refine GK.wp_region 4 [4, 5] 200 (KeepB fun b => b = R) (RI w6 R (0 + 3000000 + 200 + 1 + 200)) (fun _ u _ => isStr 2000000 u) (by kernel_rfl) (by kernel_rfl) (RI.way w6 R _) (by decide) (RI.drew hr6.out) ?_
    simp only [List.take_succ_cons, List.take_zero]
    (repeat (refine GK.grow_quiet w6 (by rfl) (by rfl) ?_; intro K hK; go_big_quiet_op; go_big_quiet_on))
    refine GK.grow_call (by rfl) (fun u w w' _ h => h) (fun m wq hm hbq hf => ?_) ?_
    · go_simp
      exact ⟨rfl, (l1Bad_up R (0 + 3000000 + 200 + 1 + 200 + m * 10000) y6 wq (by omega) (by omega) hbq.2).mono fun e w' ⟨y, h2, h3, h4, h5⟩ => ⟨_, h2, RI.call hbq h5 h4 (by omega), y, rfl, h3⟩⟩
    rintro u ⟨_, _, _, y, rfl, hy⟩
    simp only [Act.put, List.setIfInBounds_toArray, List.set_cons_zero, List.set_cons_succ]
    refine GK.grow_nil ?_
    intro w8 hw8 _
    simp only [List.filterMap_cons, List.filterMap_nil, List.getElem?_cons_zero, List.getElem?_cons_succ]
    clear q0 q1 q2
    have hs8 := EdsAt.keepR hs6.out hw8.1 hf3.out
    have hB8 : Below w0.heap.size w0 w8 := KeepB.below hB6 hw8.1 hB6.size (fun k hk => by omega)
    have hbl := hres.out.below hB8 (by have := hz0.out; omega)
    have d0 := hbl.cell 0
    have d1 := hbl.cell 1
    have d2 := hbl.cell 2
    have g0 := hbl.frozen 0
    have g1 := hbl.frozen 1
    have g2 := hbl.frozen 2
    simp only [List.getElem?_toArray, List.getElem?_cons_zero, List.getElem?_cons_succ] at d0 d1 d2
    have hfin := hid (DrawSW.ret (w := w) (x := y) a1 a2 a3 (by omega) hs8 (fun b o hA => by have := hf3.out b o hA; have := hz0.out; omega) (hb0.trans (hB8.mono (by have := hz0.out; omega))) (.int .i64 s.al) (.int .i64 s.st) (.slice As s.es.length cs))
    have hlt := hbl.lt
    clear hs8 hbl hw8
    go_wp2
    refine bodyPost_ret (v := .tuple #[.agg #[.int .i64 s.al, .int .i64 s.st, .slice As s.es.length cs], .string y]) (by simp [results, Tryd.results33, go_sem, d0, d1, d2]) rfl ?_
    exact hfin.out
  · have hjb0 : ((j : Int) == 0) = false := by simpa using h0
    replace h0 := hid h0
    by_cases h1 : j = 1
    · subst h1
      go_wp2_with fail
      refine (l1Word_up R (0 + 3000000 + 200 + 1) 3 2 w5 (by omega) (by omega) hr5.out).mono ?_
      rintro e w6 ⟨y6, rfl, hz6, hr6, hk6⟩
      have hs6 := hid (EdsAt.keepR hs5.out hk6 hf3.out)
      have hnb6 := hid (hnb5.out.keep hk6 (by omega))
      have hB6 : Below w0.heap.size w0 w6 := KeepB.below hB5 hk6 hB5.size (fun k hk => by omega)
      replace hr6 := hid hr6
      clear hk6
      have c0 := hnb6.out.cell 0
      have c1 := hnb6.out.cell 1
      have c2 := hnb6.out.cell 2
      simp only [List.getElem?_toArray, List.getElem?_cons_zero, List.getElem?_cons_succ] at c0 c1 c2
      have hneR : w2.heap.size ≠ R := by omega
      have q0 := RI.cell hr6.out c0 hneR
      have q1 := RI.cell hr6.out c1 hneR
      have q2 := RI.cell hr6.out c2 hneR
      go_wp2_with fail
      clear c0 c1 c2
      refine GK.wp_region 4 [4, 5] 200 (KeepB fun b => b = R) (RI w6 R (0 + 3000000 + 200 + 1 + 200)) (fun _ u _ => isStr 2000000 u) (by kernel_rfl) (by kernel_rfl) (RI.way w6 R _) (by decide) (RI.drew hr6.out) ?_
      simp only [List.take_succ_cons, List.take_zero]
      (repeat (refine GK.grow_quiet w6 (by rfl) (by rfl) ?_; intro K hK; go_big_quiet_op; go_big_quiet_on))
      refine GK.grow_call (by rfl) (fun u w w' _ h => h) (fun m wq hm hbq hf => ?_) ?_
      · go_simp
        exact ⟨rfl, (l1Bad_up R (0 + 3000000 + 200 + 1 + 200 + m * 10000) (x ++ y6) wq (by omega) (by rw [ByteArray.size_append]; omega) hbq.2).mono fun e w' ⟨y, h2, h3, h4, h5⟩ => ⟨_, h2, RI.call hbq h5 h4 (by omega), y, rfl, h3⟩⟩
      rintro u ⟨_, _, _, y, rfl, hy⟩
      simp only [Act.put, List.setIfInBounds_toArray, List.set_cons_zero, List.set_cons_succ]
      refine GK.grow_nil ?_
      intro w8 hw8 _
      simp only [List.filterMap_cons, List.filterMap_nil, List.getElem?_cons_zero, List.getElem?_cons_succ]
      clear q0 q1 q2
      have hs8 := EdsAt.keepR hs6.out hw8.1 hf3.out
      have hB8 : Below w0.heap.size w0 w8 := KeepB.below hB6 hw8.1 hB6.size (fun k hk => by omega)
      have hbl := hres.out.below hB8 (by have := hz0.out; omega)
      have d0 := hbl.cell 0
      have d1 := hbl.cell 1
      have d2 := hbl.cell 2
      have g0 := hbl.frozen 0
      have g1 := hbl.frozen 1
      have g2 := hbl.frozen 2
      simp only [List.getElem?_toArray, List.getElem?_cons_zero, List.getElem?_cons_succ] at d0 d1 d2
      have hfin := hid (DrawSW.ret (w := w) (x := y) a1 a2 a3 (by omega) hs8 (fun b o hA => by have := hf3.out b o hA; have := hz0.out; omega) (hb0.trans (hB8.mono (by have := hz0.out; omega))) (.int .i64 s.al) (.int .i64 s.st) (.slice As s.es.length cs))
      have hlt := hbl.lt
      clear hs8 hbl hw8
      go_wp2
      refine bodyPost_ret (v := .tuple #[.agg #[.int .i64 s.al, .int .i64 s.st, .slice As s.es.length cs], .string y]) (by simp [results, Tryd.results33, go_sem, d0, d1, d2]) rfl ?_
      exact hfin.out
    · have hjb1 : ((j : Int) == 1) = false := by simpa using h1
      replace h1 := hid h1
      have c0 := hnb5.out.cell 0
      have c1 := hnb5.out.cell 1
      have c2 := hnb5.out.cell 2
      simp only [List.getElem?_toArray, List.getElem?_cons_zero, List.getElem?_cons_succ] at c0 c1 c2
      have hneR : w2.heap.size ≠ R := by omega
      have q0 := RI.cell hr5.out c0 hneR
      have q1 := RI.cell hr5.out c1 hneR
      have q2 := RI.cell hr5.out c2 hneR
      go_wp2_with fail
      clear c0 c1 c2
      refine GK.wp_region 4 [4, 5] 200 (KeepB fun b => b = R) (RI w5 R (0 + 3000000 + 200 + 1)) (fun _ u _ => isStr 2000000 u) (by kernel_rfl) (by kernel_rfl) (RI.way w5 R _) (by decide) (RI.drew hr5.out) ?_
      simp only [List.take_succ_cons, List.take_zero]
      (repeat (refine GK.grow_quiet w5 (by rfl) (by rfl) ?_; intro K hK; go_big_quiet_op; go_big_quiet_on))
      refine GK.grow_call (by rfl) (fun u w w' _ h => h) (fun m wq hm hbq hf => ?_) ?_
      · go_simp
        exact ⟨rfl, (l1Bad_up R (0 + 3000000 + 200 + 1 + m * 10000) x wq (by omega) (by omega) hbq.2).mono fun e w' ⟨y, h2, h3, h4, h5⟩ => ⟨_, h2, RI.call hbq h5 h4 (by omega), y, rfl, h3⟩⟩
      rintro u ⟨_, _, _, y, rfl, hy⟩
      simp only [Act.put, List.setIfInBounds_toArray, List.set_cons_zero, List.set_cons_succ]
      refine GK.grow_nil ?_
      intro w8 hw8 _
      simp only [List.filterMap_cons, List.filterMap_nil, List.getElem?_cons_zero, List.getElem?_cons_succ]
      clear q0 q1 q2
      have hs8 := EdsAt.keepR hs5.out hw8.1 hf3.out
      have hB8 : Below w0.heap.size w0 w8 := KeepB.below hB5 hw8.1 hB5.size (fun k hk => by omega)
      have hbl := hres.out.below hB8 (by have := hz0.out; omega)
      have d0 := hbl.cell 0
      have d1 := hbl.cell 1
      have d2 := hbl.cell 2
      have g0 := hbl.frozen 0
      have g1 := hbl.frozen 1
      have g2 := hbl.frozen 2
      simp only [List.getElem?_toArray, List.getElem?_cons_zero, List.getElem?_cons_succ] at d0 d1 d2
      have hfin := hid (DrawSW.ret (w := w) (x := y) a1 a2 a3 (by omega) hs8 (fun b o hA => by have := hf3.out b o hA; have := hz0.out; omega) (hb0.trans (hB8.mono (by have := hz0.out; omega))) (.int .i64 s.al) (.int .i64 s.st) (.slice As s.es.length cs))
      have hlt := hbl.lt
      clear hs8 hbl hw8
      go_wp2
      refine bodyPost_ret (v := .tuple #[.agg #[.int .i64 s.al, .int .i64 s.st, .slice As s.es.length cs], .string y]) (by simp [results, Tryd.results33, go_sem, d0, d1, d2]) rfl ?_
      exact hfin.out


end Go.Proofs.YtimoekglamdddaaDoor

/- The drawing kit: l1Wrong, DrawDeterminize, DrawProjectSystem. -/
namespace Go.Proofs.YtimoekglamdddaaDoor
open Go.RowKit Go.BigFrame AG

set_option maxRecDepth 100000 in
set_option maxHeartbeats 4000000 in
theorem l1Wrong_up (R P : Nat) (a : Int) (w : World) (hP : P + 10 ≤ 1125899906842624) (hr : RdUp w R P) : Calls Tryd.prog 73 #[.pointer (some ⟨R, 0, none⟩), .int .i64 a] w (IntUp R (P + 2) w) := by
  replace hr := hid hr
  go_enter Tryd.func73, Tryd.ntmps73
  go_wp2_with fail
  refine (pick_up R P 12 w (by omega) (by omega) hr.out).mono ?_
  rintro e w1 ⟨j, rfl, hj0, hj1, hr1, hk1⟩
  replace hr1 := hid hr1
  replace hk1 := hid hk1
  clear hj1
  by_cases hj : j = 0
  · subst hj
    go_wp2_with fail
    refine (num_lit R (P + 1) [64, -1, 63, 0] w1 _ (by decide) (by decide) (by omega) hr1.out).mono ?_
    rintro e w2 ⟨x, hx, rfl, hr2, hk2⟩
    replace hr2 := hid hr2
    replace hk2 := hid hk2
    clear hx
    go_wp2_with fail
    go_ret
    exact ⟨x, rfl, hr2.out, hk1.out.trans hk2.out⟩
  · have hjb : ((j : Int) == 0) = false := by simpa using hj
    replace hj := hid hj
    go_wp2_with fail
    go_ret
    exact ⟨a, rfl, hr1.out.more (by omega), hk1.out⟩

def DrawSy (w : World) (e : Ending) (w' : World) : Prop := ∃ (s : Sy) (A : Option Addr) (c : Nat), e = .returned (s.val A c) ∧ s.es.length ≤ c ∧ c ≤ 9223372036854775807 ∧ s.es.length ≤ 1000000 ∧ EdsAt w' w'.heap.size A s.es ∧ FreshA w.heap.size A ∧ Below w.heap.size w w'
theorem DrawSy.ret {w w1 : World} {s : Sy} {A : Option Addr} {c : Nat} (h1 : s.es.length ≤ c) (h2 : c ≤ 9223372036854775807) (h3 : s.es.length ≤ 1000000) (h4 : EdsAt w1 w1.heap.size A s.es) (h5 : FreshA (w.heap.size + 1) A) (h7 : Below w.heap.size w w1) (v1 v2 v3 : Value) :
    DrawSy w (.returned (.agg #[.int .i64 s.al, .int .i64 s.st, .slice A s.es.length c])) (((w1.setCell ⟨w.heap.size, 0, none⟩ v1).setCell ⟨w.heap.size, 1, none⟩ v2).setCell ⟨w.heap.size, 2, none⟩ v3) := by
  have hne : ∀ b o, A = some ⟨b, o, none⟩ → 0 < s.es.length → b ≠ w.heap.size := fun b o hA _ => by have := h5 b o hA; omega
  refine ⟨s, A, c, rfl, h1, h2, h3, ?_, fun b o hA => by have := h5 b o hA; omega, ?_⟩
  · simpa [World.setCell] using ((h4.stored v1 hne).stored v2 hne).stored v3 hne
  · exact ((h7.setCell (by simp) _).setCell (by simp) _).setCell (by simp) _
def DrawSI (w : World) (e : Ending) (w' : World) : Prop := ∃ (s : Sy) (A : Option Addr) (c : Nat) (al : Int), e = .returned (.tuple #[s.val A c, .int .i64 al]) ∧ s.es.length ≤ c ∧ c ≤ 9223372036854775807 ∧ s.es.length ≤ 1000000 ∧ EdsAt w' w'.heap.size A s.es ∧ FreshA w.heap.size A ∧ Below w.heap.size w w'
theorem DrawSI.ret {w w1 : World} {s : Sy} {A : Option Addr} {c : Nat} {al : Int} (h1 : s.es.length ≤ c) (h2 : c ≤ 9223372036854775807) (h3 : s.es.length ≤ 1000000) (h4 : EdsAt w1 w1.heap.size A s.es) (h5 : FreshA (w.heap.size + 1) A) (h7 : Below w.heap.size w w1) (v1 v2 v3 : Value) :
    DrawSI w (.returned (.tuple #[.agg #[.int .i64 s.al, .int .i64 s.st, .slice A s.es.length c], .int .i64 al])) (((w1.setCell ⟨w.heap.size, 0, none⟩ v1).setCell ⟨w.heap.size, 1, none⟩ v2).setCell ⟨w.heap.size, 2, none⟩ v3) := by
  obtain ⟨s', A', c', he, x1, x2, x3, x4, x5, x6⟩ := DrawSy.ret h1 h2 h3 h4 h5 h7 v1 v2 v3
  exact ⟨s, A, c, al, rfl, h1, h2, h3, by
    have hne : ∀ b o, A = some ⟨b, o, none⟩ → 0 < s.es.length → b ≠ w.heap.size := fun b o hA _ => by have := h5 b o hA; omega
    simpa [World.setCell] using ((h4.stored v1 hne).stored v2 hne).stored v3 hne, fun b o hA => by have := h5 b o hA; omega, x6⟩
set_option maxRecDepth 100000 in
set_option maxHeartbeats 4000000 in
theorem drawDeterminize_any (A : Option Addr) (n c : Nat) (w : World) (hn : n ≤ c) (hc : c ≤ 9223372036854775807) (hx : CodeAt w A n) :
    Calls Tryd.prog 29 #[.slice A n c] w (DrawSy w) := by
  have hres := Blk.new w 34 #[.int .i64 0, .int .i64 0, .slice none 0 0]
  have hb0 : Below w.heap.size w (w.alloc (.cells #[.int .i64 0, .int .i64 0, .slice none 0 0] 34)) := (Below.refl _ _).alloc (Nat.le_refl _) _
  generalize hw0 : w.alloc (.cells #[.int .i64 0, .int .i64 0, .slice none 0 0] 34) = w0 at hres hb0
  have hz0 : w0.heap.size = w.heap.size + 1 := by rw [← hw0]; simp
  have hx0 : CodeAt w0 A n := fun h => by
    obtain ⟨b, o, h1, h2, h3⟩ := hx h
    refine ⟨b, o, h1, by omega, fun i hi => ?_⟩
    obtain ⟨y, h4, h5⟩ := h3 i hi
    exact ⟨y, h4, by rw [hb0.cell (by simpa using h2)]; exact h5⟩
  replace hres := hid hres
  replace hz0 := hid hz0
  replace hx := hid hx
  replace hx0 := hid hx0
  go_enter Tryd.func29, Tryd.ntmps29
  go_wp2_with fail
  refine (l19Open_any A n c w0 hn hc hx0.out).mono ?_
  rintro e w1 ⟨R, rfl, hR, hr1, hb1⟩
  replace hr1 := hid hr1
  have hz1 := hb1.size
  clear hw0
  go_wp2_with fail
  refine (pick_up R 0 8 w1 (by omega) (by omega) hr1.out).mono ?_
  rintro e w2 ⟨j, rfl, hj0, hj1, hr2, hk2⟩
  have hB2 : Below w0.heap.size w0 w2 := KeepB.below hb1 hk2 hb1.size (fun k hk => by omega)
  replace hr2 := hid hr2
  clear hj1 hk2
  by_cases hj : j = 0
  · subst hj
    go_wp2_with fail
    refine (parseSystem_any _ w2 (by decide)).mono ?_
    rintro e w3 ⟨s, A', c', ok, rfl, a1, a2, a3, a4, a5, a6⟩
    unfold Sy.val
    have hB3 := hB2.trans (a6.mono hB2.size)
    have hr3 := hid (hr2.out.later a6)
    have hnb := Blk.new w3 34 #[.int .i64 s.al, .int .i64 s.st, .slice A' s.es.length c']
    have hba : Below w3.heap.size w3 (w3.alloc (.cells #[.int .i64 s.al, .int .i64 s.st, .slice A' s.es.length c'] 34)) := (Below.refl _ _).alloc (Nat.le_refl _) _
    generalize hwa : w3.alloc (.cells #[.int .i64 s.al, .int .i64 s.st, .slice A' s.es.length c'] 34) = w4 at hnb hba
    have hB4 := hB3.trans (hba.mono hB3.size)
    have hr4 := hid (hr3.out.later hba)
    have a4' := hid (a4.later hba)
    have a5' : Hid (FreshA (w.heap.size + 1) A') := hid fun b o hA => by have := a5 b o hA; have := hz0.out; have := hB2.size; omega
    have c0 := hnb.cell 0
    have c1 := hnb.cell 1
    have c2 := hnb.cell 2
    simp only [List.getElem?_toArray, List.getElem?_cons_zero, List.getElem?_cons_succ] at c0 c1 c2
    replace hnb := hid hnb
    clear a4 a5 a6
    cases ok
    · clear c0 c1 c2
      go_wp2_with fail
      clear hwa
      refine (l2Any_up R (0 + 1) w4 (by omega) hr4.out).mono ?_
      rintro e w9 ⟨s, A', c', rfl, a1, a2, a3, a4, a5, a6, a7⟩
      unfold Sy.val
      have hB9 : Below w0.heap.size w0 w9 := KeepB.below hB4 a7 hB4.size (fun k hk => by omega)
      replace a4 := hid a4
      replace a6 := hid a6
      have a5' : Hid (FreshA (w.heap.size + 1) A') := hid fun b o hA => by have := a5 b o hA; have := hz0.out; have := hB4.size; omega
      clear a5 a7
      have hfin := hid (DrawSy.ret (w := w) a1 a2 (by omega) a4.out a5'.out (hb0.trans (hB9.mono (by have := hz0.out; omega))) (.int .i64 s.al) (.int .i64 s.st) (.slice A' s.es.length c'))
      have hbl := hres.out.below hB9 hres.out.lt
      have d0 := hbl.cell 0
      have d1 := hbl.cell 1
      have d2 := hbl.cell 2
      have f0 := hbl.frozen 0
      have f1 := hbl.frozen 1
      have f2 := hbl.frozen 2
      simp only [List.getElem?_toArray, List.getElem?_cons_zero, List.getElem?_cons_succ] at d0 d1 d2
      have hlt := hbl.lt
      clear hbl
      go_wp2
      refine bodyPost_ret (v := .agg #[.int .i64 s.al, .int .i64 s.st, .slice A' s.es.length c']) (by simp [results, Tryd.results29, go_sem, d0, d1, d2]) rfl ?_
      exact hfin.out
    · have hfin := hid (DrawSy.ret (w := w) a1 a2 (by omega) a4'.out a5'.out (hb0.trans (hB4.mono (by have := hz0.out; omega))) (.int .i64 s.al) (.int .i64 s.st) (.slice A' s.es.length c'))
      have hbl := hres.out.below hB4 hres.out.lt
      have d0 := hbl.cell 0
      have d1 := hbl.cell 1
      have d2 := hbl.cell 2
      have f0 := hbl.frozen 0
      have f1 := hbl.frozen 1
      have f2 := hbl.frozen 2
      simp only [List.getElem?_toArray, List.getElem?_cons_zero, List.getElem?_cons_succ] at d0 d1 d2
      have hlt := hbl.lt
      clear hbl
      go_wp2
      refine bodyPost_ret (v := .agg #[.int .i64 s.al, .int .i64 s.st, .slice A' s.es.length c']) (by simp [results, Tryd.results29, go_sem, d0, d1, d2]) rfl ?_
      exact hfin.out
  · have hjb : ((j : Int) == 0) = false := by simpa using hj
    replace hj := hid hj
    go_wp2_with fail
    refine (l2Any_up R (0 + 1) w2 (by omega) hr2.out).mono ?_
    rintro e w9 ⟨s, A', c', rfl, a1, a2, a3, a4, a5, a6, a7⟩
    unfold Sy.val
    have hB9 : Below w0.heap.size w0 w9 := KeepB.below hB2 a7 hB2.size (fun k hk => by omega)
    replace a4 := hid a4
    replace a6 := hid a6
    have a5' : Hid (FreshA (w.heap.size + 1) A') := hid fun b o hA => by have := a5 b o hA; have := hz0.out; have := hB2.size; omega
    clear a5 a7
    have hfin := hid (DrawSy.ret (w := w) a1 a2 (by omega) a4.out a5'.out (hb0.trans (hB9.mono (by have := hz0.out; omega))) (.int .i64 s.al) (.int .i64 s.st) (.slice A' s.es.length c'))
    have hbl := hres.out.below hB9 hres.out.lt
    have d0 := hbl.cell 0
    have d1 := hbl.cell 1
    have d2 := hbl.cell 2
    have f0 := hbl.frozen 0
    have f1 := hbl.frozen 1
    have f2 := hbl.frozen 2
    simp only [List.getElem?_toArray, List.getElem?_cons_zero, List.getElem?_cons_succ] at d0 d1 d2
    have hlt := hbl.lt
    clear hbl
    go_wp2
    refine bodyPost_ret (v := .agg #[.int .i64 s.al, .int .i64 s.st, .slice A' s.es.length c']) (by simp [results, Tryd.results29, go_sem, d0, d1, d2]) rfl ?_
    exact hfin.out
set_option maxRecDepth 100000 in
set_option maxHeartbeats 4000000 in
theorem drawProjectSystem_any (A : Option Addr) (n c : Nat) (w : World) (hn : n ≤ c) (hc : c ≤ 9223372036854775807) (hx : CodeAt w A n) :
    Calls Tryd.prog 26 #[.slice A n c] w (DrawSI w) := by
  have hres := Blk.new w 34 #[.int .i64 0, .int .i64 0, .slice none 0 0]
  have hb0 : Below w.heap.size w (w.alloc (.cells #[.int .i64 0, .int .i64 0, .slice none 0 0] 34)) := (Below.refl _ _).alloc (Nat.le_refl _) _
  generalize hw0 : w.alloc (.cells #[.int .i64 0, .int .i64 0, .slice none 0 0] 34) = w0 at hres hb0
  have hz0 : w0.heap.size = w.heap.size + 1 := by rw [← hw0]; simp
  have hx0 : CodeAt w0 A n := fun h => by
    obtain ⟨b, o, h1, h2, h3⟩ := hx h
    refine ⟨b, o, h1, by omega, fun i hi => ?_⟩
    obtain ⟨y, h4, h5⟩ := h3 i hi
    exact ⟨y, h4, by rw [hb0.cell (by simpa using h2)]; exact h5⟩
  replace hres := hid hres
  replace hz0 := hid hz0
  replace hx := hid hx
  replace hx0 := hid hx0
  go_enter Tryd.func26, Tryd.ntmps26
  go_wp2_with fail
  refine (l19Open_any A n c w0 hn hc hx0.out).mono ?_
  rintro e w1 ⟨R, rfl, hR, hr1, hb1⟩
  replace hr1 := hid hr1
  have hz1 := hb1.size
  clear hw0
  go_wp2_with fail
  refine (l2Any_up R 0 w1 (by omega) hr1.out).mono ?_
  rintro e w9 ⟨s, A', c', rfl, a1, a2, a3, a4, a5, a6, a7⟩
  unfold Sy.val
  have hB9 : Below w0.heap.size w0 w9 := KeepB.below hb1 a7 hb1.size (fun k hk => by omega)
  replace a4 := hid a4
  replace a6 := hid a6
  have a5' : Hid (FreshA (w.heap.size + 1) A') := hid fun b o hA => by have := a5 b o hA; have := hz0.out; have := hb1.size; omega
  have hfR : Hid (FreshA w1.heap.size A') := hid a5
  have hR1 := hr1.out.lt
  clear a5 a7
  have hnb := Blk.new w9 34 #[.int .i64 s.al, .int .i64 s.st, .slice A' s.es.length c']
  have hba : Below w9.heap.size w9 (w9.alloc (.cells #[.int .i64 s.al, .int .i64 s.st, .slice A' s.es.length c'] 34)) := (Below.refl _ _).alloc (Nat.le_refl _) _
  have hRl := a6.out.lt
  have hsq : w9.heap.size < (w9.alloc (.cells #[.int .i64 s.al, .int .i64 s.st, .slice A' s.es.length c'] 34)).heap.size := by simp
  generalize hwa : w9.alloc (.cells #[.int .i64 s.al, .int .i64 s.st, .slice A' s.es.length c'] 34) = w3 at hnb hba hsq
  have hr3 := hid (a6.out.later hba)
  have hB3 := hB9.trans (hba.mono hB9.size)
  have a4' := hid (a4.out.later hba)
  have hf3 : Hid (FreshA (R + 1) A') := hid (fun b o hA => by have := hfR.out b o hA; omega)
  have hRb : w0.heap.size ≤ R := hR
  have c0 := hnb.cell 0
  simp only [List.getElem?_toArray, List.getElem?_cons_zero, List.getElem?_cons_succ] at c0
  have hneR : w9.heap.size ≠ R := by omega
  have q0 := RI.cell hr3.out c0 hneR
  replace hnb := hid hnb
  go_wp2_with fail
  clear c0 hwa
  refine GK.wp_region 7 [] 200 (KeepB fun b => b = R) (RI w3 R (0 + 3000000)) (fun _ u _ => ∃ x : Int, u = .int .i64 x) (by kernel_rfl) (by kernel_rfl) (RI.way w3 R _) (by decide) (RI.drew hr3.out) ?_
  simp only [List.take_succ_cons, List.take_zero]
  (repeat (refine GK.grow_quiet w3 (by rfl) (by rfl) ?_; intro K hK; go_big_quiet_op; go_big_quiet_on))
  refine GK.grow_new (K := fun b => b = R) (by rfl) w3.heap.size (fun b => .slice (some ⟨b, 0, none⟩) 7 7) 3 #[.int .i64 5, .int .i64 3, .int .i64 1, .int .i64 6, .int .i64 63, .int .i64 0, .int .i64 2] (fun _ => by go_simp) rfl (fun _ _ o h => RI.alloc o h) (fun _ _ h => RI.size h) (fun k hk => by have := hr3.out.lt; omega) (fun g hg => ?_)
  simp only [Act.put, List.setIfInBounds_toArray, List.set_cons_zero, List.set_cons_succ]
  (repeat (refine GK.grow_quiet w3 (by rfl) (by rfl) ?_; intro K hK; go_big_quiet_op; go_big_quiet_on))
  refine GK.grow_call (by rfl) (fun u w w' _ h => h) (fun m wq hm hbq hf => ?_) ?_
  · obtain ⟨b', z1, z2, z3⟩ := hf _ List.mem_cons_self (by kernel_rfl)
    cases z1
    have hlt4 := hr3.out.lt
    go_simp
    exact ⟨rfl, (num_blk R (0 + 3000000 + m * 10000) g [5, 3, 1, 6, 63, 0, 2] wq _ (by decide) (by decide) (by omega) z3 (by omega) hbq.2).mono fun e w' ⟨x, h1, h2, h3, h4⟩ => ⟨_, h2, RI.call hbq h4 h3 (by omega), x, rfl⟩⟩
  rintro u ⟨_, _, _, x, rfl⟩
  simp only [Act.put, List.setIfInBounds_toArray, List.set_cons_zero, List.set_cons_succ]
  (repeat (refine GK.grow_quiet w3 (by rfl) (by rfl) ?_; intro K hK; go_big_quiet_op; go_big_quiet_on))
  refine GK.grow_nil ?_
  intro w4 hw4 _
  simp only [List.filterMap_cons, List.filterMap_nil, List.getElem?_cons_zero, List.getElem?_cons_succ]
  clear q0
  have hB4 : Below w0.heap.size w0 w4 := KeepB.below hB3 hw4.1 hB3.size (fun k hk => by omega)
  have hs4 := hid (EdsAt.keepR a4'.out hw4.1 hf3.out)
  have hnb4 := hid (hnb.out.keep hw4.1 (by omega))
  have hr4 := hid hw4.2
  clear hw4
  obtain ⟨al, hal⟩ : ∃ al, bits .and .i64 s.al x = al := ⟨_, rfl⟩
  try rw [hal]
  clear hal
  go_wp2_with fail
  refine (pick_up R _ 12 w4 (by omega) (by omega) hr4.out).mono ?_
  rintro e w5 ⟨j, rfl, hj0, hj1, hr5, hk5⟩
  have hB5 : Below w0.heap.size w0 w5 := KeepB.below hB4 hk5 hB4.size (fun k hk => by omega)
  have hs5 := hid (EdsAt.keepR hs4.out hk5 hf3.out)
  have hnb5 := hid (hnb4.out.keep hk5 (by omega))
  replace hr5 := hid hr5
  clear hj1 hk5
  by_cases hj : j = 0
  · subst hj
    go_wp2_with fail
    refine (l1Some_up R _ w5 (by omega) hr5.out).mono ?_
    rintro e w6 ⟨y, rfl, hr6, hk6⟩
    have hB6 : Below w0.heap.size w0 w6 := KeepB.below hB5 hk6 hB5.size (fun k hk => by omega)
    have hs6 := hid (EdsAt.keepR hs5.out hk6 hf3.out)
    have hnb6 := hid (hnb5.out.keep hk6 (by omega))
    replace hr6 := hid hr6
    clear hk6
    go_wp2_with fail
    refine (l1Wrong_up R _ y w6 (by omega) hr6.out).mono ?_
    rintro e w7 ⟨z, rfl, hr7, hk7⟩
    have hB7 : Below w0.heap.size w0 w7 := KeepB.below hB6 hk7 hB6.size (fun k hk => by omega)
    have hs7 := hid (EdsAt.keepR hs6.out hk7 hf3.out)
    have hnb7 := hid (hnb6.out.keep hk7 (by omega))
    clear hk7 hr7
    have c0 := hnb7.out.cell 0
    have c1 := hnb7.out.cell 1
    have c2 := hnb7.out.cell 2
    simp only [List.getElem?_toArray, List.getElem?_cons_zero, List.getElem?_cons_succ] at c0 c1 c2
    have hfin := hid (DrawSI.ret (w := w) (al := z) a1 a2 (by omega) hs7.out a5'.out (hb0.trans (hB7.mono (by have := hz0.out; omega))) (.int .i64 s.al) (.int .i64 s.st) (.slice A' s.es.length c'))
    have hbl := hres.out.below hB7 hres.out.lt
    have d0 := hbl.cell 0
    have d1 := hbl.cell 1
    have d2 := hbl.cell 2
    have f0 := hbl.frozen 0
    have f1 := hbl.frozen 1
    have f2 := hbl.frozen 2
    simp only [List.getElem?_toArray, List.getElem?_cons_zero, List.getElem?_cons_succ] at d0 d1 d2
    have hlt := hbl.lt
    clear hbl
    go_wp2
    refine bodyPost_ret (v := .tuple #[.agg #[.int .i64 s.al, .int .i64 s.st, .slice A' s.es.length c'], .int .i64 z]) (by simp [results, Tryd.results26, go_sem, d0, d1, d2]) rfl ?_
    exact hfin.out
  · have hjb : ((j : Int) == 0) = false := by simpa using hj
    replace hj := hid hj
    have c0 := hnb5.out.cell 0
    have c1 := hnb5.out.cell 1
    have c2 := hnb5.out.cell 2
    simp only [List.getElem?_toArray, List.getElem?_cons_zero, List.getElem?_cons_succ] at c0 c1 c2
    have hfin := hid (DrawSI.ret (w := w) (al := al) a1 a2 (by omega) hs5.out a5'.out (hb0.trans (hB5.mono (by have := hz0.out; omega))) (.int .i64 s.al) (.int .i64 s.st) (.slice A' s.es.length c'))
    have hbl := hres.out.below hB5 hres.out.lt
    have d0 := hbl.cell 0
    have d1 := hbl.cell 1
    have d2 := hbl.cell 2
    have f0 := hbl.frozen 0
    have f1 := hbl.frozen 1
    have f2 := hbl.frozen 2
    simp only [List.getElem?_toArray, List.getElem?_cons_zero, List.getElem?_cons_succ] at d0 d1 d2
    have hlt := hbl.lt
    clear hbl
    go_wp2
    refine bodyPost_ret (v := .tuple #[.agg #[.int .i64 s.al, .int .i64 s.st, .slice A' s.es.length c'], .int .i64 al]) (by simp [results, Tryd.results26, go_sem, d0, d1, d2]) rfl ?_
    exact hfin.out

end Go.Proofs.YtimoekglamdddaaDoor

/- Plain: how many bits a small number has. -/
namespace AG

def popE (x : Nat) : Nat := x % 2 + x / 2 % 2 + x / 4 % 2 + x / 8 % 2 + x / 16 % 2 + x / 32 % 2 + x / 64 % 2 + x / 128 % 2 + x / 256 % 2 + x / 512 % 2 + x / 1024 % 2 + x / 2048 % 2 + x / 4096 % 2 + x / 8192 % 2 + x / 16384 % 2 + x / 32768 % 2
/-- The library's steps. -/
def popS (x : Nat) : Nat :=
  let x1 := (x / 2 &&& 6148914691236517205) + (x &&& 6148914691236517205)
  let x2 := (x1 / 4 &&& 3689348814741910323) + (x1 &&& 3689348814741910323)
  let x3 := x2 / 16 + x2 &&& 1085102592571150095
  let x4 := x3 + x3 / 256
  let x5 := x4 + x4 / 65536
  let x6 := x5 + x5 / 4294967296
  x6 &&& 127
theorem pop_all : ∀ a : Fin 256, ∀ b : Fin 256, popE (a.val * 256 + b.val) = popS (a.val * 256 + b.val) := by decide +kernel
theorem pop_steps (x : Nat) (hx : x < 65536) : popE x = popS x := by
  have := pop_all ⟨x / 256, by omega⟩ ⟨x % 256, by omega⟩
  simp only at this
  rwa [show x / 256 * 256 + x % 256 = x from by omega] at this

end AG

/- Plain: ranks in a set, and a system with only some of its states. -/
namespace AG

/-- How many numbers below n are in the set. -/
def rankN (S : Nat) : Nat → Nat
  | 0 => 0
  | n + 1 => rankN S n + if S.testBit n = true then 1 else 0
theorem rankN_le (S : Nat) : ∀ n, rankN S n ≤ n
  | 0 => Nat.le_refl _
  | n + 1 => by
    have := rankN_le S n
    unfold rankN
    split <;> omega
theorem bit_num (x i : Nat) : (if x.testBit i = true then 1 else 0) = x / 2 ^ i % 2 := by
  have h := Nat.testBit_eq_decide_div_mod_eq (x := x) (i := i)
  rw [h]
  by_cases hh : x / 2 ^ i % 2 = 1
  · simp [hh]
  · simp [hh]; omega
theorem popE_rank (x : Nat) : popE x = rankN x 16 := by
  unfold popE
  simp only [rankN, bit_num]
  simp
theorem rank_mask (S n : Nat) : ∀ m, n ≤ m → rankN (S &&& (2 ^ n - 1)) m = rankN S n := by
  have key : ∀ i, (S &&& (2 ^ n - 1)).testBit i = (S.testBit i && decide (i < n)) := fun i => by rw [Nat.testBit_and, Nat.testBit_two_pow_sub_one]
  have low : ∀ m, m ≤ n → rankN (S &&& (2 ^ n - 1)) m = rankN S m := by
    intro m
    induction m with
    | zero => intro _; rfl
    | succ m ih =>
      intro h
      rw [rankN, rankN, ih (by omega), key, decide_eq_true (by omega : m < n), Bool.and_true]
  intro m
  induction m with
  | zero => intro h; exact low 0 (by omega) |>.trans (by rw [show n = 0 from by omega])
  | succ m ih =>
    intro h
    by_cases e : n = m + 1
    · rw [e, ← e]; exact low n (Nat.le_refl _)
    · rw [rankN, ih (by omega), key, decide_eq_false (by omega : ¬ m < n)]
      simp
theorem rank_top {S n : Nat} (hS : S < 2 ^ n) : ∀ m, n ≤ m → rankN S m = rankN S n := by
  intro m h
  have := rank_mask S n m h
  have e : S &&& (2 ^ n - 1) = S := by rw [Nat.and_two_pow_sub_one_eq_mod, Nat.mod_eq_of_lt hS]
  rwa [e] at this

def trimE (R : Nat) (e : Ed) : Ed := ⟨(rankN R e.f.toNat : Nat), e.l, (rankN R e.t.toNat : Nat)⟩
def keptE (R : Nat) (e : Ed) : Bool := R.testBit e.f.toNat && R.testBit e.t.toNat
def trimEs (R : Nat) (es : List Ed) : List Ed := (es.filter (keptE R)).map (trimE R)
/-- A system with only the states of a set, renumbered. -/
def trimSy (s : Sy) (R : Nat) : Sy := ⟨s.al, (rankN R s.st.toNat : Nat), trimEs R s.es⟩
theorem trimEs_hit {R : Nat} {es : List Ed} {k : Nat} (hk : k < es.length) (h : keptE R es[k] = true) : trimEs R (es.take (k + 1)) = trimEs R (es.take k) ++ [trimE R es[k]] := by
  unfold trimEs
  rw [List.take_succ_eq_append_getElem hk, List.filter_append, List.map_append]
  simp [h]
theorem trimEs_miss {R : Nat} {es : List Ed} {k : Nat} (hk : k < es.length) (h : keptE R es[k] = false) : trimEs R (es.take (k + 1)) = trimEs R (es.take k) := by
  unfold trimEs
  rw [List.take_succ_eq_append_getElem hk, List.filter_append, List.map_append]
  simp [h]
theorem trimEs_len (R : Nat) (es : List Ed) : (trimEs R es).length ≤ es.length := by
  unfold trimEs
  rw [List.length_map]
  exact List.length_filter_le _ _

end AG
