/- The drawing kit: words that are traces; a system and a word. -/
import Derived.Test.YtbomhfbiaedbiaaDoorD15
namespace Go.Proofs.YtbomhfbiaedbiaaDoor
open Go.RowKit Go.BigFrame AG

def OfUp (R P : Nat) (xs : List ByteArray) (w : World) (e : Ending) (w' : World) : Prop := ∃ x, x ∈ xs ∧ e = .returned (.string x) ∧ RdUp w' R (P + 1) ∧ KeepB (fun b => b = R) w w'
/-- A text out of a list that has just been made. -/
theorem of_lit (R P : Nat) (xs : List ByteArray) (w : World) (T : TypeId) (hk : 0 < xs.length) (hk2 : xs.length ≤ 1000) (hP : P < 1125899906842624) (hr : RdUp w R P) :
    Calls Tryd.prog 146 #[.pointer (some ⟨R, 0, none⟩), .slice (some ⟨w.heap.size, 0, none⟩) xs.length xs.length] (w.alloc (.cells (xs.map Value.string).toArray T)) (OfUp R P xs w) := by
  have hR := hr.lt
  have hb : Below w.heap.size w (w.alloc (.cells (xs.map Value.string).toArray T)) := (Below.refl _ _).alloc (Nat.le_refl _) _
  refine (of_up R P w.heap.size 0 xs.length xs.length xs _ rfl hk (by omega) hP (by omega) (by simp) (fun i h => ?_) (hr.later hb)).mono fun e w' ⟨x, h1, h2, h3, h4⟩ => ⟨x, h1, h2, h3, (KeepB.of_below hb).trans h4⟩
  rw [Nat.zero_add, World.cell?_alloc_at _ _ _ _ rfl]
  simp [h]

set_option maxRecDepth 100000 in
set_option maxHeartbeats 4000000 in
theorem l1Bad_up (R P : Nat) (s : ByteArray) (w : World) (hP : P + 1000 ≤ 1125899906842624) (hs : s.size ≤ 1000000) (hr : RdUp w R P) :
    Calls Tryd.prog 138 #[.pointer (some ⟨R, 0, none⟩), .string s] w (StrUp R (P + 10) 2000000 w) := by
  replace hr := hid hr
  go_enter Tryd.func138, Tryd.ntmps138
  go_wp2_with fail
  refine (pick_up R P 24 w (by omega) (by omega) hr.out).mono ?_
  rintro e w1 ⟨j, rfl, hj0, hj1, hr1, hk1⟩
  replace hr1 := hid hr1
  replace hk1 := hid hk1
  clear hj1
  by_cases hj0 : j = 0
  · subst hj0
    go_wp2_with fail
    refine (of_lit R (P + 1) [⟨#[103]⟩, ⟨#[65]⟩, ⟨#[96]⟩, ⟨#[32]⟩, ⟨#[97]⟩, ⟨#[0]⟩] w1 _ (by decide) (by decide) (by omega) hr1.out).mono ?_
    rintro e w2 ⟨x, hx, rfl, hr2, hk2⟩
    have hxz : x.size ≤ 10 := by
      simp only [List.mem_cons, List.not_mem_nil, or_false] at hx
      rcases hx with rfl | rfl | rfl | rfl | rfl | rfl <;> decide
    replace hr2 := hid hr2
    replace hk2 := hid hk2
    clear hx
    go_wp2_with fail
    go_ret
    exact ⟨_, rfl, by rw [ByteArray.size_append]; omega, hr2.out.more (by omega), hk1.out.trans hk2.out⟩
  · have hjb0 : ((j : Int) == 0) = false := by simpa using hj0
    replace hj0 := hid hj0
    by_cases hj1 : j = 1
    · subst hj1
      go_wp2_with fail
      refine (of_lit R (P + 1) [⟨#[98]⟩, ⟨#[120]⟩, ⟨#[45]⟩, ⟨#[102]⟩] w1 _ (by decide) (by decide) (by omega) hr1.out).mono ?_
      rintro e w2 ⟨x, hx, rfl, hr2, hk2⟩
      have hxz : x.size ≤ 10 := by
        simp only [List.mem_cons, List.not_mem_nil, or_false] at hx
        rcases hx with rfl | rfl | rfl | rfl <;> decide
      replace hr2 := hid hr2
      replace hk2 := hid hk2
      clear hx
      go_wp2_with fail
      go_ret
      exact ⟨_, rfl, by rw [ByteArray.size_append]; omega, hr2.out.more (by omega), hk1.out.trans hk2.out⟩
    · have hjb1 : ((j : Int) == 1) = false := by simpa using hj1
      replace hj1 := hid hj1
      by_cases hj2 : j = 2
      · subst hj2
        go_wp2_with fail
        refine (num_lit R (P + 1) [50000, 50001, 49999, 8] w1 _ (by decide) (by decide) (by omega) hr1.out).mono ?_
        rintro e w2 ⟨x, hx, rfl, hr2, hk2⟩
        have hxz : 0 ≤ x ∧ x ≤ 100000 := by simp at hx; omega
        obtain ⟨x, rfl⟩ := Int.eq_ofNat_of_zero_le hxz.1
        have hxz2 : x ≤ 100000 := by omega
        replace hr2 := hid hr2
        replace hk2 := hid hk2
        clear hx hxz
        go_wp2_with fail
        refine (l19Many_any _ x w2 (by decide) hxz2).mono ?_
        rintro e w' ⟨y, rfl, hy, rfl⟩
        go_wp2_with fail
        go_ret
        exact ⟨_, rfl, by omega, hr2.out.more (by omega), hk1.out.trans hk2.out⟩
      · have hjb2 : ((j : Int) == 2) = false := by simpa using hj2
        replace hj2 := hid hj2
        by_cases hj3 : j = 3
        · subst hj3
          go_wp2_with fail
          refine (num_lit R (P + 1) [50000, 8, 7] w1 _ (by decide) (by decide) (by omega) hr1.out).mono ?_
          rintro e w2 ⟨x, hx, rfl, hr2, hk2⟩
          have hxz : 0 ≤ x ∧ x ≤ 100000 := by simp at hx; omega
          obtain ⟨x, rfl⟩ := Int.eq_ofNat_of_zero_le hxz.1
          have hxz2 : x ≤ 100000 := by omega
          replace hr2 := hid hr2
          replace hk2 := hid hk2
          clear hx hxz
          go_wp2_with fail
          refine (l19Many_any _ x w2 (by decide) hxz2).mono ?_
          rintro e w' ⟨y, rfl, hy, rfl⟩
          go_wp2_with fail
          go_ret
          exact ⟨_, rfl, by omega, hr2.out.more (by omega), hk1.out.trans hk2.out⟩
        · have hjb3 : ((j : Int) == 3) = false := by simpa using hj3
          replace hj3 := hid hj3
          go_wp2_with fail
          go_ret
          exact ⟨_, rfl, by omega, hr1.out.more (by omega), hk1.out⟩

def IntPostB (w : World) (e : Ending) (w' : World) : Prop := ∃ n : Int, e = .returned (.int .i64 n) ∧ Below w.heap.size w w'

theorem aft_sys {s : Sy} {x : ByteArray} (h : aft s x ≠ 0) : sysOk s = true := by
  cases hs : sysOk s with
  | true => rfl
  | false => exact absurd (by unfold aft; rw [hs]; rfl) h

set_option maxRecDepth 100000 in
set_option maxHeartbeats 4000000 in
theorem lettersAfter_any (s : Sy) (A : Option Addr) (c : Nat) (x : ByteArray) (w : World) (hz : x.size ≤ 9223372036854775807) (hl : s.es.length ≤ c) (hc : c ≤ 9223372036854775807) (hr : EdsAt w w.heap.size A s.es) :
    Calls Tryd.prog 153 #[s.val A c, .string x] w (IntPostB w) := by
  unfold Sy.val
  replace hr := hid hr
  obtain ⟨w0, hw0, hz0, hB0, hS0, hS1, hS2⟩ := boxed3 w (Value.int IntKind.i64 s.al) (Value.int IntKind.i64 s.st) (Value.slice A s.es.length c) 36
  have hr0 := hid (hr.out.later hB0)
  have p0 := hS0 _ (Below.refl _ _)
  have p1 := hS1 _ (Below.refl _ _)
  have p2 := hS2 _ (Below.refl _ _)
  go_enter Tryd.func153, Tryd.ntmps153
  go_wp2_with fail
  refine (specStatesAfter_any s A c x w0 hz hl hc hr0.out).mono ?_
  rintro e w1 ⟨rfl, hb1⟩
  have hb1' := hb1.mono hz0
  have hB1 : Below w.heap.size w w1 := hB0.trans (hb1.mono (by omega))
  have hr1 := hid (hr0.out.later hb1)
  obtain ⟨T, hT⟩ : ∃ T, Hid (T = aft s x) := ⟨_, hid rfl⟩
  rw [← hT.out]
  clear p0 p1 p2 hw0
  have p2 := hS2 _ hb1'
  by_cases hT0 : T = 0
  · subst hT0
    by_cases hn0 : 0 < s.es.length
    all_goals
      go_wp2_with fail
      go_loopw [6, 7] (fun o i wr => ∃ (n : Int), o = .int .i64 n ∧ i = .int .i64 (0 : Nat) ∧ w1 = wr) (fun _ _ _ => 0)
      case atStart => exact ⟨0, rfl, rfl, rfl⟩
      case round =>
        obtain ⟨n, rfl, rfl, rfl⟩ := hrel
        go_wp2_with fail
        go_ret
        exact ⟨n, rfl, hB1⟩
  · have hTb : ((T : Int) != 0) = true := by simpa using hT0
    have hok := aft_sys (by rw [← hT.out]; exact hT0)
    have hin := hid (sysOk_in hok)
    replace hok := hid hok
    replace hT0 := hid hT0
    go_wp2_with fail
    go_loopw [6, 7] (fun o i wr => ∃ (n : Int) (k : Nat), o = .int .i64 n ∧ i = .int .i64 k ∧ k ≤ s.es.length ∧ w1 = wr) (fun _ i _ => s.es.length - (intOf i).toNat)
    case atStart => exact ⟨0, 0, rfl, rfl, by omega, rfl⟩
    case round =>
      obtain ⟨n, k, rfl, rfl, hk, rfl⟩ := hrel
      by_cases hlt : k < s.es.length
      · obtain ⟨b, o, rfl, hbb, hE⟩ := hr1.out (by omega)
        obtain ⟨e0, e1, e2⟩ := hE k hlt
        replace hE := hid hE
        have hok2 := hin.out s.es[k] (List.getElem_mem _)
        obtain ⟨f, hf⟩ := Int.eq_ofNat_of_zero_le hok2.1
        obtain ⟨l, hll⟩ := Int.eq_ofNat_of_zero_le hok2.2.2.2.2.1
        have hf16 : f < 16 := by omega
        have hl6 : l < 6 := by omega
        rw [hf] at e0
        rw [hll] at e1
        replace hf := hid hf
        replace hll := hid hll
        replace hok2 := hid hok2
        have k1 : (0 : Int) ≤ (k : Int) ∧ (k : Int) < (s.es.length : Int) := by omega
        cases hH : Has (T : Int) f
        · replace hH := hid hH
          go_wp2_with (go_at_call 101; refine (l1Has_any _ _ _ (by omega) (by omega)).mono ?_; rintro e w' ⟨rfl, rfl⟩; rw [Int.toNat_natCast, hH.out])
          go_roundw
          case rel => exact ⟨n, k + 1, rfl, by go_num, by omega, by first | trivial | rfl⟩
          case measure => simp [intOf]; omega
        · replace hH := hid hH
          go_wp2_with (first
            | (go_at_call 101; refine (l1Has_any _ _ _ (by omega) (by omega)).mono ?_; rintro e w' ⟨rfl, rfl⟩; rw [Int.toNat_natCast, hH.out])
            | (go_at_call 109; refine (l1Bit_any l _ (by omega)).mono ?_; rintro e w' ⟨rfl, rfl⟩))
          go_roundw
          case rel => exact ⟨_, k + 1, rfl, by go_num, by omega, by first | trivial | rfl⟩
          case measure => simp [intOf]; omega
      · go_wp2_with fail
        go_ret
        exact ⟨n, rfl, hB1⟩

end Go.Proofs.YtbomhfbiaedbiaaDoor
