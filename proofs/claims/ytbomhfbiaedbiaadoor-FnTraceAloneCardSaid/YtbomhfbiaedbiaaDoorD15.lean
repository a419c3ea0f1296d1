/- The drawing kit: l2Any, words. -/
import Derived.Test.YtbomhfbiaedbiaaDoorD14
import Derived.Test.YtbomhfbiaedbiaaDoorW31
namespace Go.Proofs.YtbomhfbiaedbiaaDoor
open Go.RowKit Go.BigFrame AG

set_option maxRecDepth 100000 in
set_option maxHeartbeats 4000000 in
theorem l2Any_up (R P : Nat) (w : World) (hP : P + 9000000 ≤ 1125899906842624) (hr : RdUp w R P) :
    Calls Tryd.prog 82 #[.pointer (some ⟨R, 0, none⟩)] w (SyUp R (P + 3000000) 2000 w) := by
  have hR := hr.lt
  have hres := Blk.new w 36 #[.int .i64 0, .int .i64 0, .slice none 0 0]
  have hb0 : Below w.heap.size w (w.alloc (.cells #[.int .i64 0, .int .i64 0, .slice none 0 0] 36)) := (Below.refl _ _).alloc (Nat.le_refl _) _
  generalize hw0 : w.alloc (.cells #[.int .i64 0, .int .i64 0, .slice none 0 0] 36) = w0 at hres hb0
  have hz0 : w0.heap.size = w.heap.size + 1 := by rw [← hw0]; simp
  have hr0 := hid (hr.later hb0)
  replace hr := hid hr
  replace hres := hid hres
  replace hz0 := hid hz0
  go_enter Tryd.func82, Tryd.ntmps82
  go_wp2_with fail
  refine (pick_up R P 12 w0 (by omega) (by omega) hr0.out).mono ?_
  rintro e w1 ⟨j, rfl, hj0, hj1, hr1, hk1⟩
  replace hr1 := hid hr1
  replace hk1 := hid hk1
  clear hw0 hj1
  by_cases hj : j = 0
  · subst hj
    go_wp2_with fail
    refine (l2Big_up R (P + 1) w1 (by omega) hr1.out).mono ?_
    rintro e w4 ⟨s, A, c, rfl, h1, h2, h3, h4, h5, h6, h7, -⟩
    unfold Sy.val
    have K2 : KeepB (fun b => b = R) w0 w4 := hk1.out.trans h7
    have hbl := hres.out.keep K2 (by omega)
    have d0 := hbl.cell 0
    have d1 := hbl.cell 1
    have d2 := hbl.cell 2
    have f0 := hbl.frozen 0
    have f1 := hbl.frozen 1
    have f2 := hbl.frozen 2
    simp only [List.getElem?_toArray, List.getElem?_cons_zero, List.getElem?_cons_succ] at d0 d1 d2
    have hfin := hid (SyUp.ret (w := w) (L := 2000) h1 h2 (by omega) h4 (fun b o hA => by have := h5 b o hA; have := hk1.out.size; have := hz0.out; omega) (h6.more (by omega : P + 1 + 2000000 ≤ P + 3000000)) ((KeepB.of_below hb0).trans K2) hR (.int .i64 s.al) (.int .i64 s.st) (.slice A s.es.length c))
    have hlt := hbl.lt
    clear h4 h5 h6 h7 hbl K2
    go_wp2
    refine bodyPost_ret (v := .agg #[.int .i64 s.al, .int .i64 s.st, .slice A s.es.length c]) (by simp [results, Tryd.results82, go_sem, d0, d1, d2]) rfl ?_
    exact hfin.out
  · have hjb : ((j : Int) == 0) = false := by simpa using hj
    replace hj := hid hj
    go_wp2_with fail
    refine (l2Draw_up R (P + 1) w1 (by omega) hr1.out).mono ?_
    rintro e w2 ⟨s', A', c', rfl, a1, a2, a3, a4, a5, a6, a7⟩
    replace a4 := hid a4
    replace a6 := hid a6
    replace a7 := hid a7
    clear a5
    go_wp2_with fail
    refine (l2Wrong_up R (P + 1 + 2000) 1536 s' A' c' w2 (by omega) a1 a2 a3 (by omega) a4.out a6.out).mono ?_
    rintro e w4 ⟨s, A, c, rfl, h1, h2, h3, h4, h5, h6, h7⟩
    unfold Sy.val
    have K1 : KeepB (fun b => b = R) w0 w2 := hk1.out.trans a7.out
    have K2 : KeepB (fun b => b = R) w0 w4 := K1.trans h7
    have hbl := hres.out.keep K2 (by omega)
    have d0 := hbl.cell 0
    have d1 := hbl.cell 1
    have d2 := hbl.cell 2
    have f0 := hbl.frozen 0
    have f1 := hbl.frozen 1
    have f2 := hbl.frozen 2
    simp only [List.getElem?_toArray, List.getElem?_cons_zero, List.getElem?_cons_succ] at d0 d1 d2
    have hfin := hid (SyUp.ret (w := w) (L := 2000) h1 h2 (by omega) h4 (fun b o hA => by have := h5 b o hA; have := K1.size; have := hz0.out; omega) (h6.more (by omega : P + 1 + 2000 + 400000 ≤ P + 3000000)) ((KeepB.of_below hb0).trans K2) hR (.int .i64 s.al) (.int .i64 s.st) (.slice A s.es.length c))
    have hlt := hbl.lt
    clear h4 h5 h6 h7 hbl K2 K1
    go_wp2
    refine bodyPost_ret (v := .agg #[.int .i64 s.al, .int .i64 s.st, .slice A s.es.length c]) (by simp [results, Tryd.results82, go_sem, d0, d1, d2]) rfl ?_
    exact hfin.out

def ManyPost (N : Nat) (w : World) (e : Ending) (w' : World) : Prop := ∃ x : ByteArray, e = .returned (.string x) ∧ x.size ≤ N ∧ w = w'

set_option maxRecDepth 100000 in
set_option maxHeartbeats 2000000 in
theorem l19Many_any (s : ByteArray) (n : Nat) (w : World) (hs : s.size = 1) (hn : n ≤ 100000) : Calls Tryd.prog 154 #[.string s, .int .i64 n] w (ManyPost 200000 w) := by
  replace hs := hid hs
  go_enter Tryd.func154, Tryd.ntmps154
  go_wp2_with fail
  go_loopw [0, 1, 5] (fun a i o wr => ∃ (x y : ByteArray) (m : Nat), a = .string x ∧ i = .int .i64 m ∧ o = .string y ∧ y.size + x.size * m ≤ 100000 ∧ x.size ≤ 200000 ∧ m ≤ 100000 ∧ w = wr) (fun _ i _ _ => (intOf i).toNat)
  case atStart => exact ⟨s, ⟨#[]⟩, n, rfl, rfl, rfl, by rw [hs.out]; show 0 + 1 * n ≤ 100000; omega, by rw [hs.out]; omega, by omega, rfl⟩
  case round =>
    obtain ⟨x, y, m, rfl, rfl, rfl, h1, h2, hmb, rfl⟩ := hrel
    by_cases hm : 0 < m
    · have hm' : (0 : Int) < (m : Int) := by omega
      obtain ⟨q, hq⟩ : ∃ q : Nat, q = m / 2 := ⟨_, rfl⟩
      have e2 : (m : Int) / 2 = (q : Int) := by omega
      have hqb : q ≤ 100000 := by omega
      have hxm : x.size ≤ x.size * m := Nat.le_mul_of_pos_right _ hm
      have hy1 : y.size ≤ 100000 := by omega
      have hx1 : x.size ≤ 100000 := by omega
      by_cases hodd : m % 2 = 1
      · have e1 : (m : Int) % 2 = 1 := by omega
        have hqm : m = 2 * q + 1 := by omega
        have h3 : Hid (y.size + x.size + (x.size + x.size) * q ≤ 100000) := hid (by
          rw [hqm] at h1
          have : x.size * (2 * q + 1) = x.size + (x.size + x.size) * q := by rw [Nat.mul_add, Nat.add_mul, Nat.mul_one]; rw [Nat.two_mul, Nat.mul_add]; omega
          omega)
        replace h1 := hid h1
        replace hq := hid hq
        replace hqm := hid hqm
        replace hxm := hid hxm
        go_wp2_with fail
        go_roundw
        case rel => exact ⟨_, _, q, rfl, rfl, rfl, by rw [ByteArray.size_append, ByteArray.size_append]; exact h3.out, by rw [ByteArray.size_append]; omega, hqb, by first | trivial | rfl⟩
        case measure => have := hqm.out; simp [intOf]; omega
      · have e1 : (m : Int) % 2 = 0 := by omega
        have hqm : m = 2 * q := by omega
        have h3 : Hid (y.size + (x.size + x.size) * q ≤ 100000) := hid (by
          rw [hqm] at h1
          have : x.size * (2 * q) = (x.size + x.size) * q := by rw [Nat.add_mul, Nat.two_mul, Nat.mul_add]
          omega)
        replace h1 := hid h1
        replace hq := hid hq
        replace hqm := hid hqm
        replace hxm := hid hxm
        go_wp2_with fail
        go_roundw
        case rel => exact ⟨_, _, q, rfl, rfl, rfl, by rw [ByteArray.size_append]; exact h3.out, by rw [ByteArray.size_append]; omega, hqb, by first | trivial | rfl⟩
        case measure => have := hqm.out; simp [intOf]; omega
    · go_wp2_with fail
      go_ret
      exact ⟨y, rfl, by omega, rfl⟩

def StrUp (R P N : Nat) (w : World) (e : Ending) (w' : World) : Prop := ∃ x : ByteArray, e = .returned (.string x) ∧ x.size ≤ N ∧ RdUp w' R P ∧ KeepB (fun b => b = R) w w'
def IntUp (R P : Nat) (w : World) (e : Ending) (w' : World) : Prop := ∃ x : Int, e = .returned (.int .i64 x) ∧ RdUp w' R P ∧ KeepB (fun b => b = R) w w'

set_option maxHeartbeats 1000000 in
theorem l1Some_up (R P : Nat) (w : World) (hP : P + 10 ≤ 1125899906842624) (hr : RdUp w R P) : Calls Tryd.prog 86 #[.pointer (some ⟨R, 0, none⟩)] w (IntUp R (P + 1) w) := by
  replace hr := hid hr
  go_enter Tryd.func86, Tryd.ntmps86
  go_wp2_with fail
  refine (num_lit R P [3, 7, 1, 5, 0, 6, 63, 2, 21] w _ (by decide) (by decide) (by omega) hr.out).mono ?_
  rintro e w1 ⟨al, hal, rfl, hr1, hk1⟩
  clear hal
  replace hr1 := hid hr1
  go_wp2_with fail
  go_ret
  exact ⟨al, rfl, hr1.out, hk1⟩

set_option maxRecDepth 100000 in
set_option maxHeartbeats 4000000 in
theorem l1Word_up (R P : Nat) (A : Int) (n : Nat) (w : World) (hP : P + 1000 ≤ 1125899906842624) (hn : n ≤ 100) (hr : RdUp w R P) :
    Calls Tryd.prog 137 #[.pointer (some ⟨R, 0, none⟩), .int .i64 A, .int .i64 n] w (StrUp R (P + 200) 200 w) := by
  have hR := hr.lt
  replace hr := hid hr
  go_enter Tryd.func137, Tryd.ntmps137
  go_wp2_with fail
  refine (l1Letters_any A w).mono ?_
  rintro e w1 ⟨lv, rfl, hown, hb1⟩
  obtain ⟨ls, hls⟩ : ∃ ls, Hid (ls = letters A) := ⟨_, hid rfl⟩
  rw [← hls.out] at hown
  have hl6 : ls.length ≤ 6 := by rw [hls.out]; exact lettersTo_len A 6
  obtain ⟨Al, cl, hvl, hcl, hcl'⟩ := own_slice hown
  subst hvl
  have hr1 := hid (hr.out.later hb1)
  replace hown := hid hown
  have hz1 := hb1.size
  go_wp2_with fail
  refine (pick_up R P (n + 1) w1 (by omega) (by omega) hr1.out).mono ?_
  rintro e w2 ⟨j, rfl, hj0, hj1, hr2, hk2⟩
  obtain ⟨m, rfl⟩ := Int.eq_ofNat_of_zero_le hj0
  have hmn : m ≤ n := by omega
  have hown2 := hid (own_keep hown.out hk2 (fun g hg => by have := (World.ownsRow.lt hown.out g hg).1; omega))
  have hkw : KeepB (fun b => b = R) w w2 := (KeepB.of_below hb1).trans hk2
  replace hr2 := hid hr2
  clear hk2 hj0 hj1 hown
  go_wp2_with fail
  go_loopw [8, 9] (fun o i wr => ∃ (x : ByteArray) (k : Nat), o = .string x ∧ i = .int .i64 k ∧ x.size + k ≤ n ∧ RdUp wr R (P + 1 + x.size) ∧ OwnNats wr w.heap.size (.slice Al ls.length cl) ls ∧ KeepB (fun b => b = R) w wr) (fun _ i _ => (intOf i).toNat)
  case atStart => exact ⟨⟨#[]⟩, m, rfl, rfl, by show 0 + m ≤ n; omega, hr2.out, hown2.out, hkw⟩
  case round =>
    clear hown2 hr2 hkw
    obtain ⟨x, k, rfl, rfl, hx, hrr, hown, hkw⟩ := hrel
    replace hrr := hid hrr
    replace hkw := hid hkw
    replace hown := hid hown
    by_cases hk : 0 < k
    · have hk' : (0 : Int) < (k : Int) := by omega
      by_cases hl0 : ls.length = 0
      · go_wp2_with fail
        go_ret
        exact ⟨x, rfl, by omega, hrr.out.more (by omega), hkw.out⟩
      · have e0 : (0 : Int) < (ls.length : Int) := by omega
        go_wp2_with fail
        refine (pick_up R (P + 1 + x.size) ls.length wr (by omega) (by omega) hrr.out).mono ?_
        rintro e w3 ⟨q, rfl, hq0, hq1, hr3, hk3⟩
        obtain ⟨q, rfl⟩ := Int.eq_ofNat_of_zero_le hq0
        have hql : q < ls.length := by omega
        have hown3 := hid (own_keep hown.out hk3 (fun g hg => by have := (World.ownsRow.lt hown.out g hg).1; omega))
        have hkw3 := hid (hkw.out.trans hk3)
        obtain ⟨g, cap, hve, hg1, hg2, -, -, hL⟩ := own_nats hown3.out (by omega)
        cases hve
        have l0 := hL q hql
        obtain ⟨l, hl⟩ : ∃ l : Nat, l = ls[q] := ⟨_, rfl⟩
        have hlt6 : l < 6 := by
          have := letters_lt (A := A) (l := l) (by rw [← hls.out, hl]; exact List.getElem_mem _)
          exact this.1
        rw [← hl] at l0
        have i1 : (0 : Int) ≤ (q : Int) ∧ (q : Int) < (ls.length : Int) := by omega
        replace hr3 := hid hr3
        replace hl := hid hl
        replace hL := hid hL
        replace hl0 := hid hl0
        clear hk3 hq0 hq1
        go_wp2_with (go_at_call 150; refine (l1Text_any l hlt6 _).mono ?_; rintro e w4 ⟨rfl, hb4⟩)
        have hr4 := hid (hr3.out.later hb4)
        have hown4 := hid (own_later hown3.out hb4)
        have hkw4 := hid (hkw3.out.trans (KeepB.of_below hb4))
        go_roundw
        case rel => exact ⟨_, k - 1, rfl, by go_num, by rw [ByteArray.size_append]; show x.size + 1 + (k - 1) ≤ n; omega, hr4.out.more (by rw [ByteArray.size_append]; show _ ≤ P + 1 + (x.size + 1); omega), hown4.out, hkw4.out⟩
        case measure => simp [intOf]; omega
    · go_wp2_with fail
      go_ret
      exact ⟨x, rfl, by omega, hrr.out.more (by omega), hkw.out⟩

end Go.Proofs.YtbomhfbiaedbiaaDoor
