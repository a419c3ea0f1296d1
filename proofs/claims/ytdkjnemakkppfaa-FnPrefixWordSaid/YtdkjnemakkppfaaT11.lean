/- Lemmas, part 11: several texts in one. -/
import Derived.Test.YtdkjnemakkppfaaT10
import Derived.Test.YtdkjnemakkppfaaT5
import Derived.Test.YtdkjnemakkppfaaT8
import Derived.Test.YtdkjnemakkppfaaT6
import Derived.Test.YtdkjnemakkppfaaT9
import Derived.Test.YtdkjnemakkppfaaT7
import Derived.Test.YtdkjnemakkppfaaT4
import Derived.Test.YtdkjnemakkppfaaT1
import Derived.ProofKit
import Derived.Deep.Slices
import Derived.Deep.Fields
import Derived.ChangeSame
import Derived.ChangeSlices
set_option linter.unusedSimpArgs false
set_option linter.unusedVariables false

/- The search over automata. -/
namespace Go.Proofs.Ytdkjnemakkppfaa
open Go.RowKit Go.BigFrame AG

/-- A list of automata in memory. -/
def AusAt (w : World) (g : Nat) (xs : List Au) : Prop := g < w.heap.size ∧ ∀ i (h : i < xs.length), ∃ A c B d, w.cell? ⟨g, i * 3, none⟩ = some (.int .i64 xs[i].al) ∧
  w.cell? ⟨g, i * 3 + 1, none⟩ = some (.slice A xs[i].nx.length c) ∧ w.cell? ⟨g, i * 3 + 2, none⟩ = some (.slice B xs[i].ac.length d) ∧ AuAt w A c B d xs[i]
theorem AusAt.later {w w' : World} {g : Nat} {xs : List Au} (h : AusAt w g xs) (hb : Below w.heap.size w w') : AusAt w' g xs :=
  ⟨Nat.lt_of_lt_of_le h.1 hb.size, fun i hi => by
    obtain ⟨A, c, B, d, h1, h2, h3, h4⟩ := h.2 i hi
    exact ⟨A, c, B, d, (hb.cell (by simpa using h.1)).trans h1, (hb.cell (by simpa using h.1)).trans h2, (hb.cell (by simpa using h.1)).trans h3, h4.later hb⟩⟩

set_option maxRecDepth 100000 in
set_option maxHeartbeats 4000000 in
theorem l4Sizes_aut (xs : List Au) (g : Nat) (c2 : Value) (lt kd gl : Int) (w : World) (h3 : xs.length ≤ 3) (ha : AusAt w g xs) :
    Calls Try.prog 62 #[netV (.slice none 0 0) (.slice (some ⟨g, 0, none⟩) xs.length xs.length) c2 lt kd gl] w fun e w' => ∃ v, e = .returned v ∧ OwnNats w' w.heap.size v (xs.map fun a => a.nx.length) ∧ Below w.heap.size w w' := by
  obtain ⟨i0, hi, hz0, hz1, hz2⟩ := info_parts infoInt
  obtain ⟨w0, hw0, hzz0, hB0, hSb⟩ := boxed w #[.slice none 0 0, .slice (some ⟨g, 0, none⟩) xs.length xs.length, c2, .int .i64 lt, .int .i64 kd, .int .i64 gl] 84
  have ha0 := hid (ha.later hB0)
  have hSp := hid (fun w' (hb : Below w0.heap.size w0 w') => And.intro (hSb 0 _ rfl w' (hb.mono hzz0)) (hSb 1 _ rfl w' (hb.mono hzz0)))
  have hst0 := hid (OrdSt.new0 w0)
  replace ha := hid ha
  clear hSb
  unfold netV
  go_enter Try.func62, Try.ntmps62
  go_upto_region 2 with fail
  obtain ⟨w1, hw1⟩ : ∃ w1, w0.alloc (.cells #[] 3) = w1 := ⟨_, rfl⟩
  rw [hw1] at hst0 ⊢
  clear hw1 hw0
  obtain ⟨p0, p1⟩ := hSp.out w1 hst0.out.below
  go_wp2_with fail
  go_loopw [3, 4] (fun ov iv wr => ov = .slice (some ⟨w0.heap.size, 0, none⟩) 0 0 ∧ iv = .int .i64 0 ∧ w1 = wr) (fun _ _ _ => 0)
  case atStart => exact ⟨rfl, rfl, by first | rfl | trivial⟩
  case round =>
    obtain ⟨rfl, rfl, rfl⟩ := hrel
    go_wp2_with fail
    clear p0 p1
    go_loopw [3, 5] (fun ov iv wr => ∃ (i : Nat) (out : List Nat) (AO : Option Addr) (cO : Nat), ov = .slice AO out.length cO ∧ iv = .int .i64 (i : Nat) ∧ i ≤ xs.length ∧ out = (xs.take i).map (fun a => a.nx.length) ∧ OrdSt w0 wr (.slice AO out.length cO) out) (fun _ iv _ => xs.length - (intOf iv).toNat)
    case atStart => exact ⟨0, [], _, _, rfl, rfl, Nat.zero_le _, by simp, hst0.out⟩
    case round =>
      clear hst0
      obtain ⟨i, out, AO, cO, rfl, rfl, hi1, hout, hst⟩ := hrel
      have hBm := hst.below
      have hszm := hBm.size
      obtain ⟨p0, p1⟩ := hSp.out wr hBm
      have hol : out.length ≤ 3 := by rw [hout, List.length_map, List.length_take]; omega
      by_cases hil : i < xs.length
      · obtain ⟨A, c, B, d, q0, q1, q2, q3⟩ := (ha0.out.later hBm).2 i hil
        have hsm := hid q3
        obtain ⟨n, hn⟩ : ∃ n, Hid (n = xs[i].nx.length) := ⟨_, hid rfl⟩
        rw [← hn.out] at q1
        have hnx : Hid (out ++ [n] = (xs.take (i + 1)).map (fun a => a.nx.length)) := hid (by rw [List.take_succ_eq_append_getElem hil, List.map_append, ← hout, hn.out]; rfl)
        have k1 : (0 : Int) ≤ (i : Int) ∧ (i : Int) < (xs.length : Int) := by omega
        have hst' := hid hst
        replace hout := hid hout
        clear q0 q2 q3 hst
        go_wp2_with (at_builtin; refine wpList_append_own_at _ rfl _ _ 40 rfl w0.heap.size 3 i0 (.int .i64 0) 1 8 Try.underlying40 hi hz0 hz1 hz2 rfl (by decide) _ _ _ rfl (hst'.out.own.alloc _) ⟨wr.heap.size, 0, none⟩ 1 1 [.int .i64 (n : Nat)] rfl rfl (cell_one_new _ _ _) (by intro u hu; simp at hu; subst hu; rfl) (by unfold maxLen; omega) (by omega) (by first | omega | (simp; omega)) ?_; intro v7 w7 hO7 hg7 _ hat7; obtain ⟨Av7, cv7, ev7, -, -⟩ := own_slice hO7; subst ev7; have hst7 := hid (hst'.out.app (x := n) hg7 hO7); clear hO7 hg7 hat7)
        go_roundw
        case rel => exact ⟨i + 1, out ++ [n], _, _, by rw [List.length_append]; rfl, by go_num, by omega, hnx.out, by have := hst7.out; rw [List.length_append]; exact this⟩
        case measure => simp [intOf]; omega
      · obtain rfl : i = xs.length := by omega
        rw [List.take_length] at hout
        have hfin : Hid (OwnNats wr w.heap.size (.slice AO out.length cO) (xs.map fun a => a.nx.length)) := hid (by rw [← hout]; exact own_base hst.own hB0.size)
        have hB := hB0.trans (hst.below.mono hB0.size)
        replace hst := hid hst
        replace hout := hid hout
        go_wp2_with fail
        go_ret
        exact ⟨_, rfl, hfin.out, hB⟩

set_option maxRecDepth 100000 in
set_option maxHeartbeats 2000000 in
theorem l1Place_any (A : Int) (n : Nat) (hn : n < 6) (w : World) :
    Calls Try.prog 78 #[.int .i64 A, .int .i64 (n : Nat)] w fun e w' => e = .returned (.int .i64 ((lettersTo A n).length : Nat)) ∧ w = w' := by
  go_enter Try.func78, Try.ntmps78
  go_wp2_with fail
  go_loopw [5, 6] (fun cv iv wr => ∃ (k m : Nat), cv = .int .i64 (m : Nat) ∧ iv = .int .i64 (k : Nat) ∧ k ≤ n ∧ m = (lettersTo A k).length ∧ w = wr) (fun _ iv _ => n - (intOf iv).toNat)
  case atStart => exact ⟨0, 0, rfl, rfl, Nat.zero_le _, rfl, by first | rfl | trivial⟩
  case round =>
    obtain ⟨k, m, rfl, rfl, hk, hm, rfl⟩ := hrel
    have hml : m ≤ 6 := by have := lettersTo_len A k; omega
    by_cases hkn : k < n
    · have hnx := hid (lettersTo_succ A k)
      replace hm := hid hm
      go_wp2_with fail
      refine (l1Has_any A k w (by omega) (by omega)).mono ?_
      rintro e w5 ⟨rfl, rfl⟩
      rw [Int.toNat_natCast]
      cases hH : Has A k with
      | true =>
        have hm2 : Hid (m + 1 = (lettersTo A (k + 1)).length) := hid (by rw [hnx.out, hH, if_pos rfl, List.length_append, ← hm.out]; rfl)
        replace hH := hid hH
        go_wp2_with fail
        go_roundw
        case rel => exact ⟨k + 1, m + 1, by go_num, by go_num, by omega, hm2.out, by first | rfl | trivial⟩
        case measure => simp [intOf]; omega
      | false =>
        have hm2 : Hid (m = (lettersTo A (k + 1)).length) := hid (by rw [hnx.out, hH, if_neg (by intro h; cases h), ← hm.out])
        replace hH := hid hH
        go_wp2_with fail
        go_roundw
        case rel => exact ⟨k + 1, m, rfl, by go_num, by omega, hm2.out, by first | rfl | trivial⟩
        case measure => simp [intOf]; omega
    · obtain rfl : k = n := by omega
      replace hm := hid hm
      go_wp2_with fail
      go_ret
      exact ⟨congrArg (fun m : Nat => Ending.returned (.int .i64 (m : Int))) hm.out, by first | rfl | trivial⟩

theorem lettersTo_split {A : Int} {l : Nat} (h : Has A l = true) : ∀ j, ∃ rest, lettersTo A (l + 1 + j) = lettersTo A l ++ l :: rest
  | 0 => ⟨[], by rw [Nat.add_zero, lettersTo_succ, if_pos h]⟩
  | j + 1 => by
    obtain ⟨r, e⟩ := lettersTo_split h j
    rw [← Nat.add_assoc, lettersTo_succ]
    split
    · exact ⟨r ++ [l + 1 + j], by rw [e, List.append_assoc]; rfl⟩
    · exact ⟨r, e⟩
theorem place_idx {A : Int} {l : Nat} (h : l ∈ letters A) : (lettersTo A l).length = (letters A).idxOf l := by
  obtain ⟨h6, hh⟩ := letters_lt h
  obtain ⟨r, e⟩ := lettersTo_split hh (6 - (l + 1))
  rw [show l + 1 + (6 - (l + 1)) = 6 from by omega] at e
  have hno : l ∉ lettersTo A l := fun hm => by
    unfold lettersTo at hm
    rw [List.mem_filter, List.mem_range] at hm
    omega
  unfold letters
  rw [e, List.idxOf_append, if_neg hno]
  simp

set_option maxRecDepth 100000 in
set_option maxHeartbeats 4000000 in
theorem l3Go_any (a : Au) (A B : Option Addr) (c d q l : Nat) (w : World) (hok : auOk a = true) (hq : q < a.nx.length) (hl : l < 6) (ha : AuAt w A c B d a) :
    Calls Try.prog 77 #[a.val A c B d, .int .i64 (q : Nat), .int .i64 (l : Nat)] w fun e w' => e = .returned (.int .i64 (goA a q l : Nat)) ∧ Below w.heap.size w w' := by
  obtain ⟨w0, hw0, hzz0, hB0, hS⟩ := boxed w #[Value.int IntKind.i64 a.al, Value.slice A a.nx.length c, Value.slice B a.ac.length d] 26
  have ha0 := hid (ha.later hB0)
  have p0 := hS 0 _ rfl w0 (Below.refl _ _)
  have hS1 := hid (fun w' (hb : Below w0.heap.size w0 w') => And.intro (hS 0 _ rfl w' (hb.mono hzz0)) (hS 1 _ rfl w' (hb.mono hzz0)))
  have hok' := hid hok
  replace ha := hid ha
  clear hS hok
  unfold AG.Au.val
  go_enter Try.func77, Try.ntmps77
  go_wp2_with fail
  clear hw0
  refine (l1Has_any a.al l w0 (by omega) (by omega)).mono ?_
  rintro e w5 ⟨rfl, rfl⟩
  rw [Int.toNat_natCast]
  cases hH : Has a.al l with
  | false =>
    have hg : Hid (goA a q l = q) := hid (by
      unfold goA
      rw [if_neg]
      intro h
      rw [(letters_lt h).2] at hH
      cases hH)
    replace hH := hid hH
    go_wp2_with fail
    go_ret
    exact ⟨by rw [hg.out]; rfl, hB0⟩
  | true =>
    have hmem : l ∈ letters a.al := by
      unfold letters lettersTo
      rw [List.mem_filter, List.mem_range]
      exact ⟨hl, hH⟩
    obtain ⟨m, hm⟩ : ∃ m, Hid (m = (lettersTo a.al l).length) := ⟨_, hid rfl⟩
    have hmi : m = (letters a.al).idxOf l := by rw [hm.out]; exact place_idx hmem
    have hml : m < (letters a.al).length := by rw [hmi]; exact List.idxOf_lt_length_iff.2 hmem
    have hget : (letters a.al)[m] = l := by
      simp only [hmi]
      exact List.getElem_idxOf _
    obtain ⟨-, hrl0, -⟩ := row_at hok'.out hq
    have hgo := goA_at hok'.out hq hml (by omega)
    rw [hget] at hgo
    obtain ⟨bR, oR, r, Ai, ci, hRe, hbR, hr, hr0, h1, h2, h3⟩ := row_read ha0.out.rows hq
    subst hRe
    have hrl : m < r.length := by rw [hr.out]; omega
    obtain ⟨bi, oi, hie, hbi, hEi⟩ := h3.out (by omega)
    subst hie
    have c0 := hEi m hrl
    rw [show r[m] = ((goA a q l : Nat) : Int) from by rw [hgo]; simp only [hr.out]] at c0
    obtain ⟨G, hG⟩ : ∃ G, Hid (G = goA a q l) := ⟨_, hid rfl⟩
    rw [← hG.out] at c0
    have r0 := hr0.out w0 (Below.refl _ _)
    obtain ⟨p0', p1⟩ := hS1.out w0 (Below.refl _ _)
    have hlw : w.heap.size < w0.heap.size := by omega
    have y0 : ∀ x', (Fam w0.heap.size w0 x').cell? ⟨w.heap.size, 0, none⟩ = some (.int .i64 a.al) := fun x' => by rw [(Fam.below w0.heap.size w0 x').cell (by simpa using hlw)]; exact p0'
    have y1 : ∀ x', (Fam w0.heap.size w0 x').cell? ⟨w.heap.size, 1, none⟩ = some (.slice (some ⟨bR, oR, none⟩) a.nx.length c) := fun x' => by rw [(Fam.below w0.heap.size w0 x').cell (by simpa using hlw)]; exact p1
    have y2 : ∀ x', (Fam w0.heap.size w0 x').cell? ⟨bR, oR + q, none⟩ = some (.slice (some ⟨bi, oi, none⟩) r.length ci) := fun x' => by rw [(Fam.below w0.heap.size w0 x').cell (by simpa using hbR)]; exact r0
    have y3 : ∀ x', (Fam w0.heap.size w0 x').cell? ⟨bi, oi + m, none⟩ = some (.int .i64 (G : Nat)) := fun x' => by rw [(Fam.below w0.heap.size w0 x').cell (by simpa using hbi)]; exact c0
    have k1 : (0 : Int) ≤ (q : Int) ∧ (q : Int) < (a.nx.length : Int) ∧ (0 : Int) ≤ (m : Int) ∧ (m : Int) < (r.length : Int) := by omega
    replace hH := hid hH
    replace hEi := hid hEi
    clear p0 p0' p1 c0 r0 hget hgo hmem hmi hrl0 hml
    go_upto_region 3 with fail
    refine wp_region_grow 12 w0.heap.size w0 (fun _ u _ => u = .int .i64 (m : Nat)) (by kernel_rfl) (by kernel_rfl) (Nat.le_refl _) (Below.refl _ _) ?_
    simp only [List.take_succ_cons, List.take_zero, List.drop_succ_cons, List.drop_zero]
    (repeat (refine grow_quiet (by rfl) (by rfl) (by rfl) ?_; intro K hK; go_big_quiet_op; go_big_quiet_on))
    refine grow_val (.int .i64 (m : Nat)) (by rfl) (by rfl) rfl (fun wq hbq _ => ?_) ?_
    · go_simp
      refine ⟨rfl, (l1Place_any a.al l hl wq).mono ?_⟩
      rintro e w6 ⟨rfl, rfl⟩
      exact ⟨by rw [hm.out], Below.refl _ _⟩
    simp only [Act.put, List.setIfInBounds_toArray, List.set_cons_zero, List.set_cons_succ]
    (repeat (refine grow_quiet (by rfl) (by rfl) (by rfl) ?_; intro K hK; go_big_quiet_op; go_big_quiet_on))
    refine grow_nil ?_
    intro w7 hb7 hf
    clear hf y0 y1 y2 y3
    go_wp2_with fail
    go_ret
    exact ⟨by rw [hG.out]; rfl, hB0.trans (hb7.mono hB0.size)⟩

set_option maxRecDepth 100000 in
set_option maxHeartbeats 4000000 in
theorem l4Choices_aut (xs : List Au) (g : Nat) (c2 : Value) (lt kd gl : Int) (i q l : Nat) (w : World) (h3 : xs.length ≤ 3) (hok : ∀ a ∈ xs, auOk a = true) (hi : i < xs.length) (hq : q < xs[i].nx.length) (hl : l < 6) (ha : AusAt w g xs) :
    Calls Try.prog 76 #[netV (.slice none 0 0) (.slice (some ⟨g, 0, none⟩) xs.length xs.length) c2 lt kd gl, .int .i64 (i : Nat), .int .i64 (q : Nat), .int .i64 (l : Nat)] w fun e w' => ∃ v, e = .returned v ∧ OwnNats w' w.heap.size v [goA xs[i] q l] ∧ Below w.heap.size w w' := by
  obtain ⟨w0, hw0, hzz0, hB0, hSb⟩ := boxed w #[.slice none 0 0, .slice (some ⟨g, 0, none⟩) xs.length xs.length, c2, .int .i64 lt, .int .i64 kd, .int .i64 gl] 84
  have ha0 := ha.later hB0
  obtain ⟨A, c, B, d, q0, q1, q2, q3⟩ := ha0.2 i hi
  have hok' := hid (hok _ (List.getElem_mem hi))
  obtain ⟨a, hae⟩ : ∃ a, Hid (a = xs[i]) := ⟨_, hid rfl⟩
  rw [← hae.out] at q0 q1 q2 q3 hok' hq ⊢
  have hx := hid q3
  have p0 := hSb 0 _ rfl w0 (Below.refl _ _)
  have p1 := hSb 1 _ rfl w0 (Below.refl _ _)
  have k1 : (0 : Int) ≤ (i : Int) ∧ (i : Int) < (xs.length : Int) := by omega
  have k2 : ¬ ((i : Int) < 0) := by omega
  replace ha := hid ha
  replace ha0 := hid ha0
  clear hSb hok q3
  unfold netV
  go_enter Try.func76, Try.ntmps76
  go_wp2_with fail
  refine (l3Go_any a A B c d q l w0 hok'.out hq hl hx.out).mono ?_
  rintro e w5 ⟨rfl, hb5⟩
  have hfin := hid (show OwnNats (w5.alloc (.cells #[.int .i64 (goA a q l : Nat)] 3)) w.heap.size (.slice (some ⟨w5.heap.size, 0, none⟩) 1 1) [goA a q l] from own_base (OrdSt.new w5 (goA a q l)).own (by have := hb5.size; omega))
  have hB := hid ((hB0.trans (hb5.mono hB0.size)).trans (((Below.refl _ _).alloc (Nat.le_refl _) (.cells #[.int .i64 (goA a q l : Nat)] 3)).mono (by have := hb5.size; omega)))
  go_wp2_with fail
  go_ret
  exact ⟨_, rfl, hfin.out, hB.out⟩

end Go.Proofs.Ytdkjnemakkppfaa

/- The search over automata: the goals. -/
namespace Go.Proofs.Ytdkjnemakkppfaa
open Go.RowKit Go.BigFrame AG

set_option maxRecDepth 100000 in
set_option maxHeartbeats 4000000 in
theorem l4Ok_aut (xs : List Au) (g : Nat) (c2 : Value) (lt kd gl : Int) (qs : List Nat) (Aq : Option Addr) (cq i : Nat) (w : World) (h3 : xs.length ≤ 3) (hi : i < xs.length) (hql : qs.length = xs.length) (hq : qs[i]'(by omega) < xs[i].ac.length) (ha : AusAt w g xs) (hr : NatsAt w w.heap.size Aq qs) :
    Calls Try.prog 73 #[netV (.slice none 0 0) (.slice (some ⟨g, 0, none⟩) xs.length xs.length) c2 lt kd gl, .slice Aq qs.length cq, .int .i64 (i : Nat)] w fun e w' => e = .returned (.bool (xs[i].ac[qs[i]'(by omega)])) ∧ Below w.heap.size w w' := by
  obtain ⟨w0, hw0, hzz0, hB0, hSb⟩ := boxed w #[.slice none 0 0, .slice (some ⟨g, 0, none⟩) xs.length xs.length, c2, .int .i64 lt, .int .i64 kd, .int .i64 gl] 84
  obtain ⟨A, c, B, d, q0, q1, q2, q3⟩ := (ha.later hB0).2 i hi
  have hgl := (ha.later hB0).1
  obtain ⟨bQ, oQ, hQe, hbQ, hEQ⟩ := (hr.later hB0) (by omega)
  subst hQe
  have r0 := hEQ i (by omega)
  obtain ⟨q, hqq⟩ : ∃ q, Hid (q = qs[i]'(by omega)) := ⟨_, hid rfl⟩
  obtain ⟨bB, oB, hBe, hbB, hEB⟩ := q3.acc (by omega)
  subst hBe
  have b0 := hEB _ hq
  obtain ⟨t, ht⟩ : ∃ t, Hid (t = xs[i].ac[qs[i]'(by omega)]) := ⟨_, hid rfl⟩
  rw [← ht.out] at b0 ⊢
  obtain ⟨m, hm⟩ : ∃ m, Hid (m = xs[i].ac.length) := ⟨_, hid rfl⟩
  rw [← hm.out] at q2 hq
  rw [← hqq.out] at r0 b0 hq
  have p0 := hSb 0 _ rfl w0 (Below.refl _ _)
  have p1 := hSb 1 _ rfl w0 (Below.refl _ _)
  have hlw : w.heap.size < w0.heap.size := by omega
  have y0 : ∀ x', (Fam w0.heap.size w0 x').cell? ⟨w.heap.size, 0, none⟩ = some (.slice none 0 0) := fun x' => by rw [(Fam.below w0.heap.size w0 x').cell (by simpa using hlw)]; exact p0
  have y1 : ∀ x', (Fam w0.heap.size w0 x').cell? ⟨w.heap.size, 1, none⟩ = some (.slice (some ⟨g, 0, none⟩) xs.length xs.length) := fun x' => by rw [(Fam.below w0.heap.size w0 x').cell (by simpa using hlw)]; exact p1
  have y2 : ∀ x', (Fam w0.heap.size w0 x').cell? ⟨g, i * 3 + 2, none⟩ = some (.slice (some ⟨bB, oB, none⟩) m d) := fun x' => by rw [(Fam.below w0.heap.size w0 x').cell (by simpa using hgl)]; exact q2
  have y3 : ∀ x', (Fam w0.heap.size w0 x').cell? ⟨bQ, oQ + i, none⟩ = some (.int .i64 (q : Nat)) := fun x' => by rw [(Fam.below w0.heap.size w0 x').cell (by simpa using hbQ)]; exact r0
  have y4 : ∀ x', (Fam w0.heap.size w0 x').cell? ⟨bB, oB + q, none⟩ = some (.bool t) := fun x' => by rw [(Fam.below w0.heap.size w0 x').cell (by simpa using hbB)]; exact b0
  have k1 : (0 : Int) ≤ (i : Int) ∧ (i : Int) < (xs.length : Int) ∧ (i : Int) < (qs.length : Int) ∧ (0 : Int) ≤ (q : Int) ∧ (q : Int) < (m : Int) := by omega
  clear hSb p0 p1 q0 q1 q2 q3 r0 b0 hEQ hEB ha hr
  unfold netV
  go_enter Try.func73, Try.ntmps73
  go_upto_region 1 with fail
  (try rw [hw0])
  refine wp_region_fam w0.heap.size w0 (by kernel_rfl) (by kernel_rfl) (Below.refl _ _) ?_
  (repeat (go_big_quiet_step (fail)))
  refine wpQuiet_nil ?_
  intro w5 hw5
  replace hw5 := Fam.out hw5
  clear y0 y1 y2 y3 y4
  go_wp2_with fail
  go_ret
  exact ⟨rfl, hB0.trans (hw5.mono hB0.size)⟩

set_option maxRecDepth 100000 in
set_option maxHeartbeats 4000000 in
theorem l4Found_outside (xs : List Au) (g : Nat) (c2 : Value) (lt gl : Int) (qs : List Nat) (Aq B : Option Addr) (cq n d : Nat) (w : World) (h3 : xs.length ≤ 3) (h2 : 2 ≤ xs.length) (hql : qs.length = xs.length) (hq0 : qs[0]'(by omega) < xs[0].ac.length) (hq1 : qs[1]'(by omega) < xs[1].ac.length) (ha : AusAt w g xs) (hr : NatsAt w w.heap.size Aq qs) :
    Calls Try.prog 64 #[netV (.slice none 0 0) (.slice (some ⟨g, 0, none⟩) xs.length xs.length) c2 lt 2 gl, .slice Aq qs.length cq, .slice B n d] w fun e w' => e = .returned (.bool (xs[0].ac[qs[0]'(by omega)] && !xs[1].ac[qs[1]'(by omega)])) ∧ Below w.heap.size w w' := by
  obtain ⟨w0, hw0, hzz0, hB0, hSb⟩ := boxed w #[.slice none 0 0, .slice (some ⟨g, 0, none⟩) xs.length xs.length, c2, .int .i64 lt, .int .i64 2, .int .i64 gl] 84
  have k0 := hid fun w' (hb : Below w0.heap.size w0 w') => l4Ok_aut xs g c2 lt 2 gl qs Aq cq 0 w' h3 (by omega) hql hq0 (ha.later (hB0.trans (hb.mono hB0.size))) (hr.later (hB0.trans (hb.mono hB0.size)))
  have k1 := hid fun w' (hb : Below w0.heap.size w0 w') => l4Ok_aut xs g c2 lt 2 gl qs Aq cq 1 w' h3 (by omega) hql hq1 (ha.later (hB0.trans (hb.mono hB0.size))) (hr.later (hB0.trans (hb.mono hB0.size)))
  obtain ⟨s, hs⟩ : ∃ s, Hid (s = xs[0].ac[qs[0]'(by omega)]) := ⟨_, hid rfl⟩
  obtain ⟨t, ht⟩ : ∃ t, Hid (t = xs[1].ac[qs[1]'(by omega)]) := ⟨_, hid rfl⟩
  rw [← hs.out] at k0 ⊢
  rw [← ht.out] at k1 ⊢
  clear hs ht hq0 hq1
  have hSp := hid (fun w' (hb : Below w0.heap.size w0 w') => And.intro (And.intro (hSb 0 _ rfl w' (hb.mono hzz0)) (And.intro (hSb 1 _ rfl w' (hb.mono hzz0)) (hSb 2 _ rfl w' (hb.mono hzz0)))) (And.intro (hSb 3 _ rfl w' (hb.mono hzz0)) (And.intro (hSb 4 _ rfl w' (hb.mono hzz0)) (hSb 5 _ rfl w' (hb.mono hzz0)))))
  obtain ⟨⟨p0, p1, p2⟩, p3, p4, p5⟩ := hSp.out w0 (Below.refl _ _)
  replace ha := hid ha
  replace hr := hid hr
  replace hql := hid hql
  clear hSb
  unfold netV at k0 k1 ⊢
  go_enter Try.func64, Try.ntmps64
  go_wp2_with fail
  clear hw0
  refine (k0.out w0 (Below.refl _ _)).mono ?_
  rintro e w1 ⟨rfl, hb1⟩
  clear p0 p1 p2 p3 p4 p5
  obtain ⟨⟨p0, p1, p2⟩, p3, p4, p5⟩ := hSp.out w1 hb1
  cases s with
  | false =>
    go_wp2_with fail
    go_ret
    exact ⟨by first | rfl | trivial, hB0.trans (hb1.mono hB0.size)⟩
  | true =>
    go_wp2_with fail
    refine (k1.out w1 hb1).mono ?_
    rintro e w2 ⟨rfl, hb2⟩
    go_wp2_with fail
    go_ret
    exact ⟨by first | rfl | simp, (hB0.trans (hb1.mono hB0.size)).trans (hb2.mono (by have := hB0.size; have := hb1.size; omega))⟩

end Go.Proofs.Ytdkjnemakkppfaa

/- The search over two automata: plain, and its contracts. -/
namespace Go.Proofs.Ytdkjnemakkppfaa
open Go.RowKit Go.BigFrame AG

/- Two ways to write the steps that agree on the nodes below N. -/
theorem RW_cong {I : Nat → Prop} {L : List Nat} {nx nx' : Nat → Nat → List Nat} {N : Nat} (h : ∀ n, n < N → ∀ l ∈ L, nx n l = nx' n l ∧ ∀ m ∈ nx n l, m < N) (hI : ∀ n, I n → n < N) : ∀ (r : List Nat) (n : Nat), RW I L nx r n → n < N ∧ RW I L nx' r n
  | [], n, hn => ⟨hI n hn, hn⟩
  | l :: r, n, hn => by
    obtain ⟨hl, m, hm, hx⟩ := hn
    obtain ⟨h1, h2⟩ := RW_cong h hI r m hm
    obtain ⟨e, hlt⟩ := h m h1 l hl
    exact ⟨hlt n hx, hl, m, h2, by rw [← e]; exact hx⟩
theorem PathPost_cong {I : Nat → Prop} {L : List Nat} {nx nx' : Nat → Nat → List Nat} {N : Nat} {G G' : Nat → Prop} (h : ∀ n, n < N → ∀ l ∈ L, nx n l = nx' n l ∧ ∀ m ∈ nx n l, m < N) (hI : ∀ n, I n → n < N) (hG : ∀ n, n < N → (G n ↔ G' n)) {o : Option (List Nat)} (hp : PathPost I L nx G o) : PathPost I L nx' G' o := by
  have h' : ∀ n, n < N → ∀ l ∈ L, nx' n l = nx n l ∧ ∀ m ∈ nx' n l, m < N := fun n hn l hl => ⟨((h n hn l hl).1).symm, by rw [← (h n hn l hl).1]; exact (h n hn l hl).2⟩
  cases o with
  | none =>
    intro q n hq hg
    obtain ⟨h1, h2⟩ := RW_cong h' hI q n hq
    exact hp q n h2 ((hG n h1).2 hg)
  | some r =>
    obtain ⟨⟨n, hn, hg⟩, h2⟩ := hp
    obtain ⟨k1, k2⟩ := RW_cong h hI r n hn
    refine ⟨⟨n, k2, (hG n k1).1 hg⟩, fun q m hq hg' => ?_⟩
    obtain ⟨j1, j2⟩ := RW_cong h' hI q m hq
    exact h2 q m j2 ((hG m j1).2 hg')

/-- The states to which a letter leads a member of a list of automata. -/
def chA (xs : List Au) (i q l : Nat) : List Nat := match xs[i]? with | some a => [goA a q l] | none => []
theorem chA_at {xs : List Au} {i : Nat} (h : i < xs.length) (q l : Nat) : chA xs i q l = [goA xs[i] q l] := by unfold chA; rw [List.getElem?_eq_getElem h]
theorem decS_two {m n : Nat} (k : Nat) : decS [m, n] k = [k / n % m, k % n] := by simp [decS, prodL]
theorem nxN_two {a b : Au} {n : Nat} (hn : n < a.nx.length * b.nx.length) (l : Nat) : nxN [a.nx.length, b.nx.length] (chA [a, b]) n l = [goB a b n l] := by
  have h1 : n / b.nx.length < a.nx.length := Nat.div_lt_of_lt_mul (by rw [Nat.mul_comm]; exact hn)
  unfold nxN
  rw [decS_two]
  simp [nxK, stepN, chA, goB, Nat.mod_eq_of_lt h1]
theorem doub_of_net {a b : Au} (ha : auOk a = true) (hb : auOk b = true) {g : Bool → Bool → Bool} {o : Option (List Nat)} (h : PathPost (fun m => m ∈ [encK [a.nx.length, b.nx.length] [0, 0] 2]) (letters a.al) (nxN [a.nx.length, b.nx.length] (chA [a, b])) (fun n => goalB a b g n = true) o) : DoubP a b g 0 o := by
  obtain ⟨-, h1, -⟩ := (auOk_iff a).1 ha
  obtain ⟨-, h2, -⟩ := (auOk_iff b).1 hb
  rw [encK_zero (by intro q hq; simpa using hq)] at h
  refine PathPost_cong (N := a.nx.length * b.nx.length) (fun n hn l _ => ⟨nxN_two hn l, fun m hm => ?_⟩) (fun n hn => ?_) (fun n _ => Iff.rfl) h
  · rw [nxN_two hn l] at hm
    rw [List.mem_singleton.1 hm]
    exact goB_lt ha hb hn
  · rw [List.mem_singleton.1 hn]
    exact Nat.mul_pos h1 h2

theorem netOk_aut (xs : List Au) (g : Nat) (c2 : Value) (lt kd gl : Int) (w : World) (h3 : xs.length ≤ 3) (hok : ∀ a ∈ xs, auOk a = true) (ha : AusAt w g xs) :
    NetOk w (netV (.slice none 0 0) (.slice (some ⟨g, 0, none⟩) xs.length xs.length) c2 lt kd gl) (xs.map fun a => a.nx.length) (chA xs) := by
  have hat : ∀ {i}, i < xs.length → (xs.map fun a => a.nx.length).getD i 1 = (xs[i]?.getD ⟨0, [], []⟩).nx.length := fun {i} hi => by
    rw [List.getD_eq_getElem?_getD, List.getElem?_map, List.getElem?_eq_getElem hi]
    rfl
  refine ⟨by rw [List.length_map]; exact h3, fun n hn => ?_, fun i q l => ?_, fun i hi q hq l x hx => ?_, fun w' i q l hb hi hq hl => ?_⟩
  · obtain ⟨a, hm, rfl⟩ := List.mem_map.1 hn
    obtain ⟨-, h1, h2, -⟩ := (auOk_iff a).1 (hok a hm)
    exact ⟨h1, by omega⟩
  · unfold chA
    split <;> simp
  · rw [List.length_map] at hi
    rw [hat hi, List.getElem?_eq_getElem hi, Option.getD_some] at hq ⊢
    rw [chA_at hi, List.mem_singleton] at hx
    rw [hx]
    exact goA_lt (hok _ (List.getElem_mem hi)) hq
  · rw [List.length_map] at hi
    rw [hat hi, List.getElem?_eq_getElem hi, Option.getD_some] at hq
    rw [chA_at hi]
    exact l4Choices_aut xs g c2 lt kd gl i q l w' h3 hok hi hq hl (ha.later hb)

end Go.Proofs.Ytdkjnemakkppfaa

/- The reference's search over two automata. -/
namespace Go.Proofs.Ytdkjnemakkppfaa
open Go.RowKit Go.BigFrame AG

theorem AusAt.two {w : World} {g : Nat} {a b : Au} {A B A' B' : Option Addr} {c d c' d' : Nat} (h : Blk w g 26 #[.int .i64 a.al, .slice A a.nx.length c, .slice B a.ac.length d, .int .i64 b.al, .slice A' b.nx.length c', .slice B' b.ac.length d']) (ha : AuAt w A c B d a) (hb : AuAt w A' c' B' d' b) : AusAt w g [a, b] :=
  ⟨h.lt, fun i hi => match i, hi with
    | 0, _ => ⟨A, c, B, d, h.cell 0, h.cell 1, h.cell 2, ha⟩
    | 1, _ => ⟨A', c', B', d', h.cell 3, h.cell 4, h.cell 5, hb⟩
    | i + 2, hi => absurd hi (by simp)⟩
theorem goalB_at {a b : Au} (g : Bool → Bool → Bool) (ha : auOk a = true) (hb : auOk b = true) {n : Nat} (hn : n < a.nx.length * b.nx.length) : ∃ (h1 : n / b.nx.length % a.nx.length < a.ac.length) (h2 : n % b.nx.length < b.ac.length), goalB a b g n = g (a.ac[n / b.nx.length % a.nx.length]) (b.ac[n % b.nx.length]) := by
  obtain ⟨-, -, -, e1, -⟩ := (auOk_iff a).1 ha
  obtain ⟨-, h0, -, e2, -⟩ := (auOk_iff b).1 hb
  have h1 : n / b.nx.length < a.nx.length := Nat.div_lt_of_lt_mul (by rw [Nat.mul_comm]; exact hn)
  have h2 : n % b.nx.length < b.nx.length := Nat.mod_lt _ h0
  have e3 := Nat.mod_eq_of_lt h1
  refine ⟨by omega, by omega, ?_⟩
  unfold goalB
  rw [List.getD_eq_getElem?_getD, List.getD_eq_getElem?_getD, List.getElem?_eq_getElem (by omega), List.getElem?_eq_getElem (by omega)]
  simp only [e3, Option.getD_some]

set_option maxRecDepth 100000 in
set_option maxHeartbeats 4000000 in
theorem l4Two_any (a b : Au) (A B A' B' : Option Addr) (c d c' d' : Nat) (w : World) (ha : AuAt w A c B d a) (hb : AuAt w A' c' B' d' b) :
    Calls Try.prog 41 #[a.val A c B d, b.val A' c' B' d'] w fun e w' => e = .returned (.bool (cmpAu a b)) ∧ Below w.heap.size w w' := by
  obtain ⟨w0, hw0, hz0, hB0, hS, hU⟩ := boxed2 w #[Value.int IntKind.i64 a.al, Value.slice A a.nx.length c, Value.slice B a.ac.length d] 26 #[Value.int IntKind.i64 b.al, Value.slice A' b.nx.length c', Value.slice B' b.ac.length d'] 26
  have ha0 := hid (ha.later hB0)
  have hb0 := hid (hb.later hB0)
  have p0 := hS 0 _ rfl _ (Below.refl _ _)
  have p1 := hS 1 _ rfl _ (Below.refl _ _)
  have p2 := hS 2 _ rfl _ (Below.refl _ _)
  replace ha := hid ha
  replace hb := hid hb
  unfold AG.Au.val
  go_enter Try.func41, Try.ntmps41
  go_wp2_with fail
  refine (specAutomatonValid_any a A B c d w0 ha0.out).mono ?_
  rintro e w1 ⟨rfl, hb1⟩
  clear p0 p1 p2
  have hB1 := hB0.trans (hb1.mono hB0.size)
  have hC1 := hb1.mono hz0
  cases hca : auOk a
  · have hfin : Hid (cmpAu a b = false) := hid (by unfold cmpAu; rw [hca]; rfl)
    replace hca := hid hca
    go_wp2_with fail
    go_ret
    exact ⟨ret_bool (by rw [hfin.out]), hB1⟩
  have q0 := hU 0 _ rfl _ hC1
  have q1 := hU 1 _ rfl _ hC1
  have q2 := hU 2 _ rfl _ hC1
  have hfin : Hid (cmpAu a b = (auOk b && decide (a.al = b.al))) := hid (by unfold cmpAu; rw [hca]; rfl)
  replace hca := hid hca
  go_wp2_with fail
  refine (specAutomatonValid_any b A' B' c' d' w1 (hb0.out.later hb1)).mono ?_
  rintro e w2 ⟨rfl, hb2⟩
  clear q0 q1 q2
  have hB2 := hB1.trans (hb2.mono hB1.size)
  have hC2 := hC1.trans (hb2.mono (by have := hC1.size; omega))
  cases hcb : auOk b
  · have hcb' := hid hcb
    go_wp2_with fail
    go_ret
    exact ⟨ret_bool (by rw [hfin.out, hcb]; rfl), hB2⟩
  have p0 := hS 0 _ rfl _ hC2
  have q0 := hU 0 _ rfl _ hC2
  obtain ⟨t, ht⟩ : ∃ t, (a.al == b.al) = t := ⟨_, rfl⟩
  have htt : Hid (decide (a.al = b.al) = t) := hid (by rw [← ht]; rfl)
  replace hcb := hid hcb
  go_wp2_with fail
  go_ret
  exact ⟨ret_bool (by rw [hfin.out, hcb.out, htt.out, Bool.true_and]), hB2⟩



theorem srch_FirstOutside (a b : Au) (g : Nat) (AS : Option Addr) (cS : Nat) (lt gl : Int) (w : World) (hok1 : auOk a = true) (hok2 : auOk b = true) (ha : AusAt w g [a, b]) :
    SrchNet w (netV (.slice none 0 0) (.slice (some ⟨g, 0, none⟩) 2 2) (.slice AS 2 cS) lt 2 gl) lt [a.nx.length, b.nx.length] (chA [a, b]) (goalB a b fun x y => x && !y) := by
  have hok : ∀ x ∈ [a, b], auOk x = true := fun x hx => by
    rcases List.mem_cons.1 hx with rfl | hx
    · exact hok1
    · rw [List.mem_singleton.1 hx]; exact hok2
  refine ⟨netOk_aut [a, b] g _ lt 2 gl w (by simp) hok ha, fun w' hb => l4Sizes_aut [a, b] g _ lt 2 gl w' (by simp) (ha.later hb), fun w' n A c B d hb hn _ _ _ _ h1 _ => ?_⟩
  obtain ⟨q1, q2, e⟩ := goalB_at (fun x y => x && !y) hok1 hok2 (n := n) (by simpa [prodL] using hn)
  rw [e]
  rw [decS_two] at h1
  exact l4Found_outside [a, b] g _ lt gl [n / b.nx.length % a.nx.length, n % b.nx.length] A B c (letters lt).length d w' (by simp) (by simp) (by simp) q1 q2 (ha.later hb) h1

set_option maxRecDepth 100000 in
set_option maxHeartbeats 4000000 in
theorem specFirstOutside_any (a b : Au) (A B A' B' : Option Addr) (c d c' d' : Nat) (w : World) (ha : AuAt w A c B d a) (hb : AuAt w A' c' B' d' b) :
    Calls Try.prog 40 #[a.val A c B d, b.val A' c' B' d'] w (FoundPost a b (fun x y => x && !y) w) := by
  obtain ⟨w0, hw0, hz0, hB0, hS, hU⟩ := boxed2 w #[Value.int IntKind.i64 a.al, Value.slice A a.nx.length c, Value.slice B a.ac.length d] 26 #[Value.int IntKind.i64 b.al, Value.slice A' b.nx.length c', Value.slice B' b.ac.length d'] 26
  have ha0 := hid (ha.later hB0)
  have hb0 := hid (hb.later hB0)
  have p0 := hS 0 _ rfl _ (Below.refl _ _)
  have p1 := hS 1 _ rfl _ (Below.refl _ _)
  have p2 := hS 2 _ rfl _ (Below.refl _ _)
  have q0 := hU 0 _ rfl _ (Below.refl _ _)
  have q1 := hU 1 _ rfl _ (Below.refl _ _)
  have q2 := hU 2 _ rfl _ (Below.refl _ _)
  replace ha := hid ha
  replace hb := hid hb
  unfold AG.Au.val
  go_enter Try.func40, Try.ntmps40
  go_wp2_with fail
  refine (l4Two_any a b A B A' B' c d c' d' w0 ha0.out hb0.out).mono ?_
  rintro e w1 ⟨rfl, hb1⟩
  have hB1 := hB0.trans (hb1.mono hB0.size)
  have hC1 := hb1.mono hz0
  clear p0 p1 p2 q0 q1 q2
  cases hc : cmpAu a b
  · have hc' := hid hc
    clear hc
    go_wp2_with fail
    go_ret2
    exact ⟨none, rfl, ⟨fun h => (by rw [hc'.out] at h; cases h), fun _ => rfl⟩, hB1⟩
  obtain ⟨k1, k2, k3⟩ := cmpAu_parts hc
  have hc' := hid hc
  clear hc
  replace k1 := hid k1
  replace k2 := hid k2
  replace k3 := hid k3
  have ha1 := hid (ha0.out.later hb1)
  have hb1' := hid (hb0.out.later hb1)
  have p0 := hS 0 _ rfl _ hC1
  have p1 := hS 1 _ rfl _ hC1
  have p2 := hS 2 _ rfl _ hC1
  have q0 := hU 0 _ rfl _ hC1
  have q1 := hU 1 _ rfl _ hC1
  have q2 := hU 2 _ rfl _ hC1
  have hlw : w.heap.size < w1.heap.size ∧ w.heap.size + 1 < w1.heap.size := by have := hC1.size; have := hB0.size; omega
  obtain ⟨hlw1, hlw2⟩ := hlw
  go_wp2_with fail
  obtain ⟨W, hW⟩ : ∃ W, (w1.alloc (.cells #[.int .i64 a.al, .slice A a.nx.length c, .slice B a.ac.length d, .int .i64 b.al, .slice A' b.nx.length c', .slice B' b.ac.length d'] 26)).alloc (.cells #[.int .i64 0, .int .i64 0] 3) = W := ⟨_, rfl⟩
  rw [hW]
  have hbW : Below w1.heap.size w1 W := by rw [← hW]; exact ((Below.refl _ _).alloc (Nat.le_refl _) _).alloc (by simp) _
  have hblk : Blk W w1.heap.size 26 #[.int .i64 a.al, .slice A a.nx.length c, .slice B a.ac.length d, .int .i64 b.al, .slice A' b.nx.length c', .slice B' b.ac.length d'] := by rw [← hW]; exact (Blk.new _ _ _).alloc _
  have hblk2 : Blk W (w1.heap.size + 1) 3 #[.int .i64 0, .int .i64 0] := by rw [← hW]; simpa using Blk.new (w1.alloc (.cells #[.int .i64 a.al, .slice A a.nx.length c, .slice B a.ac.length d, .int .i64 b.al, .slice A' b.nx.length c', .slice B' b.ac.length d'] 26)) 3 #[.int .i64 0, .int .i64 0]
  have hS := srch_FirstOutside a b w1.heap.size (some ⟨w1.heap.size + 1, 0, none⟩) 2 a.al 0 W k1.out k2.out (AusAt.two hblk (ha1.out.later hbW) (hb1'.out.later hbW))
  have hqs : NatsAt W W.heap.size (some ⟨w1.heap.size + 1, 0, none⟩) [0, 0] := fun _ => ⟨w1.heap.size + 1, 0, rfl, hblk2.lt, fun i hi => match i, hi with
    | 0, _ => hblk2.cell 0
    | 1, _ => hblk2.cell 1
    | i + 2, hi => absurd hi (by simp)⟩
  have z1 := ((auOk_iff a).1 k1.out).2.1
  have z2 := ((auOk_iff b).1 k2.out).2.1
  refine (l4First_any (.slice none 0 0) (.slice (some ⟨w1.heap.size, 0, none⟩) 2 2) a.al 2 0 [a.nx.length, b.nx.length] [0, 0] (chA [a, b]) (goalB a b fun x y => x && !y) (some ⟨w1.heap.size + 1, 0, none⟩) 2 W hS rfl (by decide) (by decide) (fun i hi => match i, hi with
    | 0, _ => z1
    | 1, _ => z2
    | i + 2, hi => absurd hi (by simp)) hqs).mono ?_
  rintro e w2 ⟨o, rfl, hout, hb2⟩
  replace hout := doub_of_net k1.out k2.out hout
  replace hb2 := hbW.trans (hb2.mono hbW.size)
  clear hS hqs hblk hblk2 hbW hW z1 z2
  obtain ⟨Sv, Fv, hpv⟩ : ∃ Sv Fv, pathV o = .tuple #[.string Sv, .bool Fv] := ⟨_, _, rfl⟩
  rw [hpv]
  have hpv' := hid hpv
  replace hout := hid hout
  have hB2 := hB1.trans (hb2.mono hB1.size)
  clear hpv p0 p1 p2 q0 q1 q2
  go_wp2_with fail
  go_ret2
  exact ⟨o, by rw [hpv'.out]; rfl, ⟨fun _ => hout.out, fun h => (by rw [hc'.out] at h; cases h)⟩, hB2⟩


set_option maxRecDepth 100000 in
set_option maxHeartbeats 4000000 in
theorem specLanguageWithin_any (a b : Au) (A B A' B' : Option Addr) (c d c' d' : Nat) (w : World) (ha : AuAt w A c B d a) (hb : AuAt w A' c' B' d' b) :
    Calls Try.prog 19 #[a.val A c B d, b.val A' c' B' d'] w (fun e w' => ∃ o, e = .returned (.bool (cmpAu a b && !o.isSome)) ∧ FoundP a b (fun x y => x && !y) o ∧ Below w.heap.size w w') := by
  obtain ⟨w0, hw0, hz0, hB0, hS, hU⟩ := boxed2 w #[Value.int IntKind.i64 a.al, Value.slice A a.nx.length c, Value.slice B a.ac.length d] 26 #[Value.int IntKind.i64 b.al, Value.slice A' b.nx.length c', Value.slice B' b.ac.length d'] 26
  have ha0 := hid (ha.later hB0)
  have hb0 := hid (hb.later hB0)
  have p0 := hS 0 _ rfl _ (Below.refl _ _)
  have p1 := hS 1 _ rfl _ (Below.refl _ _)
  have p2 := hS 2 _ rfl _ (Below.refl _ _)
  have q0 := hU 0 _ rfl _ (Below.refl _ _)
  have q1 := hU 1 _ rfl _ (Below.refl _ _)
  have q2 := hU 2 _ rfl _ (Below.refl _ _)
  replace ha := hid ha
  replace hb := hid hb
  unfold AG.Au.val
  go_enter Try.func19, Try.ntmps19
  go_wp2_with fail
  refine (specFirstOutside_any a b A B A' B' c d c' d' w0 ha0.out hb0.out).mono ?_
  rintro e w1 ⟨o, rfl, hf, hb1⟩
  obtain ⟨Sv, Fv, hpv, hFv⟩ : ∃ Sv Fv, pathV o = .tuple #[.string Sv, .bool Fv] ∧ Fv = o.isSome := ⟨_, _, rfl, rfl⟩
  rw [hpv]
  have hB1 := hB0.trans (hb1.mono hB0.size)
  have hC1 := hb1.mono hz0
  replace hf := hid hf
  replace hFv := hid hFv
  clear p0 p1 p2 q0 q1 q2 hpv
  have p0 := hS 0 _ rfl _ hC1
  have p1 := hS 1 _ rfl _ hC1
  have p2 := hS 2 _ rfl _ hC1
  have q0 := hU 0 _ rfl _ hC1
  have q1 := hU 1 _ rfl _ hC1
  have q2 := hU 2 _ rfl _ hC1
  go_wp2_with fail
  refine (l4Two_any a b A B A' B' c d c' d' w1 (ha0.out.later hb1) (hb0.out.later hb1)).mono ?_
  rintro e w2 ⟨rfl, hb2⟩
  have hB2 := hB1.trans (hb2.mono hB1.size)
  clear p0 p1 p2 q0 q1 q2
  obtain ⟨cb, hcb⟩ : ∃ cb, Hid (cb = cmpAu a b) := ⟨_, hid rfl⟩
  rw [← hcb.out]
  cases cb
  · go_wp2_with fail
    go_ret
    exact ⟨o, ret_bool (by rw [← hcb.out, ← hFv.out]; simp), hf.out, hB2⟩
  · go_wp2_with fail
    go_ret
    exact ⟨o, ret_bool (by rw [← hcb.out, ← hFv.out]; simp), hf.out, hB2⟩

end Go.Proofs.Ytdkjnemakkppfaa

/- IsPrefixClosed of the program and of the reference. -/
namespace Go.Proofs.Ytdkjnemakkppfaa
open Go.RowKit Go.BigFrame Go.Maps AG

def DeadTo (b : Au) (i : Nat) : Prop := ∀ j, ∀ (hj : j < b.nx.length), j < i → b.ac.getD j false = false → ∀ T ∈ b.nx[j], ¬ leadsP b T.toNat
set_option maxRecDepth 100000 in
set_option maxHeartbeats 8000000 in
theorem implIsPrefixClosed_pc (a : Au) (A B : Option Addr) (c d : Nat) (w : World) (ha : AuAt w A c B d a) :
    Calls Try.prog 5 #[a.val A c B d] w fun e w' => e = .returned (.bool (pcB a)) ∧ Below w.heap.size w w' := by
  obtain ⟨w0, hw0, hz0, hB0, hS⟩ := boxed w #[Value.int IntKind.i64 a.al, Value.slice A a.nx.length c, Value.slice B a.ac.length d] 26
  have ha0 := hid (ha.later hB0)
  have p0 := hS 0 _ rfl _ (Below.refl _ _)
  have p1 := hS 1 _ rfl _ (Below.refl _ _)
  have p2 := hS 2 _ rfl _ (Below.refl _ _)
  replace ha := hid ha
  unfold AG.Au.val
  go_enter Try.func5, Try.ntmps5
  go_wp2_with fail
  refine (implAutomatonValid_any a A B c d w0 ha0.out).mono ?_
  rintro e w1 ⟨rfl, hb1⟩
  have hB1 := hB0.trans (hb1.mono hB0.size)
  have hz1 := hb1.size
  clear p0 p1 p2 hw0
  have p0 := hS 0 _ rfl _ (hb1.mono hz0)
  have p1 := hS 1 _ rfl _ (hb1.mono hz0)
  have p2 := hS 2 _ rfl _ (hb1.mono hz0)
  cases hok : auOk a
  · have hno := hid (pcB_bad hok)
    replace hok := hid hok
    go_wp2
    go_ret
    exact ⟨ret_bool (by rw [hno.out]), hB1⟩
  obtain ⟨x, hx⟩ := trimOpt_some hok
  have hpc := hid (pcD_eq hok)
  have hokb := trimA_ok hok
  obtain ⟨b, hb⟩ : ∃ b, Hid (b = trimA a) := ⟨_, hid rfl⟩
  have hbal : Hid (b.al = a.al) := hid (by rw [hb.out]; exact trimA_al hok)
  rw [← hb.out] at hokb
  have hn12 : b.nx.length ≤ 12 := ((auOk_iff b).1 hokb).2.2.1
  have hn3 := hid ((auOk_iff b).1 hokb).2.2.2.1
  have hrs := hid ((auOk_iff b).1 hokb).2.2.2.2
  replace hokb := hid hokb
  have hok' := hid hok
  clear hok
  replace hx := hid hx
  go_wp2_with fail
  refine (trim_any a A B c d x w1 hok'.out hx.out (ha0.out.later hb1)).mono ?_
  rintro e w2 ⟨hb2, v1, v2, xs, rfl, hau⟩
  rw [← hb.out] at hau
  obtain ⟨A', c', B', d', rfl, rfl, hat⟩ := hau.at_
  have hB2 := hB1.trans (hb2.mono hB1.size)
  have hz2 := hb2.size
  replace hat := hid hat
  clear hau p0 p1 p2 hS
  go_upto_region 4 with fail
  obtain ⟨w3, hw3, hz3, hB3', hS⟩ := boxed w2 #[.int .i64 a.al, .slice A' b.nx.length c', .slice B' b.ac.length d'] 26
  rw [hw3]
  clear hw3
  have hB3 := hB2.trans (hB3'.mono hB2.size)
  have hat3 := hid (hat.out.later hB3')
  have hS1 := hid (fun w' (hb : Below w3.heap.size w3 w') => hS 1 _ rfl w' (hb.mono hz3))
  have hSall := hid (fun w' (hb : Below w3.heap.size w3 w') => (⟨hS 0 _ rfl w' (hb.mono hz3), hS 1 _ rfl w' (hb.mono hz3), hS 2 _ rfl w' (hb.mono hz3)⟩ : _ ∧ _ ∧ _))
  have p1 := hS1.out w3 (Below.refl _ _)
  clear hS
  go_wp2_with fail
  go_loopw [16] (fun iv wr => ∃ i : Nat, iv = .int .i64 (i : Nat) ∧ i ≤ b.nx.length ∧ DeadTo b i ∧ Below w3.heap.size w3 wr) (fun iv _ => b.nx.length - (intOf iv).toNat)
  case atStart => exact ⟨0, rfl, Nat.zero_le _, fun j hj h => absurd h (Nat.not_lt_zero j), Below.refl _ _⟩
  case round =>
    clear p1
    obtain ⟨i, rfl, hi, hdt, hBm⟩ := hrel
    replace hdt := hid hdt
    obtain ⟨wo, rfl⟩ : ∃ wo : World, wo = wr := ⟨_, rfl⟩
    by_cases hlt : i < b.nx.length
    · obtain ⟨bR, oR, hA1, hbR, hER⟩ := hat3.out.rows (by omega)
      obtain ⟨Ai, ci, e1, e2, e3, e4⟩ := hER i hlt
      subst hA1
      have a0 := (hBm.cell (p := ⟨bR, oR + i, none⟩) (by simpa using hbR)).trans e1
      have hrow := hid (hrs.out _ (List.getElem_mem hlt))
      obtain ⟨r, hr⟩ : ∃ r, Hid (r = b.nx[i]) := ⟨_, hid rfl⟩
      rw [← hr.out] at a0 e2 e4 hrow
      have k1 : (0 : Int) ≤ (i : Int) ∧ (i : Int) < (b.nx.length : Int) := by omega
      have hia : i < b.ac.length := by have := hn3.out; omega
      replace hER := hid hER
      replace e4 := hid e4
      replace hr := hid hr
      clear e1
      go_wp2_with fail
      go_loopw [23] (fun kv wr => ∃ k : Nat, kv = .int .i64 (k : Nat) ∧ k ≤ r.length ∧ (b.ac.getD i false = false → ∀ T ∈ r.take k, ¬ leadsP b T.toNat) ∧ Below wo.heap.size wo wr) (fun kv _ => r.length - (intOf kv).toNat)
      case atStart => exact ⟨0, rfl, Nat.zero_le _, fun _ T hT => (by simp at hT), Below.refl _ _⟩
      case round =>
        clear a0
        obtain ⟨k, rfl, hk, hrt, hBk⟩ := hrel
        replace hrt := hid hrt
        have hB3k := hBm.trans (hBk.mono hBm.size)
        by_cases hkl : k < r.length
        · obtain ⟨bI, oI, hAi, hbI, hEI⟩ := e4.out (by omega)
          subst hAi
          have b0 := (hB3k.cell (p := ⟨bI, oI + k, none⟩) (by simpa using hbI)).trans (hEI k hkl)
          obtain ⟨T, hT⟩ : ∃ T, Hid (T = r[k].toNat) := ⟨_, hid rfl⟩
          have hrk := hrow.out.2 r[k] (List.getElem_mem hkl)
          have hTi : r[k] = ((T : Nat) : Int) := by rw [hT.out]; omega
          rw [hTi] at b0
          have hTn : T < b.nx.length := by omega
          obtain ⟨bB, oB, hB', hbB, hEB⟩ := hat3.out.acc (by omega)
          subst hB'
          have c0 := (hB3k.cell (p := ⟨bB, oB + i, none⟩) (by simpa using hbB)).trans (hEB i hia)
          obtain ⟨t, ht⟩ : ∃ t, Hid (t = b.ac[i]) := ⟨_, hid rfl⟩
          rw [← ht.out] at c0
          obtain ⟨p0, p1, p2⟩ := hSall.out wr hB3k
          have k2 : (0 : Int) ≤ (k : Int) ∧ (k : Int) < (r.length : Int) ∧ (i : Int) < (b.ac.length : Int) := by omega
          have hgd : Hid (b.ac.getD i false = t) := hid (by rw [List.getD_eq_getElem?_getD, List.getElem?_eq_getElem hia, Option.getD_some, ht.out])
          replace hEI := hid hEI
          replace hEB := hid hEB
          replace hTi := hid hTi
          replace hrk := hid hrk
          cases t
          case true =>
            go_wp2_with fail
            go_roundw
            case rel => exact ⟨k + 1, by go_num, by omega, fun h => absurd (hgd.out.symm.trans h) (by decide), hBk⟩
            case measure => simp [intOf]; omega
          case false =>
            have hL := leadsToAccepting_any b _ _ c' d' T wr hokb.out hTn (hat3.out.later hB3k)
            unfold AG.Au.val at hL
            rw [hbal.out] at hL
            replace hL := hid hL
            go_wp2_with fail
            refine hL.out.mono ?_
            rintro e w5 ⟨t', rfl, hiff, hb5⟩
            have hBk5 := hBk.trans (hb5.mono hBk.size)
            clear p0 p1 p2 b0 c0 hL
            cases t'
            case true =>
              have hno : Hid (pcB a = false) := hid (by
                rw [← hpc.out]
                refine Bool.eq_false_iff.2 fun hd => ?_
                rw [pcD_iff] at hd
                rw [← hb.out] at hd
                refine hd i hlt hgd.out r[k] ?_ ?_
                · rw [← hr.out]; exact List.getElem_mem hkl
                · rw [← hT.out]; exact hiff.1 rfl)
              have hBe := hB3.trans ((hBm.trans (hBk5.mono hBm.size)).mono hB3.size)
              replace hiff := hid hiff
              go_wp2_with fail
              go_ret
              exact ⟨ret_bool (by rw [hno.out]), hBe⟩
            case false =>
              have hrt' : b.ac.getD i false = false → ∀ T ∈ r.take (k + 1), ¬ leadsP b T.toNat := by
                intro h0 T' hT'
                rw [List.take_succ_eq_append_getElem hkl] at hT'
                rcases List.mem_append.1 hT' with hT' | hT'
                · exact hrt.out h0 T' hT'
                · rw [List.mem_singleton.1 hT', ← hT.out]
                  intro hl
                  have := hiff.2 hl
                  cases this
              replace hrt' := hid hrt'
              replace hiff := hid hiff
              go_wp2_with fail
              go_roundw
              case rel => exact ⟨k + 1, by go_num, by omega, hrt'.out, hBk5⟩
              case measure => simp [intOf]; omega
        · have hdt' : DeadTo b (i + 1) := by
            intro j hj hji hac T hT
            rcases Nat.lt_succ_iff_lt_or_eq.1 hji with h | h
            · exact hdt.out j hj h hac T hT
            · subst h
              refine hrt.out hac T ?_
              rw [List.take_of_length_le (by omega), hr.out]
              exact hT
          replace hdt' := hid hdt'
          go_wp2_with fail
          go_roundw
          case rel => exact ⟨i + 1, by go_num, by omega, hdt'.out, hB3k⟩
          case measure => simp [intOf]; omega
    · have hBe := hB3.trans (hBm.mono hB3.size)
      have hyes : Hid (pcB a = true) := hid (by
        rw [← hpc.out]
        refine pcD_iff.2 ?_
        rw [← hb.out]
        exact fun j hj => hdt.out j hj (by omega))
      go_wp2_with fail
      go_ret
      exact ⟨ret_bool (by rw [hyes.out]), hBe⟩

end Go.Proofs.Ytdkjnemakkppfaa

/- The reference's IsPrefixClosed. -/
namespace Go.Proofs.Ytdkjnemakkppfaa
open Go.RowKit Go.BigFrame AG

set_option maxRecDepth 100000 in
set_option maxHeartbeats 4000000 in
theorem specIsPrefixClosed_any (a : Au) (A B : Option Addr) (c d : Nat) (w : World) (ha : AuAt w A c B d a) :
    Calls Try.prog 7 #[a.val A c B d] w fun e w' => e = .returned (.bool (pcB a)) ∧ Below w.heap.size w w' := by
  obtain ⟨w0, hw0, hz0, hB0, hS⟩ := boxed w #[Value.int IntKind.i64 a.al, Value.slice A a.nx.length c, Value.slice B a.ac.length d] 26
  have ha0 := hid (ha.later hB0)
  have p0 := hS 0 _ rfl _ (Below.refl _ _)
  have p1 := hS 1 _ rfl _ (Below.refl _ _)
  have p2 := hS 2 _ rfl _ (Below.refl _ _)
  replace ha := hid ha
  unfold AG.Au.val
  go_enter Try.func7, Try.ntmps7
  go_wp2_with fail
  refine (specSafetyPart_any a A B c d w0 ha0.out).mono ?_
  rintro e w1 ⟨v1, v2, xs, rfl, ho, hb1⟩
  obtain ⟨A', c', B', d', rfl, rfl, hat⟩ := ho.at_
  obtain ⟨x, hx⟩ : ∃ x, Hid (x = safX a) := ⟨_, hid rfl⟩
  rw [← hx.out] at hat ⊢
  replace ho := hid ho
  have hB1 := hB0.trans (hb1.mono hB0.size)
  have hz1 := hb1.size
  clear p0 p1 p2 hw0
  obtain ⟨w3, hw3, hz3, hB3', hU⟩ := boxed w1 #[Value.int IntKind.i64 x.al, Value.slice A' x.nx.length c', Value.slice B' x.ac.length d'] 26
  have hb3 := hb1.trans (hB3'.mono hz1)
  have hB3 := hB1.trans (hB3'.mono hB1.size)
  have hat3 := hid (hat.later hB3')
  have hag : w.heap.size + 1 ≤ w3.heap.size := by omega
  replace hat := hid hat
  cases hok : auOk a
  · have hno := hid (pcB_bad hok)
    replace hok := hid hok
    go_upto_region 2 with fail
    clear hw3
    go_wp2
    go_ret
    exact ⟨ret_bool (by rw [hno.out]), hB3⟩
  · have hxs : Hid (x = safA a) := hid (by rw [hx.out]; unfold safX; rw [if_pos hok])
    replace hok := hid hok
    go_upto_region 2 with fail
    clear hw3
    have p0 := hS 0 _ rfl _ (hb3.mono hz0)
    have p1 := hS 1 _ rfl _ (hb3.mono hz0)
    have p2 := hS 2 _ rfl _ (hb3.mono hz0)
    have q0 := hU 0 _ rfl _ (Below.refl _ _)
    have q1 := hU 1 _ rfl _ (Below.refl _ _)
    have q2 := hU 2 _ rfl _ (Below.refl _ _)
    go_wp2_with fail
    refine (specLanguageWithin_any a x A B A' B' c d c' d' w3 (ha0.out.later hb3) hat3.out).mono ?_
    rintro e w4 ⟨o, rfl, hf, hb4⟩
    have hv : (cmpAu a x && !o.isSome) = pcB a := by
      rw [hxs.out] at hf ⊢
      exact pc_spec hok.out hf
    rw [hv]
    have hB4 := hB3.trans (hb4.mono hB3.size)
    replace hf := hid hf
    clear p0 p1 p2 q0 q1 q2 hv
    go_wp2
    go_ret
    exact ⟨rfl, hB4⟩

end Go.Proofs.Ytdkjnemakkppfaa

/- The drawing kit: l3Any, DrawIsPrefixClosed, DrawStateAfter. -/
namespace Go.Proofs.Ytdkjnemakkppfaa
open Go.RowKit Go.BigFrame AG

set_option maxRecDepth 100000 in
set_option maxHeartbeats 4000000 in
theorem l3Any_up (R P : Nat) (w : World) (hP : P + 600000000 ≤ 1125899906842624) (hr : RdUp w R P) :
    Calls Try.prog 16 #[.pointer (some ⟨R, 0, none⟩)] w (AuUp (AuSz 3000) R (P + 100000000) w) := by
  have hR := hr.lt
  obtain ⟨wA, hwA, hzA, hBA, -⟩ := boxed w #[.int .i64 0, .slice none 0 0, .slice none 0 0] 26
  have hzAe : Hid (wA.heap.size = w.heap.size + 1) := hid (by rw [← hwA]; simp)
  have hres : Hid (Blk wA w.heap.size 26 #[.int .i64 0, .slice none 0 0, .slice none 0 0]) := hid (by rw [← hwA]; exact Blk.new _ _ _)
  have hrA := hid (hr.later hBA)
  replace hr := hid hr
  go_enter Try.func16, Try.ntmps16
  go_wp2_with fail
  refine (pick_up R P 12 wA (by omega) (by omega) hrA.out).mono ?_
  rintro e w1 ⟨j, rfl, -, -, hr1, hk1⟩
  have hz1 := hk1.size
  replace hr1 := hid hr1
  clear hwA
  by_cases hq : j = 0
  · have hqb : ((j : Int) == 0) = true := by simpa using hq
    replace hq := hid hq
    go_wp2_with fail
    refine (l3Big_up R (P + 1) w1 (by omega) hr1.out).mono ?_
    rintro e w2 ⟨a, v1, v2, xs, rfl, hz, ho, hr2, hk2⟩
    obtain ⟨A9, c9, B9, d9, e1, e2, -⟩ := ho.at_
    subst e1 e2
    have hz' : AuSz 3000 a := ⟨by have := hz.2.1; omega, by have := hz.2.2.1; omega, fun r hr => by have := hz.2.2.2 r hr; omega⟩
    have hkk := hk1.trans hk2
    have hown := ho.base (base' := w.heap.size + 1) (by have := hzAe.out; omega)
    replace ho := hid ho
    replace hk2 := hid hk2
    replace hk1 := hid hk1
    replace hz := hid hz
    have hbl := hres.out.keep hkk (by omega)
    have d0' := hbl.cell 0
    have d1' := hbl.cell 1
    have d2' := hbl.cell 2
    have f0 := hbl.frozen 0
    have f1 := hbl.frozen 1
    have f2 := hbl.frozen 2
    simp only [List.getElem?_toArray, List.getElem?_cons_zero, List.getElem?_cons_succ] at d0' d1' d2'
    have hltb := hbl.lt
    have hfin := hid (AuUp.ret (Q := AuSz 3000) (P' := P + 100000000) hz' hown hr2 (by omega) ((KeepB.of_below hBA).trans hkk) hR (.int .i64 a.al) (.slice A9 a.nx.length c9) (.slice B9 a.ac.length d9))
    replace hbl := hid hbl
    go_wp2
    refine bodyPost_ret (v := .agg #[.int .i64 a.al, .slice A9 a.nx.length c9, .slice B9 a.ac.length d9]) (by simp [results, Try.results16, go_sem, d0', d1', d2']) rfl ?_
    exact hfin.out
  · have hqb : ((j : Int) == 0) = false := by simpa using hq
    replace hq := hid hq
    go_wp2_with fail
    refine (l3Draw_up R (P + 1) w1 (by omega) hr1.out).mono ?_
    rintro e w2 ⟨a, v1, v2, xs, rfl, hz, ho, hr2, hk2⟩
    obtain ⟨A8, c8, B8, d8, e1, e2, hat⟩ := ho.at_
    subst e1 e2
    have hz2 := hk2.size
    replace ho := hid ho
    replace hr2 := hid hr2
    replace hat := hid hat
    replace hz := hid hz
    go_wp2_with fail
    refine (l3Wrong_up R (P + 1 + 40000000) 2000 a A8 B8 c8 d8 w2 (by omega) (by omega) hz.out hr2.out hat.out).mono ?_
    rintro e w3 ⟨a9, v1, v2, xs9, rfl, hz9, ho9, hr9, hk9⟩
    obtain ⟨A9, c9, B9, d9, e1, e2, -⟩ := ho9.at_
    subst e1 e2
    have hkk := (hk1.trans hk2).trans hk9
    have hown := ho9.base (base' := w.heap.size + 1) (by have := hzAe.out; omega)
    replace ho9 := hid ho9
    replace hk9 := hid hk9
    replace hk2 := hid hk2
    replace hk1 := hid hk1
    have hbl := hres.out.keep hkk (by omega)
    have d0' := hbl.cell 0
    have d1' := hbl.cell 1
    have d2' := hbl.cell 2
    have f0 := hbl.frozen 0
    have f1 := hbl.frozen 1
    have f2 := hbl.frozen 2
    simp only [List.getElem?_toArray, List.getElem?_cons_zero, List.getElem?_cons_succ] at d0' d1' d2'
    have hltb := hbl.lt
    have hfin := hid (AuUp.ret (Q := AuSz 3000) (P' := P + 100000000) (hz9.up (by omega)) hown hr9 (by omega) ((KeepB.of_below hBA).trans hkk) hR (.int .i64 a9.al) (.slice A9 a9.nx.length c9) (.slice B9 a9.ac.length d9))
    replace hbl := hid hbl
    go_wp2
    refine bodyPost_ret (v := .agg #[.int .i64 a9.al, .slice A9 a9.nx.length c9, .slice B9 a9.ac.length d9]) (by simp [results, Try.results16, go_sem, d0', d1', d2']) rfl ?_
    exact hfin.out

theorem AuSz.of_ok {a : Au} (h : auOk a = true) : AuSz 3000 a := by
  obtain ⟨-, h1, h2, h3, h4⟩ := (auOk_iff a).1 h
  refine ⟨by omega, by omega, fun r hr => ?_⟩
  have h5 := (h4 r hr).1
  have h6 : (letters a.al).length ≤ 6 := lettersTo_len a.al 6
  omega
set_option maxRecDepth 100000 in
set_option maxHeartbeats 8000000 in
theorem drawIsPrefixClosed_any (A : Option Addr) (n c : Nat) (w : World) (hn : n ≤ c) (hc : c ≤ 9223372036854775807) (hx : CodeAt w A n) :
    Calls Try.prog 4 #[.slice A n c] w (DrawAu w) := by
  have hres := Blk.new w 26 #[.int .i64 0, .slice none 0 0, .slice none 0 0]
  have hb0 : Below w.heap.size w (w.alloc (.cells #[.int .i64 0, .slice none 0 0, .slice none 0 0] 26)) := (Below.refl _ _).alloc (Nat.le_refl _) _
  generalize hw0 : w.alloc (.cells #[.int .i64 0, .slice none 0 0, .slice none 0 0] 26) = w0 at hres hb0
  have hz0 : w0.heap.size = w.heap.size + 1 := by rw [← hw0]; simp
  have hx0 : CodeAt w0 A n := fun h => by
    obtain ⟨b, o, h1, h2, h3⟩ := hx h
    refine ⟨b, o, h1, by omega, fun i hi => ?_⟩
    obtain ⟨y, h4, h5⟩ := h3 i hi
    exact ⟨y, h4, by rw [hb0.cell (by simpa using h2)]; exact h5⟩
  replace hres := hid hres
  replace hz0 := hid hz0
  replace hx := hid hx
  replace hx0 := hid hx0
  go_enter Try.func4, Try.ntmps4
  go_wp2_with fail
  refine (l19Open_any A n c w0 hn hc hx0.out).mono ?_
  rintro e w1 ⟨R, rfl, hR, hr1, hb1⟩
  have hz1 := hb1.size
  have hR1 := hr1.lt
  replace hr1 := hid hr1
  clear hw0
  go_wp2_with fail
  refine (l5Any_up R 0 w1 (by omega) hr1.out).mono ?_
  rintro e w2 ⟨a, v1, v2, xs, rfl, hsz, ho, hr2, hk2⟩
  obtain ⟨A1, c1, B1, d1, e1, e2, hat⟩ := ho.at_
  subst e1 e2
  have hB2 : Below w0.heap.size w0 w2 := KeepB.below hb1 hk2 hb1.size (fun k hk => by omega)
  have hz2 := hk2.size
  have hnb := Blk.new w2 26 #[.int .i64 a.al, .slice A1 a.nx.length c1, .slice B1 a.ac.length d1]
  have hba : Below w2.heap.size w2 (w2.alloc (.cells #[.int .i64 a.al, .slice A1 a.nx.length c1, .slice B1 a.ac.length d1] 26)) := (Below.refl _ _).alloc (Nat.le_refl _) _
  have hsq : w2.heap.size < (w2.alloc (.cells #[.int .i64 a.al, .slice A1 a.nx.length c1, .slice B1 a.ac.length d1] 26)).heap.size := by simp
  generalize hwa : w2.alloc (.cells #[.int .i64 a.al, .slice A1 a.nx.length c1, .slice B1 a.ac.length d1] 26) = w3 at hnb hba hsq
  have hr3 := hid (hr2.later hba)
  have hB3 := hB2.trans (hba.mono hB2.size)
  have c0 := hnb.cell 0
  have c1' := hnb.cell 1
  have c2 := hnb.cell 2
  simp only [List.getElem?_toArray, List.getElem?_cons_zero, List.getElem?_cons_succ] at c0 c1' c2
  have hat3 := hid (hat.later hba)
  have ho3 := hid (ho.keepNew (K := fun b => b = R) (KeepB.of_below hba) (fun b e => by omega))
  replace hr2 := hid hr2
  replace ho := hid ho
  replace hat := hid hat
  replace hsz := hid hsz
  go_wp2_with fail
  refine (specSafetyPart_any a A1 B1 c1 d1 w3 hat3.out).mono ?_
  rintro e w4 ⟨u1, u2, ys, rfl, hox, hb4⟩
  obtain ⟨A2, c2x, B2, d2x, e1, e2, -⟩ := hox.at_
  subst e1 e2
  obtain ⟨x, hxx⟩ : ∃ x, Hid (x = safX a) := ⟨_, hid rfl⟩
  rw [← hxx.out] at hox ⊢
  clear c0 c1' c2 hwa
  have hz4 := hb4.size
  have hny := Blk.new w4 26 #[.int .i64 x.al, .slice A2 x.nx.length c2x, .slice B2 x.ac.length d2x]
  have hbb : Below w4.heap.size w4 (w4.alloc (.cells #[.int .i64 x.al, .slice A2 x.nx.length c2x, .slice B2 x.ac.length d2x] 26)) := (Below.refl _ _).alloc (Nat.le_refl _) _
  have hsq2 : w4.heap.size < (w4.alloc (.cells #[.int .i64 x.al, .slice A2 x.nx.length c2x, .slice B2 x.ac.length d2x] 26)).heap.size := by simp
  generalize hwb : w4.alloc (.cells #[.int .i64 x.al, .slice A2 x.nx.length c2x, .slice B2 x.ac.length d2x] 26) = w5 at hny hbb hsq2
  have hb45 := hb4.trans (hbb.mono hz4)
  have hB5 := hB3.trans (hb45.mono hB3.size)
  have hr5 := hid (hr3.out.later hb45)
  have hnb5 := hid (hnb.below hb45 hnb.lt)
  have ho5 := hid (ho3.out.keepNew (K := fun b => b = R) (KeepB.of_below hb45) (fun b e => by omega))
  have hox5 := hid (hox.keepNew (K := fun b => b = R) (KeepB.of_below hbb) (fun b e => by omega))
  replace hox := hid hox
  replace hnb := hid hnb
  replace hny := hid hny
  cases hok : auOk a
  · replace hok := hid hok
    have c0 := hnb5.out.cell 0
    have c1' := hnb5.out.cell 1
    have c2 := hnb5.out.cell 2
    simp only [List.getElem?_toArray, List.getElem?_cons_zero, List.getElem?_cons_succ] at c0 c1' c2
    have hbl := hres.out.below hB5 (by have := hz0.out; omega)
    have d0' := hbl.cell 0
    have d1' := hbl.cell 1
    have d2' := hbl.cell 2
    have f0 := hbl.frozen 0
    have f1 := hbl.frozen 1
    have f2 := hbl.frozen 2
    simp only [List.getElem?_toArray, List.getElem?_cons_zero, List.getElem?_cons_succ] at d0' d1' d2'
    have hltb := hbl.lt
    have hfin := hid (DrawAu.ret (w := w) hsz.out (ho5.out.base (by have := hz0.out; omega)) (hb0.trans (hB5.mono (by have := hz0.out; omega))) (.int .i64 a.al) (.slice A1 a.nx.length c1) (.slice B1 a.ac.length d1))
    replace hbl := hid hbl
    go_wp2
    refine bodyPost_ret (v := .agg #[.int .i64 a.al, .slice A1 a.nx.length c1, .slice B1 a.ac.length d1]) (by simp [results, Try.results4, go_sem, d0', d1', d2']) rfl ?_
    exact hfin.out
  · have hxs : AuSz 3000 x := by rw [hxx.out]; unfold safX; rw [if_pos hok]; exact AuSz.of_ok (safA_ok hok)
    replace hxs := hid hxs
    replace hok := hid hok
    go_wp2_with fail
    refine (pick_up R (0 + 100000000) 2 w5 (by omega) (by omega) hr5.out).mono ?_
    rintro e w6 ⟨j, rfl, -, -, -, hk6⟩
    clear hwb
    have hB6 : Below w0.heap.size w0 w6 := KeepB.below hB5 hk6 hB5.size (fun k hk => by omega)
    have ho6 := hid (ho5.out.keepNew hk6 (fun b e => by omega))
    have hox6 := hid (hox5.out.keepNew hk6 (fun b e => by omega))
    have hnb6 := hid (hnb5.out.keep hk6 (by omega))
    have hny6 := hid (hny.out.keep hk6 (by omega))
    by_cases hq : j = 0
    · have hqb : ((j : Int) == 0) = true := by simpa using hq
      replace hq := hid hq
      have c0 := hny6.out.cell 0
      have c1' := hny6.out.cell 1
      have c2 := hny6.out.cell 2
      simp only [List.getElem?_toArray, List.getElem?_cons_zero, List.getElem?_cons_succ] at c0 c1' c2
      have hbl := hres.out.below hB6 (by have := hz0.out; omega)
      have d0' := hbl.cell 0
      have d1' := hbl.cell 1
      have d2' := hbl.cell 2
      have f0 := hbl.frozen 0
      have f1 := hbl.frozen 1
      have f2 := hbl.frozen 2
      simp only [List.getElem?_toArray, List.getElem?_cons_zero, List.getElem?_cons_succ] at d0' d1' d2'
      have hltb := hbl.lt
      have hfin := hid (DrawAu.ret (w := w) hxs.out (hox6.out.base (by have := hz0.out; have := hB3.size; omega)) (hb0.trans (hB6.mono (by have := hz0.out; omega))) (.int .i64 x.al) (.slice A2 x.nx.length c2x) (.slice B2 x.ac.length d2x))
      replace hbl := hid hbl
      go_wp2
      refine bodyPost_ret (v := .agg #[.int .i64 x.al, .slice A2 x.nx.length c2x, .slice B2 x.ac.length d2x]) (by simp [results, Try.results4, go_sem, d0', d1', d2']) rfl ?_
      exact hfin.out
    · have hqb : ((j : Int) == 0) = false := by simpa using hq
      replace hq := hid hq
      have c0 := hnb6.out.cell 0
      have c1' := hnb6.out.cell 1
      have c2 := hnb6.out.cell 2
      simp only [List.getElem?_toArray, List.getElem?_cons_zero, List.getElem?_cons_succ] at c0 c1' c2
      have hbl := hres.out.below hB6 (by have := hz0.out; omega)
      have d0' := hbl.cell 0
      have d1' := hbl.cell 1
      have d2' := hbl.cell 2
      have f0 := hbl.frozen 0
      have f1 := hbl.frozen 1
      have f2 := hbl.frozen 2
      simp only [List.getElem?_toArray, List.getElem?_cons_zero, List.getElem?_cons_succ] at d0' d1' d2'
      have hltb := hbl.lt
      have hfin := hid (DrawAu.ret (w := w) hsz.out (ho6.out.base (by have := hz0.out; omega)) (hb0.trans (hB6.mono (by have := hz0.out; omega))) (.int .i64 a.al) (.slice A1 a.nx.length c1) (.slice B1 a.ac.length d1))
      replace hbl := hid hbl
      go_wp2
      refine bodyPost_ret (v := .agg #[.int .i64 a.al, .slice A1 a.nx.length c1, .slice B1 a.ac.length d1]) (by simp [results, Try.results4, go_sem, d0', d1', d2']) rfl ?_
      exact hfin.out

/-- Some values and a word come back. -/
def DrawAW (w : World) (e : Ending) (w' : World) : Prop := ∃ (i : Int) (A B : Option Addr) (n c m d : Nat) (x : ByteArray), e = .returned (.tuple #[.agg #[.int .i64 i, .slice A n c, .slice B m d], .string x]) ∧ x.size ≤ 3000000 ∧ Below w.heap.size w w'
theorem DrawAW.ret {w w1 : World} {x : ByteArray} (hx : x.size ≤ 3000000) (hb : Below w.heap.size w w1) (i : Int) (A B : Option Addr) (n c m d : Nat) :
    DrawAW w (.returned (.tuple #[.agg #[.int .i64 i, .slice A n c, .slice B m d], .string x])) (((w1.setCell ⟨w.heap.size, 0, none⟩ (.int .i64 i)).setCell ⟨w.heap.size, 1, none⟩ (.slice A n c)).setCell ⟨w.heap.size, 2, none⟩ (.slice B m d)) :=
  ⟨i, A, B, n, c, m, d, x, rfl, hx, ((hb.setCell (by simp) _).setCell (by simp) _).setCell (by simp) _⟩
set_option maxRecDepth 100000 in
set_option maxHeartbeats 8000000 in
theorem drawStateAfter_any (A : Option Addr) (n c : Nat) (w : World) (hn : n ≤ c) (hc : c ≤ 9223372036854775807) (hx : CodeAt w A n) :
    Calls Try.prog 6 #[.slice A n c] w (DrawAW w) := by
  have hres := Blk.new w 26 #[.int .i64 0, .slice none 0 0, .slice none 0 0]
  have hb0 : Below w.heap.size w (w.alloc (.cells #[.int .i64 0, .slice none 0 0, .slice none 0 0] 26)) := (Below.refl _ _).alloc (Nat.le_refl _) _
  generalize hw0 : w.alloc (.cells #[.int .i64 0, .slice none 0 0, .slice none 0 0] 26) = w0 at hres hb0
  have hz0 : w0.heap.size = w.heap.size + 1 := by rw [← hw0]; simp
  have hx0 : CodeAt w0 A n := fun h => by
    obtain ⟨b, o, h1, h2, h3⟩ := hx h
    refine ⟨b, o, h1, by omega, fun i hi => ?_⟩
    obtain ⟨y, h4, h5⟩ := h3 i hi
    exact ⟨y, h4, by rw [hb0.cell (by simpa using h2)]; exact h5⟩
  replace hres := hid hres
  replace hz0 := hid hz0
  replace hx := hid hx
  replace hx0 := hid hx0
  go_enter Try.func6, Try.ntmps6
  go_wp2_with fail
  refine (l19Open_any A n c w0 hn hc hx0.out).mono ?_
  rintro e w1 ⟨R, rfl, hR, hr1, hb1⟩
  have hz1 := hb1.size
  have hR1 := hr1.lt
  replace hr1 := hid hr1
  clear hw0
  go_wp2_with fail
  refine (l3Any_up R 0 w1 (by omega) hr1.out).mono ?_
  rintro e w2 ⟨a, v1, v2, xs, rfl, hsz, ho, hr2, hk2⟩
  obtain ⟨A1, c1, B1, d1, e1, e2, hat⟩ := ho.at_
  subst e1 e2
  have hB2 : Below w0.heap.size w0 w2 := KeepB.below hb1 hk2 hb1.size (fun k hk => by omega)
  have hz2 := hk2.size
  have hnb := Blk.new w2 26 #[.int .i64 a.al, .slice A1 a.nx.length c1, .slice B1 a.ac.length d1]
  have hba : Below w2.heap.size w2 (w2.alloc (.cells #[.int .i64 a.al, .slice A1 a.nx.length c1, .slice B1 a.ac.length d1] 26)) := (Below.refl _ _).alloc (Nat.le_refl _) _
  have hsq : w2.heap.size < (w2.alloc (.cells #[.int .i64 a.al, .slice A1 a.nx.length c1, .slice B1 a.ac.length d1] 26)).heap.size := by simp
  generalize hwa : w2.alloc (.cells #[.int .i64 a.al, .slice A1 a.nx.length c1, .slice B1 a.ac.length d1] 26) = w3 at hnb hba hsq
  have hr3 := hid (hr2.later hba)
  have hB3 := hB2.trans (hba.mono hB2.size)
  have c0 := hnb.cell 0
  have c1' := hnb.cell 1
  have c2 := hnb.cell 2
  simp only [List.getElem?_toArray, List.getElem?_cons_zero, List.getElem?_cons_succ] at c0 c1' c2
  replace hr2 := hid hr2
  replace ho := hid ho
  replace hat := hid hat
  replace hsz := hid hsz
  replace hnb := hid hnb
  have hRne : w2.heap.size ≠ R := by omega
  go_wp2_with fail
  refine (l1Word_up R (0 + 100000000) a.al 7 w3 (by omega) (by omega) hr3.out).mono ?_
  rintro e w4 ⟨x, rfl, hx4, hr4, hk4⟩
  clear c0 c1' c2 hwa
  have hnb4 := hid (hnb.out.keep hk4 (by omega))
  have hB4 : Below w0.heap.size w0 w4 := KeepB.below hB3 hk4 hB3.size (fun k hk => by omega)
  replace hr4 := hid hr4
  clear hk4
  go_wp2_with fail
  refine (pick_up R (0 + 100000000 + 200) 10 w4 (by omega) (by omega) hr4.out).mono ?_
  rintro e w5 ⟨j, rfl, -, -, hr5, hk5⟩
  have hnb5 := hid (hnb4.out.keep hk5 (by omega))
  have hB5 : Below w0.heap.size w0 w5 := KeepB.below hB4 hk5 hB4.size (fun k hk => by omega)
  replace hr5 := hid hr5
  clear hk5
  by_cases hq : j = 0
  · have hqb : ((j : Int) == 0) = true := by simpa using hq
    replace hq := hid hq
    go_wp2_with fail
    refine (l1Word_up R (0 + 100000000 + 200 + 1) 7 3 w5 (by omega) (by omega) hr5.out).mono ?_
    rintro e w6 ⟨y6, rfl, hz6, hr6, hk6⟩
    have hnb6 := hid (hnb5.out.keep hk6 (by omega))
    have hB6 : Below w0.heap.size w0 w6 := KeepB.below hB5 hk6 hB5.size (fun k hk => by omega)
    replace hr6 := hid hr6
    clear hk6
    have c0 := hnb6.out.cell 0
    have c1' := hnb6.out.cell 1
    have c2 := hnb6.out.cell 2
    simp only [List.getElem?_toArray, List.getElem?_cons_zero, List.getElem?_cons_succ] at c0 c1' c2
    have hneR : w2.heap.size ≠ R := by omega
    have q0 := RI.cell hr6.out c0 hneR
    have q1 := RI.cell hr6.out c1' hneR
    have q2 := RI.cell hr6.out c2 hneR
    go_wp2_with fail
    clear c0 c1' c2
    refine GK.wp_region 4 [4, 5] 200 (KeepB fun b => b = R) (RI w6 R (0 + 100000000 + 200 + 1 + 200)) (fun _ u _ => isStr 2000000 u) (by kernel_rfl) (by kernel_rfl) (RI.way w6 R _) (by decide) (RI.drew hr6.out) ?_
    simp only [List.take_succ_cons, List.take_zero]
    (repeat (refine GK.grow_quiet w6 (by rfl) (by rfl) ?_; intro K hK; go_big_quiet_op; go_big_quiet_on))
    refine GK.grow_call (by rfl) (fun u w w' _ h => h) (fun m wq hm hbq hf => ?_) ?_
    · go_simp
      exact ⟨rfl, (l1Bad_up R (0 + 100000000 + 200 + 1 + 200 + m * 10000) (x ++ y6) wq (by omega) (by rw [ByteArray.size_append]; omega) hbq.2).mono fun e w' ⟨y, h2, h3, h4, h5⟩ => ⟨_, h2, RI.call hbq h5 h4 (by omega), y, rfl, h3⟩⟩
    rintro u ⟨_, _, _, y, rfl, hy⟩
    simp only [Act.put, List.setIfInBounds_toArray, List.set_cons_zero, List.set_cons_succ]
    refine GK.grow_nil ?_
    intro w8 hw8 _
    simp only [List.filterMap_cons, List.filterMap_nil, List.getElem?_cons_zero, List.getElem?_cons_succ]
    clear q0 q1 q2
    have hB8 : Below w0.heap.size w0 w8 := KeepB.below hB6 hw8.1 hB6.size (fun k hk => by omega)
    have hbl := hres.out.below hB8 (by have := hz0.out; omega)
    have d0 := hbl.cell 0
    have d1' := hbl.cell 1
    have d2 := hbl.cell 2
    have g0 := hbl.frozen 0
    have g1 := hbl.frozen 1
    have g2 := hbl.frozen 2
    simp only [List.getElem?_toArray, List.getElem?_cons_zero, List.getElem?_cons_succ] at d0 d1' d2
    have hfin := hid (DrawAW.ret (w := w) (x := y) (by omega) (hb0.trans (hB8.mono (by have := hz0.out; omega))) a.al A1 B1 a.nx.length c1 a.ac.length d1)
    have hlt := hbl.lt
    clear hbl hw8
    go_wp2
    refine bodyPost_ret (v := .tuple #[.agg #[.int .i64 a.al, .slice A1 a.nx.length c1, .slice B1 a.ac.length d1], .string y]) (by simp [results, Try.results6, go_sem, d0, d1', d2]) rfl ?_
    exact hfin.out
  · have hqb : ((j : Int) == 0) = false := by simpa using hq
    replace hq := hid hq
    have c0 := hnb5.out.cell 0
    have c1' := hnb5.out.cell 1
    have c2 := hnb5.out.cell 2
    simp only [List.getElem?_toArray, List.getElem?_cons_zero, List.getElem?_cons_succ] at c0 c1' c2
    have hneR : w2.heap.size ≠ R := by omega
    have q0 := RI.cell hr5.out c0 hneR
    have q1 := RI.cell hr5.out c1' hneR
    have q2 := RI.cell hr5.out c2 hneR
    go_wp2_with fail
    clear c0 c1' c2
    refine GK.wp_region 4 [4, 5] 200 (KeepB fun b => b = R) (RI w5 R (0 + 100000000 + 200 + 1)) (fun _ u _ => isStr 2000000 u) (by kernel_rfl) (by kernel_rfl) (RI.way w5 R _) (by decide) (RI.drew hr5.out) ?_
    simp only [List.take_succ_cons, List.take_zero]
    (repeat (refine GK.grow_quiet w5 (by rfl) (by rfl) ?_; intro K hK; go_big_quiet_op; go_big_quiet_on))
    refine GK.grow_call (by rfl) (fun u w w' _ h => h) (fun m wq hm hbq hf => ?_) ?_
    · go_simp
      exact ⟨rfl, (l1Bad_up R (0 + 100000000 + 200 + 1 + m * 10000) x wq (by omega) (by omega) hbq.2).mono fun e w' ⟨y, h2, h3, h4, h5⟩ => ⟨_, h2, RI.call hbq h5 h4 (by omega), y, rfl, h3⟩⟩
    rintro u ⟨_, _, _, y, rfl, hy⟩
    simp only [Act.put, List.setIfInBounds_toArray, List.set_cons_zero, List.set_cons_succ]
    refine GK.grow_nil ?_
    intro w8 hw8 _
    simp only [List.filterMap_cons, List.filterMap_nil, List.getElem?_cons_zero, List.getElem?_cons_succ]
    clear q0 q1 q2
    have hB8 : Below w0.heap.size w0 w8 := KeepB.below hB5 hw8.1 hB5.size (fun k hk => by omega)
    have hbl := hres.out.below hB8 (by have := hz0.out; omega)
    have d0 := hbl.cell 0
    have d1' := hbl.cell 1
    have d2 := hbl.cell 2
    have g0 := hbl.frozen 0
    have g1 := hbl.frozen 1
    have g2 := hbl.frozen 2
    simp only [List.getElem?_toArray, List.getElem?_cons_zero, List.getElem?_cons_succ] at d0 d1' d2
    have hfin := hid (DrawAW.ret (w := w) (x := y) (by omega) (hb0.trans (hB8.mono (by have := hz0.out; omega))) a.al A1 B1 a.nx.length c1 a.ac.length d1)
    have hlt := hbl.lt
    clear hbl hw8
    go_wp2
    refine bodyPost_ret (v := .tuple #[.agg #[.int .i64 a.al, .slice A1 a.nx.length c1, .slice B1 a.ac.length d1], .string y]) (by simp [results, Try.results6, go_sem, d0, d1', d2]) rfl ?_
    exact hfin.out

end Go.Proofs.Ytdkjnemakkppfaa

/- The law FnPrefixWord. -/
namespace Go.Proofs.Ytdkjnemakkppfaa
open Go.RowKit Go.BigFrame Go.Maps AG

theorem codeAt_on {w w' : World} {A : Option Addr} {n : Nat} (h : CodeAt w A n) (hb : Below w.heap.size w w') : CodeAt w' A n := fun hn => by
  obtain ⟨b, o, h1, h2, h3⟩ := h hn
  refine ⟨b, o, h1, Nat.lt_of_lt_of_le h2 hb.size, fun i hi => ?_⟩
  obtain ⟨y, h4, h5⟩ := h3 i hi
  exact ⟨y, h4, by rw [hb.cell (by simpa using h2)]; exact h5⟩

set_option maxRecDepth 100000 in
set_option maxHeartbeats 16000000 in
theorem FnPrefixWord_any (A A' : Option Addr) (n c n' c' : Nat) (w : World) (hn : n ≤ c) (hc : c ≤ 9223372036854775807) (hn' : n' ≤ c') (hc' : c' ≤ 9223372036854775807) (hx : CodeAt w A n) (hx' : CodeAt w A' n') :
    Calls Try.prog 3 #[.slice A n c, .slice A' n' c'] w fun e w' => e = .returned (.bool true) ∧ Below w.heap.size w w' := by
  replace hx := hid hx
  replace hx' := hid hx'
  by_cases hlen : 1048576 < n
  · have hgt : (1048576 : Int) < (n : Int) := by omega
    go_enter Try.func3, Try.ntmps3
    go_wp2
    go_ret
    exact ⟨rfl, Below.refl _ _⟩
  by_cases hlen' : 1048576 < n'
  · have hgt0 : ¬ ((1048576 : Int) < (n : Int)) := by omega
    have hgt : (1048576 : Int) < (n' : Int) := by omega
    go_enter Try.func3, Try.ntmps3
    go_wp2
    go_ret
    exact ⟨rfl, Below.refl _ _⟩
  have hgt : ¬ ((1048576 : Int) < (n : Int)) := by omega
  have hgt' : ¬ ((1048576 : Int) < (n' : Int)) := by omega
  go_enter Try.func3, Try.ntmps3
  go_wp2_with fail
  refine (drawIsPrefixClosed_any A n c w hn hc hx.out).mono ?_
  rintro e w1 ⟨a, A1, B1, c1, d1, xs, rfl, -, ho, hb1⟩
  have hat : AuAt w1 A1 c1 B1 d1 a := by
    obtain ⟨A', c', B', d', e1, e2, h⟩ := ho.at_
    cases e1
    cases e2
    exact h
  unfold AG.Au.val
  clear ho
  go_upto_region 4 with fail
  obtain ⟨w2, hw2, hz2, hb2, hS⟩ := boxed w1 #[.int .i64 a.al, .slice A1 a.nx.length c1, .slice B1 a.ac.length d1] 26
  rw [hw2]
  clear hw2
  have hat2 := hid (hat.later hb2)
  have h0 := hid (fun w' (hb : Below w2.heap.size w2 w') => hS 0 _ rfl w' (hb.mono hz2))
  have h1 := hid (fun w' (hb : Below w2.heap.size w2 w') => hS 1 _ rfl w' (hb.mono hz2))
  have h2 := hid (fun w' (hb : Below w2.heap.size w2 w') => hS 2 _ rfl w' (hb.mono hz2))
  have BW2 := hb1.trans (hb2.mono hb1.size)
  clear hS hat
  obtain ⟨t, ht⟩ : ∃ t, Hid (t = pcB a) := ⟨_, hid rfl⟩
  have p0 := h0.out w2 (Below.refl _ _)
  have p1 := h1.out w2 (Below.refl _ _)
  have p2 := h2.out w2 (Below.refl _ _)
  go_wp2_with fail
  refine (implIsPrefixClosed_pc a A1 B1 c1 d1 w2 hat2.out).mono ?_
  rintro e w3 ⟨rfl, hb3⟩
  rw [← ht.out]
  clear p0 p1 p2
  have BW3 := BW2.trans (hb3.mono BW2.size)
  go_wp2_with fail
  refine (drawStateAfter_any A' n' c' w3 hn' hc' (codeAt_on hx'.out BW3)).mono ?_
  rintro e w4 ⟨i0, A4, B4, n4, c4, m4, d4, x, rfl, hxz, hb4⟩
  have hC4 := hb3.trans (hb4.mono hb3.size)
  have BW4 := BW3.trans (hb4.mono BW3.size)
  go_upto_region 6 with fail
  obtain ⟨w5, hw5, hz5, hb5, -⟩ := boxed w4 #[.int .i64 i0, .slice A4 n4 c4, .slice B4 m4 d4] 26
  rw [hw5]
  clear hw5
  have hC5 := hC4.trans (hb5.mono hC4.size)
  have BW5 := BW4.trans (hb5.mono BW4.size)
  have p0 := h0.out w5 hC5
  have p1 := h1.out w5 hC5
  have p2 := h2.out w5 hC5
  go_wp2_with fail
  refine (specIsPrefixClosed_any a A1 B1 c1 d1 w5 (hat2.out.later hC5)).mono ?_
  rintro e w6 ⟨rfl, hb6⟩
  rw [← ht.out]
  clear p0 p1 p2
  have hC6 := hC5.trans (hb6.mono hC5.size)
  have BW6 := BW5.trans (hb6.mono BW5.size)
  have p0 := h0.out w6 hC6
  have p1 := h1.out w6 hC6
  have p2 := h2.out w6 hC6
  cases t
  · go_wp2_with fail
    refine (specIsPrefixClosed_any a A1 B1 c1 d1 w6 (hat2.out.later hC6)).mono ?_
    rintro e w7 ⟨rfl, hb7⟩
    rw [← ht.out]
    clear p0 p1 p2
    have BW7 := BW6.trans (hb7.mono BW6.size)
    go_wp2_with fail
    go_ret
    exact ⟨rfl, BW7⟩
  · have hzx : x.size ≤ 9223372036854775807 := by omega
    go_wp2_with fail
    refine (implAcceptsWord_any a A1 B1 c1 d1 x w6 hzx (hat2.out.later hC6)).mono ?_
    rintro e w7 ⟨rfl, hb7⟩
    clear p0 p1 p2
    have hC7 := hC6.trans (hb7.mono hC6.size)
    have BW7 := BW6.trans (hb7.mono BW6.size)
    obtain ⟨g, hg⟩ : ∃ g, Hid (g = accB a x) := ⟨_, hid rfl⟩
    rw [← hg.out]
    have p0 := h0.out w7 hC7
    have p1 := h1.out w7 hC7
    have p2 := h2.out w7 hC7
    cases g
    · go_wp2_with fail
      refine (specIsPrefixClosed_any a A1 B1 c1 d1 w7 (hat2.out.later hC7)).mono ?_
      rintro e w8 ⟨rfl, hb8⟩
      rw [← ht.out]
      clear p0 p1 p2
      have BW8 := BW7.trans (hb8.mono BW7.size)
      go_wp2_with fail
      go_ret
      exact ⟨rfl, BW8⟩
    · by_cases hl : 100 < x.size
      · have hl' : (100 : Int) < (x.size : Int) := by omega
        go_wp2_with fail
        refine (specIsPrefixClosed_any a A1 B1 c1 d1 w7 (hat2.out.later hC7)).mono ?_
        rintro e w8 ⟨rfl, hb8⟩
        rw [← ht.out]
        clear p0 p1 p2
        have BW8 := BW7.trans (hb8.mono BW7.size)
        go_wp2_with fail
        go_ret
        exact ⟨rfl, BW8⟩
      · have hl' : ¬ ((100 : Int) < (x.size : Int)) := by omega
        have hpre : Hid (∀ i, i ≤ x.size → accB a (x.extract 0 i) = true) := hid (fun i hi => pc_prefix ht.out.symm hg.out.symm hi)
        clear p0 p1 p2
        go_wp2_with fail
        go_loopw [9] (fun iv wr => ∃ i : Nat, iv = .int .i64 (i : Nat) ∧ i ≤ x.size + 1 ∧ Below w7.heap.size w7 wr) (fun iv _ => x.size + 1 - (intOf iv).toNat)
        case atStart => exact ⟨0, rfl, Nat.zero_le _, Below.refl _ _⟩
        case round =>
          obtain ⟨i, rfl, hi, hBr⟩ := hrel
          have hCr := hC7.trans (hBr.mono hC7.size)
          have BWr := BW7.trans (hBr.mono BW7.size)
          by_cases hlt : i ≤ x.size
          · have b4 : (0 : Int) ≤ (i : Int) ∧ (i : Int) ≤ (x.size : Int) := by omega
            have hy := hid (hpre.out i hlt)
            have t1 : (x.extract 0 i).size ≤ 9223372036854775807 := by rw [ByteArray.size_extract]; omega
            obtain ⟨y, hs1⟩ : ∃ y, x.extract 0 i = y := ⟨_, rfl⟩
            rw [hs1] at hy t1
            have ya0 := fun z => h0.out _ (hCr.trans ((Fam.below wr.heap.size wr z).mono hCr.size))
            have ya1 := fun z => h1.out _ (hCr.trans ((Fam.below wr.heap.size wr z).mono hCr.size))
            have ya2 := fun z => h2.out _ (hCr.trans ((Fam.below wr.heap.size wr z).mono hCr.size))
            have hac2 := hid (hat2.out.later hCr)
            go_wp2_with fail
            refine wp_region_grow 6 wr.heap.size wr (fun _ u _ => u = .bool true) (by kernel_rfl) (by kernel_rfl) (Nat.le_refl _) (Below.refl _ _) ?_
            simp only [List.take_succ_cons, List.take_zero, List.drop_succ_cons, List.drop_zero]
            (repeat (refine grow_quiet (by rfl) (by rfl) (by rfl) ?_; intro K hK; go_big_quiet_op; go_big_quiet_on))
            refine grow_val (.bool true) (by rfl) (by rfl) rfl (fun wq hbq _ => ?_) ?_
            · go_simp
              refine ⟨rfl, (implAcceptsWord_any a A1 B1 c1 d1 y wq t1 (hac2.out.later hbq)).mono ?_⟩
              rintro e w3 ⟨rfl, hb3⟩
              exact ⟨by rw [hy.out], hb3⟩
            simp only [Act.put, List.setIfInBounds_toArray, List.set_cons_zero, List.set_cons_succ]
            (repeat (refine grow_quiet (by rfl) (by rfl) (by rfl) ?_; intro K hK; go_big_quiet_op; go_big_quiet_on))
            refine grow_nil ?_
            intro w40 hb40 hf
            clear hf ya0 ya1 ya2
            have hfin := hid (hBr.trans (hb40.mono hBr.size))
            go_wp2_with fail
            go_roundw
            case rel => exact ⟨i + 1, by go_num, by omega, hfin.out⟩
            case measure => simp [intOf]; omega
          · go_wp2_with fail
            go_ret
            exact ⟨rfl, BWr⟩

end Go.Proofs.Ytdkjnemakkppfaa

/- How a slice of edges, a system, a slice of systems read as data: opened to cells. -/
namespace AG
open Go Go.RowKit Go.ChangeShapes Go.WideShapes Go.Deep

section
variable {H : Type} {enc : TypeId × Value → H} {P : Program} {w : World} {base : Nat} {spare : Nat → Bool} {held : Bool}
theorem add_at (b o n : Nat) : (⟨b, o, none⟩ : Addr).add n = ⟨b, o + n, none⟩ := by
  unfold Addr.add
  split
  · subst_vars; rfl
  · rfl

end

section
variable {H : Type} {enc : TypeId × Value → H} {P : Program}
/-- An argument reads behind the call as it did. -/
theorem trod_later {t : TypeId} (hl : laidOutB P = true) (hr : P.readableRec t = true) (hrow : t < P.types.size) {W W' : World} {v : Value} {d : DataW H} {ps : List MemPlace} {sp : Nat → Bool}
    (h : DataW.Trod enc P W 0 (fun _ => true) true t v d ps) (hb : Below W.heap.size W W') (hlt : ∀ x ∈ ps, x.block < W.heap.size) (hsp : ∀ x ∈ ps, sp x.block = true) : DataW.Trod enc P W' 0 sp true t v d ps :=
  WideElems.Trod_stays hl hr hrow h (fun x hx => hb.same (hlt x hx)) hsp
/-- The row's last step where of the world behind the call 'Below' is known. -/
theorem post_of_below {f : Func} {s : ChangeSpec} {apart fresh handsOn again : Bool} {W W' : World} {args : Array Value} {v : Value} {ds gs : List (DataW H)} {before pa pv : List MemPlace}
    (hW : DataW.Whole enc P f.params.toList s.vars apart W args.toList ds gs before)
    (hres : ∀ (b : Nat) (sp : Nat → Bool) (hd : Bool), DataW.TrodAll enc P W' b sp hd f.resultTypes.toList (v.resultList f.resultTypes.size) (s.fn H (ds ++ gs)).results [])
    (hargs : ∀ sp : Nat → Bool, (∀ p ∈ before, sp p.block = true) → DataW.TrodAll enc P W' 0 sp true f.params.toList args.toList (s.fn H (ds ++ gs)).args pa)
    (hvars : ∀ sp : Nat → Bool, (∀ p ∈ before, sp p.block = true) → DataW.TrodVars enc P W' sp s.vars (s.fn H (ds ++ gs)).vars pv)
    (hps : before = pa ++ pv) (hb : Below W.heap.size W W')
    (hok : ∀ (j : Nat) (t : TypeId) (r : Value), f.resultTypes[j]? = some t → (v.resultList f.resultTypes.size)[j]? = some r → Value.okWide P W' .any 0 t r) :
    s.post enc P f apart fresh handsOn again W args v W' := by
  have hlt : ∀ p ∈ before, p.block < W.heap.size := fun p hp => hW.lt p hp
  have hold : ∀ p ∈ before, (fun b => decide (b < W.heap.size)) p.block = true := fun p hp => by simpa using hlt p hp
  refine ⟨ds, gs, before, [], pa, pv, hW, hres _ _ _, hargs _ hold, hvars _ hold, World.keptBut_mono (fun p hp => ⟨hp, ?_⟩) (hb.frame (· ∈ before)), fun _ => ?_⟩
  · rw [hps, List.mem_append] at hp
    exact Or.inr hp
  · obtain ⟨_, _, _, _, _, hz, hn⟩ := hW
    refine ⟨hok, _, _, ([] ++ pa) ++ pv, ⟨[] ++ pa, pv, trodAll_append (hargs _ (fun _ _ => rfl)) (hres _ _ _), hvars _ (fun _ _ => rfl), rfl, ?_, ?_⟩, ?_⟩
    · intro b off hp
      have hin : MemPlace.cell b off ∈ before := by rw [hps]; simpa using hp
      rw [hb.frozen (hlt _ hin)]
      exact hz b off hin
    · intro ha
      have := hn ha
      rw [hps] at this
      simpa using this
    · intro p hp _
      rw [hps]
      simpa using hp
end
end AG

/- A slice of bytes that came in. -/
namespace Go.Proofs.Ytdkjnemakkppfaa
open Go.RowKit Go.ChangeShapes Go.WideShapes AG

theorem cells_u8 : Try.prog.cellsOf 5 = 1 := by kernel_rfl

theorem open_code {H : Type} {enc : TypeId × Value → H} {W : World} {A : Option Addr} {n c fuel : Nat} {x : DataW H × List MemPlace} (h : DataW.trod enc Try.prog W 0 (fun _ => true) true fuel 22 [.slice A n c] = some x) :
    n ≤ c ∧ c ≤ 9223372036854775807 ∧ CodeAt W A n := by
  rcases open_ints Try.underlying22 Try.underlying5 cells_u8 h with ⟨hcs, _⟩ | ⟨a, len, cap, zs, hcs, _, hl, hm, hz, _, hcell, hwf⟩
  · simp only [List.cons.injEq, Value.slice.injEq, and_true] at hcs
    obtain ⟨rfl, rfl, rfl⟩ := hcs
    exact ⟨Nat.le_refl _, by omega, fun h => by omega⟩
  · simp only [List.cons.injEq, Value.slice.injEq, and_true] at hcs
    obtain ⟨rfl, rfl, rfl⟩ := hcs
    unfold maxLen at hm
    simp only [if_true] at hz
    refine ⟨hl, by omega, fun hn => ?_⟩
    obtain ⟨b, o, sp⟩ := a
    have hsp : sp = none := by simpa [Addr.add] using World.cell?_spot (hcell 0 (by omega))
    subst hsp
    refine ⟨b, o, rfl, World.block_lt_of_cell? _ _ (by simpa [Addr.add] using hcell 0 (by omega)), fun i hi => ?_⟩
    have h1 := hcell i (by omega)
    rw [add_at] at h1
    have hmem : zs.getD i 0 ∈ zs := by
      have : i < zs.length := by omega
      rw [List.getD_eq_getElem?_getD, List.getElem?_eq_getElem this]
      exact List.getElem_mem _
    have h2 := hwf _ hmem
    have h3 : 0 ≤ zs.getD i 0 ∧ zs.getD i 0 < 256 := by
      have h4 : IntKind.u8.min ≤ zs.getD i 0 ∧ zs.getD i 0 ≤ IntKind.u8.max := by simpa [Lit.wf] using h2
      have e1 : IntKind.u8.min = 0 := by decide
      have e2 : IntKind.u8.max = 255 := by decide
      omega
    obtain ⟨y, hy⟩ := Int.eq_ofNat_of_zero_le h3.1
    rw [hy] at h1
    exact ⟨y, by omega, h1⟩

end Go.Proofs.Ytdkjnemakkppfaa
