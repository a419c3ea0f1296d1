/- Lemmas, part 6: several texts in one. -/
import Derived.Test.YtjhlbeamfngebaaDoorV5
import Derived.Test.YtjhlbeamfngebaaDoorV2
import Derived.Test.YtjhlbeamfngebaaDoorV4
import Derived.Test.YtjhlbeamfngebaaDoorV3
import Derived.Deep.DeepCutAuto
import Derived.WalkKit
import Derived.Laws.IdiomStrings
import Derived.Laws.BytesString
import Derived.Maps.AppendAt
import Derived.Test.YtjhlbeamfngebaaDoorV1
import Derived.Deep.Quiet
import Derived.Test.YtjhlbeamfngebaaDoorCards
import Derived.Test.YtjhlbeamfngebaaDoorTie
import Derived.ProofKit
import Derived.OpenShut
import Derived.Deep.DeepHandedRow
import Derived.Lib.LaidTab
import Derived.Stop.LaidErr
import Derived.Deep.Slices
import Derived.Deep.Fields
import Derived.ChangeSame
import Derived.Deep.Grids
set_option linter.unusedSimpArgs false
set_option linter.unusedVariables false

/- The drawing kit: l3Safe, l3Over. -/
namespace Go.Proofs.YtjhlbeamfngebaaDoor
open Go.RowKit Go.BigFrame AG

theorem AuSt.of {K : Nat → Prop} {w0 w1 : World} {v1 v2 : Value} {a : Au} {xs : List RowV} (ho : AuOwn w1 w0.heap.size v1 v2 a xs) (hk : KeepB K w0 w1) :
    AuSt K w0 (w1.alloc (.cells #[.int .i64 a.al, v1, v2] 26)) w1.heap.size v1 v2 a xs :=
  ⟨hk.alloc _, hk.size, ho.later ((Below.refl _ _).alloc (Nat.le_refl _) _), Blk.new _ _ _⟩
theorem AuUp.imp {Q Q' : Au → Prop} {R P P' : Nat} {w : World} {e : Ending} {w' : World} (h : AuUp Q R P w e w') (hq : ∀ a, Q a → Q' a) (hP : P ≤ P') : AuUp Q' R P' w e w' := by
  obtain ⟨a, v1, v2, xs, h1, h2, h3, h4, h5⟩ := h
  exact ⟨a, v1, v2, xs, h1, hq a h2, h3, h4.more hP, h5⟩

end Go.Proofs.YtjhlbeamfngebaaDoor

/- The reference's AutomatonValid and l6Accepting. -/
namespace Go.Proofs.YtjhlbeamfngebaaDoor
open Go.RowKit Go.BigFrame AG

noncomputable def rowOkB (L n : Nat) (r : List Int) : Bool := @decide (rowOk L n r) (Classical.propDecidable _)
theorem rowOkB_iff {L n : Nat} {r : List Int} : rowOkB L n r = true ↔ rowOk L n r := by unfold rowOkB; exact @decide_eq_true_iff _ (Classical.propDecidable _)
theorem rowOkB_no {L n : Nat} {r : List Int} (h : ¬ rowOk L n r) : rowOkB L n r = false := by rw [← Bool.not_eq_true, rowOkB_iff]; exact h
set_option maxRecDepth 100000 in
set_option maxHeartbeats 1000000 in
theorem l3Row_any (r : List Int) (A : Option Addr) (c L n : Nat) (w : World) (hl : r.length ≤ c) (hc : c ≤ 9223372036854775807) (hr : IntsAt w w.heap.size A r) :
    Calls Tryd.prog 118 #[.slice A r.length c, .int .i64 (L : Nat), .int .i64 (n : Nat)] w fun e w' => e = .returned (.bool (rowOkB L n r)) ∧ Below w.heap.size w w' := by
  replace hr := hid hr
  go_enter Tryd.func118, Tryd.ntmps118
  by_cases hrl : r.length = L
  case neg =>
    have hno := hid (rowOkB_no (n := n) (fun h : rowOk L n r => hrl h.1))
    have hq : ((r.length : Int) != (L : Int)) = true := by simp; omega
    replace hrl := hid hrl
    go_wp2
    go_ret
    exact ⟨ret_bool (by rw [hno.out]), Below.refl _ _⟩
  have hq : ((r.length : Int) != (L : Int)) = false := by simp; omega
  replace hrl := hid hrl
  go_wp2
  go_loopw [7] (fun jv wq => ∃ j : Nat, jv = .int .i64 (j : Nat) ∧ j ≤ r.length ∧ (∀ q ∈ r.take j, 0 ≤ q ∧ q < (n : Int)) ∧ wq = w) (fun jv _ => r.length - (intOf jv).toNat)
  case atStart => exact ⟨0, rfl, by omega, by simp, rfl⟩
  case round =>
    obtain ⟨j, rfl, hj, hin, rfl⟩ := hrel
    by_cases hjl : j < r.length
    · obtain ⟨bj, oj, hA, hbj, hcell⟩ := hr.out (by omega)
      subst hA
      have c0 := hcell j hjl
      obtain ⟨q, hq'⟩ : ∃ q, Hid (q = r[j]) := ⟨_, hid rfl⟩
      rw [← hq'.out] at c0
      have hqm : Hid (q ∈ r) := hid (by rw [hq'.out]; exact List.getElem_mem _)
      have k2 : (0 : Int) ≤ (j : Int) ∧ (j : Int) < (r.length : Int) := by omega
      replace hcell := hid hcell
      replace hin := hid hin
      by_cases hqn : 0 ≤ q ∧ q < (n : Int)
      · have hq1 : ¬ (q < 0) := by omega
        have hq2 : ¬ ((n : Int) ≤ q) := by omega
        go_wp2
        go_roundw
        case rel =>
          refine ⟨j + 1, by go_num, by omega, fun y hy => ?_, by first | rfl | trivial⟩
          rw [List.take_succ_eq_append_getElem hjl, List.mem_append, List.mem_singleton, ← hq'.out] at hy
          rcases hy with hy | rfl
          · exact hin.out y hy
          · exact hqn
        case measure => simp [intOf]; omega
      · have hno := hid (rowOkB_no (fun h : rowOk L n r => hqn (h.2 q hqm.out)))
        by_cases hq1 : q < 0
        · go_wp2
          go_ret
          exact ⟨ret_bool (by rw [hno.out]), Below.refl _ _⟩
        · have hq2 : ((n : Int) ≤ q) := by omega
          go_wp2
          go_ret
          exact ⟨ret_bool (by rw [hno.out]), Below.refl _ _⟩
    · rw [List.take_of_length_le (by omega)] at hin
      have hyes := hid (rowOkB_iff.2 (show rowOk L n r from ⟨hrl.out, hin⟩))
      replace hin := hid hin
      go_wp2
      go_ret
      exact ⟨ret_bool (by rw [hyes.out]), Below.refl _ _⟩

set_option maxRecDepth 100000 in
set_option maxHeartbeats 4000000 in
theorem specAutomatonValid_any (a : Au) (A B : Option Addr) (c d : Nat) (w : World) (ha : AuAt w A c B d a) :
    Calls Tryd.prog 56 #[a.val A c B d] w fun e w' => e = .returned (.bool (auOk a)) ∧ Below w.heap.size w w' := by
  obtain ⟨cl, cm, dl, dm, hrows, -⟩ := ha
  unfold AG.Au.val
  obtain ⟨w0, hw0, hz0, hB0, hS⟩ := boxed w #[Value.int IntKind.i64 a.al, Value.slice A a.nx.length c, Value.slice B a.ac.length d] 26
  have hr0 := hid (hrows.later hB0)
  have p0 := hS 0 _ rfl _ (Below.refl _ _)
  have p1 := hS 1 _ rfl _ (Below.refl _ _)
  have p2 := hS 2 _ rfl _ (Below.refl _ _)
  replace hrows := hid hrows
  go_enter Tryd.func56, Tryd.ntmps56
  go_wp2_with fail
  refine (l1Alphabet_any a.al w0).mono ?_
  rintro e w1 ⟨rfl, rfl⟩
  cases hal : alphaOk a.al
  case false =>
    have hno := hid (auOk_no (a := a) (by rw [hal]; simp))
    replace hal := hid hal
    go_wp2
    go_ret
    exact ⟨ret_bool (by rw [hno.out]), hB0⟩
  case true =>
  have hal' := hid hal
  clear hal
  by_cases hn1 : 1 ≤ a.nx.length
  case neg =>
    have hno := hid (auOk_no (a := a) (by omega))
    have ht : ((a.nx.length : Int) < 1) := by omega
    go_wp2
    go_ret
    exact ⟨ret_bool (by rw [hno.out]), hB0⟩
  by_cases hn2 : a.nx.length ≤ 12
  case neg =>
    have hno := hid (auOk_no (a := a) (by omega))
    have ht : ¬ ((a.nx.length : Int) < 1) := by omega
    have ht2 : ((12 : Int) < (a.nx.length : Int)) := by omega
    go_wp2
    go_ret
    exact ⟨ret_bool (by rw [hno.out]), hB0⟩
  have ht : ¬ ((a.nx.length : Int) < 1) := by omega
  have ht2 : ¬ ((12 : Int) < (a.nx.length : Int)) := by omega
  by_cases hn3 : a.ac.length = a.nx.length
  case neg =>
    have hno := hid (auOk_no (a := a) (fun h => hn3 h.2.2.2.1))
    have ht3 : ((a.ac.length : Int) != (a.nx.length : Int)) = true := by simp; omega
    replace hn3 := hid hn3
    go_wp2
    go_ret
    exact ⟨ret_bool (by rw [hno.out]), hB0⟩
  have ht3 : ((a.ac.length : Int) != (a.nx.length : Int)) = false := by simp; omega
  replace hn3 := hid hn3
  obtain ⟨L, hL⟩ : ∃ L, Hid (L = (letters a.al).length) := ⟨_, hid rfl⟩
  have hL6 : L ≤ 6 := by rw [hL.out]; exact lettersTo_len a.al 6
  go_wp2_with fail
  clear p0 p1 p2
  go_loopw [4] (fun iv wr => ∃ i : Nat, iv = .int .i64 (i : Nat) ∧ i ≤ a.nx.length ∧ (∀ r ∈ a.nx.take i, rowOk L a.nx.length r) ∧ Below w0.heap.size w0 wr) (fun iv _ => a.nx.length - (intOf iv).toNat)
  case atStart => exact ⟨0, rfl, by omega, by simp, Below.refl _ _⟩
  case round =>
    obtain ⟨i, rfl, hi, hok, hb⟩ := hrel
    have hBr := hB0.trans (hb.mono hB0.size)
    by_cases hlt : i < a.nx.length
    · obtain ⟨b, o, hA, hbB, hE⟩ := hr0.out (by omega)
      subst hA
      obtain ⟨Ai, ci, e0, h1, h2, h3⟩ := hE i hlt
      rw [← hb.cell (by simpa using hbB)] at e0
      obtain ⟨r, hr⟩ : ∃ r, Hid (r = a.nx[i]) := ⟨_, hid rfl⟩
      rw [← hr.out] at e0 h1 h3
      have hmem : Hid (r ∈ a.nx) := hid (by rw [hr.out]; exact List.getElem_mem _)
      have k1 : (0 : Int) ≤ (i : Int) ∧ (i : Int) < (a.nx.length : Int) := by omega
      have h3' := hid h3
      replace hE := hid hE
      replace hok := hid hok
      clear h3
      have hF : ∀ x, Below (w.heap.size + 1) w0 (Fam wr.heap.size wr x) := fun x => (hb.trans ((Fam.below _ _ x).mono hb.size)).mono hz0
      have y0 := fun x => hS 0 _ rfl _ (hF x)
      have y1 := fun x => hS 1 _ rfl _ (hF x)
      have y2 := fun x => (Fam.below wr.heap.size wr x).cell (World.block_lt_of_cell? _ _ e0) |>.trans e0
      obtain ⟨R, hR⟩ : ∃ R, Hid (R = rowOkB L a.nx.length r) := ⟨_, hid rfl⟩
      have hrd := hid (h3'.out.later hb)
      replace hF := hid hF
      clear e0
      go_wp2_with fail
      refine wp_region_grow 12 wr.heap.size wr (fun i u w' => if i = 7 then OwnNats w' wr.heap.size u (letters a.al) else u = .bool R) (by kernel_rfl) (by kernel_rfl) (Nat.le_refl _) (Below.refl _ _) ?_
      simp only [List.take_succ_cons, List.take_zero, List.drop_succ_cons, List.drop_zero]
      (repeat (refine grow_quiet (by rfl) (by rfl) (by rfl) ?_; intro K hK; go_big_quiet_op; go_big_quiet_on))
      refine grow_call (by rfl) (by rfl) (fun u v v' hb h => ?_) (fun wq hbq _ => ?_) fun u hu => ?_
      · exact own_keep h (.of_below (K := fun _ => False) hb) fun _ _ h => h
      · go_simp
        refine ⟨rfl, (l1Letters_any a.al wq).mono ?_⟩
        rintro e w5 ⟨v, rfl, ho, hb5⟩
        exact ⟨v, rfl, hb5, own_base ho hbq.size⟩
      obtain ⟨wx, hbx, hux⟩ := hu
      obtain ⟨AL, cL, rfl, hcL, hcL'⟩ := own_slice hux
      rw [← hL.out] at hcL ⊢
      clear hux hbx
      simp only [Act.put, List.setIfInBounds_toArray, List.set_cons_zero, List.set_cons_succ]
      (repeat (refine grow_quiet (by rfl) (by rfl) (by rfl) ?_; intro K hK; go_big_quiet_op; go_big_quiet_on))
      refine grow_val (.bool R) (by rfl) (by rfl) rfl (fun wq hbq _ => ?_) ?_
      · have hrq := hid (hrd.out.later hbq)
        go_simp
        refine ⟨rfl, (l3Row_any r Ai ci L a.nx.length wq h1 h2 hrq.out).mono ?_⟩
        rintro e w6 ⟨rfl, hb6⟩
        exact ⟨by rw [hR.out], hb6⟩
      simp only [Act.put, List.setIfInBounds_toArray, List.set_cons_zero, List.set_cons_succ]
      (repeat (refine grow_quiet (by rfl) (by rfl) (by rfl) ?_; intro K hK; go_big_quiet_op; go_big_quiet_on))
      refine grow_nil ?_
      intro w7 hb7 hf
      clear hf y0 y1 y2
      have hb27 := hb.trans (hb7.mono hb.size)
      have hB7 := hB0.trans (hb27.mono hB0.size)
      cases R
      · have hno := hid (auOk_no (a := a) (fun h => by
          have h5 := rowOkB_iff.2 (h.2.2.2.2 r hmem.out)
          rw [← hL.out, ← hR.out] at h5
          cases h5))
        go_wp2_with fail
        go_ret
        exact ⟨ret_bool (by rw [hno.out]), hB7⟩
      · have hro := hid (rowOkB_iff.1 hR.out.symm)
        go_wp2_with fail
        go_roundw
        case rel =>
          refine ⟨i + 1, by go_num, by omega, fun y hy => ?_, hb27⟩
          rw [List.take_succ_eq_append_getElem hlt, List.mem_append, List.mem_singleton, ← hr.out] at hy
          rcases hy with hy | rfl
          · exact hok.out y hy
          · exact hro.out
        case measure => simp [intOf]; omega
    · rw [List.take_of_length_le (by omega)] at hok
      have hyes := hid ((auOk_iff a).2 ⟨hal'.out, hn1, hn2, hn3.out, by rw [← hL.out]; exact hok⟩)
      replace hok := hid hok
      go_wp2
      go_ret
      exact ⟨ret_bool (by rw [hyes.out]), hBr⟩

set_option maxRecDepth 100000 in
set_option maxHeartbeats 1000000 in
theorem l6Accepting_any (a : Au) (A B : Option Addr) (c d : Nat) (w : World) (hn : a.ac.length = a.nx.length) (h12 : a.nx.length ≤ 12) (ha : AuAt w A c B d a) :
    Calls Tryd.prog 59 #[a.val A c B d] w fun e w' => e = .returned (.int .i64 (accS a : Nat)) ∧ Below w.heap.size w w' := by
  obtain ⟨cl, cm, dl, dm, -, hacc⟩ := ha
  unfold AG.Au.val
  obtain ⟨w0, hw0, hz0, hB0, hS⟩ := boxed w #[Value.int IntKind.i64 a.al, Value.slice A a.nx.length c, Value.slice B a.ac.length d] 26
  have ha0 := hid (hacc.later hB0)
  have p2 := hS 2 _ rfl _ (Below.refl _ _)
  replace hacc := hid hacc
  have h12' : a.ac.length ≤ 12 := by omega
  have hfin : Hid (accSet a a.ac.length = accS a) := hid (by unfold accS; rw [hn])
  clear hn
  go_enter Tryd.func59, Tryd.ntmps59
  go_wp2_with fail
  go_loopw [3, 4] (fun sv iv wr => ∃ i : Nat, iv = .int .i64 (i : Nat) ∧ i ≤ a.ac.length ∧ sv = .int .i64 (accSet a i : Nat) ∧ wr = w0) (fun _ iv _ => a.ac.length - (intOf iv).toNat)
  case atStart => exact ⟨0, rfl, by omega, rfl, rfl⟩
  case round =>
    obtain ⟨i, rfl, hi, rfl, rfl⟩ := hrel
    have hlt2 := accSet_lt a i
    by_cases hlt : i < a.ac.length
    · obtain ⟨b, o, hA, hbB, hE⟩ := ha0.out (by omega)
      subst hA
      have c0 := hE i hlt
      have hsucc : Hid (accSet a (i + 1) = if a.ac[i] = true then accSet a i ||| 2 ^ i else accSet a i) := hid (by
        show (if a.ac.getD i false = true then _ else _) = _
        rw [List.getD_eq_getElem?_getD, List.getElem?_eq_getElem hlt]
        rfl)
      obtain ⟨t, ht⟩ : ∃ t, t = a.ac[i] := ⟨_, rfl⟩
      rw [← ht] at c0 hsucc
      have k1 : (0 : Int) ≤ (i : Int) ∧ (i : Int) < (a.ac.length : Int) := by omega
      replace hE := hid hE
      clear ht
      have hpw : 2 ^ i ≤ 2 ^ 12 := Nat.pow_le_pow_right (by omega) (by omega)
      cases t
      · have hs : Hid (accSet a (i + 1) = accSet a i) := hid (by rw [hsucc.out]; simp)
        clear hpw hlt2
        go_wp2_with fail
        go_roundw
        case rel => exact ⟨i + 1, by go_num, by omega, by rw [hs.out], by first | rfl | trivial⟩
        case measure => simp [intOf]; omega
      · have hs : Hid (accSet a (i + 1) = accSet a i ||| 2 ^ i) := hid (by rw [hsucc.out]; simp)
        obtain ⟨S, hSs⟩ : ∃ S, Hid (S = accSet a i) := ⟨_, hid rfl⟩
        rw [← hSs.out] at hlt2 hs ⊢
        obtain ⟨P, hP⟩ : ∃ P, Hid (P = 2 ^ i) := ⟨_, hid rfl⟩
        rw [← hP.out] at hlt2 hs hpw
        have hor := bits_orN S P (by omega) (by omega)
        go_wp2_with (go_at_call 121; refine (l1Bit_any i _ (by omega)).mono ?_; rintro e w' ⟨rfl, rfl⟩; rw [← hP.out])
        go_roundw
        case rel => exact ⟨i + 1, by go_num, by omega, by rw [hs.out], by first | rfl | trivial⟩
        case measure => simp [intOf]; omega
    · obtain rfl : i = a.ac.length := by omega
      go_wp2_with fail
      go_ret
      exact ⟨ret_int (by rw [hfin.out]), hB0⟩

end Go.Proofs.YtjhlbeamfngebaaDoor

/- math/bits.OnesCount on small numbers; the program's rank. -/
namespace Go.Proofs.YtjhlbeamfngebaaDoor
open Go.RowKit Go.BigFrame AG

theorem and_u64 (a b : Nat) (ha : a < 18446744073709551616) (hb : b < 18446744073709551616) : bits .and .u64 (a : Int) (b : Int) = ((a &&& b : Nat) : Int) := by
  have hx : a &&& b < 2 ^ 64 := Nat.and_lt_two_pow _ (by omega)
  show IntKind.u64.wrap ((BitVec.ofInt 64 (a : Int) &&& BitVec.ofInt 64 (b : Int)).toNat : Int) = _
  rw [BitVec.toNat_and, BitVec.ofInt_natCast, BitVec.ofInt_natCast, BitVec.toNat_ofNat, BitVec.toNat_ofNat, Nat.mod_eq_of_lt (by omega), Nat.mod_eq_of_lt (by omega), IntKind.wrap_u64]
  omega
theorem wrap_u64n (a b : Nat) (h : a + b < 18446744073709551616) : IntKind.u64.wrap ((a : Int) + (b : Int)) = ((a + b : Nat) : Int) := by
  rw [IntKind.wrap_u64]
  omega

set_option maxHeartbeats 4000000 in
theorem onesCount64_any (x : Nat) (hx : x < 65536) (w : World) :
    Calls Tryd.prog 170 #[.int .u64 x] w fun e w' => e = .returned (.int .i64 (popE x : Nat)) ∧ w = w' := by
  have hp := hid (pop_steps x hx)
  obtain ⟨a1, ha1⟩ : ∃ a, a = x / 2 &&& 6148914691236517205 := ⟨_, rfl⟩
  obtain ⟨a2, ha2⟩ : ∃ a, a = x &&& 6148914691236517205 := ⟨_, rfl⟩
  have l1 : a1 ≤ x / 2 := by rw [ha1]; exact Nat.and_le_left
  have l2 : a2 ≤ x := by rw [ha2]; exact Nat.and_le_left
  have f1 : bits .and .u64 ((x : Int) / 2) 6148914691236517205 = (a1 : Nat) := by
    have := and_u64 (x / 2) 6148914691236517205 (by omega) (by omega)
    rw [← ha1] at this
    exact this
  have f2 : bits .and .u64 (x : Int) 6148914691236517205 = (a2 : Nat) := by
    have := and_u64 x 6148914691236517205 (by omega) (by omega)
    rw [← ha2] at this
    exact this
  obtain ⟨x1, hx1⟩ : ∃ a, a = a1 + a2 := ⟨_, rfl⟩
  have f3 : IntKind.u64.wrap ((a1 : Int) + (a2 : Int)) = (x1 : Nat) := by rw [wrap_u64n a1 a2 (by omega), hx1]
  obtain ⟨b1, hb1⟩ : ∃ a, a = x1 / 4 &&& 3689348814741910323 := ⟨_, rfl⟩
  obtain ⟨b2, hb2⟩ : ∃ a, a = x1 &&& 3689348814741910323 := ⟨_, rfl⟩
  have m1 : b1 ≤ x1 / 4 := by rw [hb1]; exact Nat.and_le_left
  have m2 : b2 ≤ x1 := by rw [hb2]; exact Nat.and_le_left
  have f4 : bits .and .u64 ((x1 : Int) / 4) 3689348814741910323 = (b1 : Nat) := by
    have := and_u64 (x1 / 4) 3689348814741910323 (by omega) (by omega)
    rw [← hb1] at this
    exact this
  have f5 : bits .and .u64 (x1 : Int) 3689348814741910323 = (b2 : Nat) := by
    have := and_u64 x1 3689348814741910323 (by omega) (by omega)
    rw [← hb2] at this
    exact this
  obtain ⟨x2, hx2⟩ : ∃ a, a = b1 + b2 := ⟨_, rfl⟩
  have f6 : IntKind.u64.wrap ((b1 : Int) + (b2 : Int)) = (x2 : Nat) := by rw [wrap_u64n b1 b2 (by omega), hx2]
  obtain ⟨y, hy⟩ : ∃ a, a = x2 / 16 + x2 := ⟨_, rfl⟩
  have f7 : IntKind.u64.wrap ((x2 : Int) / 16 + (x2 : Int)) = (y : Nat) := by
    have := wrap_u64n (x2 / 16) x2 (by omega)
    rw [← hy] at this
    exact this
  obtain ⟨x3, hx3⟩ : ∃ a, a = y &&& 1085102592571150095 := ⟨_, rfl⟩
  have m3 : x3 ≤ y := by rw [hx3]; exact Nat.and_le_left
  have f8 : bits .and .u64 (y : Int) 1085102592571150095 = (x3 : Nat) := by
    have := and_u64 y 1085102592571150095 (by omega) (by omega)
    rw [← hx3] at this
    exact this
  obtain ⟨x4, hx4⟩ : ∃ a, a = x3 + x3 / 256 := ⟨_, rfl⟩
  have f9 : IntKind.u64.wrap ((x3 : Int) + (x3 : Int) / 256) = (x4 : Nat) := by
    have := wrap_u64n x3 (x3 / 256) (by omega)
    rw [← hx4] at this
    exact this
  obtain ⟨x5, hx5⟩ : ∃ a, a = x4 + x4 / 65536 := ⟨_, rfl⟩
  have f10 : IntKind.u64.wrap ((x4 : Int) + (x4 : Int) / 65536) = (x5 : Nat) := by
    have := wrap_u64n x4 (x4 / 65536) (by omega)
    rw [← hx5] at this
    exact this
  obtain ⟨x6, hx6⟩ : ∃ a, a = x5 + x5 / 4294967296 := ⟨_, rfl⟩
  have f11 : IntKind.u64.wrap ((x5 : Int) + (x5 : Int) / 4294967296) = (x6 : Nat) := by
    have := wrap_u64n x5 (x5 / 4294967296) (by omega)
    rw [← hx6] at this
    exact this
  have f12 : IntKind.i64.wrap (x6 : Int) = (x6 : Int) := IntWalk.i64_in _ (by omega)
  have hfin : popE x = x6 &&& 127 := by rw [hp.out, hx6, hx5, hx4, hx3, hy, hx2, hb1, hb2, hx1, ha1, ha2]; rfl
  have f13 : bits .and .i64 (x6 : Int) 127 = ((popE x : Nat) : Int) := by
    have hx : x6 &&& 127 < 2 ^ 7 := Nat.and_lt_two_pow _ (by omega)
    rw [hfin]
    show IntKind.i64.wrap ((BitVec.ofInt 64 (x6 : Int) &&& BitVec.ofInt 64 ((127 : Nat) : Int)).toNat : Int) = _
    rw [BitVec.toNat_and, BitVec.ofInt_natCast, BitVec.ofInt_natCast, BitVec.toNat_ofNat, BitVec.toNat_ofNat, Nat.mod_eq_of_lt (by omega), Nat.mod_eq_of_lt (by omega), IntKind.wrap_i64]
    omega
  clear hp ha1 ha2 hx1 hb1 hb2 hx2 hy hx3 hx4 hx5 hx6 hfin l1 l2 m1 m2 m3
  go_enter Tryd.func170, Tryd.ntmps170
  go_wp2
  go_ret
  exact ⟨rfl, rfl⟩

set_option maxHeartbeats 1000000 in
theorem onesCount_any (x : Nat) (hx : x < 65536) (w : World) :
    Calls Tryd.prog 123 #[.int .u64 x] w fun e w' => e = .returned (.int .i64 (popE x : Nat)) ∧ w = w' := by
  go_enter Tryd.func123, Tryd.ntmps123
  go_wp2_with (go_at_call 170; refine (onesCount64_any x hx _).mono ?_; rintro e w' ⟨rfl, rfl⟩)
  go_ret
  exact ⟨rfl, rfl⟩

end Go.Proofs.YtjhlbeamfngebaaDoor

/- Ranks: the program's rank, the reference's l2Rank. -/
namespace Go.Proofs.YtjhlbeamfngebaaDoor
open Go.RowKit Go.BigFrame AG

set_option maxHeartbeats 1000000 in
theorem implRank_any (S n : Nat) (w : World) (hS : S < 65536) (hn : n ≤ 16) :
    Calls Tryd.prog 62 #[.int .i64 (S : Nat), .int .i64 (n : Nat)] w fun e w' => e = .returned (.int .i64 (rankN S n : Nat)) ∧ w = w' := by
  have h2 : 2 ^ n ≤ 2 ^ 16 := Nat.pow_le_pow_right (by omega) hn
  have h3 : 0 < 2 ^ n := Nat.two_pow_pos n
  have f1 := wrap_pow (n := n) (by omega)
  obtain ⟨M, hM⟩ : ∃ M, M = 2 ^ n - 1 := ⟨_, rfl⟩
  have f2 : (((2 ^ n : Nat) : Int) - 1) = (M : Int) := by omega
  have f3 := bits_andN S M hS (by omega)
  obtain ⟨X, hX⟩ : ∃ X, X = S &&& M := ⟨_, rfl⟩
  rw [← hX] at f3
  have hXl : X < 65536 := by
    have : X ≤ S := by rw [hX]; exact Nat.and_le_left
    omega
  have hfin : Hid (popE X = rankN S n) := hid (by rw [popE_rank, hX, hM, rank_mask S n 16 hn])
  generalize hP : 2 ^ n = P at *
  clear hM hX
  go_enter Tryd.func62, Tryd.ntmps62
  go_wp2_with (go_at_call 123; refine (onesCount_any X hXl _).mono ?_; rintro e w' ⟨rfl, rfl⟩; rw [hfin.out])
  go_ret
  exact ⟨rfl, rfl⟩

set_option maxHeartbeats 1000000 in
theorem l2Rank_any (S n : Nat) (w : World) (hn : n ≤ 16) :
    Calls Tryd.prog 120 #[.int .i64 (S : Nat), .int .i64 (n : Nat)] w fun e w' => e = .returned (.int .i64 (rankN S n : Nat)) ∧ w = w' := by
  go_enter Tryd.func120, Tryd.ntmps120
  go_wp2_with fail
  go_loopw [5, 6] (fun o i wr => ∃ k : Nat, i = .int .i64 (k : Nat) ∧ k ≤ n ∧ o = .int .i64 (rankN S k : Nat) ∧ w = wr) (fun _ i _ => n - (intOf i).toNat)
  case atStart => exact ⟨0, rfl, by omega, rfl, rfl⟩
  case round =>
    obtain ⟨k, rfl, hk, rfl, rfl⟩ := hrel
    have hle := rankN_le S k
    by_cases hlt : k < n
    · have hnx : Hid (rankN S (k + 1) = rankN S k + if S.testBit k = true then 1 else 0) := hid rfl
      cases hb : S.testBit k
      · have hn2 : Hid (rankN S (k + 1) = rankN S k) := hid (by rw [hnx.out, hb]; simp)
        replace hb := hid hb
        go_wp2_with (go_at_call 119; refine (l1Has_nat S k _ (by omega)).mono ?_; rintro e w' ⟨rfl, rfl⟩; rw [hb.out])
        go_roundw
        case rel => exact ⟨k + 1, by go_num, by omega, by rw [hn2.out], by first | trivial | rfl⟩
        case measure => simp [intOf]; omega
      · have hn2 : Hid (rankN S (k + 1) = rankN S k + 1) := hid (by rw [hnx.out, hb]; simp)
        replace hb := hid hb
        go_wp2_with (go_at_call 119; refine (l1Has_nat S k _ (by omega)).mono ?_; rintro e w' ⟨rfl, rfl⟩; rw [hb.out])
        go_roundw
        case rel => exact ⟨k + 1, by go_num, by omega, by rw [hn2.out]; go_num, by first | trivial | rfl⟩
        case measure => simp [intOf]; omega
    · obtain rfl : k = n := by omega
      go_wp2
      go_ret
      exact ⟨rfl, rfl⟩

end Go.Proofs.YtjhlbeamfngebaaDoor

/- A system with only some of its states: the program's subSystem, the reference's l2Keep. -/
namespace Go.Proofs.YtjhlbeamfngebaaDoor
open Go.RowKit Go.BigFrame AG

/-- The result under way: its own block gs, its edges a row that the call owns. -/
structure SubSt (w0 wr : World) (gs : Nat) (al st : Int) (v : Value) (es : List Ed) : Prop where
  blk : Blk wr gs 37 #[.int .i64 al, .int .i64 st, v]
  own : wr.ownsRow w0.heap.size 77 3 v es.length (edCells es)
  low : w0.heap.size ≤ gs
  keep : Below w0.heap.size w0 wr
theorem SubSt.later {w0 wr w1 : World} {gs : Nat} {al st : Int} {v : Value} {es : List Ed} (h : SubSt w0 wr gs al st v es) (hb : Below wr.heap.size wr w1) : SubSt w0 w1 gs al st v es :=
  ⟨h.blk.below hb h.blk.lt, own_later h.own hb, h.low, h.keep.trans (hb.mono h.keep.size)⟩
theorem SubSt.add {w0 wr w1 : World} {gs gg cap : Nat} {al st : Int} {v : Value} {es : List Ed} {x : Ed} (h : SubSt w0 wr gs al st v es)
    (hown : w1.ownsRow w0.heap.size 77 3 (.slice (some ⟨gg, 0, none⟩) (es.length + 1) cap) (es.length + 1) (edCells es ++ [.int .i64 x.f, .int .i64 x.l, .int .i64 x.t])) (hg : wr.grownBy w1 v.ownBlock) :
    SubSt w0 (w1.setCell ⟨gs, 2, none⟩ (.slice (some ⟨gg, 0, none⟩) (es.length + 1) cap)) gs al st (.slice (some ⟨gg, 0, none⟩) (es.length + 1) cap) (es ++ [x]) := by
  have hne : v.ownBlock ≠ some gs := fun e => own_ne h.own h.blk (by decide) gs e rfl
  have hb1 : Blk w1 gs 37 #[.int .i64 al, .int .i64 st, v] := by
    have := hg.block gs h.blk.lt (Ne.symm hne)
    exact this.trans h.blk
  have hne2 : (Value.slice (some ⟨gg, 0, none⟩) (es.length + 1) cap).ownBlock ≠ some gs := fun e => own_ne hown hb1 (by decide) gs e rfl
  refine ⟨by simpa using hb1.set_ 2 (.slice (some ⟨gg, 0, none⟩) (es.length + 1) cap), ?_, h.low, ?_⟩
  · have e : (es ++ [x]).length = es.length + 1 := by simp
    rw [e, edCells_append]
    exact ownsRow_setCell_other hown hne2 _
  · exact Below.setCell (h.keep.grown hg h.keep.size (fun k hk => (h.own.lt k hk).1)) (by have := h.low; simpa using this) _

def SubPost (w : World) (x : Sy) (e : Ending) (w' : World) : Prop := ∃ (A : Option Addr) (c : Nat), e = .returned (x.val A c) ∧ x.es.length ≤ c ∧ c ≤ 9223372036854775807 ∧ EdsAt w' w'.heap.size A x.es ∧ FreshA w.heap.size A ∧ Below w.heap.size w w'

set_option maxRecDepth 100000 in
set_option maxHeartbeats 8000000 in
theorem l2Keep_any (s : Sy) (A : Option Addr) (c R : Nat) (w : World) (hs : edgesIn s) (hst : s.st ≤ 16) (hst0 : 0 ≤ s.st) (hR : R < 2 ^ s.st.toNat) (hL : s.es.length ≤ 1000000) (hl : s.es.length ≤ c) (hc : c ≤ 9223372036854775807) (hr : EdsAt w w.heap.size A s.es) :
    Calls Tryd.prog 58 #[s.val A c, .int .i64 (R : Nat)] w (SubPost w (trimSy s R)) := by
  obtain ⟨i0, hi, hz0, hz1, hz2⟩ := info_parts infoEd
  unfold Sy.val
  have hR16 : R < 65536 := by
    have : 2 ^ s.st.toNat ≤ 2 ^ 16 := Nat.pow_le_pow_right (by omega) (by omega)
    omega
  obtain ⟨n, hn⟩ := Int.eq_ofNat_of_zero_le hst0
  have hn16 : n ≤ 16 := by omega
  have hpop : Hid (popE R = rankN R n) := hid (by rw [popE_rank]; exact rank_top (by rw [hn] at hR; simpa using hR) 16 hn16)
  have htr : Hid (trimSy s R = ⟨s.al, (rankN R n : Nat), trimEs R s.es⟩) := hid (by unfold trimSy; rw [hn]; rfl)
  have hpar := (Blk.new w 37 #[.int .i64 s.al, .int .i64 s.st, .slice A s.es.length c]).alloc (.cells #[.int .i64 0, .int .i64 0, .slice none 0 0] 37)
  have hres := Blk.new (w.alloc (.cells #[.int .i64 s.al, .int .i64 s.st, .slice A s.es.length c] 37)) 37 #[.int .i64 0, .int .i64 0, .slice none 0 0]
  have hb0 : Below w.heap.size w ((w.alloc (.cells #[.int .i64 s.al, .int .i64 s.st, .slice A s.es.length c] 37)).alloc (.cells #[.int .i64 0, .int .i64 0, .slice none 0 0] 37)) := ((Below.refl _ _).alloc (Nat.le_refl _) _).alloc (by simp) _
  have hsz0 : ((w.alloc (.cells #[.int .i64 s.al, .int .i64 s.st, .slice A s.es.length c] 37)).alloc (.cells #[.int .i64 0, .int .i64 0, .slice none 0 0] 37)).heap.size = w.heap.size + 2 := by simp
  simp only [World.size_alloc] at hres
  generalize hw0 : (w.alloc (.cells #[.int .i64 s.al, .int .i64 s.st, .slice A s.es.length c] 37)).alloc (.cells #[.int .i64 0, .int .i64 0, .slice none 0 0] 37) = w0 at hres hb0 hsz0 hpar
  rw [hn] at hpar
  have p0 := hpar.cell 0
  have p1 := hpar.cell 1
  have p2 := hpar.cell 2
  simp only [List.getElem?_toArray, List.getElem?_cons_zero, List.getElem?_cons_succ] at p0 p1 p2
  have q0 := GK.BI.cell p0
  have q1 := GK.BI.cell p1
  have q2 := GK.BI.cell p2
  have hs0 := hid (hr.later hb0)
  replace hr := hid hr
  replace hs := hid hs
  replace hres := hid hres
  have hpar' := hid hpar
  replace hsz0 := hid hsz0
  replace hn := hid hn
  clear p0 p1 p2 hpar
  go_enter Tryd.func58, Tryd.ntmps58
  go_wp2_with fail
  refine GK.wp_region 8 [8] 200 (KeepB fun _ => False) (GK.BI w0) (fun _ u _ => u = .int .i64 ((rankN R n : Nat) : Int)) (by kernel_rfl) (by kernel_rfl) (GK.BI.way w0) (by decide) (Below.refl _ _).drew ?_
  simp only [List.take_succ_cons, List.take_zero]
  (repeat (refine GK.grow_quiet w0 (by rfl) (by rfl) ?_; intro K hK; go_big_quiet_op; go_big_quiet_on))
  refine GK.grow_val (.int .i64 ((rankN R n : Nat) : Int)) (by rfl) rfl (fun m wq hm2 hbq _ => ?_) ?_
  · go_simp
    exact ⟨rfl, (l2Rank_any R n wq hn16).mono fun e w' ⟨h1, h2⟩ => ⟨h1, GK.BI.after hbq (by rw [← h2]; exact Below.refl _ _)⟩⟩
  simp only [Act.put, List.setIfInBounds_toArray, List.set_cons_zero, List.set_cons_succ]
  (repeat (refine GK.grow_quiet w0 (by rfl) (by rfl) ?_; intro K hK; go_big_quiet_op; go_big_quiet_on))
  refine GK.grow_new (K := fun _ => False) (by rfl) _ (fun b => .pointer (some ⟨b, 0, none⟩)) 37 #[.int .i64 0, .int .i64 0, .slice none 0 0] (fun _ => by go_simp) rfl (fun _ _ o h => GK.BI.alloc o h) (fun _ _ h => GK.BI.size h) (fun _ h => h.elim) (fun gs hgs => ?_)
  simp only [Act.put, List.setIfInBounds_toArray, List.set_cons_zero, List.set_cons_succ]
  refine GK.grow_nil ?_
  intro w1 hw1 hf
  simp only [List.filterMap_cons, List.filterMap_nil, List.getElem?_cons_zero, List.getElem?_cons_succ]
  obtain ⟨gs', e1, -, hblk⟩ := hf _ List.mem_cons_self
  cases e1
  replace hw1 : Below w0.heap.size w0 w1 := hw1
  clear hf q0 q1 q2 hw0
  have hblk' : Blk w1 gs 37 #[.int .i64 0, .int .i64 0, .slice none 0 0] := hblk
  have hgl := hblk'.lt
  have c0 := hblk'.cell 0
  have c1 := hblk'.cell 1
  have c2 := hblk'.cell 2
  have f0 := hblk'.frozen 0
  have f1 := hblk'.frozen 1
  have f2 := hblk'.frozen 2
  simp only [List.getElem?_toArray, List.getElem?_cons_zero, List.getElem?_cons_succ] at c0 c1 c2
  have hS1 : Hid (SubSt w0 (((w1.setCell ⟨gs, 0, none⟩ (.int .i64 s.al)).setCell ⟨gs, 1, none⟩ (.int .i64 ((rankN R n : Nat) : Int))).setCell ⟨gs, 2, none⟩ (.slice none 0 0)) gs s.al ((rankN R n : Nat) : Int) (.slice none 0 0) []) := hid
    ⟨by simpa using ((hblk'.set_ 0 (.int .i64 s.al)).set_ 1 (.int .i64 ((rankN R n : Nat) : Int))).set_ 2 (.slice none 0 0), World.ownsRow_nil _ _ _ _, hgs,
      ((hw1.setCell (by simpa using hgs) _).setCell (by simpa using hgs) _).setCell (by simpa using hgs) _⟩
  obtain ⟨w2, hw2⟩ : ∃ w2, ((w1.setCell ⟨gs, 0, none⟩ (.int .i64 s.al)).setCell ⟨gs, 1, none⟩ (.int .i64 ((rankN R n : Nat) : Int))).setCell ⟨gs, 2, none⟩ (.slice none 0 0) = w2 := ⟨_, rfl⟩
  rw [hw2] at hS1
  have hparr := fun (wr : World) (hb : Below w0.heap.size w0 wr) => (hpar'.out.below hb hpar'.out.lt)
  have hpz := hS1.out.keep
  have g0 := (hparr _ hpz).cell 0
  have g1 := (hparr _ hpz).cell 1
  have g2 := (hparr _ hpz).cell 2
  simp only [List.getElem?_toArray, List.getElem?_cons_zero, List.getElem?_cons_succ] at g0 g1 g2
  replace hparr := hid hparr
  replace hblk := hid hblk
  clear hblk' hpz
  go_wp2_with fail
  go_loopw [6] (fun i wr => ∃ (k : Nat) (v : Value), i = .int .i64 (k : Nat) ∧ k ≤ s.es.length ∧ SubSt w0 wr gs s.al ((rankN R n : Nat) : Int) v (trimEs R (s.es.take k))) (fun i _ => s.es.length - (intOf i).toNat)
  case atStart => exact ⟨0, _, rfl, by omega, hS1.out⟩
  case round =>
    clear g0 g1 g2
    obtain ⟨k, v, rfl, hk, hst2⟩ := hrel
    have hbr := hst2.keep
    have g0 := (hparr.out _ hbr).cell 0
    have g1 := (hparr.out _ hbr).cell 1
    have g2 := (hparr.out _ hbr).cell 2
    simp only [List.getElem?_toArray, List.getElem?_cons_zero, List.getElem?_cons_succ] at g0 g1 g2
    have hzr := hbr.size
    have hz00 := hsz0.out
    by_cases hlt : k < s.es.length
    · obtain ⟨b, o, hA, hbb, hE⟩ := hs0.out (by omega)
      subst hA
      obtain ⟨e0, e1, e2⟩ := hE k hlt
      rw [← hbr.cell (by simpa using hbb)] at e0 e1 e2
      obtain ⟨i1, i2, i3, i4, i5, i6, -, -, -⟩ := hs.out s.es[k] (List.getElem_mem _)
      have hhit := trimEs_hit (R := R) hlt
      have hmiss := trimEs_miss (R := R) hlt
      obtain ⟨x, hx⟩ : ∃ x, x = s.es[k] := ⟨_, rfl⟩
      rw [← hx] at e0 e1 e2 i1 i2 i3 i4 i5 i6 hhit hmiss
      obtain ⟨⟨xf, xl, xt⟩, rfl⟩ : ∃ y, y = x := ⟨_, rfl⟩
      simp only at e0 e1 e2 i1 i2 i3 i4 i5 i6
      obtain ⟨f, rfl⟩ := Int.eq_ofNat_of_zero_le i1
      obtain ⟨t, rfl⟩ := Int.eq_ofNat_of_zero_le i3
      have hf16 : f < 16 := by omega
      have ht16 : t < 16 := by omega
      have k1 : (0 : Int) ≤ (k : Int) ∧ (k : Int) < (s.es.length : Int) := by omega
      have hkept : Hid (keptE R ⟨(f : Int), xl, (t : Int)⟩ = (R.testBit f && R.testBit t)) := hid rfl
      have htrim : Hid (trimE R ⟨(f : Int), xl, (t : Int)⟩ = ⟨((rankN R f : Nat) : Int), xl, ((rankN R t : Nat) : Int)⟩) := hid rfl
      have r1 := rankN_le R f
      have r2 := rankN_le R t
      have hnb := Blk.new wr 77 #[.int .i64 (f : Int), .int .i64 xl, .int .i64 (t : Int)]
      have hba : Below wr.heap.size wr (wr.alloc (.cells #[.int .i64 (f : Int), .int .i64 xl, .int .i64 (t : Int)] 77)) := (Below.refl _ _).alloc (Nat.le_refl _) _
      have hbs : wr.heap.size < (wr.alloc (.cells #[.int .i64 (f : Int), .int .i64 xl, .int .i64 (t : Int)] 77)).heap.size := by simp
      generalize hwa : wr.alloc (.cells #[.int .i64 (f : Int), .int .i64 xl, .int .i64 (t : Int)] 77) = wa at hnb hba hbs
      have d0 := hnb.cell 0
      have d1 := hnb.cell 1
      have d2 := hnb.cell 2
      simp only [List.getElem?_toArray, List.getElem?_cons_zero, List.getElem?_cons_succ] at d0 d1 d2
      have hSa := hid (hst2.later hba)
      have hbl := hSa.out.blk.lt
      have hle : (trimEs R (s.es.take k)).length ≤ k := by have := trimEs_len R (s.es.take k); rw [List.length_take] at this; omega
      replace hE := hid hE
      replace hx := hid hx
      replace hhit := hid hhit
      replace hmiss := hid hmiss
      clear hst2
      cases hbf : R.testBit f
      · have hm := hid (hmiss.out (by rw [hkept.out, hbf]; rfl))
        replace hbf := hid hbf
        go_wp2_with (go_at_call 119; refine (l1Has_nat R f _ (by omega)).mono ?_; rintro e w' ⟨rfl, rfl⟩; rw [hbf.out])
        go_roundw
        case rel => exact ⟨k + 1, v, by go_num, by omega, by rw [hm.out]; exact hSa.out⟩
        case measure => simp [intOf]; omega
      · cases hbt : R.testBit t
        · have hm := hid (hmiss.out (by rw [hkept.out, hbf, hbt]; rfl))
          replace hbf := hid hbf
          replace hbt := hid hbt
          go_wp2_with fail
          refine (l1Has_nat R f _ (by omega)).mono ?_
          rintro e w' ⟨rfl, rfl⟩
          rw [hbf.out]
          go_wp2_with fail
          refine (l1Has_nat R t _ (by omega)).mono ?_
          rintro e w' ⟨rfl, rfl⟩
          rw [hbt.out]
          go_wp2_with fail
          go_roundw
          case rel => exact ⟨k + 1, v, by go_num, by omega, by rw [hm.out]; exact hSa.out⟩
          case measure => simp [intOf]; omega
        · have hm := hid (hhit.out (by rw [hkept.out, hbf, hbt]; rfl))
          replace hbf := hid hbf
          replace hbt := hid hbt
          have c2 := hSa.out.blk.cell 2
          simp only [List.getElem?_toArray, List.getElem?_cons_zero, List.getElem?_cons_succ] at c2
          have q0 := GK.BI.cell c2
          have q1 := GK.BI.cell d0
          have q2 := GK.BI.cell d1
          have q3 := GK.BI.cell d2
          obtain ⟨es, hes⟩ : ∃ es, es = trimEs R (s.es.take k) := ⟨_, rfl⟩
          rw [← hes] at hSa hle hm
          replace hes := hid hes
          go_wp2_with fail
          refine (l1Has_nat R f _ (by omega)).mono ?_
          rintro e w' ⟨rfl, rfl⟩
          rw [hbf.out]
          go_wp2_with fail
          refine (l1Has_nat R t _ (by omega)).mono ?_
          rintro e w' ⟨rfl, rfl⟩
          rw [hbt.out]
          go_wp2_with fail
          clear c2 d0 d1 d2
          refine GK.wp_region 14 [14, 15, 16] 200 (KeepB fun _ => False) (GK.BI wa) (fun i u _ => u = .int .i64 (((if i = 5 then rankN R f else rankN R t) : Nat) : Int)) (by kernel_rfl) (by kernel_rfl) (GK.BI.way wa) (by decide) (Below.refl _ _).drew ?_
          simp only [List.take_succ_cons, List.take_zero]
          (repeat (refine GK.grow_quiet wa (by rfl) (by rfl) ?_; intro K hK; go_big_quiet_op; go_big_quiet_on))
          refine GK.grow_val (.int .i64 ((rankN R f : Nat) : Int)) (by rfl) rfl (fun m wq hm2 hbq _ => ?_) ?_
          · go_simp
            exact ⟨rfl, (l2Rank_any R f wq (by omega)).mono fun e w' ⟨h1, h2⟩ => ⟨h1, GK.BI.after hbq (by rw [← h2]; exact Below.refl _ _)⟩⟩
          simp only [Act.put, List.setIfInBounds_toArray, List.set_cons_zero, List.set_cons_succ]
          (repeat (refine GK.grow_quiet wa (by rfl) (by rfl) ?_; intro K hK; go_big_quiet_op; go_big_quiet_on))
          refine GK.grow_val (.int .i64 ((rankN R t : Nat) : Int)) (by rfl) rfl (fun m wq hm2 hbq _ => ?_) ?_
          · go_simp
            exact ⟨rfl, (l2Rank_any R t wq (by omega)).mono fun e w' ⟨h1, h2⟩ => ⟨h1, GK.BI.after hbq (by rw [← h2]; exact Below.refl _ _)⟩⟩
          simp only [Act.put, List.setIfInBounds_toArray, List.set_cons_zero, List.set_cons_succ]
          (repeat (refine GK.grow_quiet wa (by rfl) (by rfl) ?_; intro K hK; go_big_quiet_op; go_big_quiet_on))
          refine GK.grow_new (K := fun _ => False) (by rfl) _ (fun b => .slice (some ⟨b, 0, none⟩) 1 1) 77 #[.int .i64 ((rankN R f : Nat) : Int), .int .i64 xl, .int .i64 ((rankN R t : Nat) : Int)] (fun _ => by go_simp) rfl (fun _ _ o h => GK.BI.alloc o h) (fun _ _ h => GK.BI.size h) (fun _ h => h.elim) (fun bb hbb2 => ?_)
          simp only [Act.put, List.setIfInBounds_toArray, List.set_cons_zero, List.set_cons_succ]
          refine GK.grow_nil ?_
          intro w4 hw4 hf
          obtain ⟨g', hge, hge2, hblk4⟩ := hf _ List.mem_cons_self
          cases hge
          clear hf
          simp only [List.filterMap_cons, List.filterMap_nil, List.getElem?_cons_zero, List.getElem?_cons_succ]
          replace hw4 : Below wa.heap.size wa w4 := hw4
          have hS4 := hid (hSa.out.later hw4)
          have z4 := hw4.size
          have hown4 := hS4.out.own
          have hbl4 := hS4.out.blk.lt
          have ag : v.ownBlock ≠ some gs := fun e => own_ne hS4.out.own hS4.out.blk (by decide) gs e rfl
          have c2 := hS4.out.blk.cell 2
          have f2 := hS4.out.blk.frozen 2
          simp only [List.getElem?_toArray, List.getElem?_cons_zero, List.getElem?_cons_succ] at c2
          clear q0 q1 q2 q3
          refine wpList_append_lies _ (by rfl) _ _ 35 (by rfl) w0.heap.size 77 i0 (.agg #[.int .i64 0, .int .i64 0, .int .i64 0]) 3 24 Tryd.underlying35 hi hz0 hz1 hz2 rfl (by decide) v es.length (edCells es) (by rfl) hown4 ⟨bb, 0, none⟩ 1 1 [.int .i64 ((rankN R f : Nat) : Int), .int .i64 xl, .int .i64 ((rankN R t : Nat) : Int)] (by rfl) (by rfl) (World.news_of_block hblk4) ?c1 (by omega) ?c3 ?c4 ?c5 w4.heap.size rfl ?_
          case c1 => simp [Value.oneCell']
          case c3 => unfold maxLen; omega
          case c4 => omega
          case c5 => have := hS4.out.keep.size; omega
          intro gg cap w5 hown5 hgrow hat hlt5
          have c2' : w5.cell? ⟨gs, 2, none⟩ = some v := by rw [hgrow.cell_far _ (by simpa using hbl4) (Ne.symm ag)]; exact c2
          have f2' : w5.frozen? ⟨gs, 2, none⟩ = false := by rw [hgrow.frozen_far _ (by simpa using hbl4) (Ne.symm ag)]; exact f2
          have hfin := hid (hS4.out.add (x := ⟨((rankN R f : Nat) : Int), xl, ((rankN R t : Nat) : Int)⟩) hown5 hgrow)
          have hz5 := hgrow.size
          clear hown4 hown5 hgrow c2 f2
          go_wp2_with fail
          go_roundw
          case rel => exact ⟨k + 1, _, by go_num, by omega, by rw [hm.out, htrim.out]; exact hfin.out⟩
          case measure => simp [intOf]; omega
    · obtain rfl : k = s.es.length := by omega
      rw [List.take_length] at hst2
      obtain ⟨Av, cv, hve, hv1, hv2⟩ := own_slice hst2.own
      subst hve
      have hrd := OwnEds.read (show OwnEds wr w0.heap.size (.slice Av (trimEs R s.es).length cv) (trimEs R s.es) from hst2.own)
      obtain ⟨A2, c2', hve2, h1, h2, h3, h4⟩ := hrd
      cases hve2
      have c0 := hst2.blk.cell 0
      have c1 := hst2.blk.cell 1
      have c2 := hst2.blk.cell 2
      have hresb := hres.out.below hbr hres.out.lt
      have d0 := hresb.cell 0
      have d1 := hresb.cell 1
      have d2 := hresb.cell 2
      have f0 := hresb.frozen 0
      have f1 := hresb.frozen 1
      have f2 := hresb.frozen 2
      simp only [List.getElem?_toArray, List.getElem?_cons_zero, List.getElem?_cons_succ] at c0 c1 c2 d0 d1 d2
      have hfin : Hid (SubPost w (trimSy s R) (.returned (.agg #[.int .i64 s.al, .int .i64 ((rankN R n : Nat) : Int), .slice Av (trimEs R s.es).length cv])) (((wr.setCell ⟨w.heap.size + 1, 0, none⟩ (.int .i64 s.al)).setCell ⟨w.heap.size + 1, 1, none⟩ (.int .i64 ((rankN R n : Nat) : Int))).setCell ⟨w.heap.size + 1, 2, none⟩ (.slice Av (trimEs R s.es).length cv))) := hid (by
        rw [htr.out]
        have hne : ∀ b o, Av = some ⟨b, o, none⟩ → 0 < (trimEs R s.es).length → b ≠ w.heap.size + 1 := fun b o hA _ => by have := h4 b o hA; omega
        refine ⟨Av, cv, rfl, h1, h2, ?_, fun b o hA => by have := h4 b o hA; omega, ?_⟩
        · simpa [World.setCell] using ((h3.stored _ hne).stored _ hne).stored _ hne
        · exact (((hb0.trans (hbr.mono (by omega))).setCell (by simp) _).setCell (by simp) _).setCell (by simp) _)
      have hvl := hresb.lt
      clear hresb hst2 h3 h4
      go_wp2
      refine bodyPost_ret (v := .agg #[.int .i64 s.al, .int .i64 ((rankN R n : Nat) : Int), .slice Av (trimEs R s.es).length cv]) (by simp [results, Tryd.results58, go_sem, d0, d1, d2]) rfl ?_
      exact hfin.out

end Go.Proofs.YtjhlbeamfngebaaDoor

/- The reference's SystemOf. -/
namespace Go.Proofs.YtjhlbeamfngebaaDoor
open Go.RowKit Go.BigFrame AG

def SoPost (w : World) (x : Sy) (ok : Bool) (e : Ending) (w' : World) : Prop := ∃ (A : Option Addr) (c : Nat), e = .returned (.tuple #[x.val A c, .bool ok]) ∧ x.es.length ≤ c ∧ c ≤ 9223372036854775807 ∧ EdsAt w' w'.heap.size A x.es ∧ FreshA w.heap.size A ∧ Below w.heap.size w w'
def SoOwn (w : World) (x : Sy) (ok : Bool) (e : Ending) (w' : World) : Prop := ∃ (A : Option Addr) (c : Nat), e = .returned (.tuple #[x.val A c, .bool ok]) ∧ OwnEds w' w.heap.size (.slice A x.es.length c) x.es ∧ Below w.heap.size w w'
theorem SoOwn.read {w : World} {x : Sy} {ok : Bool} {e : Ending} {w' : World} (h : SoOwn w x ok e w') : SoPost w x ok e w' := by
  obtain ⟨A, c, h1, h2, h3⟩ := h
  obtain ⟨A', c', e', k1, k2, k3, k4⟩ := OwnEds.read h2
  cases e'
  exact ⟨A, c, h1, k1, k2, k3, k4, h3⟩

/-- The system under way, and the letters. -/
structure SoSt (w0 wr : World) (gs : Nat) (al st : Int) (v : Value) (es : List Ed) (lv : Value) (L : List Nat) : Prop where
  sub : SubSt w0 wr gs al st v es
  list : OwnNats wr w0.heap.size lv L
theorem SoSt.later {w0 wr w1 : World} {gs : Nat} {al st : Int} {v lv : Value} {es : List Ed} {L : List Nat} (h : SoSt w0 wr gs al st v es lv L) (hb : Below wr.heap.size wr w1) : SoSt w0 w1 gs al st v es lv L := ⟨h.sub.later hb, own_later h.list hb⟩
theorem SoSt.add {w0 wr w1 : World} {gs gg cap : Nat} {al st : Int} {v lv : Value} {es : List Ed} {L : List Nat} {x : Ed} (h : SoSt w0 wr gs al st v es lv L)
    (hown : w1.ownsRow w0.heap.size 77 3 (.slice (some ⟨gg, 0, none⟩) (es.length + 1) cap) (es.length + 1) (edCells es ++ [.int .i64 x.f, .int .i64 x.l, .int .i64 x.t])) (hg : wr.grownBy w1 v.ownBlock) :
    SoSt w0 (w1.setCell ⟨gs, 2, none⟩ (.slice (some ⟨gg, 0, none⟩) (es.length + 1) cap)) gs al st (.slice (some ⟨gg, 0, none⟩) (es.length + 1) cap) (es ++ [x]) lv L := by
  have hbl : wr.grownBy w1 v.ownBlock := hg
  refine ⟨h.sub.add hown hg, ?_⟩
  have k2 : KeepB (fun b => v.ownBlock = some b ∨ b = gs) wr (w1.setCell ⟨gs, 2, none⟩ (.slice (some ⟨gg, 0, none⟩) (es.length + 1) cap)) := ((((KeepB.refl _ wr).grown hg (fun k hk _ => hk)).mono fun _ h => .inl h).setCell _ _ fun _ => .inr rfl)
  exact own_keep h.list k2 fun g hg hk => by
    rcases hk with hk | hk
    · exact own_ne_own h.list h.sub.own (by decide) g g hg hk rfl
    · exact own_ne h.list h.sub.blk (by decide) g hg hk

theorem soS_zero {a : Au} (h : soOk a = false) : soS a = ⟨0, 0, []⟩ := by unfold soS; rw [h]; rfl

set_option maxRecDepth 100000 in
set_option maxHeartbeats 8000000 in
theorem specSystemOf_any (a : Au) (A B : Option Addr) (c d : Nat) (w : World) (ha : AuAt w A c B d a) :
    Calls Tryd.prog 18 #[a.val A c B d] w (SoPost w (soS a) (soOk a)) := by
  obtain ⟨i0, hi, hz0', hz1', hz2'⟩ := info_parts infoEd
  obtain ⟨w0, hw0, hz0, hB0, hS, -⟩ := boxed2 w #[Value.int IntKind.i64 a.al, Value.slice A a.nx.length c, Value.slice B a.ac.length d] 26 #[Value.int IntKind.i64 0, Value.int IntKind.i64 0, Value.slice none 0 0] 37
  have hres : Blk w0 (w.heap.size + 1) 37 #[Value.int IntKind.i64 0, Value.int IntKind.i64 0, Value.slice none 0 0] := by
    rw [← hw0]
    have := Blk.new (w.alloc (.cells #[Value.int IntKind.i64 a.al, Value.slice A a.nx.length c, Value.slice B a.ac.length d] 26)) 37 #[Value.int IntKind.i64 0, Value.int IntKind.i64 0, Value.slice none 0 0]
    simpa using this
  have ha0 := hid (ha.later hB0)
  have p0 := hS 0 _ rfl _ (Below.refl _ _)
  have p1 := hS 1 _ rfl _ (Below.refl _ _)
  have p2 := hS 2 _ rfl _ (Below.refl _ _)
  replace ha := hid ha
  replace hres := hid hres
  unfold AG.Au.val
  go_enter Tryd.func18, Tryd.ntmps18
  go_wp2_with fail
  refine (specAutomatonValid_any a A B c d w0 ha0.out).mono ?_
  rintro e w1 ⟨rfl, hb1⟩
  have hB1 := hB0.trans (hb1.mono hB0.size)
  have hC1 := hb1.mono hz0
  have ha1 := hid (ha0.out.later hb1)
  have hz1 := hb1.size
  have hzero : soOk a = false → ∀ wx, Below w1.heap.size w1 wx → SoPost w (soS a) (soOk a) (.returned (.tuple #[.agg #[.int .i64 0, .int .i64 0, .slice none 0 0], .bool false])) (((wx.setCell ⟨w.heap.size + 1, 0, none⟩ (.int .i64 0)).setCell ⟨w.heap.size + 1, 1, none⟩ (.int .i64 0)).setCell ⟨w.heap.size + 1, 2, none⟩ (.slice none 0 0)) := fun h wx hbx => by
    rw [soS_zero h, h]
    exact ⟨none, 0, rfl, Nat.le_refl _, by omega, fun h => by simp at h, fun b o h => (by cases h), (((hB1.trans (hbx.mono hB1.size)).setCell (by simp) _).setCell (by simp) _).setCell (by simp) _⟩
  have hrb := hres.out.below hb1 hres.out.lt
  have d0 := hrb.cell 0
  have d1 := hrb.cell 1
  have d2 := hrb.cell 2
  have f0 := hrb.frozen 0
  have f1 := hrb.frozen 1
  have f2 := hrb.frozen 2
  have hlt1 := hrb.lt
  simp only [List.getElem?_toArray, List.getElem?_cons_zero, List.getElem?_cons_succ] at d0 d1 d2
  replace hzero := hid hzero
  replace hrb := hid hrb
  clear p0 p1 p2 hw0
  cases hok : auOk a
  · have hno := hid (hzero.out (by unfold soOk; rw [hok]; rfl) w1 (Below.refl _ _))
    replace hok := hid hok
    go_wp2
    refine bodyPost_ret (v := .tuple #[.agg #[.int .i64 0, .int .i64 0, .slice none 0 0], .bool false]) (by simp [results, Tryd.results18, go_sem, d0, d1, d2]) rfl ?_
    exact hno.out
  obtain ⟨-, hn1, hn12, hn3, -⟩ := (auOk_iff a).1 hok
  obtain ⟨bA, oA, hAe, hbA, hEA⟩ := ha1.out.acc (by omega)
  subst hAe
  have hac0 := hEA 0 (by omega)
  rw [Nat.add_zero] at hac0
  have hso : Hid (soOk a = a.ac[0]) := hid (by
    unfold soOk
    rw [hok, Bool.true_and, List.getD_eq_getElem?_getD, List.getElem?_eq_getElem (by omega)]
    rfl)
  obtain ⟨t, ht⟩ : ∃ t, t = a.ac[0] := ⟨_, rfl⟩
  rw [← ht] at hac0 hso
  have hok' := hid hok
  have hn3' := hid hn3
  have hal0 : (0 : Int) < (a.ac.length : Int) := by omega
  have p2 := hS 2 _ rfl _ hC1
  replace hEA := hid hEA
  clear hok hn3 ht
  cases t
  · have hno := hid (hzero.out hso.out w1 (Below.refl _ _))
    go_wp2
    refine bodyPost_ret (v := .tuple #[.agg #[.int .i64 0, .int .i64 0, .slice none 0 0], .bool false]) (by simp [results, Tryd.results18, go_sem, d0, d1, d2]) rfl ?_
    exact hno.out
  have p0 := hS 0 _ rfl _ hC1
  have p1 := hS 1 _ rfl _ hC1
  clear hzero d0 d1 d2 f0 f1 f2
  go_upto_region 4 with fail
  have hblk := Blk.new w1 37 #[.int .i64 a.al, .int .i64 (a.nx.length : Nat), .slice none 0 0]
  obtain ⟨w2, hw2, hz2, hB2', hU⟩ := boxed w1 #[.int .i64 a.al, .int .i64 (a.nx.length : Nat), .slice none 0 0] 37
  rw [hw2]
  rw [hw2] at hblk
  clear hw2
  have hC2 := hC1.trans (hB2'.mono (by omega))
  clear p0 p1 p2
  have p0 := hS 0 _ rfl _ hC2
  replace hblk := hid hblk
  go_wp2_with fail
  refine (l1Letters_any a.al w2).mono ?_
  rintro e w3 ⟨lv, rfl, hown3, hb3⟩
  have hs3 : SoSt w1 w3 w1.heap.size a.al (a.nx.length : Nat) (.slice none 0 0) (fullTo a 0) lv (letters a.al) := ⟨⟨hblk.out.below hb3 hblk.out.lt, World.ownsRow_nil _ _ _ _, Nat.le_refl _, hB2'.trans (hb3.mono (by omega))⟩, own_base hown3 (by omega)⟩
  obtain ⟨AL, cL, rfl, hcL, hcL'⟩ := own_slice hown3
  obtain ⟨L, hL⟩ : ∃ L, Hid (L = letters a.al) := ⟨_, hid rfl⟩
  rw [← hL.out] at hs3 hcL ⊢
  have hL6 : L.length ≤ 6 := by rw [hL.out]; exact letters_len6 a.al
  have hrow : Hid (∀ i (h : i < a.nx.length), (a.nx[i]).length = L.length) := hid fun i h => by rw [hL.out]; exact (row_at hok'.out h).2.1
  clear hown3 p0
  replace hs3 := hid hs3
  have hz12 : w1.heap.size < w2.heap.size := by omega
  have hpar := hid (fun (wr : World) (hb : Below w1.heap.size w1 wr) => And.intro (hS 0 _ rfl _ (hC1.trans (hb.mono (by omega)))) (And.intro (hS 1 _ rfl _ (hC1.trans (hb.mono (by omega)))) (hS 2 _ rfl _ (hC1.trans (hb.mono (by omega))))))
  have p1 := (hpar.out _ hs3.out.sub.keep).2.1
  go_wp2_with fail
  go_loopw [6] (fun iv wr => ∃ (i : Nat) (v : Value), iv = .int .i64 (i : Nat) ∧ i ≤ a.nx.length ∧ SoSt w1 wr w1.heap.size a.al (a.nx.length : Nat) v (fullTo a i) (.slice AL L.length cL) L) (fun iv _ => a.nx.length - (intOf iv).toNat)
  case atStart => exact ⟨0, _, rfl, by omega, hs3.out⟩
  case round =>
    clear p1
    obtain ⟨i, v, rfl, hi', hs⟩ := hrel
    have p1 := (hpar.out _ hs.sub.keep).2.1
    by_cases hlt : i < a.nx.length
    · have hs' := hid hs
      clear hs
      go_wp2_with fail
      obtain ⟨wo, rfl⟩ : ∃ wo : World, wo = wr := ⟨_, rfl⟩
      go_loopw [7] (fun kv wr => ∃ (k : Nat) (v : Value), kv = .int .i64 (k : Nat) ∧ k ≤ L.length ∧ SoSt w1 wr w1.heap.size a.al (a.nx.length : Nat) v (fullTo a i ++ (rowEs L i a.nx[i]).take k) (.slice AL L.length cL) L) (fun kv _ => L.length - (intOf kv).toNat)
      case atStart => exact ⟨0, v, rfl, by omega, by rw [List.take_zero, List.append_nil]; exact hs'.out⟩
      case round =>
        clear p1 hs'
        obtain ⟨k, v, rfl, hk, hs⟩ := hrel
        have p1 := (hpar.out _ hs.sub.keep).2.1
        by_cases hlk : k < L.length
        · obtain ⟨gl, cl, hve, -, -, -, -, hcell⟩ := own_nats hs.list (by omega)
          injection hve with e1 e2 e3
          subst e1
          subst e3
          have l0 := hcell k hlk
          have har := ha1.out.rows.later (show Below w1.heap.size w1 wr from hs.sub.keep)
          obtain ⟨bR, oR, hRe, hbR, hER⟩ := har (by omega)
          subst hRe
          obtain ⟨Ai, ci, r0, h1, h2, h3⟩ := hER i hlt
          have hrl := hrow.out i hlt
          have hek : Hid ((rowEs L i a.nx[i]).take (k + 1) = (rowEs L i a.nx[i]).take k ++ [⟨(i : Int), (L[k] : Int), (a.nx[i])[k]'(by omega)⟩]) := hid (rowEs_take L i a.nx[i] hlk (by omega))
          obtain ⟨r, hr⟩ : ∃ r, r = a.nx[i] := ⟨_, rfl⟩
          simp only [← hr] at r0 h1 h3 hrl hek hs ⊢
          obtain ⟨bi, oi, hie, hbi, hEi⟩ := h3 (by omega)
          subst hie
          have i0c := hEi k (by omega)
          obtain ⟨t, ht⟩ : ∃ t, t = r[k]'(by omega) := ⟨_, rfl⟩
          obtain ⟨l, hll⟩ : ∃ l, l = L[k] := ⟨_, rfl⟩
          rw [← ht] at i0c hek
          rw [← hll] at l0 hek
          have k1 : (0 : Int) ≤ (k : Int) ∧ (k : Int) < (L.length : Int) := by omega
          have k2 : (0 : Int) ≤ (i : Int) ∧ (i : Int) < (a.nx.length : Int) := by omega
          have k3 : (k : Int) < (r.length : Int) := by omega
          obtain ⟨es, hes⟩ : ∃ es, Hid (es = fullTo a i ++ (rowEs L i r).take k) := ⟨_, hid rfl⟩
          have hesl : es.length ≤ 1000 := by
            rw [hes.out, List.length_append, List.length_take]
            have := fullTo_len a i
            omega
          rw [← hes.out] at hs
          have c2 := hs.sub.blk.cell 2
          simp only [List.getElem?_toArray, List.getElem?_cons_zero, List.getElem?_cons_succ] at c2
          have q0 := GK.BI.cell c2
          have q1 := GK.BI.cell l0
          have q2 := GK.BI.cell p1
          have q3 := GK.BI.cell r0
          have q4 := GK.BI.cell i0c
          replace hs := hid hs
          replace hcell := hid hcell
          replace hER := hid hER
          replace hEi := hid hEi
          replace h3 := hid h3
          replace har := hid har
          replace hr := hid hr
          replace ht := hid ht
          replace hll := hid hll
          go_upto_region 11 with fail
          clear c2 l0 p1 r0 i0c
          refine GK.wp_region 17 [17, 18, 19] 200 (KeepB fun _ => False) (GK.BI wr) (fun _ _ _ => True) (by kernel_rfl) (by kernel_rfl) (GK.BI.way wr) (by decide) (Below.refl _ _).drew ?_
          simp only [List.take_succ_cons, List.take_zero]
          (repeat (refine GK.grow_quiet wr (by rfl) (by rfl) ?_; intro K hK; go_big_quiet_op; go_big_quiet_on))
          refine GK.grow_new (K := fun _ => False) (by rfl) _ (fun b => .slice (some ⟨b, 0, none⟩) 1 1) 77 #[.int .i64 (i : Nat), .int .i64 (l : Nat), .int .i64 t] (fun _ => by go_simp) rfl (fun _ _ o h => GK.BI.alloc o h) (fun _ _ h => GK.BI.size h) (fun _ h => h.elim) (fun bb hbb2 => ?_)
          simp only [Act.put, List.setIfInBounds_toArray, List.set_cons_zero, List.set_cons_succ]
          refine GK.grow_nil ?_
          intro w4 hw4 hf
          obtain ⟨g', hge, hge2, hblk4⟩ := hf _ List.mem_cons_self
          cases hge
          clear hf
          simp only [List.filterMap_cons, List.filterMap_nil, List.getElem?_cons_zero, List.getElem?_cons_succ]
          replace hw4 : Below wr.heap.size wr w4 := hw4
          have hS4 := hid (hs.out.later hw4)
          have hown4 := hS4.out.sub.own
          have hbl4 := hS4.out.sub.blk.lt
          have ag : v.ownBlock ≠ some w1.heap.size := fun e => own_ne hS4.out.sub.own hS4.out.sub.blk (by decide) w1.heap.size e rfl
          have c2 := hS4.out.sub.blk.cell 2
          have f2 := hS4.out.sub.blk.frozen 2
          simp only [List.getElem?_toArray, List.getElem?_cons_zero, List.getElem?_cons_succ] at c2
          clear q0 q1 q2 q3 q4
          refine wpList_append_lies _ (by rfl) _ _ 35 (by rfl) w1.heap.size 77 i0 (.agg #[.int .i64 0, .int .i64 0, .int .i64 0]) 3 24 Tryd.underlying35 hi hz0' hz1' hz2' rfl (by decide) v es.length (edCells es) (by rfl) hown4 ⟨bb, 0, none⟩ 1 1 [.int .i64 (i : Nat), .int .i64 (l : Nat), .int .i64 t] (by rfl) (by rfl) (World.news_of_block hblk4) ?c1 (by omega) ?c3 ?c4 ?c5 w4.heap.size rfl ?_
          case c1 => simp [Value.oneCell']
          case c3 => unfold maxLen; omega
          case c4 => omega
          case c5 => have := hS4.out.sub.keep.size; omega
          intro gg cap w5 hown5 hgrow hat hlt5
          have c2' : w5.cell? ⟨w1.heap.size, 2, none⟩ = some v := by rw [hgrow.cell_far _ (by simpa using hbl4) (Ne.symm ag)]; exact c2
          have f2' : w5.frozen? ⟨w1.heap.size, 2, none⟩ = false := by rw [hgrow.frozen_far _ (by simpa using hbl4) (Ne.symm ag)]; exact f2
          have hfin := hid (hS4.out.add (x := ⟨(i : Int), (l : Int), t⟩) hown5 hgrow)
          have hz5 := hgrow.size
          clear hown4 hown5 hgrow c2 f2
          go_wp2_with fail
          go_roundw
          case rel => exact ⟨k + 1, _, by go_num, by omega, by rw [hek.out, ← List.append_assoc, ← hes.out]; exact hfin.out⟩
          case measure => simp [intOf]; omega
        · obtain rfl : k = L.length := by omega
          have hrl := hrow.out i hlt
          have hfin : Hid (fullTo a (i + 1) = fullTo a i ++ (rowEs L i a.nx[i]).take L.length) := hid (by
            rw [fullTo_succ a hlt, hL.out, List.take_of_length_le (by rw [rowEs_len]; omega)])
          replace hs := hid hs
          go_wp2_with fail
          go_roundw
          case rel => exact ⟨i + 1, v, by go_num, by omega, by rw [hfin.out]; exact hs.out⟩
          case measure => simp [intOf]; omega
    · obtain rfl : i = a.nx.length := by omega
      obtain ⟨Av, cv, hve, hv1, hv2⟩ := own_slice hs.sub.own
      subst hve
      obtain ⟨A2, c2', hve2, h1, h2, h3, h4⟩ := OwnEds.read (show OwnEds wr w1.heap.size (.slice Av (fullTo a a.nx.length).length cv) (fullTo a a.nx.length) from hs.sub.own)
      cases hve2
      have hbr := hs.sub.keep
      have hfl := fullTo_len a a.nx.length
      have c0 := hs.sub.blk.cell 0
      have c1 := hs.sub.blk.cell 1
      have c2 := hs.sub.blk.cell 2
      simp only [List.getElem?_toArray, List.getElem?_cons_zero, List.getElem?_cons_succ] at c0 c1 c2
      obtain ⟨p0, p1', p2⟩ := hpar.out _ hbr
      have hzr := hbr.size
      have hin := hid (fullSy_in hok'.out)
      have hR := hid (accSet_lt a a.nx.length)
      have htr : Hid (soS a = trimSy (fullSy a) (accS a)) := hid (soS_eq hso.out)
      have q0 := GK.BI.cell c0
      have q1 := GK.BI.cell c1
      have q2 := GK.BI.cell c2
      have q3 := GK.BI.cell p0
      have q4 := GK.BI.cell p1
      have q5 := GK.BI.cell p2
      have har := hid (ha1.out.later (show Below w1.heap.size w1 wr from hbr))
      have h3' := hid h3
      replace hs := hid hs
      clear h3
      obtain ⟨x, hx⟩ : ∃ x, Hid (x = trimSy (fullSy a) (accS a)) := ⟨_, hid rfl⟩
      go_upto_region 12 with fail
      clear c0 c1 c2 p0 p1 p2 p1'
      refine GK.wp_region 4 [4, 5] 200 (KeepB fun _ => False) (GK.BI wr) (fun i u w' => if i = 2 then u = .int .i64 ((accS a : Nat) : Int) else ∃ (A2 : Option Addr) (c2 : Nat), u = x.val A2 c2 ∧ x.es.length ≤ c2 ∧ c2 ≤ 9223372036854775807 ∧ EdsAt w' w'.heap.size A2 x.es ∧ FreshA wr.heap.size A2) (by kernel_rfl) (by kernel_rfl) (GK.BI.way wr) (by decide) (Below.refl _ _).drew ?_
      simp only [List.take_succ_cons, List.take_zero]
      (repeat (refine GK.grow_quiet wr (by rfl) (by rfl) ?_; intro K hK; go_big_quiet_op; go_big_quiet_on))
      refine GK.grow_val (.int .i64 ((accS a : Nat) : Int)) (by rfl) rfl (fun m wq hm2 hbq _ => ?_) ?_
      · go_simp
        exact ⟨rfl, by
          have hbq' : Below wr.heap.size wr wq := hbq
          exact (l6Accepting_any a A (some ⟨bA, oA, none⟩) c d wq hn3'.out hn12 (har.out.later hbq')).mono fun e w' ⟨h1, h2⟩ => ⟨h1, GK.BI.after hbq h2⟩⟩
      simp only [Act.put, List.setIfInBounds_toArray, List.set_cons_zero, List.set_cons_succ]
      (repeat (refine GK.grow_quiet wr (by rfl) (by rfl) ?_; intro K hK; go_big_quiet_op; go_big_quiet_on))
      refine GK.grow_call (by rfl) (fun u w w' hk h => by
        obtain ⟨A2, c2, h1, h2, h3, h4, h5⟩ := h
        exact ⟨A2, c2, h1, h2, h3, h4.later ⟨hk.os, hk.tape, hk.output, hk.size, fun i hi => hk.block i hi (fun hh => hh)⟩, h5⟩) (fun m wq hm2 hbq hf => ?_) ?_
      · go_simp
        have hbq' : Below wr.heap.size wr wq := hbq
        exact ⟨rfl, (l2Keep_any (fullSy a) Av cv (accS a) wq hin.out (by show ((a.nx.length : Nat) : Int) ≤ 16; omega) (by show (0 : Int) ≤ ((a.nx.length : Nat) : Int); omega) (by show accS a < 2 ^ ((a.nx.length : Nat) : Int).toNat; rw [Int.toNat_natCast]; exact hR.out) (by show (fullTo a a.nx.length).length ≤ 1000000; omega) h1 h2 (h3'.out.later hbq')).mono fun e w' ⟨A2, c2, h1, h2, h3, h4, h5, h6⟩ => ⟨_, h1, GK.BI.after hbq h6, A2, c2, by rw [hx.out], by rw [hx.out]; exact h2, h3, by rw [hx.out]; exact h4, fun b o hA => by have := h5 b o hA; have := hbq'.size; omega⟩⟩
      rintro u ⟨_, _, _, A2, c2, rfl, a1, a2, -, -⟩
      unfold Sy.val
      simp only [Act.put, List.setIfInBounds_toArray, List.set_cons_zero, List.set_cons_succ]
      refine GK.grow_nil ?_
      intro w3' hw3 hf
      simp only [List.filterMap_cons, List.filterMap_nil, List.getElem?_cons_zero, List.getElem?_cons_succ]
      obtain ⟨A3, c3, hve, -, -, h4', h5⟩ := hf _ List.mem_cons_self
      injection hve with hve
      simp at hve
      obtain ⟨rfl, rfl⟩ := hve
      replace hw3 : Below wr.heap.size wr w3' := hw3
      clear hf q0 q1 q2 q3 q4 q5
      have hb13 := hbr.trans (hw3.mono hzr)
      have hrb3 := hrb.out.below hb13 hlt1
      have d0 := hrb3.cell 0
      have d1 := hrb3.cell 1
      have d2 := hrb3.cell 2
      have f0 := hrb3.frozen 0
      have f1 := hrb3.frozen 1
      have f2 := hrb3.frozen 2
      simp only [List.getElem?_toArray, List.getElem?_cons_zero, List.getElem?_cons_succ] at d0 d1 d2
      have hlt3 := hrb3.lt
      have hzw1 := hB1.size
      have hfin : Hid (SoPost w (soS a) (soOk a) (.returned (.tuple #[.agg #[.int .i64 x.al, .int .i64 x.st, .slice A2 x.es.length c2], .bool true])) (((w3'.setCell ⟨w.heap.size + 1, 0, none⟩ (.int .i64 x.al)).setCell ⟨w.heap.size + 1, 1, none⟩ (.int .i64 x.st)).setCell ⟨w.heap.size + 1, 2, none⟩ (.slice A2 x.es.length c2))) := hid (by
        have hne : ∀ b o, A2 = some ⟨b, o, none⟩ → 0 < x.es.length → b ≠ w.heap.size + 1 := fun b o hA _ => by have := h5 b o hA; omega
        rw [htr.out, hso.out, ← hx.out]
        refine ⟨A2, c2, rfl, a1, a2, ?_, fun b o hA => by have := h5 b o hA; omega, ?_⟩
        · simpa [World.setCell] using ((h4'.stored _ hne).stored _ hne).stored _ hne
        · exact (((hB1.trans (hb13.mono hB1.size)).setCell (by simp) _).setCell (by simp) _).setCell (by simp) _)
      clear h4' h5 hrb3
      go_wp2
      refine bodyPost_ret (v := .tuple #[.agg #[.int .i64 x.al, .int .i64 x.st, .slice A2 x.es.length c2], .bool true]) (by simp [results, Tryd.results18, go_sem, d0, d1, d2]) rfl ?_
      exact hfin.out

end Go.Proofs.YtjhlbeamfngebaaDoor

/- The drawing kit: DrawIsDeterministic. -/
namespace Go.Proofs.YtjhlbeamfngebaaDoor
open Go.RowKit Go.BigFrame AG

theorem soS_len (a : Au) : (soS a).es.length ≤ 1000 := by
  cases h : soOk a
  · rw [soS_zero h]; simp
  · rw [soS_eq h]
    show (trimEs (accS a) (fullTo a a.nx.length)).length ≤ 1000
    have h1 := trimEs_len (accS a) (fullTo a a.nx.length)
    have h2 := fullTo_len a a.nx.length
    have h3 := ((auOk_iff a).1 (soOk_iff.1 h).1).2.2.1
    omega

end Go.Proofs.YtjhlbeamfngebaaDoor

/- The two tables of math/bits that the cards list: what a walk reads of them, and a world that holds them. -/
namespace Go.Proofs.YtjhlbeamfngebaaDoor
open Go.ChangeShapes Go.WideShapes Go.ChangeAt Go.RowKit AG

theorem g64 : Tryd.prog.globalNamed "math/bits.deBruijn64tab" = some 1 := by kernel_rfl
theorem g64Type : (Tryd.prog.globals[1]?).map (·.type) = some 198 := by kernel_rfl
theorem g64Under : Tryd.prog.underlying 198 = some (.array 64 5) := by kernel_rfl
theorem u8Under : Tryd.prog.underlying 5 = some (.int .u8) := by kernel_rfl
theorem u8Cells : Tryd.prog.cellsOf 5 = 1 := by kernel_rfl
theorem g64Cells : Tryd.prog.cellsOf 198 = 64 := by kernel_rfl

theorem tab_of_laid {W : World} (h : laidMetH Tryd.prog [("math/bits.deBruijn32tab", Rows.laid_math_bits_deBruijn32tab), ("math/bits.deBruijn64tab", Rows.laid_math_bits_deBruijn64tab)] W) : Tab W := by
  have h1 : laidMet Tryd.prog [("math/bits.deBruijn32tab", Rows.laid_math_bits_deBruijn32tab), ("math/bits.deBruijn64tab", Rows.laid_math_bits_deBruijn64tab)] W := h
  have h2 : laidMet Tryd.prog (("math/bits.deBruijn64tab", Lib.tabData .u8 (Lib.deBruijn64tab.map Int.ofNat)) :: []) W := laidMet.tail h1
  have h3 := Lib.tabIs_of_head g64 g64Type g64Under u8Under u8Cells g64Cells h2
  intro j hj
  rw [h3.cell g64 j (by simpa using hj)]
  simp [List.getD, hj]

def layTab (zs : List Nat) : Obj → Obj
  | .cells _ t frozen => .cells (zs.map fun n => Value.int .u8 (Int.ofNat n)).toArray t frozen
  | o => o

/-- A world for the witness: the settled one, the two tables holding what their initialisers lay. -/
noncomputable def laidWorld (os : Os) : World :=
  { World.holding Tryd.prog os ⟨#[], #[], []⟩ with heap := ((World.holding Tryd.prog os ⟨#[], #[], []⟩).heap.modify 0 (layTab Lib.deBruijn32tab)).modify 1 (layTab Lib.deBruijn64tab) }

end Go.Proofs.YtjhlbeamfngebaaDoor

/- How a slice of edges, a system, a slice of systems read as data: opened to cells. -/
namespace AG
open Go Go.RowKit Go.ChangeShapes Go.WideShapes Go.Deep

theorem list_of_forall {α : Type} (P : Nat → α → Prop) : ∀ n, (∀ i, i < n → ∃ a, P i a) → ∃ l : List α, l.length = n ∧ ∀ i (hi : i < l.length), P i l[i] := by
  intro n
  induction n with
  | zero => intro _; exact ⟨[], rfl, fun i hi => by simp at hi⟩
  | succ n ih =>
    intro h
    obtain ⟨l, hl, hP⟩ := ih fun i hi => h i (by omega)
    obtain ⟨a, ha⟩ := h n (by omega)
    refine ⟨l ++ [a], by simp [hl], fun i hi => ?_⟩
    simp only [List.length_append, List.length_singleton] at hi
    by_cases e : i < l.length
    · rw [List.getElem_append_left e]; exact hP i e
    · obtain rfl : i = l.length := by omega
      rw [List.getElem_append_right (Nat.le_refl _)]
      simp only [Nat.sub_self, List.getElem_cons_zero]
      rw [hl]
      exact ha

section
variable {H : Type} {enc : TypeId × Value → H} {P : Program} {w : World} {base : Nat} {spare : Nat → Bool} {held : Bool}
theorem addr_of {a : Addr} {v : Value} (h : w.cell? (a.add 0) = some v) : ∃ b o, a = ⟨b, o, none⟩ := by
  obtain ⟨b, o, sp⟩ := a
  have : (⟨b, o, sp⟩ : Addr).spot = none := World.cell?_spot (by simpa [Addr.add] using h)
  exact ⟨b, o, by simp_all⟩
theorem add_at (b o n : Nat) : (⟨b, o, none⟩ : Addr).add n = ⟨b, o + n, none⟩ := by
  unfold Addr.add
  split
  · subst_vars; rfl
  · rfl

end

section
variable {H : Type} {enc : TypeId × Value → H} {P : Program}
/-- An argument reads behind the call as it did. -/
theorem trod_later {t : TypeId} (hl : laidOutB P = true) (hr : P.readableRec t = true) (hrow : t < P.types.size) {W W' : World} {v : Value} {d : DataW H} {ps : List MemPlace} {sp : Nat → Bool}
    (h : DataW.Trod enc P W 0 (fun _ => true) true t v d ps) (hb : Below W.heap.size W W') (hlt : ∀ x ∈ ps, x.block < W.heap.size) (hsp : ∀ x ∈ ps, sp x.block = true) : DataW.Trod enc P W' 0 sp true t v d ps :=
  WideElems.Trod_stays hl hr hrow h (fun x hx => hb.same (hlt x hx)) hsp
/-- The row's last step where of the world behind the call 'Below' is known. -/
theorem post_of_below {f : Func} {s : ChangeSpec} {apart fresh handsOn again : Bool} {W W' : World} {args : Array Value} {v : Value} {ds gs : List (DataW H)} {before pa pv : List MemPlace}
    (hW : DataW.Whole enc P f.params.toList s.vars apart W args.toList ds gs before)
    (hres : ∀ (b : Nat) (sp : Nat → Bool) (hd : Bool), DataW.TrodAll enc P W' b sp hd f.resultTypes.toList (v.resultList f.resultTypes.size) (s.fn H (ds ++ gs)).results [])
    (hargs : ∀ sp : Nat → Bool, (∀ p ∈ before, sp p.block = true) → DataW.TrodAll enc P W' 0 sp true f.params.toList args.toList (s.fn H (ds ++ gs)).args pa)
    (hvars : ∀ sp : Nat → Bool, (∀ p ∈ before, sp p.block = true) → DataW.TrodVars enc P W' sp s.vars (s.fn H (ds ++ gs)).vars pv)
    (hps : before = pa ++ pv) (hb : Below W.heap.size W W')
    (hok : ∀ (j : Nat) (t : TypeId) (r : Value), f.resultTypes[j]? = some t → (v.resultList f.resultTypes.size)[j]? = some r → Value.okWide P W' .any 0 t r) :
    s.post enc P f apart fresh handsOn again W args v W' := by
  have hlt : ∀ p ∈ before, p.block < W.heap.size := fun p hp => hW.lt p hp
  have hold : ∀ p ∈ before, (fun b => decide (b < W.heap.size)) p.block = true := fun p hp => by simpa using hlt p hp
  refine ⟨ds, gs, before, [], pa, pv, hW, hres _ _ _, hargs _ hold, hvars _ hold, World.keptBut_mono (fun p hp => ⟨hp, ?_⟩) (hb.frame (· ∈ before)), fun _ => ?_⟩
  · rw [hps, List.mem_append] at hp
    exact Or.inr hp
  · obtain ⟨_, _, _, _, _, hz, hn⟩ := hW
    refine ⟨hok, _, _, ([] ++ pa) ++ pv, ⟨[] ++ pa, pv, trodAll_append (hargs _ (fun _ _ => rfl)) (hres _ _ _), hvars _ (fun _ _ => rfl), rfl, ?_, ?_⟩, ?_⟩
    · intro b off hp
      have hin : MemPlace.cell b off ∈ before := by rw [hps]; simpa using hp
      rw [hb.frozen (hlt _ hin)]
      exact hz b off hin
    · intro ha
      have := hn ha
      rw [hps] at this
      simpa using this
    · intro p hp _
      rw [hps]
      simpa using hp
end
end AG

/- How an automaton reads as data: opened to cells. -/
namespace Go.Proofs.YtjhlbeamfngebaaDoor
open Go.RowKit Go.ChangeShapes Go.WideShapes Go.Deep AG

section
variable {H : Type} {enc : TypeId × Value → H} {P : Program} {w : World} {base : Nat} {spare : Nat → Bool} {held : Bool}
/-- A slice of elements of one cell. -/
theorem open_one {t e : TypeId} {fuel : Nat} {cs : List Value} {x : DataW H × List MemPlace} (ht : P.underlying t = some (.slice e)) (hC : P.cellsOf e = 1) (h : DataW.trod enc P w base spare held fuel t cs = some x) :
    cs = [.slice none 0 0] ∨
    ∃ (a : Addr) (len cap : Nat), cs = [.slice (some a) len cap] ∧ len ≤ cap ∧ cap ≤ maxLen ∧ ∀ i, i < len → ∃ (v : Value) (y : DataW H × List MemPlace) (n : Nat), w.cell? (a.add i) = some v ∧ DataW.trod enc P w base spare held n e [v] = some y := by
  rcases open_slice ht h with h0 | ⟨a, len, cap, m, n, D, Pl, hcs, hb, hl, hm, hmm, hx, hi⟩
  · exact .inl h0.1
  · refine .inr ⟨a, len, cap, hcs, hl, hm, fun i hil => ?_⟩
    have hlm : len ≤ m := by rw [hmm]; split <;> omega
    obtain ⟨cs', hc, ht'⟩ := hi i (by omega)
    rw [hC] at hc
    obtain ⟨_, hcl, hat⟩ := World.cells?_some hc
    obtain ⟨v, rfl⟩ : ∃ v, cs' = [v] := by
      match cs', hcl with
      | [v], _ => exact ⟨v, rfl⟩
    refine ⟨v, _, _, ?_, ht'⟩
    have := hat 0 (by omega)
    rw [Go.Deep.add_add] at this
    simpa using this
theorem open_intsA {t e : TypeId} {fuel : Nat} {v : Value} {x : DataW H × List MemPlace} (ht : P.underlying t = some (.slice e)) (he : P.underlying e = some (.int .i64)) (hC : P.cellsOf e = 1) (h : DataW.trod enc P w base spare held fuel t [v] = some x) :
    ∃ A c xs, v = .slice A (List.length xs) c ∧ List.length xs ≤ c ∧ c ≤ 9223372036854775807 ∧ IntsAt w w.heap.size A xs := by
  rcases open_one ht hC h with h | ⟨a, n, c, hcs, hl, hm, hf⟩
  · exact ⟨none, 0, [], by simpa using h, by simp, by omega, fun h => by simp at h⟩
  · have hcs' : v = .slice (some a) n c := by simpa using hcs
    have hcell : ∀ i, i < n → ∃ m : Int, w.cell? (a.add i) = some (.int .i64 m) := fun i hi => by
      obtain ⟨v0, y0, n0, c0, t0⟩ := hf i hi
      obtain ⟨m0, e0, _⟩ := DataW.trod_int he t0
      simp only [List.cons.injEq, and_true] at e0
      subst e0
      exact ⟨m0, c0⟩
    obtain ⟨xs, hxs, hE⟩ := list_of_forall _ n hcell
    subst hxs
    refine ⟨some a, c, xs, hcs', hl, by unfold maxLen at hm; omega, fun hpos => ?_⟩
    obtain ⟨b, o, rfl⟩ := addr_of (w := w) (v := .int .i64 xs[0]) (hE 0 hpos)
    refine ⟨b, o, rfl, ?_, fun i hi => ?_⟩
    · have := hE 0 hpos
      rw [add_at] at this
      exact World.block_lt_of_cell? _ _ this
    · have := hE i hi
      rw [add_at] at this
      exact this
theorem open_boolsA {t e : TypeId} {fuel : Nat} {v : Value} {x : DataW H × List MemPlace} (ht : P.underlying t = some (.slice e)) (he : P.underlying e = some .bool) (hC : P.cellsOf e = 1) (h : DataW.trod enc P w base spare held fuel t [v] = some x) :
    ∃ A c xs, v = .slice A (List.length xs) c ∧ List.length xs ≤ c ∧ c ≤ 9223372036854775807 ∧ BoolsAt w w.heap.size A xs := by
  rcases open_one ht hC h with h | ⟨a, n, c, hcs, hl, hm, hf⟩
  · exact ⟨none, 0, [], by simpa using h, by simp, by omega, fun h => by simp at h⟩
  · have hcs' : v = .slice (some a) n c := by simpa using hcs
    have hcell : ∀ i, i < n → ∃ m : Bool, w.cell? (a.add i) = some (.bool m) := fun i hi => by
      obtain ⟨v0, y0, n0, c0, t0⟩ := hf i hi
      obtain ⟨m0, e0, _⟩ := DataW.trod_bool he t0
      simp only [List.cons.injEq, and_true] at e0
      subst e0
      exact ⟨m0, c0⟩
    obtain ⟨xs, hxs, hE⟩ := list_of_forall _ n hcell
    subst hxs
    refine ⟨some a, c, xs, hcs', hl, by unfold maxLen at hm; omega, fun hpos => ?_⟩
    obtain ⟨b, o, rfl⟩ := addr_of (w := w) (v := .bool xs[0]) (hE 0 hpos)
    refine ⟨b, o, rfl, ?_, fun i hi => ?_⟩
    · have := hE 0 hpos
      rw [add_at] at this
      exact World.block_lt_of_cell? _ _ this
    · have := hE i hi
      rw [add_at] at this
      exact this
theorem open_rowsA {t e q : TypeId} {fuel : Nat} {v : Value} {x : DataW H × List MemPlace} (ht : P.underlying t = some (.slice e)) (hC : P.cellsOf e = 1) (he : P.underlying e = some (.slice q)) (hq : P.underlying q = some (.int .i64)) (hCq : P.cellsOf q = 1) (h : DataW.trod enc P w base spare held fuel t [v] = some x) :
    ∃ A c rs, v = .slice A (List.length rs) c ∧ List.length rs ≤ c ∧ c ≤ 9223372036854775807 ∧ RowsAt w w.heap.size A rs := by
  rcases open_one ht hC h with h | ⟨a, n, c, hcs, hl, hm, hf⟩
  · exact ⟨none, 0, [], by simpa using h, by simp, by omega, fun h => by simp at h⟩
  · have hcs' : v = .slice (some a) n c := by simpa using hcs
    have hcell : ∀ i, i < n → ∃ r : List Int, ∃ Ai ci, w.cell? (a.add i) = some (.slice Ai r.length ci) ∧ r.length ≤ ci ∧ ci ≤ 9223372036854775807 ∧ IntsAt w w.heap.size Ai r := fun i hi => by
      obtain ⟨v0, y0, n0, c0, t0⟩ := hf i hi
      obtain ⟨Ai, ci, r, rfl, h1, h2, h3⟩ := open_intsA he hq hCq t0
      exact ⟨r, Ai, ci, c0, h1, h2, h3⟩
    obtain ⟨rs, hrs, hE⟩ := list_of_forall _ n hcell
    subst hrs
    refine ⟨some a, c, rs, hcs', hl, by unfold maxLen at hm; omega, fun hpos => ?_⟩
    obtain ⟨A0, c0, e0, -⟩ := hE 0 hpos
    obtain ⟨b, o, rfl⟩ := addr_of (w := w) e0
    refine ⟨b, o, rfl, ?_, fun i hi => ?_⟩
    · rw [add_at] at e0
      exact World.block_lt_of_cell? _ _ e0
    · obtain ⟨Ai, ci, e1, e2, e3, e4⟩ := hE i hi
      rw [add_at] at e1
      exact ⟨Ai, ci, e1, e2, e3, e4⟩
end

end Go.Proofs.YtjhlbeamfngebaaDoor

/- The exact laws' functions on systems that are handed back and on automata: marks, what is held, sizes, copies. -/
namespace Go.Proofs.YtjhlbeamfngebaaDoor
open Go.RowKit Go.BigFrame AG

def marksE (n : Nat) (k : Int) : List Ed := (List.range n).map fun (i : Nat) => ⟨k + 3 * (i : Int), k + 3 * (i : Int) + 1, k + 3 * (i : Int) + 2⟩
theorem marksE_len (n : Nat) (k : Int) : (marksE n k).length = n := by simp [marksE]
theorem marksE_at {n : Nat} {k : Int} {i : Nat} (h : i < (marksE n k).length) : (marksE n k)[i] = ⟨k + 3 * (i : Int), k + 3 * (i : Int) + 1, k + 3 * (i : Int) + 2⟩ := by simp [marksE]
def MkIn (cs : Array Value) (k : Int) (j : Nat) : Prop := ∀ i, i < j → cs[i * 3]? = some (.int .i64 (k + 3 * (i : Int))) ∧ cs[i * 3 + 1]? = some (.int .i64 (k + 3 * (i : Int) + 1)) ∧ cs[i * 3 + 2]? = some (.int .i64 (k + 3 * (i : Int) + 2))
theorem MkIn.next {cs : Array Value} {k : Int} {j : Nat} (h : MkIn cs k j) (hs : j * 3 + 2 < cs.size) : MkIn (((cs.setIfInBounds (j * 3) (.int .i64 (k + 3 * (j : Int)))).setIfInBounds (j * 3 + 1) (.int .i64 (k + 3 * (j : Int) + 1))).setIfInBounds (j * 3 + 2) (.int .i64 (k + 3 * (j : Int) + 2))) k (j + 1) := by
  intro i hi
  by_cases e : i = j
  · subst e
    refine ⟨?_, ?_, ?_⟩ <;> simp [Array.getElem?_setIfInBounds] <;> omega
  · obtain ⟨h1, h2, h3⟩ := h i (by omega)
    refine ⟨?_, ?_, ?_⟩
    · rw [Array.getElem?_setIfInBounds, if_neg (by omega), Array.getElem?_setIfInBounds, if_neg (by omega), Array.getElem?_setIfInBounds, if_neg (by omega), h1]
    · rw [Array.getElem?_setIfInBounds, if_neg (by omega), Array.getElem?_setIfInBounds, if_neg (by omega), Array.getElem?_setIfInBounds, if_neg (by omega), h2]
    · rw [Array.getElem?_setIfInBounds, if_neg (by omega), Array.getElem?_setIfInBounds, if_neg (by omega), Array.getElem?_setIfInBounds, if_neg (by omega), h3]

set_option maxRecDepth 100000 in
set_option maxHeartbeats 2000000 in
theorem markEdgeSM_any (A : Option Addr) (n c : Nat) (es : List Ed) (k : Int) (w : World) (hn : es.length = n) (h0 : 0 ≤ k) (h1 : k + 3 * n ≤ 1152921504606846976) (hcn : n ≤ c) (hcm : c ≤ 9223372036854775807) (hr : EdsAt w w.heap.size A es) (hw : WrB w A n) :
    Calls Tryd.prog 70 #[.slice A n c, .int .i64 k] w fun e w' => e = .returned (.int .i64 (k + 3 * n)) ∧ EdsAt w' w'.heap.size A (marksE n k) ∧ KeepB (fun b => 0 < n ∧ ∃ o, A = some ⟨b, o, none⟩) w w' := by
  by_cases hn0 : n = 0
  · replace hr := hid hr
    replace hw := hid hw
    subst hn0
    go_enter Tryd.func70, Tryd.ntmps70
    go_wp2
    go_loopw [1, 5] (fun kv i wr => kv = .int .i64 k ∧ i = .int .i64 0 ∧ wr = w) (fun _ _ _ => 0)
    case atStart => exact ⟨rfl, rfl, rfl⟩
    case round =>
      obtain ⟨rfl, rfl, rfl⟩ := hrel
      go_wp2
      go_ret
      exact ⟨ret_int (by omega), fun h => by rw [marksE_len] at h; omega, KeepB.refl _ _⟩
  · obtain ⟨b, o, rfl, hblt, -⟩ := hr (by omega)
    obtain ⟨rfl, cur, hblk, hsz⟩ := hw b o rfl
    clear hr hw
    replace hblk := hid hblk
    go_enter Tryd.func70, Tryd.ntmps70
    go_wp2
    go_loopw [1, 5] (fun kv i wr => ∃ (j : Nat) (cs : Array Value), kv = .int .i64 (k + 3 * j) ∧ i = .int .i64 (j : Nat) ∧ j ≤ n ∧ Blk wr b 77 cs ∧ MkIn cs k j ∧ cs.size = cur.size ∧ KeepB (fun x => x = b) w wr) (fun _ i _ => n - (intOf i).toNat)
    case atStart => exact ⟨0, cur, by simp, rfl, by omega, hblk.out, fun i hi => by omega, rfl, KeepB.refl _ _⟩
    case round =>
      obtain ⟨j, cs, rfl, rfl, hj, hbr, hmk, hs, hkp⟩ := hrel
      by_cases hlt : j < n
      · obtain ⟨v0, d0⟩ := hbr.some_ (i := j * 3) (by omega)
        obtain ⟨v1, d1⟩ := hbr.some_ (i := j * 3 + 1) (by omega)
        obtain ⟨v2, d2⟩ := hbr.some_ (i := j * 3 + 2) (by omega)
        have z0 := hbr.frozen (j * 3)
        have z1 := hbr.frozen (j * 3 + 1)
        have z2 := hbr.frozen (j * 3 + 2)
        have k1 : (0 : Int) ≤ (j : Int) ∧ (j : Int) < (n : Int) := by omega
        have hnx := hid (hmk.next (by omega))
        replace hbr := hid hbr
        replace hmk := hid hmk
        have e2 : k + 3 * (j : Int) + 1 + 1 = k + 3 * (j : Int) + 2 := by omega
        have hfin := hid ((((hbr.out.set_ (j * 3) (.int .i64 (k + 3 * (j : Int)))).set_ (j * 3 + 1) (.int .i64 (k + 3 * (j : Int) + 1))).set_ (j * 3 + 2) (.int .i64 (k + 3 * (j : Int) + 2))))
        go_wp2
        go_roundw
        case rel => exact ⟨j + 1, _, by go_num, by go_num, by omega, by first | exact hfin.out | (rw [← e2] at hfin; exact hfin.out) | (have h := hfin.out; simpa using h), hnx.out, by simpa using hs, ((hkp.setCell _ _ fun _ => rfl).setCell _ _ fun _ => rfl).setCell _ _ fun _ => rfl⟩
        case measure => simp [intOf]; omega
      · obtain rfl : j = n := by omega
        have hat : Hid (EdsAt wr wr.heap.size (some ⟨b, 0, none⟩) (marksE j k)) := hid (fun _ => ⟨b, 0, rfl, hbr.lt, fun i hi => by
          obtain ⟨m1, m2, m3⟩ := hmk i (by rw [marksE_len] at hi; exact hi)
          rw [marksE_at hi, Nat.zero_add, hbr.cell, hbr.cell, hbr.cell]
          exact ⟨m1, m2, m3⟩⟩)
        replace hbr := hid hbr
        replace hmk := hid hmk
        go_wp2
        go_ret
        exact ⟨rfl, hat.out, hkp.mono fun x e => ⟨by omega, 0, by rw [e]⟩⟩

set_option maxRecDepth 100000 in
set_option maxHeartbeats 1000000 in
theorem markSystemM_any (s : Sy) (A : Option Addr) (c : Nat) (k : Int) (w : World) (h0 : 0 ≤ k) (h1 : k + 3 * s.es.length ≤ 1152921504606846976) (hcn : s.es.length ≤ c) (hcm : c ≤ 9223372036854775807) (hr : EdsAt w w.heap.size A s.es) (hw : WrB w A s.es.length) :
    Calls Tryd.prog 24 #[s.val A c, .int .i64 k] w fun e w' => e = .returned (.int .i64 (k + 3 * s.es.length)) ∧ EdsAt w' w'.heap.size A (marksE s.es.length k) ∧ KeepB (fun b => 0 < s.es.length ∧ ∃ o, A = some ⟨b, o, none⟩) w w' := by
  unfold Sy.val
  obtain ⟨w0, hw0, hz0, hB0, hS0, hS1, hS2⟩ := boxed3 w (Value.int IntKind.i64 s.al) (Value.int IntKind.i64 s.st) (Value.slice A s.es.length c) 37
  have p2 := hS2 _ (Below.refl _ _)
  have hr0 := hid (hr.later hB0)
  have hw0' := hid (hw.later hB0)
  replace hr := hid hr
  replace hw := hid hw
  go_enter Tryd.func24, Tryd.ntmps24
  go_wp2_with fail
  refine (markEdgeSM_any A s.es.length c s.es k w0 rfl h0 h1 hcn hcm hr0.out hw0'.out).mono ?_
  rintro e w1 ⟨rfl, hm1, hk1⟩
  replace hm1 := hid hm1
  have hk := (KeepB.of_below (K := fun b => 0 < s.es.length ∧ ∃ o, A = some ⟨b, o, none⟩) hB0).trans hk1
  go_wp2
  go_ret
  exact ⟨rfl, hm1.out, hk⟩

set_option maxRecDepth 100000 in
set_option maxHeartbeats 1000000 in
theorem heldEdgeS_any (A : Option Addr) (n c : Nat) (k : Int) (w : World) (h0 : 0 ≤ k) (h1 : k + 3 * n ≤ 1152921504606846976) (hnc : n ≤ c) (hcm : c ≤ 9223372036854775807) (hr : EdsAt w w.heap.size A (marksE n k)) :
    Calls Tryd.prog 71 #[.slice A n c, .int .i64 k] w fun e w' => e = .returned (.int .i64 (k + 3 * n)) ∧ Below w.heap.size w w' := by
  replace hr := hid hr
  go_enter Tryd.func71, Tryd.ntmps71
  go_wp2
  go_loopw [1, 5] (fun kv i wr => ∃ j : Nat, kv = .int .i64 (k + 3 * j) ∧ i = .int .i64 (j : Nat) ∧ j ≤ n ∧ Below w.heap.size w wr) (fun _ i _ => n - (intOf i).toNat)
  case atStart => exact ⟨0, by simp, rfl, by omega, Below.refl _ _⟩
  case round =>
    obtain ⟨j, rfl, rfl, hj, hb⟩ := hrel
    by_cases hlt : j < n
    · obtain ⟨b, o, hA, hB, hE⟩ := hr.out (by rw [marksE_len]; omega)
      subst hA
      obtain ⟨e0, e1, e2⟩ := hE j (by rw [marksE_len]; exact hlt)
      rw [marksE_at] at e0 e1 e2
      simp only at e0 e1 e2
      rw [← hb.cell (by simpa using hB)] at e0 e1 e2
      obtain ⟨x, hx⟩ : ∃ x, x = k + 3 * (j : Int) := ⟨_, rfl⟩
      rw [← hx] at e0 e1 e2 ⊢
      have e2' : wr.cell? ⟨b, o + j * 3 + 2, none⟩ = some (.int .i64 (x + 1 + 1)) := by rw [e2]; congr 2; omega
      have hxb : 0 ≤ x ∧ x + 3 ≤ 1152921504606846976 := by omega
      have k1 : (0 : Int) ≤ (j : Int) ∧ (j : Int) < (n : Int) := by omega
      have q0 : (x != x) = false := by simp
      have q1 : ((x + 1) != (x + 1)) = false := by simp
      have q2 : ((x + 1 + 1) != (x + 1 + 1)) = false := by simp
      have hx3 : Hid (x + 1 + 1 + 1 = k + 3 * ((j + 1 : Nat) : Int)) := hid (by omega)
      replace hx := hid hx
      replace hE := hid hE
      clear e2
      go_wp2
      go_roundw
      case rel => exact ⟨j + 1, by first | (rw [← hx3.out]) | (have := hx3.out; go_num), by go_num, by omega, hb⟩
      case measure => simp [intOf]; omega
    · obtain rfl : j = n := by omega
      go_wp2
      go_ret
      exact ⟨rfl, hb⟩

set_option maxRecDepth 100000 in
set_option maxHeartbeats 1000000 in
theorem heldSystem_any (s : Sy) (A : Option Addr) (n c : Nat) (k : Int) (w : World) (hn : s.es.length = n) (h0 : 0 ≤ k) (h1 : k + 3 * n ≤ 1152921504606846976) (hnc : n ≤ c) (hcm : c ≤ 9223372036854775807) (hr : EdsAt w w.heap.size A (marksE n k)) :
    Calls Tryd.prog 25 #[.agg #[.int .i64 s.al, .int .i64 s.st, .slice A n c], .int .i64 k] w fun e w' => e = .returned (.int .i64 (k + 3 * n)) ∧ Below w.heap.size w w' := by
  obtain ⟨w0, hw0, hz0, hB0, hS0, hS1, hS2⟩ := boxed3 w (Value.int IntKind.i64 s.al) (Value.int IntKind.i64 s.st) (Value.slice A n c) 37
  have p2 := hS2 _ (Below.refl _ _)
  have hr0 := hid (hr.later hB0)
  replace hr := hid hr
  obtain ⟨m, hm⟩ : ∃ m, Hid (m = k + 3 * (n : Int)) := ⟨_, hid rfl⟩
  have hm0 : 0 ≤ m := by rw [hm.out]; omega
  have hcall := hid (heldEdgeS_any A n c k w0 h0 h1 hnc hcm hr0.out)
  rw [← hm.out] at hcall ⊢
  go_enter Tryd.func25, Tryd.ntmps25
  go_wp2_with fail
  refine hcall.out.mono ?_
  rintro e w1 ⟨rfl, hb1⟩
  have hB1 := hB0.trans (hb1.mono hB0.size)
  go_wp2
  go_ret
  exact ⟨rfl, hB1⟩

end Go.Proofs.YtjhlbeamfngebaaDoor

/- The exact laws' functions on automata: sizes and copies. -/
namespace Go.Proofs.YtjhlbeamfngebaaDoor
open Go.RowKit Go.BigFrame AG

set_option maxHeartbeats 1000000 in
theorem szIntS_any (A : Option Addr) (n c : Nat) (left : Int) (w : World) (hn : n ≤ 9223372036854775807) (h0 : 0 ≤ left) (h1 : left ≤ 9223372036854775807) :
    Calls Tryd.prog 116 #[.slice A n c, .int .i64 left] w fun e w' => e = .returned (.int .i64 (sz1 n left)) ∧ w = w' := by
  go_enter Tryd.func116, Tryd.ntmps116
  go_wp2
  all_goals go_ret
  all_goals exact ⟨ret_int (by unfold sz1; split <;> omega), rfl⟩
set_option maxHeartbeats 1000000 in
theorem szBoolS_any (A : Option Addr) (n c : Nat) (left : Int) (w : World) (hn : n ≤ 9223372036854775807) (h0 : 0 ≤ left) (h1 : left ≤ 9223372036854775807) :
    Calls Tryd.prog 55 #[.slice A n c, .int .i64 left] w fun e w' => e = .returned (.int .i64 (sz1 n left)) ∧ w = w' := by
  go_enter Tryd.func55, Tryd.ntmps55
  go_wp2
  all_goals go_ret
  all_goals exact ⟨ret_int (by unfold sz1; split <;> omega), rfl⟩
theorem sz1_le {n : Nat} {left : Int} (h0 : 0 ≤ left) : sz1 n left ≤ left ∧ (0 ≤ sz1 n left → sz1 n left = left - n) := by
  unfold sz1
  split
  · exact ⟨by omega, fun h => by omega⟩
  · exact ⟨by omega, fun _ => rfl⟩

set_option maxRecDepth 100000 in
set_option maxHeartbeats 2000000 in
theorem szIntSS_any (rs : List (List Int)) (A : Option Addr) (c : Nat) (left : Int) (w : World) (h0 : 0 ≤ left) (h1 : left ≤ 1048576) (hl : rs.length ≤ c) (hc : c ≤ 9223372036854775807) (hr : RowsAt w w.heap.size A rs) :
    Calls Tryd.prog 54 #[.slice A rs.length c, .int .i64 left] w fun e w' => (∃ r : Int, e = .returned (.int .i64 r) ∧ r ≤ left ∧ (0 ≤ r → (rs.length : Int) + (cntR rs : Int) + r ≤ left)) ∧ w = w' := by
  replace hr := hid hr
  by_cases hneg : left - rs.length < 0
  · go_enter Tryd.func54, Tryd.ntmps54
    go_wp2
    go_ret
    exact ⟨⟨-1, rfl, by omega, by omega⟩, rfl⟩
  · have hn : rs.length ≤ 1048576 := by omega
    go_enter Tryd.func54, Tryd.ntmps54
    go_wp2_with fail
    go_loopw [1, 5] (fun lv iv wr => ∃ (i : Nat) (x : Int), iv = .int .i64 (i : Nat) ∧ i ≤ rs.length ∧ lv = .int .i64 x ∧ 0 ≤ x ∧ x ≤ left ∧ (rs.length : Int) + (cntR (rs.take i) : Int) + x ≤ left ∧ w = wr) (fun _ iv _ => rs.length - (intOf iv).toNat)
    case atStart => exact ⟨0, left - rs.length, rfl, Nat.zero_le _, rfl, by omega, by omega, by simp [cntR]; omega, by first | rfl | trivial⟩
    case round =>
      obtain ⟨i, x, rfl, hi, rfl, hx0, hx1, hx2, rfl⟩ := hrel
      by_cases hil : i < rs.length
      · obtain ⟨b, o, hA, hb, hE⟩ := hr.out (by omega)
        subst hA
        obtain ⟨Ai, ci, e1, e2, e3, -⟩ := hE i hil
        have k1 : (0 : Int) ≤ (i : Int) ∧ (i : Int) < (rs.length : Int) := by omega
        obtain ⟨s1, s2⟩ := sz1_le (n := rs[i].length) hx0
        have htk := cntR_take hil
        obtain ⟨y, hy⟩ : ∃ y, Hid (y = sz1 rs[i].length x) := ⟨_, hid rfl⟩
        rw [← hy.out] at s1 s2
        have hcall := hid (szIntS_any Ai rs[i].length ci x w (by omega) hx0 (by omega))
        rw [← hy.out] at hcall
        replace hE := hid hE
        obtain ⟨m, hm⟩ : ∃ m, Hid (m = rs[i].length) := ⟨_, hid rfl⟩
        rw [← hm.out] at e1 e2 s2 htk hcall
        have hnx : Hid (0 ≤ y → (rs.length : Int) + (cntR (rs.take (i + 1)) : Int) + y ≤ left) := hid (fun h => by rw [htk, s2 h]; omega)
        clear htk s2
        go_wp2_with fail
        refine hcall.out.mono ?_
        rintro e w1 ⟨rfl, rfl⟩
        by_cases hyn : y < 0
        · go_wp2_with fail
          go_ret
          exact ⟨⟨-1, rfl, by omega, by omega⟩, rfl⟩
        · go_wp2_with fail
          go_roundw
          case rel => exact ⟨i + 1, y, by go_num, by omega, rfl, by omega, by omega, hnx.out (by omega), by first | rfl | trivial⟩
          case measure => simp [intOf]; omega
      · obtain rfl : i = rs.length := by omega
        rw [List.take_length] at hx2
        go_wp2_with fail
        go_ret
        exact ⟨⟨x, rfl, hx1, fun _ => hx2⟩, rfl⟩

set_option maxRecDepth 100000 in
set_option maxHeartbeats 2000000 in
theorem szAutomaton_any (a : Au) (A B : Option Addr) (c d : Nat) (left : Int) (w : World) (h0 : 0 ≤ left) (h1 : left ≤ 1048576) (ha : AuAt w A c B d a) :
    Calls Tryd.prog 17 #[a.val A c B d, .int .i64 left] w fun e w' => (∃ r : Int, e = .returned (.int .i64 r) ∧ r ≤ left ∧ (0 ≤ r → (a.nx.length : Int) + (cntR a.nx : Int) + (a.ac.length : Int) ≤ left)) ∧ Below w.heap.size w w' := by
  unfold AG.Au.val
  obtain ⟨w0, hw0, hz0, hB0, hS0, hS1, hS2⟩ := boxed3 w (Value.int IntKind.i64 a.al) (Value.slice A a.nx.length c) (Value.slice B a.ac.length d) 33
  have p1 := hS1 _ (Below.refl _ _)
  have p2 := hS2 _ (Below.refl _ _)
  have hcl := ha.cl
  have hcm := ha.cm
  have hdl := ha.dl
  have hdm := ha.dm
  have hcall := hid (szIntSS_any a.nx A c left w0 h0 h1 hcl hcm (ha.later hB0).rows)
  replace ha := hid ha
  go_enter Tryd.func17, Tryd.ntmps17
  go_wp2_with fail
  refine hcall.out.mono ?_
  rintro e w1 ⟨⟨r, rfl, hr1, hr2⟩, rfl⟩
  by_cases hrn : r < 0
  · go_wp2_with fail
    go_ret
    exact ⟨⟨-1, rfl, by omega, by omega⟩, hB0⟩
  · obtain ⟨s1, s2⟩ := sz1_le (n := a.ac.length) (left := r) (by omega)
    have hc2 := hid (szBoolS_any B a.ac.length d r w0 (by omega) (by omega) (by omega))
    obtain ⟨y, hy⟩ : ∃ y, Hid (y = sz1 a.ac.length r) := ⟨_, hid rfl⟩
    rw [← hy.out] at s1 s2 hc2
    go_wp2_with fail
    refine hc2.out.mono ?_
    rintro e w1 ⟨rfl, rfl⟩
    by_cases hyn : y < 0
    · go_wp2_with fail
      go_ret
      exact ⟨⟨-1, rfl, by omega, by omega⟩, hB0⟩
    · have hfin : Hid ((a.nx.length : Int) + (cntR a.nx : Int) + (a.ac.length : Int) ≤ left) := hid (by have := hr2 (by omega); have := s2 (by omega); omega)
      clear s2 hr2
      go_wp2_with fail
      go_ret
      exact ⟨⟨y, rfl, by omega, fun _ => hfin.out⟩, hB0⟩

/-- The first cells of a block hold the first elements of a list. -/
def CellsIn {α : Type} (f : α → Value) (cs : Array Value) (xs : List α) (k : Nat) : Prop := cs.size = xs.length ∧ ∀ i (h : i < xs.length), i < k → cs[i]? = some (f xs[i])
theorem CellsIn.next {α : Type} {f : α → Value} {cs : Array Value} {xs : List α} {k : Nat} (h : CellsIn f cs xs k) (hk : k < xs.length) : CellsIn f (cs.setIfInBounds k (f xs[k])) xs (k + 1) := by
  refine ⟨by simpa using h.1, fun i hi hik => ?_⟩
  rw [Array.getElem?_setIfInBounds]
  by_cases e : k = i
  · subst e
    rw [if_pos rfl, if_pos (by rw [h.1]; exact hk)]
  · rw [if_neg e]
    exact h.2 i hi (by omega)
theorem CellsIn.all {α : Type} {f : α → Value} {cs : Array Value} {xs : List α} (h : CellsIn f cs xs xs.length) : cs = (xs.map f).toArray := by
  refine Array.ext' ?_
  refine List.ext_getElem? fun i => ?_
  by_cases hi : i < xs.length
  · rw [Array.getElem?_toList, h.2 i hi hi, List.getElem?_map, List.getElem?_eq_getElem hi]
    rfl
  · rw [Array.getElem?_toList, Array.getElem?_eq_none (by rw [h.1]; omega), List.getElem?_eq_none (by simpa using hi)]
theorem own_of_blk {w : World} {g : Nat} {t : TypeId} {ys : List Value} {base n : Nat} (h : Blk w g t ys.toArray) (hb : base ≤ g) (hn : ys.length = n) (hm : n ≤ maxLen) : w.ownsRow base t 1 (.slice (some ⟨g, 0, none⟩) n n) n ys := by
  subst hn
  exact ⟨by simp, .inr ⟨g, ys.length, ys.toArray, rfl, hb, h, Nat.le_refl _, hm, by simp, by simp⟩⟩

theorem infoBoolQ : (Tryd.prog.info? 4).map (fun i => (i.zero, i.size, i.bytes)) = some (some (.bool false), 1, 1) := by kernel_rfl
set_option maxRecDepth 100000 in
set_option maxHeartbeats 2000000 in
theorem toIntS_any (xs : List Int) (A : Option Addr) (c : Nat) (w : World) (hn : xs.length ≤ 1048576) (hl : xs.length ≤ c) (hc : c ≤ 9223372036854775807) (hr : IntsAt w w.heap.size A xs) :
    Calls Tryd.prog 122 #[.slice A xs.length c] w fun e w' => ∃ g, e = .returned (.slice (some ⟨g, 0, none⟩) xs.length xs.length) ∧ w.heap.size ≤ g ∧ Blk w' g 3 (intVals xs).toArray ∧ Below w.heap.size w w' := by
  replace hr := hid hr
  obtain ⟨i0, hi, hz0, hz1, hz2⟩ := info_parts infoInt
  have hmk := fun W => run_make_rowN (P := Tryd.prog) 72 3 i0 _ Tryd.underlying72 hi hz0 .i64 .i64 xs.length xs.length (Nat.le_refl _) (by rw [hz2]; omega) (by omega) W
  rw [hz1] at hmk
  clear hz1 hz0 hz2 hi
  go_enter Tryd.func122, Tryd.ntmps122
  go_wp2_with fail
  have hblk0 := Blk.new w 3 (madeCells #[Value.int IntKind.i64 0] xs.length)
  have hin0 : CellsIn (fun (n : Int) => Value.int .i64 n) (madeCells #[Value.int IntKind.i64 0] xs.length) xs 0 := ⟨by simp [madeCells], fun i _ h => by omega⟩
  have hB0 : Below w.heap.size w (w.alloc (.cells (madeCells #[Value.int IntKind.i64 0] xs.length) 3)) := (Below.refl _ _).alloc (Nat.le_refl _) _
  replace hblk0 := hid hblk0
  replace hin0 := hid hin0
  replace hB0 := hid hB0
  go_loopw [4] (fun i wr => ∃ (k : Nat) (cs : Array Value), i = .int .i64 k ∧ k ≤ xs.length ∧ CellsIn (fun (n : Int) => Value.int .i64 n) cs xs k ∧ Blk wr w.heap.size 3 cs ∧ Below w.heap.size w wr) (fun i _ => xs.length - (intOf i).toNat)
  case atStart => exact ⟨0, _, rfl, by omega, hin0.out, hblk0.out, hB0.out⟩
  case round =>
    obtain ⟨k, cs, rfl, hk, hin, hblk, hb⟩ := hrel
    by_cases hlt : k < xs.length
    · obtain ⟨b, o, hA, hB, hE⟩ := hr.out (by omega)
      subst hA
      have e0 := hE k hlt
      rw [← hb.cell (by simpa using hB)] at e0
      obtain ⟨v0, d0⟩ := hblk.some_ (i := k) (by rw [hin.1]; exact hlt)
      have z0 := hblk.frozen k
      have k1 : (0 : Int) ≤ (k : Int) ∧ (k : Int) < (xs.length : Int) := by omega
      have hnx := hid (hin.next hlt)
      have hbn := hid (hblk.set_ k (.int .i64 xs[k]))
      have hb2 := hid (hb.setCell (Nat.le_refl _) (p := ⟨w.heap.size, k, none⟩) (.int .i64 xs[k]))
      replace hblk := hid hblk
      replace hin := hid hin
      replace hE := hid hE
      go_wp2_with fail
      go_roundw
      case rel => exact ⟨k + 1, _, by go_num, by omega, hnx.out, hbn.out, by first | exact hb2.out | (repeat (first | exact Below.refl _ _ | assumption | refine Below.drew ?_ | refine Below.alloc ?_ (by first | omega | (simp; done) | (simp; omega)) _ | refine Below.setCell ?_ (by first | omega | (simp; done) | (simp; omega)) _))⟩
      case measure => simp [intOf]; omega
    · obtain rfl : k = xs.length := by omega
      have hall := hin.all
      subst hall
      replace hin := hid hin
      replace hblk := hid hblk
      go_wp2_with fail
      go_ret
      exact ⟨_, rfl, Nat.le_refl _, hblk.out, hb⟩

set_option maxRecDepth 100000 in
set_option maxHeartbeats 2000000 in
theorem toBoolS_any (xs : List Bool) (A : Option Addr) (c : Nat) (w : World) (hn : xs.length ≤ 1048576) (hl : xs.length ≤ c) (hc : c ≤ 9223372036854775807) (hr : BoolsAt w w.heap.size A xs) :
    Calls Tryd.prog 61 #[.slice A xs.length c] w fun e w' => ∃ g, e = .returned (.slice (some ⟨g, 0, none⟩) xs.length xs.length) ∧ w.heap.size ≤ g ∧ Blk w' g 4 (boolVals xs).toArray ∧ Below w.heap.size w w' := by
  replace hr := hid hr
  obtain ⟨i0, hi, hz0, hz1, hz2⟩ := info_parts infoBoolQ
  have hmk := fun W => run_make_rowN (P := Tryd.prog) 24 4 i0 _ Tryd.underlying24 hi hz0 .i64 .i64 xs.length xs.length (Nat.le_refl _) (by rw [hz2]; omega) (by omega) W
  rw [hz1] at hmk
  clear hz1 hz0 hz2 hi
  go_enter Tryd.func61, Tryd.ntmps61
  go_wp2_with fail
  have hblk0 := Blk.new w 4 (madeCells #[Value.bool false] xs.length)
  have hin0 : CellsIn (fun (n : Bool) => Value.bool n) (madeCells #[Value.bool false] xs.length) xs 0 := ⟨by simp [madeCells], fun i _ h => by omega⟩
  have hB0 : Below w.heap.size w (w.alloc (.cells (madeCells #[Value.bool false] xs.length) 4)) := (Below.refl _ _).alloc (Nat.le_refl _) _
  replace hblk0 := hid hblk0
  replace hin0 := hid hin0
  replace hB0 := hid hB0
  go_loopw [4] (fun i wr => ∃ (k : Nat) (cs : Array Value), i = .int .i64 k ∧ k ≤ xs.length ∧ CellsIn (fun (n : Bool) => Value.bool n) cs xs k ∧ Blk wr w.heap.size 4 cs ∧ Below w.heap.size w wr) (fun i _ => xs.length - (intOf i).toNat)
  case atStart => exact ⟨0, _, rfl, by omega, hin0.out, hblk0.out, hB0.out⟩
  case round =>
    obtain ⟨k, cs, rfl, hk, hin, hblk, hb⟩ := hrel
    by_cases hlt : k < xs.length
    · obtain ⟨b, o, hA, hB, hE⟩ := hr.out (by omega)
      subst hA
      have e0 := hE k hlt
      rw [← hb.cell (by simpa using hB)] at e0
      obtain ⟨v0, d0⟩ := hblk.some_ (i := k) (by rw [hin.1]; exact hlt)
      have z0 := hblk.frozen k
      have k1 : (0 : Int) ≤ (k : Int) ∧ (k : Int) < (xs.length : Int) := by omega
      have hnx := hid (hin.next hlt)
      have hbn := hid (hblk.set_ k (.bool xs[k]))
      have hb2 := hid (hb.setCell (Nat.le_refl _) (p := ⟨w.heap.size, k, none⟩) (.bool xs[k]))
      replace hblk := hid hblk
      replace hin := hid hin
      replace hE := hid hE
      go_wp2_with fail
      go_roundw
      case rel => exact ⟨k + 1, _, by go_num, by omega, hnx.out, hbn.out, by first | exact hb2.out | (repeat (first | exact Below.refl _ _ | assumption | refine Below.drew ?_ | refine Below.alloc ?_ (by first | omega | (simp; done) | (simp; omega)) _ | refine Below.setCell ?_ (by first | omega | (simp; done) | (simp; omega)) _))⟩
      case measure => simp [intOf]; omega
    · obtain rfl : k = xs.length := by omega
      have hall := hin.all
      subst hall
      replace hin := hid hin
      replace hblk := hid hblk
      go_wp2_with fail
      go_ret
      exact ⟨_, rfl, Nat.le_refl _, hblk.out, hb⟩

/-- The table under way. -/
structure ToSS (w wr : World) (rs : List (List Int)) (ys : List RowV) (cs : Array Value) : Prop where
  below : Below w.heap.size w wr
  eq : ys.map (·.r) = rs.take ys.length
  blk : Blk wr w.heap.size 72 cs
  size : cs.size = rs.length
  cells : ∀ i (h : i < ys.length), cs[i]? = some ys[i].v
  rows : ∀ y ∈ ys, wr.ownsRow w.heap.size 3 1 y.v y.r.length (intVals y.r)
  apart : ys.Pairwise fun x y => ∀ k, x.v.ownBlock = some k → y.v.ownBlock ≠ some k
theorem ToSS.next {w wr w1 : World} {rs : List (List Int)} {ys : List RowV} {cs : Array Value} (h : ToSS w wr rs ys cs) (hk : ys.length < rs.length) (hn : (rs[ys.length]).length ≤ 1048576) {g : Nat} (hb : Below wr.heap.size wr w1) (hg : wr.heap.size ≤ g) (hB : Blk w1 g 3 (intVals rs[ys.length]).toArray) :
    ToSS w (w1.setCell ⟨w.heap.size, ys.length, none⟩ (.slice (some ⟨g, 0, none⟩) rs[ys.length].length rs[ys.length].length)) rs (ys ++ [⟨rs[ys.length], some ⟨g, 0, none⟩, rs[ys.length].length⟩]) (cs.setIfInBounds ys.length (.slice (some ⟨g, 0, none⟩) rs[ys.length].length rs[ys.length].length)) := by
  have hz := h.below.size
  have hlt := h.blk.lt
  have hbk := h.blk.below hb hlt
  have hrow : w1.ownsRow w.heap.size 3 1 (.slice (some ⟨g, 0, none⟩) rs[ys.length].length rs[ys.length].length) rs[ys.length].length (intVals rs[ys.length]) := own_of_blk hB (by omega) (by unfold intVals; simp) (by unfold maxLen; omega)
  have hold : ∀ y ∈ ys, w1.ownsRow w.heap.size 3 1 y.v y.r.length (intVals y.r) := fun y hy => own_later_ (h.rows y hy) hb
  refine ⟨(h.below.trans (hb.mono hz)).setCell (Nat.le_refl _) _, ?_, hbk.set_ _ _, by simpa using h.size, fun i hi => ?_, fun y hy => ?_, ?_⟩
  · rw [List.map_append, h.eq, List.length_append, List.length_singleton, List.take_succ_eq_append_getElem hk]
    rfl
  · rw [Array.getElem?_setIfInBounds]
    by_cases e : ys.length = i
    · subst e
      rw [if_pos rfl, if_pos (by rw [h.size]; exact hk), List.getElem_append_right (Nat.le_refl _)]
      simp [RowV.v]
    · have hi' : i < ys.length := by simp at hi; omega
      rw [if_neg e, List.getElem_append_left hi']
      exact h.cells i hi'
  · rcases List.mem_append.1 hy with hy | hy
    · exact ownsRow_setCell_other (a := ⟨w.heap.size, ys.length, none⟩) (hold y hy) (fun e => own_ne (hold y hy) hbk (by decide) _ e rfl) _
    · rw [List.mem_singleton.1 hy]
      exact ownsRow_setCell_other (a := ⟨w.heap.size, ys.length, none⟩) hrow (fun e => own_ne hrow hbk (by decide) _ e rfl) _
  · rw [List.pairwise_append]
    refine ⟨h.apart, List.pairwise_singleton _ _, fun x hx y hy k e e' => ?_⟩
    rw [List.mem_singleton.1 hy] at e'
    have h1 := ((h.rows x hx).lt k e).2
    have h2 : some g = some k := e'
    injection h2 with h2
    omega
theorem ToSS.fin {w wr : World} {rs : List (List Int)} {ys : List RowV} {cs : Array Value} (h : ToSS w wr rs ys cs) (hk : ys.length = rs.length) (hn : rs.length ≤ 1048576) : RowsOwn wr w.heap.size (.slice (some ⟨w.heap.size, 0, none⟩) rs.length rs.length) ys ∧ ys.map (·.r) = rs := by
  have hcs : cs = (rowVals ys).toArray := by
    refine Array.ext' (List.ext_getElem? fun i => ?_)
    unfold rowVals
    by_cases hi : i < ys.length
    · rw [Array.getElem?_toList, h.cells i hi, List.getElem?_map, List.getElem?_eq_getElem hi]
      rfl
    · rw [Array.getElem?_toList, Array.getElem?_eq_none (by rw [h.size]; omega), List.getElem?_eq_none (by simpa using hi)]
  refine ⟨⟨?_, h.rows, h.apart⟩, by rw [h.eq, hk, List.take_length]⟩
  rw [← hk]
  exact own_of_blk (by rw [← hcs]; exact h.blk) (Nat.le_refl _) (by unfold rowVals; simp) (by unfold maxLen; omega)

set_option maxRecDepth 100000 in
set_option maxHeartbeats 2000000 in
theorem toIntSS_any (rs : List (List Int)) (A : Option Addr) (c : Nat) (w : World) (hn : rs.length ≤ 1048576) (hn2 : ∀ r ∈ rs, r.length ≤ 1048576) (hl : rs.length ≤ c) (hc : c ≤ 9223372036854775807) (hr : RowsAt w w.heap.size A rs) :
    Calls Tryd.prog 60 #[.slice A rs.length c] w fun e w' => ∃ ys, e = .returned (.slice (some ⟨w.heap.size, 0, none⟩) rs.length rs.length) ∧ RowsOwn w' w.heap.size (.slice (some ⟨w.heap.size, 0, none⟩) rs.length rs.length) ys ∧ ys.map (·.r) = rs ∧ Below w.heap.size w w' := by
  replace hr := hid hr
  replace hn2 := hid hn2
  obtain ⟨i0, hi, hz0, hz1, hz2⟩ := info_parts infoInts
  have hmk := fun W => run_make_rowN (P := Tryd.prog) 23 72 i0 _ Tryd.underlying23 hi hz0 .i64 .i64 rs.length rs.length (Nat.le_refl _) (by rw [hz2]; omega) (by omega) W
  rw [hz1] at hmk
  clear hz1 hz0 hz2 hi
  go_enter Tryd.func60, Tryd.ntmps60
  go_wp2_with fail
  have hst0 : Hid (ToSS w (w.alloc (.cells (madeCells #[Value.slice none 0 0] rs.length) 72)) rs [] (madeCells #[Value.slice none 0 0] rs.length)) := hid ⟨(Below.refl _ _).alloc (Nat.le_refl _) _, by simp, Blk.new _ _ _, by simp [madeCells], fun i h => absurd h (by simp), fun y hy => (by cases hy), List.Pairwise.nil⟩
  go_loopw [4] (fun i wr => ∃ (ys : List RowV) (cs : Array Value), i = .int .i64 (ys.length : Nat) ∧ ys.length ≤ rs.length ∧ ToSS w wr rs ys cs) (fun i _ => rs.length - (intOf i).toNat)
  case atStart => exact ⟨[], _, rfl, Nat.zero_le _, hst0.out⟩
  case round =>
    clear hst0
    obtain ⟨ys, cs, rfl, hk, hst⟩ := hrel
    by_cases hlt : ys.length < rs.length
    · have hb := hst.below
      obtain ⟨b, o, hA, hB, hE⟩ := (hr.out.later hb) (by omega)
      subst hA
      obtain ⟨Ai, ci, e1, e2, e3, e4⟩ := hE _ hlt
      obtain ⟨r, hrr⟩ : ∃ r, Hid (r = rs[ys.length]) := ⟨_, hid rfl⟩
      have hrl : r.length ≤ 1048576 := by rw [hrr.out]; exact hn2.out _ (List.getElem_mem hlt)
      rw [← hrr.out] at e1 e2 e4
      have k1 : (0 : Int) ≤ (ys.length : Int) ∧ (ys.length : Int) < (rs.length : Int) := by omega
      replace hE := hid hE
      replace e4 := hid e4
      replace hst := hid hst
      go_wp2_with fail
      refine (toIntS_any r Ai ci wr hrl e2 e3 e4.out).mono ?_
      rintro e w1 ⟨g, rfl, hg, hBg, hb1⟩
      have hbk := hst.out.blk.below hb1 hst.out.blk.lt
      obtain ⟨v0, d0⟩ := hbk.some_ (i := ys.length) (by rw [hst.out.size]; exact hlt)
      have z0 := hbk.frozen ys.length
      have hnx := hid (by
        have h := hst.out.next (w1 := w1) (g := g) hlt (by rw [← hrr.out]; exact hrl) hb1 hg (by rw [← hrr.out]; exact hBg)
        rw [← hrr.out] at h
        exact h)
      replace hBg := hid hBg
      replace hbk := hid hbk
      go_wp2_with fail
      go_roundw
      case rel => exact ⟨_, _, by rw [List.length_append]; go_num, by rw [List.length_append, List.length_singleton]; omega, hnx.out⟩
      case measure => simp [intOf]; omega
    · have hle : ys.length = rs.length := by omega
      obtain ⟨hro, heq⟩ := hst.fin hle hn
      have hb := hst.below
      replace hro := hid hro
      replace hst := hid hst
      go_wp2_with fail
      go_ret
      exact ⟨ys, rfl, hro.out, heq, hb⟩

set_option maxRecDepth 100000 in
set_option maxHeartbeats 2000000 in
theorem toAutomaton_any (a : Au) (A B : Option Addr) (c d : Nat) (w : World) (hn : a.nx.length ≤ 1048576) (hn2 : ∀ r ∈ a.nx, r.length ≤ 1048576) (hn3 : a.ac.length ≤ 1048576) (ha : AuAt w A c B d a) :
    Calls Tryd.prog 19 #[a.val A c B d] w fun e w' => ∃ (A' B' : Option Addr) (ys : List RowV), e = .returned (a.val A' a.nx.length B' a.ac.length) ∧ AuOwn w' w.heap.size (.slice A' a.nx.length a.nx.length) (.slice B' a.ac.length a.ac.length) a ys ∧ Below w.heap.size w w' := by
  unfold AG.Au.val
  replace ha := hid ha
  replace hn2 := hid hn2
  go_enter Tryd.func19, Tryd.ntmps19
  go_wp2_with fail
  obtain ⟨w0, hw0⟩ : ∃ w0, ((w.alloc (Obj.cells #[Value.int IntKind.i64 a.al, Value.slice A a.nx.length c, Value.slice B a.ac.length d] 33)).alloc (Obj.cells #[Value.int IntKind.i64 0, Value.slice none 0 0, Value.slice none 0 0] 26)).alloc
      (Obj.cells #[Value.int IntKind.i64 a.al, Value.slice none 0 0, Value.slice none 0 0] 26) = w0 := ⟨_, rfl⟩
  have hz : w0.heap.size = w.heap.size + 3 := by rw [← hw0]; simp
  have hB0 : Below w.heap.size w w0 := by rw [← hw0]; (repeat (first | exact Below.refl _ _ | assumption | refine Below.drew ?_ | refine Below.alloc ?_ (by first | omega | (simp; done) | (simp; omega)) _ | refine Below.setCell ?_ (by first | omega | (simp; done) | (simp; omega)) _))
  have k0 : Blk w0 w.heap.size 33 #[Value.int IntKind.i64 a.al, Value.slice A a.nx.length c, Value.slice B a.ac.length d] := by
    rw [← hw0]
    exact ((Blk.new w 33 #[Value.int IntKind.i64 a.al, Value.slice A a.nx.length c, Value.slice B a.ac.length d]).alloc _).alloc _
  have k1 : Blk w0 (w.heap.size + 1) 26 #[Value.int IntKind.i64 0, Value.slice none 0 0, Value.slice none 0 0] := by
    rw [← hw0]
    refine Blk.alloc ?_ _
    have := Blk.new (w.alloc (Obj.cells #[Value.int IntKind.i64 a.al, Value.slice A a.nx.length c, Value.slice B a.ac.length d] 33)) 26 #[Value.int IntKind.i64 0, Value.slice none 0 0, Value.slice none 0 0]
    simpa using this
  have k2 : Blk w0 (w.heap.size + 1 + 1) 26 #[Value.int IntKind.i64 a.al, Value.slice none 0 0, Value.slice none 0 0] := by
    rw [← hw0]
    have := Blk.new ((w.alloc (Obj.cells #[Value.int IntKind.i64 a.al, Value.slice A a.nx.length c, Value.slice B a.ac.length d] 33)).alloc (Obj.cells #[Value.int IntKind.i64 0, Value.slice none 0 0, Value.slice none 0 0] 26)) 26 #[Value.int IntKind.i64 a.al, Value.slice none 0 0, Value.slice none 0 0]
    simpa using this
  rw [hw0]
  clear hw0
  have ha0 := hid (ha.out.later hB0)
  refine (toIntSS_any a.nx A c w0 hn hn2.out ha0.out.cl ha0.out.cm ha0.out.rows).mono ?_
  rintro e w1 ⟨ys, rfl, hro, heq, hb1⟩
  have hB1 := hB0.trans (hb1.mono (by omega))
  have hk2 := k2.below hb1 (by omega)
  have d1 : w1.cell? ⟨w.heap.size + 1 + 1, 1, none⟩ = some (.slice none 0 0) := by rw [hk2.cell]; rfl
  have y1 := hk2.frozen 1
  have hk0 := k0.below hb1 (by omega)
  have b2 : w1.cell? ⟨w.heap.size, 2, none⟩ = some (.slice B a.ac.length d) := by rw [hk0.cell]; rfl
  obtain ⟨n1, hn1⟩ : ∃ n1, Hid (n1 = w0.heap.size) := ⟨_, hid rfl⟩
  rw [← hn1.out] at hro ⊢
  replace hk2 := hid hk2
  replace hk0 := hid hk0
  replace hro := hid hro
  replace heq := hid heq
  have hz1 := hb1.size
  go_wp2_with fail
  obtain ⟨w2, hw2⟩ : ∃ w2, w1.setCell ⟨w.heap.size + 1 + 1, 1, none⟩ (.slice (some ⟨n1, 0, none⟩) a.nx.length a.nx.length) = w2 := ⟨_, rfl⟩
  rw [hw2]
  have hkp2 : KeepB (fun b => b = w.heap.size + 1 + 1) w1 w2 := by rw [← hw2]; exact KeepB.setCell (K := fun b => b = w.heap.size + 1 + 1) (KeepB.refl _ w1) _ _ fun _ => rfl
  have hB2 : Below w.heap.size w w2 := hkp2.below hB1 (by omega) fun k e => by omega
  have hro2 : Hid (RowsOwn w2 w0.heap.size (.slice (some ⟨n1, 0, none⟩) a.nx.length a.nx.length) ys) := hid (by
    have hn := hn1.out
    have h := hro.out
    rw [hn] at h ⊢
    exact h.keep hkp2 (fun g hg e => by have := (h.own.lt g hg).1; omega) (fun x hx g hg e => by have := ((h.rows x hx).lt g hg).1; omega))
  have q2 : Hid (Blk w2 (w.heap.size + 1 + 1) 26 #[Value.int IntKind.i64 a.al, .slice (some ⟨n1, 0, none⟩) a.nx.length a.nx.length, Value.slice none 0 0]) := hid (by rw [← hw2]; simpa using hk2.out.set_ 1 (.slice (some ⟨n1, 0, none⟩) a.nx.length a.nx.length))
  have q1 : Hid (Blk w2 (w.heap.size + 1) 26 #[Value.int IntKind.i64 0, Value.slice none 0 0, Value.slice none 0 0]) := hid (by
    rw [← hw2]
    exact (Below.heap_setCell _ _ _ _ (show w.heap.size + 1 ≠ w.heap.size + 1 + 1 by omega)).trans (k1.below hb1 (by omega)))
  have hz2 := hkp2.size
  have ha2 := hid (ha.out.later hB2)
  clear hw2 d1 y1 b2
  refine (toBoolS_any a.ac B d w2 hn3 ha2.out.dl ha2.out.dm ha2.out.acc).mono ?_
  rintro e w3 ⟨g, rfl, hg, hBg, hb3⟩
  have hB3 := hB2.trans (hb3.mono (by omega))
  have q3 := q2.out.below hb3 (by omega)
  have q4 := q1.out.below hb3 (by omega)
  have hau : Hid (AuOwn w3 w0.heap.size (.slice (some ⟨n1, 0, none⟩) a.nx.length a.nx.length) (.slice (some ⟨g, 0, none⟩) a.ac.length a.ac.length) a ys) := hid ⟨hro2.out.later hb3, heq.out, own_of_blk hBg (by omega) (by unfold boolVals; simp) (by unfold maxLen; omega)⟩
  have c0 : w3.cell? ⟨w.heap.size + 1, 0, none⟩ = some (.int .i64 0) := by rw [q4.cell]; rfl
  have c1 : w3.cell? ⟨w.heap.size + 1, 1, none⟩ = some (.slice none 0 0) := by rw [q4.cell]; rfl
  have c2 : w3.cell? ⟨w.heap.size + 1, 2, none⟩ = some (.slice none 0 0) := by rw [q4.cell]; rfl
  have d0 : w3.cell? ⟨w.heap.size + 1 + 1, 0, none⟩ = some (.int .i64 a.al) := by rw [q3.cell]; rfl
  have d1 : w3.cell? ⟨w.heap.size + 1 + 1, 1, none⟩ = some (.slice (some ⟨n1, 0, none⟩) a.nx.length a.nx.length) := by rw [q3.cell]; rfl
  have d2 : w3.cell? ⟨w.heap.size + 1 + 1, 2, none⟩ = some (.slice none 0 0) := by rw [q3.cell]; rfl
  have y0 := q4.frozen 0
  have y1 := q4.frozen 1
  have y2 := q4.frozen 2
  have y3 := q3.frozen 2
  replace q3 := hid q3
  replace q4 := hid q4
  replace hBg := hid hBg
  go_wp2
  refine bodyPost_ret (v := .agg #[.int .i64 a.al, .slice (some ⟨n1, 0, none⟩) a.nx.length a.nx.length, .slice (some ⟨g, 0, none⟩) a.ac.length a.ac.length]) (by simp [results, Tryd.results19, go_sem, c0, c1, c2]) rfl ⟨some ⟨n1, 0, none⟩, some ⟨g, 0, none⟩, ys, rfl, ?_, by (repeat (first | exact Below.refl _ _ | assumption | refine Below.drew ?_ | refine Below.alloc ?_ (by first | omega | (simp; done) | (simp; omega)) _ | refine Below.setCell ?_ (by first | omega | (simp; done) | (simp; omega)) _))⟩
  exact ((((hau.out.setFar (show w.heap.size + 1 + 1 < w0.heap.size by omega) _).setFar (show w.heap.size + 1 < w0.heap.size by omega) _).setFar (show w.heap.size + 1 < w0.heap.size by omega) _).setFar (show w.heap.size + 1 < w0.heap.size by omega) _).base (by omega)

end Go.Proofs.YtjhlbeamfngebaaDoor
