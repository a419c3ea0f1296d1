/- Lemmas, part 4: several texts in one. -/
import Derived.Test.YtimoekglamdddaaDoorK3
import Derived.Test.YtimoekglamdddaaDoorK1
import Derived.Maps.AppendAt
import Derived.Test.YtimoekglamdddaaDoorK2
import Derived.BigQuiet
import Derived.BigRegion
import Derived.RegionTactic
import Derived.Maps.Own
import Derived.Maps.OwnOps
import Derived.Maps.Range
import Derived.Maps.RangeWalk
import Derived.Maps.Views
import Derived.Deep.DeepCutAuto
set_option linter.unusedSimpArgs false
set_option linter.unusedVariables false

/- The program's sameAlphabets, lettersOf, letterByte, members. -/
namespace Go.Proofs.YtimoekglamdddaaDoor
open Go.RowKit Go.BigFrame AG

set_option maxRecDepth 100000 in
set_option maxHeartbeats 1000000 in
theorem sameAlphabets_any (s t : Sy) (A B : Option Addr) (c d : Nat) (w : World) (hl : s.es.length ≤ c) (hc : c ≤ 9223372036854775807) (hm : t.es.length ≤ d) (hd : d ≤ 9223372036854775807) (hr : EdsAt w w.heap.size A s.es) (hs : EdsAt w w.heap.size B t.es) :
    Calls Tryd.prog 99 #[s.val A c, t.val B d] w fun e w' => e = .returned (.bool (cmpOk s t)) ∧ Below w.heap.size w w' := by
  unfold Sy.val
  replace hr := hid hr
  replace hs := hid hs
  have hval : Hid (cmpOk s t = (sysOk s && (sysOk t && decide (s.al = t.al)))) := hid rfl
  go_enter Tryd.func99, Tryd.ntmps99
  go_wp2_with fail
  obtain ⟨w0, hw0, hz0, hB0, hS, hT⟩ := boxed2 w #[Value.int IntKind.i64 s.al, Value.int IntKind.i64 s.st, Value.slice A s.es.length c] 34 #[Value.int IntKind.i64 t.al, Value.int IntKind.i64 t.st, Value.slice B t.es.length d] 34
  rw [hw0]
  clear hw0
  have p0 := hS 0 _ rfl _ (Below.refl _ _)
  have p1 := hS 1 _ rfl _ (Below.refl _ _)
  have p2 := hS 2 _ rfl _ (Below.refl _ _)
  have hr0 := hid (hr.out.later hB0)
  go_wp2_with fail
  refine (implSystemValid_any s A c w0 hl hc hr0.out).mono ?_
  rintro e w1 ⟨rfl, hb1⟩
  have b1 := hb1.mono hz0
  clear p0 p1 p2
  have p0 := hS 0 _ rfl _ b1
  have q0 := hT 0 _ rfl _ b1
  have q1 := hT 1 _ rfl _ b1
  have q2 := hT 2 _ rfl _ b1
  have B1 : Below w.heap.size w w1 := hB0.trans (b1.mono (by omega))
  cases hA : sysOk s
  · replace hA := hid hA
    go_wp2_with fail
    go_ret
    exact ⟨ret_bool (by rw [hval.out, hA.out]; rfl), B1⟩
  · replace hA := hid hA
    have hs1 := hid (hs.out.later B1)
    go_wp2_with fail
    refine (implSystemValid_any t B d w1 hm hd hs1.out).mono ?_
    rintro e w2 ⟨rfl, hb2⟩
    have b2 := b1.trans (hb2.mono (Nat.le_trans hz0 hb1.size))
    clear p0 q0 q1 q2
    have p0 := hS 0 _ rfl _ b2
    have q0 := hT 0 _ rfl _ b2
    have B2 : Below w.heap.size w w2 := hB0.trans (b2.mono (by omega))
    cases hB : sysOk t
    · replace hB := hid hB
      go_wp2_with fail
      go_ret
      exact ⟨ret_bool (by rw [hval.out, hA.out, hB.out]; rfl), B2⟩
    · replace hB := hid hB
      go_wp2_with fail
      go_ret
      exact ⟨ret_bool (by rw [hval.out, hA.out, hB.out, Bool.eq_iff_iff]; simp), B2⟩

set_option maxRecDepth 100000 in
set_option maxHeartbeats 400000 in
theorem letterByte_any (l : Nat) (h : l < 6) (w : World) :
    Calls Tryd.prog 81 #[.int .i64 l] w fun e w' => e = .returned (.int .u8 (97 + l : Nat)) ∧ w = w' := by
  go_enter Tryd.func81, Tryd.ntmps81
  go_wp2
  go_ret
  exact ⟨rfl, rfl⟩

set_option maxRecDepth 100000 in
set_option maxHeartbeats 1000000 in
theorem lettersOf_any (A : Int) (w : World) :
    Calls Tryd.prog 64 #[.int .i64 A] w fun e w' => ∃ v, e = .returned v ∧ OwnNats w' w.heap.size v (letters A) ∧ Below w.heap.size w w' := by
  obtain ⟨i0, hi, hz0, hz1, hz2⟩ := info_parts infoInt
  go_enter Tryd.func64, Tryd.ntmps64
  go_wp2_with fail
  go_loopw [3, 5] (fun v i wr => ∃ k : Nat, k ≤ 6 ∧ i = .int .i64 k ∧ OwnNats wr w.heap.size v (lettersTo A k) ∧ Below w.heap.size w wr) (fun _ i _ => 6 - (intOf i).toNat)
  case atStart =>
    refine ⟨0, by omega, rfl, ?_, by (repeat (first | exact Below.refl _ _ | assumption | refine Below.drew ?_ | refine Below.alloc ?_ (by first | omega | (simp; done) | (simp; omega)) _ | refine Below.setCell ?_ (by first | omega | (simp; done) | (simp; omega)) _))⟩
    exact World.ownsRow_nil _ _ _ _
  case round =>
    obtain ⟨k, hk, rfl, hown, hb⟩ := hrel
    have hz := hb.size
    have hlen := lettersTo_len A k
    by_cases hlt : k < 6
    · have hHZ : Hid (HasZ A (k : Int) = Has A k) := hid (by unfold HasZ; simp)
      cases hH : Has A k
      · replace hH := hid hH
        go_wp2_with (go_at_call 78; refine (has_any A k _ (by omega)).mono ?_; rintro e w' ⟨rfl, rfl⟩; rw [hHZ.out, hH.out])
        go_roundw
        case rel => exact ⟨k + 1, by omega, by go_num, by rw [lettersTo_succ, hH.out]; exact hown, hb⟩
        case measure => simp [intOf]; omega
      · replace hH := hid hH
        unfold OwnNats at hown
        go_wp2_with (first
          | (go_at_call 78; refine (has_any A k _ (by omega)).mono ?_; rintro e w' ⟨rfl, rfl⟩; rw [hHZ.out, hH.out])
          | (at_builtin; refine wpList_append_own _ rfl _ _ 61 rfl w.heap.size 3 i0 (.int .i64 0) 1 8 Tryd.underlying61 hi hz0 hz1 hz2 rfl (by decide) _ _ _ rfl (hown.alloc _) ⟨wr.heap.size, 0, none⟩ 1 1 [.int .i64 (k : Int)] rfl rfl (cell_one_new _ _ _) (by intro u hu; simp at hu; subst hu; rfl) (by unfold maxLen; omega) (by omega) (by simp; omega) ?_; intro v' w1 hown' hgrow _))
        have R := letters_next hz hH.out hown hb hown' hgrow
        clear hown' hgrow hown hb hlen
        go_roundw
        case rel => exact ⟨k + 1, by omega, by go_num, R.1, R.2⟩
        case measure => simp [intOf]; omega
    · obtain rfl : k = 6 := by omega
      go_wp2
      go_ret
      exact ⟨_, rfl, hown, hb⟩

set_option maxRecDepth 100000 in
set_option maxHeartbeats 1000000 in
theorem members_any (S : Nat) (hS : S < 65536) (w : World) (hT : Tab w) :
    Calls Tryd.prog 106 #[.int .i64 S] w fun e w' => ∃ v, e = .returned v ∧ OwnNats w' w.heap.size v (memL S) ∧ Below w.heap.size w w' := by
  obtain ⟨i0, hi, hz0, hz1, hz2⟩ := info_parts infoInt
  replace hT := hid hT
  go_enter Tryd.func106, Tryd.ntmps106
  go_wp2_with fail
  go_loopw [0, 3] (fun st v wr => ∃ (T : Nat) (ns : List Nat), st = .int .i64 T ∧ T < 65536 ∧ ns ++ memL T = memL S ∧ OwnNats wr w.heap.size v ns ∧ Below w.heap.size w wr) (fun st _ _ => (intOf st).toNat)
  case atStart => exact ⟨S, [], rfl, hS, rfl, World.ownsRow_nil _ _ _ _, by (repeat (first | exact Below.refl _ _ | assumption | refine Below.drew ?_ | refine Below.alloc ?_ (by first | omega | (simp; done) | (simp; omega)) _ | refine Below.setCell ?_ (by first | omega | (simp; done) | (simp; omega)) _))⟩
  case round =>
    obtain ⟨T, ns, rfl, hTl, hns, hown, hb⟩ := hrel
    by_cases hT0 : T = 0
    · subst hT0
      have hfin : Hid (ns = memL S) := hid (by rw [memL_zero, List.append_nil] at hns; exact hns)
      replace hns := hid hns
      replace hown := hid hown
      go_wp2
      go_ret
      exact ⟨_, rfl, by rw [← hfin.out]; exact hown.out, hb⟩
    · obtain ⟨mm, hTm, hq64⟩ := Lib.ctzFrom_spec 64 T (by omega) (by omega)
      have hctz : Lib.ctz 64 T = Lib.ctzFrom 64 T := by unfold Lib.ctz; rw [if_neg hT0]
      rw [← hctz] at hTm hq64
      have hlow := memL_low hTl hTm
      obtain ⟨hbit, -, hdec⟩ := drop_low hTm
      have hq16 : Lib.ctz 64 T < 16 := testBit_lt (n := 16) hTl hbit
      have hnl : ns.length ≤ 16 := by
        have h1 := congrArg List.length hns
        have h2 := memL_len S
        rw [List.length_append] at h1
        omega
      have hne : ((T : Int) != 0) = true := by simpa using hT0
      have hand := hid (bits_andN T (T - 1) hTl (by omega))
      have e1 : ((T : Int) - 1) = ((T - 1 : Nat) : Int) := by omega
      replace e1 := hid e1
      have hTr := hid (hT.out.later hb)
      have hlt2 : Hid (T &&& (T - 1) < 65536) := hid (by omega)
      replace hdec := hid hdec
      replace hlow := hid hlow
      replace hns := hid hns
      have hzr := hb.size
      clear hbit hTm hctz
      generalize hqq : Lib.ctz 64 T = q at *
      replace hqq := hid hqq
      unfold OwnNats at hown
      replace hown := hid hown
      go_wp2_with (first
        | (go_at_call 121; refine (trailingZeros_any T (by omega) hT0 _ hTr.out).mono ?_; rintro e w' ⟨rfl, rfl⟩; rw [hqq.out])
        | (at_builtin; refine wpList_append_own _ rfl _ _ 61 rfl w.heap.size 3 i0 (.int .i64 0) 1 8 Tryd.underlying61 hi hz0 hz1 hz2 rfl (by decide) _ _ _ rfl (hown.out.alloc _) ⟨wr.heap.size, 0, none⟩ 1 1 [.int .i64 (q : Int)] rfl rfl (cell_one_new _ _ _) (by intro u hu; simp at hu; subst hu; rfl) (by unfold maxLen; omega) (by omega) (by simp; omega) ?_; intro v' w1 hown' hgrow _))
      go_roundw
      case rel =>
        refine ⟨T &&& (T - 1), ns ++ [q], by rw [e1.out, hand.out], hlt2.out, by rw [← hns.out, hlow.out, List.append_assoc]; rfl, ?_, Below.grown (hb.alloc hzr _) hgrow (by simp; omega) (own_block hown.out)⟩
        unfold OwnNats
        rw [List.length_append, List.map_append]
        exact hown'
      case measure => rw [e1.out, hand.out]; simp [intOf]; exact hdec.out

end Go.Proofs.YtimoekglamdddaaDoor

/- Lists of pairs of sets in memory; the reference's l5Find. -/
namespace Go.Proofs.YtimoekglamdddaaDoor
open Go.RowKit Go.BigFrame AG

/-- The place of p in ps, or -1. -/
def findP (ps : List (Nat × Nat)) (p : Nat × Nat) : Int :=
  match ps.findIdx? (· == p) with
  | some i => (i : Int)
  | none => -1
theorem findP_at {ps : List (Nat × Nat)} {p : Nat × Nat} {k : Nat} (hk : k < ps.length) (h : ps[k] = p) (hb : ∀ j (hj : j < ps.length), j < k → ps[j] ≠ p) : findP ps p = k := by
  unfold findP
  rw [show ps.findIdx? (· == p) = some k from List.findIdx?_eq_some_iff_getElem.2 ⟨hk, by simpa using h, fun j hj => by simpa using hb j (by omega) hj⟩]
theorem findP_none {ps : List (Nat × Nat)} {p : Nat × Nat} (hb : ∀ j (hj : j < ps.length), ps[j] ≠ p) : findP ps p = -1 := by
  unfold findP
  rw [show ps.findIdx? (· == p) = none from List.findIdx?_eq_none_iff.2 fun x hx => by
    obtain ⟨j, hj, rfl⟩ := List.mem_iff_getElem.1 hx
    simpa using hb j hj]
theorem findP_neg (ps : List (Nat × Nat)) (p : Nat × Nat) : findP ps p < 0 ↔ p ∉ ps := by
  constructor
  · intro h hp
    unfold findP at h
    cases hf : ps.findIdx? (· == p) with
    | none =>
      have := List.findIdx?_eq_none_iff.1 hf p hp
      simp at this
    | some i =>
      rw [hf] at h
      have h' : (i : Int) < 0 := h
      omega
  · intro h
    rw [findP_none fun j hj e => h (by rw [← e]; exact List.getElem_mem _)]
    decide

/-- The slice of pairs reads as ps, below block B. -/
def PairsAt (w : World) (B : Nat) (A : Option Addr) (ps : List (Nat × Nat)) : Prop :=
  0 < ps.length → ∃ b o, A = some ⟨b, o, none⟩ ∧ b < B ∧ ∀ i (h : i < ps.length), w.cell? ⟨b, o + i * 2, none⟩ = some (.int .i64 ps[i].1) ∧ w.cell? ⟨b, o + i * 2 + 1, none⟩ = some (.int .i64 ps[i].2)

theorem below_drewNp {B : Nat} {a w : World} (h : Below B a w) (n : Nat) : Below B a (w.drewN n) := h.trans ⟨rfl, rfl, rfl, Nat.le_refl _, fun _ _ => rfl⟩

set_option maxHeartbeats 2000000 in
theorem l5Find_any (ps : List (Nat × Nat)) (A : Option Addr) (c : Nat) (p : Nat × Nat) (w : World) (hl : ps.length ≤ c) (hc : c ≤ 9223372036854775807) (hr : PairsAt w w.heap.size A ps) :
    Calls Tryd.prog 145 #[.slice A ps.length c, .agg #[.int .i64 p.1, .int .i64 p.2]] w fun e w' => e = .returned (.int .i64 (findP ps p)) ∧ Below w.heap.size w w' := by
  replace hr := hid hr
  go_enter Tryd.func145, Tryd.ntmps145
  go_wp2_with fail
  obtain ⟨w0, hw0, hz0, hB0, hS⟩ := boxed w #[Value.int IntKind.i64 p.1, Value.int IntKind.i64 p.2] 147
  rw [hw0]
  clear hw0
  have s0 := hS 0 _ rfl
  have s1 := hS 1 _ rfl
  go_loopw [5] (fun i wr => ∃ k : Nat, k ≤ ps.length ∧ i = .int .i64 k ∧ (∀ j (hj : j < ps.length), j < k → ps[j] ≠ p) ∧ Below (w.heap.size + 1) w0 wr) (fun i _ => ps.length - (intOf i).toNat)
  case atStart => exact ⟨0, by omega, rfl, fun j _ h => by omega, Below.refl _ _⟩
  case round =>
    obtain ⟨k, hk, rfl, hbf, hb⟩ := hrel
    replace hbf := hid hbf
    have q0 := s0 _ hb
    have q1 := s1 _ hb
    have hzr := hb.size
    by_cases hlt : k < ps.length
    · obtain ⟨b, o, rfl, hB, hE⟩ := hr.out (by omega)
      obtain ⟨e0, e1⟩ := hE k hlt
      replace hE := hid hE
      have e0' : wr.cell? ⟨b, o + k * 2, none⟩ = some (.int .i64 ps[k].1) := by rw [hb.cell (by simp; omega), hB0.cell (by simpa using hB)]; exact e0
      have e1' : wr.cell? ⟨b, o + k * 2 + 1, none⟩ = some (.int .i64 ps[k].2) := by rw [hb.cell (by simp; omega), hB0.cell (by simpa using hB)]; exact e1
      have i1 : (0 : Int) ≤ (k : Int) := by omega
      have i2 : (k : Int) < (ps.length : Int) := by omega
      have hcase : (((ps[k].1 : Int) == (p.1 : Int)) = false) ∨ (((ps[k].1 : Int) == (p.1 : Int)) = true ∧ ((ps[k].2 : Int) == (p.2 : Int)) = false) ∨ (((ps[k].1 : Int) == (p.1 : Int)) = true ∧ ((ps[k].2 : Int) == (p.2 : Int)) = true) := by
        cases ((ps[k].1 : Int) == (p.1 : Int)) <;> cases ((ps[k].2 : Int) == (p.2 : Int)) <;> simp
      go_wp2_with fail
      rcases hcase with g1 | ⟨g1, g2⟩ | ⟨g1, g2⟩
      all_goals
        go_quiet (fail)
      all_goals go_wp2
      · refine ⟨⟨k + 1, by omega, by go_num, fun j hj hjk e => ?_, below_drewNp hb _⟩, by simp [intOf]; omega⟩
        by_cases ej : j = k
        · subst ej
          rw [e] at g1
          simp at g1
        · exact hbf.out j hj (by omega) e
      · refine ⟨⟨k + 1, by omega, by go_num, fun j hj hjk e => ?_, below_drewNp hb _⟩, by simp [intOf]; omega⟩
        by_cases ej : j = k
        · subst ej
          rw [e] at g2
          simp at g2
        · exact hbf.out j hj (by omega) e
      · have hp : ps[k] = p := by
          rw [beq_iff_eq] at g1 g2
          exact Prod.ext (by omega) (by omega)
        go_ret
        exact ⟨by rw [findP_at hlt hp hbf.out]; rfl, hB0.trans (below_drewNp (hb.mono (by omega)) _)⟩
    · go_wp2
      go_ret
      exact ⟨by rw [findP_none fun j hj => hbf.out j hj (by omega)]; rfl, hB0.trans (hb.mono (by omega))⟩

end Go.Proofs.YtimoekglamdddaaDoor

/- The rows that the reference's search owns: pairs and words. -/
namespace Go.Proofs.YtimoekglamdddaaDoor
open Go.RowKit Go.BigFrame AG

/-- The word r (its last letter first) as a string. -/
def wordS (r : List Nat) : ByteArray := ⟨(r.reverse.map letB).toArray⟩
theorem wordS_cons (l : Nat) (r : List Nat) : wordS r ++ ⟨#[letB l]⟩ = wordS (l :: r) := by
  unfold wordS
  rw [List.reverse_cons, List.map_append]
  apply ByteArray.ext
  simp

theorem wordS_size (r : List Nat) : (wordS r).size = r.length := by unfold wordS; simp [ByteArray.size]

def pairCells : List (Nat × Nat) → List Value
  | [] => []
  | p :: ps => .int .i64 p.1 :: .int .i64 p.2 :: pairCells ps
theorem pairCells_append : ∀ ps qs : List (Nat × Nat), pairCells (ps ++ qs) = pairCells ps ++ pairCells qs
  | [], _ => rfl
  | p :: ps, qs => by rw [List.cons_append, pairCells, pairCells_append ps qs]; rfl
theorem pairCells_at : ∀ (ps : List (Nat × Nat)) (i : Nat) (h : i < ps.length), (pairCells ps)[i * 2]? = some (.int .i64 ps[i].1) ∧ (pairCells ps)[i * 2 + 1]? = some (.int .i64 ps[i].2)
  | p :: ps, 0, _ => ⟨rfl, rfl⟩
  | p :: ps, i + 1, h => by
    have := pairCells_at ps i (by simpa using h)
    rw [show (i + 1) * 2 = i * 2 + 1 + 1 from by omega]
    exact this

/-- Pairs that are owned are read. -/
theorem own_pairs {w : World} {B : Nat} {v : Value} {ps : List (Nat × Nat)} (h : w.ownsRow B 147 2 v ps.length (pairCells ps)) (hn : 0 < ps.length) :
    ∃ g cap, v = .slice (some ⟨g, 0, none⟩) ps.length cap ∧ B ≤ g ∧ g < w.heap.size ∧ ps.length ≤ cap ∧ cap ≤ 9223372036854775807 ∧ PairsAt w w.heap.size (some ⟨g, 0, none⟩) ps ∧
      ∀ i (hi : i < ps.length), w.cell? ⟨g, i * 2, none⟩ = some (.int .i64 ps[i].1) ∧ w.cell? ⟨g, i * 2 + 1, none⟩ = some (.int .i64 ps[i].2) := by
  obtain ⟨g, cap, hv, h1, h2, h3, h4, h5⟩ := own_shape h hn
  have hat : ∀ i (hi : i < ps.length), w.cell? ⟨g, i * 2, none⟩ = some (.int .i64 ps[i].1) ∧ w.cell? ⟨g, i * 2 + 1, none⟩ = some (.int .i64 ps[i].2) := fun i hi =>
    ⟨h5 _ _ (pairCells_at ps i hi).1, h5 _ _ (pairCells_at ps i hi).2⟩
  exact ⟨g, cap, hv, h1, h2, h3, h4, fun _ => ⟨g, 0, rfl, h2, fun i hi => by simpa using hat i hi⟩, hat⟩

theorem own_words {w : World} {B : Nat} {v : Value} {ws : List (List Nat)} (h : w.ownsRow B 9 1 v ws.length (ws.map fun r => Value.string (wordS r))) (hn : 0 < ws.length) :
    ∃ g cap, v = .slice (some ⟨g, 0, none⟩) ws.length cap ∧ B ≤ g ∧ g < w.heap.size ∧ ws.length ≤ cap ∧ cap ≤ 9223372036854775807 ∧
      ∀ i (hi : i < ws.length), w.cell? ⟨g, i, none⟩ = some (.string (wordS ws[i])) := by
  obtain ⟨g, cap, hv, h1, h2, h3, h4, h5⟩ := own_shape h hn
  exact ⟨g, cap, hv, h1, h2, h3, h4, fun i hi => h5 _ _ (by simp [hi])⟩

end Go.Proofs.YtimoekglamdddaaDoor

/- The library's slices.Reverse at bytes; the program's pathWord. -/
namespace Go.Proofs.YtimoekglamdddaaDoor
open Go.RowKit Go.BigFrame AG

/-- xs with its first k and its last k elements exchanged. -/
def revTo (xs : List Nat) (k p : Nat) : Option Value := (if p < k ∨ xs.length ≤ p + k then xs[xs.length - 1 - p]? else xs[p]?).map fun b => Value.int .u8 (b : Nat)
theorem revTo_at {xs : List Nat} {k p : Nat} (h : ¬ (p < k ∨ xs.length ≤ p + k)) (hp : p < xs.length) : revTo xs k p = some (.int .u8 (xs[p] : Nat)) := by unfold revTo; rw [if_neg h]; simp [hp]
theorem revTo_swap {xs : List Nat} {k p : Nat} (h : p < k ∨ xs.length ≤ p + k) (q : Nat) (hq : q < xs.length) (e : xs.length - 1 - p = q) : revTo xs k p = some (.int .u8 (xs[q] : Nat)) := by unfold revTo; rw [if_pos h, e]; simp [hq]

theorem grown_two {w : World} {g : Nat} (i j : Nat) (u v : Value) : w.grownBy ((w.setCell ⟨g, i, none⟩ u).setCell ⟨g, j, none⟩ v).drew (some g) :=
  ⟨rfl, rfl, rfl, by simp, fun k _ hne => by
    have hk : k ≠ g := fun e => hne (by rw [e])
    show ((w.setCell ⟨g, i, none⟩ u).setCell ⟨g, j, none⟩ v).heap[k]? = _
    rw [Below.heap_setCell _ _ _ _ hk, Below.heap_setCell _ _ _ _ hk]⟩

set_option maxRecDepth 100000 in
set_option maxHeartbeats 2000000 in
theorem reverseBytes_any (g n c : Nat) (xs : List Nat) (cs : Array Value) (w : World) (hx : xs.length = n) (hn : n ≤ c) (hc : c ≤ 9223372036854775807) (hb : Blk w g 5 cs) (hs : n ≤ cs.size) (hcs : ∀ i (h : i < xs.length), cs[i]? = some (.int .u8 (xs[i] : Nat))) :
    Calls Tryd.prog 82 #[.slice (some ⟨g, 0, none⟩) n c] w fun e w' => e = .returned (.tuple #[]) ∧ w.grownBy w' (some g) ∧ ∃ cs', Blk w' g 5 cs' ∧ cs'.size = cs.size ∧ ∀ i (h : i < xs.length), cs'[i]? = some (.int .u8 (xs.reverse[i]'(by simpa using h) : Nat)) := by
  subst hx
  have hstart : Hid (∀ p, p < xs.length → cs[p]? = revTo xs 0 p) := hid fun p hp => by
    rw [revTo_at (by omega) hp, hcs p hp]
  replace hb := hid hb
  replace hcs := hid hcs
  go_enter Tryd.func82, Tryd.ntmps82
  go_wp2_with fail
  go_loopw [2, 3] (fun iv jv wr => ∃ (k : Nat) (cs' : Array Value), iv = .int .i64 k ∧ jv = .int .i64 ((xs.length : Int) - 1 - k) ∧ 2 * k ≤ xs.length + 1 ∧ Blk wr g 5 cs' ∧ cs'.size = cs.size ∧ (∀ p, p < xs.length → cs'[p]? = revTo xs k p) ∧ w.grownBy wr (some g)) (fun iv _ _ => xs.length - (intOf iv).toNat)
  case atStart => exact ⟨0, cs, rfl, by simp, by omega, hb.out, rfl, hstart.out, ⟨rfl, rfl, rfl, Nat.le_refl _, fun _ _ _ => rfl⟩⟩
  case round =>
    obtain ⟨k, cs', rfl, rfl, hk, hblk, hsz, hrev, hgr⟩ := hrel
    by_cases hlt : 2 * k + 1 < xs.length
    · obtain ⟨j, hj⟩ : ∃ j, j + k + 1 = xs.length := ⟨xs.length - 1 - k, by omega⟩
      have e1 : ((xs.length : Int) - 1 - k) = (j : Int) := by omega
      rw [e1]
      have hkj : k < j := by omega
      have hk1 : k < xs.length := by omega
      have hj1 : j < xs.length := by omega
      have ck := hblk.cell k
      have cj := hblk.cell j
      rw [hrev k hk1, revTo_at (by omega) hk1] at ck
      rw [hrev j hj1, revTo_at (by omega) hj1] at cj
      have zk := hblk.frozen k
      have zj := hblk.frozen j
      have hnx : Hid (∀ p, p < xs.length → ((cs'.setIfInBounds k (.int .u8 (xs[j] : Nat))).setIfInBounds j (.int .u8 (xs[k] : Nat)))[p]? = revTo xs (k + 1) p) := hid fun p hp => by
        have hrp := hrev p hp
        by_cases h1 : p = j
        · subst h1
          rw [Array.getElem?_setIfInBounds_self_of_lt (by simp; omega), revTo_swap (by omega) k hk1 (by omega)]
        · rw [Array.getElem?_setIfInBounds_ne (Ne.symm h1)]
          by_cases h2 : p = k
          · subst h2
            rw [Array.getElem?_setIfInBounds_self_of_lt (by omega), revTo_swap (by omega) j hj1 (by omega)]
          · rw [Array.getElem?_setIfInBounds_ne (Ne.symm h2), hrp]
            by_cases h3 : p < k ∨ xs.length ≤ p + k
            · rw [revTo_swap h3 (xs.length - 1 - p) (by omega) rfl, revTo_swap (by omega) (xs.length - 1 - p) (by omega) rfl]
            · rw [revTo_at h3 hp, revTo_at (by omega) hp]
      obtain ⟨a, ha⟩ : ∃ a, a = xs[k] := ⟨_, rfl⟩
      obtain ⟨b, hb'⟩ : ∃ b, b = xs[j] := ⟨_, rfl⟩
      rw [← ha] at ck
      rw [← hb'] at cj
      replace ha := hid ha
      replace hb' := hid hb'
      replace hrev := hid hrev
      replace hblk := hid hblk
      replace hsz := hid hsz
      have i1 : (0 : Int) ≤ (k : Int) := by omega
      have i2 : (k : Int) < (xs.length : Int) := by omega
      have i3 : (0 : Int) ≤ (j : Int) := by omega
      have i4 : (j : Int) < (xs.length : Int) := by omega
      have i5 : (k : Int) < (j : Int) := by omega
      clear e1
      go_wp2_with fail
      go_region
      go_wp2
      go_roundw
      case rel =>
        refine ⟨k + 1, _, by go_num, ?_, by omega, (hblk.out.set_ _ _).set_ _ _, by simp; exact hsz.out, by rw [ha.out, hb'.out]; exact hnx.out, hgr.trans (grown_two _ _ _ _)⟩
        rw [show ((xs.length : Int) - 1 - ((k + 1 : Nat) : Int)) = (j : Int) - 1 from by omega]
      case measure => simp [intOf]; omega
    · have hfin : Hid (∀ i (h : i < xs.length), cs'[i]? = some (.int .u8 (xs.reverse[i]'(by simpa using h) : Nat))) := hid fun i hi => by
        rw [hrev i hi, List.getElem_reverse]
        by_cases h3 : i < k ∨ xs.length ≤ i + k
        · rw [revTo_swap h3 (xs.length - 1 - i) (by omega) rfl]
        · rw [revTo_at h3 hi]
          simp only [show xs.length - 1 - i = i from by omega]
      replace hrev := hid hrev
      replace hblk := hid hblk
      replace hsz := hid hsz
      have hge : ¬ ((k : Int) < (xs.length : Int) - 1 - k) := by omega
      go_wp2
      go_end0
      exact ⟨rfl, hgr, cs', hblk.out, hsz.out, fun i hi => by have := hfin.out i hi; simpa using this⟩

/-- A step of the search as it lies in memory: where its list of nodes lies. -/
structure StV where
  st : Stp
  A : Option Addr
  c : Nat
def stCells : List StV → List Value
  | [] => []
  | x :: xs => .int .i64 x.st.par :: .int .i64 (x.st.let_ : Nat) :: .slice x.A x.st.nodes.length x.c :: stCells xs
theorem stCells_append : ∀ xs ys : List StV, stCells (xs ++ ys) = stCells xs ++ stCells ys
  | [], _ => rfl
  | x :: xs, ys => by rw [List.cons_append, stCells, stCells_append xs ys]; rfl
theorem stCells_at : ∀ (xs : List StV) (i : Nat) (h : i < xs.length), (stCells xs)[i * 3]? = some (.int .i64 xs[i].st.par) ∧ (stCells xs)[i * 3 + 1]? = some (.int .i64 (xs[i].st.let_ : Nat)) ∧ (stCells xs)[i * 3 + 2]? = some (.slice xs[i].A xs[i].st.nodes.length xs[i].c)
  | x :: xs, 0, _ => ⟨rfl, rfl, rfl⟩
  | x :: xs, i + 1, h => by
    have := stCells_at xs i (by simpa using h)
    rw [show (i + 1) * 3 = i * 3 + 1 + 1 + 1 from by omega]
    exact this

theorem own_blk {w : World} {B : Nat} {e : TypeId} {v : Value} {n : Nat} {xs : List Value} (h : w.ownsRow B e 1 v n xs) (hn : 0 < n) :
    ∃ g cap cur, v = .slice (some ⟨g, 0, none⟩) n cap ∧ B ≤ g ∧ n ≤ cap ∧ cap ≤ 9223372036854775807 ∧ Blk w g e cur ∧ n ≤ cur.size ∧ ∀ j (hj : j < xs.length), cur[j]? = some xs[j] := by
  have hl := h.1
  obtain ⟨g, cap, hv, hg, hlt, h1, h2, h3⟩ := own_shape h hn
  obtain ⟨_, ⟨rfl, h0⟩ | ⟨g', cap', cur, hv', hg', hw, h1', h2', h3', h4'⟩⟩ := h
  · omega
  · rw [hv'] at hv
    cases hv
    have hb : Blk w g e cur := hw
    refine ⟨g, cap, cur, hv', hg, h1, h2, hb, ?_, fun j hj => ?_⟩
    · rw [h3']; omega
    · have := h3 j xs[j] (by simp)
      rwa [hb.cell] at this

/-- Every step but the first hangs on an earlier one, by a letter. -/
structure PathOk (ss : List StV) (ws : List (List Nat)) : Prop where
  len : ws.length = ss.length
  zero : ∀ (h : 0 < ws.length), ws[0] = []
  root : ∀ (h : 0 < ss.length), ss[0].st.par = -1
  link : ∀ j (h : j < ss.length) (h' : j < ws.length), 0 < j → ∃ p, p < j ∧ ss[j].st.par = (p : Int) ∧ ss[j].st.let_ < 6 ∧ ∃ (hp : p < ws.length), ws[j] = ss[j].st.let_ :: ws[p]
theorem PathOk.wlen {ss : List StV} {ws : List (List Nat)} (h : PathOk ss ws) : ∀ j (hj : j < ws.length), ws[j].length ≤ j := by
  intro j
  induction j using Nat.strongRecOn with
  | _ j ih =>
    intro hj
    by_cases e : j = 0
    · subst e
      rw [h.zero hj]
      exact Nat.le_refl _
    · obtain ⟨p, hpj, _, _, hp, hw⟩ := h.link j (by rw [← h.len]; exact hj) hj (by omega)
      have := ih p hpj hp
      rw [hw, List.length_cons]
      omega
theorem PathOk.lt6 {ss : List StV} {ws : List (List Nat)} (h : PathOk ss ws) : ∀ j (hj : j < ws.length), ∀ l ∈ ws[j], l < 6 := by
  intro j
  induction j using Nat.strongRecOn with
  | _ j ih =>
    intro hj l hl
    by_cases e : j = 0
    · subst e
      rw [h.zero hj] at hl
      cases hl
    · obtain ⟨p, hpj, _, h6, hp, hw⟩ := h.link j (by rw [← h.len]; exact hj) hj (by omega)
      rw [hw] at hl
      rcases List.mem_cons.1 hl with rfl | hl
      · exact h6
      · exact ih p hpj hp l hl

def bytesOf (r : List Nat) : List Value := r.map fun l => Value.int .u8 (97 + l : Nat)
theorem infoByte : (Tryd.prog.info? 5).map (fun i => (i.zero, i.size, i.bytes)) = some (some (.int .u8 0), 1, 1) := by kernel_rfl

theorem own_steps {w : World} {B : Nat} {v : Value} {ss : List StV} (h : w.ownsRow B 152 3 v ss.length (stCells ss)) (hn : 0 < ss.length) :
    ∃ g cap, v = .slice (some ⟨g, 0, none⟩) ss.length cap ∧ B ≤ g ∧ g < w.heap.size ∧ ss.length ≤ cap ∧ cap ≤ 9223372036854775807 ∧
      ∀ i (hi : i < ss.length), w.cell? ⟨g, i * 3, none⟩ = some (.int .i64 ss[i].st.par) ∧ w.cell? ⟨g, i * 3 + 1, none⟩ = some (.int .i64 (ss[i].st.let_ : Nat)) ∧ w.cell? ⟨g, i * 3 + 2, none⟩ = some (.slice ss[i].A ss[i].st.nodes.length ss[i].c) := by
  obtain ⟨g, cap, hv, h1, h2, h3, h4, h5⟩ := own_shape h hn
  exact ⟨g, cap, hv, h1, h2, h3, h4, fun i hi => ⟨h5 _ _ (stCells_at ss i hi).1, h5 _ _ (stCells_at ss i hi).2.1, h5 _ _ (stCells_at ss i hi).2.2⟩⟩

set_option maxRecDepth 100000 in
set_option maxHeartbeats 2000000 in
theorem pathWord_core (ss : List StV) (ws : List (List Nat)) (g c n : Nat) (w : World) (hn : ss.length = n + 2) (hs : ss.length ≤ 4294967296) (hw : PathOk ss ws) (hw' : n + 1 < ws.length)
    (hl : ss.length ≤ c) (hc : c ≤ 9223372036854775807) (hg : g < w.heap.size) (hr : ∀ i (hi : i < ss.length), w.cell? ⟨g, i * 3, none⟩ = some (.int .i64 ss[i].st.par) ∧ w.cell? ⟨g, i * 3 + 1, none⟩ = some (.int .i64 (ss[i].st.let_ : Nat))) :
    Calls Tryd.prog 149 #[.slice (some ⟨g, 0, none⟩) ss.length c] w fun e w' => e = .returned (.string (wordS ws[n + 1])) ∧ Below w.heap.size w w' := by
  obtain ⟨i0, hi, hz0, hz1, hz2⟩ := info_parts infoByte
  have hlen := hw.len
  have hwl := hw.wlen (n + 1) hw'
  have hlast : Hid (((n + 1 : Nat) : Int) = (ss.length : Int) - 1) := hid (by omega)
  replace hw := hid hw
  replace hr := hid hr
  replace hn := hid hn
  go_enter Tryd.func149, Tryd.ntmps149
  go_wp2_with fail
  go_loopw [3, 4] (fun v iv wr => ∃ (j : Nat) (done : List Nat), iv = .int .i64 j ∧ j < ss.length ∧ (∀ h : j < ws.length, done ++ ws[j] = ws[n + 1]) ∧ wr.ownsRow w.heap.size 5 1 v done.length (bytesOf done) ∧ Below w.heap.size w wr) (fun _ iv _ => (intOf iv).toNat)
  case atStart => exact ⟨n + 1, [], by rw [hlast.out], by have := hn.out; omega, fun _ => rfl, World.ownsRow_nil _ _ _ _, by (repeat (first | exact Below.refl _ _ | assumption | refine Below.drew ?_ | refine Below.alloc ?_ (by first | omega | (simp; done) | (simp; omega)) _ | refine Below.setCell ?_ (by first | omega | (simp; done) | (simp; omega)) _))⟩
  case round =>
    obtain ⟨j, done, rfl, hj, hdone, hown, hb⟩ := hrel
    have hd := hdone (by omega)
    have hdl : done.length ≤ n + 1 := by
      have := congrArg List.length hd
      rw [List.length_append] at this
      omega
    have hjw : j < ws.length := by omega
    obtain ⟨e0, e1⟩ := hr.out j hj
    rw [← hb.cell (by simpa using hg)] at e0 e1
    have i1 : (0 : Int) ≤ (j : Int) := by omega
    have i2 : (j : Int) < (ss.length : Int) := by omega
    by_cases h0 : j = 0
    · have hz : ws[j]'hjw = [] := by subst h0; exact hw.out.zero (by omega)
      rw [hz, List.append_nil] at hd
      subst hd
      have hroot : ss[j].st.par = -1 := by subst h0; exact hw.out.root (by omega)
      rw [hroot] at e0
      replace h0 := hid h0
      have hpos : 0 < ws[n + 1].length := by
        obtain ⟨p, -, -, -, hp, hq⟩ := hw.out.link (n + 1) (by omega) hw' (by omega)
        rw [hq]
        simp
      have h6 := hw.out.lt6 (n + 1) hw'
      obtain ⟨gb, cap, cur, rfl, hgb, hcap, hcap', hblk, hsz, hcur⟩ := own_blk hown hpos
      generalize hR : ws[n + 1] = r at *
      replace hR := hid hR
      have hblk' := hid hblk
      have hcs : Hid (∀ i (h : i < (r.map (97 + ·)).length), cur[i]? = some (.int .u8 ((r.map (97 + ·))[i] : Nat))) := hid fun i h => by
        have hi : i < r.length := by simpa using h
        rw [hcur i (by unfold bytesOf; simpa using hi)]
        unfold bytesOf
        simp
      replace hdone := hid hdone
      replace hcur := hid hcur
      replace hblk := hid hblk
      replace hown := hid hown
      replace hwl := hid hwl
      replace h6 := hid h6
      go_wp2_with fail
      refine (reverseBytes_any gb r.length cap (r.map (97 + ·)) cur wr (by simp) hcap hcap' hblk'.out hsz hcs.out).mono ?_
      rintro e w2 ⟨rfl, hg2, cs2, hblk2, hsz2, hcs2⟩
      have hB2 : Hid (Below w.heap.size w w2) := hid (hb.grown hg2 hb.size (fun k hk => by cases hk; exact hgb))
      have kc : (convert 43 9 (.slice (some ⟨gb, 0, none⟩) r.length cap)).run Tryd.prog w2 = .ok (.string (wordS r)) w2 := by
        have := run_convert_bytes_back (P := Tryd.prog) w2 43 9 5 ⟨gb, 0, none⟩ cap (r.reverse.map letB) Tryd.underlying43 Tryd.underlying5 Tryd.underlying9 (fun j hj => by
          have hj' : j < r.length := by simpa using hj
          have e1 := hcs2 j (by simpa using hj')
          have hadd : (⟨gb, 0, none⟩ : Addr).add j = ⟨gb, j, none⟩ := by unfold Addr.add; split <;> simp_all
          rw [hadd, hblk2.cell, e1]
          have h6' : r.reverse[j]'(by simpa using hj') < 6 := h6.out _ (List.mem_reverse.1 (List.getElem_mem _))
          simp only [List.getElem_map, List.map_reverse, List.getElem_reverse] at h6' ⊢
          unfold letB
          rw [UInt8.toNat_ofNat']
          have := h6'
          simp only [List.length_map] at *
          rw [Nat.mod_eq_of_lt (by omega)])
        simpa [wordS] using this
      replace hcs2 := hid hcs2
      replace hblk2 := hid hblk2
      replace hg2 := hid hg2
      clear e0 e1
      go_wp2
      go_ret
      exact ⟨by rw [hR.out]; rfl, hB2.out⟩
    · obtain ⟨p, hpj, hpar, h6, hp, hq⟩ := hw.out.link j hj hjw (by omega)
      rw [hpar] at e0
      rw [hq] at hd
      obtain ⟨l, hll⟩ : ∃ l, l = ss[j].st.let_ := ⟨_, rfl⟩
      rw [← hll] at e1 hd h6
      have hps : p < ss.length := by omega
      have hge : (0 : Int) ≤ (p : Int) := by omega
      have hd2 : Hid ((done ++ [l]) ++ ws[p] = ws[n + 1]) := hid (by rw [List.append_assoc]; exact hd)
      replace hd := hid hd
      replace hll := hid hll
      replace hq := hid hq
      replace hpar := hid hpar
      replace hdone := hid hdone
      replace hown := hid hown
      have hzr := hb.size
      go_wp2_with (first
        | (go_at_call 81; refine (letterByte_any l h6 _).mono ?_; rintro e w' ⟨rfl, rfl⟩)
        | (at_builtin; refine wpList_append_own _ rfl _ _ 43 rfl w.heap.size 5 i0 (.int .u8 0) 1 1 Tryd.underlying43 hi hz0 hz1 hz2 rfl (by decide) _ _ _ rfl (hown.out.alloc _) ⟨wr.heap.size, 0, none⟩ 1 1 [.int .u8 (97 + l : Nat)] rfl rfl (cell_one_new _ _ _) (by intro u hu; simp at hu; subst hu; rfl) (by unfold maxLen; omega) (by omega) (by simp; omega) ?_; intro v' w1 hown' hgrow _; have hB1 : Below w.heap.size w w1 := Below.grown (hb.alloc hzr _) hgrow (by simp; omega) (own_block hown.out); have e2 := e0; rw [hb.cell (by simpa using hg), ← hB1.cell (by simpa using hg)] at e2))
      go_roundw
      case rel =>
        refine ⟨p, done ++ [l], rfl, hps, fun _ => hd2.out, ?_, hB1⟩
        unfold bytesOf at hown' ⊢
        rw [List.length_append, List.map_append]
        exact hown'
      case measure => simp [intOf]; omega

theorem pathWord_any (ss : List StV) (ws : List (List Nat)) (g c n m : Nat) (w : World) (hm : ss.length = m) (hn : ss.length = n + 2) (hs : ss.length ≤ 4294967296) (hw : PathOk ss ws) (hw' : n + 1 < ws.length)
    (hl : ss.length ≤ c) (hc : c ≤ 9223372036854775807) (hg : g < w.heap.size) (hr : ∀ i (hi : i < ss.length), w.cell? ⟨g, i * 3, none⟩ = some (.int .i64 ss[i].st.par) ∧ w.cell? ⟨g, i * 3 + 1, none⟩ = some (.int .i64 (ss[i].st.let_ : Nat))) :
    Calls Tryd.prog 149 #[.slice (some ⟨g, 0, none⟩) m c] w fun e w' => e = .returned (.string (wordS ws[n + 1])) ∧ Below w.heap.size w w' := by
  subst hm
  exact pathWord_core ss ws g c n w hn hs hw hw' hl hc hg hr

end Go.Proofs.YtimoekglamdddaaDoor

/- The program's search: the closure that takes up a word's nodes. -/
namespace Go.Proofs.YtimoekglamdddaaDoor
open Go.RowKit Go.BigFrame AG

/-- The marks of the nodes that have been seen. -/
def SeenAt (cs : Array Value) (size : Nat) (S : Nat → Bool) : Prop := cs.size = size ∧ ∀ n, n < size → cs[n]? = some (.bool (S n))
theorem SeenAt.set_ {cs : Array Value} {size : Nat} {S S' : Nat → Bool} {n : Nat} (h : SeenAt cs size S) (hn : n < size) (hS : ∀ x, S' x = (S x || decide (x = n))) : SeenAt (cs.setIfInBounds n (.bool true)) size S' := by
  refine ⟨by simpa using h.1, fun x hx => ?_⟩
  rw [hS]
  by_cases e : x = n
  · subst e
    rw [Array.getElem?_setIfInBounds_self_of_lt (by rw [h.1]; exact hx)]
    simp
  · rw [Array.getElem?_setIfInBounds_ne (Ne.symm e), h.2 x hx]
    simp [e]

def natVals (ns : List Nat) : List Value := ns.map fun (n : Nat) => Value.int .i64 (n : Int)

/-- What the search holds in memory. -/
structure FPst (w wr : World) (size : Nat) (gv : Value) (bS bG bP gS : Nat) (sv : Value) (ss : List StV) (S : Nat → Bool) : Prop where
  below : Below w.heap.size w wr
  blkS : Blk wr bS 27 #[.slice (some ⟨gS, 0, none⟩) size size]
  blkG : Blk wr bG 76 #[gv]
  blkP : Blk wr bP 150 #[sv]
  seen : ∃ cs, Blk wr gS 4 cs ∧ SeenAt cs size S
  geS : w.heap.size ≤ gS
  geP : w.heap.size ≤ bP
  own : wr.ownsRow w.heap.size 152 3 sv ss.length (stCells ss)
  nodes : ∀ x ∈ ss, wr.ownsRow w.heap.size 3 1 (.slice x.A x.st.nodes.length x.c) x.st.nodes.length (natVals x.st.nodes)

/-- A goal of the search, as a function value. -/
structure GoalOk (w : World) (size : Nat) (G : Nat → Bool) (fG : FuncId) (capG : Array Value) : Prop where
  run : ∀ args w', (callFunc fG args).run Tryd.prog w' = .ok (.enter fG args) w'
  call : ∀ w' q, Below w.heap.size w w' → q < size → Calls Tryd.prog fG (#[.int .i64 (q : Nat)] ++ capG) w' fun e w'' => e = .returned (.bool (G q)) ∧ Below w'.heap.size w' w''

/-- What the closure leaves. -/
def VisPost (w w1 : World) (size : Nat) (gv : Value) (bS bG bP gS : Nat) (sv : Value) (ss : List StV) (S : Nat → Bool) (par : Int) (l : Nat) (fr : List Nat) (w2 : World) : Prop :=
  ∃ sv' ss', FPst w w2 size gv bS bG bP gS sv' ss' (fun n => S n || fr.contains n) ∧ ((fr = [] ∧ ss' = ss) ∨ (fr ≠ [] ∧ ∃ A c, ss' = ss ++ [⟨⟨par, l, fr⟩, A, c⟩])) ∧ KeepB (fun b => b = gS ∨ b = bP ∨ sv.ownBlock = some b) w1 w2

theorem FPst.keep {w w1 wr : World} {size : Nat} {gv : Value} {bS bG bP gS : Nat} {sv : Value} {ss : List StV} {S S' : Nat → Bool} {cs : Array Value} (h : FPst w w1 size gv bS bG bP gS sv ss S) (hk : KeepB (fun b => b = gS) w1 wr)
    (hb : Blk wr gS 4 cs) (hs : SeenAt cs size S') : FPst w wr size gv bS bG bP gS sv ss S' := by
  obtain ⟨cs0, hb0, -⟩ := h.seen
  exact ⟨hk.below h.below h.below.size (fun b hb => by rw [hb]; exact h.geS), h.blkS.keep hk (fun e => h.blkS.ne hb0 (by decide) e), h.blkG.keep hk (fun e => h.blkG.ne hb0 (by decide) e), h.blkP.keep hk (fun e => h.blkP.ne hb0 (by decide) e), ⟨cs, hb, hs⟩, h.geS, h.geP,
    own_keep h.own hk (own_ne h.own hb0 (by decide)), fun x hx => own_keep (h.nodes x hx) hk (own_ne (h.nodes x hx) hb0 (by decide))⟩

theorem cell_three_new (w : World) (x y z : Value) (t : TypeId) : ∀ j u, [x, y, z][j]? = some u → (w.alloc (.cells #[x, y, z] t)).cell? ((⟨w.heap.size, 0, none⟩ : Addr).add j) = some u := by
  intro j u hj
  match j, hj with
  | 0, hj =>
    simp at hj
    subst hj
    simp [Addr.add]
  | 1, hj =>
    simp at hj
    subst hj
    simp [Addr.add]
  | 2, hj =>
    simp at hj
    subst hj
    simp [Addr.add]
theorem infoStep : (Tryd.prog.info? 152).map (fun i => (i.zero, i.size, i.bytes)) = some (some (.agg #[.int .i64 0, .int .i64 0, .slice none 0 0]), 3, 40) := by kernel_rfl

theorem VisPost.mk {w w1 wr w6 : World} {size : Nat} {gv : Value} {bS bG bP gS : Nat} {sv v6 : Value} {ss : List StV} {S : Nat → Bool} {cs : Array Value} {par : Int} {l : Nat} {fr : List Nat} {A : Option Addr} {c : Nat} {o : Obj} (h : FPst w w1 size gv bS bG bP gS sv ss S) (hk : KeepB (fun b => b = gS) w1 wr)
    (hb : Blk wr gS 4 cs) (hs : SeenAt cs size (fun n => S n || fr.contains n)) (hfr : fr ≠ []) (hfv : wr.ownsRow w1.heap.size 3 1 (.slice A fr.length c) fr.length (natVals fr))
    (hO6 : w6.ownsRow w.heap.size 152 3 v6 (ss.length + 1) (stCells ss ++ [.int .i64 par, .int .i64 (l : Nat), .slice A fr.length c])) (hg6 : (wr.alloc o).grownBy w6 sv.ownBlock) :
    VisPost w w1 size gv bS bG bP gS sv ss S par l fr (w6.setCell ⟨bP, 0, none⟩ v6) := by
  have hr := h.keep hk hb hs
  have hkA : KeepB (fun b => sv.ownBlock = some b) wr w6 := ((KeepB.refl _ wr).alloc o).grown hg6 fun k hk _ => hk
  have hP6 : Blk w6 bP 150 #[sv] := hr.blkP.keep hkA fun e => own_ne hr.own hr.blkP (by decide) bP e rfl
  have hk7 : KeepB (fun b => b = bP) w6 (w6.setCell ⟨bP, 0, none⟩ v6) := (KeepB.refl _ w6).setCell _ _ fun _ => rfl
  have hkB : KeepB (fun b => b = bP ∨ sv.ownBlock = some b) wr (w6.setCell ⟨bP, 0, none⟩ v6) := (hkA.mono fun k h => .inr h).trans (hk7.mono fun k h => .inl h)
  have nB : ∀ {g t cs}, Blk wr g t cs → t ≠ 150 → t ≠ 152 → ¬ (g = bP ∨ sv.ownBlock = some g) := fun hg h1 h2 e => by
    rcases e with e | e
    · exact hg.ne hr.blkP h1 e
    · exact own_ne hr.own hg (Ne.symm h2) _ e rfl
  have nO : ∀ {base e size v n xs}, wr.ownsRow base e size v n xs → e ≠ 150 → e ≠ 152 → ∀ g, v.ownBlock = some g → ¬ (g = bP ∨ sv.ownBlock = some g) := fun ho h1 h2 g hg e => by
    rcases e with e | e
    · exact own_ne ho hr.blkP h1 g hg e
    · exact own_ne_own ho hr.own h2 g g hg e rfl
  obtain ⟨cs', hb', hs'⟩ := hr.seen
  refine ⟨v6, ss ++ [⟨⟨par, l, fr⟩, A, c⟩], ⟨?_, hr.blkS.keep hkB (nB hr.blkS (by decide) (by decide)), hr.blkG.keep hkB (nB hr.blkG (by decide) (by decide)), ?_, ⟨cs', hb'.keep hkB (nB hb' (by decide) (by decide)), hs'⟩, hr.geS, hr.geP, ?_, ?_⟩, .inr ⟨hfr, A, c, rfl⟩, ?_⟩
  · refine hkB.below hr.below hr.below.size fun b e => ?_
    rcases e with e | e
    · rw [e]; exact hr.geP
    · exact own_block hr.own b e
  · have := hP6.set_ 0 v6
    simpa using this
  · rw [List.length_append, stCells_append]
    exact own_keep hO6 hk7 (own_ne hO6 hP6 (by decide))
  · intro x hx
    rcases List.mem_append.1 hx with hx | hx
    · exact own_keep (hr.nodes x hx) hkB (nO (hr.nodes x hx) (by decide) (by decide))
    · rw [List.mem_singleton] at hx
      subst hx
      exact own_base (own_keep hfv hkB (nO hfv (by decide) (by decide))) h.below.size
  · refine (hk.mono fun k h => .inl h).trans ⟨hkB.os, hkB.tape, hkB.output, hkB.size, fun k hk' hne => hkB.block k hk' fun e => hne (.inr e)⟩

set_option maxRecDepth 100000 in
set_option maxHeartbeats 4000000 in
theorem visit_any (w : World) (size : Nat) (G : Nat → Bool) (fG : FuncId) (capG : Array Value) (hG : GoalOk w size G fG capG) (bS bG bP gS : Nat) (sv : Value) (ss : List StV) (S : Nat → Bool) (par : Int) (l : Nat) (nv : Value) (ns : List Nat) (w1 : World)
    (hst : FPst w w1 size (.func (.func fG) #[] capG) bS bG bP gS sv ss S) (hnv : w1.ownsRow 0 3 1 nv ns.length (natVals ns)) (hns : ∀ n ∈ ns, n < size) (hnl : ns.length ≤ 4294967296) (hsl : ss.length ≤ 4294967296) :
    Calls Tryd.prog 148 #[.int .i64 par, .int .i64 (l : Nat), nv, .pointer (some ⟨bS, 0, none⟩), .pointer (some ⟨bG, 0, none⟩), .pointer (some ⟨bP, 0, none⟩)] w1 fun e w2 => e = .returned (.bool ((frs S ns).any G)) ∧ VisPost w w1 size (.func (.func fG) #[] capG) bS bG bP gS sv ss S par l (frs S ns) w2 := by
  have hcf := hG.run
  obtain ⟨A, c, rfl, hnc, hnc'⟩ := own_slice hnv
  obtain ⟨i0, hi, hz0, hz1, hz2⟩ := info_parts infoInt
  have hneS := hst.blkS
  obtain ⟨cs0, hblk0, hseen0⟩ := hst.seen
  replace hst := hid hst
  replace hnv := hid hnv
  replace hns := hid hns
  replace hblk0 := hid hblk0
  replace hseen0 := hid hseen0
  replace hneS := hid hneS
  go_enter Tryd.func148, Tryd.ntmps148
  go_wp2_with fail
  go_loopw [10, 11, 16] (fun fv found iv wr => ∃ (k : Nat) (cs : Array Value), iv = .int .i64 k ∧ k ≤ ns.length ∧ found = .bool ((frs S (ns.take k)).any G) ∧ wr.ownsRow w1.heap.size 3 1 fv (frs S (ns.take k)).length (natVals (frs S (ns.take k))) ∧
      Blk wr gS 4 cs ∧ SeenAt cs size (fun n => S n || (frs S (ns.take k)).contains n) ∧ KeepB (fun b => b = gS) w1 wr) (fun _ _ iv _ => ns.length - (intOf iv).toNat)
  case atStart => exact ⟨0, cs0, rfl, by omega, rfl, World.ownsRow_nil _ _ _ _, hblk0.out, by simpa [frs_nil] using hseen0.out, KeepB.refl _ _⟩
  case round =>
    obtain ⟨k, cs, rfl, hk, rfl, hown, hblk, hseen, hkp⟩ := hrel
    by_cases hlt : k < ns.length
    · have hnvr := own_keep hnv.out hkp (fun g hg e => own_ne hnv.out hblk0.out (by decide) g hg e)
      obtain ⟨gn, cn, hve, -, -, -, -, hcell⟩ := own_shape hnvr (by omega)
      injection hve with hv1 hv2 hv3
      subst hv1
      subst hv3
      have n0 := hcell k _ (show (natVals ns)[k]? = some (.int .i64 (ns[k] : Nat)) from by unfold natVals; simp [hlt])
      have hns1 := hns.out ns[k] (List.getElem_mem hlt)
      have hstep := frs_take S ns hlt
      obtain ⟨n, hnn⟩ : ∃ n, n = ns[k] := ⟨_, rfl⟩
      rw [← hnn] at n0 hns1 hstep
      have hSr := hneS.out.keep hkp (fun e => hneS.out.ne hblk0.out (by decide) e)
      have s0 := hSr.cell 0
      simp only [List.getElem?_toArray, List.getElem?_cons_zero] at s0
      have m0 := hblk.cell n
      rw [hseen.2 n hns1] at m0
      dsimp only at m0
      have z0 := hblk.frozen n
      obtain ⟨fr, hfr⟩ : ∃ fr, fr = frs S (ns.take k) := ⟨_, rfl⟩
      rw [← hfr] at hown hseen m0 hstep ⊢
      have hfl : fr.length ≤ k := by
        have := frs_len S (ns.take k)
        rw [← hfr] at this
        simp at this
        omega
      have i1 : (0 : Int) ≤ (k : Int) := by omega
      have i2 : (k : Int) < (ns.length : Int) := by omega
      have i3 : (0 : Int) ≤ (n : Int) := by omega
      have i4 : (n : Int) < (size : Int) := by omega
      replace hnvr := hid hnvr
      replace hSr := hid hSr
      replace hcell := hid hcell
      replace hnn := hid hnn
      replace hfr := hid hfr
      replace hown := hid hown
      replace hseen := hid hseen
      replace hblk := hid hblk
      replace hstep := hid hstep
      cases hm : (S n || fr.contains n)
      · rw [hm] at m0
        have hst2 : Hid (frs S (ns.take (k + 1)) = fr ++ [n]) := hid (by rw [hstep.out]; unfold frsStep; rw [if_neg (by rw [hm]; simp)])
        have hany : Hid ((fr ++ [n]).any G = (fr.any G || G n)) := hid (by simp)
        replace hm := hid hm
        have hb1 := hst.out.below
        have hseen2 : Hid (SeenAt (cs.setIfInBounds n (.bool true)) size (fun x => S x || (fr ++ [n]).contains x)) := hid (hseen.out.set_ hns1 fun x => by
          simp only [List.contains_eq_mem, List.mem_append, List.mem_singleton, Bool.or_assoc]
          congr 1
          rw [Bool.eq_iff_iff]
          simp)
        have hzr := hkp.size
        have hkp2 : Hid (KeepB (fun b => b = gS) w1 (wr.setCell ⟨gS, n, none⟩ (.bool true))) := hid (hkp.setCell _ _ fun _ => rfl)
        have hblk2 : Hid (Blk (wr.setCell ⟨gS, n, none⟩ (.bool true)) gS 4 (cs.setIfInBounds n (.bool true))) := hid (hblk.out.set_ _ _)
        have hown2 : Hid ((wr.setCell ⟨gS, n, none⟩ (.bool true)).ownsRow w1.heap.size 3 1 _ fr.length (natVals fr)) := hid (ownsRow_setCell_below hown.out (by have := hblk0.out.lt; simpa using this) _)
        cases hg : fr.any G
        · go_wp2_with (at_builtin; refine wpList_append_own_at _ rfl _ _ 61 rfl w1.heap.size 3 i0 (.int .i64 0) 1 8 Tryd.underlying61 hi hz0 hz1 hz2 rfl (by decide) _ _ _ rfl (hown2.out.alloc _) ⟨wr.heap.size, 0, none⟩ 1 1 [.int .i64 (n : Int)] rfl rfl (by have := cell_one_new (wr.setCell ⟨gS, n, none⟩ (.bool true)) (.int .i64 (n : Int)) 3; simpa using this) (by intro u hu; simp at hu; subst hu; rfl) (by unfold maxLen; omega) (by omega) (by simp; omega) ?_; intro v4 w4 hown4 hgr4 _ hat4; have hkp4 : Hid (KeepB (fun b => b = gS) w1 w4) := hid ((hkp2.out.alloc _).grown hgr4 fun b hb hlt => absurd (own_block hown.out b hb) (by omega)); have hblk4 : Hid (Blk w4 gS 4 (cs.setIfInBounds n (.bool true))) := hid ((hgr4.block gS (hblk2.out.alloc _).lt (fun e => own_ne hown2.out hblk2.out (by decide) gS e.symm rfl)).trans (hblk2.out.alloc _)); have hG4 := hst.out.blkG.keep hkp4.out (fun e => hst.out.blkG.ne hblk0.out (by decide) e); have g0 := hG4.cell 0; simp only [List.getElem?_toArray, List.getElem?_cons_zero] at g0; replace hG4 := hid hG4; replace hown4 := hid hown4; replace hgr4 := hid hgr4; replace hat4 := hid hat4)
          have hb4 := hid (hkp4.out.below hb1 hb1.size fun b hb => by rw [hb]; exact hst.out.geS)
          refine (hG.call w4 n hb4.out hns1).mono ?_
          rintro e w5 ⟨rfl, hb5⟩
          replace hg := hid hg
          have hk5 : Hid (KeepB (fun b => b = gS) w1 w5) := hid (hkp4.out.trans (.of_below hb5))
          have hown5 := hid (own_keep hown4.out (.of_below (K := fun _ => False) hb5) fun _ _ h => h)
          have hblk5 := hid (hblk4.out.below hb5 hblk4.out.lt)
          go_wp2_with fail
          go_roundw
          case rel => exact ⟨k + 1, _, by go_num, by omega, by rw [hst2.out, hany.out, hg.out]; rfl, by rw [hst2.out, List.length_append]; unfold natVals; rw [List.map_append]; exact hown5.out, hblk5.out, by rw [hst2.out]; exact hseen2.out, hk5.out⟩
          case measure => simp [intOf]; omega
        · go_wp2_with (at_builtin; refine wpList_append_own_at _ rfl _ _ 61 rfl w1.heap.size 3 i0 (.int .i64 0) 1 8 Tryd.underlying61 hi hz0 hz1 hz2 rfl (by decide) _ _ _ rfl (hown2.out.alloc _) ⟨wr.heap.size, 0, none⟩ 1 1 [.int .i64 (n : Int)] rfl rfl (by have := cell_one_new (wr.setCell ⟨gS, n, none⟩ (.bool true)) (.int .i64 (n : Int)) 3; simpa using this) (by intro u hu; simp at hu; subst hu; rfl) (by unfold maxLen; omega) (by omega) (by simp; omega) ?_; intro v4 w4 hown4 hgr4 _ hat4; have hkp4 : Hid (KeepB (fun b => b = gS) w1 w4) := hid ((hkp2.out.alloc _).grown hgr4 fun b hb hlt => absurd (own_block hown.out b hb) (by omega)); have hblk4 : Hid (Blk w4 gS 4 (cs.setIfInBounds n (.bool true))) := hid ((hgr4.block gS (hblk2.out.alloc _).lt (fun e => own_ne hown2.out hblk2.out (by decide) gS e.symm rfl)).trans (hblk2.out.alloc _)); have hG4 := hst.out.blkG.keep hkp4.out (fun e => hst.out.blkG.ne hblk0.out (by decide) e); have g0 := hG4.cell 0; simp only [List.getElem?_toArray, List.getElem?_cons_zero] at g0; replace hG4 := hid hG4; replace hown4 := hid hown4; replace hgr4 := hid hgr4; replace hat4 := hid hat4)
          replace hg := hid hg
          go_roundw
          case rel => exact ⟨k + 1, _, by go_num, by omega, by rw [hst2.out, hany.out, hg.out]; rfl, by rw [hst2.out, List.length_append]; unfold natVals; rw [List.map_append]; exact hown4.out, hblk4.out, by rw [hst2.out]; exact hseen2.out, hkp4.out⟩
          case measure => simp [intOf]; omega
      · rw [hm] at m0
        have hst2 : Hid (frs S (ns.take (k + 1)) = fr) := hid (by rw [hstep.out]; unfold frsStep; rw [if_pos hm])
        replace hm := hid hm
        go_wp2_with fail
        go_roundw
        case rel => exact ⟨k + 1, cs, by go_num, by omega, by rw [hst2.out], by rw [hst2.out]; exact hown.out, hblk.out, by rw [hst2.out]; exact hseen.out, hkp⟩
        case measure => simp [intOf]; omega
    · have hkn : ns.take k = ns := List.take_of_length_le (by omega)
      rw [hkn] at hown hseen ⊢
      obtain ⟨fr, hfr⟩ : ∃ fr, fr = frs S ns := ⟨_, rfl⟩
      rw [← hfr] at hown hseen ⊢
      have hfl : fr.length ≤ ns.length := by rw [hfr]; exact frs_len S ns
      have hPr := hst.out.blkP.keep hkp (fun e => hst.out.blkP.ne hblk0.out (by decide) e)
      have p0 := hPr.cell 0
      simp only [List.getElem?_toArray, List.getElem?_cons_zero] at p0
      have hsr := hid (hst.out.keep hkp hblk hseen)
      replace hkn := hid hkn
      replace hfr := hid hfr
      replace hPr := hid hPr
      obtain ⟨fA, fc, rfl, hfc, hfc'⟩ := own_slice hown
      by_cases hf0 : fr.length = 0
      · have hfe : Hid (fr = []) := hid (by simpa using hf0)
        replace hown := hid hown
        have hn0 : ¬ (0 < fr.length) := by omega
        go_wp2_with fail
        go_ret
        exact ⟨by rw [← hfr.out]; rfl, by rw [← hfr.out]; exact ⟨_, ss, hsr.out, .inl ⟨hfe.out, rfl⟩, hkp.mono fun b h => .inl h⟩⟩
      · have hn0 : 0 < fr.length := by omega
        replace hown := hid hown
        have hzr := hkp.size
        have hbs := hst.out.below.size
        have hfne : Hid (fr ≠ []) := hid fun e => hf0 (by rw [e]; rfl)
        obtain ⟨j0, hj, hj0, hj1, hj2⟩ := info_parts infoStep
        go_wp2_with (at_builtin; refine wpList_append_own_at _ rfl _ _ 150 rfl w.heap.size 152 j0 (.agg #[.int .i64 0, .int .i64 0, .slice none 0 0]) 3 40 Tryd.underlying150 hj hj0 hj1 hj2 rfl (by decide) _ _ _ rfl (hsr.out.own.alloc _) ⟨wr.heap.size, 0, none⟩ 1 1 [.int .i64 par, .int .i64 (l : Nat), .slice fA fr.length fc] rfl rfl (cell_three_new _ _ _ _ _) (by intro u hu; simp at hu; rcases hu with rfl | rfl | rfl <;> rfl) (by unfold maxLen; omega) (by omega) (by simp; omega) ?_; intro v6 w6 hO6 hgr6 _ _; obtain ⟨A6, c6, rfl, -, -⟩ := own_slice hO6; have hkA : KeepB (fun b => sv.ownBlock = some b) wr w6 := ((KeepB.refl _ wr).alloc _).grown hgr6 fun k hk _ => hk; have hP6 : Blk w6 bP 150 #[sv] := hPr.out.keep hkA fun e => own_ne hsr.out.own hPr.out (by decide) bP e rfl; have q0 := hP6.cell 0; simp only [List.getElem?_toArray, List.getElem?_cons_zero] at q0; have zq := hP6.frozen 0; replace hP6 := hid hP6; replace hkA := hid hkA; replace hO6 := hid hO6; replace hgr6 := hid hgr6)
        go_ret
        exact ⟨by rw [← hfr.out]; rfl, by rw [← hfr.out]; exact VisPost.mk hst.out hkp hblk hseen hfne.out hown.out hO6.out hgr6.out⟩

end Go.Proofs.YtimoekglamdddaaDoor

/- The program's closure: the states that words of hidden letters reach. -/
namespace Go.Proofs.YtimoekglamdddaaDoor
open Go.RowKit Go.BigFrame AG

/-- A list of numbers lies in memory below a block. -/
def NatsAt (w : World) (B : Nat) (A : Option Addr) (ns : List Nat) : Prop := 0 < ns.length → ∃ b o, A = some ⟨b, o, none⟩ ∧ b < B ∧ ∀ i (h : i < ns.length), w.cell? ⟨b, o + i, none⟩ = some (.int .i64 (ns[i] : Nat))
theorem NatsAt.later {w w' : World} {A : Option Addr} {ns : List Nat} (h : NatsAt w w.heap.size A ns) (hb : Below w.heap.size w w') : NatsAt w' w'.heap.size A ns := fun hl => by
  obtain ⟨b, o, h1, h2, h3⟩ := h hl
  exact ⟨b, o, h1, Nat.lt_of_lt_of_le h2 hb.size, fun i hi => by rw [hb.cell (by simpa using h2)]; exact h3 i hi⟩
theorem OwnNats.read {w : World} {B : Nat} {v : Value} {ns : List Nat} (h : OwnNats w B v ns) : ∃ A c, v = .slice A ns.length c ∧ ns.length ≤ c ∧ c ≤ 9223372036854775807 ∧ NatsAt w w.heap.size A ns := by
  by_cases hn : 0 < ns.length
  · obtain ⟨g, cap, hv, h1, h2, h3, h4, h5⟩ := own_nats h hn
    exact ⟨_, cap, hv, h3, h4, fun _ => ⟨g, 0, rfl, h2, fun i hi => by rw [Nat.zero_add]; exact h5 i hi⟩⟩
  · obtain ⟨A, c, hv, h1, h2⟩ := own_slice h
    exact ⟨A, c, hv, h1, h2, fun hl => absurd hl hn⟩

set_option maxRecDepth 100000 in
set_option maxHeartbeats 4000000 in
theorem closure_any (s : Sy) (h : Int) (g S : Nat) (A : Option Addr) (c : Nat) (w : World) (hs : edgesIn s) (hS : S < 65536) (hl : (letters h).length ≤ c) (hc : c ≤ 9223372036854775807) (hT : Tab w) (hg : MvAt w w.heap.size g (mv s)) (hL : NatsAt w w.heap.size A (letters h)) :
    Calls Tryd.prog 66 #[.pointer (some ⟨g, 0, none⟩), .int .i64 (S : Nat), .slice A (letters h).length c] w fun e w' => e = .returned (.int .i64 (reachSet s h S : Nat)) ∧ Below w.heap.size w w' := by
  have hls1 : ∀ e ∈ s.es, e.l.toNat ∈ letters h → Has h e.l.toNat = true := fun e he hm => (letters_lt hm).2
  have hls2 : ∀ e ∈ s.es, Has h e.l.toNat = true → e.l.toNat ∈ letters h := fun e he hm => letters_of_six (by have := hs e he; omega) hm
  have h6 : ∀ l ∈ letters h, l < 6 := fun l hl => (letters_lt hl).1
  have hn6 : (letters h).length ≤ 6 := lettersTo_len h 6
  generalize letters h = ls at *
  replace hls1 := hid hls1
  replace hls2 := hid hls2
  replace h6 := hid h6
  replace hs := hid hs
  replace hT := hid hT
  replace hg := hid hg
  replace hL := hid hL
  go_enter Tryd.func66, Tryd.ntmps66
  go_wp2_with fail
  go_loopw [1] (fun st wr => ∃ T : Nat, st = .int .i64 (T : Nat) ∧ T < 65536 ∧ (∀ x, S.testBit x = true → T.testBit x = true) ∧ (∀ x, T.testBit x = true → Rch s h S x) ∧ Below w.heap.size w wr) (fun st _ => 65536 - (intOf st).toNat)
  case atStart => exact ⟨S, rfl, hS, fun _ h => h, fun _ h => Rch.start h, Below.refl _ _⟩
  case round =>
    obtain ⟨T, rfl, hTl, hbase, hins, hb⟩ := hrel
    replace hbase := hid hbase
    replace hins := hid hins
    go_wp2_with fail
    go_loopw [7, 13] (fun mo i wr => ∃ k : Nat, i = .int .i64 (k : Nat) ∧ k ≤ ls.length ∧ mo = .int .i64 (closeL (mv s) T (ls.take k) : Nat) ∧ Below w.heap.size w wr) (fun _ i _ => ls.length - (intOf i).toNat)
    case atStart => exact ⟨0, rfl, by omega, by rfl, hb⟩
    case round =>
      obtain ⟨k, rfl, hk, rfl, hb1⟩ := hrel
      have hcl : closeL (mv s) T (ls.take k) < 65536 := closeL_lt (mv s) hTl _
      by_cases hlt : k < ls.length
      · obtain ⟨b, o, hA, hbb, hE⟩ := hL.out (by omega)
        subst hA
        have c0 := hE k hlt
        rw [← hb1.cell (by simpa using hbb)] at c0
        obtain ⟨l, hl'⟩ : ∃ l, l = ls[k] := ⟨_, rfl⟩
        rw [← hl'] at c0
        have hl6 : l < 6 := h6.out l (by rw [hl']; exact List.getElem_mem _)
        have hcs : Hid (closeL (mv s) T (ls.take (k + 1)) = closeL (mv s) T (ls.take k) ||| unionOf (mv s) T l) := hid (by rw [List.take_succ_eq_append_getElem hlt, closeL_snoc, hl'])
        have hor := hid (bits_orN (closeL (mv s) T (ls.take k)) (unionOf (mv s) T l) hcl (unionOf_lt _ _ _))
        have hzr := hb1.size
        have hgr := hid (hg.out.later hb1)
        have hTr := hid (hT.out.later hb1)
        have k1 : (0 : Int) ≤ (k : Int) ∧ (k : Int) < (ls.length : Int) := by omega
        replace hE := hid hE
        replace hl' := hid hl'
        go_wp2_with (refine (step_any (mv s) g T l _ hl6 (fun q => mv_lt s q l) hTl hTr.out hgr.out).mono ?_; rintro e w3 ⟨rfl, hb3⟩)
        have hb4 := hb1.trans (hb3.mono hzr)
        go_roundw
        case rel => exact ⟨k + 1, by go_num, by omega, by rw [hor.out, hcs.out], hb4⟩
        case measure => simp [intOf]; omega
      · obtain rfl : k = ls.length := by omega
        rw [List.take_length] at hcl ⊢
        have hge : T ≤ closeL (mv s) T ls := closeL_ge (mv s) T ls
        by_cases hfix : closeL (mv s) T ls = T
        · have hfin := hid (closeL_fix hs.out hTl hfix hbase.out hins.out hls2.out)
          have hd : ((closeL (mv s) T ls : Nat) == (T : Int)) = true := by rw [hfix]; simp
          replace hfix := hid hfix
          go_wp2
          go_ret
          exact ⟨ret_int (by rw [← hfin.out]), hb1⟩
        · have hd : (((closeL (mv s) T ls : Nat) : Int) == (T : Int)) = false := by simp; omega
          have hins2 := hid (closeL_inside hs.out hins.out hls1.out)
          have hbase2 : Hid (∀ x, S.testBit x = true → (closeL (mv s) T ls).testBit x = true) := hid fun x hx => (closeL_testBit _ _ _ _).2 (.inl (hbase.out x hx))
          have hlt' : T < closeL (mv s) T ls := by omega
          replace hfix := hid hfix
          go_wp2
          go_roundw
          case rel => exact ⟨_, rfl, hcl, hbase2.out, hins2.out, hb1⟩
          case measure => simp [intOf]; omega

end Go.Proofs.YtimoekglamdddaaDoor

/- Plain: how many words lead somewhere. -/
namespace AG

/-- All words of a length over the letters L. -/
def wordsOf (L : List Nat) : Nat → List (List Nat)
  | 0 => [[]]
  | k + 1 => (wordsOf L k).flatMap fun r => L.map fun l => l :: r
theorem sum_const {α : Type} (c : Nat) : ∀ W : List α, (W.map fun _ => c).sum = W.length * c
  | [] => by simp
  | _ :: W => by
    have := sum_const c W
    simp only [List.map_cons, List.sum_cons, List.length_cons, this, Nat.add_mul]
    omega
theorem wordsOf_len (L : List Nat) : ∀ k, (wordsOf L k).length = L.length ^ k
  | 0 => rfl
  | k + 1 => by
    have ih := wordsOf_len L k
    rw [wordsOf, List.length_flatMap]
    have : ((wordsOf L k).map fun r => (L.map fun l => l :: r).length) = (wordsOf L k).map fun _ => L.length := by
      congr 1; funext r; simp
    rw [this, sum_const, ih, Nat.pow_succ]
theorem wordsOf_mem {L : List Nat} : ∀ {k : Nat} {r : List Nat}, r ∈ wordsOf L k → ∀ l ∈ r, l ∈ L
  | 0, r, h, l, hl => by
    have : r = [] := by simpa [wordsOf] using h
    subst this
    cases hl
  | k + 1, r, h, l, hl => by
    rw [wordsOf, List.mem_flatMap] at h
    obtain ⟨q, hq, hr⟩ := h
    obtain ⟨x, hx, rfl⟩ := List.mem_map.1 hr
    rcases List.mem_cons.1 hl with rfl | hl
    · exact hx
    · exact wordsOf_mem hq l hl

/-- How many words of length k lead from the start to exactly the set T. -/
noncomputable def cntW (s : Sy) (L : List Nat) (k T : Nat) : Nat := (wordsOf L k).countP fun r => decide (setW s r = T)
/-- How many are traces. -/
noncomputable def trW (s : Sy) (L : List Nat) (k : Nat) : Nat := (wordsOf L k).countP fun r => decide (setW s r ≠ 0)
/-- How many letters lead from S to T; how many lead anywhere. -/
noncomputable def hitL (s : Sy) (L : List Nat) (S T : Nat) : Nat := L.countP fun (l : Nat) => decide (stepSet s S (l : Int) = T)
noncomputable def anyL (s : Sy) (L : List Nat) (S : Nat) : Nat := L.countP fun (l : Nat) => decide (stepSet s S (l : Int) ≠ 0)

theorem countP_flat {α : Type} (p : α → Bool) (f : List Nat → List α) : ∀ W : List (List Nat), (W.flatMap f).countP p = (W.map fun r => (f r).countP p).sum
  | [] => rfl
  | r :: W => by rw [List.flatMap_cons, List.countP_append, countP_flat p f W]; rfl
theorem cntW_succ (s : Sy) (L : List Nat) (k T : Nat) : cntW s L (k + 1) T = ((wordsOf L k).map fun r => hitL s L (setW s r) T).sum := by
  unfold cntW hitL
  rw [wordsOf, countP_flat]
  congr 1
  congr 1
  funext r
  rw [List.countP_map]
  rfl
theorem trW_succ (s : Sy) (L : List Nat) (k : Nat) : trW s L (k + 1) = ((wordsOf L k).map fun r => anyL s L (setW s r)).sum := by
  unfold trW anyL
  rw [wordsOf, countP_flat]
  congr 1
  congr 1
  funext r
  rw [List.countP_map]
  rfl
theorem hitL_zero (s : Sy) (L : List Nat) {T : Nat} (hT : T ≠ 0) : hitL s L 0 T = 0 := by
  unfold hitL
  rw [List.countP_eq_zero]
  intro l _
  rw [stepSet_zero]
  simpa using fun h => hT h.symm
theorem anyL_zero (s : Sy) (L : List Nat) : anyL s L 0 = 0 := by
  unfold anyL
  rw [List.countP_eq_zero]
  intro l _
  rw [stepSet_zero]
  simp

theorem sum_map_add (f g : Nat → Nat) : ∀ ps : List Nat, (ps.map fun S => f S + g S).sum = (ps.map f).sum + (ps.map g).sum
  | [] => rfl
  | S :: ps => by
    have := sum_map_add f g ps
    simp only [List.map_cons, List.sum_cons, this]
    omega
theorem sum_map_zero {f : Nat → Nat} : ∀ {ps : List Nat}, (∀ S ∈ ps, f S = 0) → (ps.map f).sum = 0
  | [], _ => rfl
  | S :: ps, h => by
    rw [List.map_cons, List.sum_cons, h S List.mem_cons_self, sum_map_zero fun x hx => h x (List.mem_cons_of_mem _ hx)]
/-- One of the sets alone. -/
theorem sum_one {a : Nat} {f : Nat → Nat} : ∀ {ps : List Nat}, ps.Nodup → (a ∉ ps → f a = 0) → (ps.map fun S => if a = S then f S else 0).sum = f a
  | [], _, h => by simpa using (h (by simp)).symm
  | S :: ps, hn, h => by
    rw [List.nodup_cons] at hn
    rw [List.map_cons, List.sum_cons]
    by_cases e : a = S
    · subst e
      rw [if_pos rfl, sum_map_zero]
      · omega
      · intro x hx
        rw [if_neg]
        rintro rfl
        exact hn.1 hx
    · rw [if_neg e, Nat.zero_add]
      refine sum_one hn.2 fun hm => h ?_
      rw [List.mem_cons]
      exact fun hh => hh.elim e hm
/-- A sum over words, sorted by the sets to which they lead. -/
theorem sum_groups (g : List Nat → Nat) (f : Nat → Nat) {ps : List Nat} (hn : ps.Nodup) : ∀ W : List (List Nat), (∀ r ∈ W, g r ∉ ps → f (g r) = 0) →
    (W.map fun r => f (g r)).sum = (ps.map fun S => W.countP (fun r => decide (g r = S)) * f S).sum
  | [], _ => by simp [sum_map_zero]
  | r :: W, h => by
    have ih := sum_groups g f hn W fun x hx => h x (List.mem_cons_of_mem _ hx)
    rw [List.map_cons, List.sum_cons, ih]
    have e : (ps.map fun S => (r :: W).countP (fun r => decide (g r = S)) * f S) = ps.map fun S => (if g r = S then f S else 0) + W.countP (fun r => decide (g r = S)) * f S := by
      congr 1
      funext S
      rw [List.countP_cons]
      by_cases hh : g r = S
      · simp only [hh, decide_true, if_true, Nat.add_mul, Nat.one_mul]
        omega
      · simp only [hh, decide_false, if_false]
        simp
    rw [e, sum_map_add, sum_one hn (h r List.mem_cons_self)]

/-- The sets that have been gone through, each once, and what they add. -/
noncomputable def addTo (s : Sy) (L : List Nat) (k : Nat) (ps : List Nat) (T : Nat) : Nat := (ps.map fun S => cntW s L k S * hitL s L S T).sum
noncomputable def addAll (s : Sy) (L : List Nat) (k : Nat) (ps : List Nat) : Nat := (ps.map fun S => cntW s L k S * anyL s L S).sum
theorem addTo_done {s : Sy} {L : List Nat} {k : Nat} {ps : List Nat} (hn : ps.Nodup) (h : ∀ S, S ≠ 0 → 0 < cntW s L k S → S ∈ ps) {T : Nat} (hT : T ≠ 0) : addTo s L k ps T = cntW s L (k + 1) T := by
  rw [cntW_succ, sum_groups (setW s) (fun S => hitL s L S T) hn (wordsOf L k)]
  · rfl
  · intro r hr hm
    by_cases h0 : setW s r = 0
    · simp only [h0]
      exact hitL_zero s L hT
    · exact absurd (h _ h0 (List.countP_pos_iff.2 ⟨r, hr, by simp⟩)) hm
theorem addAll_done {s : Sy} {L : List Nat} {k : Nat} {ps : List Nat} (hn : ps.Nodup) (h : ∀ S, S ≠ 0 → 0 < cntW s L k S → S ∈ ps) : addAll s L k ps = trW s L (k + 1) := by
  rw [trW_succ, sum_groups (setW s) (fun S => anyL s L S) hn (wordsOf L k)]
  · rfl
  · intro r hr hm
    by_cases h0 : setW s r = 0
    · simp only [h0]
      exact anyL_zero s L
    · exact absurd (h _ h0 (List.countP_pos_iff.2 ⟨r, hr, by simp⟩)) hm
theorem addTo_snoc (s : Sy) (L : List Nat) (k : Nat) (ps : List Nat) (S T : Nat) : addTo s L k (ps ++ [S]) T = addTo s L k ps T + cntW s L k S * hitL s L S T := by
  unfold addTo
  rw [List.map_append, List.sum_append]
  simp
theorem addAll_snoc (s : Sy) (L : List Nat) (k : Nat) (ps : List Nat) (S : Nat) : addAll s L k (ps ++ [S]) = addAll s L k ps + cntW s L k S * anyL s L S := by
  unfold addAll
  rw [List.map_append, List.sum_append]
  simp
theorem hitL_take {s : Sy} {L : List Nat} {j : Nat} (hj : j < L.length) (S T : Nat) : hitL s (L.take (j + 1)) S T = hitL s (L.take j) S T + if stepSet s S (L[j] : Int) = T then 1 else 0 := by
  unfold hitL
  rw [List.take_succ_eq_append_getElem hj, List.countP_append]
  simp [List.countP_cons]
theorem anyL_take {s : Sy} {L : List Nat} {j : Nat} (hj : j < L.length) (S : Nat) : anyL s (L.take (j + 1)) S = anyL s (L.take j) S + if stepSet s S (L[j] : Int) ≠ 0 then 1 else 0 := by
  unfold anyL
  rw [List.take_succ_eq_append_getElem hj, List.countP_append]
  simp [List.countP_cons]

/-- How great the numbers get. -/
theorem cntW_le (s : Sy) (L : List Nat) (k T : Nat) : cntW s L k T ≤ L.length ^ k := by
  unfold cntW
  rw [← wordsOf_len L k]
  exact List.countP_le_length
theorem trW_le (s : Sy) (L : List Nat) (k : Nat) : trW s L k ≤ L.length ^ k := by
  unfold trW
  rw [← wordsOf_len L k]
  exact List.countP_le_length
theorem pow_le6 {n k : Nat} (hn : n ≤ 6) (hk : k ≤ 8) : n ^ k ≤ 1679616 := by
  have h1 : n ^ k ≤ 6 ^ k := Nat.pow_le_pow_left hn k
  have h2 : 6 ^ k ≤ 6 ^ 8 := Nat.pow_le_pow_right (by omega) hk
  have h3 : (6 : Nat) ^ 8 = 1679616 := by decide
  omega
theorem sum_le_groups (g : List Nat → Nat) (f : Nat → Nat) {ps : List Nat} (hn : ps.Nodup) (hf : ∀ S, f S ≤ 6) (W : List (List Nat)) : (ps.map fun S => W.countP (fun r => decide (g r = S)) * f S).sum ≤ 6 * W.length := by
  have h := sum_groups g (fun S => if S ∈ ps then f S else 0) hn W (fun r _ hm => by simp [hm])
  have e : (ps.map fun S => W.countP (fun r => decide (g r = S)) * f S) = ps.map fun S => W.countP (fun r => decide (g r = S)) * (if S ∈ ps then f S else 0) := List.map_congr_left fun S hS => by rw [if_pos hS]
  rw [e, ← h]
  clear h e
  induction W with
  | nil => simp
  | cons r W ih =>
    rw [List.map_cons, List.sum_cons, List.length_cons]
    have : (if g r ∈ ps then f (g r) else 0) ≤ 6 := by split; exact hf _; omega
    omega
theorem hitL_le {L : List Nat} (hL : L.length ≤ 6) (s : Sy) (S T : Nat) : hitL s L S T ≤ 6 := by unfold hitL; exact Nat.le_trans List.countP_le_length hL
theorem anyL_le {L : List Nat} (hL : L.length ≤ 6) (s : Sy) (S : Nat) : anyL s L S ≤ 6 := by unfold anyL; exact Nat.le_trans List.countP_le_length hL
theorem addTo_le {s : Sy} {L : List Nat} {k : Nat} {ps : List Nat} (hL : L.length ≤ 6) (hk : k ≤ 8) (hn : ps.Nodup) (T : Nat) : addTo s L k ps T ≤ 10077696 := by
  have := sum_le_groups (setW s) (fun S => hitL s L S T) hn (hitL_le hL s · T) (wordsOf L k)
  have h2 := pow_le6 hL hk
  rw [wordsOf_len] at this
  unfold addTo cntW
  omega
theorem addAll_le {s : Sy} {L : List Nat} {k : Nat} {ps : List Nat} (hL : L.length ≤ 6) (hk : k ≤ 8) (hn : ps.Nodup) : addAll s L k ps ≤ 10077696 := by
  have := sum_le_groups (setW s) (fun S => anyL s L S) hn (anyL_le hL s ·) (wordsOf L k)
  have h2 := pow_le6 hL hk
  rw [wordsOf_len] at this
  unfold addAll cntW
  omega

/-- The number of all traces of at most n letters. -/
noncomputable def totW (s : Sy) (L : List Nat) : Nat → Nat
  | 0 => 1
  | n + 1 => totW s L n + trW s L (n + 1)
theorem totW_le {s : Sy} {L : List Nat} (hL : L.length ≤ 6) : ∀ n, n ≤ 8 → totW s L n ≤ 1 + n * 1679616
  | 0, _ => by simp [totW]
  | n + 1, h => by
    have ih := totW_le (s := s) hL n (by omega)
    have h1 := trW_le s L (n + 1)
    have h2 := pow_le6 hL (k := n + 1) (by omega)
    rw [totW]
    omega
theorem trW_mono {s t : Sy} {L : List Nat} (h : ∀ r, (∀ l ∈ r, l ∈ L) → setW s r ≠ 0 → setW t r ≠ 0) (k : Nat) : trW s L k ≤ trW t L k := by
  unfold trW
  refine List.countP_mono_left fun r hr hp => ?_
  have hp' : setW s r ≠ 0 := by simpa using hp
  have := h r (wordsOf_mem hr) hp'
  simpa using this
theorem totW_mono {s t : Sy} {L : List Nat} (h : ∀ r, (∀ l ∈ r, l ∈ L) → setW s r ≠ 0 → setW t r ≠ 0) : ∀ n, totW s L n ≤ totW t L n
  | 0 => Nat.le_refl _
  | n + 1 => Nat.add_le_add (totW_mono h n) (trW_mono h (n + 1))
theorem cntW_zero (s : Sy) (L : List Nat) (T : Nat) : cntW s L 0 T = if T = 1 then 1 else 0 := by
  unfold cntW
  show ([[]] : List (List Nat)).countP _ = _
  have : setW s [] = 1 := rfl
  by_cases h : T = 1
  · subst h
    simp [this]
  · have h' : ¬ 1 = T := fun e => h e.symm
    simp [this, h, h']
theorem cntW_small {s : Sy} {L : List Nat} {k T : Nat} (h : 0 < cntW s L k T) : T < 65536 := by
  unfold cntW at h
  obtain ⟨r, _, hr⟩ := List.countP_pos_iff.1 h
  have e : setW s r = T := by simpa using hr
  rw [← e]
  exact setW_lt s r

end AG

/- The program's TracesUpTo. -/
namespace Go.Proofs.YtimoekglamdddaaDoor
open Go.RowKit Go.BigFrame Go.Maps AG

theorem mapLaw : Keyed Tryd.prog 3 := int_keyed Tryd.underlying3
theorem zeroInt (w : World) : (zeroValue 3).run Tryd.prog w = .ok (.int .i64 0) w := by kernel_rfl

/-- An entry of a map that is written out: as a store. -/
theorem wpList_insert_own {H : Type} {P : Program} (w : World) {ops : Array Oper} {rest : List Oper} {o : Oper} {a : Act} {Q : Exit → Act → World → Prop}
    (hg : o.guard = none) (m x v : Operand) (t : TypeId) (hop : o.op = Op.insert t m x v)
    (k e : TypeId) (K : Keyed P k) (ht : P.underlying t = some (.map k e)) (R : Value → Option (DataW H × List MemPlace)) (b n : Nat) (D : DataW H)
    (hm : a.eval m = .map (some b)) (hown : w.ownsMap P k R b n D) (hn : n < maxLen) (key val : Value) (kl : Lit) (hx : a.eval x = key) (hv : a.eval v = val) (hkey : keyOf P k key = some kl)
    (d : DataW H) (ps : List MemPlace) (hval : R val = some (d, ps))
    (hK : ∀ w', w'.ownsMap P k R b (n + 1) (D.put kl d) → w.grownBy w' (some b) → wpList P ops Q rest (a.put o.dst undef) w') :
    wpList P ops Q (o :: rest) a w := by
  refine wpList_plain hg fun K' hK' => ?_
  obtain ⟨w', hrun, r1, r2⟩ := hown.update K ht hn hkey hval
  unfold Oper.wp
  simp [execOp, hop, hm, hx, hv, hrun, Result.andThen]
  exact hK' _ _ (hK w' r1 r2)

/-- A map reads as a function: no entry, no number. -/
structure MapFn (D : DataW Unit) (v : Nat → Nat) : Prop where
  isMap : Maps.IsMap D
  at_ : ∀ T : Nat, D.atKey (.int .i64 (T : Int)) (.lit (.int .i64 0)) = .lit (.int .i64 ((v T : Nat) : Int))
  has : ∀ kl, Maps.has D kl = true → ∃ T : Nat, kl = .int .i64 (T : Int) ∧ 0 < v T ∧ T ≠ 0 ∧ T < 65536
  pos : ∀ T : Nat, 0 < v T → Maps.has D (.int .i64 (T : Int)) = true
theorem MapFn.empty : MapFn (.map []) (fun _ => 0) :=
  ⟨Maps.isMap_empty, fun T => Maps.atKey_of_not_has rfl _, fun kl h => (by cases h), fun T h => (by cases h)⟩
theorem key_ne {x T : Nat} (h : x ≠ T) : Lit.int .i64 (x : Int) ≠ Lit.int .i64 (T : Int) := fun e => by
  injection e with _ e
  exact h (by omega)
theorem MapFn.put {D : DataW Unit} {v : Nat → Nat} (h : MapFn D v) {T c : Nat} (hT : T ≠ 0) (hT2 : T < 65536) (hc : 0 < c) :
    MapFn (D.put (.int .i64 (T : Int)) (.lit (.int .i64 ((v T + c : Nat) : Int)))) (fun x => if x = T then v T + c else v x) := by
  refine ⟨h.isMap.put _ _, fun x => ?_, fun kl hk => ?_, fun x hx => ?_⟩
  · by_cases e : x = T
    · subst e
      rw [Maps.atKey_put_same h.isMap (show WideAt.IsKeyLit (Lit.int .i64 (x : Int)) from trivial), if_pos rfl]
    · rw [Maps.atKey_put_other (key_ne e), h.at_ x, if_neg e]
  · by_cases e : kl = .int .i64 (T : Int)
    · exact ⟨T, e, by rw [if_pos rfl]; omega, hT, hT2⟩
    · rw [Maps.has_put_other e] at hk
      obtain ⟨x, h1, h2, h3, h4⟩ := h.has kl hk
      have : x ≠ T := fun e' => e (by rw [h1, e'])
      exact ⟨x, h1, by rw [if_neg this]; exact h2, h3, h4⟩
  · by_cases e : x = T
    · subst e
      exact Maps.has_put_same h.isMap (show WideAt.IsKeyLit (Lit.int .i64 (x : Int)) from trivial) _
    · rw [if_neg e] at hx
      rw [Maps.has_put_other (key_ne e)]
      exact h.pos x hx
theorem MapFn.congr {D : DataW Unit} {v v' : Nat → Nat} (h : MapFn D v) (e : ∀ T, v T = v' T) : MapFn D v' := by
  have : v = v' := funext e
  rw [← this]
  exact h
theorem grown_of_below {w w' : World} (hb : Below w.heap.size w w') : w.grownBy w' none := ⟨hb.os, hb.tape, hb.output, hb.size, fun i hi _ => hb.block i hi⟩

theorem wf64 {a : Int} (h1 : -9223372036854775808 ≤ a) (h2 : a ≤ 9223372036854775807) : (Lit.int .i64 a).wf = true := by
  unfold Lit.wf
  simp [IntKind.min, IntKind.max, IntKind.signed, IntKind.bits]
  omega

/-- The state of the count: a map of sets. -/
structure CntSt (s : Sy) (L : List Nat) (k : Nat) (w : World) (B n0 : Nat) (D : DataW Unit) : Prop where
  own : w.ownsMap Tryd.prog 3 (plainElem Tryd.prog 3) B n0 D
  num : n0 ≤ 100000000
  fn : MapFn D (fun S => if S = 0 then 0 else cntW s L k S)

theorem sum_le_len {f : Nat → Nat} : ∀ {ps : List Nat}, (∀ S ∈ ps, 0 < f S) → ps.length ≤ (ps.map f).sum
  | [], _ => Nat.le_refl _
  | S :: ps, h => by
    have h1 := h S List.mem_cons_self
    have h2 := sum_le_len (f := f) (ps := ps) fun x hx => h x (List.mem_cons_of_mem _ hx)
    rw [List.length_cons, List.map_cons, List.sum_cons]
    omega
theorem keys_len {s : Sy} {L : List Nat} {k : Nat} {ps : List Nat} (hL : L.length ≤ 6) (hk : k ≤ 8) (hn : ps.Nodup) (h : ∀ S ∈ ps, 0 < cntW s L k S) : ps.length ≤ 10077696 := by
  have h1 := sum_le_len h
  have h2 := sum_le_groups (setW s) (fun _ => 1) hn (fun _ => by omega) (wordsOf L k)
  have h3 := pow_le6 hL hk
  rw [wordsOf_len] at h2
  simp only [Nat.mul_one] at h2
  unfold cntW at h1
  omega
theorem sameKey_int (x y : Int) : (Lit.int .i64 x).sameKey (.int .i64 y) = decide (x = y) := by
  by_cases e : x = y
  · subst e
    simp [Lit.sameKey]
  · rw [decide_eq_false e]
    exact Maps.sameKey_ne (fun h => e (by injection h))

set_option maxRecDepth 100000 in
set_option maxHeartbeats 8000000 in
theorem implTracesUpTo_any (s : Sy) (A : Option Addr) (c n : Nat) (w : World) (hok : sysOk s = true) (hn : n ≤ 7) (hl : s.es.length ≤ c) (hc : c ≤ 9223372036854775807) (hT : Tab w) (hr : EdsAt w w.heap.size A s.es) :
    Calls Tryd.prog 38 #[s.val A c, .int .i64 (n : Nat)] w fun e w' => e = .returned (.int .i64 (totW s (letters s.al) n : Nat)) ∧ Below w.heap.size w w' := by
  unfold Sy.val
  have hmm := @run_makeMap Tryd.prog
  obtain ⟨w0, hw0, hz0, hB0, hS0, hS1, hS2⟩ := boxed3 w (Value.int IntKind.i64 s.al) (Value.int IntKind.i64 s.st) (Value.slice A s.es.length c) 34
  have hr0 := hid (hr.later hB0)
  have p0 := hS0 _ (Below.refl _ _)
  have p1 := hS1 _ (Below.refl _ _)
  have p2 := hS2 _ (Below.refl _ _)
  have hin := hid (sysOk_in hok)
  replace hok := hid hok
  replace hr := hid hr
  replace hT := hid hT
  go_enter Tryd.func38, Tryd.ntmps38
  go_wp2_with fail
  refine (implSystemValid_any s A c w0 hl hc hr0.out).mono ?_
  rintro e w1 ⟨rfl, hb1⟩
  rw [hok.out]
  have hB1 := hB0.trans (hb1.mono (by omega))
  have hC1 := hb1.mono hz0
  clear p0 p1 p2 hw0
  have p0 := hS0 _ hC1
  have p1 := hS1 _ hC1
  have p2 := hS2 _ hC1
  have hr1 := hid (hr0.out.later hb1)
  have hz1 := hb1.size
  go_wp2_with fail
  refine (movesOf_any s A c w1 hin.out hl hc hr1.out).mono ?_
  rintro e w2 ⟨g, rfl, hg, hb2⟩
  have hB2 := hid (hB1.trans (hb2.mono hB1.size))
  have hC2 := hid (hC1.trans (hb2.mono (by omega)))
  have hT2 := hid (hT.out.later hB2.out)
  have hz2 := hb2.size
  replace hg := hid hg
  clear p0 p1 p2 hC1 hb1 hb2 hB1
  have hmade := World.ownsMap_made (H := Unit) w2 Tryd.prog 3 (plainElem Tryd.prog 3)
  go_upto_region 4 with fail
  go_wp2_with (refine wpList_insert_own _ rfl _ _ _ 107 rfl 3 3 mapLaw Tryd.underlying107 (plainElem Tryd.prog 3) w2.heap.size 0 _ rfl hmade (by unfold maxLen; omega) _ _ (.int .i64 1) rfl rfl (keyOf_int_mk Tryd.underlying3 (by decide)) (.lit (.int .i64 1)) [] (plainElem_int Tryd.underlying3 (by decide)) ?_)
  intro w3 hown3 hgrow3
  have hB3 : Below w2.heap.size w2 w3 := ((Below.refl _ _).alloc (Nat.le_refl _) (.map #[] 0)).grown hgrow3 (by simp) (fun k hk => by cases hk; exact Nat.le_refl _)
  obtain ⟨L, hL⟩ : ∃ L, Hid (L = letters s.al) := ⟨_, hid rfl⟩
  have hL6 : L.length ≤ 6 := by rw [hL.out]; exact lettersTo_len s.al 6
  have hst3 : Hid (CntSt s L 0 w3 w2.heap.size 1 ((DataW.map []).put (Lit.int IntKind.i64 1) (DataW.lit (Lit.int IntKind.i64 1)))) := hid ⟨hown3, by omega, (MapFn.empty.put (T := 1) (c := 1) (by omega) (by omega) (by omega)).congr fun T => by
    rw [cntW_zero]
    by_cases h1 : T = 1
    · subst h1; simp
    · simp [h1]⟩
  replace hB3 := hid hB3
  replace hgrow3 := hid hgrow3
  clear hown3 hmade
  have hn8 : Hid (n ≤ 7) := hid hn
  go_wp2_with fail
  go_loopw [6, 7, 30] (fun cm tv iv wr => ∃ (k B n0 : Nat) (D : DataW Unit), cm = .map (some B) ∧ tv = .int .i64 (totW s L k : Nat) ∧ iv = .int .i64 (k : Nat) ∧ k ≤ n ∧ CntSt s L k wr B n0 D ∧ w2.heap.size ≤ B ∧ Below w2.heap.size w2 wr) (fun _ _ iv _ => n - (intOf iv).toNat)
  case atStart => exact ⟨0, _, _, _, rfl, rfl, rfl, by omega, hst3.out, Nat.le_refl _, hB3.out⟩
  case round =>
    clear hst3 hB3 hgrow3
    obtain ⟨wo, rfl⟩ : ∃ wo : World, wo = wr := ⟨_, rfl⟩
    obtain ⟨k, B, n0, D, rfl, rfl, rfl, hk, hst, hBB, hb⟩ := hrel
    have hbr := hid hb
    have hCr := hC2.out.trans (hb.mono (by have := hC2.out.size; omega))
    have p0 := hS0 _ hCr
    have p1 := hS1 _ hCr
    have p2 := hS2 _ hCr
    have hzr := hb.size
    have hBlt := hst.own.lt
    clear hCr hb
    by_cases hlt : k < n
    · have hown' := hst.own.alloc (.map #[] 0)
      have hmade' := World.ownsMap_made (H := Unit) wo Tryd.prog 3 (plainElem Tryd.prog 3)
      replace hst := hid hst
      go_wp2_with (at_range; refine wpList_range_own _ rfl _ 107 rfl 3 3 mapLaw Tryd.underlying107 (plainElem Tryd.prog 3) B n0 D rfl hown' ?_)
      intro w4 hrg4 hg4 hs4
      try go_frame
      have hnx4 := hmade'.kept hg4 (by simp)
      have hB4 : Below w2.heap.size w2 w4 := hbr.out.trans ((((Below.refl _ wo).alloc (Nat.le_refl _) (.map #[] 0)).grown hg4 (by simp) (fun k hk => by cases hk)).mono hzr)
      have hz4 := hs4
      clear hmade' hown' hg4 hs4
      go_wp2_with fail
      go_loopw [7] (fun tv wq => ∃ (ps : List Nat) (D2 : DataW Unit) (left : Lit → Bool) (cnt : Nat), tv = .int .i64 (totW s L k + addAll s L k ps : Nat) ∧ ps.Nodup ∧ (∀ S ∈ ps, 0 < cntW s L k S) ∧ wq.ranges Tryd.prog 3 (plainElem Tryd.prog 3) B (wo.heap.size + 1) n0 D left cnt ∧ (∀ kl, left kl = true → Maps.has D kl = true) ∧
        (∀ S : Nat, Maps.has D (.int .i64 (S : Int)) = true → left (.int .i64 (S : Int)) = decide (S ∉ ps)) ∧ wq.ownsMap Tryd.prog 3 (plainElem Tryd.prog 3) wo.heap.size (6 * ps.length) D2 ∧ MapFn D2 (fun T => if T = 0 then 0 else addTo s L k ps T) ∧ wo.heap.size + 2 ≤ wq.heap.size ∧ Below w2.heap.size w2 wq) (fun _ wq => wq.rangeLeft B (wo.heap.size + 1))
      case atStart => exact ⟨[], _, _, _, by rfl, List.nodup_nil, (fun S h => by cases h), hrg4, (fun _ h => h), (fun S h => by simpa using h), hnx4, MapFn.empty.congr (fun T => by simp [addTo]), by omega, hB4⟩
      case round =>
        clear hrg4 hnx4 hB4
        obtain ⟨ps, D2, left, cnt, rfl, hnd, hpos, hrg, hlh, hlp, hown2, hfn2, hzq, hb2⟩ := hrel
        have hwr : w2.heap.size ≤ wo.heap.size := hzr
        have hall := addAll_le (s := s) (k := k) (ps := ps) hL6 (by have := hn8.out; omega) hnd
        have htot := totW_le (s := s) (L := L) hL6 k (by have := hn8.out; omega)
        have hpl := keys_len hL6 (by have := hn8.out; omega) hnd hpos
        replace hpos := hid hpos
        replace hlh := hid hlh
        replace hlp := hid hlp
        replace hfn2 := hid hfn2
        replace hnd := hid hnd
        replace hown2 := hid hown2
        go_wp2_with (at_next; refine wpList_next_ranges_ii _ rfl _ rfl 3 3 .i64 .i64 mapLaw Tryd.underlying3 Tryd.underlying3 B (wo.heap.size + 1) n0 D left cnt rfl hrg ?_ ?_)
        · intro _ hl0
          have hmem : ∀ S, S ≠ 0 → 0 < cntW s L k S → S ∈ ps := fun S h0 h1 => by
            have h2 := hst.out.fn.pos S (by rw [if_neg h0]; exact h1)
            have h3 := hlp.out S h2
            rw [hl0] at h3
            simpa using h3.symm
          have hkk := hid (hfn2.out.congr (v' := fun S => if S = 0 then 0 else cntW s L (k + 1) S) fun T => by
            by_cases h0 : T = 0
            · rw [if_pos h0, if_pos h0]
            · rw [if_neg h0, if_neg h0]; exact addTo_done hnd.out hmem h0)
          have htt : Hid (totW s L k + addAll s L k ps = totW s L (k + 1)) := hid (by rw [addAll_done hnd.out hmem]; rfl)
          clear hmem hl0 hrg
          go_wp2_with fail
          go_roundw
          case rel => exact ⟨k + 1, wo.heap.size, 6 * ps.length, D2, rfl, by rw [← htt.out]; first | rfl | (simp; done) | trace_state, by go_num, by omega, ⟨hown2.out, by omega, hkk.out⟩, hwr, hb2⟩
          case measure => simp [intOf]; omega
        · intro x c0 w5 cnt5 hwx hwc hlx hat hrg5 hlt5 hg5 hs5 hen
          obtain ⟨S, hS, hvS, hS0', hS16⟩ := hst.out.fn.has _ (hlh.out _ hlx)
          obtain rfl : x = (S : Int) := by injection hS
          have hc0 : c0 = ((cntW s L k S : Nat) : Int) := by
            have e := hat (.lit (.int .i64 0))
            rw [hst.out.fn.at_ S, if_neg hS0'] at e
            injection e with e
            injection e with _ e
            exact e.symm
          obtain ⟨q, hq⟩ : ∃ q, q = cntW s L k S := ⟨_, rfl⟩
          rw [← hq] at hc0
          subst hc0
          rw [if_neg hS0', ← hq] at hvS
          have hq8 : q ≤ 1679616 := by
            have h1 := cntW_le s L k S
            have h2 := pow_le6 hL6 (k := k) (by have := hn8.out; omega)
            omega
          have hnp : S ∉ ps := by
            have h1 := hlp.out S (hst.out.fn.pos S (by rw [if_neg hS0', ← hq]; exact hvS))
            rw [hlx] at h1
            simpa using h1.symm
          have hown5 := hown2.out.kept hg5 (by simp)
          have hb5 := hb2.grown hg5 (by have := hb2.size; exact this) (fun k hk => by cases hk; omega)
          have hC5 := hC2.out.trans (hb5.mono (by have := hC2.out.size; omega))
          have q0 := hS0 _ hC5
          have q1 := hS1 _ hC5
          have q2 := hS2 _ hC5
          have hz5 := hb5.size
          replace hq := hid hq
          replace hnp := hid hnp
          replace hS := hid hS
          replace hvS := hid hvS
          replace hlx := hid hlx
          replace hat := hid hat
          have hle0 := hid hrg.left_eq
          clear p0 p1 p2 hrg hC5 hg5
          go_wp2_with fail
          refine (lettersOf_any s.al w5).mono ?_
          rintro e w6 ⟨lv, rfl, hown6, hb6⟩
          rw [← hL.out] at hown6
          obtain ⟨AL, cL, hvl, hcl, hcl'⟩ := own_slice hown6
          subst hvl
          have hrg6 := hrg5.kept (grown_of_below hb6) (by simp) (by simp)
          have hown26 := hown5.kept (grown_of_below hb6) (by simp)
          have hb6' := hb5.trans (hb6.mono hz5)
          have hz6 := hb6.size
          replace hown6 := hid hown6
          clear hrg5 hown5 hb5 hb6 q0 q1 q2
          go_wp2_with fail
          go_loopw [7, 44] (fun tv jv wq => ∃ (j : Nat) (D3 : DataW Unit), jv = .int .i64 (j : Nat) ∧ j ≤ L.length ∧ tv = .int .i64 (totW s L k + addAll s L k ps + q * anyL s (L.take j) S : Nat) ∧ wq.ranges Tryd.prog 3 (plainElem Tryd.prog 3) B (wo.heap.size + 1) n0 D (fun z => left z && !z.sameKey (.int .i64 (S : Int))) cnt5 ∧
            wq.ownsMap Tryd.prog 3 (plainElem Tryd.prog 3) wo.heap.size (6 * ps.length + j) D3 ∧ MapFn D3 (fun T => if T = 0 then 0 else addTo s L k ps T + q * hitL s (L.take j) S T) ∧ KeepB (fun b => b = wo.heap.size) w6 wq ∧ Below w2.heap.size w2 wq) (fun _ jv _ => L.length - (intOf jv).toNat)
          case atStart => exact ⟨0, D2, rfl, by omega, by first | rfl | (simp [anyL]; done), hrg6, hown26, hfn2.out.congr (fun T => by simp [hitL]), KeepB.refl _ _, hb6'⟩
          case round =>
            clear hrg6 hown26 hb6'
            obtain ⟨j, D3, rfl, hj, rfl, hrg7, hown7, hfn7, hk7, hb7⟩ := hrel
            have hany := anyL_le (L := L.take j) (by rw [List.length_take]; omega) s S
            have hqa : q * anyL s (L.take j) S ≤ 10077696 := Nat.le_trans (Nat.mul_le_mul hq8 hany) (by omega)
            by_cases hjl : j < L.length
            · have hown7L := own_keep hown6.out hk7 (fun g hg => by have := (World.ownsRow.lt hown6.out g hg).1; omega)
              obtain ⟨gL, capL, hve, hgL1, hgL2, -, -, hLs⟩ := own_nats hown7L (by omega)
              cases hve
              have l0 := hLs j hjl
              obtain ⟨l, hl'⟩ : ∃ l, Hid (l = L[j]) := ⟨_, hid rfl⟩
              rw [← hl'.out] at l0
              have hl6 : l < 6 := (letters_lt (A := s.al) (by rw [← hL.out, hl'.out]; exact List.getElem_mem _)).1
              have k1 : (0 : Int) ≤ (j : Int) ∧ (j : Int) < (L.length : Int) := by omega
              have hT7 := hid (hT2.out.later hb7)
              have hg7 := hid (hg.out.later hb7)
              have hun := unionOf_mv s hin.out S l
              have hi1 := hitL_take (s := s) hjl S
              have ha1 := anyL_take (s := s) hjl S
              rw [← hl'.out] at hi1 ha1
              obtain ⟨X, hX⟩ : ∃ X, X = stepSet s S (l : Int) := ⟨_, rfl⟩
              have hXl : X < 65536 := by rw [hX]; exact stepSet_lt _ _ _
              rw [← hX] at hun hi1 ha1
              replace hi1 := hid hi1
              replace ha1 := hid ha1
              replace hX := hid hX
              replace hLs := hid hLs
              replace hun := hid hun
              clear hown7L
              go_wp2_with fail
              refine (step_any (mv s) g S l _ hl6 (fun p => mv_lt s p l) hS16 hT7.out hg7.out).mono ?_
              rintro e w8 ⟨rfl, hb8⟩
              rw [hun.out]
              have hrg8 := hrg7.kept (grown_of_below hb8) (by simp) (by simp)
              have hown8 := hown7.kept (grown_of_below hb8) (by simp)
              have hk8 := hk7.trans (KeepB.of_below (K := fun b => b = wo.heap.size) hb8)
              have hb8' := hb7.trans (hb8.mono hb7.size)
              replace hfn7 := hid hfn7
              clear hrg7 hown7 hk7 hb7 l0
              by_cases hX0 : X = 0
              · have hXb : ((X : Int) != 0) = false := by simp [hX0]
                have hfn8 := hid (hfn7.out.congr (v' := fun T => if T = 0 then 0 else addTo s L k ps T + q * hitL s (L.take (j + 1)) S T) fun T => by
                  by_cases h0 : T = 0
                  · rw [if_pos h0, if_pos h0]
                  · rw [if_neg h0, if_neg h0, hi1.out T, if_neg (by omega), Nat.add_zero])
                have hta : Hid (totW s L k + addAll s L k ps + q * anyL s (L.take j) S = totW s L k + addAll s L k ps + q * anyL s (L.take (j + 1)) S) := hid (by rw [ha1.out, if_neg (by omega), Nat.add_zero])
                replace hX0 := hid hX0
                go_wp2_with fail
                go_roundw
                case rel => exact ⟨j + 1, D3, by go_num, by omega, by rw [← hta.out]; first | rfl | (simp; done), hrg8, hown8.mono (by omega), hfn8.out, hk8, hb8'⟩
                case measure => simp [intOf]; omega
              · have hXb : ((X : Int) != 0) = true := by simp; omega
                obtain ⟨vx, hvx⟩ : ∃ vx : Nat, vx = addTo s L k ps X + q * hitL s (L.take j) S X := ⟨_, rfl⟩
                have hatX : D3.atKey (.int .i64 (X : Int)) (.lit (.int .i64 0)) = .lit (.int .i64 (vx : Int)) := by rw [hfn7.out.at_ X, if_neg hX0, hvx]
                have hvl : vx ≤ 20155392 := by
                  have h1 := addTo_le (s := s) (L := L) (k := k) (ps := ps) hL6 (by have := hn8.out; omega) hnd.out X
                  have h2 := hitL_le (L := L.take j) (by rw [List.length_take]; omega) s S X
                  have h3 := Nat.mul_le_mul hq8 h2
                  omega
                have hput := hfn7.out.put (T := X) (c := q) hX0 hXl hvS.out
                have hpv : Hid (((if X = 0 then 0 else addTo s L k ps X + q * hitL s (L.take j) S X : Nat) + q : Nat) = vx + q) := hid (by rw [if_neg hX0, hvx])
                simp only [hpv.out] at hput
                have hfn8 := hid (hput.congr (v' := fun T => if T = 0 then 0 else addTo s L k ps T + q * hitL s (L.take (j + 1)) S T) fun T => by
                  by_cases h1 : T = X
                  · rw [if_pos h1, if_neg (by omega), h1, hi1.out X, if_pos rfl, Nat.mul_add, hvx]
                    omega
                  · rw [if_neg h1]
                    by_cases h0 : T = 0
                    · rw [if_pos h0, if_pos h0]
                    · rw [if_neg h0, if_neg h0, hi1.out T, if_neg (fun e => h1 e.symm), Nat.add_zero])
                have hta : Hid (totW s L k + addAll s L k ps + q * anyL s (L.take j) S + q = totW s L k + addAll s L k ps + q * anyL s (L.take (j + 1)) S) := hid (by rw [ha1.out, if_pos (by simpa using hX0), Nat.mul_add]; omega)
                have hkey : keyOf Tryd.prog 3 (.int .i64 (X : Int)) = some (.int .i64 (X : Int)) := keyOf_int_mk Tryd.underlying3 (wf64 (by omega) (by omega))
                replace hvx := hid hvx
                replace hX0 := hid hX0
                replace hatX := hid hatX
                clear hput
                go_wp2_with (first
                  | (at_lookup; refine wpList_lookup_own_int _ rfl _ _ 107 rfl 3 3 .i64 mapLaw Tryd.underlying107 Tryd.underlying3 (zeroInt _) wo.heap.size _ _ rfl hown8 _ _ rfl hkey ?_; intro c' hat' hwc'; obtain rfl : c' = (vx : Int) := (by have e := hat'.symm.trans hatX.out; injection e with e; injection e))
                  | (at_mapUpdate; refine wpList_mapUpdate_own _ rfl _ _ _ 107 rfl 3 3 mapLaw Tryd.underlying107 _ wo.heap.size _ _ rfl hown8 (by unfold maxLen; omega) _ _ _ rfl rfl hkey _ [] (plainElem_int Tryd.underlying3 (wf64 (by omega) (by omega))) ?_; intro w9 hown9 hgrow9))
                have hrg9 := hrg8.kept hgrow9 (fun e => by injection e with e; omega) (fun e => by injection e with e; omega)
                have hk9 := hk8.grown hgrow9 (fun k hk hlt => by cases hk; rfl)
                have hb9 := hb8'.grown hgrow9 hb8'.size (fun k hk => by cases hk; exact hwr)
                clear hrg8 hown8 hk8 hb8' hgrow9
                go_roundw
                case rel => exact ⟨j + 1, _, by go_num, by omega, by rw [← hta.out]; first | rfl | (simp; done), hrg9, hown9.mono (by omega), hfn8.out, hk9, hb9⟩
                case measure => simp [intOf]; omega
            · obtain rfl : j = L.length := by omega
              rw [List.take_length] at hfn7 hqa hany ⊢
              have hnd2 : Hid ((ps ++ [S]).Nodup) := hid (by
                rw [List.nodup_append]
                exact ⟨hnd.out, by simp, fun a ha b hb e => by rw [List.mem_singleton.1 hb] at e; exact hnp.out (e ▸ ha)⟩)
              have hta : Hid (totW s L k + addAll s L k ps + q * anyL s L S = totW s L k + addAll s L k (ps ++ [S])) := hid (by rw [addAll_snoc, ← hq.out, Nat.add_assoc])
              have hfn8 := hid (hfn7.congr (v' := fun T => if T = 0 then 0 else addTo s L k (ps ++ [S]) T) fun T => by
                by_cases h0 : T = 0
                · rw [if_pos h0, if_pos h0]
                · rw [if_neg h0, if_neg h0, addTo_snoc, ← hq.out])
              have hlh2 : Hid (∀ kl, (left kl && !kl.sameKey (.int .i64 (S : Int))) = true → Maps.has D kl = true) := hid fun kl h => hlh.out kl (by rw [Bool.and_eq_true] at h; exact h.1)
              have hlp2 : Hid (∀ T : Nat, Maps.has D (.int .i64 (T : Int)) = true → (left (.int .i64 (T : Int)) && !(Lit.int .i64 (T : Int)).sameKey (.int .i64 (S : Int))) = decide (T ∉ ps ++ [S])) := hid fun T h => by
                rw [hlp.out T h, sameKey_int, Bool.eq_iff_iff]
                simp only [Bool.and_eq_true, Bool.not_eq_true', decide_eq_true_eq, decide_eq_false_iff_not, List.mem_append, List.mem_singleton, not_or]
                constructor
                · rintro ⟨h1, h2⟩; exact ⟨h1, fun e => h2 (by rw [e])⟩
                · rintro ⟨h1, h2⟩; exact ⟨h1, fun e => h2 (by omega)⟩
              have hps2 : Hid (∀ T ∈ ps ++ [S], 0 < cntW s L k T) := hid fun T h => by
                rcases List.mem_append.1 h with h | h
                · exact hpos.out T h
                · rw [List.mem_singleton.1 h, ← hq.out]; exact hvS.out
              have hsz := hk7.size
              clear hfn7 hk7
              go_wp2_with fail
              go_roundw
              case rel => exact ⟨ps ++ [S], D3, _, cnt5, by rw [← hta.out], hnd2.out, hps2.out, hrg7, hlh2.out, hlp2.out, hown7.mono (by simp only [List.length_append, List.length_singleton]; omega), hfn8.out, by omega, hb7⟩
              case measure => rw [hrg7.left_eq, hle0.out]; exact hlt5
    · obtain rfl : k = n := by omega
      replace hst := hid hst
      go_wp2_with fail
      go_ret
      exact ⟨by rw [hL.out]; rfl, hB2.out.trans (hbr.out.mono hB2.out.size)⟩

end Go.Proofs.YtimoekglamdddaaDoor
