/- Lemmas, part 10: several texts in one. -/
import Derived.Test.YtkoganldcmhopaaDoorL9
import Derived.Test.YtkoganldcmhopaaDoorL8
import Derived.Test.YtkoganldcmhopaaDoorL5
import Derived.Test.YtkoganldcmhopaaDoorL1
import Derived.Lib.ItoaNum
import Derived.Lib.ItoaWalk
import Derived.Lib.Strings
import Derived.WalkKit
import Derived.BigCall
import Derived.Test.YtkoganldcmhopaaDoorL3
import Derived.Maps.OwnSet
import Derived.Test.YtkoganldcmhopaaDoorL7
import Derived.Test.YtkoganldcmhopaaDoorL4
set_option linter.unusedSimpArgs false
set_option linter.unusedVariables false

/- The reference's l5Classes. -/
namespace Go.Proofs.YtkoganldcmhopaaDoor
open Go.RowKit Go.BigFrame Go.Maps AG

theorem cls0_len (a : Au) : (cls0 a).length = a.nx.length := by unfold cls0; simp
theorem cls0_take {a : Au} {i : Nat} (hi : i < a.nx.length) : (cls0 a).take (i + 1) = (cls0 a).take i ++ [if a.ac.getD i false = true then 1 else 0] := by
  rw [List.take_succ_eq_append_getElem (by rw [cls0_len]; exact hi)]
  congr 2
  show ((List.range a.nx.length).map fun q => if a.ac.getD q false = true then 1 else 0)[i]'(by simpa using hi) = _
  rw [List.getElem_map, List.getElem_range]

set_option maxRecDepth 100000 in
set_option maxHeartbeats 4000000 in
theorem l5Classes_any (a : Au) (A B : Option Addr) (c d : Nat) (w : World) (hok : auOk a = true) (ha : AuAt w A c B d a) :
    Calls Tryd.prog 155 #[a.val A c B d] w fun e w' => ∃ v, e = .returned (.tuple #[v, .int .i64 (clsC a : Nat)]) ∧ OwnNats w' w.heap.size v (clsA a) ∧ Below w.heap.size w w' := by
  obtain ⟨-, hn1, hn12, hn3, -⟩ := (auOk_iff a).1 hok
  obtain ⟨i0, hi0, hz0, hz1, hz2⟩ := info_parts infoInt
  obtain ⟨w0, hw0, hzz0, hB0, hS⟩ := boxed w #[Value.int IntKind.i64 a.al, Value.slice A a.nx.length c, Value.slice B a.ac.length d] 26
  have ha0 := hid (ha.later hB0)
  have hS1 := hid (fun w' (hb : Below w0.heap.size w0 w') => And.intro (hS 0 _ rfl w' (hb.mono hzz0)) (And.intro (hS 1 _ rfl w' (hb.mono hzz0)) (hS 2 _ rfl w' (hb.mono hzz0))))
  have hst0 := hid (OrdSt.new0 w0)
  have hok' := hid hok
  have hacl : a.ac.length ≤ 12 := by omega
  replace hn3 := hid hn3
  clear hok hS
  replace ha := hid ha
  unfold AG.Au.val
  go_enter Tryd.func155, Tryd.ntmps155
  go_wp2_with fail
  go_loopw [4, 5] (fun vO iv wr => ∃ (i : Nat) (o : List Nat) (AO : Option Addr) (cO : Nat), vO = .slice AO o.length cO ∧ iv = .int .i64 (i : Nat) ∧ i ≤ a.ac.length ∧ (cls0 a).take i = o ∧ OrdSt w0 wr (.slice AO o.length cO) o) (fun _ iv _ => a.ac.length - (intOf iv).toNat)
  case atStart => exact ⟨0, [], _, _, rfl, rfl, Nat.zero_le _, by simp, hst0.out⟩
  case round =>
    clear hst0 hw0
    obtain ⟨i, o, AO, cO, rfl, rfl, hiN, ho, hst⟩ := hrel
    have hol : o.length ≤ 12 := by rw [← ho, List.length_take]; omega
    have hBm := hst.below
    have hszm := hBm.size
    obtain ⟨p0, p1, p2⟩ := hS1.out wr hBm
    by_cases hlt : i < a.ac.length
    · obtain ⟨bB, oB, hBe, hbB, hEB⟩ := (ha0.out.acc.later hBm) (by omega)
      subst hBe
      have e0 := hEB i hlt
      have hnx := hid (cls0_take (a := a) (i := i) (by have := hn3.out; omega))
      rw [ho, List.getD_eq_getElem?_getD, List.getElem?_eq_getElem hlt] at hnx
      obtain ⟨t, ht⟩ : ∃ t, t = a.ac[i] := ⟨_, rfl⟩
      rw [← ht] at e0 hnx
      have k1 : (0 : Int) ≤ (i : Int) ∧ (i : Int) < (a.ac.length : Int) := by omega
      have hst6 := hid hst
      replace ho := hid ho
      replace hEB := hid hEB
      clear hst ht
      cases t
      · go_wp2_with (at_builtin; refine wpList_append_own_at _ rfl _ _ 52 rfl w0.heap.size 3 i0 (.int .i64 0) 1 8 Tryd.underlying52 hi0 hz0 hz1 hz2 rfl (by decide) _ _ _ rfl (hst6.out.own.alloc _) ⟨wr.heap.size, 0, none⟩ 1 1 [.int .i64 0] rfl rfl (cell_one_new _ _ _) (by intro u hu; simp at hu; subst hu; rfl) (by unfold maxLen; omega) (by omega) (by first | omega | (simp; omega)) ?_; intro v7 w7 hO7 hg7 _ hat7; obtain ⟨Av7, cv7, ev7, -, -⟩ := own_slice hO7; subst ev7; have hst7 := hid (hst6.out.app (x := 0) hg7 hO7); clear hO7 hg7 hat7)
        go_roundw
        case rel => exact ⟨i + 1, o ++ [0], _, _, by rw [List.length_append]; rfl, by go_num, by omega, hnx.out, by have := hst7.out; rw [List.length_append]; exact this⟩
        case measure => simp [intOf]; omega
      · go_wp2_with (at_builtin; refine wpList_append_own_at _ rfl _ _ 52 rfl w0.heap.size 3 i0 (.int .i64 0) 1 8 Tryd.underlying52 hi0 hz0 hz1 hz2 rfl (by decide) _ _ _ rfl (hst6.out.own.alloc _) ⟨wr.heap.size, 0, none⟩ 1 1 [.int .i64 1] rfl rfl (cell_one_new _ _ _) (by intro u hu; simp at hu; subst hu; rfl) (by unfold maxLen; omega) (by omega) (by first | omega | (simp; omega)) ?_; intro v7 w7 hO7 hg7 _ hat7; obtain ⟨Av7, cv7, ev7, -, -⟩ := own_slice hO7; subst ev7; have hst7 := hid (hst6.out.app (x := 1) hg7 hO7); clear hO7 hg7 hat7)
        go_roundw
        case rel => exact ⟨i + 1, o ++ [1], _, _, by rw [List.length_append]; rfl, by go_num, by omega, hnx.out, by have := hst7.out; rw [List.length_append]; exact this⟩
        case measure => simp [intOf]; omega
    · have hoe : Hid (o = clsI a 0) := hid (by
        rw [← ho, List.take_of_length_le (by have := hn3.out; rw [cls0_len]; omega)]
        rfl)
      have hoL : Hid (o.length = a.nx.length) := hid (by rw [hoe.out, clsI_len])
      obtain ⟨A7, c7, he7, hc7, hc7', hN7⟩ := OwnN.read hst.own
      cases he7
      have har := hid (ha0.out.later hBm)
      have href := hid (l5Refine_any a A B AO c d cO o wr hok'.out hoL.out hc7 hc7' hN7 har.out)
      rw [hoe.out] at href
      have hr0 : Hid (refA a (clsI a 0) = clsI a 1 ∧ refC a (clsI a 0) = cntI a 1) := hid ⟨rfl, rfl⟩
      rw [hr0.out.1, hr0.out.2, ← hoe.out] at href
      replace ho := hid ho
      replace hst := hid hst
      replace hN7 := hid hN7
      go_wp2_with fail
      refine href.out.mono ?_
      rintro e w1 ⟨v, rfl, hown1, hb1⟩
      have hB1 := hBm.trans (hb1.mono hBm.size)
      have hown1' := hid (own_base hown1 hszm)
      obtain ⟨A1, c1, rfl, -, -, -⟩ := OwnNats.read hown1
      have hl1 : Hid ((clsI a 1).length = a.nx.length) := hid (clsI_len a 1)
      rw [hl1.out] at hown1' ⊢
      have hpos1 := hid (cntI_one hok'.out)
      clear p0 p1 p2 hown1 href
      go_wp2_with fail
      obtain ⟨wo, rfl⟩ : ∃ wo : World, wo = wr := ⟨_, rfl⟩
      go_loopw [4, 7, 8] (fun vO nv mv wr => ∃ (m x y : Nat) (AO : Option Addr) (cO : Nat), vO = .slice AO a.nx.length cO ∧ nv = .int .i64 (x : Nat) ∧ mv = .int .i64 (y : Nat) ∧ x = cntI a m ∧ y = cntI a (m + 1) ∧ wr.ownsRow w0.heap.size 3 1 (.slice AO a.nx.length cO) a.nx.length (natVals (clsI a (m + 1))) ∧ Below w0.heap.size w0 wr) (fun _ nv _ _ => a.nx.length - (intOf nv).toNat)
      case atStart => exact ⟨0, 0, cntI a 1, _, _, rfl, rfl, rfl, rfl, rfl, hown1'.out, hB1⟩
      case round =>
        clear hown1'
        obtain ⟨m, x, y, AO, cO, rfl, rfl, rfl, hx, hy, hown, hb⟩ := hrel
        have hyl : y ≤ a.nx.length := by rw [hy]; exact cntI_le a _
        have hmono : x ≤ y := by rw [hx, hy]; exact cntI_mono a m
        have hln : Hid ((clsI a (m + 1)).length = a.nx.length) := hid (clsI_len a _)
        obtain ⟨p0, p1, p2⟩ := hS1.out wr hb
        by_cases hgt : x < y
        · have hg : ((x : Int) < (y : Int)) := by omega
          have hown' : OwnNats wr w0.heap.size (.slice AO a.nx.length cO) (clsI a (m + 1)) := by
            unfold OwnNats
            rw [hln.out]
            exact hown
          obtain ⟨A9, c9, he9, hc9, hc9', hN9⟩ := OwnNats.read hown'
          rw [hln.out] at he9
          cases he9
          have har2 := hid (ha0.out.later hb)
          have href := hid (l5Refine_any a A B AO c d cO (clsI a (m + 1)) wr hok'.out hln.out hc9 hc9' hN9 har2.out)
          have hr0 : Hid (refA a (clsI a (m + 1)) = clsI a (m + 2) ∧ refC a (clsI a (m + 1)) = cntI a (m + 2)) := hid ⟨rfl, rfl⟩
          rw [hr0.out.1, hr0.out.2, hln.out] at href
          replace hx := hid hx
          replace hy := hid hy
          replace hown := hid hown
          replace hown' := hid hown'
          replace hN9 := hid hN9
          go_wp2_with fail
          refine href.out.mono ?_
          rintro e w6 ⟨v, rfl, hown6, hb6⟩
          have hb06 := hid (hb.trans (hb6.mono hb.size))
          have hown6' := hid (own_base hown6 hb.size)
          obtain ⟨A6, c6, rfl, -, -, -⟩ := OwnNats.read hown6
          have hl6 : Hid ((clsI a (m + 2)).length = a.nx.length) := hid (clsI_len a _)
          rw [hl6.out] at hown6' ⊢
          obtain ⟨z, hz⟩ : ∃ z, Hid (z = cntI a (m + 2)) := ⟨_, hid rfl⟩
          rw [← hz.out]
          clear p0 p1 p2 hown6 href
          go_wp2_with fail
          go_roundw
          case rel => exact ⟨m + 1, y, z, _, _, rfl, rfl, rfl, hy.out, hz.out, hown6'.out, hb06.out⟩
          case measure => simp [intOf]; omega
        · have hg : ¬ ((x : Int) < (y : Int)) := by omega
          have hxy : x = y := by omega
          have hm : m ≠ 0 := by
            rintro rfl
            have h0 : cntI a 0 = 0 := rfl
            have := hpos1.out
            rw [h0] at hx
            rw [Nat.zero_add] at hy
            omega
          obtain ⟨m', rfl⟩ : ∃ m', m = m' + 1 := ⟨m - 1, by omega⟩
          have hstop := hid (cls_stop hok'.out (i := m') (by rw [show m' + 2 = m' + 1 + 1 from rfl, ← hy, ← hx]; omega))
          have hxe : Hid (x = clsC a) := hid (by rw [← hstop.out.2, hxy]; exact hy)
          have hown2 : Hid (OwnNats wr w.heap.size (.slice AO a.nx.length cO) (clsA a)) := hid (by
            rw [← hstop.out.1]
            unfold OwnNats
            rw [hln.out]
            exact own_base hown hB0.size)
          have hB := hB0.trans (hb.mono hB0.size)
          replace hx := hid hx
          replace hy := hid hy
          replace hown := hid hown
          replace hxy := hid hxy
          clear p0 p1 p2
          go_wp2_with fail
          go_ret2
          exact ⟨_, congrArg (fun n : Nat => Ending.returned (.tuple #[.slice AO a.nx.length cO, .int .i64 (n : Nat)])) hxe.out, hown2.out, hB⟩

end Go.Proofs.YtkoganldcmhopaaDoor

/- The reference's l5Minimal. -/
namespace Go.Proofs.YtkoganldcmhopaaDoor
open Go.RowKit Go.BigFrame Go.Maps AG

def MinsTo (a : Au) (w : World) (e : Ending) (w' : World) : Prop :=
  Below w.heap.size w w' ∧ ∃ v1 v2 xs, e = .returned (.agg #[.int .i64 a.al, v1, v2]) ∧ AuOwn w' w.heap.size v1 v2 (minA a) xs
/-- What is known of the classes of an automaton. -/
structure QuoP (x : Au) (nx : Nat → Nat → Nat) (L : List Nat) : Prop where
  len : (clsA x).length = x.nx.length
  rep : ∀ j, j < clsC x → j ∈ clsA x ∧ (clsA x).idxOf j = repA x j ∧ repA x j < x.nx.length
  row : ∀ j, j < clsC x → quotRow x j = (L.map fun l => cA x (nx (repA x j) l)).map fun (n : Nat) => (n : Int)
  cls : ∀ t (h : t < (clsA x).length), (clsA x)[t] = cA x t
  le : clsC x ≤ x.nx.length
theorem quoP {x : Au} (hok : auOk x = true) : QuoP x (goA x) (letters x.al) := by
  refine ⟨clsA_len x, fun j hj => ⟨numb_hits _ hj, rfl, (repA_lt hj).1⟩, fun j hj => ?_, fun t h => clsA_get x h, clsC_le x⟩
  have hq := (repA_lt hj).1
  obtain ⟨e1, e2, e3⟩ := row_at hok hq
  unfold quotRow
  rw [e1]
  refine List.ext_getElem (by simp [e2]) fun k h1 h2 => ?_
  rw [List.getElem_map, List.getElem_map, List.getElem_map]
  have hk : k < (letters x.al).length := by simpa using h2
  have hk' : k < (x.nx[repA x j]).length := by rw [e2]; exact hk
  rw [← goA_at hok hq hk hk']
  rfl

set_option maxRecDepth 100000 in
set_option maxHeartbeats 4000000 in
theorem l5Minimal_any (a : Au) (A B : Option Addr) (c d : Nat) (w : World) (hok : auOk a = true) (ha : AuAt w A c B d a) :
    Calls Tryd.prog 97 #[a.val A c B d] w (MinsTo a w) := by
  obtain ⟨tx, hx⟩ := trimOpt_some hok
  obtain ⟨i0, hi, hz0, hz1, hz2⟩ := info_parts infoInt
  obtain ⟨j0, hj0, hy0, hy1, hy2⟩ := info_parts infoInts
  obtain ⟨b0, hbi, hb0, hb1', hb2'⟩ := info_parts infoBool
  obtain ⟨w0, hw0, hzz0, hB0, hS, -⟩ := boxed2 w #[Value.int IntKind.i64 a.al, Value.slice A a.nx.length c, Value.slice B a.ac.length d] 26 #[Value.int IntKind.i64 0, Value.slice none 0 0, Value.slice none 0 0] 26
  have hres : Blk w0 (w.heap.size + 1) 26 #[Value.int IntKind.i64 0, Value.slice none 0 0, Value.slice none 0 0] := by
    rw [← hw0]
    have := Blk.new (w.alloc (.cells #[Value.int IntKind.i64 a.al, Value.slice A a.nx.length c, Value.slice B a.ac.length d] 26)) 26 #[Value.int IntKind.i64 0, Value.slice none 0 0, Value.slice none 0 0]
    simpa using this
  have ha0 := hid (ha.later hB0)
  have p0 := hS 0 _ rfl _ (Below.refl _ _)
  have p1 := hS 1 _ rfl _ (Below.refl _ _)
  have p2 := hS 2 _ rfl _ (Below.refl _ _)
  have htrim := hid (l5Trim_any a A B c d tx w0 hok hx ha0.out)
  have hxok := trimA_ok hok
  have hmin : Hid (minA a = quotA (trimA a)) := hid (quot_trim hok).symm
  have hxal := trimA_al hok
  obtain ⟨x, hx'⟩ : ∃ x, Hid (x = trimA a) := ⟨_, hid rfl⟩
  rw [← hx'.out] at hxok hmin hxal
  obtain ⟨-, hn1, hn12, hn3, -⟩ := (auOk_iff x).1 hxok
  obtain ⟨L, nx, hP, hQ⟩ : ∃ L nx, Hid (RowP x nx L) ∧ Hid (QuoP x nx L) := ⟨_, _, hid (rowP hxok), hid (quoP hxok)⟩
  have hxok' := hid hxok
  have hn3' := hid hn3
  have hxal' := hid hxal
  clear hok hx hxok hn3 hxal
  replace ha := hid ha
  replace hres := hid hres
  unfold AG.Au.val
  go_enter Tryd.func97, Tryd.ntmps97
  go_wp2_with fail
  refine htrim.out.mono ?_
  rintro e w1 ⟨hb1, v1, v2, xs0, rfl, hau1⟩
  rw [← hx'.out] at hau1
  obtain ⟨AX, cX, BX, dX, rfl, rfl, hat1⟩ := hau1.at_
  have hB1 := hB0.trans (hb1.mono hB0.size)
  have hz01 := hb1.size
  have hSa := hid (fun w' (hb : Below w1.heap.size w1 w') => hS 0 _ rfl w' ((hb1.trans (hb.mono hz01)).mono hzz0))
  clear p0 p1 p2 htrim hau1
  go_upto_region 2 with fail
  obtain ⟨w2, hw2, hz2', hB2', hU⟩ := boxed w1 #[.int .i64 a.al, .slice AX x.nx.length cX, .slice BX x.ac.length dX] 26
  rw [hw2]
  have hB2 := hB1.trans (hB2'.mono hB1.size)
  have hz12 := hB2'.size
  have hat2 := hid (hat1.later hB2')
  have hres2 := hid (hres.out.below (hb1.trans (hB2'.mono hz01)) hres.out.lt)
  have p0 := hU 0 _ rfl w2 (Below.refl _ _)
  have p1 := hU 1 _ rfl w2 (Below.refl _ _)
  have p2 := hU 2 _ rfl w2 (Below.refl _ _)
  have hcls := hid (l5Classes_any x AX BX cX dX w2 hxok'.out hat2.out)
  unfold AG.Au.val at hcls
  rw [hxal'.out] at hcls
  clear hat1 hw2 hw0
  go_wp2_with fail
  refine hcls.out.mono ?_
  rintro e w3 ⟨v, rfl, hown3, hb3⟩
  obtain ⟨AC, cC, rfl, hcC, hcC', hNC⟩ := OwnNats.read hown3
  have hB3 := hB2.trans (hb3.mono hB2.size)
  have hz23 := hb3.size
  have hU1 := hid (fun w' (hb : Below w3.heap.size w3 w') => And.intro (hU 1 _ rfl w' ((hb3.trans (hb.mono hz23)).mono hz2')) (hU 2 _ rfl w' ((hb3.trans (hb.mono hz23)).mono hz2')))
  have ha3 := hid (hat2.out.later hb3)
  have hres3 := hid (hres2.out.below hb3 hres2.out.lt)
  have q0 := hSa.out w3 (hB2'.trans (hb3.mono hz12))
  have hst0 := hid (L6.start w3 a.al)
  obtain ⟨m, hm⟩ : ∃ m, Hid (m = clsC x) := ⟨_, hid rfl⟩
  rw [← hm.out]
  have hmle : m ≤ x.nx.length := by rw [hm.out]; exact hQ.out.le
  have hlen : Hid ((clsA x).length = x.nx.length) := hid hQ.out.len
  have hNC' := hid hNC
  clear p0 p1 p2 hcls hown3 hNC hU
  have hz13 : w1.heap.size < w3.heap.size := by omega
  go_wp2_with fail
  go_loopw [7] (fun iv wr => ∃ (i : Nat) (vR vA : Value) (xs : List RowV), iv = .int .i64 (i : Nat) ∧ i ≤ m ∧ L6 w3 wr w3.heap.size a.al vR xs vA ((List.range i).map fun j => x.ac.getD (repA x j) false) (nilF :: famOf xs) ∧ xs.map (·.r) = (List.range i).map (quotRow x)) (fun iv _ => m - (intOf iv).toNat)
  case atStart => exact ⟨0, _, _, [], rfl, Nat.zero_le _, hst0.out, rfl⟩
  case round =>
    clear hst0 q0
    obtain ⟨i, vR, vA, xs, rfl, hiN, hst, hxs⟩ := hrel
    have hxl : xs.length = i := by
      have := congrArg List.length hxs
      rw [List.length_map, List.length_map, List.length_range] at this
      omega
    obtain ⟨AR, cR, rfl, -, -⟩ := own_slice hst.tab
    obtain ⟨AA, cA', rfl, -, -⟩ := own_slice hst.acc
    have hxl4 : xs.length ≤ 12 := by omega
    replace hxl := hid hxl
    replace hxs := hid hxs
    obtain ⟨acs, hacs⟩ : ∃ acs, Hid (acs = (List.range i).map fun j => x.ac.getD (repA x j) false) := ⟨_, hid rfl⟩
    rw [← hacs.out] at hst
    have hal2 : acs.length ≤ 12 := by rw [hacs.out, List.length_map, List.length_range]; omega
    by_cases hlt : i < m
    · have him : i < clsC x := by rw [← hm.out]; exact hlt
      obtain ⟨hmem, hidx, hrl0⟩ := hQ.out.rep i him
      obtain ⟨q, hq⟩ : ∃ q, Hid (q = repA x i) := ⟨_, hid rfl⟩
      rw [← hq.out] at hidx hrl0
      have hqn : q < x.nx.length := hrl0
      have hqa : q < x.ac.length := by have := hn3'.out; omega
      have hqc : q < (clsA x).length := by have := hlen.out; omega
      have hst' := hid hst
      have hB4 := hst.below
      have hz34 := hB4.size
      have hix := hid (l5Index_any (clsA x) i AC cC wr hmem hcC hcC' (hNC'.out.later hB4))
      rw [hidx] at hix
      replace hidx := hid hidx
      replace hmem := hid hmem
      clear hst him
      go_wp2_with fail
      refine hix.out.mono ?_
      rintro e w4 ⟨rfl, rfl⟩
      have hfr := hid hst'.out.fresh
      clear hix hB4
      go_wp2_with fail
      obtain ⟨wo, rfl⟩ : ∃ wo : World, wo = wr := ⟨_, rfl⟩
      go_loopw [9, 10] (fun vW kv wr => ∃ (k : Nat) (row : List Nat) (AW : Option Addr) (cW : Nat), vW = .slice AW row.length cW ∧ kv = .int .i64 (k : Nat) ∧ k ≤ L.length ∧ row = (L.take k).map (fun l => cA x (nx q l)) ∧ L6 w3 wr w3.heap.size a.al (.slice AR xs.length cR) xs (.slice AA acs.length cA') acs (nilF :: (.slice AW row.length cW, natVals row) :: famOf xs)) (fun _ kv _ => L.length - (intOf kv).toNat)
      case atStart => exact ⟨0, [], _, 0, rfl, rfl, Nat.zero_le _, by simp, hfr.out⟩
      case round =>
        clear hfr
        obtain ⟨k, row, AW, cW, rfl, rfl, hk, hrow, hst2⟩ := hrel
        have hrl : row.length = k := by rw [hrow, List.length_map, List.length_take]; omega
        have hsix := hP.out.six
        have hBm := hst2.below
        have hszm := hBm.size
        obtain ⟨bR, oR, r, Ai, ci, hRe, hbR, hr, hr0, h1, h2, h3⟩ := row_read ha3.out.rows hqn
        subst hRe
        have r0 := hr0.out wr hBm
        have hrlen : r.length = L.length := by rw [hr.out]; exact hP.out.row q hqn
        have hrk : Hid (∀ k (hk : k < L.length) (hk' : k < r.length), r[k] = ((nx q L[k] : Nat) : Int)) := hid (by
          have h := hP.out.at_ q hqn
          rw [← hr.out] at h
          exact h)
        obtain ⟨p1, p2⟩ := hU1.out wr hBm
        have hrl4 : row.length ≤ 6 := by omega
        have k1 : (0 : Int) ≤ (q : Int) ∧ (q : Int) < (x.nx.length : Int) := by omega
        by_cases hkl : k < L.length
        · obtain ⟨bi, oi, hie, hbi', hEi⟩ := (h3.out.later hBm) (by omega)
          subst hie
          have e0 := hEi k (by omega)
          rw [hrk.out k hkl (by omega)] at e0
          have hzn := hP.out.go q hqn L[k]
          obtain ⟨z, hz'⟩ : ∃ z, Hid (z = nx q L[k]) := ⟨_, hid rfl⟩
          rw [← hz'.out] at e0 hzn
          obtain ⟨bO, oO, hAe, hbO, hEO⟩ := hNC'.out (by omega)
          subst hAe
          have hzc : z < (clsA x).length := by have := hlen.out; omega
          have o0 := (hBm.cell (p := ⟨bO, oO + z, none⟩) (by simpa using hbO)).trans (hEO z hzc)
          rw [hQ.out.cls z hzc] at o0
          obtain ⟨t, ht⟩ : ∃ t, Hid (t = cA x z) := ⟨_, hid rfl⟩
          rw [← ht.out] at o0
          have hrow2 : Hid (row ++ [t] = (L.take (k + 1)).map (fun l => cA x (nx q l))) := hid (by
            rw [List.take_succ_eq_append_getElem hkl, List.map_append, ← hrow, ht.out, hz'.out]
            rfl)
          have k2 : (0 : Int) ≤ (k : Int) ∧ (k : Int) < (r.length : Int) ∧ (0 : Int) ≤ (z : Int) ∧ (z : Int) < ((clsA x).length : Int) := by omega
          have hoW := hid (hst2.own (v := .slice AW row.length cW) (row := row) (List.mem_cons_of_mem _ List.mem_cons_self))
          replace hst2 := hid hst2
          replace hrl := hid hrl
          replace hrow := hid hrow
          replace hEO := hid hEO
          replace hEi := hid hEi
          replace hBm := hid hBm
          go_wp2_with (at_builtin; refine wpList_append_own_at _ rfl _ _ 52 rfl w3.heap.size 3 i0 (.int .i64 0) 1 8 Tryd.underlying52 hi hz0 hz1 hz2 rfl (by decide) _ _ _ rfl (hoW.out.alloc _) ⟨wr.heap.size, 0, none⟩ 1 1 [.int .i64 (t : Nat)] rfl rfl (cell_one_new _ _ _) (by intro u hu; simp at hu; subst hu; rfl) (by unfold maxLen; omega) (by omega) (by first | omega | (simp; omega)) ?_; intro v8 w8 hO8 hg8 _ hat8; obtain ⟨Av8, cv8, ev8, -, -⟩ := own_slice hO8; subst ev8; replace hO8 := hid hO8; replace hg8 := hid hg8; replace hat8 := hid hat8)
          have hst8 := hid (hst2.out.app (l1 := [nilF]) (ys' := natVals (row ++ [t])) hg8.out (by rw [natVals_len, List.length_append]; have := hO8.out; unfold natVals at this ⊢; simpa using this) hat8.out)
          go_roundw
          case rel => exact ⟨k + 1, row ++ [t], _, _, by rw [List.length_append]; rfl, by go_num, by omega, hrow2.out, by have := hst8.out; rw [List.length_append]; exact this⟩
          case measure => simp [intOf]; omega
        · obtain rfl : k = L.length := by omega
          have hxs2 : Hid ((xs ++ [(⟨row.map fun (n : Nat) => (n : Int), AW, cW⟩ : RowV)]).map (·.r) = (List.range (i + 1)).map (quotRow x)) := hid (by
            have h1 := hrow
            rw [List.take_length] at h1
            rw [List.map_append, hxs.out, List.range_succ, List.map_append, List.map_singleton, List.map_singleton, hQ.out.row i (by rw [← hm.out]; exact hlt), ← hq.out, h1])
          obtain ⟨tb, htb⟩ : ∃ tb, Hid (tb = x.ac[q]) := ⟨_, hid rfl⟩
          have hacs2 : Hid (acs ++ [tb] = (List.range (i + 1)).map fun j => x.ac.getD (repA x j) false) := hid (by
            rw [hacs.out, List.range_succ, List.map_append, List.map_singleton, ← hq.out, htb.out, List.getD_eq_getElem?_getD, List.getElem?_eq_getElem hqa]
            rfl)
          obtain ⟨bB, oB, hBe, hbB, hEB⟩ := ha3.out.acc (by omega)
          subst hBe
          have hEB' := hid hEB
          replace hrl := hid hrl
          replace hrow := hid hrow
          replace hBm := hid hBm
          clear hEB p2
          have c1 := hst2.blk.cell 1
          simp only [List.getElem?_toArray, List.getElem?_cons_zero, List.getElem?_cons_succ] at c1
          have hoR := hid hst2.tab
          have hbk := hid hst2.blk
          have hgO := hst2.blk.lt
          have hszr := hst2.below.size
          have hst2' := hid hst2
          clear hst2
          go_wp2_with (at_builtin; refine wpList_append_own_at _ rfl _ _ 23 rfl w3.heap.size 52 j0 (.slice none 0 0) 1 24 Tryd.underlying23 hj0 hy0 hy1 hy2 rfl (by decide) _ _ _ rfl (hoR.out.alloc _) ⟨wr.heap.size, 0, none⟩ 1 1 [.slice AW row.length cW] rfl rfl (cell_one_new _ _ _) (by intro u hu; simp at hu; subst hu; rfl) (by unfold maxLen; omega) (by omega) (by first | omega | (simp; omega)) ?_; intro v5 w5 hO5 hg5 _ hat5; obtain ⟨Av5, cv5, ev5, -, -⟩ := own_slice hO5; subst ev5; have hbk5 : Blk w5 w3.heap.size 26 #[.int .i64 a.al, .slice AR xs.length cR, .slice AA acs.length cA'] := (hbk.out.alloc _).keep ((KeepB.refl (fun b => (Value.slice AR xs.length cR).ownBlock = some b) _).grown hg5 (fun k hk _ => hk)) (fun e => own_ne hoR.out hbk.out (by decide) _ e rfl); have d1 := hbk5.cell 1; have z1 := hbk5.frozen 1; simp only [List.getElem?_toArray, List.getElem?_cons_zero, List.getElem?_cons_succ] at d1; have hst5 := hid (hst2'.out.row hg5 (by have := hO5; simpa using this)); replace hbk5 := hid hbk5; clear hO5 hg5 hat5)
          obtain ⟨w6, hw6⟩ : ∃ w6, w5.setCell ⟨w3.heap.size, 1, none⟩ (.slice Av5 (xs.length + 1) cv5) = w6 := ⟨_, rfl⟩
          rw [hw6] at hst5 ⊢
          have hst6 := hst5.out
          have hB6 := hst6.below
          have hz6 := hB6.size
          have c2 := hst6.blk.cell 2
          simp only [List.getElem?_toArray, List.getElem?_cons_zero, List.getElem?_cons_succ] at c2
          have hgO6 := hst6.blk.lt
          have x0 : ∀ x', (Fam w6.heap.size w6 x').cell? ⟨w3.heap.size, 2, none⟩ = some (.slice AA acs.length cA') := fun x' => by rw [(Fam.below w6.heap.size w6 x').cell (by simpa using hgO6)]; exact c2
          obtain ⟨p1, p2⟩ := hU1.out w6 hB6
          have e1 := (hB6.cell (p := ⟨bB, oB + q, none⟩) (by simpa using hbB)).trans (hEB'.out q hqa)
          rw [← htb.out] at e1
          have hlw6 : w1.heap.size < w6.heap.size := by omega
          have hbB6 : bB < w6.heap.size := by omega
          have x1 : ∀ x', (Fam w6.heap.size w6 x').cell? ⟨w1.heap.size, 2, none⟩ = some (.slice (some ⟨bB, oB, none⟩) x.ac.length dX) := fun x' => by rw [(Fam.below w6.heap.size w6 x').cell (by simpa using hlw6)]; exact p2
          have x3 : ∀ x', (Fam w6.heap.size w6 x').cell? ⟨bB, oB + q, none⟩ = some (.bool tb) := fun x' => by rw [(Fam.below w6.heap.size w6 x').cell (by simpa using hbB6)]; exact e1
          have k3 : (0 : Int) ≤ (q : Int) ∧ (q : Int) < (x.ac.length : Int) := by omega
          clear p1 p2 e1
          have hst6' := hid hst6
          replace hB6 := hid hB6
          clear hw6 hst5 hst6 c1 c2 d1 z1
          refine wp_region_grow 8 w6.heap.size w6 (fun _ _ _ => True) (by kernel_rfl) (by kernel_rfl) (Nat.le_refl _) (Below.refl _ _) ?_
          simp only [List.take_succ_cons, List.take_zero, List.drop_succ_cons, List.drop_zero]
          (repeat (refine grow_quiet (by rfl) (by rfl) (by rfl) ?_; intro K hK; go_big_quiet_op; go_big_quiet_on))
          refine grow_new (by rfl) (fun b => .slice (some ⟨b, 0, none⟩) 1 1) 4 #[.bool tb] (fun _ => by go_simp) (fun _ => rfl) (Nat.le_refl _) fun g3 hg3 => ?_
          simp only [Act.put, List.setIfInBounds_toArray, List.set_cons_zero, List.set_cons_succ]
          refine grow_nil ?_
          intro w7 hb7 hf
          obtain ⟨g3', hge, -, hblk3⟩ := hf _ List.mem_cons_self
          cases hge
          have hnew3 := hid (Blk.news hblk3)
          clear hblk3 hf x0 x1 x3
          have hst7 := hst6'.out.later hb7
          have hoA := hid hst7.acc
          have hz7 := hst7.below.size
          have hbk7 := hid hst7.blk
          have hgO7 := hst7.blk.lt
          have hst7' := hid hst7
          clear hst7
          go_wp2_with (at_builtin; refine wpList_append_own_at _ rfl _ _ 24 rfl w3.heap.size 4 b0 (.bool false) 1 1 Tryd.underlying24 hbi hb0 hb1' hb2' rfl (by decide) _ _ _ rfl (hoA.out) ⟨g3, 0, none⟩ 1 1 [.bool tb] rfl rfl hnew3.out (by intro u hu; simp at hu; subst hu; rfl) (by unfold maxLen; omega) (by omega) (by first | omega | (simp; omega)) ?_; intro v8 w8 hO8 hg8 _ hat8; obtain ⟨Av8, cv8, ev8, -, -⟩ := own_slice hO8; subst ev8; have hbk8 : Blk w8 w3.heap.size 26 _ := hbk7.out.keep ((KeepB.refl (fun b => (Value.slice AA acs.length cA').ownBlock = some b) _).grown hg8 (fun k hk _ => hk)) (fun e => own_ne hoA.out hbk7.out (by decide) _ e rfl); have d2 := hbk8.cell 2; have z2 := hbk8.frozen 2; simp only [List.getElem?_toArray, List.getElem?_cons_zero, List.getElem?_cons_succ] at d2; have hst8 := hid (hst7'.out.put (t := tb) hg8 hO8); replace hbk8 := hid hbk8; clear hO8 hg8 hat8)
          go_roundw
          case rel =>
            have h8 := hst8.out
            rw [hacs2.out] at h8
            exact ⟨i + 1, _, _, _, by go_num, by omega, h8, hxs2.out⟩
          case measure => simp [intOf]; omega
    · obtain rfl : i = m := by omega
      have hro := hid (hst.fam.rowsOwn hst.tab)
      have hac := hst.acc
      have hBm := hst.below
      have hbk := hst.blk
      have d0 := hbk.cell 0
      have d1 := hbk.cell 1
      have d2 := hbk.cell 2
      have hresr := hres3.out.below hBm hres3.out.lt
      have q0 := hresr.cell 0
      have q1 := hresr.cell 1
      have q2 := hresr.cell 2
      have f0 := hresr.frozen 0
      have f1 := hresr.frozen 1
      have f2 := hresr.frozen 2
      simp only [List.getElem?_toArray, List.getElem?_cons_zero, List.getElem?_cons_succ] at q0 q1 q2 d0 d1 d2
      have hBr := hB3.trans (hBm.mono hB3.size)
      have hau : Hid (AuOwn wr w3.heap.size (.slice AR xs.length cR) (.slice AA acs.length cA') (minA a) xs) := hid (by
        have h1 := hacs.out
        have h2 := hxs.out
        rw [hm.out] at h1 h2
        rw [hmin.out]
        refine ⟨hro.out, h2, ?_⟩
        show wr.ownsRow w3.heap.size 4 1 _ ((List.range (clsC x)).map fun j => x.ac.getD (repA x j) false).length (boolVals ((List.range (clsC x)).map fun j => x.ac.getD (repA x j) false))
        rw [← h1]
        exact hac)
      have hlt2 : w.heap.size + 1 < w3.heap.size := by omega
      replace hst := hid hst
      replace hac := hid hac
      replace hbk := hid hbk
      replace hBm := hid hBm
      replace hresr := hid hresr
      obtain ⟨nA, hnA⟩ : ∃ nA, Hid (nA = acs.length) := ⟨_, hid rfl⟩
      rw [← hnA.out] at hau d2
      go_wp2
      refine bodyPost_ret (v := .agg #[.int .i64 a.al, .slice AR xs.length cR, .slice AA nA cA']) (by simp [results, Tryd.results97, go_sem, q0, q1, q2]) rfl ?_
      exact ⟨by (repeat (first | exact Below.refl _ _ | assumption | refine Below.drew ?_ | refine Below.alloc ?_ (by first | omega | (simp; done) | (simp; omega)) _ | refine Below.setCell ?_ (by first | omega | (simp; done) | (simp; omega)) _)), _, _, xs, rfl, (((hau.out.setFar hlt2 _).setFar hlt2 _).setFar hlt2 _).base (by omega)⟩

end Go.Proofs.YtkoganldcmhopaaDoor

/- The reference's MinimizeAutomaton and IsMinimal. -/
namespace Go.Proofs.YtkoganldcmhopaaDoor
open Go.RowKit Go.BigFrame Go.Maps AG

noncomputable def minX (a : Au) : Au := if auOk a = true then minA a else auNil
noncomputable def isMinB (a : Au) : Bool := auOk a && decide ((minA a).nx.length = a.nx.length)

set_option maxRecDepth 100000 in
set_option maxHeartbeats 4000000 in
theorem specMinimizeAutomaton_any (a : Au) (A B : Option Addr) (c d : Nat) (w : World) (ha : AuAt w A c B d a) :
    Calls Tryd.prog 40 #[a.val A c B d] w (PrPost w (minX a) (auOk a)) := by
  obtain ⟨w0, hw0, hz0, hB0, hS, -⟩ := boxed2 w #[Value.int IntKind.i64 a.al, Value.slice A a.nx.length c, Value.slice B a.ac.length d] 26 #[Value.int IntKind.i64 0, Value.slice none 0 0, Value.slice none 0 0] 26
  have hres : Blk w0 (w.heap.size + 1) 26 #[Value.int IntKind.i64 0, Value.slice none 0 0, Value.slice none 0 0] := by
    rw [← hw0]
    have := Blk.new (w.alloc (.cells #[Value.int IntKind.i64 a.al, Value.slice A a.nx.length c, Value.slice B a.ac.length d] 26)) 26 #[Value.int IntKind.i64 0, Value.slice none 0 0, Value.slice none 0 0]
    simpa using this
  have ha0 := hid (ha.later hB0)
  have p0 := hS 0 _ rfl _ (Below.refl _ _)
  have p1 := hS 1 _ rfl _ (Below.refl _ _)
  have p2 := hS 2 _ rfl _ (Below.refl _ _)
  obtain ⟨ok, hok⟩ : ∃ ok, Hid (ok = auOk a) := ⟨_, hid rfl⟩
  obtain ⟨b, hb⟩ : ∃ b, Hid (b = minX a) := ⟨_, hid rfl⟩
  replace ha := hid ha
  replace hres := hid hres
  rw [← hb.out, ← hok.out]
  unfold AG.Au.val
  go_enter Tryd.func40, Tryd.ntmps40
  go_wp2_with fail
  refine (specAutomatonValid_any a A B c d w0 ha0.out).mono ?_
  rintro e w1 ⟨rfl, hb1⟩
  rw [← hok.out]
  have hB1 := hB0.trans (hb1.mono hB0.size)
  have hz1 := hb1.size
  have hC1 := hb1.mono hz0
  clear p0 p1 p2 hw0
  cases hokc : ok
  case false =>
    have hbn : Hid (b = auNil) := hid (by rw [hb.out]; unfold minX; rw [← hok.out, hokc]; rfl)
    have hresr := hres.out.below hb1 hres.out.lt
    have q0 := hresr.cell 0
    have q1 := hresr.cell 1
    have q2 := hresr.cell 2
    have f0 := hresr.frozen 0
    have f1 := hresr.frozen 1
    have f2 := hresr.frozen 2
    simp only [List.getElem?_toArray, List.getElem?_cons_zero, List.getElem?_cons_succ] at q0 q1 q2
    subst hokc
    replace hresr := hid hresr
    go_wp2
    refine bodyPost_ret (v := .tuple #[.agg #[.int .i64 0, .slice none 0 0, .slice none 0 0], .bool false]) (by simp [results, Tryd.results40, go_sem, q0, q1, q2]) rfl ?_
    rw [hbn.out]
    exact ⟨by (repeat (first | exact Below.refl _ _ | assumption | refine Below.drew ?_ | refine Below.alloc ?_ (by first | omega | (simp; done) | (simp; omega)) _ | refine Below.setCell ?_ (by first | omega | (simp; done) | (simp; omega)) _)), _, _, _, rfl, AuOwn.nil _ _⟩
  case true =>
  have hoT := hok.out
  rw [hokc] at hoT
  have hbm : Hid (b = minA a) := hid (by rw [hb.out]; unfold minX; rw [← hoT]; rfl)
  have hbal : Hid (b.al = a.al) := hid (by rw [hbm.out]; exact minA_al hoT.symm)
  have hmin := hid (l5Minimal_any a A B c d w1 hoT.symm (ha0.out.later hb1))
  replace hoT := hid hoT
  subst hokc
  have p0 := hS 0 _ rfl _ hC1
  have p1 := hS 1 _ rfl _ hC1
  have p2 := hS 2 _ rfl _ hC1
  go_wp2_with fail
  refine hmin.out.mono ?_
  rintro e w2 ⟨hb2, v1, v2, xs, rfl, hau⟩
  rw [← hbm.out] at hau
  obtain ⟨A', c', B', d', rfl, rfl, -⟩ := hau.at_
  have hresr := hres.out.below (hb1.trans (hb2.mono hz1)) hres.out.lt
  have hB2 := hB1.trans (hb2.mono hB1.size)
  have hz2 := hb2.size
  have q0 := hresr.cell 0
  have q1 := hresr.cell 1
  have q2 := hresr.cell 2
  have f0 := hresr.frozen 0
  have f1 := hresr.frozen 1
  have f2 := hresr.frozen 2
  simp only [List.getElem?_toArray, List.getElem?_cons_zero, List.getElem?_cons_succ] at q0 q1 q2
  have hlt2 : w.heap.size + 1 < w1.heap.size := by omega
  replace hau := hid hau
  replace hresr := hid hresr
  clear p0 p1 p2 hS hmin
  go_wp2
  refine bodyPost_ret (v := .tuple #[.agg #[.int .i64 a.al, .slice A' b.nx.length c', .slice B' b.ac.length d'], .bool true]) (by simp [results, Tryd.results40, go_sem, q0, q1, q2]) rfl ?_
  exact ⟨by (repeat (first | exact Below.refl _ _ | assumption | refine Below.drew ?_ | refine Below.alloc ?_ (by first | omega | (simp; done) | (simp; omega)) _ | refine Below.setCell ?_ (by first | omega | (simp; done) | (simp; omega)) _)), _, _, xs, by rw [hbal.out], (((hau.out.setFar hlt2 _).setFar hlt2 _).setFar hlt2 _).base (by omega)⟩

set_option maxRecDepth 100000 in
set_option maxHeartbeats 4000000 in
theorem specIsMinimal_any (a : Au) (A B : Option Addr) (c d : Nat) (w : World) (ha : AuAt w A c B d a) :
    Calls Tryd.prog 45 #[a.val A c B d] w fun e w' => e = .returned (.bool (isMinB a)) ∧ Below w.heap.size w w' := by
  obtain ⟨w0, hw0, hz0, hB0, hS⟩ := boxed w #[Value.int IntKind.i64 a.al, Value.slice A a.nx.length c, Value.slice B a.ac.length d] 26
  have ha0 := hid (ha.later hB0)
  have hSall := hid (fun w' (hb : Below w0.heap.size w0 w') => (⟨hS 0 _ rfl w' (hb.mono hz0), hS 1 _ rfl w' (hb.mono hz0), hS 2 _ rfl w' (hb.mono hz0)⟩ : _ ∧ _ ∧ _))
  have y0 := fun x => (hSall.out _ (Fam.below w0.heap.size w0 x)).1
  have y1 := fun x => (hSall.out _ (Fam.below w0.heap.size w0 x)).2.1
  have y2 := fun x => (hSall.out _ (Fam.below w0.heap.size w0 x)).2.2
  obtain ⟨ok, hok⟩ : ∃ ok, Hid (ok = auOk a) := ⟨_, hid rfl⟩
  obtain ⟨D, hD⟩ : ∃ D, Hid (D = isMinB a) := ⟨_, hid rfl⟩
  obtain ⟨n, hn⟩ : ∃ n, Hid (n = (minA a).nx.length) := ⟨_, hid rfl⟩
  obtain ⟨tb, htb⟩ : ∃ tb, ((n : Int) == (a.nx.length : Int)) = tb := ⟨_, rfl⟩
  rw [← hD.out]
  have hDe : Hid (D = (ok && tb)) := hid (by
    rw [hD.out, hok.out, ← htb, hn.out]
    unfold isMinB
    congr 1
    rw [Bool.eq_iff_iff]
    simp only [decide_eq_true_eq, beq_iff_eq]
    omega)
  replace ha := hid ha
  unfold AG.Au.val
  clear hS
  go_enter Tryd.func45, Tryd.ntmps45
  go_wp2_with fail
  refine wp_region_grow 13 w0.heap.size w0 (fun i u _ => if i = 1 then u = .bool ok else ∃ (Am : Option Addr) (cm : Nat) (v2 : Value), u = .agg #[.int .i64 a.al, .slice Am n cm, v2]) (by kernel_rfl) (by kernel_rfl) (Nat.le_refl _) (Below.refl _ _) ?_
  simp only [List.take_succ_cons, List.take_zero, List.drop_succ_cons, List.drop_zero]
  (repeat (refine grow_quiet (by rfl) (by rfl) (by rfl) ?_; intro K hK; go_big_quiet_op; go_big_quiet_on))
  refine grow_val (.bool ok) (by rfl) (by rfl) rfl (fun wq hbq _ => ?_) ?_
  · go_simp
    refine ⟨rfl, (specAutomatonValid_any a A B c d wq (ha0.out.later hbq)).mono ?_⟩
    rintro e w9 ⟨rfl, hb9⟩
    exact ⟨by rw [hok.out], hb9⟩
  simp only [Act.put, List.setIfInBounds_toArray, List.set_cons_zero, List.set_cons_succ]
  cases hokc : ok
  case false =>
    have hDf : Hid (D = false) := hid (by rw [hDe.out, hokc]; rfl)
    (repeat (refine grow_quiet (by rfl) (by rfl) (by rfl) ?_; intro K hK; go_big_quiet_op; go_big_quiet_on))
    (repeat (first | (refine grow_skip (by rfl) (by rfl) ?_; simp only [Act.put, List.setIfInBounds_toArray, List.set_cons_zero, List.set_cons_succ]) | (refine grow_quiet (by rfl) (by rfl) (by rfl) ?_; intro K hK; go_big_quiet_op; go_big_quiet_on)))
    refine grow_nil ?_
    intro w5 hb5 hf
    clear hf y0 y1 y2
    go_wp2_with fail
    go_ret
    exact ⟨ret_bool (by rw [hDf.out]), hB0.trans (hb5.mono hB0.size)⟩
  case true =>
  have hDt : Hid (D = tb) := hid (by rw [hDe.out, hokc]; simp)
  have hoT := hid (hok.out.symm.trans hokc)
  (repeat (refine grow_quiet (by rfl) (by rfl) (by rfl) ?_; intro K hK; go_big_quiet_op; go_big_quiet_on))
  refine grow_call (by rfl) (by rfl) (fun u _ _ _ h => h) (fun wq hbq _ => ?_) fun u hu => ?_
  · go_simp
    refine ⟨rfl, (l5Minimal_any a A B c d wq hoT.out (ha0.out.later hbq)).mono ?_⟩
    rintro e w9 ⟨hb9, v1, v2, xs, rfl, hau⟩
    obtain ⟨A', c', B', d', rfl, rfl, -⟩ := hau.at_
    exact ⟨_, rfl, hb9, A', c', _, by rw [hn.out]⟩
  obtain ⟨-, -, hu⟩ := hu
  rw [if_neg (by decide)] at hu
  obtain ⟨Am, cm, v2, rfl⟩ := hu
  simp only [Act.put, List.setIfInBounds_toArray, List.set_cons_zero, List.set_cons_succ]
  have hfd : ∀ w : World, (Instr.field 26 (.agg #[.int .i64 a.al, .slice Am n cm, v2]) 1).run Tryd.prog w = .ok (.slice Am n cm) w := fun _ => by kernel_rfl
  (repeat (refine grow_quiet (by rfl) (by rfl) (by rfl) ?_; intro K hK; go_big_quiet_op; go_big_quiet_on))
  refine grow_nil ?_
  intro w5 hb5 hf
  clear hf y0 y1 y2
  go_wp2_with fail
  go_ret
  exact ⟨ret_bool (by rw [hDt.out]), hB0.trans (hb5.mono hB0.size)⟩

end Go.Proofs.YtkoganldcmhopaaDoor

/- The library's strconv.Itoa at small numbers. -/
namespace Go.Proofs.YtkoganldcmhopaaDoor
open Go.RowKit Go.BigFrame AG

theorem ba_of (x : ByteArray) (l : List UInt8) (h : x.data.toList = l) : x = baOf l := by
  subst h
  cases x
  simp [baOf]
theorem decL_dec {i : Nat} (h : i < 100) : Lib.decDigits i = decL i := by
  unfold decL
  by_cases h10 : i < 10
  · rw [if_pos h10, Lib.decDigits_one h10]
  · rw [if_neg h10, Lib.decDigits_two h10 h]

set_option maxHeartbeats 2000000 in
set_option maxRecDepth 100000 in
theorem small_any (i : Nat) (h : i < 100) (w : World) :
    Calls Tryd.prog 207 #[.int .i64 (i : Nat)] w fun e w' => e = .returned (.string (baOf (decL i))) ∧ w = w' := by
  have hd := hid (decL_dec h)
  go_enter Tryd.func207, Tryd.ntmps207
  go_name_bytes_deep 45 SM hSM
  have eSM : SM = Lib.smalls := by rw [← hSM]; decide +kernel
  subst eSM
  clear hSM
  go_name_bytes_deep 30 DG hDG
  have eDG : DG = Lib.digits36 := by rw [← hDG]; decide +kernel
  subst eDG
  clear hDG
  by_cases h10 : i < 10
  · have hsl : ∀ w, (Instr.slice 9 (.string Lib.digits36) (some (.int .i64 (i : Int))) (some (.int .i64 ((i : Int) + 1))) none).run Tryd.prog w = .ok (.string (Lib.digits36.extract i (i + 1))) w := fun w => by
      rw [run_slice_string w 9 Lib.digits36 .i64 .i64 _ _ Tryd.underlying9 (by omega) (by omega) (by rw [Lib.digits36_size]; omega), show ((i : Int)).toNat = i by omega, show ((i : Int) + 1).toNat = i + 1 by omega]
    go_wp2
    go_ret
    refine ⟨?_, by first | rfl | trivial⟩
    show Ending.returned (Value.string (Lib.digits36.extract i (i + 1))) = _
    rw [ba_of (Lib.digits36.extract i (i + 1)) (decL i) (by rw [Lib.extract_data, ← hd.out]; exact Lib.digits36_piece h10)]
  · have hsl : ∀ w, (Instr.slice 9 (.string Lib.smalls) (some (.int .i64 ((i : Int) * 2))) (some (.int .i64 ((i : Int) * 2 + 2))) none).run Tryd.prog w = .ok (.string (Lib.smalls.extract (i * 2) (i * 2 + 2))) w := fun w => by
      rw [run_slice_string w 9 Lib.smalls .i64 .i64 _ _ Tryd.underlying9 (by omega) (by omega) (by rw [Lib.smalls_size]; omega), show ((i : Int) * 2).toNat = i * 2 by omega, show ((i : Int) * 2 + 2).toNat = i * 2 + 2 by omega]
    go_wp2
    go_ret
    refine ⟨?_, by first | rfl | trivial⟩
    show Ending.returned (Value.string (Lib.smalls.extract (i * 2) (i * 2 + 2))) = _
    rw [ba_of (Lib.smalls.extract (i * 2) (i * 2 + 2)) (decL i) (by rw [Lib.extract_data, ← hd.out]; exact Lib.smalls_piece h10 h)]

set_option maxHeartbeats 2000000 in
set_option maxRecDepth 100000 in
theorem formatInt_any (i : Nat) (h : i < 100) (w : World) :
    Calls Tryd.prog 203 #[.int .i64 (i : Nat), .int .i64 10] w fun e w' => e = .returned (.string (baOf (decL i))) ∧ w = w' := by
  have k1 : (0 : Int) ≤ (i : Int) := by omega
  have k2 : (i : Int) < 100 := by omega
  go_enter Tryd.func203, Tryd.ntmps203
  go_wp2_with fail
  refine (small_any i h w).mono ?_
  rintro e w' ⟨rfl, rfl⟩
  go_wp2_with fail
  go_ret
  exact ⟨rfl, by first | rfl | trivial⟩
set_option maxHeartbeats 2000000 in
set_option maxRecDepth 100000 in
theorem itoaIn_any (i : Nat) (h : i < 100) (w : World) :
    Calls Tryd.prog 187 #[.int .i64 (i : Nat)] w fun e w' => e = .returned (.string (baOf (decL i))) ∧ w = w' := by
  go_enter Tryd.func187, Tryd.ntmps187
  go_wp2_with fail
  refine (formatInt_any i h w).mono ?_
  rintro e w' ⟨rfl, rfl⟩
  go_wp2_with fail
  go_ret
  exact ⟨rfl, by first | rfl | trivial⟩
set_option maxHeartbeats 2000000 in
set_option maxRecDepth 100000 in
theorem itoa_any (i : Nat) (h : i < 100) (w : World) :
    Calls Tryd.prog 157 #[.int .i64 (i : Nat)] w fun e w' => e = .returned (.string (baOf (decL i))) ∧ w = w' := by
  go_enter Tryd.func157, Tryd.ntmps157
  go_wp2_with fail
  refine (itoaIn_any i h w).mono ?_
  rintro e w' ⟨rfl, rfl⟩
  go_wp2_with fail
  go_ret
  exact ⟨rfl, by first | rfl | trivial⟩

end Go.Proofs.YtkoganldcmhopaaDoor

/- The program's classesOf. -/
namespace Go.Proofs.YtkoganldcmhopaaDoor
open Go.RowKit Go.BigFrame Go.Maps AG

theorem idxL_new {α : Type} [DecidableEq α] {l : List α} {x : α} (h : x ∉ l) : idxL (l ++ [x]) x = l.length := by
  unfold idxL
  rw [List.idxOf_append, if_neg h]
  simp
theorem idxL_old {α : Type} [DecidableEq α] {l m : List α} {x : α} (h : x ∈ l) : idxL (l ++ m) x = idxL l x := idx_pre h
theorem keyS_ne {x y : List UInt8} (h : x ≠ y) : Lit.string x ≠ Lit.string y := fun e => by
  injection e with e
  exact h e
/-- A map that has the numbers of the keys. -/
structure MapIxS (D : DataW Unit) (ks : List (List UInt8)) : Prop where
  isMap : Maps.IsMap D
  tidy : Maps.Tidy D
  has : ∀ x, Maps.has D (.string x) = decide (x ∈ ks)
  at_ : ∀ x ∈ ks, D.atKey (.string x) (.lit (.int .i64 0)) = .lit (.int .i64 ((idxL ks x : Nat) : Int))
  size : Maps.size D = ks.length
theorem MapIxS.empty : MapIxS (.map []) [] := ⟨Maps.isMap_empty, Maps.tidy_empty, fun T => by simp; rfl, fun T h => (by cases h), rfl⟩
theorem MapIxS.put {D : DataW Unit} {ks : List (List UInt8)} (h : MapIxS D ks) {k : List UInt8} (hk : k ∉ ks) : MapIxS (D.put (.string k) (.lit (.int .i64 ((ks.length : Nat) : Int)))) (ks ++ [k]) := by
  have hlit : WideAt.IsKeyLit (Lit.string k) := trivial
  refine ⟨h.isMap.put _ _, h.tidy.put hlit _, fun x => ?_, fun x hx => ?_, ?_⟩
  · by_cases e : x = k
    · subst e
      rw [Maps.has_put_same h.isMap hlit]
      simp
    · rw [Maps.has_put_other (keyS_ne e), h.has x]
      simp [e]
  · by_cases e : x = k
    · subst e
      rw [Maps.atKey_put_same h.isMap hlit, idxL_new hk]
    · have hx' : x ∈ ks := by
        rcases List.mem_append.1 hx with h | h
        · exact h
        · exact absurd (List.mem_singleton.1 h) e
      rw [Maps.atKey_put_other (keyS_ne e), h.at_ x hx', idxL_old hx']
  · rw [Maps.size_put h.tidy, h.has k, decide_eq_false hk, h.size]
    simp

/-- The keys as texts. -/
def keysT (a : Au) (c : List Nat) (q : Nat) : List (List UInt8) := ((keysA a c).take q).map keyL
theorem keysT_succ {a : Au} (c : List Nat) {q : Nat} (hq : q < a.nx.length) : keysT a c (q + 1) = keysT a c q ++ [keyL (sigA a c q)] := by
  unfold keysT
  rw [keys_take c hq, List.map_append]
  rfl
theorem keysT_len {a : Au} (c : List Nat) {q : Nat} (hq : q ≤ a.nx.length) : (keysT a c q).length = q := by
  unfold keysT
  rw [List.length_map, List.length_take, keysA_len]
  omega
theorem keysT_all {a : Au} {c : List Nat} (h : ∀ x ∈ c, x ≤ 12) : numb (keysT a c a.nx.length) = refA a c ∧ (dd (keysT a c a.nx.length)).length = refC a c := by
  unfold keysT
  rw [List.take_of_length_le (by rw [keysA_len]; exact Nat.le_refl _)]
  exact key_numb h
def nxtF (a : Au) (c : List Nat) (q p : Nat) : Nat := if p < q then (numb (keysT a c q)).getD p 0 else 0
theorem nxtF_old {a : Au} {c : List Nat} {q : Nat} (hq : q < a.nx.length) (p : Nat) (hp : p ≠ q) : nxtF a c (q + 1) p = nxtF a c q p := by
  unfold nxtF
  by_cases h : p < q
  · rw [if_pos h, if_pos (by omega), keysT_succ c hq, numb_snocL]
    rw [List.getD_eq_getElem?_getD, List.getD_eq_getElem?_getD, List.getElem?_append_left (by rw [numb_len, keysT_len c (by omega)]; exact h)]
  · rw [if_neg h, if_neg (by omega)]
theorem nxtF_new {a : Au} {c : List Nat} {q : Nat} (hq : q < a.nx.length) : nxtF a c (q + 1) q = if keyL (sigA a c q) ∈ keysT a c q then idxL (dd (keysT a c q)) (keyL (sigA a c q)) else (dd (keysT a c q)).length := by
  unfold nxtF
  rw [if_pos (by omega), keysT_succ c hq, numb_snocL]
  have hl : (numb (keysT a c q)).length = q := by rw [numb_len, keysT_len c (by omega)]
  rw [List.getD_eq_getElem?_getD, List.getElem?_append_right (by omega), hl]
  simp
theorem nxtF_all {a : Au} {c : List Nat} (h : ∀ x ∈ c, x ≤ 12) {p : Nat} (hp : p < a.nx.length) : nxtF a c a.nx.length p = (refA a c).getD p 0 := by
  unfold nxtF
  rw [if_pos hp, (keysT_all h).1]

theorem map_far {H : Type} {w : World} {P : Program} {k : TypeId} {R : Value → Option (DataW H × List MemPlace)} {b n : Nat} {D : DataW H} (h : w.ownsMap P k R b n D) (p : Addr) (v : Value) (hne : b ≠ p.block) : (w.setCell p v).ownsMap P k R b n D := by
  obtain ⟨es, clock, hb, F, hs, hD⟩ := h
  exact ⟨es, clock, (Below.heap_setCell _ _ _ _ hne).trans hb, F, hs, hD⟩

def ClsPost (a : Au) (w : World) (e : Ending) (w' : World) : Prop :=
  ∃ g, e = .returned (.slice (some ⟨g, 0, none⟩) a.nx.length a.nx.length) ∧ w.heap.size ≤ g ∧ NatsAt w' w'.heap.size (some ⟨g, 0, none⟩) (clsA a) ∧ Below w.heap.size w w'

theorem mapLawS : Keyed Tryd.prog 9 := string_keyed Tryd.underlying9

set_option maxRecDepth 100000 in
set_option maxHeartbeats 8000000 in
theorem classesOf_any (a : Au) (A B : Option Addr) (c d : Nat) (w : World) (hok : auOk a = true) (ha : AuAt w A c B d a) :
    Calls Tryd.prog 99 #[a.val A c B d] w (ClsPost a w) := by
  obtain ⟨-, hn1, hn12, hn3, -⟩ := (auOk_iff a).1 hok
  have hmm := @run_makeMap Tryd.prog
  obtain ⟨i0, hi, hz0', hz1, hz2⟩ := info_parts infoInt
  have hmk := fun W => run_make_rowN (P := Tryd.prog) 52 3 i0 _ Tryd.underlying52 hi hz0' .i64 .i64 a.nx.length a.nx.length (Nat.le_refl _) (by rw [hz2]; omega) (by omega) W
  rw [hz1] at hmk
  clear hz1 hz0' hz2 hi
  obtain ⟨w0, hw0, hz0, hB0, hS⟩ := boxed w #[Value.int IntKind.i64 a.al, Value.slice A a.nx.length c, Value.slice B a.ac.length d] 26
  have ha0 := hid (ha.later hB0)
  have p1 := hS 1 _ rfl _ (Below.refl _ _)
  have hSp := hid (fun w' (hb : Below w0.heap.size w0 w') => And.intro (hS 1 _ rfl w' (hb.mono hz0)) (hS 2 _ rfl w' (hb.mono hz0)))
  obtain ⟨L, nx, hP⟩ : ∃ L nx, Hid (RowP a nx L) := ⟨_, _, hid (rowP hok)⟩
  have hsix := hP.out.six
  have hok' := hid hok
  have hcn : a.nx.length * 1 = a.nx.length := Nat.mul_one _
  rw [hcn] at hmk
  have hzero : Hid (NumsIn (madeCells #[Value.int IntKind.i64 0] a.nx.length) a.nx.length (fun _ => 0)) := hid (by
    refine ⟨by rw [size_madeCells], fun p hp => ?_⟩
    have h1 := toList_madeCells_one (Value.int IntKind.i64 0) a.nx.length
    rw [← Array.getElem?_toList, h1, List.getElem?_replicate, if_pos hp]
    rfl)
  have hacl : a.ac.length = a.nx.length := hn3
  replace hacl := hid hacl
  clear hok hS hn3 hcn
  replace ha := hid ha
  unfold AG.Au.val
  go_enter Tryd.func99, Tryd.ntmps99
  go_upto_region 2 with fail
  obtain ⟨w2, hw2⟩ : ∃ w2, w0.alloc (.cells (madeCells #[Value.int IntKind.i64 0] a.nx.length) 3) = w2 := ⟨_, rfl⟩
  have hblk2 : Blk w2 w0.heap.size 3 (madeCells #[Value.int IntKind.i64 0] a.nx.length) := by rw [← hw2]; exact Blk.new _ _ _
  have hB2' : Below w0.heap.size w0 w2 := by rw [← hw2]; exact (Below.refl _ _).alloc (Nat.le_refl _) _
  rw [hw2]
  clear hw2 p1 hw0
  have hbl2 := hid hblk2
  have hz2 := hblk2.lt
  clear hblk2
  go_wp2_with fail
  go_loopw [21] (fun qv wr => ∃ (q : Nat) (ds : Array Value), qv = .int .i64 (q : Nat) ∧ q ≤ a.nx.length ∧ Blk wr w0.heap.size 3 ds ∧ NumsIn ds a.nx.length (fun p => if p < q then (cls0 a).getD p 0 else 0) ∧ KeepB (fun b => b = w0.heap.size) w2 wr) (fun qv _ => a.nx.length - (intOf qv).toNat)
  case atStart => exact ⟨0, _, rfl, Nat.zero_le _, hbl2.out, hzero.out.congr (fun p => by simp), KeepB.refl _ _⟩
  case round =>
    clear hbl2
    obtain ⟨q, ds, rfl, hq, hdk, hdi, hkp⟩ := hrel
    have hBm : Below w0.heap.size w0 wr := KeepB.below hB2' hkp hB2'.size fun b e => by omega
    have hzm := hBm.size
    by_cases hql : q < a.nx.length
    · obtain ⟨p1, p2⟩ := hSp.out wr hBm
      obtain ⟨bB, oB, hBe, hbB, hEB⟩ := (ha0.out.acc.later hBm) (by have := hacl.out; omega)
      subst hBe
      have hqa : q < a.ac.length := by have := hacl.out; omega
      have e0 := hEB q hqa
      have hc0 : Hid ((cls0 a).getD q 0 = if a.ac[q] = true then 1 else 0) := hid (by
        have h1 : (cls0 a)[q]? = some (if a.ac.getD q false = true then 1 else 0) := by
          show ((List.range a.nx.length).map fun q => if a.ac.getD q false = true then 1 else 0)[q]? = _
          simp [hql]
        rw [List.getD_eq_getElem?_getD, h1, List.getD_eq_getElem?_getD, List.getElem?_eq_getElem hqa]
        rfl)
      obtain ⟨t, ht⟩ : ∃ t, t = a.ac[q] := ⟨_, rfl⟩
      rw [← ht] at e0 hc0
      have k1 : (0 : Int) ≤ (q : Int) ∧ (q : Int) < (a.ac.length : Int) ∧ (q : Int) < (a.nx.length : Int) := by omega
      have hdk' := hid hdk
      have hdi' := hid hdi
      have hkp' := hid hkp
      replace hEB := hid hEB
      obtain ⟨v0, d0⟩ := hdk.some_ (i := q) (by rw [hdi.size]; exact hql)
      have z0 := hdk.frozen q
      clear ht hdk hdi hkp
      cases t
      · have hnx : Hid (NumsIn ds a.nx.length (fun p => if p < q + 1 then (cls0 a).getD p 0 else 0)) := hid (hdi'.out.congr fun p => by
          by_cases e : p = q
          · subst e
            rw [if_neg (by omega), if_pos (by omega), hc0.out]
            rfl
          · by_cases h : p < q
            · rw [if_pos h, if_pos (by omega)]
            · rw [if_neg h, if_neg (by omega)])
        clear d0 z0
        go_wp2_with fail
        go_roundw
        case rel => exact ⟨q + 1, ds, by go_num, by omega, hdk'.out, hnx.out, hkp'.out⟩
        case measure => simp [intOf]; omega
      · have hnx : Hid (NumsIn (ds.setIfInBounds q (.int .i64 1)) a.nx.length (fun p => if p < q + 1 then (cls0 a).getD p 0 else 0)) := hid (hdi'.out.set_ hql (by rw [if_pos (by omega), hc0.out]; rfl) fun p hp => by
          by_cases h : p < q
          · rw [if_pos h, if_pos (by omega)]
          · rw [if_neg h, if_neg (by omega)])
        have hbk2 := hid (hdk'.out.set_ q (.int .i64 1))
        have hkp2 := hid (hkp'.out.setCell ⟨w0.heap.size, q, none⟩ (.int .i64 1) fun _ => rfl)
        go_wp2_with fail
        go_roundw
        case rel => exact ⟨q + 1, _, by go_num, by omega, hbk2.out, hnx.out, hkp2.out⟩
        case measure => simp [intOf]; omega
    · obtain rfl : q = a.nx.length := by omega
      have hb3 := hBm
      have hC0 : Hid (∃ ds, Blk wr w0.heap.size 3 ds ∧ NumsIn ds a.nx.length (fun p => (clsI a 0).getD p 0)) := hid ⟨ds, hdk, hdi.size, fun p hp => by
        have h1 := hdi.at_ p hp
        rw [if_pos hp] at h1
        exact h1⟩
      replace hdk := hid hdk
      replace hdi := hid hdi
      replace hkp := hid hkp
      go_wp2_with fail
      obtain ⟨w3, rfl⟩ : ∃ w3 : World, w3 = wr := ⟨_, rfl⟩
      go_loopw [3, 5] (fun cv nv wr => ∃ (m g x : Nat) (cs : Array Value), cv = .slice (some ⟨g, 0, none⟩) a.nx.length a.nx.length ∧ nv = .int .i64 (x : Nat) ∧ x = cntI a m ∧ w0.heap.size ≤ g ∧ Blk wr g 3 cs ∧ NumsIn cs a.nx.length (fun p => (clsI a m).getD p 0) ∧ Below w0.heap.size w0 wr) (fun _ nv _ => a.nx.length - (intOf nv).toNat)
      case atStart =>
        obtain ⟨ds, h1, h2⟩ := hC0.out
        exact ⟨0, _, 0, ds, rfl, rfl, rfl, Nat.le_refl _, h1, h2, hb3⟩
      case round =>
        clear hC0
        obtain ⟨m, g, x, cs, rfl, rfl, hx, hg, hblk, hin, hb⟩ := hrel
        obtain ⟨wo, rfl⟩ : ∃ wo : World, wo = wr := ⟨_, rfl⟩
        obtain ⟨C, hC, hCle, hCnx, hCcnt⟩ : ∃ C, Hid (C = clsI a m) ∧ Hid (∀ y ∈ C, y ≤ 12) ∧ Hid (refA a C = clsI a (m + 1)) ∧ Hid (refC a C = cntI a (m + 1)) := ⟨_, hid rfl, hid (clsI_le hok'.out m), hid rfl, hid rfl⟩
        rw [← hC.out] at hin
        have hxn : x ≤ a.nx.length := by rw [hx]; exact cntI_le a m
        have hglt := hblk.lt
        have hzo := hb.size
        go_upto_region 11 with fail
        have hmade := World.ownsMap_made (H := Unit) wo Tryd.prog 9 (plainElem Tryd.prog 3)
        obtain ⟨w4, hw4⟩ : ∃ w4, wo.alloc (.map #[] 0) = w4 := ⟨_, rfl⟩
        have hB4 : Below wo.heap.size wo w4 := by rw [← hw4]; exact (Below.refl _ _).alloc (Nat.le_refl _) _
        have hz4 : w4.heap.size = wo.heap.size + 1 := by rw [← hw4]; simp
        rw [hw4] at hmade ⊢
        obtain ⟨w5, hw5⟩ : ∃ w5, w4.alloc (.cells (madeCells #[Value.int IntKind.i64 0] a.nx.length) 3) = w5 := ⟨_, rfl⟩
        have hmade5 := hmade.alloc (.cells (madeCells #[Value.int IntKind.i64 0] a.nx.length) 3)
        have hblk5 : Blk w5 w4.heap.size 3 (madeCells #[Value.int IntKind.i64 0] a.nx.length) := by rw [← hw5]; exact Blk.new _ _ _
        have hB45 : Below w4.heap.size w4 w5 := by rw [← hw5]; exact (Below.refl _ _).alloc (Nat.le_refl _) _
        have hB5 := hB4.trans (hB45.mono hB4.size)
        rw [hw5] at hmade5 ⊢
        rw [hz4] at hblk5
        have hz5 := hblk5.lt
        have hcls5 := hid (hblk.below hB5 hglt)
        have hbo5 := hb.trans (hB5.mono hzo)
        have hin' := hid hin
        obtain ⟨p1, p2⟩ := hSp.out w5 hbo5
        have hmade5' := hid hmade5
        have hbk5 := hid hblk5
        replace hblk := hid hblk
        replace hx := hid hx
        clear hw4 hw5 hmade hmade5 hblk5 hin hB45
        go_wp2_with fail
        go_loopw [40] (fun qv wr => ∃ (q : Nat) (D : DataW Unit) (ds : Array Value), qv = .int .i64 (q : Nat) ∧ q ≤ a.nx.length ∧ Blk wr (wo.heap.size + 1) 3 ds ∧ NumsIn ds a.nx.length (nxtF a C q) ∧ wr.ownsMap Tryd.prog 9 (plainElem Tryd.prog 3) wo.heap.size q D ∧ MapIxS D (dd (keysT a C q)) ∧ KeepB (fun b => b = wo.heap.size ∨ b = wo.heap.size + 1) w5 wr) (fun qv _ => a.nx.length - (intOf qv).toNat)
        case atStart => exact ⟨0, _, _, rfl, Nat.zero_le _, hbk5.out, hzero.out.congr (fun p => by simp [nxtF]), hmade5'.out, MapIxS.empty, KeepB.refl _ _⟩
        case round =>
          clear hbk5 hmade5' p1 p2
          obtain ⟨q, D, ds, rfl, hq, hdk, hdi, hmap, hix, hkp⟩ := hrel
          obtain ⟨wp, rfl⟩ : ∃ wp : World, wp = wr := ⟨_, rfl⟩
          have hBq : Below wo.heap.size wo wp := KeepB.below hB5 hkp hB5.size fun b e => by omega
          have hBp := hb.trans (hBq.mono hzo)
          have hzp := hBp.size
          have hzop := hBq.size
          have hcq := hid (hcls5.out.keep hkp (by omega))
          by_cases hql : q < a.nx.length
          · obtain ⟨bR, oR, r, Ai, ci, hRe, hbR, hr, hr0, h1, h2, h3⟩ := row_read ha0.out.rows hql
            subst hRe
            have r0 := hr0.out wp hBp
            have hrlen : r.length = L.length := by rw [hr.out]; exact hP.out.row q hql
            have hrk : Hid (∀ k (hk : k < L.length) (hk' : k < r.length), r[k] = ((nx q L[k] : Nat) : Int)) := hid (by
              have h := hP.out.at_ q hql
              rw [← hr.out] at h
              exact h)
            have hcell : Hid (∀ w', Below wp.heap.size wp w' → ∀ t, t < a.nx.length → w'.cell? ⟨g, t, none⟩ = some (.int .i64 (C.getD t 0 : Nat))) := hid fun w' hb' t ht => by
              rw [(hcq.out.below hb' hcq.out.lt).cell t]
              exact hin'.out.at_ t ht
            have c0 := hcell.out wp (Below.refl _ _) q hql
            obtain ⟨cq, hcq0⟩ : ∃ cq, Hid (cq = C.getD q 0) := ⟨_, hid rfl⟩
            rw [← hcq0.out] at c0
            have hcq12 : cq ≤ 12 := by rw [hcq0.out]; exact getD_le hCle.out q
            have hsig : Hid (sigA a C q = cq :: L.map fun l => C.getD (nx q l) 0) := hid (by rw [hP.out.sigF C q hql, hcq0.out])
            have k1 : (0 : Int) ≤ (q : Int) ∧ (q : Int) < (a.nx.length : Int) := by omega
            have hdk' := hid hdk
            have hdi' := hid hdi
            have hmap' := hid hmap
            have hix' := hid hix
            have hkp' := hid hkp
            have hko : Hid (baOf (keyL [cq]) = baOf (decL cq)) := hid (by simp [keyL, keyTl])
            clear hdk hdi hmap hix hkp
            go_wp2_with fail
            refine (itoa_any cq (by omega) wp).mono ?_
            rintro e w6 ⟨rfl, rfl⟩
            rw [← hko.out]
            go_wp2_with fail
            go_loopw [10, 52] (fun sv kv wr => ∃ (k : Nat) (ts : List Nat), sv = .string (baOf (keyL (cq :: ts))) ∧ kv = .int .i64 (k : Nat) ∧ k ≤ L.length ∧ ts = (L.take k).map (fun l => C.getD (nx q l) 0) ∧ Below wp.heap.size wp wr) (fun _ kv _ => L.length - (intOf kv).toNat)
            case atStart => exact ⟨0, [], rfl, rfl, Nat.zero_le _, by simp, Below.refl _ _⟩
            case round =>
              obtain ⟨k, ts, rfl, rfl, hk, hts, hbw⟩ := hrel
              have htl : ts.length = k := by rw [hts, List.length_map, List.length_take]; omega
              have hBw := hBp.trans (hbw.mono hzp)
              by_cases hkl : k < L.length
              · obtain ⟨bi, oi, hie, hbi, hEi⟩ := (h3.out.later hBw) (by omega)
                subst hie
                have e0 := hEi k (by omega)
                rw [hrk.out k hkl (by omega)] at e0
                have hzn := hP.out.go q hql L[k]
                obtain ⟨z, hz'⟩ : ∃ z, Hid (z = nx q L[k]) := ⟨_, hid rfl⟩
                rw [← hz'.out] at e0 hzn
                have e1 := hcell.out wr hbw z hzn
                obtain ⟨u, hu⟩ : ∃ u, Hid (u = C.getD z 0) := ⟨_, hid rfl⟩
                rw [← hu.out] at e1
                have hu12 : u ≤ 12 := by rw [hu.out]; exact getD_le hCle.out z
                have hts2 : Hid (ts ++ [u] = (L.take (k + 1)).map (fun l => C.getD (nx q l) 0)) := hid (by
                  rw [List.take_succ_eq_append_getElem hkl, List.map_append, ← hts, hu.out, hz'.out]
                  rfl)
                have hcat : Hid (baOf (keyL (cq :: ts)) ++ ((⟨#[44]⟩ : ByteArray) ++ baOf (decL u)) = baOf (keyL (cq :: (ts ++ [u])))) := hid (by
                  rw [keyL_snoc, show (⟨#[44]⟩ : ByteArray) = baOf [44] from rfl, baOf_append, baOf_append]
                  rfl)
                obtain ⟨S1, hS1⟩ : ∃ S, Hid (S = baOf (keyL (cq :: ts))) := ⟨_, hid rfl⟩
                obtain ⟨S2, hS2⟩ : ∃ S, Hid (S = baOf (decL u)) := ⟨_, hid rfl⟩
                have hs1 : S1.size ≤ 100 := by
                  rw [hS1.out, baOf_size]
                  have := keyL_len (cq :: ts)
                  rw [List.length_cons] at this
                  omega
                have hs2 : S2.size ≤ 100 := by
                  rw [hS2.out, baOf_size]
                  have := decL_len u
                  omega
                have hs3 : ((⟨#[44]⟩ : ByteArray) ++ S2).size ≤ 101 := by
                  rw [ByteArray.size_append]
                  show 1 + S2.size ≤ 101
                  omega
                rw [← hS1.out, ← hS2.out] at hcat
                rw [← hS1.out]
                have k2 : (0 : Int) ≤ (k : Int) ∧ (k : Int) < (r.length : Int) ∧ (0 : Int) ≤ (z : Int) ∧ (z : Int) < (a.nx.length : Int) := by omega
                have hit := hid (itoa_any u (by omega) wr)
                rw [← hS2.out] at hit
                replace hts := hid hts
                replace htl := hid htl
                replace hEi := hid hEi
                go_wp2_with fail
                refine hit.out.mono ?_
                rintro e w7 ⟨rfl, rfl⟩
                go_wp2_with fail
                go_roundw
                case rel => exact ⟨k + 1, ts ++ [u], by rw [hcat.out], by go_num, by omega, hts2.out, hbw⟩
                case measure => simp [intOf]; omega
              · obtain rfl : k = L.length := by omega
                have hkk0 : cq :: ts = sigA a C q := by
                  rw [hsig.out, hts, List.take_length]
                rw [hkk0]
                obtain ⟨kk, hkk⟩ : ∃ kk, Hid (kk = keyL (sigA a C q)) := ⟨_, hid rfl⟩
                obtain ⟨KS, hKS⟩ : ∃ S, Hid (S = baOf kk) := ⟨_, hid rfl⟩
                rw [← hkk.out, ← hKS.out]
                have hkl100 : kk.length ≤ 100 := by
                  rw [hkk.out, ← hkk0]
                  have := keyL_len (cq :: ts)
                  rw [List.length_cons] at this
                  omega
                have hkey : Hid (keyOf Tryd.prog 9 (.string KS) = some (.string kk)) := hid (by
                  rw [Go.WideMaps.keyOf_string_mk Tryd.underlying9 (by rw [hKS.out, baOf_size]; unfold maxLen; omega), hKS.out, baOf_list])
                have hmw := hid (hmap'.out.kept (grown_of_below hbw) (by simp))
                have hdw := hid (hdk'.out.below hbw hdk'.out.lt)
                have hkw := hid (hkp'.out.trans (.of_below hbw))
                have hsz : Hid (Maps.size D = (dd (keysT a C q)).length) := hid hix'.out.size
                obtain ⟨nn, hnn⟩ : ∃ nn, Hid (nn = (dd (keysT a C q)).length) := ⟨_, hid rfl⟩
                rw [← hnn.out] at hsz
                have hnnl : nn ≤ 12 := by
                  rw [hnn.out]
                  have h1 := dd_len (keysT a C q)
                  rw [keysT_len C hq] at h1
                  omega
                have hsuc := hid (keysT_succ C hql)
                have hold := hid (fun p (hp : p ≠ q) => nxtF_old (c := C) hql p hp)
                have hnew := hid (nxtF_new (c := C) hql)
                rw [← hkk.out] at hsuc hnew
                have hgN : wo.heap.size + 1 < wr.heap.size := by have := hbw.size; have := hdk'.out.lt; omega
                replace hts := hid hts
                replace htl := hid htl
                replace hkk0 := hid hkk0
                by_cases hmem : kk ∈ keysT a C q
                · have hhas : Hid (Maps.has D (.string kk) = true) := hid (by rw [hix'.out.has kk]; exact decide_eq_true ((dd_mem _ _).2 hmem))
                  obtain ⟨v, hv⟩ : ∃ v, Hid (v = idxL (dd (keysT a C q)) kk) := ⟨_, hid rfl⟩
                  have hvl : v < 13 := by
                    have h1 := idxL_lt ((dd_mem _ _).2 hmem)
                    rw [← hv.out, ← hnn.out] at h1
                    omega
                  have hat : Hid (D.atKey (.string kk) (.lit (.int .i64 0)) = .lit (.int .i64 ((v : Nat) : Int))) := hid (by rw [hix'.out.at_ kk ((dd_mem _ _).2 hmem), hv.out])
                  have hnx : Hid (NumsIn (ds.setIfInBounds q (.int .i64 (v : Nat))) a.nx.length (nxtF a C (q + 1))) := hid (hdi'.out.set_ hql (by rw [hnew.out, if_pos hmem, hv.out]) hold.out)
                  have hix2 : Hid (MapIxS D (dd (keysT a C (q + 1)))) := hid (by
                    rw [hsuc.out, dd_snoc, addD_old ((dd_mem _ _).2 hmem)]
                    exact hix'.out)
                  obtain ⟨v0, d0⟩ := hdw.out.some_ (i := q) (by rw [hdi'.out.size]; exact hql)
                  have z0 := hdw.out.frozen q
                  have hbk2 := hid (hdw.out.set_ q (.int .i64 (v : Nat)))
                  have hmp2 := hid ((map_far hmw.out ⟨wo.heap.size + 1, q, none⟩ (.int .i64 (v : Nat)) (by simp)).mono (Nat.le_succ q))
                  have hkp2 := hid (hkw.out.setCell ⟨wo.heap.size + 1, q, none⟩ (.int .i64 (v : Nat)) fun _ => .inr rfl)
                  replace hmem := hid hmem
                  go_wp2_with (at_lookup; refine wpList_lookup_own_ok_int _ rfl _ _ 132 rfl 9 3 .i64 mapLawS Tryd.underlying132 Tryd.underlying3 (zeroInt _) wo.heap.size q D rfl hmw.out _ _ rfl hkey.out ?_; intro c' hat' hwc'; obtain rfl : c' = (v : Int) := (by have e := hat'.symm.trans hat.out; injection e with e; injection e); rw [hhas.out])
                  go_roundw
                  case rel => exact ⟨q + 1, D, _, by go_num, by omega, hbk2.out, hnx.out, hmp2.out, hix2.out, hkp2.out⟩
                  case measure => simp [intOf]; omega
                · have hnd : kk ∉ dd (keysT a C q) := fun h => hmem ((dd_mem _ _).1 h)
                  have hhas : Hid (Maps.has D (.string kk) = false) := hid (by rw [hix'.out.has kk]; exact decide_eq_false hnd)
                  have hnx : Hid (NumsIn (ds.setIfInBounds q (.int .i64 (nn : Nat))) a.nx.length (nxtF a C (q + 1))) := hid (hdi'.out.set_ hql (by rw [hnew.out, if_neg hmem, hnn.out]) hold.out)
                  have hix2 : Hid (MapIxS (D.put (.string kk) (.lit (.int .i64 ((nn : Nat) : Int)))) (dd (keysT a C (q + 1)))) := hid (by
                    rw [hsuc.out, dd_snoc, addD_new hnd, hnn.out]
                    exact hix'.out.put hnd)
                  have hpl : plainElem (H := Unit) Tryd.prog 3 (.int .i64 (nn : Nat)) = some (.lit (.int .i64 ((nn : Nat) : Int)), []) := plainElem_int Tryd.underlying3 (wf64 (by omega) (by omega))
                  replace hmem := hid hmem
                  replace hnd := hid hnd
                  go_wp2_with (first
                    | (at_lookup; refine wpList_lookup_own_ok_int _ rfl _ _ 132 rfl 9 3 .i64 mapLawS Tryd.underlying132 Tryd.underlying3 (zeroInt _) wo.heap.size q D rfl hmw.out _ _ rfl hkey.out ?_; intro c' hat' hwc'; rw [hhas.out])
                    | (at_len; refine wpList_len_own _ rfl _ 132 rfl 9 3 Tryd.underlying132 _ wo.heap.size q D rfl hmw.out ?_; rw [hsz.out])
                    | (at_mapUpdate; refine wpList_mapUpdate_own _ rfl _ _ _ 132 rfl 9 3 mapLawS Tryd.underlying132 _ wo.heap.size q D rfl hmw.out (by unfold maxLen; omega) _ _ _ rfl rfl hkey.out _ [] hpl ?_; intro w9 hown9 hgrow9; have hk9 : KeepB (fun b => b = wo.heap.size) wr w9 := (KeepB.refl _ wr).grown hgrow9 (fun k hk _ => by injection hk with hk; exact hk.symm); have hb9 : Blk w9 (wo.heap.size + 1) 3 ds := hdw.out.keep hk9 (by omega); obtain ⟨v0, d0⟩ := hb9.some_ (i := q) (by rw [hdi'.out.size]; exact hql); have z0 := hb9.frozen q; have hbk2 := hid (hb9.set_ q (.int .i64 (nn : Nat))); have hmp2 := hid (map_far hown9 ⟨wo.heap.size + 1, q, none⟩ (.int .i64 (nn : Nat)) (by simp)); have hkp2 := hid ((hkw.out.trans (hk9.mono fun b h => .inl h)).setCell ⟨wo.heap.size + 1, q, none⟩ (.int .i64 (nn : Nat)) fun _ => .inr rfl); replace hb9 := hid hb9; clear hown9 hgrow9 hk9))
                  go_roundw
                  case rel => exact ⟨q + 1, _, _, by go_num, by omega, hbk2.out, hnx.out, hmp2.out, hix2.out, hkp2.out⟩
                  case measure => simp [intOf]; omega
          · obtain rfl : q = a.nx.length := by omega
            obtain ⟨y, hy⟩ : ∃ y, Hid (y = cntI a (m + 1)) := ⟨_, hid rfl⟩
            have hall := hid (keysT_all (a := a) hCle.out)
            have hsz : Hid (Maps.size D = y) := hid (by rw [hix.size, hall.out.2, hCcnt.out, hy.out])
            have hyl : y ≤ a.nx.length := by rw [hy.out]; exact cntI_le a _
            have hxy : x ≤ y := by rw [hx.out, hy.out]; exact cntI_mono a m
            have hnin : Hid (NumsIn ds a.nx.length (fun p => (clsI a (m + 1)).getD p 0)) := hid ⟨hdi.size, fun p hp => by
              rw [hdi.at_ p hp, nxtF_all hCle.out hp, hCnx.out]⟩
            have hmw := hid hmap
            have hdw := hid hdk
            have hB := hB0.trans (hBp.mono hB0.size)
            replace hkp := hid hkp
            clear hdk hdi hmap hix
            by_cases hxe : y = x
            · have hq1 : ((y : Int) == (x : Int)) = true := by simp; omega
              have hm : m ≠ 0 := by
                rintro rfl
                have h0 : cntI a 0 = 0 := rfl
                have h1 := cntI_one hok'.out
                have h2 := hx.out
                have h3 := hy.out
                rw [h0] at h2
                rw [Nat.zero_add] at h3
                omega
              obtain ⟨m', hm'⟩ : ∃ m', m = m' + 1 := ⟨m - 1, by omega⟩
              have hstop := hid (cls_stop hok'.out (i := m') (by
                have h2 := hx.out
                have h3 := hy.out
                rw [hm'] at h2 h3
                rw [show m' + 2 = m' + 1 + 1 from rfl, ← h3, ← h2]
                omega))
              have hfin : Hid (NatsAt wp wp.heap.size (some ⟨wo.heap.size + 1, 0, none⟩) (clsA a)) := hid (fun hl => ⟨wo.heap.size + 1, 0, rfl, hdw.out.lt, fun i hi => by
                have hil : i < a.nx.length := by rw [clsA_len] at hi; exact hi
                rw [Nat.zero_add, hdw.out.cell i, hnin.out.at_ i hil]
                rw [hm', show m' + 1 + 1 = m' + 2 from rfl, hstop.out.1, getD_at hi]⟩)
              replace hxe := hid hxe
              replace hm' := hid hm'
              go_wp2_with (at_len; refine wpList_len_own _ rfl _ 132 rfl 9 3 Tryd.underlying132 _ wo.heap.size a.nx.length D rfl hmw.out ?_; rw [hsz.out])
              go_ret
              exact ⟨_, rfl, by omega, hfin.out, hB⟩
            · have hq1 : ((y : Int) == (x : Int)) = false := by simp; omega
              go_wp2_with (at_len; refine wpList_len_own _ rfl _ 132 rfl 9 3 Tryd.underlying132 _ wo.heap.size a.nx.length D rfl hmw.out ?_; rw [hsz.out])
              go_roundw
              case rel => exact ⟨m + 1, wo.heap.size + 1, y, ds, rfl, rfl, hy.out, by omega, hdw.out, hnin.out, hBp⟩
              case measure => simp [intOf]; omega

end Go.Proofs.YtkoganldcmhopaaDoor

/- The program's minimize, MinimizeAutomaton, IsMinimal. -/
namespace Go.Proofs.YtkoganldcmhopaaDoor
open Go.RowKit Go.BigFrame Go.Maps AG

set_option maxRecDepth 100000 in
set_option maxHeartbeats 4000000 in
theorem minimize_any (a : Au) (A B : Option Addr) (c d : Nat) (w : World) (hok : auOk a = true) (ha : AuAt w A c B d a) :
    Calls Tryd.prog 95 #[a.val A c B d] w (MinsTo a w) := by
  obtain ⟨-, hn1, hn12, hn3, -⟩ := (auOk_iff a).1 hok
  obtain ⟨i0, hi, hz0, hz1, hz2⟩ := info_parts infoInt
  obtain ⟨j0, hj0, hy0, hy1, hy2⟩ := info_parts infoInts
  obtain ⟨b0, hbi, hb0, hb1', hb2'⟩ := info_parts infoBool
  obtain ⟨w0, hw0, hzz0, hB0, hS, -⟩ := boxed2 w #[Value.int IntKind.i64 a.al, Value.slice A a.nx.length c, Value.slice B a.ac.length d] 26 #[Value.int IntKind.i64 0, Value.slice none 0 0, Value.slice none 0 0] 26
  have hres : Blk w0 (w.heap.size + 1) 26 #[Value.int IntKind.i64 0, Value.slice none 0 0, Value.slice none 0 0] := by
    rw [← hw0]
    have := Blk.new (w.alloc (.cells #[Value.int IntKind.i64 a.al, Value.slice A a.nx.length c, Value.slice B a.ac.length d] 26)) 26 #[Value.int IntKind.i64 0, Value.slice none 0 0, Value.slice none 0 0]
    simpa using this
  have ha0 := hid (ha.later hB0)
  have p0 := hS 0 _ rfl _ (Below.refl _ _)
  have p1 := hS 1 _ rfl _ (Below.refl _ _)
  have p2 := hS 2 _ rfl _ (Below.refl _ _)
  have hcls := hid (classesOf_any a A B c d w0 hok ha0.out)
  obtain ⟨L, nx, hP, hQ⟩ : ∃ L nx, Hid (RowP a nx L) ∧ Hid (QuoP a nx L) := ⟨_, _, hid (rowP hok), hid (quoP hok)⟩
  have hqok := hid (quotA_ok hok)
  obtain ⟨tx, htx⟩ := trimOpt_some hqok.out
  replace htx := hid htx
  have hn3' := hid hn3
  have hclt : Hid (∀ t, t < a.nx.length → cA a t < clsC a) := hid fun t h => cA_lt h
  clear hok hn3
  replace ha := hid ha
  replace hres := hid hres
  unfold AG.Au.val
  unfold AG.Au.val at hcls
  go_enter Tryd.func95, Tryd.ntmps95
  go_wp2_with fail
  refine hcls.out.mono ?_
  rintro e w1 ⟨g, rfl, hg0, hNC, hb1⟩
  have hB1 := hB0.trans (hb1.mono hB0.size)
  have hz01 := hb1.size
  have hU1 := hid (fun w' (hb : Below w1.heap.size w1 w') => And.intro (hS 1 _ rfl w' ((hb1.trans (hb.mono hz01)).mono hzz0)) (hS 2 _ rfl w' ((hb1.trans (hb.mono hz01)).mono hzz0)))
  have q0 := hS 0 _ rfl w1 (hb1.mono hzz0)
  have ha1 := hid (ha0.out.later hb1)
  have hres1 := hid (hres.out.below hb1 hres.out.lt)
  have hst0 := hid (L6.start w1 a.al)
  obtain ⟨bO, oO, hAe, hgl, hEO⟩ := hNC (by rw [hQ.out.len]; omega)
  injection hAe with e1
  injection e1 with e1 e2
  subst e1
  subst e2
  have hcell : Hid (∀ w', Below w1.heap.size w1 w' → ∀ t, t < a.nx.length → w'.cell? ⟨g, t, none⟩ = some (.int .i64 (cA a t : Nat))) := hid fun w' hb t ht => by
    have h1 := hEO t (by rw [hQ.out.len]; exact ht)
    rw [Nat.zero_add, hQ.out.cls t (by rw [hQ.out.len]; exact ht)] at h1
    exact (hb.cell (p := ⟨g, t, none⟩) (by simpa using hgl)).trans h1
  clear p0 p1 p2 hcls hNC hEO hw0 hS
  go_wp2_with fail
  go_loopw [17] (fun qv wr => ∃ (q m : Nat) (vR vA : Value) (xs : List RowV), qv = .int .i64 (q : Nat) ∧ q ≤ a.nx.length ∧ m = clsTo a q ∧ m ≤ q ∧ L6 w1 wr w1.heap.size a.al vR xs vA ((List.range m).map fun j => a.ac.getD (repA a j) false) (nilF :: famOf xs) ∧ xs.map (·.r) = (List.range m).map (quotRow a)) (fun qv _ => a.nx.length - (intOf qv).toNat)
  case atStart => exact ⟨0, 0, _, _, [], rfl, Nat.zero_le _, (clsTo_zero a).symm, Nat.zero_le _, hst0.out, rfl⟩
  case round =>
    clear hst0 q0
    obtain ⟨q, m, vR, vA, xs, rfl, hq, hm, hmq, hst, hxs⟩ := hrel
    have hxl : xs.length = m := by
      have := congrArg List.length hxs
      rw [List.length_map, List.length_map, List.length_range] at this
      omega
    obtain ⟨AR, cR, rfl, -, -⟩ := own_slice hst.tab
    obtain ⟨AA, cA', rfl, -, -⟩ := own_slice hst.acc
    have hxl4 : xs.length ≤ 12 := by omega
    replace hxs := hid hxs
    obtain ⟨acs, hacs⟩ : ∃ acs, Hid (acs = (List.range m).map fun j => a.ac.getD (repA a j) false) := ⟨_, hid rfl⟩
    rw [← hacs.out] at hst
    have hal2 : acs.length ≤ 12 := by rw [hacs.out, List.length_map, List.length_range]; omega
    have hBm := hst.below
    have hszm := hBm.size
    by_cases hql : q < a.nx.length
    · have hstep := clsTo_step hql
      rw [← hm] at hstep
      have c0 := hcell.out wr hBm q hql
      obtain ⟨cq, hcq⟩ : ∃ cq, Hid (cq = cA a q) := ⟨_, hid rfl⟩
      rw [← hcq.out] at c0 hstep
      have d1 := hst.blk.cell 1
      simp only [List.getElem?_toArray, List.getElem?_cons_zero, List.getElem?_cons_succ] at d1
      have k1 : (0 : Int) ≤ (q : Int) ∧ (q : Int) < (a.nx.length : Int) := by omega
      have hm' := hid hm
      rcases hstep with ⟨hlt, hto⟩ | ⟨heq, hto, hrep⟩
      · have hl1 : ((cq : Int) < (xs.length : Int)) := by omega
        have hst' := hid hst
        replace hto := hid hto
        replace hm := hid hm
        replace hxl := hid hxl
        clear hst
        go_wp2_with fail
        go_roundw
        case rel => exact ⟨q + 1, m, _, _, xs, by go_num, by omega, by rw [hto.out], by omega, by have := hst'.out; rw [hacs.out] at this; exact this, hxs.out⟩
        case measure => simp [intOf]; omega
      · have hl1 : ¬ ((cq : Int) < (xs.length : Int)) := by omega
        have hqa : q < a.ac.length := by have := hn3'.out; omega
        have hmc : m < clsC a := by rw [← heq, hcq.out]; exact hclt.out q hql
        have hfr := hid (hst.fs_ fun h => h.nil_)
        obtain ⟨p1, p2⟩ := hU1.out wr hBm
        obtain ⟨bR, oR, r, Ai, ci, hRe, hbR, hr, hr0, h1, h2, h3⟩ := row_read ha1.out.rows hql
        subst hRe
        have r0 := hr0.out wr hBm
        have hrlen : r.length = L.length := by rw [hr.out]; exact hP.out.row q hql
        have hsix := hP.out.six
        have hrk : Hid (∀ k (hk : k < L.length) (hk' : k < r.length), r[k] = ((nx q L[k] : Nat) : Int)) := hid (by
          have h := hP.out.at_ q hql
          rw [← hr.out] at h
          exact h)
        have hQr := hid (hQ.out.row m hmc)
        rw [hrep] at hQr
        replace hst := hid hst
        replace hto := hid hto
        replace hm := hid hm
        replace heq := hid heq
        replace hrep := hid hrep
        replace hxl := hid hxl
        replace hBm := hid hBm
        go_wp2_with fail
        obtain ⟨wo, rfl⟩ : ∃ wo : World, wo = wr := ⟨_, rfl⟩
        go_loopw [7, 33] (fun vW kv wr => ∃ (k : Nat) (row : List Nat) (AW : Option Addr) (cW : Nat), vW = .slice AW row.length cW ∧ kv = .int .i64 (k : Nat) ∧ k ≤ L.length ∧ row = (L.take k).map (fun l => cA a (nx q l)) ∧ L6 w1 wr w1.heap.size a.al (.slice AR xs.length cR) xs (.slice AA acs.length cA') acs (nilF :: (.slice AW row.length cW, natVals row) :: famOf xs)) (fun _ kv _ => L.length - (intOf kv).toNat)
        case atStart => exact ⟨0, [], _, 0, rfl, rfl, Nat.zero_le _, by simp, hfr.out⟩
        case round =>
          clear hfr c0 d1 p1 p2 r0
          obtain ⟨k, row, AW, cW, rfl, rfl, hk, hrow, hst2⟩ := hrel
          have hrl : row.length = k := by rw [hrow, List.length_map, List.length_take]; omega
          have hBm := hst2.below
          have hszm := hBm.size
          have hrl4 : row.length ≤ 6 := by omega
          by_cases hkl : k < L.length
          · obtain ⟨bi, oi, hie, hbi', hEi⟩ := (h3.out.later hBm) (by omega)
            subst hie
            have e0 := hEi k (by omega)
            rw [hrk.out k hkl (by omega)] at e0
            have hzn := hP.out.go q hql L[k]
            obtain ⟨z, hz'⟩ : ∃ z, Hid (z = nx q L[k]) := ⟨_, hid rfl⟩
            rw [← hz'.out] at e0 hzn
            have o0 := hcell.out wr hBm z hzn
            obtain ⟨t, ht⟩ : ∃ t, Hid (t = cA a z) := ⟨_, hid rfl⟩
            rw [← ht.out] at o0
            have hrow2 : Hid (row ++ [t] = (L.take (k + 1)).map (fun l => cA a (nx q l))) := hid (by
              rw [List.take_succ_eq_append_getElem hkl, List.map_append, ← hrow, ht.out, hz'.out]
              rfl)
            have k2 : (0 : Int) ≤ (k : Int) ∧ (k : Int) < (r.length : Int) ∧ (0 : Int) ≤ (z : Int) ∧ (z : Int) < (a.nx.length : Int) := by omega
            have hoW := hid (hst2.own (v := .slice AW row.length cW) (row := row) (List.mem_cons_of_mem _ List.mem_cons_self))
            replace hst2 := hid hst2
            replace hrl := hid hrl
            replace hrow := hid hrow
            replace hEi := hid hEi
            replace hBm := hid hBm
            go_wp2_with (at_builtin; refine wpList_append_own_at _ rfl _ _ 52 rfl w1.heap.size 3 i0 (.int .i64 0) 1 8 Tryd.underlying52 hi hz0 hz1 hz2 rfl (by decide) _ _ _ rfl (hoW.out.alloc _) ⟨wr.heap.size, 0, none⟩ 1 1 [.int .i64 (t : Nat)] rfl rfl (cell_one_new _ _ _) (by intro u hu; simp at hu; subst hu; rfl) (by unfold maxLen; omega) (by omega) (by first | omega | (simp; omega)) ?_; intro v8 w8 hO8 hg8 _ hat8; obtain ⟨Av8, cv8, ev8, -, -⟩ := own_slice hO8; subst ev8; replace hO8 := hid hO8; replace hg8 := hid hg8; replace hat8 := hid hat8)
            have hst8 := hid (hst2.out.app (l1 := [nilF]) (ys' := natVals (row ++ [t])) hg8.out (by rw [natVals_len, List.length_append]; have := hO8.out; unfold natVals at this ⊢; simpa using this) hat8.out)
            go_roundw
            case rel => exact ⟨k + 1, row ++ [t], _, _, by rw [List.length_append]; rfl, by go_num, by omega, hrow2.out, by have := hst8.out; rw [List.length_append]; exact this⟩
            case measure => simp [intOf]; omega
          · obtain rfl : k = L.length := by omega
            have hxs2 : Hid ((xs ++ [(⟨row.map fun (n : Nat) => (n : Int), AW, cW⟩ : RowV)]).map (·.r) = (List.range (m + 1)).map (quotRow a)) := hid (by
              have h1 := hrow
              rw [List.take_length] at h1
              rw [List.map_append, hxs.out, List.range_succ, List.map_append, List.map_singleton, List.map_singleton, hQr.out, h1])
            obtain ⟨tb, htb⟩ : ∃ tb, Hid (tb = a.ac[q]) := ⟨_, hid rfl⟩
            have hacs2 : Hid (acs ++ [tb] = (List.range (m + 1)).map fun j => a.ac.getD (repA a j) false) := hid (by
              rw [hacs.out, List.range_succ, List.map_append, List.map_singleton, hrep.out, htb.out, List.getD_eq_getElem?_getD, List.getElem?_eq_getElem hqa]
              rfl)
            obtain ⟨bB, oB, hBe, hbB, hEB⟩ := ha1.out.acc (by omega)
            subst hBe
            have hEB' := hid hEB
            replace hrl := hid hrl
            replace hrow := hid hrow
            replace hBm := hid hBm
            clear hEB
            have c1 := hst2.blk.cell 1
            simp only [List.getElem?_toArray, List.getElem?_cons_zero, List.getElem?_cons_succ] at c1
            have hoR := hid hst2.tab
            have hbk := hid hst2.blk
            have hgO := hst2.blk.lt
            have hszr := hst2.below.size
            have hst2' := hid hst2
            clear hst2
            go_wp2_with (at_builtin; refine wpList_append_own_at _ rfl _ _ 23 rfl w1.heap.size 52 j0 (.slice none 0 0) 1 24 Tryd.underlying23 hj0 hy0 hy1 hy2 rfl (by decide) _ _ _ rfl (hoR.out.alloc _) ⟨wr.heap.size, 0, none⟩ 1 1 [.slice AW row.length cW] rfl rfl (cell_one_new _ _ _) (by intro u hu; simp at hu; subst hu; rfl) (by unfold maxLen; omega) (by omega) (by first | omega | (simp; omega)) ?_; intro v5 w5 hO5 hg5 _ hat5; obtain ⟨Av5, cv5, ev5, -, -⟩ := own_slice hO5; subst ev5; have hbk5 : Blk w5 w1.heap.size 26 #[.int .i64 a.al, .slice AR xs.length cR, .slice AA acs.length cA'] := (hbk.out.alloc _).keep ((KeepB.refl (fun b => (Value.slice AR xs.length cR).ownBlock = some b) _).grown hg5 (fun k hk _ => hk)) (fun e => own_ne hoR.out hbk.out (by decide) _ e rfl); have d1 := hbk5.cell 1; have z1 := hbk5.frozen 1; simp only [List.getElem?_toArray, List.getElem?_cons_zero, List.getElem?_cons_succ] at d1; have hst5 := hid (hst2'.out.row hg5 (by have := hO5; simpa using this)); replace hbk5 := hid hbk5; clear hO5 hg5 hat5)
            obtain ⟨w6, hw6⟩ : ∃ w6, w5.setCell ⟨w1.heap.size, 1, none⟩ (.slice Av5 (xs.length + 1) cv5) = w6 := ⟨_, rfl⟩
            rw [hw6] at hst5 ⊢
            have hst6 := hst5.out
            have hB6 := hst6.below
            have hz6 := hB6.size
            have c2 := hst6.blk.cell 2
            simp only [List.getElem?_toArray, List.getElem?_cons_zero, List.getElem?_cons_succ] at c2
            have hgO6 := hst6.blk.lt
            have x0 : ∀ x', (Fam w6.heap.size w6 x').cell? ⟨w1.heap.size, 2, none⟩ = some (.slice AA acs.length cA') := fun x' => by rw [(Fam.below w6.heap.size w6 x').cell (by simpa using hgO6)]; exact c2
            obtain ⟨p1, p2⟩ := hU1.out w6 hB6
            have e1 := (hB6.cell (p := ⟨bB, oB + q, none⟩) (by simpa using hbB)).trans (hEB'.out q hqa)
            rw [← htb.out] at e1
            have hlw6 : w.heap.size < w6.heap.size := by omega
            have hbB6 : bB < w6.heap.size := by omega
            have x1 : ∀ x', (Fam w6.heap.size w6 x').cell? ⟨w.heap.size, 2, none⟩ = some (.slice (some ⟨bB, oB, none⟩) a.ac.length d) := fun x' => by rw [(Fam.below w6.heap.size w6 x').cell (by simpa using hlw6)]; exact p2
            have x3 : ∀ x', (Fam w6.heap.size w6 x').cell? ⟨bB, oB + q, none⟩ = some (.bool tb) := fun x' => by rw [(Fam.below w6.heap.size w6 x').cell (by simpa using hbB6)]; exact e1
            have k3 : (0 : Int) ≤ (q : Int) ∧ (q : Int) < (a.ac.length : Int) := by omega
            clear p1 p2 e1
            have hst6' := hid hst6
            replace hB6 := hid hB6
            clear hw6 hst5 hst6 c1 c2 d1 z1
            refine wp_region_grow 8 w6.heap.size w6 (fun _ _ _ => True) (by kernel_rfl) (by kernel_rfl) (Nat.le_refl _) (Below.refl _ _) ?_
            simp only [List.take_succ_cons, List.take_zero, List.drop_succ_cons, List.drop_zero]
            (repeat (refine grow_quiet (by rfl) (by rfl) (by rfl) ?_; intro K hK; go_big_quiet_op; go_big_quiet_on))
            refine grow_new (by rfl) (fun b => .slice (some ⟨b, 0, none⟩) 1 1) 4 #[.bool tb] (fun _ => by go_simp) (fun _ => rfl) (Nat.le_refl _) fun g3 hg3 => ?_
            simp only [Act.put, List.setIfInBounds_toArray, List.set_cons_zero, List.set_cons_succ]
            refine grow_nil ?_
            intro w7 hb7 hf
            obtain ⟨g3', hge, -, hblk3⟩ := hf _ List.mem_cons_self
            cases hge
            have hnew3 := hid (Blk.news hblk3)
            clear hblk3 hf x0 x1 x3
            have hst7 := hst6'.out.later hb7
            have hoA := hid hst7.acc
            have hz7 := hst7.below.size
            have hbk7 := hid hst7.blk
            have hgO7 := hst7.blk.lt
            have hst7' := hid hst7
            clear hst7
            go_wp2_with (at_builtin; refine wpList_append_own_at _ rfl _ _ 24 rfl w1.heap.size 4 b0 (.bool false) 1 1 Tryd.underlying24 hbi hb0 hb1' hb2' rfl (by decide) _ _ _ rfl (hoA.out) ⟨g3, 0, none⟩ 1 1 [.bool tb] rfl rfl hnew3.out (by intro u hu; simp at hu; subst hu; rfl) (by unfold maxLen; omega) (by omega) (by first | omega | (simp; omega)) ?_; intro v8 w8 hO8 hg8 _ hat8; obtain ⟨Av8, cv8, ev8, -, -⟩ := own_slice hO8; subst ev8; have hbk8 : Blk w8 w1.heap.size 26 _ := hbk7.out.keep ((KeepB.refl (fun b => (Value.slice AA acs.length cA').ownBlock = some b) _).grown hg8 (fun k hk _ => hk)) (fun e => own_ne hoA.out hbk7.out (by decide) _ e rfl); have d2 := hbk8.cell 2; have z2 := hbk8.frozen 2; simp only [List.getElem?_toArray, List.getElem?_cons_zero, List.getElem?_cons_succ] at d2; have hst8 := hid (hst7'.out.put (t := tb) hg8 hO8); replace hbk8 := hid hbk8; clear hO8 hg8 hat8)
            go_roundw
            case rel =>
              have h8 := hst8.out
              rw [hacs2.out] at h8
              exact ⟨q + 1, m + 1, _, _, _, by go_num, by omega, by rw [hto.out], by omega, h8, hxs2.out⟩
            case measure => simp [intOf]; omega
    · obtain rfl : q = a.nx.length := by omega
      have hme : Hid (m = clsC a) := hid (by rw [hm, clsTo_all])
      have hro := hid (hst.fam.rowsOwn hst.tab)
      have hac := hst.acc
      have hbk := hst.blk
      have d0 := hbk.cell 0
      have d1 := hbk.cell 1
      have d2 := hbk.cell 2
      simp only [List.getElem?_toArray, List.getElem?_cons_zero, List.getElem?_cons_succ] at d0 d1 d2
      have hau : Hid (AuOwn wr w1.heap.size (.slice AR xs.length cR) (.slice AA acs.length cA') (quotA a) xs) := hid (by
        have h1 := hacs.out
        have h2 := hxs.out
        rw [hme.out] at h1 h2
        refine ⟨hro.out, h2, ?_⟩
        show wr.ownsRow w1.heap.size 4 1 _ ((List.range (clsC a)).map fun j => a.ac.getD (repA a j) false).length (boolVals ((List.range (clsC a)).map fun j => a.ac.getD (repA a j) false))
        rw [← h1]
        exact hac)
      obtain ⟨A9, c9, B9, d9, he1, he2, hat9⟩ := hau.out.at_
      injection he1 with f1 f2 f3
      injection he2 with f4 f5 f6
      subst f1 f3 f4 f6
      have htr := hid (trim_any (quotA a) AR AA cR cA' tx wr hqok.out htx.out hat9)
      unfold AG.Au.val at htr
      rw [← f2, ← f5, show (quotA a).al = a.al from rfl] at htr
      have hBr := hB1.trans (hBm.mono hB1.size)
      have hresr := hid (hres1.out.below hBm hres1.out.lt)
      replace hst := hid hst
      replace hac := hid hac
      replace hbk := hid hbk
      replace hBm := hid hBm
      replace hat9 := hid hat9
      replace f2 := hid f2
      replace f5 := hid f5
      replace hm := hid hm
      replace hxl := hid hxl
      go_wp2_with fail
      refine htr.out.mono ?_
      rintro e w9 ⟨hb9, v1, v2, ys, rfl, hau9⟩
      rw [show trimA (quotA a) = minA a from rfl, show (quotA a).al = a.al from rfl] at *
      obtain ⟨b, hb⟩ : ∃ b, Hid (b = minA a) := ⟨_, hid rfl⟩
      rw [← hb.out] at hau9
      obtain ⟨A', c', B', d', rfl, rfl, -⟩ := hau9.at_
      have hres9 := hresr.out.below hb9 hresr.out.lt
      have q0 := hres9.cell 0
      have q1 := hres9.cell 1
      have q2 := hres9.cell 2
      have f0 := hres9.frozen 0
      have f1 := hres9.frozen 1
      have f2 := hres9.frozen 2
      simp only [List.getElem?_toArray, List.getElem?_cons_zero, List.getElem?_cons_succ] at q0 q1 q2
      have hB9 := hBr.trans (hb9.mono hBr.size)
      have hz9 := hb9.size
      have hlt2 : w.heap.size + 1 < wr.heap.size := by omega
      replace hau9 := hid hau9
      replace hres9 := hid hres9
      clear d0 d1 d2 htr
      go_wp2
      refine bodyPost_ret (v := .agg #[.int .i64 a.al, .slice A' b.nx.length c', .slice B' b.ac.length d']) (by simp [results, Tryd.results95, go_sem, q0, q1, q2]) rfl ?_
      refine ⟨by (repeat (first | exact Below.refl _ _ | assumption | refine Below.drew ?_ | refine Below.alloc ?_ (by first | omega | (simp; done) | (simp; omega)) _ | refine Below.setCell ?_ (by first | omega | (simp; done) | (simp; omega)) _)), _, _, ys, rfl, ?_⟩
      rw [← hb.out]
      exact (((hau9.out.setFar hlt2 _).setFar hlt2 _).setFar hlt2 _).base (by omega)

set_option maxRecDepth 100000 in
set_option maxHeartbeats 4000000 in
theorem implMinimizeAutomaton_any (a : Au) (A B : Option Addr) (c d : Nat) (w : World) (ha : AuAt w A c B d a) :
    Calls Tryd.prog 37 #[a.val A c B d] w (PrPost w (minX a) (auOk a)) := by
  obtain ⟨w0, hw0, hz0, hB0, hS, -⟩ := boxed2 w #[Value.int IntKind.i64 a.al, Value.slice A a.nx.length c, Value.slice B a.ac.length d] 26 #[Value.int IntKind.i64 0, Value.slice none 0 0, Value.slice none 0 0] 26
  have hres : Blk w0 (w.heap.size + 1) 26 #[Value.int IntKind.i64 0, Value.slice none 0 0, Value.slice none 0 0] := by
    rw [← hw0]
    have := Blk.new (w.alloc (.cells #[Value.int IntKind.i64 a.al, Value.slice A a.nx.length c, Value.slice B a.ac.length d] 26)) 26 #[Value.int IntKind.i64 0, Value.slice none 0 0, Value.slice none 0 0]
    simpa using this
  have ha0 := hid (ha.later hB0)
  have p0 := hS 0 _ rfl _ (Below.refl _ _)
  have p1 := hS 1 _ rfl _ (Below.refl _ _)
  have p2 := hS 2 _ rfl _ (Below.refl _ _)
  obtain ⟨ok, hok⟩ : ∃ ok, Hid (ok = auOk a) := ⟨_, hid rfl⟩
  obtain ⟨b, hb⟩ : ∃ b, Hid (b = minX a) := ⟨_, hid rfl⟩
  replace ha := hid ha
  replace hres := hid hres
  rw [← hb.out, ← hok.out]
  unfold AG.Au.val
  go_enter Tryd.func37, Tryd.ntmps37
  go_wp2_with fail
  refine (implAutomatonValid_any a A B c d w0 ha0.out).mono ?_
  rintro e w1 ⟨rfl, hb1⟩
  rw [← hok.out]
  have hB1 := hB0.trans (hb1.mono hB0.size)
  have hz1 := hb1.size
  have hC1 := hb1.mono hz0
  clear p0 p1 p2 hw0
  cases hokc : ok
  case false =>
    have hbn : Hid (b = auNil) := hid (by rw [hb.out]; unfold minX; rw [← hok.out, hokc]; rfl)
    have hresr := hres.out.below hb1 hres.out.lt
    have q0 := hresr.cell 0
    have q1 := hresr.cell 1
    have q2 := hresr.cell 2
    have f0 := hresr.frozen 0
    have f1 := hresr.frozen 1
    have f2 := hresr.frozen 2
    simp only [List.getElem?_toArray, List.getElem?_cons_zero, List.getElem?_cons_succ] at q0 q1 q2
    subst hokc
    replace hresr := hid hresr
    go_wp2
    refine bodyPost_ret (v := .tuple #[.agg #[.int .i64 0, .slice none 0 0, .slice none 0 0], .bool false]) (by simp [results, Tryd.results37, go_sem, q0, q1, q2]) rfl ?_
    rw [hbn.out]
    exact ⟨by (repeat (first | exact Below.refl _ _ | assumption | refine Below.drew ?_ | refine Below.alloc ?_ (by first | omega | (simp; done) | (simp; omega)) _ | refine Below.setCell ?_ (by first | omega | (simp; done) | (simp; omega)) _)), _, _, _, rfl, AuOwn.nil _ _⟩
  case true =>
  have hoT := hok.out
  rw [hokc] at hoT
  have hbm : Hid (b = minA a) := hid (by rw [hb.out]; unfold minX; rw [← hoT]; rfl)
  have hbal : Hid (b.al = a.al) := hid (by rw [hbm.out]; exact minA_al hoT.symm)
  have hmin := hid (minimize_any a A B c d w1 hoT.symm (ha0.out.later hb1))
  replace hoT := hid hoT
  subst hokc
  have p0 := hS 0 _ rfl _ hC1
  have p1 := hS 1 _ rfl _ hC1
  have p2 := hS 2 _ rfl _ hC1
  go_wp2_with fail
  refine hmin.out.mono ?_
  rintro e w2 ⟨hb2, v1, v2, xs, rfl, hau⟩
  rw [← hbm.out] at hau
  obtain ⟨A', c', B', d', rfl, rfl, -⟩ := hau.at_
  have hresr := hres.out.below (hb1.trans (hb2.mono hz1)) hres.out.lt
  have hB2 := hB1.trans (hb2.mono hB1.size)
  have hz2 := hb2.size
  have q0 := hresr.cell 0
  have q1 := hresr.cell 1
  have q2 := hresr.cell 2
  have f0 := hresr.frozen 0
  have f1 := hresr.frozen 1
  have f2 := hresr.frozen 2
  simp only [List.getElem?_toArray, List.getElem?_cons_zero, List.getElem?_cons_succ] at q0 q1 q2
  have hlt2 : w.heap.size + 1 < w1.heap.size := by omega
  replace hau := hid hau
  replace hresr := hid hresr
  clear p0 p1 p2 hS hmin
  go_wp2
  refine bodyPost_ret (v := .tuple #[.agg #[.int .i64 a.al, .slice A' b.nx.length c', .slice B' b.ac.length d'], .bool true]) (by simp [results, Tryd.results37, go_sem, q0, q1, q2]) rfl ?_
  exact ⟨by (repeat (first | exact Below.refl _ _ | assumption | refine Below.drew ?_ | refine Below.alloc ?_ (by first | omega | (simp; done) | (simp; omega)) _ | refine Below.setCell ?_ (by first | omega | (simp; done) | (simp; omega)) _)), _, _, xs, by rw [hbal.out], (((hau.out.setFar hlt2 _).setFar hlt2 _).setFar hlt2 _).base (by omega)⟩

set_option maxRecDepth 100000 in
set_option maxHeartbeats 4000000 in
theorem implIsMinimal_any (a : Au) (A B : Option Addr) (c d : Nat) (w : World) (ha : AuAt w A c B d a) :
    Calls Tryd.prog 44 #[a.val A c B d] w fun e w' => e = .returned (.bool (isMinB a)) ∧ Below w.heap.size w w' := by
  obtain ⟨w0, hw0, hz0, hB0, hS⟩ := boxed w #[Value.int IntKind.i64 a.al, Value.slice A a.nx.length c, Value.slice B a.ac.length d] 26
  have ha0 := hid (ha.later hB0)
  have hSall := hid (fun w' (hb : Below w0.heap.size w0 w') => (⟨hS 0 _ rfl w' (hb.mono hz0), hS 1 _ rfl w' (hb.mono hz0), hS 2 _ rfl w' (hb.mono hz0)⟩ : _ ∧ _ ∧ _))
  have y0 := fun x => (hSall.out _ (Fam.below w0.heap.size w0 x)).1
  have y1 := fun x => (hSall.out _ (Fam.below w0.heap.size w0 x)).2.1
  have y2 := fun x => (hSall.out _ (Fam.below w0.heap.size w0 x)).2.2
  obtain ⟨ok, hok⟩ : ∃ ok, Hid (ok = auOk a) := ⟨_, hid rfl⟩
  obtain ⟨D, hD⟩ : ∃ D, Hid (D = isMinB a) := ⟨_, hid rfl⟩
  obtain ⟨n, hn⟩ : ∃ n, Hid (n = (minA a).nx.length) := ⟨_, hid rfl⟩
  obtain ⟨tb, htb⟩ : ∃ tb, ((n : Int) == (a.nx.length : Int)) = tb := ⟨_, rfl⟩
  rw [← hD.out]
  have hDe : Hid (D = (ok && tb)) := hid (by
    rw [hD.out, hok.out, ← htb, hn.out]
    unfold isMinB
    congr 1
    rw [Bool.eq_iff_iff]
    simp only [decide_eq_true_eq, beq_iff_eq]
    omega)
  replace ha := hid ha
  unfold AG.Au.val
  clear hS
  go_enter Tryd.func44, Tryd.ntmps44
  go_wp2_with fail
  refine wp_region_grow 13 w0.heap.size w0 (fun i u _ => if i = 1 then u = .bool ok else ∃ (Am : Option Addr) (cm : Nat) (v2 : Value), u = .agg #[.int .i64 a.al, .slice Am n cm, v2]) (by kernel_rfl) (by kernel_rfl) (Nat.le_refl _) (Below.refl _ _) ?_
  simp only [List.take_succ_cons, List.take_zero, List.drop_succ_cons, List.drop_zero]
  (repeat (refine grow_quiet (by rfl) (by rfl) (by rfl) ?_; intro K hK; go_big_quiet_op; go_big_quiet_on))
  refine grow_val (.bool ok) (by rfl) (by rfl) rfl (fun wq hbq _ => ?_) ?_
  · go_simp
    refine ⟨rfl, (implAutomatonValid_any a A B c d wq (ha0.out.later hbq)).mono ?_⟩
    rintro e w9 ⟨rfl, hb9⟩
    exact ⟨by rw [hok.out], hb9⟩
  simp only [Act.put, List.setIfInBounds_toArray, List.set_cons_zero, List.set_cons_succ]
  cases hokc : ok
  case false =>
    have hDf : Hid (D = false) := hid (by rw [hDe.out, hokc]; rfl)
    (repeat (refine grow_quiet (by rfl) (by rfl) (by rfl) ?_; intro K hK; go_big_quiet_op; go_big_quiet_on))
    (repeat (first | (refine grow_skip (by rfl) (by rfl) ?_; simp only [Act.put, List.setIfInBounds_toArray, List.set_cons_zero, List.set_cons_succ]) | (refine grow_quiet (by rfl) (by rfl) (by rfl) ?_; intro K hK; go_big_quiet_op; go_big_quiet_on)))
    refine grow_nil ?_
    intro w5 hb5 hf
    clear hf y0 y1 y2
    go_wp2_with fail
    go_ret
    exact ⟨ret_bool (by rw [hDf.out]), hB0.trans (hb5.mono hB0.size)⟩
  case true =>
  have hDt : Hid (D = tb) := hid (by rw [hDe.out, hokc]; simp)
  have hoT := hid (hok.out.symm.trans hokc)
  (repeat (refine grow_quiet (by rfl) (by rfl) (by rfl) ?_; intro K hK; go_big_quiet_op; go_big_quiet_on))
  refine grow_call (by rfl) (by rfl) (fun u _ _ _ h => h) (fun wq hbq _ => ?_) fun u hu => ?_
  · go_simp
    refine ⟨rfl, (minimize_any a A B c d wq hoT.out (ha0.out.later hbq)).mono ?_⟩
    rintro e w9 ⟨hb9, v1, v2, xs, rfl, hau⟩
    obtain ⟨A', c', B', d', rfl, rfl, -⟩ := hau.at_
    exact ⟨_, rfl, hb9, A', c', _, by rw [hn.out]⟩
  obtain ⟨-, -, hu⟩ := hu
  rw [if_neg (by decide)] at hu
  obtain ⟨Am, cm, v2, rfl⟩ := hu
  simp only [Act.put, List.setIfInBounds_toArray, List.set_cons_zero, List.set_cons_succ]
  have hfd : ∀ w : World, (Instr.field 26 (.agg #[.int .i64 a.al, .slice Am n cm, v2]) 1).run Tryd.prog w = .ok (.slice Am n cm) w := fun _ => by kernel_rfl
  (repeat (refine grow_quiet (by rfl) (by rfl) (by rfl) ?_; intro K hK; go_big_quiet_op; go_big_quiet_on))
  refine grow_nil ?_
  intro w5 hb5 hf
  clear hf y0 y1 y2
  go_wp2_with fail
  go_ret
  exact ⟨ret_bool (by rw [hDt.out]), hB0.trans (hb5.mono hB0.size)⟩

end Go.Proofs.YtkoganldcmhopaaDoor

/- The program's ComplementAutomaton. -/
namespace Go.Proofs.YtkoganldcmhopaaDoor
open Go.RowKit Go.BigFrame Go.Maps AG

noncomputable def compX (a : Au) : Au := if auOk a = true then compA a else auNil
def flipTo (a : Au) (i : Nat) : Au := ⟨a.al, a.nx, (a.ac.take i).map (fun b => !b) ++ a.ac.drop i⟩
theorem flipTo_zero (a : Au) : flipTo a 0 = a := by unfold flipTo; simp
theorem flipTo_all (a : Au) : flipTo a a.ac.length = compA a := by unfold flipTo compA; simp
theorem flipTo_len {a : Au} {i : Nat} (h : i ≤ a.ac.length) : (flipTo a i).ac.length = a.ac.length := by
  unfold flipTo
  dsimp only
  rw [List.length_append, List.length_map, List.length_take, List.length_drop]
  omega
theorem flipTo_get {a : Au} {i : Nat} (h : i < a.ac.length) : (flipTo a i).ac[i]? = some a.ac[i] := by
  unfold flipTo
  dsimp only
  rw [List.getElem?_append_right (by rw [List.length_map, List.length_take]; omega), List.length_map, List.length_take, show i - min i a.ac.length = 0 from by omega, List.getElem?_drop, Nat.add_zero, List.getElem?_eq_getElem h]
theorem flipTo_next {a : Au} {i : Nat} (h : i < a.ac.length) : (⟨(flipTo a i).al, (flipTo a i).nx, (flipTo a i).ac.set i (!a.ac[i])⟩ : Au) = flipTo a (i + 1) := by
  unfold flipTo
  dsimp only
  congr 1
  rw [List.set_append_right _ _ (by rw [List.length_map, List.length_take]; omega), List.length_map, List.length_take, show i - min i a.ac.length = 0 from by omega, List.drop_eq_getElem_cons h, List.set_cons_zero, List.take_succ_eq_append_getElem h, List.map_append]
  simp

set_option maxRecDepth 100000 in
set_option maxHeartbeats 8000000 in
theorem implComplementAutomaton_any (a : Au) (A B : Option Addr) (c d : Nat) (w : World) (ha : AuAt w A c B d a) :
    Calls Tryd.prog 42 #[a.val A c B d] w (PrPost w (compX a) (auOk a)) := by
  obtain ⟨w0, hw0, hz0, hB0, hS, -⟩ := boxed2 w #[Value.int IntKind.i64 a.al, Value.slice A a.nx.length c, Value.slice B a.ac.length d] 26 #[Value.int IntKind.i64 0, Value.slice none 0 0, Value.slice none 0 0] 26
  have hz0e : Hid (w0.heap.size = w.heap.size + 2) := hid (by rw [← hw0]; simp)
  have hres : Hid (Blk w0 (w.heap.size + 1) 26 #[Value.int IntKind.i64 0, Value.slice none 0 0, Value.slice none 0 0]) := hid (by
    rw [← hw0]
    have := Blk.new (w.alloc (.cells #[Value.int IntKind.i64 a.al, Value.slice A a.nx.length c, Value.slice B a.ac.length d] 26)) 26 #[Value.int IntKind.i64 0, Value.slice none 0 0, Value.slice none 0 0]
    simpa using this)
  have ha0 := hid (ha.later hB0)
  have p0 := hS 0 _ rfl _ (Below.refl _ _)
  have p1 := hS 1 _ rfl _ (Below.refl _ _)
  have p2 := hS 2 _ rfl _ (Below.refl _ _)
  replace ha := hid ha
  unfold AG.Au.val
  go_enter Tryd.func42, Tryd.ntmps42
  go_wp2_with fail
  refine (implAutomatonValid_any a A B c d w0 ha0.out).mono ?_
  rintro e w1 ⟨rfl, hb1⟩
  have hz1 := hb1.size
  have hbl1 := hid (hres.out.below hb1 hres.out.lt)
  clear p0 p1 p2 hw0
  cases hok : auOk a
  · have d0 := hbl1.out.cell 0
    have d1 := hbl1.out.cell 1
    have d2 := hbl1.out.cell 2
    have f0 := hbl1.out.frozen 0
    have f1 := hbl1.out.frozen 1
    have f2 := hbl1.out.frozen 2
    simp only [List.getElem?_toArray, List.getElem?_cons_zero, List.getElem?_cons_succ] at d0 d1 d2
    have hlt := hbl1.out.lt
    have hbn : Hid (compX a = auNil) := hid (by unfold compX; rw [hok]; rfl)
    have hB1 := hB0.trans (hb1.mono hB0.size)
    replace hok := hid hok
    go_wp2
    refine bodyPost_ret (v := .tuple #[.agg #[.int .i64 0, .slice none 0 0, .slice none 0 0], .bool false]) (by simp [results, Tryd.results42, go_sem, d0, d1, d2]) rfl ?_
    rw [hbn.out, hok.out]
    exact ⟨by (repeat (first | exact Below.refl _ _ | assumption | refine Below.drew ?_ | refine Below.alloc ?_ (by first | omega | (simp; done) | (simp; omega)) _ | refine Below.setCell ?_ (by first | omega | (simp; done) | (simp; omega)) _)), _, _, _, rfl, AuOwn.nil _ _⟩
  · obtain ⟨-, hn1, hn12, hml, hrl⟩ := (auOk_iff a).1 hok
    have hsz : AuSz 1000000 a := ⟨by omega, by omega, fun r hr => by
      have h1 := (hrl r hr).1
      have h2 := lettersTo_len a.al 6
      have h3 : (letters a.al).length ≤ 6 := h2
      omega⟩
    have hbc : Hid (compX a = compA a) := hid (by unfold compX; rw [hok]; rfl)
    have p0 := hS 0 _ rfl _ (hb1.mono hz0)
    have p1 := hS 1 _ rfl _ (hb1.mono hz0)
    have p2 := hS 2 _ rfl _ (hb1.mono hz0)
    have ha1 := hid (ha0.out.later hb1)
    replace hok := hid hok
    replace hml := hid hml
    replace hrl := hid hrl
    replace hn1 := hid hn1
    replace hn12 := hid hn12
    replace hsz := hid hsz
    go_wp2_with fail
    refine (copyAutomaton_any a A B c d w1 hsz.out ha1.out).mono ?_
    rintro e w2 ⟨v1, v2, xs, rfl, ho, hb2⟩
    obtain ⟨A1, c1, e1, -, -⟩ := own_slice ho.rows.own
    subst e1
    obtain ⟨gA, c2, e2, -, -, -, -, -⟩ := own_shape ho.acc (by have := hn1.out; have := hml.out; omega)
    subst e2
    have hst := AuSt.of (K := fun _ => False) ho (KeepB.of_below hb2)
    obtain ⟨n, hnx⟩ : ∃ n, Hid (n = a.nx.length) := ⟨_, hid rfl⟩
    have hxl := hst.len
    rw [hxl, ← hnx.out] at hst ⊢
    obtain ⟨m, hac⟩ : ∃ m, Hid (m = a.ac.length) := ⟨_, hid rfl⟩
    rw [← hac.out] at hst ⊢
    replace hxl := hid hxl
    have hnp : n ≤ 12 ∧ m = n := by have := hnx.out; have := hac.out; have := hn12.out; have := hml.out; omega
    obtain ⟨hn12', hmn⟩ := hnp
    have hm12 : m ≤ 12 := by omega
    replace hmn := hid hmn
    obtain ⟨gs, hgs⟩ : ∃ gs, Hid (gs = w2.heap.size) := ⟨_, hid rfl⟩
    obtain ⟨w3, hw3⟩ : ∃ w3, Hid (w2.alloc (.cells #[.int .i64 a.al, .slice A1 n c1, .slice (some ⟨gA, 0, none⟩) m c2] 26) = w3) := ⟨_, hid rfl⟩
    rw [hw3.out] at hst
    rw [← hgs.out] at hst
    have hB03 : ∀ {wr : World} {v1 v2 : Value} {x : Au} {ys : List RowV}, AuSt (fun _ => False) w1 wr gs v1 v2 x ys → Below w1.heap.size w1 wr := fun h => ⟨h.keep.os, h.keep.tape, h.keep.output, h.keep.size, fun i hi => h.keep.block i hi (fun h => h)⟩
    replace hst := hid hst
    replace ho := hid ho
    replace hb2 := hid hb2
    clear p0 p1 p2
    go_upto_region 4 with fail
    rw [hw3.out, ← hgs.out]
    clear hw3 hgs
    have k2 := hst.out.blk.cell 2
    simp only [List.getElem?_toArray, List.getElem?_cons_zero, List.getElem?_cons_succ] at k2
    have hgsl := hst.out.blk.lt
    go_wp2_with fail
    clear k2
    go_loopw [15] (fun iv wr => ∃ i : Nat, iv = .int .i64 (i : Nat) ∧ i ≤ m ∧ AuSt (fun _ => False) w1 wr gs (.slice A1 n c1) (.slice (some ⟨gA, 0, none⟩) m c2) (flipTo a i) xs) (fun iv _ => m - (intOf iv).toNat)
    case atStart => exact ⟨0, rfl, by omega, by rw [flipTo_zero]; exact hst.out⟩
    case round =>
      obtain ⟨i, rfl, hi', hs⟩ := hrel
      have hbr := hB03 hs
      have hszr := hbr.size
      by_cases hlt : i < m
      · have hia : i < a.ac.length := by rw [← hac.out]; exact hlt
        have hfl := hid (flipTo_len (a := a) (i := i) (by omega))
        have hoA : wr.ownsRow w1.heap.size 4 1 (.slice (some ⟨gA, 0, none⟩) m c2) (flipTo a i).ac.length (boolVals (flipTo a i).ac) := hs.own.acc
        obtain ⟨gA', capA, hveA, -, hgA, -, -, hcellA⟩ := own_shape hoA (by rw [hfl.out]; omega)
        injection hveA with e1 e2 e3
        injection e1 with e1
        injection e1 with e1
        subst e1
        clear e2 e3
        obtain ⟨t, ht⟩ : ∃ t, Hid (t = a.ac[i]) := ⟨_, hid rfl⟩
        have t0 : wr.cell? ⟨gA, i, none⟩ = some (.bool t) := hcellA i _ (by
          unfold boolVals
          rw [List.getElem?_map, flipTo_get hia, ht.out]
          rfl)
        have hs2 : AuSt (fun _ => False) w1 wr gs (.slice A1 n c1) (.slice (some ⟨gA, 0, none⟩) (flipTo a i).ac.length c2) (flipTo a i) xs := by
          rw [hfl.out, ← hac.out]
          exact hs
        have hnx2 : Hid (∀ w', Below wr.heap.size wr w' → AuSt (fun _ => False) w1 (w'.setCell ⟨gA, i, none⟩ (.bool !t)) gs (.slice A1 n c1) (.slice (some ⟨gA, 0, none⟩) m c2) (flipTo a (i + 1)) xs) := hid (fun w' hb' => by
          have h1 := (hs2.later hb').setAc (i := i) (!t)
          rw [ht.out, flipTo_next hia, hfl.out, ← hac.out, ← ht.out] at h1
          exact h1)
        have k2 := hs.blk.cell 2
        simp only [List.getElem?_toArray, List.getElem?_cons_zero, List.getElem?_cons_succ] at k2
        have fz : Hid (∀ w', Below wr.heap.size wr w' → ∃ v, w'.cell? ⟨gA, i, none⟩ = some v ∧ w'.frozen? ⟨gA, i, none⟩ = false) := hid (fun w' hb' => ⟨.bool t, by rw [hb'.cell (by simpa using hgA)]; exact t0, own_frozen (own_later_ hoA hb') rfl i⟩)
        have hgs2 := hs.blk.lt
        have y0 : ∀ x', (Fam wr.heap.size wr x').cell? ⟨gs, 2, none⟩ = some (.slice (some ⟨gA, 0, none⟩) m c2) := fun x' => by rw [(Fam.below wr.heap.size wr x').cell (by simpa using hgs2)]; exact k2
        have y1 : ∀ x', (Fam wr.heap.size wr x').cell? ⟨gA, i, none⟩ = some (.bool t) := fun x' => by rw [(Fam.below wr.heap.size wr x').cell (by simpa using hgA)]; exact t0
        have k1 : (0 : Int) ≤ (i : Int) ∧ (i : Int) < (m : Int) := by omega
        replace hs := hid hs
        replace hs2 := hid hs2
        replace hoA := hid hoA
        replace hcellA := hid hcellA
        replace hbr := hid hbr
        clear t0 k2
        go_wp2_with fail
        refine wp_region_grow 10 wr.heap.size wr (fun _ _ _ => True) (by kernel_rfl) (by kernel_rfl) (Nat.le_refl _) (Below.refl _ _) ?_
        simp only [List.take_succ_cons, List.take_zero, List.drop_succ_cons, List.drop_zero]
        (repeat (refine grow_quiet (by rfl) (by rfl) (by rfl) ?_; intro K hK; go_big_quiet_op; go_big_quiet_on))
        refine grow_nil ?_
        intro w5 hw5 hf
        clear hf y0 y1
        obtain ⟨v5, d5, z5⟩ := fz.out w5 hw5
        have hnx5 := hid (hnx2.out w5 hw5)
        clear hnx2 fz
        go_wp2_with fail
        go_roundw
        case rel => exact ⟨i + 1, by go_num, by omega, hnx5.out⟩
        case measure => simp [intOf]; omega
      · have hie : i = a.ac.length := by have := hac.out; omega
        rw [hie, flipTo_all] at hs
        replace hie := hid hie
        have k0 : wr.cell? ⟨gs, 0, none⟩ = some (.int .i64 a.al) := hs.blk.cell 0
        have k1 := hs.blk.cell 1
        have k2 := hs.blk.cell 2
        have hbl := hres.out.below (hb1.trans (hbr.mono hz1)) (by have := hz0e.out; omega)
        have d0 := hbl.cell 0
        have d1 := hbl.cell 1
        have d2 := hbl.cell 2
        have f0 := hbl.frozen 0
        have f1 := hbl.frozen 1
        have f2 := hbl.frozen 2
        simp only [List.getElem?_toArray, List.getElem?_cons_zero, List.getElem?_cons_succ] at d0 d1 d2 k1 k2
        have hltb := hbl.lt
        have hB1 := hB0.trans ((hb1.trans (hbr.mono hz1)).mono hB0.size)
        have hlt2 : w.heap.size + 1 < w1.heap.size := by have := hz0e.out; omega
        have hfin := hid hs.own
        replace hs := hid hs
        replace hbl := hid hbl
        go_wp2
        refine bodyPost_ret (v := .tuple #[.agg #[.int .i64 a.al, .slice A1 n c1, .slice (some ⟨gA, 0, none⟩) m c2], .bool true]) (by simp [results, Tryd.results42, go_sem, d0, d1, d2]) rfl ?_
        rw [hbc.out, hok.out]
        exact ⟨by (repeat (first | exact Below.refl _ _ | assumption | refine Below.drew ?_ | refine Below.alloc ?_ (by first | omega | (simp; done) | (simp; omega)) _ | refine Below.setCell ?_ (by first | omega | (simp; done) | (simp; omega)) _)), _, _, xs, rfl, (((hfin.out.setFar hlt2 _).setFar hlt2 _).setFar hlt2 _).base (by omega)⟩

end Go.Proofs.YtkoganldcmhopaaDoor
