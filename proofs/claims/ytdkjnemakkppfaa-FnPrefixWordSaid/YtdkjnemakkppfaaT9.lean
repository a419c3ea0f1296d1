/- Lemmas, part 9: several texts in one. -/
import Derived.Test.YtdkjnemakkppfaaT8
import Derived.Test.YtdkjnemakkppfaaT2
import Derived.Test.YtdkjnemakkppfaaT1
import Derived.Lib.TrailingZeros
import Derived.Laws.Bits64b
import Derived.Shelf.Spec.TrailingZeros
import Derived.Test.YtdkjnemakkppfaaT3
import Derived.Test.YtdkjnemakkppfaaT6
import Derived.Deep.DeepCutAuto
import Derived.Test.YtdkjnemakkppfaaT7
import Derived.Lib.SliceRun
import Derived.Test.YtdkjnemakkppfaaT4
import Derived.Test.YtdkjnemakkppfaaT5
set_option linter.unusedSimpArgs false
set_option linter.unusedVariables false

/- The drawing kit: ParseAutomaton. -/
namespace Go.Proofs.Ytdkjnemakkppfaa
open Go.RowKit Go.BigFrame AG

def CutPostN (s : ByteArray) (w : World) (e : Ending) (w' : World) : Prop := ∃ v ws, e = .returned v ∧ 0 < ws.length ∧ CutSt w w' v ws s.size (s.size + 1)
set_option maxRecDepth 100000 in
set_option maxHeartbeats 2000000 in
theorem l19Cut_some (s : ByteArray) (c : Nat) (w : World) (hz : s.size ≤ 1000000) : Calls Try.prog 54 #[.string s, .int .u8 c] w (CutPostN s w) := by
  obtain ⟨i0, hi, hz0, hz1, hz2⟩ := info_parts infoStrD
  have h0 : CutSt w (w.alloc (.cells #[] 9)) (.slice (some ⟨w.heap.size, 0, none⟩) 0 0) [] s.size 0 :=
    ⟨⟨rfl, .inr ⟨w.heap.size, 0, #[], rfl, Nat.le_refl _, heap_alloc_self _ _, Nat.le_refl _, Nat.zero_le _, rfl, rfl⟩⟩, Nat.le_refl _, fun x hx => (by cases hx), (Below.refl _ _).alloc (Nat.le_refl _) _⟩
  replace h0 := hid h0
  go_enter Try.func54, Try.ntmps54
  go_wp2_with fail
  go_loopw [5, 6, 7] (fun v f i wr => ∃ (ws : List ByteArray) (a k : Nat), i = .int .i64 k ∧ f = .int .i64 a ∧ (a ≤ k ∨ k = s.size + 1) ∧ k ≤ s.size + 1 ∧ (k = s.size + 1 → 0 < ws.length) ∧ CutSt w wr v ws s.size k) (fun _ _ i _ => s.size + 1 - (intOf i).toNat)
  case atStart => exact ⟨[], 0, 0, rfl, rfl, by omega, by omega, fun h => (by omega), h0.out⟩
  case round =>
    obtain ⟨ws, a, k, rfl, rfl, ha, hk, hne, hs⟩ := hrel
    replace hne := hid hne
    have hzr := hs.below.size
    have hln := hs.len
    by_cases hlt : k ≤ s.size
    · have hak : a ≤ k := by omega
      have b1 : (0 : Int) ≤ (a : Int) := by omega
      have b2 : (a : Int) ≤ (k : Int) := by omega
      have b3 : (k : Int) ≤ (s.size : Int) := by omega
      have hxs : (s.extract a k).size ≤ s.size := by rw [ByteArray.size_extract]; omega
      have hown := hs.own
      unfold OwnStrs at hown
      replace hown := hid hown
      replace hs := hid hs
      by_cases hend : k = s.size
      · have e1 : ((k : Int) == (s.size : Int)) = true := by simp; omega
        replace hxs := hid hxs
        replace hend := hid hend
        go_wp2_with (at_builtin; refine wpList_append_lies _ (by rfl) _ _ 62 (by rfl) w.heap.size 9 i0 (.string ⟨#[]⟩) 1 16 Try.underlying62 hi hz0 hz1 hz2 rfl (by decide) _ ws.length _ (by rfl) (hown.out.alloc _) ⟨wr.heap.size, 0, none⟩ 1 1 [.string (s.extract a k)] (by rfl) (by rfl) (World.news_of_block (heap_alloc_new wr _)) ?c1 (by omega) ?c3 ?c4 ?c5 _ rfl ?_)
        case c1 => simp [Value.oneCell']
        case c3 => unfold maxLen; omega
        case c4 => omega
        case c5 => simp; omega
        intro gg cap w5 hown5 hgrow hat hlt5
        have hfin := hid (hs.out.add hxs.out hown5 hgrow)
        clear hown5 hgrow hat
        go_wp2_with fail
        go_roundw
        case rel => exact ⟨_, k + 1, k + 1, by go_num, by go_num, by omega, by omega, fun _ => (by rw [List.length_append]; simp), hfin.out⟩
        case measure => simp [intOf]; omega
      · have e1 : ((k : Int) == (s.size : Int)) = false := by simp; omega
        obtain ⟨y, hy, hy2⟩ := byte_some s k (by omega)
        have b4 : (0 : Int) ≤ (k : Int) ∧ (k : Int) < (s.size : Int) := by omega
        replace hend := hid hend
        by_cases hyc : y = c
        · have e2 : ((y : Int) == (c : Int)) = true := by simp; omega
          replace hyc := hid hyc
          replace hxs := hid hxs
          go_wp2_with (at_builtin; refine wpList_append_lies _ (by rfl) _ _ 62 (by rfl) w.heap.size 9 i0 (.string ⟨#[]⟩) 1 16 Try.underlying62 hi hz0 hz1 hz2 rfl (by decide) _ ws.length _ (by rfl) (hown.out.alloc _) ⟨wr.heap.size, 0, none⟩ 1 1 [.string (s.extract a k)] (by rfl) (by rfl) (World.news_of_block (heap_alloc_new wr _)) ?c1 (by omega) ?c3 ?c4 ?c5 _ rfl ?_)
          case c1 => simp [Value.oneCell']
          case c3 => unfold maxLen; omega
          case c4 => omega
          case c5 => simp; omega
          intro gg cap w5 hown5 hgrow hat hlt5
          have hfin := hid (hs.out.add hxs.out hown5 hgrow)
          clear hown5 hgrow hat
          go_wp2_with fail
          go_roundw
          case rel => exact ⟨_, k + 1, k + 1, by go_num, by go_num, by omega, by omega, fun _ => (by rw [List.length_append]; simp), hfin.out⟩
          case measure => simp [intOf]; omega
        · have e2 : ((y : Int) == (c : Int)) = false := by simp; omega
          replace hyc := hid hyc
          go_wp2_with fail
          go_roundw
          case rel => exact ⟨ws, a, k + 1, by go_num, rfl, by omega, by omega, fun h => absurd (show k = s.size by omega) hend.out, ⟨hs.out.own, by have := hs.out.len; omega, hs.out.small, hs.out.below⟩⟩
          case measure => simp [intOf]; omega
    · go_wp2_with fail
      go_ret
      exact ⟨_, ws, rfl, hne.out (by omega), ⟨hs.own, by have := hs.len; omega, hs.small, hs.below⟩⟩

def PauPost (w : World) (e : Ending) (w' : World) : Prop := ∃ (a : Au) (v1 v2 : Value) (xs : List RowV) (ok : Bool), e = .returned (.tuple #[.agg #[.int .i64 a.al, v1, v2], .bool ok]) ∧ AuSz 2000 a ∧ AuOwn w' w.heap.size v1 v2 a xs ∧ Below w.heap.size w w'
theorem PauPost.ret {w w1 : World} {a : Au} {v1 v2 : Value} {xs : List RowV} (ok : Bool) (hq : AuSz 2000 a) (ho : AuOwn w1 (w.heap.size + 1) v1 v2 a xs) (hb : Below w.heap.size w w1) (u1 u2 u3 : Value) :
    PauPost w (.returned (.tuple #[.agg #[.int .i64 a.al, v1, v2], .bool ok])) (((w1.setCell ⟨w.heap.size, 0, none⟩ u1).setCell ⟨w.heap.size, 1, none⟩ u2).setCell ⟨w.heap.size, 2, none⟩ u3) := by
  have hk2 : KeepB (fun b => b = w.heap.size) w1 (((w1.setCell ⟨w.heap.size, 0, none⟩ u1).setCell ⟨w.heap.size, 1, none⟩ u2).setCell ⟨w.heap.size, 2, none⟩ u3) := (((KeepB.refl _ w1).setCell _ _ (by simp)).setCell _ _ (by simp)).setCell _ _ (by simp)
  refine ⟨a, v1, v2, xs, ok, rfl, hq, (ho.keepNew hk2 (fun b e => by omega)).base (by omega), ?_⟩
  (repeat (first | exact Below.refl _ _ | assumption | refine Below.drew ?_ | refine Below.alloc ?_ (by first | omega | (simp; done) | (simp; omega)) _ | refine Below.setCell ?_ (by first | omega | (simp; done) | (simp; omega)) _))

set_option maxRecDepth 100000 in
set_option maxHeartbeats 8000000 in
theorem parseAutomaton_any (t : ByteArray) (w : World) (hz : t.size ≤ 900) : Calls Try.prog 44 #[.string t] w (PauPost w) := by
  obtain ⟨j0, hj, jz0, jz1, jz2⟩ := info_parts infoRows
  obtain ⟨b0, hb, bz0, bz1, bz2⟩ := info_parts infoBools
  obtain ⟨wA, hwA, hzA, hBA, -⟩ := boxed w #[.int .i64 0, .slice none 0 0, .slice none 0 0] 26
  have hzAe : Hid (wA.heap.size = w.heap.size + 1) := hid (by rw [← hwA]; simp)
  have hres : Hid (Blk wA w.heap.size 26 #[.int .i64 0, .slice none 0 0, .slice none 0 0]) := hid (by rw [← hwA]; exact Blk.new _ _ _)
  have hzero : Hid (∀ w1, Below wA.heap.size wA w1 → PauPost w (.returned (.tuple #[.agg #[.int .i64 0, .slice none 0 0, .slice none 0 0], .bool false])) (((w1.setCell ⟨w.heap.size, 0, none⟩ (.int .i64 0)).setCell ⟨w.heap.size, 1, none⟩ (.slice none 0 0)).setCell ⟨w.heap.size, 2, none⟩ (.slice none 0 0))) := hid fun w1 h =>
    PauPost.ret (a := auNil) (xs := []) false ⟨by simp [auNil], by simp [auNil], by simp [auNil]⟩ ⟨⟨World.ownsRow_nil _ _ _ _, fun x hx => (by cases hx), List.Pairwise.nil⟩, rfl, World.ownsRow_nil _ _ _ _⟩ (hBA.trans (h.mono (by omega))) _ _ _
  go_enter Try.func44, Try.ntmps44
  go_wp2_with fail
  refine (l19Cut_some t 32 wA (by omega)).mono ?_
  rintro e w1 ⟨pv, ps, rfl, hne, hcut⟩
  have hb1 := hcut.below
  have hplen := hcut.len
  obtain ⟨Ap, cp, hpv, hcp, hcp'⟩ := own_slice hcut.own
  subst hpv
  obtain ⟨gp, cap, hve, hg1, hg2, -, -, hP⟩ := own_strs hcut.own hne
  injection hve with hv1 hv2 hv3
  subst hv1
  subst hv3
  have s0 := hP 0 (by omega)
  have hsm : ∀ i (h : i < ps.length), (ps[i]'h).size ≤ 900 := fun i h => by have := hcut.small _ (List.getElem_mem h); omega
  replace hsm := hid hsm
  replace hP := hid hP
  replace hcut := hid hcut
  have i0' : (0 : Int) < (ps.length : Int) := by omega
  go_wp2_with fail
  refine (parseAlpha_any _ w1).mono ?_
  rintro e w2 ⟨al, ok, rfl, hb2⟩
  have hb02 := hb1.trans (hb2.mono hb1.size)
  clear s0 hwA
  cases ok
  · have hfin := hid (hzero.out w2 hb02)
    have hbl := hres.out.below hb02 (by have := hzAe.out; omega)
    have d0 := hbl.cell 0
    have d1 := hbl.cell 1
    have d2 := hbl.cell 2
    have f0 := hbl.frozen 0
    have f1 := hbl.frozen 1
    have f2 := hbl.frozen 2
    simp only [List.getElem?_toArray, List.getElem?_cons_zero, List.getElem?_cons_succ] at d0 d1 d2
    have hltb := hbl.lt
    clear hbl
    go_wp2
    refine bodyPost_ret (v := .tuple #[.agg #[.int .i64 0, .slice none 0 0, .slice none 0 0], .bool false]) (by simp [results, Try.results44, go_sem, d0, d1, d2]) rfl ?_
    exact hfin.out
  · obtain ⟨w3, hw3⟩ : ∃ w3, Hid (w2.alloc (.cells #[.int .i64 al, .slice none 0 0, .slice none 0 0] 26) = w3) := ⟨_, hid rfl⟩
    have hst := AuSt.begin (K := fun _ => False) (w0 := w2) (wr := w2) al (KeepB.refl _ _) (Nat.le_refl _)
    rw [hw3.out] at hst
    replace hst := hid hst
    have hz12 := hb2.size
    go_upto_region 6 with fail
    rw [hw3.out]
    clear hw3
    go_wp2_with fail
    go_loopw [8] (fun kv wr => ∃ (k : Nat) (v1 v2 : Value) (a : Au) (xs : List RowV), kv = .int .i64 (k : Nat) ∧ 1 ≤ k ∧ k ≤ ps.length ∧ a.nx.length ≤ k ∧ a.ac.length ≤ k ∧ (∀ r ∈ a.nx, r.length ≤ 2000) ∧ AuSt (fun _ => False) w2 wr w2.heap.size v1 v2 a xs) (fun kv _ => ps.length - (intOf kv).toNat)
    case atStart => exact ⟨1, _, _, _, _, rfl, by omega, by omega, by simp, by simp, fun r h => (by cases h), hst.out⟩
    case round =>
      obtain ⟨k, v1, v2, a, xs, rfl, hk1, hk, hnx, hac, hrw, hs⟩ := hrel
      have hbr : Below w2.heap.size w2 wr := ⟨hs.keep.os, hs.keep.tape, hs.keep.output, hs.keep.size, fun i hi => hs.keep.block i hi (fun h => h)⟩
      have hb0r := hb02.trans (hbr.mono hb02.size)
      have hzr := hbr.size
      obtain ⟨A1, c1, e1, -, -⟩ := own_slice hs.own.rows.own
      obtain ⟨A2, c2, e2, -, -⟩ := own_slice hs.own.acc
      subst e1 e2
      have hxl := hid hs.len
      have hxl2 : xs.length ≤ k := by rw [hxl.out]; exact hnx
      by_cases hkl : k < ps.length
      · have s1 : wr.cell? ⟨gp, k, none⟩ = some (.string ps[k]) := by rw [hbr.cell (by simp; omega), hb2.cell (by simpa using hg2)]; exact hP.out k hkl
        have hx9 := hsm.out k hkl
        obtain ⟨x, hx⟩ : ∃ x, Hid (x = ps[k]) := ⟨_, hid rfl⟩
        rw [← hx.out] at s1 hx9
        have i2 : (0 : Int) ≤ (k : Int) ∧ (k : Int) < (ps.length : Int) := by omega
        by_cases hx0 : x.size = 0
        · have hse : (x.toList == []) = true := by
            have : x = ⟨#[]⟩ := by
              apply ByteArray.ext
              exact Array.eq_empty_of_size_eq_zero hx0
            rw [this, ByteArray.toList_eq]; rfl
          replace hs := hid hs
          replace hx0 := hid hx0
          have hfin := hid (hzero.out wr hb0r)
          have hbl := hres.out.below hb0r (by have := hzAe.out; omega)
          have d0 := hbl.cell 0
          have d1 := hbl.cell 1
          have d2 := hbl.cell 2
          have f0 := hbl.frozen 0
          have f1 := hbl.frozen 1
          have f2 := hbl.frozen 2
          simp only [List.getElem?_toArray, List.getElem?_cons_zero, List.getElem?_cons_succ] at d0 d1 d2
          have hltb := hbl.lt
          clear hbl
          go_wp2
          refine bodyPost_ret (v := .tuple #[.agg #[.int .i64 0, .slice none 0 0, .slice none 0 0], .bool false]) (by simp [results, Try.results44, go_sem, d0, d1, d2]) rfl ?_
          exact hfin.out
        · have hse : (x.toList == []) = false := by
            rw [beq_eq_false_iff_ne]
            intro h
            apply hx0
            have := congrArg List.length h
            rw [ByteArray.toList_eq] at this
            simpa using this
          have hxp : 0 < x.size := by omega
          have b1 : (0 : Int) ≤ 1 ∧ (1 : Int) ≤ (x.size : Int) := by omega
          have b2 : (0 : Int) < (x.size : Int) := by omega
          have hxs : (x.extract 1 x.size).size ≤ 1000 := by rw [ByteArray.size_extract]; omega
          obtain ⟨y, hy, hy2⟩ := byte_some x 0 (by omega)
          obtain ⟨tb, htb⟩ : ∃ tb, ((y : Int) == (43 : Int)) = tb := ⟨_, rfl⟩
          replace hxs := hid hxs
          replace hs := hid hs
          replace hx0 := hid hx0
          go_wp2_with fail
          refine (l3Parse_any _ wr hxs.out).mono ?_
          rintro e w4 ⟨rv, ns, good, rfl, hor, hnl, hb4⟩
          have hb04 := hb0r.trans (hb4.mono hb0r.size)
          have hs4 := hid (hs.out.later hb4)
          clear s1
          cases good
          · have hfin := hid (hzero.out w4 hb04)
            have hbl := hres.out.below hb04 (by have := hzAe.out; omega)
            have d0 := hbl.cell 0
            have d1 := hbl.cell 1
            have d2 := hbl.cell 2
            have f0 := hbl.frozen 0
            have f1 := hbl.frozen 1
            have f2 := hbl.frozen 2
            simp only [List.getElem?_toArray, List.getElem?_cons_zero, List.getElem?_cons_succ] at d0 d1 d2
            have hltb := hbl.lt
            clear hbl
            go_wp2
            refine bodyPost_ret (v := .tuple #[.agg #[.int .i64 0, .slice none 0 0, .slice none 0 0], .bool false]) (by simp [results, Try.results44, go_sem, d0, d1, d2]) rfl ?_
            exact hfin.out
          · obtain ⟨Ar, cr, rfl, hcr, hcr'⟩ := own_slice hor
            have hlow : Hid (∀ y ∈ xs, ∀ k, y.v.ownBlock = some k → k < wr.heap.size) := hid fun y hy k e => (hs.out.rowLt hy e).2
            have hor' := hid hor
            have hz4 := hb4.size
            have hgsl := hs4.out.blk.lt
            have b1c := hs4.out.blk.cell 1
            simp only [List.getElem?_toArray, List.getElem?_cons_zero, List.getElem?_cons_succ] at b1c
            clear hor
            go_upto_region 15 with (at_builtin; refine wpList_append_own_at _ rfl _ _ 23 rfl w2.heap.size 40 j0 (.slice none 0 0) 1 24 Try.underlying23 hj jz0 jz1 jz2 rfl (by decide) _ _ _ rfl (hs4.out.own.rows.own.alloc _) ⟨w4.heap.size, 0, none⟩ 1 1 [.slice Ar ns.length cr] rfl rfl (cell_one_new _ _ _) (by intro u hu; simp at hu; subst hu; rfl) (by unfold maxLen; omega) (by omega) (by simp; omega) ?_; intro v5 w5 hO5 hg5 _ hat5; obtain ⟨A5, c5, ev5, -, -⟩ := own_slice hO5; subst ev5; have hbl5 : Blk w5 w2.heap.size 26 #[.int .i64 a.al, .slice A1 xs.length c1, .slice A2 a.ac.length c2] := ((hs4.out.blk.alloc _).keep ((KeepB.refl _ _).grown hg5 (fun k hk _ => hk)) (fun e => own_ne hs4.out.own.rows.own hs4.out.blk (by decide) _ e rfl)); have x1 := hbl5.cell 1; have y1 := hbl5.frozen 1; simp only [List.getElem?_toArray, List.getElem?_cons_zero, List.getElem?_cons_succ] at x1; replace hO5 := hid hO5; replace hg5 := hid hg5; replace hat5 := hid hat5; replace hbl5 := hid hbl5)
            have hx5 := hid ((hs4.out.later ((Below.refl _ w4).alloc (Nat.le_refl _) (.cells #[.slice Ar ns.length cr] 40))).row (x := ⟨ns, Ar, cr⟩) (own_base (own_later_ (show w4.ownsRow wr.heap.size 3 1 (.slice Ar ns.length cr) ns.length (intVals ns) from hor'.out) ((Below.refl _ w4).alloc (Nat.le_refl _) _)) hzr)
              (fun y hy k e e2 => by have := hlow.out y hy k e; have := (hor'.out.lt k e2).1; omega) hg5.out hO5.out)
            obtain ⟨w6, hw6⟩ : ∃ w6, w5.setCell ⟨w2.heap.size, 1, none⟩ (.slice A5 (xs.length + 1) c5) = w6 := ⟨_, rfl⟩
            rw [hw6] at hx5 ⊢
            clear hw6 x1 y1 b1c
            obtain ⟨a6, ha6⟩ : ∃ a6, Hid (a6 = (⟨a.al, a.nx ++ [ns], a.ac⟩ : Au)) := ⟨_, hid rfl⟩
            rw [← ha6.out] at hx5
            have hac6 : Hid (a6.ac.length = a.ac.length) := hid (by rw [ha6.out])
            have hacl : a6.ac.length ≤ k := by rw [hac6.out]; exact hac
            have hbr6 : Below w2.heap.size w2 w6 := ⟨hx5.out.keep.os, hx5.out.keep.tape, hx5.out.keep.output, hx5.out.keep.size, fun i hi => hx5.out.keep.block i hi (fun h => h)⟩
            have s6 : w6.cell? ⟨gp, k, none⟩ = some (.string x) := by rw [hbr6.cell (by simp; omega), hb2.cell (by simpa using hg2), hx.out]; exact hP.out k hkl
            have k2 := hx5.out.blk.cell 2
            simp only [List.getElem?_toArray, List.getElem?_cons_zero, List.getElem?_cons_succ] at k2
            have e2' : (.slice A2 a.ac.length c2 : Value) = .slice A2 a6.ac.length c2 := by rw [hac6.out]
            rw [e2'] at hx5 k2
            clear e2'
            have hgs6 := hx5.out.blk.lt
            have q1 := GK.BI.cell s6
            have q2 := GK.BI.cell k2
            replace hbr6 := hid hbr6
            clear s6 k2
            refine GK.wp_region 9 [9, 10, 11] 200 (KeepB fun _ => False) (GK.BI w6) (fun _ _ _ => True) (by kernel_rfl) (by kernel_rfl) (GK.BI.way w6) (by decide) (Below.refl _ _).drew ?_
            simp only [List.take_succ_cons, List.take_zero]
            (repeat (refine GK.grow_quiet w6 (by rfl) (by rfl) ?_; intro K hK; go_big_quiet_op; go_big_quiet_on))
            refine GK.grow_new (K := fun _ => False) (by rfl) _ (fun b => .slice (some ⟨b, 0, none⟩) 1 1) 4 #[.bool tb] (fun _ => by go_simp) rfl (fun _ _ o h => GK.BI.alloc o h) (fun _ _ h => GK.BI.size h) (fun _ h => h.elim) (fun bb hbb => ?_)
            simp only [Act.put, List.setIfInBounds_toArray, List.set_cons_zero, List.set_cons_succ]
            refine GK.grow_nil ?_
            intro w8 hw8 hf
            obtain ⟨g', hge, hge2, hblk8⟩ := hf _ List.mem_cons_self
            cases hge
            clear hf q1 q2
            simp only [List.filterMap_cons, List.filterMap_nil, List.getElem?_cons_zero, List.getElem?_cons_succ]
            replace hw8 : Below w6.heap.size w6 w8 := hw8
            have hs8 := hx5.out.later hw8
            have hown8 := hs8.own.acc
            have hbl8 := hs8.blk
            have ag : (Value.slice A2 a6.ac.length c2).ownBlock ≠ some w2.heap.size := fun e => own_ne hown8 hbl8 (by decide) _ e rfl
            have hbl8' := hbl8.lt
            have k2 := hbl8.cell 2
            have f2 := hbl8.frozen 2
            simp only [List.getElem?_toArray, List.getElem?_cons_zero, List.getElem?_cons_succ] at k2
            replace hs8 := hid hs8
            refine wpList_append_own_at _ (by rfl) _ _ 24 (by rfl) w2.heap.size 4 b0 (.bool false) 1 1 Try.underlying24 hb bz0 bz1 bz2 rfl (by decide) _ a6.ac.length (boolVals a6.ac) (by rfl) hown8 ⟨bb, 0, none⟩ 1 1 [.bool tb] (by rfl) (by rfl) (World.news_of_block hblk8) ?c1 ?c3 ?c4 ?c5 ?_
            case c1 => simp [Value.oneCell']
            case c3 => unfold maxLen; omega
            case c4 => omega
            case c5 => have := hs8.out.keep.size; omega
            intro v9 w9 hown9 hgrow hnil9 hat9
            obtain ⟨A9, c9, hv9, -, -⟩ := own_slice hown9
            subst hv9
            have c2'' : w9.cell? ⟨w2.heap.size, 2, none⟩ = some (.slice A2 a6.ac.length c2) := by rw [hgrow.cell_far _ (by simpa using hbl8') (Ne.symm ag)]; exact k2
            have f2'' : w9.frozen? ⟨w2.heap.size, 2, none⟩ = false := by rw [hgrow.frozen_far _ (by simpa using hbl8') (Ne.symm ag)]; exact f2
            have hfin := hid (hs8.out.put hgrow hown9)
            clear hown8 hbl8 hown9 hgrow k2 f2
            go_wp2_with fail
            go_roundw
            case rel => exact ⟨k + 1, _, _, _, _, by go_num, by omega, by omega, by show a6.nx.length ≤ k + 1; rw [ha6.out]; simp; exact hnx, by show (a6.ac ++ _).length ≤ k + 1; rw [List.length_append]; simp; exact hacl, by
              show ∀ y ∈ a6.nx, y.length ≤ 2000
              rw [ha6.out]
              intro y hy
              rcases List.mem_append.1 hy with hy | hy
              · exact hrw y hy
              · rw [List.mem_singleton.1 hy]; exact hnl, hfin.out⟩
            case measure => simp [intOf]; omega
      · have hat := hs.own.at_
        obtain ⟨A1', c1', A2', c2', e1, e2, hat⟩ := hat
        cases e2
        have hxl' := hxl.out
        obtain ⟨m, hm⟩ : ∃ m, Hid (m = xs.length) := ⟨_, hid rfl⟩
        rw [← hm.out] at hs e1 hxl2
        have hma : Hid (m = a.nx.length) := hid (by rw [hm.out, hxl'])
        rw [hma.out] at hs e1
        cases e1
        have k0 := hs.blk.cell 0
        have k1 := hs.blk.cell 1
        have k2 := hs.blk.cell 2
        simp only [List.getElem?_toArray, List.getElem?_cons_zero, List.getElem?_cons_succ] at k0 k1 k2
        replace hat := hid hat
        clear hxl'
        go_wp2_with fail
        refine (formatAutomaton_any a A1 A2 c1 c2 wr hat.out).mono ?_
        rintro e w5 ⟨y, rfl, hb5⟩
        have hs5 := hs.later hb5
        have hb05 := hb0r.trans (hb5.mono hb0r.size)
        clear k0 k1 k2
        have k0 := hs5.blk.cell 0
        have k1 := hs5.blk.cell 1
        have k2 := hs5.blk.cell 2
        simp only [List.getElem?_toArray, List.getElem?_cons_zero, List.getElem?_cons_succ] at k0 k1 k2
        have hfin := hid (hzero.out w5 hb05)
        have hfin2 := hid (PauPost.ret (w := w) (a := a) true ⟨by omega, by omega, hrw⟩ (hs5.own.base (show w.heap.size + 1 ≤ w2.heap.size by have := hzAe.out; have := hb02.size; omega)) (hBA.trans (hb05.mono (by have := hzAe.out; omega))) (.int .i64 a.al) (.slice A1 a.nx.length c1) (.slice A2 a.ac.length c2))
        have hbl := hres.out.below hb05 (by have := hzAe.out; omega)
        have d0 := hbl.cell 0
        have d1 := hbl.cell 1
        have d2 := hbl.cell 2
        have f0 := hbl.frozen 0
        have f1 := hbl.frozen 1
        have f2 := hbl.frozen 2
        simp only [List.getElem?_toArray, List.getElem?_cons_zero, List.getElem?_cons_succ] at d0 d1 d2
        have hltb := hbl.lt
        replace hs := hid hs
        replace hs5 := hid hs5
        clear hbl
        go_wp2
        all_goals first
          | (refine bodyPost_ret (v := .tuple #[.agg #[.int .i64 a.al, .slice A1 a.nx.length c1, .slice A2 a.ac.length c2], .bool true]) (by simp [results, Try.results44, go_sem, d0, d1, d2]; done) rfl ?_; exact hfin2.out)
          | (refine bodyPost_ret (v := .tuple #[.agg #[.int .i64 0, .slice none 0 0, .slice none 0 0], .bool false]) (by simp [results, Try.results44, go_sem, d0, d1, d2]; done) rfl ?_; exact hfin.out)

end Go.Proofs.Ytdkjnemakkppfaa

/- The drawing kit: l3Draw. -/
namespace Go.Proofs.Ytdkjnemakkppfaa
open Go.RowKit Go.BigFrame AG

theorem OvQ.sz {al : Int} {a : Au} (h : OvQ al a) : AuSz 2000 a := ⟨by have := h.2.2.1; omega, by have := h.2.2.1; have := h.2.2.2.1; omega, fun r hr => by have := h.2.2.2.2 r hr; omega⟩
set_option maxRecDepth 100000 in
set_option maxHeartbeats 4000000 in
theorem l3Draw_up (R P : Nat) (w : World) (hP : P + 400000000 ≤ 1125899906842624) (hr : RdUp w R P) :
    Calls Try.prog 21 #[.pointer (some ⟨R, 0, none⟩)] w (AuUp (AuSz 2000) R (P + 40000000) w) := by
  have hR := hr.lt
  obtain ⟨wA, hwA, hzA, hBA, -⟩ := boxed w #[.int .i64 0, .slice none 0 0, .slice none 0 0] 26
  have hzAe : Hid (wA.heap.size = w.heap.size + 1) := hid (by rw [← hwA]; simp)
  have hres : Hid (Blk wA w.heap.size 26 #[.int .i64 0, .slice none 0 0, .slice none 0 0]) := hid (by rw [← hwA]; exact Blk.new _ _ _)
  have hrA := hid (hr.later hBA)
  replace hr := hid hr
  go_enter Try.func21, Try.ntmps21
  go_wp2_with fail
  refine (pick_up R P 3 wA (by omega) (by omega) hrA.out).mono ?_
  rintro e wp ⟨j, rfl, hj0, hj1, hrp, hkp⟩
  clear hwA hj1
  replace hrp := hid hrp
  replace hkp := hid hkp
  by_cases hj : j = 0
  · subst hj
    go_wp2_with fail
    refine (l3Texts_any wp).mono ?_
    rintro e wt ⟨xs, hxl, hxs, rfl, hcell, hlt, hbt⟩
    have hrt := hid (hrp.out.later hbt)
    have hRt := hrp.out.lt
    replace hcell := hid hcell
    replace hxs := hid hxs
    replace hxl := hid hxl
    go_wp2_with fail
    refine (of_up R (P + 1) wp.heap.size 0 12 12 xs wt hxl.out (by omega) (by omega) (by omega) (by omega) hlt (fun i h => hcell.out i h) hrt.out).mono ?_
    rintro e wo ⟨x, hx, rfl, hro, hko⟩
    have hx60 : x.size ≤ 900 := by have := hxs.out x hx; omega
    replace hro := hid hro
    replace hko := hid hko
    clear hx
    go_wp2_with fail
    refine (parseAutomaton_any x wo hx60).mono ?_
    rintro e wq ⟨a, v1, v2, ys, ok, rfl, hq, ho, hbq⟩
    obtain ⟨A1, c1, e1, -, -⟩ := own_slice ho.rows.own
    obtain ⟨A2, c2, e2, -, -⟩ := own_slice ho.acc
    subst e1 e2
    have kq0 : KeepB (fun b => b = R) wA wq := ((hkp.out.trans (KeepB.of_below hbt)).trans hko.out).trans (KeepB.of_below hbq)
    have hba : Below wq.heap.size wq (wq.alloc (.cells #[.int .i64 a.al, .slice A1 ys.length c1, .slice A2 a.ac.length c2] 26)) := (Below.refl _ _).alloc (Nat.le_refl _) _
    have hnb := Blk.new wq 26 #[.int .i64 a.al, .slice A1 ys.length c1, .slice A2 a.ac.length c2]
    have hrq := hid ((hro.out.later hbq).later hba)
    have hkq := hid (kq0.trans (KeepB.of_below hba))
    have hoq := hid (ho.later hba)
    have hzo : wA.heap.size ≤ wo.heap.size := ((hkp.out.trans (KeepB.of_below hbt)).trans hko.out).size
    have hsq : wq.heap.size < (wq.alloc (.cells #[.int .i64 a.al, .slice A1 ys.length c1, .slice A2 a.ac.length c2] 26)).heap.size := by simp
    replace hq := hid hq
    replace hnb := hid hnb
    clear ho
    go_upto_region 3 with fail
    generalize hwa : wq.alloc (.cells #[.int .i64 a.al, .slice A1 ys.length c1, .slice A2 a.ac.length c2] 26) = wa at *
    clear hwa
    cases ok
    · go_wp2_with fail
      refine (num_lit R (P + 1 + 1) [3, 6, 7, 5, 1, 0, 2] wa _ (by decide) (by decide) (by omega) (hrq.out)).mono ?_
      rintro e w3 ⟨al, hal, rfl, hr3, hk3⟩
      replace hr3 := hid hr3
      replace hk3 := hid hk3
      clear hal
      go_wp2_with fail
      refine (l3Over_up R (P + 1 + 1 + 1) al w3 (by omega) hr3.out).mono ?_
      rintro e w4 ⟨b, u1, u2, zs, rfl, hqb, hob, hr4, hk4⟩
      obtain ⟨B1, e1, g1, -, -⟩ := own_slice hob.rows.own
      obtain ⟨B2, e2, g2, -, -⟩ := own_slice hob.acc
      subst g1 g2
      have hkk := ((hkq.out).trans hk3.out).trans hk4
      have hz3 : wA.heap.size ≤ w3.heap.size := ((hkq.out).trans hk3.out).size
      have hbl := hres.out.keep (hkk) (by omega)
      have d0 := hbl.cell 0
      have d1 := hbl.cell 1
      have d2 := hbl.cell 2
      have f0 := hbl.frozen 0
      have f1 := hbl.frozen 1
      have f2 := hbl.frozen 2
      simp only [List.getElem?_toArray, List.getElem?_cons_zero, List.getElem?_cons_succ] at d0 d1 d2
      have hltb := hbl.lt
      have hfin := hid (AuUp.ret (w := w) (Q := AuSz 2000) (P' := P + 40000000) (a := b) hqb.sz (hob.base (show w.heap.size + 1 ≤ w3.heap.size by have := hzAe.out; omega)) (hr4) (by omega) ((KeepB.of_below hBA).trans (hkk)) hR (.int .i64 b.al) (.slice B1 zs.length e1) (.slice B2 b.ac.length e2))
      clear hbl hob hr4 hk4 hkk hqb
      go_wp2
      refine bodyPost_ret (v := .agg #[.int .i64 b.al, .slice B1 zs.length e1, .slice B2 b.ac.length e2]) (by simp [results, Try.results21, go_sem, d0, d1, d2]) rfl ?_
      exact hfin.out
    · have c0 := hnb.out.cell 0
      have c1' := hnb.out.cell 1
      have c2' := hnb.out.cell 2
      simp only [List.getElem?_toArray, List.getElem?_cons_zero, List.getElem?_cons_succ] at c0 c1' c2'
      have hbl := hres.out.keep (hkq.out) (by omega)
      have d0 := hbl.cell 0
      have d1 := hbl.cell 1
      have d2 := hbl.cell 2
      have f0 := hbl.frozen 0
      have f1 := hbl.frozen 1
      have f2 := hbl.frozen 2
      simp only [List.getElem?_toArray, List.getElem?_cons_zero, List.getElem?_cons_succ] at d0 d1 d2
      have hltb := hbl.lt
      have hfin := hid (AuUp.ret (w := w) (Q := AuSz 2000) (P' := P + 40000000) (a := a) hq.out (hoq.out.base (show w.heap.size + 1 ≤ wo.heap.size by have := hzAe.out; omega)) (hrq.out) (by omega) ((KeepB.of_below hBA).trans (hkq.out)) hR (.int .i64 a.al) (.slice A1 ys.length c1) (.slice A2 a.ac.length c2))
      clear hbl
      go_wp2
      refine bodyPost_ret (v := .agg #[.int .i64 a.al, .slice A1 ys.length c1, .slice A2 a.ac.length c2]) (by simp [results, Try.results21, go_sem, d0, d1, d2]) rfl ?_
      exact hfin.out
  · have hjb : ((j : Int) == 0) = false := by simp; omega
    replace hj := hid hj
    go_wp2_with fail
    refine (num_lit R (P + 1) [3, 6, 7, 5, 1, 0, 2] wp _ (by decide) (by decide) (by omega) (hrp.out)).mono ?_
    rintro e w3 ⟨al, hal, rfl, hr3, hk3⟩
    replace hr3 := hid hr3
    replace hk3 := hid hk3
    clear hal
    go_wp2_with fail
    refine (l3Over_up R (P + 1 + 1) al w3 (by omega) hr3.out).mono ?_
    rintro e w4 ⟨b, u1, u2, zs, rfl, hqb, hob, hr4, hk4⟩
    obtain ⟨B1, e1, g1, -, -⟩ := own_slice hob.rows.own
    obtain ⟨B2, e2, g2, -, -⟩ := own_slice hob.acc
    subst g1 g2
    have hkk := ((hkp.out).trans hk3.out).trans hk4
    have hz3 : wA.heap.size ≤ w3.heap.size := ((hkp.out).trans hk3.out).size
    have hbl := hres.out.keep (hkk) (by omega)
    have d0 := hbl.cell 0
    have d1 := hbl.cell 1
    have d2 := hbl.cell 2
    have f0 := hbl.frozen 0
    have f1 := hbl.frozen 1
    have f2 := hbl.frozen 2
    simp only [List.getElem?_toArray, List.getElem?_cons_zero, List.getElem?_cons_succ] at d0 d1 d2
    have hltb := hbl.lt
    have hfin := hid (AuUp.ret (w := w) (Q := AuSz 2000) (P' := P + 40000000) (a := b) hqb.sz (hob.base (show w.heap.size + 1 ≤ w3.heap.size by have := hzAe.out; omega)) (hr4) (by omega) ((KeepB.of_below hBA).trans (hkk)) hR (.int .i64 b.al) (.slice B1 zs.length e1) (.slice B2 b.ac.length e2))
    clear hbl hob hr4 hk4 hkk hqb
    go_wp2
    refine bodyPost_ret (v := .agg #[.int .i64 b.al, .slice B1 zs.length e1, .slice B2 b.ac.length e2]) (by simp [results, Try.results21, go_sem, d0, d1, d2]) rfl ?_
    exact hfin.out

end Go.Proofs.Ytdkjnemakkppfaa

/- The drawing kit: l5Any. -/
namespace Go.Proofs.Ytdkjnemakkppfaa
open Go.RowKit Go.BigFrame AG

/-- The automaton is replaced by one that has just been made. -/
theorem AuSt.assign {K : Nat → Prop} {w0 wr w1 : World} {gs : Nat} {v1 v2 v1' v2' : Value} {a a' : Au} {xs xs' : List RowV} (h : AuSt K w0 wr gs v1 v2 a xs) (hK : ∀ b, K b → b < w0.heap.size) (hk : KeepB K wr w1) (ho : AuOwn w1 wr.heap.size v1' v2' a' xs') :
    AuSt K w0 (((w1.setCell ⟨gs, 0, none⟩ (.int .i64 a'.al)).setCell ⟨gs, 1, none⟩ v1').setCell ⟨gs, 2, none⟩ v2') gs v1' v2' a' xs' := by
  have hge := h.ge
  have hlt := h.blk.lt
  have hz := h.keep.size
  have hb := h.blk.keep hk fun e => by have := hK _ e; omega
  have hk2 : KeepB (fun b => b = gs) w1 (((w1.setCell ⟨gs, 0, none⟩ (.int .i64 a'.al)).setCell ⟨gs, 1, none⟩ v1').setCell ⟨gs, 2, none⟩ v2') := (((KeepB.refl _ w1).setCell _ _ (by simp)).setCell _ _ (by simp)).setCell _ _ (by simp)
  exact ⟨(((h.keep.trans hk).setCell _ _ (fun e => by simp at e; omega)).setCell _ _ (fun e => by simp at e; omega)).setCell _ _ (fun e => by simp at e; omega), h.ge, (ho.keepNew hk2 (fun b e => by omega)).base (by omega), by simpa using ((hb.set_ 0 (.int .i64 a'.al)).set_ 1 v1').set_ 2 v2'⟩

set_option maxRecDepth 100000 in
set_option maxHeartbeats 8000000 in
theorem l5Any_up (R P : Nat) (w : World) (hP : P + 600000000 ≤ 1125899906842624) (hr : RdUp w R P) :
    Calls Try.prog 10 #[.pointer (some ⟨R, 0, none⟩)] w (AuUp (AuSz 3000) R (P + 100000000) w) := by
  have hR := hr.lt
  obtain ⟨wA, hwA, hzA, hBA, -⟩ := boxed w #[.int .i64 0, .slice none 0 0, .slice none 0 0] 26
  have hzAe : Hid (wA.heap.size = w.heap.size + 1) := hid (by rw [← hwA]; simp)
  have hres : Hid (Blk wA w.heap.size 26 #[.int .i64 0, .slice none 0 0, .slice none 0 0]) := hid (by rw [← hwA]; exact Blk.new _ _ _)
  have hK : ∀ b, b = R → b < wA.heap.size := fun b e => by have := hzAe.out; omega
  have hrA := hid (hr.later hBA)
  replace hr := hid hr
  go_enter Try.func10, Try.ntmps10
  go_wp2_with fail
  refine (l3Draw_up R P wA (by omega) hrA.out).mono ?_
  rintro e wd ⟨a0, v1, v2, xs0, rfl, hz0, ho0, hrd0, hk0⟩
  obtain ⟨A0, c0, B0, d0, e1, e2, -⟩ := ho0.at_
  subst e1 e2
  have hs0' := AuSt.of (K := fun b => b = R) ho0 hk0
  have hrd0' := hrd0.later ((Below.refl _ wd).alloc (Nat.le_refl _) (.cells #[.int .i64 a0.al, .slice A0 a0.nx.length c0, .slice B0 a0.ac.length d0] 26))
  obtain ⟨gs, hgs⟩ : ∃ gs, Hid (gs = wd.heap.size) := ⟨_, hid rfl⟩
  obtain ⟨w0, hw0⟩ : ∃ w0, Hid (wd.alloc (.cells #[.int .i64 a0.al, .slice A0 a0.nx.length c0, .slice B0 a0.ac.length d0] 26) = w0) := ⟨_, hid rfl⟩
  rw [hw0.out] at hrd0' hs0'
  rw [← hgs.out] at hs0'
  have hs0 := hid hs0'
  have hRgs : R < gs := by have := hs0'.ge; have := hzAe.out; omega
  have hgsR : gs ≠ R := by have := hs0'.ge; have := hzAe.out; omega
  replace hrd0 := hid hrd0'
  replace ho0 := hid ho0
  replace hk0 := hid hk0
  clear hs0' hrd0' hwA
  go_upto_region 2 with fail
  rw [hw0.out, ← hgs.out]
  clear hw0
  go_wp2_with fail
  refine (pick_up R (P + 40000000) 3 w0 (by omega) (by omega) hrd0.out).mono ?_
  rintro e w00 ⟨j0, rfl, hj0, hj1, hr00, hk00⟩
  have hs00 := hid (hs0.out.keepK hK hk00)
  replace hr00 := hid hr00
  obtain ⟨jn, rfl⟩ := Int.eq_ofNat_of_zero_le hj0
  have hjn : jn ≤ 2 := by omega
  clear hj0 hj1 hk00
  go_wp2_with fail
  go_loopw [4] (fun iv wr => ∃ (j : Nat) (a : Au) (xs : List RowV) (A B : Option Addr) (c d : Nat), iv = .int .i64 (j : Nat) ∧ j ≤ 2 ∧ AuSt (fun b => b = R) wA wr gs (.slice A a.nx.length c) (.slice B a.ac.length d) a xs ∧ AuSz (2002 - j) a ∧ RdUp wr R (P + 40000001 + (2 - j) * 4000000)) (fun iv _ => (intOf iv).toNat)
  case atStart => exact ⟨jn, a0, xs0, A0, B0, c0, d0, rfl, hjn, hs00.out, hz0.up (by omega), hr00.out.more (by omega)⟩
  case round =>
    obtain ⟨j, a1, xs1, A1, B1, c1, d1, rfl, hj2, hs1, hz1, hrd1⟩ := hrel
    have hat1 : Hid (AuAt wr A1 c1 B1 d1 a1) := hid (by
      obtain ⟨A', c', B', d', e1, e2, h⟩ := hs1.own.at_
      cases e1
      cases e2
      exact h)
    replace hs1 := hid hs1
    replace hrd1 := hid hrd1
    by_cases hj0 : j = 0
    · have hji : ¬ ((0 : Int) < (j : Int)) := by omega
      go_wp2_with fail
      refine (pick_up R (P + 40000001 + (2 - j) * 4000000) 10 wr (by omega) (by omega) hrd1.out).mono ?_
      rintro e w1p ⟨q1, rfl, -, -, hrp, hkp⟩
      have hs1p := hid (hs1.out.keepK hK hkp)
      have hrd1p := hid hrp
      clear hrp hkp
      by_cases hq1 : q1 = 0
      · have hqb1 : ((q1 : Int) == 0) = true := by simpa using hq1
        replace hq1 := hid hq1
        go_wp2_with fail
        refine (l3Big_up R (P + 40000001 + (2 - j) * 4000000 + 1) w1p (by omega) hrd1p.out).mono ?_

        rintro e wq2 ⟨a2, v1, v2, xs2, rfl, hz2, ho2, hrq2, hk2⟩
        obtain ⟨A2, c2, B2, d2, e1, e2, -⟩ := ho2.at_
        subst e1 e2
        have hs2 := hid (hs1p.out.assign hK hk2 ho2)
        have hbq := hs1p.out.blk.keep hk2 hgsR
        have x0 := hbq.cell 0
        have x1 := hbq.cell 1
        have x2 := hbq.cell 2
        have z0 := hbq.frozen 0
        have z1 := hbq.frozen 1
        have z2 := hbq.frozen 2
        simp only [List.getElem?_toArray, List.getElem?_cons_zero, List.getElem?_cons_succ] at x0 x1 x2
        have hbql := hbq.lt
        have hrd2 := hid (hrq2.keep (((((KeepB.refl (fun b => b = gs) wq2).setCell ⟨gs, 0, none⟩ (.int .i64 a2.al) (fun _ => rfl)).setCell ⟨gs, 1, none⟩ (.slice A2 a2.nx.length c2) (fun _ => rfl)).setCell ⟨gs, 2, none⟩ (.slice B2 a2.ac.length d2) (fun _ => rfl))) (fun k hk => by omega))
        obtain ⟨w2, hw2⟩ : ∃ w2, Hid (((wq2.setCell ⟨gs, 0, none⟩ (.int .i64 a2.al)).setCell ⟨gs, 1, none⟩ (.slice A2 a2.nx.length c2)).setCell ⟨gs, 2, none⟩ (.slice B2 a2.ac.length d2) = w2) := ⟨_, hid rfl⟩
        rw [hw2.out] at hs2 hrd2
        replace ho2 := hid ho2
        replace hrq2 := hid hrq2
        replace hk2 := hid hk2
        replace hbq := hid hbq
        go_upto_region 8 with fail
        rw [hw2.out]
        clear x0 x1 x2 z0 z1 z2
        have hz2' : AuSz 2100 a2 := ⟨by have := hz2.2.1; omega, by have := hz2.2.2.1; omega, fun r hr => by have := hz2.2.2.2 r hr; omega⟩
        replace hz2 := hid hz2
        have hat2 : Hid (AuAt w2 A2 c2 B2 d2 a2) := hid (by
          obtain ⟨A', c', B', d', e1, e2, h⟩ := hs2.out.own.at_
          cases e1
          cases e2
          exact h)

        go_wp2_with fail
        refine (pick_up R (P + 40000001 + (2 - j) * 4000000 + 1 + 20000000) 6 w2 (by omega) (by omega) hrd2.out).mono ?_
        rintro e w2p ⟨q2, rfl, -, -, hrp, hkp⟩
        have hs2p := hid (hs2.out.keepK hK hkp)
        have hrd2p := hid hrp
        clear hrp hkp
        by_cases hq2 : q2 = 0
        · have hqb2 : ((q2 : Int) == 0) = true := by simpa using hq2
          replace hq2 := hid hq2
          have hs2q := hs2p

          have y0 := hs2p.out.blk.cell 0
          have y1 := hs2p.out.blk.cell 1
          have y2 := hs2p.out.blk.cell 2
          simp only [List.getElem?_toArray, List.getElem?_cons_zero, List.getElem?_cons_succ] at y0 y1 y2
          have hatp := hid (show AuAt w2p A2 c2 B2 d2 a2 from by
            obtain ⟨A', c', B', d', e1, e2, h⟩ := hs2p.out.own.at_
            cases e1
            cases e2
            exact h)
          go_wp2_with fail
          refine (l3Wrong_up R (P + 40000001 + (2 - j) * 4000000 + 1 + 20000000 + 1) 2100 a2 A2 B2 c2 d2 w2p (by omega) (by omega) hz2' hrd2p.out hatp.out).mono ?_
          clear y0 y1 y2

          rintro e wq9 ⟨a9, v1, v2, xs9, rfl, hz9, ho9, hrq9, hk9⟩
          obtain ⟨A9, c9, B9, d9, e1, e2, -⟩ := ho9.at_
          subst e1 e2
          have hs9 := hid (hs2p.out.assign hK hk9 ho9)
          have hbq := hs2p.out.blk.keep hk9 hgsR
          have x0 := hbq.cell 0
          have x1 := hbq.cell 1
          have x2 := hbq.cell 2
          have z0 := hbq.frozen 0
          have z1 := hbq.frozen 1
          have z2 := hbq.frozen 2
          simp only [List.getElem?_toArray, List.getElem?_cons_zero, List.getElem?_cons_succ] at x0 x1 x2
          have hbql := hbq.lt
          have hrd9 := hid (hrq9.keep (((((KeepB.refl (fun b => b = gs) wq9).setCell ⟨gs, 0, none⟩ (.int .i64 a9.al) (fun _ => rfl)).setCell ⟨gs, 1, none⟩ (.slice A9 a9.nx.length c9) (fun _ => rfl)).setCell ⟨gs, 2, none⟩ (.slice B9 a9.ac.length d9) (fun _ => rfl))) (fun k hk => by omega))
          obtain ⟨w9, hw9⟩ : ∃ w9, Hid (((wq9.setCell ⟨gs, 0, none⟩ (.int .i64 a9.al)).setCell ⟨gs, 1, none⟩ (.slice A9 a9.nx.length c9)).setCell ⟨gs, 2, none⟩ (.slice B9 a9.ac.length d9) = w9) := ⟨_, hid rfl⟩
          rw [hw9.out] at hs9 hrd9
          replace ho9 := hid ho9
          replace hrq9 := hid hrq9
          replace hk9 := hid hk9
          replace hbq := hid hbq
          go_upto_region 10 with fail
          rw [hw9.out]
          clear x0 x1 x2 z0 z1 z2

          have y0 := hs9.out.blk.cell 0
          have y1 := hs9.out.blk.cell 1
          have y2 := hs9.out.blk.cell 2
          simp only [List.getElem?_toArray, List.getElem?_cons_zero, List.getElem?_cons_succ] at y0 y1 y2

          have hbl := hres.out.keep hs9.out.keep (by omega)
          have d0' := hbl.cell 0
          have d1' := hbl.cell 1
          have d2' := hbl.cell 2
          have f0 := hbl.frozen 0
          have f1 := hbl.frozen 1
          have f2 := hbl.frozen 2
          simp only [List.getElem?_toArray, List.getElem?_cons_zero, List.getElem?_cons_succ] at d0' d1' d2'
          have hltb := hbl.lt
          have hown := hs9.out.own
          rw [hzAe.out] at hown
          have hfin := hid (AuUp.ret (Q := AuSz 3000) (P' := P + 100000000) (hz9.up (by omega)) hown hrd9.out (by omega) ((KeepB.of_below hBA).trans hs9.out.keep) hR (.int .i64 a9.al) (.slice A9 a9.nx.length c9) (.slice B9 a9.ac.length d9))
          replace hbl := hid hbl
          replace hown := hid hown
          go_wp2
          refine bodyPost_ret (v := .agg #[.int .i64 a9.al, .slice A9 a9.nx.length c9, .slice B9 a9.ac.length d9]) (by simp [results, Try.results10, go_sem, d0', d1', d2']) rfl ?_
          exact hfin.out
        · have hqb2 : ((q2 : Int) == 0) = false := by simpa using hq2
          replace hq2 := hid hq2
          go_upto_region 10 with fail

          have y0 := hs2p.out.blk.cell 0
          have y1 := hs2p.out.blk.cell 1
          have y2 := hs2p.out.blk.cell 2
          simp only [List.getElem?_toArray, List.getElem?_cons_zero, List.getElem?_cons_succ] at y0 y1 y2

          have hbl := hres.out.keep hs2p.out.keep (by omega)
          have d0' := hbl.cell 0
          have d1' := hbl.cell 1
          have d2' := hbl.cell 2
          have f0 := hbl.frozen 0
          have f1 := hbl.frozen 1
          have f2 := hbl.frozen 2
          simp only [List.getElem?_toArray, List.getElem?_cons_zero, List.getElem?_cons_succ] at d0' d1' d2'
          have hltb := hbl.lt
          have hown := hs2p.out.own
          rw [hzAe.out] at hown
          have hfin := hid (AuUp.ret (Q := AuSz 3000) (P' := P + 100000000) (hz2'.up (by omega)) hown hrd2p.out (by omega) ((KeepB.of_below hBA).trans hs2p.out.keep) hR (.int .i64 a2.al) (.slice A2 a2.nx.length c2) (.slice B2 a2.ac.length d2))
          replace hbl := hid hbl
          replace hown := hid hown
          go_wp2
          refine bodyPost_ret (v := .agg #[.int .i64 a2.al, .slice A2 a2.nx.length c2, .slice B2 a2.ac.length d2]) (by simp [results, Try.results10, go_sem, d0', d1', d2']) rfl ?_
          exact hfin.out
      · have hqb1 : ((q1 : Int) == 0) = false := by simpa using hq1
        replace hq1 := hid hq1
        go_upto_region 8 with fail
        have hs3 := hs1p
        have hrd3 := hrd1p
        have hz3' : AuSz 2100 a1 := hz1.up (by omega)
        have hat3 : Hid (AuAt w1p A1 c1 B1 d1 a1) := hid (by
          obtain ⟨A', c', B', d', e1, e2, h⟩ := hs1p.out.own.at_
          cases e1
          cases e2
          exact h)

        go_wp2_with fail
        refine (pick_up R (P + 40000001 + (2 - j) * 4000000 + 1) 6 w1p (by omega) (by omega) hrd3.out).mono ?_
        rintro e w3p ⟨q3, rfl, -, -, hrp, hkp⟩
        have hs3p := hid (hs3.out.keepK hK hkp)
        have hrd3p := hid hrp
        clear hrp hkp
        by_cases hq2 : q3 = 0
        · have hqb2 : ((q3 : Int) == 0) = true := by simpa using hq2
          replace hq2 := hid hq2
          have hs3q := hs3p

          have y0 := hs3p.out.blk.cell 0
          have y1 := hs3p.out.blk.cell 1
          have y2 := hs3p.out.blk.cell 2
          simp only [List.getElem?_toArray, List.getElem?_cons_zero, List.getElem?_cons_succ] at y0 y1 y2
          have hatp := hid (show AuAt w3p A1 c1 B1 d1 a1 from by
            obtain ⟨A', c', B', d', e1, e2, h⟩ := hs3p.out.own.at_
            cases e1
            cases e2
            exact h)
          go_wp2_with fail
          refine (l3Wrong_up R (P + 40000001 + (2 - j) * 4000000 + 1 + 1) 2100 a1 A1 B1 c1 d1 w3p (by omega) (by omega) hz3' hrd3p.out hatp.out).mono ?_
          clear y0 y1 y2

          rintro e wq9 ⟨a9, v1, v2, xs9, rfl, hz9, ho9, hrq9, hk9⟩
          obtain ⟨A9, c9, B9, d9, e1, e2, -⟩ := ho9.at_
          subst e1 e2
          have hs9 := hid (hs3p.out.assign hK hk9 ho9)
          have hbq := hs3p.out.blk.keep hk9 hgsR
          have x0 := hbq.cell 0
          have x1 := hbq.cell 1
          have x2 := hbq.cell 2
          have z0 := hbq.frozen 0
          have z1 := hbq.frozen 1
          have z2 := hbq.frozen 2
          simp only [List.getElem?_toArray, List.getElem?_cons_zero, List.getElem?_cons_succ] at x0 x1 x2
          have hbql := hbq.lt
          have hrd9 := hid (hrq9.keep (((((KeepB.refl (fun b => b = gs) wq9).setCell ⟨gs, 0, none⟩ (.int .i64 a9.al) (fun _ => rfl)).setCell ⟨gs, 1, none⟩ (.slice A9 a9.nx.length c9) (fun _ => rfl)).setCell ⟨gs, 2, none⟩ (.slice B9 a9.ac.length d9) (fun _ => rfl))) (fun k hk => by omega))
          obtain ⟨w9, hw9⟩ : ∃ w9, Hid (((wq9.setCell ⟨gs, 0, none⟩ (.int .i64 a9.al)).setCell ⟨gs, 1, none⟩ (.slice A9 a9.nx.length c9)).setCell ⟨gs, 2, none⟩ (.slice B9 a9.ac.length d9) = w9) := ⟨_, hid rfl⟩
          rw [hw9.out] at hs9 hrd9
          replace ho9 := hid ho9
          replace hrq9 := hid hrq9
          replace hk9 := hid hk9
          replace hbq := hid hbq
          go_upto_region 10 with fail
          rw [hw9.out]
          clear x0 x1 x2 z0 z1 z2

          have y0 := hs9.out.blk.cell 0
          have y1 := hs9.out.blk.cell 1
          have y2 := hs9.out.blk.cell 2
          simp only [List.getElem?_toArray, List.getElem?_cons_zero, List.getElem?_cons_succ] at y0 y1 y2

          have hbl := hres.out.keep hs9.out.keep (by omega)
          have d0' := hbl.cell 0
          have d1' := hbl.cell 1
          have d2' := hbl.cell 2
          have f0 := hbl.frozen 0
          have f1 := hbl.frozen 1
          have f2 := hbl.frozen 2
          simp only [List.getElem?_toArray, List.getElem?_cons_zero, List.getElem?_cons_succ] at d0' d1' d2'
          have hltb := hbl.lt
          have hown := hs9.out.own
          rw [hzAe.out] at hown
          have hfin := hid (AuUp.ret (Q := AuSz 3000) (P' := P + 100000000) (hz9.up (by omega)) hown hrd9.out (by omega) ((KeepB.of_below hBA).trans hs9.out.keep) hR (.int .i64 a9.al) (.slice A9 a9.nx.length c9) (.slice B9 a9.ac.length d9))
          replace hbl := hid hbl
          replace hown := hid hown
          go_wp2
          refine bodyPost_ret (v := .agg #[.int .i64 a9.al, .slice A9 a9.nx.length c9, .slice B9 a9.ac.length d9]) (by simp [results, Try.results10, go_sem, d0', d1', d2']) rfl ?_
          exact hfin.out
        · have hqb2 : ((q3 : Int) == 0) = false := by simpa using hq2
          replace hq2 := hid hq2
          go_upto_region 10 with fail

          have y0 := hs3p.out.blk.cell 0
          have y1 := hs3p.out.blk.cell 1
          have y2 := hs3p.out.blk.cell 2
          simp only [List.getElem?_toArray, List.getElem?_cons_zero, List.getElem?_cons_succ] at y0 y1 y2

          have hbl := hres.out.keep hs3p.out.keep (by omega)
          have d0' := hbl.cell 0
          have d1' := hbl.cell 1
          have d2' := hbl.cell 2
          have f0 := hbl.frozen 0
          have f1 := hbl.frozen 1
          have f2 := hbl.frozen 2
          simp only [List.getElem?_toArray, List.getElem?_cons_zero, List.getElem?_cons_succ] at d0' d1' d2'
          have hltb := hbl.lt
          have hown := hs3p.out.own
          rw [hzAe.out] at hown
          have hfin := hid (AuUp.ret (Q := AuSz 3000) (P' := P + 100000000) (hz3'.up (by omega)) hown hrd3p.out (by omega) ((KeepB.of_below hBA).trans hs3p.out.keep) hR (.int .i64 a1.al) (.slice A1 a1.nx.length c1) (.slice B1 a1.ac.length d1))
          replace hbl := hid hbl
          replace hown := hid hown
          go_wp2
          refine bodyPost_ret (v := .agg #[.int .i64 a1.al, .slice A1 a1.nx.length c1, .slice B1 a1.ac.length d1]) (by simp [results, Try.results10, go_sem, d0', d1', d2']) rfl ?_
          exact hfin.out
    · have hji : (0 : Int) < (j : Int) := by omega
      have y0 := hs1.out.blk.cell 0
      have y1 := hs1.out.blk.cell 1
      have y2 := hs1.out.blk.cell 2
      simp only [List.getElem?_toArray, List.getElem?_cons_zero, List.getElem?_cons_succ] at y0 y1 y2
      go_wp2_with fail
      refine (l4Change_up R (P + 40000001 + (2 - j) * 4000000) (2002 - j) a1 A1 B1 c1 d1 wr (by omega) (by omega) hz1 hrd1.out hat1.out).mono ?_
      clear y0 y1 y2
      rintro e wq2 ⟨a2, v1, v2, xs2, rfl, hz2, ho2, hrq2, hk2⟩
      obtain ⟨A2, c2, B2, d2, e1, e2, -⟩ := ho2.at_
      subst e1 e2
      have hs2 := hid (hs1.out.assign hK hk2 ho2)
      have hbq := hs1.out.blk.keep hk2 hgsR
      have x0 := hbq.cell 0
      have x1 := hbq.cell 1
      have x2 := hbq.cell 2
      have z0 := hbq.frozen 0
      have z1 := hbq.frozen 1
      have z2 := hbq.frozen 2
      simp only [List.getElem?_toArray, List.getElem?_cons_zero, List.getElem?_cons_succ] at x0 x1 x2
      have hbql := hbq.lt
      have hrd2 := hid (hrq2.keep (((((KeepB.refl (fun b => b = gs) wq2).setCell ⟨gs, 0, none⟩ (.int .i64 a2.al) (fun _ => rfl)).setCell ⟨gs, 1, none⟩ (.slice A2 a2.nx.length c2) (fun _ => rfl)).setCell ⟨gs, 2, none⟩ (.slice B2 a2.ac.length d2) (fun _ => rfl))) (fun k hk => by omega))
      obtain ⟨w2, hw2⟩ : ∃ w2, Hid (((wq2.setCell ⟨gs, 0, none⟩ (.int .i64 a2.al)).setCell ⟨gs, 1, none⟩ (.slice A2 a2.nx.length c2)).setCell ⟨gs, 2, none⟩ (.slice B2 a2.ac.length d2) = w2) := ⟨_, hid rfl⟩
      rw [hw2.out] at hs2 hrd2
      replace ho2 := hid ho2
      replace hrq2 := hid hrq2
      replace hk2 := hid hk2
      replace hbq := hid hbq
      go_wp2_with fail
      rw [hw2.out]
      clear x0 x1 x2 z0 z1 z2
      go_wp2_with fail
      go_roundw
      case rel => exact ⟨j - 1, a2, xs2, A2, B2, c2, d2, by go_num, by omega, hs2.out, hz2.up (by omega), hrd2.out.more (by omega)⟩
      case measure => simp [intOf]; omega

end Go.Proofs.Ytdkjnemakkppfaa

/- The drawing kit: DrawSystemOf, DrawMinimizeAutomaton. -/
namespace Go.Proofs.Ytdkjnemakkppfaa
open Go.RowKit Go.BigFrame AG

/-- Some automaton comes back, made since. -/
def DrawAu (w : World) (e : Ending) (w' : World) : Prop := ∃ (a : Au) (A B : Option Addr) (c d : Nat) (xs : List RowV), e = .returned (a.val A c B d) ∧ AuSz 3000 a ∧ AuOwn w' w.heap.size (.slice A a.nx.length c) (.slice B a.ac.length d) a xs ∧ Below w.heap.size w w'
theorem DrawAu.ret {w w1 : World} {a : Au} {A B : Option Addr} {c d : Nat} {xs : List RowV} (h1 : AuSz 3000 a) (ho : AuOwn w1 (w.heap.size + 1) (.slice A a.nx.length c) (.slice B a.ac.length d) a xs) (hb : Below w.heap.size w w1) (u1 u2 u3 : Value) :
    DrawAu w (.returned (.agg #[.int .i64 a.al, .slice A a.nx.length c, .slice B a.ac.length d])) (((w1.setCell ⟨w.heap.size, 0, none⟩ u1).setCell ⟨w.heap.size, 1, none⟩ u2).setCell ⟨w.heap.size, 2, none⟩ u3) := by
  have hk2 : KeepB (fun b => b = w.heap.size) w1 (((w1.setCell ⟨w.heap.size, 0, none⟩ u1).setCell ⟨w.heap.size, 1, none⟩ u2).setCell ⟨w.heap.size, 2, none⟩ u3) := (((KeepB.refl _ w1).setCell _ _ (by simp)).setCell _ _ (by simp)).setCell _ _ (by simp)
  exact ⟨a, A, B, c, d, xs, rfl, h1, (ho.keepNew hk2 (fun b e => by omega)).base (by omega), ((hb.setCell (by simp) _).setCell (by simp) _).setCell (by simp) _⟩



end Go.Proofs.Ytdkjnemakkppfaa

/- A system with only some of its states: the program's subSystem, the reference's l2Keep. -/
namespace Go.Proofs.Ytdkjnemakkppfaa
open Go.RowKit Go.BigFrame AG

/-- The result under way: its own block gs, its edges a row that the call owns. -/
structure SubSt (w0 wr : World) (gs : Nat) (al st : Int) (v : Value) (es : List Ed) : Prop where
  blk : Blk wr gs 104 #[.int .i64 al, .int .i64 st, v]
  own : wr.ownsRow w0.heap.size 112 3 v es.length (edCells es)
  low : w0.heap.size ≤ gs
  keep : Below w0.heap.size w0 wr
theorem SubSt.later {w0 wr w1 : World} {gs : Nat} {al st : Int} {v : Value} {es : List Ed} (h : SubSt w0 wr gs al st v es) (hb : Below wr.heap.size wr w1) : SubSt w0 w1 gs al st v es :=
  ⟨h.blk.below hb h.blk.lt, own_later h.own hb, h.low, h.keep.trans (hb.mono h.keep.size)⟩
theorem SubSt.add {w0 wr w1 : World} {gs gg cap : Nat} {al st : Int} {v : Value} {es : List Ed} {x : Ed} (h : SubSt w0 wr gs al st v es)
    (hown : w1.ownsRow w0.heap.size 112 3 (.slice (some ⟨gg, 0, none⟩) (es.length + 1) cap) (es.length + 1) (edCells es ++ [.int .i64 x.f, .int .i64 x.l, .int .i64 x.t])) (hg : wr.grownBy w1 v.ownBlock) :
    SubSt w0 (w1.setCell ⟨gs, 2, none⟩ (.slice (some ⟨gg, 0, none⟩) (es.length + 1) cap)) gs al st (.slice (some ⟨gg, 0, none⟩) (es.length + 1) cap) (es ++ [x]) := by
  have hne : v.ownBlock ≠ some gs := fun e => own_ne h.own h.blk (by decide) gs e rfl
  have hb1 : Blk w1 gs 104 #[.int .i64 al, .int .i64 st, v] := by
    have := hg.block gs h.blk.lt (Ne.symm hne)
    exact this.trans h.blk
  have hne2 : (Value.slice (some ⟨gg, 0, none⟩) (es.length + 1) cap).ownBlock ≠ some gs := fun e => own_ne hown hb1 (by decide) gs e rfl
  refine ⟨by simpa using hb1.set_ 2 (.slice (some ⟨gg, 0, none⟩) (es.length + 1) cap), ?_, h.low, ?_⟩
  · have e : (es ++ [x]).length = es.length + 1 := by simp
    rw [e, edCells_append]
    exact ownsRow_setCell_other hown hne2 _
  · exact Below.setCell (h.keep.grown hg h.keep.size (fun k hk => (h.own.lt k hk).1)) (by have := h.low; simpa using this) _

end Go.Proofs.Ytdkjnemakkppfaa

/- The reference's SystemOf. -/
namespace Go.Proofs.Ytdkjnemakkppfaa
open Go.RowKit Go.BigFrame AG

def SoPost (w : World) (x : Sy) (ok : Bool) (e : Ending) (w' : World) : Prop := ∃ (A : Option Addr) (c : Nat), e = .returned (.tuple #[x.val A c, .bool ok]) ∧ x.es.length ≤ c ∧ c ≤ 9223372036854775807 ∧ EdsAt w' w'.heap.size A x.es ∧ FreshA w.heap.size A ∧ Below w.heap.size w w'
def SoOwn (w : World) (x : Sy) (ok : Bool) (e : Ending) (w' : World) : Prop := ∃ (A : Option Addr) (c : Nat), e = .returned (.tuple #[x.val A c, .bool ok]) ∧ OwnEds w' w.heap.size (.slice A x.es.length c) x.es ∧ Below w.heap.size w w'
theorem SoOwn.read {w : World} {x : Sy} {ok : Bool} {e : Ending} {w' : World} (h : SoOwn w x ok e w') : SoPost w x ok e w' := by
  obtain ⟨A, c, h1, h2, h3⟩ := h
  obtain ⟨A', c', e', k1, k2, k3, k4⟩ := OwnEds.read h2
  cases e'
  exact ⟨A, c, h1, k1, k2, k3, k4, h3⟩

/-- The system under way, and the letters. -/
structure SoSt (w0 wr : World) (gs : Nat) (al st : Int) (v : Value) (es : List Ed) (lv : Value) (L : List Nat) : Prop where
  sub : SubSt w0 wr gs al st v es
  list : OwnNats wr w0.heap.size lv L
theorem SoSt.later {w0 wr w1 : World} {gs : Nat} {al st : Int} {v lv : Value} {es : List Ed} {L : List Nat} (h : SoSt w0 wr gs al st v es lv L) (hb : Below wr.heap.size wr w1) : SoSt w0 w1 gs al st v es lv L := ⟨h.sub.later hb, own_later h.list hb⟩
theorem SoSt.add {w0 wr w1 : World} {gs gg cap : Nat} {al st : Int} {v lv : Value} {es : List Ed} {L : List Nat} {x : Ed} (h : SoSt w0 wr gs al st v es lv L)
    (hown : w1.ownsRow w0.heap.size 112 3 (.slice (some ⟨gg, 0, none⟩) (es.length + 1) cap) (es.length + 1) (edCells es ++ [.int .i64 x.f, .int .i64 x.l, .int .i64 x.t])) (hg : wr.grownBy w1 v.ownBlock) :
    SoSt w0 (w1.setCell ⟨gs, 2, none⟩ (.slice (some ⟨gg, 0, none⟩) (es.length + 1) cap)) gs al st (.slice (some ⟨gg, 0, none⟩) (es.length + 1) cap) (es ++ [x]) lv L := by
  have hbl : wr.grownBy w1 v.ownBlock := hg
  refine ⟨h.sub.add hown hg, ?_⟩
  have k2 : KeepB (fun b => v.ownBlock = some b ∨ b = gs) wr (w1.setCell ⟨gs, 2, none⟩ (.slice (some ⟨gg, 0, none⟩) (es.length + 1) cap)) := ((((KeepB.refl _ wr).grown hg (fun k hk _ => hk)).mono fun _ h => .inl h).setCell _ _ fun _ => .inr rfl)
  exact own_keep h.list k2 fun g hg hk => by
    rcases hk with hk | hk
    · exact own_ne_own h.list h.sub.own (by decide) g g hg hk rfl
    · exact own_ne h.list h.sub.blk (by decide) g hg hk

end Go.Proofs.Ytdkjnemakkppfaa

/- The program's SystemOf. -/
namespace Go.Proofs.Ytdkjnemakkppfaa
open Go.RowKit Go.BigFrame AG

structure SoSt2 (w0 wr : World) (gs : Nat) (al st : Int) (v : Value) (es : List Ed) (lv : Value) (L : List Nat) (mv : Value) (M : List Nat) : Prop where
  so : SoSt w0 wr gs al st v es lv L
  mem : OwnNats wr w0.heap.size mv M
theorem SoSt2.later {w0 wr w1 : World} {gs : Nat} {al st : Int} {v lv mv : Value} {es : List Ed} {L M : List Nat} (h : SoSt2 w0 wr gs al st v es lv L mv M) (hb : Below wr.heap.size wr w1) : SoSt2 w0 w1 gs al st v es lv L mv M := ⟨h.so.later hb, own_later h.mem hb⟩
theorem SoSt2.add {w0 wr w1 : World} {gs gg cap : Nat} {al st : Int} {v lv mv : Value} {es : List Ed} {L M : List Nat} {x : Ed} (h : SoSt2 w0 wr gs al st v es lv L mv M)
    (hown : w1.ownsRow w0.heap.size 112 3 (.slice (some ⟨gg, 0, none⟩) (es.length + 1) cap) (es.length + 1) (edCells es ++ [.int .i64 x.f, .int .i64 x.l, .int .i64 x.t])) (hg : wr.grownBy w1 v.ownBlock) :
    SoSt2 w0 (w1.setCell ⟨gs, 2, none⟩ (.slice (some ⟨gg, 0, none⟩) (es.length + 1) cap)) gs al st (.slice (some ⟨gg, 0, none⟩) (es.length + 1) cap) (es ++ [x]) lv L mv M :=
  ⟨h.so.add hown hg, (SoSt.add (lv := mv) (L := M) ⟨h.so.sub, h.mem⟩ hown hg).list⟩

end Go.Proofs.Ytdkjnemakkppfaa

/- impl.SafetyPart. -/
namespace Go.Proofs.Ytdkjnemakkppfaa
open Go.RowKit Go.BigFrame AG

def safX (a : Au) : Au := if auOk a = true then safA a else ⟨0, [], []⟩
def SafOwn (w : World) (a : Au) (e : Ending) (w' : World) : Prop := ∃ v1 v2 xs, e = .returned (.tuple #[.agg #[.int .i64 (safX a).al, v1, v2], .bool (auOk a)]) ∧ AuOwn w' w.heap.size v1 v2 (safX a) xs ∧ Below w.heap.size w w'
def nxAt (a : Au) (i : Nat) : List (List Int) := (safA a).nx.take i ++ a.nx.drop i
def rowK (a : Au) (i k : Nat) (r : List Int) : List Int := if a.ac.getD i false = true then r else List.replicate k (i : Int) ++ r.drop k
theorem rowK_len {a : Au} {i k : Nat} {r : List Int} (h : k ≤ r.length) : (rowK a i k r).length = r.length := by
  unfold rowK
  split
  · rfl
  · rw [List.length_append, List.length_replicate, List.length_drop]; omega
theorem rowK_zero (a : Au) (i : Nat) (r : List Int) : rowK a i 0 r = r := by unfold rowK; split <;> simp
theorem rowK_full (a : Au) (i : Nat) (r : List Int) : rowK a i r.length r = safNx a i r := by
  unfold rowK safNx
  split
  · rfl
  · rw [List.drop_length, List.append_nil, List.map_const']
theorem rowK_yes {a : Au} {i : Nat} (h : a.ac.getD i false = true) (k k' : Nat) (r : List Int) : rowK a i k r = rowK a i k' r := by unfold rowK; rw [if_pos h, if_pos h]
theorem rowK_no {a : Au} {i k : Nat} {r : List Int} (h : a.ac.getD i false = false) (hk : k < r.length) : (rowK a i k r).set k (i : Int) = rowK a i (k + 1) r := by
  unfold rowK
  rw [if_neg (by rw [h]; decide), if_neg (by rw [h]; decide), List.set_append_right _ _ (by rw [List.length_replicate]; exact Nat.le_refl _), List.length_replicate, Nat.sub_self, List.drop_eq_getElem_cons hk, List.set_cons_zero, List.replicate_succ', List.append_assoc]
  rfl
theorem nxAt_zero (a : Au) : nxAt a 0 = a.nx := by unfold nxAt; simp
theorem nxAt_full (a : Au) : nxAt a a.nx.length = (safA a).nx := by
  unfold nxAt
  rw [List.drop_length, List.append_nil, List.take_of_length_le (by rw [safA_len]; exact Nat.le_refl _)]
theorem nxAt_split {a : Au} {i : Nat} (h : i < a.nx.length) {l1 l2 : List RowV} {r : List Int} {Ax : Option Addr} {cx : Nat} (hl : l1.length = i) (e : (l1 ++ (⟨r, Ax, cx⟩ : RowV) :: l2).map (·.r) = nxAt a i) :
    r = a.nx[i] ∧ (l1 ++ (⟨rowK a i r.length r, Ax, cx⟩ : RowV) :: l2).map (·.r) = nxAt a (i + 1) := by
  unfold nxAt at e ⊢
  rw [List.map_append, List.map_cons] at e
  have hlen : (l1.map (·.r)).length = ((safA a).nx.take i).length := by rw [List.length_map, List.length_take, safA_len]; omega
  obtain ⟨e1, e2⟩ := List.append_inj e hlen
  rw [List.drop_eq_getElem_cons h] at e2
  have e3 : r = a.nx[i] := by injection e2
  have e4 : l2.map (·.r) = a.nx.drop (i + 1) := by injection e2
  refine ⟨e3, ?_⟩
  rw [List.map_append, List.map_cons, e1, e4, rowK_full, List.take_succ_eq_append_getElem (show i < (safA a).nx.length by rw [safA_len]; exact h), List.append_assoc]
  have e5 : (safA a).nx[i]'(by rw [safA_len]; exact h) = safNx a i a.nx[i] := by
    show (a.nx.mapIdx (safNx a))[i]'(by simpa using h) = _
    simp
  rw [e5, ← e3]
  rfl


end Go.Proofs.Ytdkjnemakkppfaa

/- spec.SafetyPart. -/
namespace Go.Proofs.Ytdkjnemakkppfaa
open Go.RowKit Go.BigFrame AG

set_option maxRecDepth 100000 in
set_option maxHeartbeats 8000000 in
theorem specSafetyPart_any (a : Au) (A B : Option Addr) (c d : Nat) (w : World) (ha : AuAt w A c B d a) :
    Calls Try.prog 11 #[a.val A c B d] w (SafOwn w a) := by
  obtain ⟨w0, hw0, hz0, hB0, hS, -⟩ := boxed2 w #[Value.int IntKind.i64 a.al, Value.slice A a.nx.length c, Value.slice B a.ac.length d] 26 #[Value.int IntKind.i64 0, Value.slice none 0 0, Value.slice none 0 0] 26
  have hz0e : Hid (w0.heap.size = w.heap.size + 2) := hid (by rw [← hw0]; simp)
  have hres : Hid (Blk w0 (w.heap.size + 1) 26 #[Value.int IntKind.i64 0, Value.slice none 0 0, Value.slice none 0 0]) := hid (by
    rw [← hw0]
    have := Blk.new (w.alloc (.cells #[Value.int IntKind.i64 a.al, Value.slice A a.nx.length c, Value.slice B a.ac.length d] 26)) 26 #[Value.int IntKind.i64 0, Value.slice none 0 0, Value.slice none 0 0]
    simpa using this)
  have ha0 := hid (ha.later hB0)
  have p0 := hS 0 _ rfl _ (Below.refl _ _)
  have p1 := hS 1 _ rfl _ (Below.refl _ _)
  have p2 := hS 2 _ rfl _ (Below.refl _ _)
  replace ha := hid ha
  unfold AG.Au.val
  go_enter Try.func11, Try.ntmps11
  go_wp2_with fail
  refine (specAutomatonValid_any a A B c d w0 ha0.out).mono ?_
  rintro e w1 ⟨rfl, hb1⟩
  have hz1 := hb1.size
  have hbl1 := hid (hres.out.below hb1 hres.out.lt)
  clear p0 p1 p2 hw0
  cases hok : auOk a
  · have d0 := hbl1.out.cell 0
    have d1 := hbl1.out.cell 1
    have d2 := hbl1.out.cell 2
    have f0 := hbl1.out.frozen 0
    have f1 := hbl1.out.frozen 1
    have f2 := hbl1.out.frozen 2
    simp only [List.getElem?_toArray, List.getElem?_cons_zero, List.getElem?_cons_succ] at d0 d1 d2
    have hlt := hbl1.out.lt
    have hfin : Hid (SafOwn w a (.returned (.tuple #[.agg #[.int .i64 0, .slice none 0 0, .slice none 0 0], .bool false])) (((w1.setCell ⟨w.heap.size + 1, 0, none⟩ (.int .i64 0)).setCell ⟨w.heap.size + 1, 1, none⟩ (.slice none 0 0)).setCell ⟨w.heap.size + 1, 2, none⟩ (.slice none 0 0))) := hid (by
      unfold SafOwn safX
      rw [hok]
      refine ⟨.slice none 0 0, .slice none 0 0, [], rfl, ⟨⟨World.ownsRow_nil _ _ _ _, fun x hx => (by cases hx), List.Pairwise.nil⟩, rfl, World.ownsRow_nil _ _ _ _⟩, ?_⟩
      exact (((hB0.trans (hb1.mono hB0.size)).setCell (by simp) _).setCell (by simp) _).setCell (by simp) _)
    replace hok := hid hok
    go_wp2
    refine bodyPost_ret (v := .tuple #[.agg #[.int .i64 0, .slice none 0 0, .slice none 0 0], .bool false]) (by simp [results, Try.results11, go_sem, d0, d1, d2]) rfl ?_
    exact hfin.out
  · obtain ⟨-, hn1, hn12, hml, hrl⟩ := (auOk_iff a).1 hok
    have hsz : AuSz 1000000 a := ⟨by omega, by omega, fun r hr => by
      have h1 := (hrl r hr).1
      have h2 := lettersTo_len a.al 6
      have h3 : (letters a.al).length ≤ 6 := h2
      omega⟩
    have p0 := hS 0 _ rfl _ (hb1.mono hz0)
    have p1 := hS 1 _ rfl _ (hb1.mono hz0)
    have p2 := hS 2 _ rfl _ (hb1.mono hz0)
    have ha1 := hid (ha0.out.later hb1)
    replace hok := hid hok
    replace hml := hid hml
    replace hrl := hid hrl
    replace hn1 := hid hn1
    replace hn12 := hid hn12
    replace hsz := hid hsz
    go_wp2_with fail
    refine (l3Copy_any a A B c d w1 hsz.out ha1.out).mono ?_
    rintro e w2 ⟨v1, v2, xs, rfl, ho, hb2⟩
    obtain ⟨A1, c1, e1, -, -⟩ := own_slice ho.rows.own
    obtain ⟨A2, c2, e2, -, -⟩ := own_slice ho.acc
    subst e1 e2
    have hst := AuSt.of (K := fun _ => False) ho (KeepB.of_below hb2)
    obtain ⟨n, hnx⟩ : ∃ n, Hid (n = a.nx.length) := ⟨_, hid rfl⟩
    have hxl := hst.len
    rw [hxl, ← hnx.out] at hst ⊢
    obtain ⟨m, hac⟩ : ∃ m, Hid (m = a.ac.length) := ⟨_, hid rfl⟩
    rw [← hac.out] at hst ⊢
    replace hxl := hid hxl
    have hnp : n ≤ 12 ∧ m = n := by have := hnx.out; have := hac.out; have := hn12.out; have := hml.out; omega
    obtain ⟨hn12', hmn⟩ := hnp
    replace hmn := hid hmn
    obtain ⟨gs, hgs⟩ : ∃ gs, Hid (gs = w2.heap.size) := ⟨_, hid rfl⟩
    obtain ⟨w3, hw3⟩ : ∃ w3, Hid (w2.alloc (.cells #[.int .i64 a.al, .slice A1 n c1, .slice A2 m c2] 26) = w3) := ⟨_, hid rfl⟩
    rw [hw3.out] at hst
    rw [← hgs.out] at hst
    have hB03 : ∀ {wr : World} {v1 v2 : Value} {x : Au} {ys : List RowV}, AuSt (fun _ => False) w1 wr gs v1 v2 x ys → Below w1.heap.size w1 wr := fun h => ⟨h.keep.os, h.keep.tape, h.keep.output, h.keep.size, fun i hi => h.keep.block i hi (fun h => h)⟩
    replace hst := hid hst
    replace ho := hid ho
    replace hb2 := hid hb2
    clear p0 p1 p2
    go_upto_region 4 with fail
    rw [hw3.out, ← hgs.out]
    clear hw3 hgs
    have hgsl := hst.out.blk.lt
    go_wp2_with fail
    go_loopw [5] (fun iv wr => ∃ (i : Nat) (ys : List RowV), iv = .int .i64 (i : Nat) ∧ i ≤ n ∧ AuSt (fun _ => False) w1 wr gs (.slice A1 n c1) (.slice A2 m c2) ⟨a.al, nxAt a i, a.ac⟩ ys) (fun iv _ => n - (intOf iv).toNat)
    case atStart => exact ⟨0, xs, rfl, by omega, by rw [nxAt_zero]; exact hst.out⟩
    case round =>
      obtain ⟨i, ys, rfl, hi', hs⟩ := hrel
      have hbr := hB03 hs
      have k1 := hs.blk.cell 1
      simp only [List.getElem?_toArray, List.getElem?_cons_zero, List.getElem?_cons_succ] at k1
      by_cases hlt : i < n
      · have hsplit' : ∃ (l1 l2 : List RowV) (r : List Int) (Ax : Option Addr) (cx : Nat), ys = l1 ++ ⟨r, Ax, cx⟩ :: l2 ∧ l1.length = i := by
          refine row_split ?_
          have h1 := hs.len
          have h2 : (⟨a.al, nxAt a i, a.ac⟩ : Au).nx.length = a.nx.length := by
            show (nxAt a i).length = _
            unfold nxAt
            rw [List.length_append, List.length_take, List.length_drop, safA_len]
            have := hnx.out
            omega
          have := hnx.out
          omega
        obtain ⟨l1, l2, r, Ax, cx, hsp, hl1⟩ := hsplit'
        subst hsp
        have hnl : Hid (n = (l1 ++ (⟨r, Ax, cx⟩ : RowV) :: l2).length) := hid (by
          obtain ⟨A', c', e', -, -⟩ := own_slice hs.own.rows.own
          injection e')
        have hrr := nxAt_split (by have := hnx.out; omega) hl1 hs.own.eq
        have hr6 : r.length ≤ 1000000 := by rw [hrr.1]; exact hsz.out.2.2 _ (List.getElem_mem _)
        replace hrr := hid hrr
        obtain ⟨gT, capT, hveT, -, -, -, -, hcellT⟩ := own_shape hs.own.rows.own (by have := hnl.out; omega)
        have eT : A1 = some ⟨gT, 0, none⟩ := by injection hveT
        subst eT
        have t0 : wr.cell? ⟨gT, i, none⟩ = some (.slice Ax r.length cx) := hcellT i _ (row_at_ hl1)
        have ki : (0 : Int) ≤ (i : Int) ∧ (i : Int) < (n : Int) := by omega
        have h0 : Hid (AuSt (fun _ => False) w1 wr gs (.slice (some ⟨gT, 0, none⟩) n c1) (.slice A2 m c2) ⟨a.al, (l1 ++ (⟨rowK a i 0 r, Ax, cx⟩ : RowV) :: l2).map (·.r), a.ac⟩ (l1 ++ ⟨rowK a i 0 r, Ax, cx⟩ :: l2)) := hid (by
          rw [rowK_zero, hs.own.eq]
          exact hs)
        replace hs := hid hs
        replace hbr := hid hbr
        replace hl1 := hid hl1
        replace hcellT := hid hcellT
        clear hveT
        go_wp2_with fail
        clear t0 k1
        go_loopw [6] (fun kv wr => ∃ (k : Nat), kv = .int .i64 (k : Nat) ∧ k ≤ r.length ∧ AuSt (fun _ => False) w1 wr gs (.slice (some ⟨gT, 0, none⟩) n c1) (.slice A2 m c2) ⟨a.al, (l1 ++ (⟨rowK a i k r, Ax, cx⟩ : RowV) :: l2).map (·.r), a.ac⟩ (l1 ++ ⟨rowK a i k r, Ax, cx⟩ :: l2)) (fun kv _ => r.length - (intOf kv).toNat)
        case atStart => exact ⟨0, rfl, by omega, h0.out⟩
        case round =>
          obtain ⟨k, rfl, hk', hs2⟩ := hrel
          have hbr2 := hB03 hs2
          have k1 := hs2.blk.cell 1
          obtain ⟨gT', capT', hveT', -, -, -, -, hcellT'⟩ := own_shape hs2.own.rows.own (by have := hnl.out; rw [List.length_append, List.length_cons] at this ⊢; omega)
          have eT' : gT = gT' := by injection hveT' with h1; injection h1 with h1; injection h1
          subst eT'
          have t0 : wr.cell? ⟨gT, i, none⟩ = some (.slice Ax (rowK a i k r).length cx) := hcellT' i _ (row_at_ hl1.out)
          rw [rowK_len hk'] at t0
          replace hcellT' := hid hcellT'
          clear hveT'
          simp only [List.getElem?_toArray, List.getElem?_cons_zero, List.getElem?_cons_succ] at k1
          by_cases hkl : k < r.length
          · have ha2 := ha1.out.later hbr2
            obtain ⟨bB, oB, hBe, hbB, hEB⟩ := ha2.acc (by have := hac.out; have := hmn.out; omega)
            have p2 := hS 2 _ rfl _ ((hb1.trans (hbr2.mono hz1)).mono hz0)
            subst hBe
            obtain ⟨t, ht⟩ : ∃ t : Bool, Hid (t = a.ac.getD i false) := ⟨_, hid rfl⟩
            have c5 : wr.cell? ⟨bB, oB + i, none⟩ = some (.bool t) := by
              rw [hEB i (by have := hac.out; have := hmn.out; omega), ht.out]
              congr 2
              rw [List.getD_eq_getElem?_getD, List.getElem?_eq_getElem (by have := hac.out; have := hmn.out; omega)]
              rfl
            have hrow := hid (hs2.own.rows.rows ⟨rowK a i k r, Ax, cx⟩ (by simp))
            have kk : (0 : Int) ≤ (k : Int) ∧ (k : Int) < (r.length : Int) := by omega
            have kim : (0 : Int) ≤ (i : Int) ∧ (i : Int) < (a.ac.length : Int) := by have := hac.out; have := hmn.out; omega
            replace hEB := hid hEB
            replace hbr2 := hid hbr2
            replace ha2 := hid ha2
            cases t
            · obtain ⟨gr, capr, hver, hgr1, hgr2, -, -, hcellr⟩ := own_shape hrow.out (by show 0 < (rowK a i k r).length; rw [rowK_len hk']; omega)
              have e2 : Ax = some ⟨gr, 0, none⟩ := by injection hver
              subst e2
              obtain ⟨y0, c6⟩ : ∃ y0, wr.cell? ⟨gr, k, none⟩ = some (.int .i64 y0) := ⟨_, hcellr k _ (show (intVals (rowK a i k r))[k]? = some (.int .i64 ((rowK a i k r)[k]'(by rw [rowK_len hk']; exact hkl))) from by unfold intVals; rw [List.getElem?_map, List.getElem?_eq_getElem (by rw [rowK_len hk']; exact hkl)]; rfl)⟩
              have fz : wr.frozen? ⟨gr, k, none⟩ = false := own_frozen hrow.out rfl k
              have hset := hs2.setRow (j := k) (i : Int)
              rw [rowK_no ht.out.symm hkl] at hset
              replace hset := hid hset
              replace hs2 := hid hs2
              replace hcellr := hid hcellr
              clear hver
              go_wp2_with fail
              go_roundw
              case rel => exact ⟨k + 1, by go_num, by omega, hset.out⟩
              case measure => simp [intOf]; omega
            · rw [rowK_yes ht.out.symm k r.length] at hs2
              rw [hrr.out.2] at hs2
              replace hs2 := hid hs2
              go_wp2_with fail
              go_roundw
              case rel => exact ⟨i + 1, _, by go_num, by omega, hs2.out⟩
              case measure => simp [intOf]; omega
          · have hke : k = r.length := by omega
            rw [show rowK a i k r = rowK a i r.length r from by rw [hke]] at hs2
            rw [hrr.out.2] at hs2
            replace hs2 := hid hs2
            replace hke := hid hke
            replace hbr2 := hid hbr2
            go_wp2_with fail
            go_roundw
            case rel => exact ⟨i + 1, _, by go_num, by omega, hs2.out⟩
            case measure => simp [intOf]; omega
      · have hie : i = n := by omega
        have e9 : (⟨a.al, nxAt a i, a.ac⟩ : Au) = safA a := by
          rw [show i = a.nx.length from by have := hnx.out; omega, nxAt_full]
          rfl
        rw [e9] at hs
        replace hie := hid hie
        have k0 : wr.cell? ⟨gs, 0, none⟩ = some (.int .i64 a.al) := hs.blk.cell 0
        have k1 := hs.blk.cell 1
        have k2 := hs.blk.cell 2
        have hbl := hres.out.below (hb1.trans (hbr.mono hz1)) (by have := hz0e.out; omega)
        have d0 := hbl.cell 0
        have d1 := hbl.cell 1
        have d2 := hbl.cell 2
        have f0 := hbl.frozen 0
        have f1 := hbl.frozen 1
        have f2 := hbl.frozen 2
        simp only [List.getElem?_toArray, List.getElem?_cons_zero, List.getElem?_cons_succ] at d0 d1 d2 k1 k2
        have hltb := hbl.lt
        have hfin : Hid (SafOwn w a (.returned (.tuple #[.agg #[.int .i64 a.al, .slice A1 n c1, .slice A2 m c2], .bool true])) (((wr.setCell ⟨w.heap.size + 1, 0, none⟩ (.int .i64 a.al)).setCell ⟨w.heap.size + 1, 1, none⟩ (.slice A1 n c1)).setCell ⟨w.heap.size + 1, 2, none⟩ (.slice A2 m c2))) := hid (by
          have hk2 : KeepB (fun b => b = w.heap.size + 1) wr (((wr.setCell ⟨w.heap.size + 1, 0, none⟩ (.int .i64 a.al)).setCell ⟨w.heap.size + 1, 1, none⟩ (.slice A1 n c1)).setCell ⟨w.heap.size + 1, 2, none⟩ (.slice A2 m c2)) := (((KeepB.refl _ wr).setCell _ _ (by simp)).setCell _ _ (by simp)).setCell _ _ (by simp)
          unfold SafOwn safX
          rw [hok.out]
          refine ⟨.slice A1 n c1, .slice A2 m c2, ys, rfl, (hs.own.keepNew hk2 (fun b e => by have := hz0e.out; omega)).base (by have := hz0e.out; omega), ?_⟩
          exact (((hB0.trans ((hb1.trans (hbr.mono hz1)).mono hB0.size)).setCell (by simp) _).setCell (by simp) _).setCell (by simp) _)
        replace hs := hid hs
        replace hbl := hid hbl
        clear e9
        go_wp2
        refine bodyPost_ret (v := .tuple #[.agg #[.int .i64 a.al, .slice A1 n c1, .slice A2 m c2], .bool true]) (by simp [results, Try.results11, go_sem, d0, d1, d2]) rfl ?_
        exact hfin.out

end Go.Proofs.Ytdkjnemakkppfaa

/- Plain: the reference's search for a first word: distances from the goals, then forward. -/
namespace Go.Proofs.Ytdkjnemakkppfaa
open AG

section
variable (L : List Nat) (nx : Nat → Nat → List Nat) (fd : Nat → Bool)
/-- Next to a node at a distance. -/
def nearB (f : Nat → Option Nat) (d n : Nat) : Bool := L.any fun l => (nx n l).any fun m => decide (f m = some d)
/-- The distances up to d. -/
def lay : Nat → Nat → Option Nat
  | 0, n => if fd n = true then some 0 else none
  | d + 1, n => match lay d n with
    | some e => some e
    | none => if nearB L nx (lay d) d n = true then some (d + 1) else none
end
section
variable {L : List Nat} {nx : Nat → Nat → List Nat} {fd : Nat → Bool} {N D s : Nat}
theorem near_iff {f : Nat → Option Nat} {d n : Nat} : nearB L nx f d n = true ↔ ∃ l ∈ L, ∃ m ∈ nx n l, f m = some d := by
  unfold nearB
  rw [List.any_eq_true]
  constructor
  · rintro ⟨l, hl, h⟩
    obtain ⟨m, hm, h⟩ := List.any_eq_true.1 h
    exact ⟨l, hl, m, hm, by simpa using h⟩
  · rintro ⟨l, hl, m, hm, h⟩
    exact ⟨l, hl, List.any_eq_true.2 ⟨m, hm, by simpa using h⟩⟩
theorem lay_succ (d n : Nat) : lay L nx fd (d + 1) n = match lay L nx fd d n with
    | some e => some e
    | none => if nearB L nx (lay L nx fd d) d n = true then some (d + 1) else none := rfl
theorem lay_le : ∀ {d n e : Nat}, lay L nx fd d n = some e → e ≤ d
  | 0, n, e, h => by
    unfold lay at h
    split at h
    · injection h with h; omega
    · cases h
  | d + 1, n, e, h => by
    rw [lay_succ] at h
    cases h1 : lay L nx fd d n with
    | some e' =>
      rw [h1] at h
      injection h with h
      have := lay_le h1
      omega
    | none =>
      rw [h1] at h
      dsimp only at h
      split at h
      · injection h with h; omega
      · cases h
theorem lay_up {d n e : Nat} (h : lay L nx fd d n = some e) : lay L nx fd (d + 1) n = some e := by rw [lay_succ, h]
theorem lay_mono {d n e : Nat} (h : lay L nx fd d n = some e) : ∀ k, lay L nx fd (d + k) n = some e
  | 0 => h
  | k + 1 => lay_up (lay_mono h k)
theorem lay_mono' {d d' n e : Nat} (h : lay L nx fd d n = some e) (hd : d ≤ d') : lay L nx fd d' n = some e := by
  have := lay_mono h (d' - d)
  rwa [show d + (d' - d) = d' from by omega] at this
theorem lay_at : ∀ {d n e : Nat}, lay L nx fd d n = some e → lay L nx fd e n = some e
  | 0, n, e, h => by
    have := lay_le h
    obtain rfl : e = 0 := by omega
    exact h
  | d + 1, n, e, h => by
    cases h1 : lay L nx fd d n with
    | some e' =>
      rw [lay_up h1] at h
      injection h with h
      subst h
      exact lay_at h1
    | none =>
      have h0 := h
      rw [lay_succ, h1] at h
      dsimp only at h
      split at h
      · injection h with h
        subst h
        exact h0
      · cases h
theorem lay_zero {d n : Nat} : lay L nx fd d n = some 0 ↔ fd n = true := by
  constructor
  · intro h
    have := lay_at h
    unfold lay at this
    split at this
    · assumption
    · cases this
  · intro h
    have : lay L nx fd 0 n = some 0 := by unfold lay; rw [if_pos h]
    exact lay_mono' this (Nat.zero_le _)
theorem lay_new {d n : Nat} (h : lay L nx fd d n = none) (hn : ∃ l ∈ L, ∃ m ∈ nx n l, lay L nx fd d m = some d) : lay L nx fd (d + 1) n = some (d + 1) := by
  rw [lay_succ, h]
  dsimp only
  rw [if_pos (near_iff.2 hn)]
theorem lay_step {d n e : Nat} (h : lay L nx fd d n = some (e + 1)) : ∃ l ∈ L, ∃ m ∈ nx n l, lay L nx fd d m = some e := by
  have hd := lay_le h
  have h1 := lay_at h
  cases h2 : lay L nx fd e n with
  | some e' =>
    rw [lay_up h2] at h1
    injection h1 with h1
    have := lay_le h2
    omega
  | none =>
    rw [lay_succ, h2] at h1
    dsimp only at h1
    split at h1
    · rename_i hn
      obtain ⟨l, hl, m, hm, h3⟩ := near_iff.1 hn
      exact ⟨l, hl, m, hm, lay_mono' h3 (by omega)⟩
    · cases h1
/-- The distances do not change any more. -/
def Still (L : List Nat) (nx : Nat → Nat → List Nat) (fd : Nat → Bool) (N D : Nat) : Prop := ∀ n, n < N → lay L nx fd (D + 1) n = lay L nx fd D n
theorem lay_back (hs : Still L nx fd N D) {n l m e : Nat} (hn : n < N) (hl : l ∈ L) (hm : m ∈ nx n l) (h : lay L nx fd D m = some e) : ∃ e', e' ≤ e + 1 ∧ lay L nx fd D n = some e' := by
  have he := lay_le h
  cases h2 : lay L nx fd e n with
  | some e' => exact ⟨e', by have := lay_le h2; omega, lay_mono' h2 he⟩
  | none =>
    have h3 := lay_new h2 ⟨l, hl, m, hm, lay_at h⟩
    rcases Nat.lt_or_ge e D with hlt | hge
    · exact ⟨e + 1, Nat.le_refl _, lay_mono' h3 hlt⟩
    · obtain rfl : e = D := by omega
      rw [hs n hn] at h3
      exact ⟨_, Nat.le_refl _, h3⟩
theorem RW_lt (hN : ∀ n, n < N → ∀ l ∈ L, ∀ m ∈ nx n l, m < N) (hs : s < N) : ∀ {q : List Nat} {n : Nat}, RW (fun m => m ∈ [s]) L nx q n → n < N
  | [], n, h => by
    change n ∈ [s] at h
    rw [List.mem_singleton.1 h]
    exact hs
  | l :: q, n, h => by
    obtain ⟨hl, m, hm, hn⟩ := h
    exact hN m (RW_lt hN hs hm) l hl n hn
theorem lay_from (hst : Still L nx fd N D) (hN : ∀ n, n < N → ∀ l ∈ L, ∀ m ∈ nx n l, m < N) (hs : s < N) : ∀ {q : List Nat} {n e : Nat}, RW (fun m => m ∈ [s]) L nx q n → lay L nx fd D n = some e → ∃ e', e' ≤ q.length + e ∧ lay L nx fd D s = some e'
  | [], n, e, h, h1 => by
    change n ∈ [s] at h
    rw [List.mem_singleton.1 h] at h1
    exact ⟨e, by simp, h1⟩
  | l :: q, n, e, h, h1 => by
    obtain ⟨hl, m, hm, hn⟩ := h
    obtain ⟨e1, h2, h3⟩ := lay_back hst (RW_lt hN hs hm) hl hn h1
    obtain ⟨e2, h4, h5⟩ := lay_from hst hN hs hm h3
    exact ⟨e2, by rw [List.length_cons]; omega, h5⟩
/-- The nodes at a distance to which a letter leads from some nodes. -/
def clo (L : List Nat) (nx : Nat → Nat → List Nat) (fd : Nat → Bool) (D : Nat) (at_ : List Nat) (l d : Nat) : List Nat := dd ((at_.flatMap fun n => nx n l).filter fun m => decide (lay L nx fd D m = some d))
theorem clo_mem {at_ : List Nat} {l d m : Nat} : m ∈ clo L nx fd D at_ l d ↔ ∃ n ∈ at_, m ∈ nx n l ∧ lay L nx fd D m = some d := by
  unfold clo
  rw [dd_mem, List.mem_filter, List.mem_flatMap, decide_eq_true_iff]
  constructor
  · rintro ⟨⟨n, h1, h2⟩, h3⟩
    exact ⟨n, h1, h2, h3⟩
  · rintro ⟨n, h1, h2, h3⟩
    exact ⟨⟨n, h1, h2⟩, h3⟩
theorem rlt_of_len : ∀ {r q : List Nat}, r.length < q.length → rlt r q
  | [], [], h => by simp at h
  | [], _ :: _, _ => trivial
  | _ :: _, [], h => by simp at h
  | _ :: r, _ :: q, h => .inl (rlt_of_len (by simpa using h))
/-- The state of the way forward: d letters are still to come. -/
structure Fwd (L : List Nat) (nx : Nat → Nat → List Nat) (fd : Nat → Bool) (D s D0 : Nat) (r at_ : List Nat) (d : Nat) : Prop where
  len : r.length + d = D0
  mem : ∀ n, n ∈ at_ ↔ RW (fun m => m ∈ [s]) L nx r n ∧ lay L nx fd D n = some d
  least : ∀ p n, p.length = r.length → RW (fun m => m ∈ [s]) L nx p n → lay L nx fd D n = some d → rle r p
  ne : ∃ n, n ∈ at_
theorem Fwd.start {D0 : Nat} (h : lay L nx fd D s = some D0) : Fwd L nx fd D s D0 [] [s] D0 := by
  refine ⟨by simp, fun n => ?_, fun p n hp _ _ => ?_, ⟨s, by simp⟩⟩
  · rw [List.mem_singleton]
    constructor
    · rintro rfl
      exact ⟨List.mem_singleton.2 rfl, h⟩
    · rintro ⟨h1, _⟩
      exact List.mem_singleton.1 h1
  · rw [List.eq_nil_of_length_eq_zero hp]
    exact rle_refl _
theorem Fwd.some_ {D0 d : Nat} {r at_ : List Nat} (h : Fwd L nx fd D s D0 r at_ (d + 1)) : ∃ k, ∃ (hk : k < L.length), clo L nx fd D at_ L[k] d ≠ [] := by
  obtain ⟨n, hn⟩ := h.ne
  obtain ⟨_, h2⟩ := (h.mem n).1 hn
  obtain ⟨l, hl, m, hm, h3⟩ := lay_step h2
  obtain ⟨k, hk, e⟩ := List.mem_iff_getElem.1 hl
  refine ⟨k, hk, fun h0 => ?_⟩
  have : m ∈ clo L nx fd D at_ L[k] d := clo_mem.2 ⟨n, hn, by rw [e]; exact hm, h3⟩
  rw [h0] at this
  cases this
theorem Fwd.next (hst : Still L nx fd N D) (hN : ∀ n, n < N → ∀ l ∈ L, ∀ m ∈ nx n l, m < N) (hs : s < N) (hL : L.Pairwise (· < ·)) {D0 d k : Nat} {r at_ : List Nat} (h : Fwd L nx fd D s D0 r at_ (d + 1)) (h0 : lay L nx fd D s = some D0)
    (hk : k < L.length) (hne : clo L nx fd D at_ L[k] d ≠ []) (hmin : ∀ j (hj : j < L.length), j < k → clo L nx fd D at_ L[j] d = []) : Fwd L nx fd D s D0 (L[k] :: r) (clo L nx fd D at_ L[k] d) d := by
  have hlen := h.len
  have key : ∀ {p : List Nat} {m l n : Nat}, p.length = r.length → RW (fun m => m ∈ [s]) L nx p m → l ∈ L → n ∈ nx m l → lay L nx fd D n = some d → lay L nx fd D m = some (d + 1) := by
    intro p m l n hp hm hl hn h1
    obtain ⟨e1, h2, h3⟩ := lay_back hst (RW_lt hN hs hm) hl hn h1
    obtain ⟨e2, h4, h5⟩ := lay_from hst hN hs hm h3
    rw [h0] at h5
    injection h5 with h5
    obtain rfl : e1 = d + 1 := by omega
    exact h3
  refine ⟨by rw [List.length_cons]; omega, fun n => ?_, fun p n hp hn h1 => ?_, ?_⟩
  · rw [clo_mem]
    constructor
    · rintro ⟨m, hm, h1, h2⟩
      exact ⟨⟨List.getElem_mem hk, m, ((h.mem m).1 hm).1, h1⟩, h2⟩
    · rintro ⟨⟨_, m, hm, h1⟩, h2⟩
      exact ⟨m, (h.mem m).2 ⟨hm, key rfl hm (List.getElem_mem hk) h1 h2⟩, h1, h2⟩
  · cases p with
    | nil => simp at hp
    | cons l p =>
      obtain ⟨hl, m, hm, hn⟩ := hn
      have hpl : p.length = r.length := by simpa using hp
      have hm1 := key hpl hm hl hn h1
      rcases h.least p m hpl hm hm1 with hlt | rfl
      · exact .inl (.inl hlt)
      · obtain ⟨j, hj, rfl⟩ := List.mem_iff_getElem.1 hl
        rcases Nat.lt_trichotomy j k with hjk | rfl | hjk
        · have := hmin j hj hjk
          have hmem : n ∈ clo L nx fd D at_ L[j] d := clo_mem.2 ⟨m, (h.mem m).2 ⟨hm, hm1⟩, hn, h1⟩
          rw [this] at hmem
          cases hmem
        · exact rle_refl _
        · exact .inl (.inr ⟨rfl, List.pairwise_iff_getElem.1 hL k j hk hj hjk⟩)
  · cases hc : clo L nx fd D at_ L[k] d with
    | nil => exact absurd hc hne
    | cons x xs => exact ⟨x, List.mem_cons_self⟩
theorem Fwd.done (hst : Still L nx fd N D) (hN : ∀ n, n < N → ∀ l ∈ L, ∀ m ∈ nx n l, m < N) (hs : s < N) {D0 : Nat} {r at_ : List Nat} (h : Fwd L nx fd D s D0 r at_ 0) (h0 : lay L nx fd D s = some D0) : FirstW (fun m => m ∈ [s]) L nx (fun n => fd n = true) r := by
  have hlen := h.len
  obtain ⟨n, hn⟩ := h.ne
  obtain ⟨h1, h2⟩ := (h.mem n).1 hn
  refine ⟨⟨n, h1, lay_zero.1 h2⟩, fun q m hm hf => ?_⟩
  have h3 : lay L nx fd D m = some 0 := lay_zero.2 hf
  obtain ⟨e, h4, h5⟩ := lay_from hst hN hs hm h3
  rw [h0] at h5
  injection h5 with h5
  by_cases he : q.length = r.length
  · exact h.least q m he hm h3
  · exact .inl (rlt_of_len (by omega))
theorem first_none (hst : Still L nx fd N D) (hN : ∀ n, n < N → ∀ l ∈ L, ∀ m ∈ nx n l, m < N) (hs : s < N) (h0 : lay L nx fd D s = none) : ∀ q n, RW (fun m => m ∈ [s]) L nx q n → ¬ fd n = true := by
  intro q n hq hf
  obtain ⟨e, _, h5⟩ := lay_from hst hN hs hq (lay_zero.2 hf)
  rw [h0] at h5
  cases h5
/-- How many nodes have a distance. -/
def cntL (L : List Nat) (nx : Nat → Nat → List Nat) (fd : Nat → Bool) (d : Nat) : Nat → Nat
  | 0 => 0
  | n + 1 => cntL L nx fd d n + if (lay L nx fd d n).isSome then 1 else 0
theorem cntL_le (d : Nat) : ∀ n, cntL L nx fd d n ≤ n
  | 0 => Nat.le_refl _
  | n + 1 => by
    have := cntL_le d n
    unfold cntL
    split <;> omega
theorem cntL_mono (d : Nat) : ∀ n, cntL L nx fd d n ≤ cntL L nx fd (d + 1) n
  | 0 => Nat.le_refl _
  | n + 1 => by
    have := cntL_mono d n
    unfold cntL
    cases h : lay L nx fd d n with
    | none => simp; omega
    | some e => rw [lay_up h]; simp; omega
theorem cntL_grow {d : Nat} : ∀ {n : Nat}, (∃ m, m < n ∧ lay L nx fd (d + 1) m ≠ lay L nx fd d m) → cntL L nx fd d n + 1 ≤ cntL L nx fd (d + 1) n
  | 0, h => by obtain ⟨m, hm, _⟩ := h; omega
  | n + 1, ⟨m, hm, hne⟩ => by
    unfold cntL
    by_cases hmn : m = n
    · subst hmn
      have h1 := cntL_mono d m (L := L) (nx := nx) (fd := fd)
      cases h : lay L nx fd d m with
      | some e => rw [lay_up h, h] at hne; exact absurd rfl hne
      | none =>
        cases h2 : lay L nx fd (d + 1) m with
        | none => rw [h, h2] at hne; exact absurd rfl hne
        | some e => simp; omega
    · have h1 := cntL_grow (n := n) ⟨m, by omega, hne⟩
      cases h : lay L nx fd d n with
      | none => simp; omega
      | some e => rw [lay_up h]; simp; omega
end

end Go.Proofs.Ytdkjnemakkppfaa

/- Plain: the nodes of a product as numbers. -/
namespace Go.Proofs.Ytdkjnemakkppfaa
open AG

def prodL : List Nat → Nat
  | [] => 1
  | a :: l => a * prodL l
/-- The states of a node. -/
def decS : List Nat → Nat → List Nat
  | [], _ => []
  | a :: l, n => (n / prodL l % a) :: decS l n
theorem decS_len : ∀ (ss : List Nat) (n : Nat), (decS ss n).length = ss.length
  | [], _ => rfl
  | a :: l, n => by
    show (decS l n).length + 1 = l.length + 1
    rw [decS_len l n]
theorem decS_get : ∀ (ss : List Nat) (n i : Nat) (h : i < ss.length), (decS ss n)[i]'(by rw [decS_len]; exact h) = n / prodL (ss.drop (i + 1)) % ss[i]
  | a :: l, n, 0, _ => rfl
  | a :: l, n, i + 1, h => by
    exact decS_get l n i (by simpa using h)
theorem prodL_pos : ∀ {ss : List Nat}, (∀ a ∈ ss, 1 ≤ a) → 1 ≤ prodL ss
  | [], _ => Nat.le_refl _
  | a :: l, h => by
    have h1 := prodL_pos (ss := l) fun x hx => h x (List.mem_cons_of_mem _ hx)
    have h2 := h a List.mem_cons_self
    exact Nat.mul_le_mul h2 h1
theorem prodL_drop {ss : List Nat} {i : Nat} (h : i < ss.length) : prodL (ss.drop i) = ss[i] * prodL (ss.drop (i + 1)) := by
  rw [List.drop_eq_getElem_cons h]
  rfl
theorem decS_step {ss : List Nat} {n i : Nat} (h : i < ss.length) : n / prodL (ss.drop (i + 1)) / ss[i] = n / prodL (ss.drop i) := by
  rw [Nat.div_div_eq_div_mul, prodL_drop h, Nat.mul_comm]
theorem decS_lt {ss : List Nat} (hs : ∀ a ∈ ss, 1 ≤ a) (n i : Nat) (h : i < ss.length) : (decS ss n).getD i 0 < ss[i] := by
  rw [List.getD_eq_getElem?_getD, List.getElem?_eq_getElem (by rw [decS_len]; exact h), Option.getD_some, decS_get ss n i h]
  exact Nat.mod_lt _ (hs _ (List.getElem_mem h))
/-- The number of some states. -/
def encK (ss qs : List Nat) : Nat → Nat
  | 0 => 0
  | k + 1 => encK ss qs k * ss.getD k 1 + qs.getD k 0
theorem encK_zero {ss qs : List Nat} (h : ∀ q ∈ qs, q = 0) : ∀ k, encK ss qs k = 0
  | 0 => rfl
  | k + 1 => by
    have h1 : qs.getD k 0 = 0 := by
      rw [List.getD_eq_getElem?_getD]
      cases e : qs[k]? with
      | none => rfl
      | some q => exact h q (List.mem_of_getElem? e)
    rw [encK, encK_zero h k, h1]
    simp
/-- One member more. -/
def stepN (a : Nat) (c out : List Nat) : List Nat := out.flatMap fun o => c.map fun x => o * a + x
/-- The nodes to which the choices of the first k members lead. -/
def nxK (ss : List Nat) (C : Nat → List Nat) : Nat → List Nat
  | 0 => [0]
  | k + 1 => stepN (ss.getD k 1) (C k) (nxK ss C k)
theorem stepN_mem {a : Nat} {c out : List Nat} {m : Nat} : m ∈ stepN a c out ↔ ∃ o ∈ out, ∃ x ∈ c, m = o * a + x := by
  unfold stepN
  rw [List.mem_flatMap]
  constructor
  · rintro ⟨o, ho, h⟩
    obtain ⟨x, hx, rfl⟩ := List.mem_map.1 h
    exact ⟨o, ho, x, hx, rfl⟩
  · rintro ⟨o, ho, x, hx, rfl⟩
    exact ⟨o, ho, List.mem_map_of_mem hx⟩
theorem stepN_take {a : Nat} {c out : List Nat} {k : Nat} (h : k < out.length) : stepN a c (out.take (k + 1)) = stepN a c (out.take k) ++ c.map fun x => out[k] * a + x := by
  unfold stepN
  rw [List.take_succ_eq_append_getElem h, List.flatMap_append]
  simp
theorem stepN_len (a : Nat) (c : List Nat) : ∀ out : List Nat, (stepN a c out).length = out.length * c.length
  | [] => by simp [stepN]
  | o :: out => by
    have ih := stepN_len a c out
    have e : stepN a c (o :: out) = (c.map fun x => o * a + x) ++ stepN a c out := rfl
    rw [e, List.length_append, List.length_map, ih, List.length_cons, Nat.add_mul]
    omega
/-- The product of the first k sizes. -/
def prodT (ss : List Nat) : Nat → Nat
  | 0 => 1
  | k + 1 => prodT ss k * ss.getD k 1
theorem nxK_lt {ss : List Nat} {C : Nat → List Nat} : ∀ {k : Nat}, k ≤ ss.length → (∀ i, i < ss.length → ∀ x ∈ C i, x < ss.getD i 1) → ∀ m ∈ nxK ss C k, m < prodT ss k
  | 0, _, _, m, h => by
    rw [List.mem_singleton.1 h]
    exact Nat.one_pos
  | k + 1, hk, hC, m, h => by
    obtain ⟨o, ho, x, hx, rfl⟩ := stepN_mem.1 h
    have h1 := nxK_lt (by omega) hC o ho
    have h2 := hC k (by omega) x hx
    show o * ss.getD k 1 + x < prodT ss k * ss.getD k 1
    have h3 : (o + 1) * ss.getD k 1 ≤ prodT ss k * ss.getD k 1 := Nat.mul_le_mul_right _ h1
    rw [Nat.add_mul] at h3
    omega
theorem nxK_len {ss : List Nat} {C : Nat → List Nat} {b : Nat} (hC : ∀ i, (C i).length ≤ b) : ∀ k, (nxK ss C k).length ≤ b ^ k
  | 0 => Nat.le_refl _
  | k + 1 => by
    show (stepN _ _ _).length ≤ _
    rw [stepN_len, Nat.pow_succ]
    exact Nat.mul_le_mul (nxK_len hC k) (hC k)
theorem prodT_succ (a : Nat) (l : List Nat) : ∀ k, prodT (a :: l) (k + 1) = a * prodT l k
  | 0 => by simp [prodT]
  | k + 1 => by
    rw [prodT, prodT_succ a l k, prodT, Nat.mul_assoc]
    rfl
theorem prodT_all : ∀ ss : List Nat, prodT ss ss.length = prodL ss
  | [] => rfl
  | a :: l => by
    show prodT (a :: l) (l.length + 1) = _
    rw [prodT_succ, prodT_all l]
    rfl
theorem prodT_le {ss : List Nat} {b : Nat} (hs : ∀ a ∈ ss, a ≤ b) (hb : 1 ≤ b) : ∀ k, prodT ss k ≤ b ^ k
  | 0 => Nat.le_refl _
  | k + 1 => by
    rw [prodT, Nat.pow_succ]
    refine Nat.mul_le_mul (prodT_le hs hb k) ?_
    rw [List.getD_eq_getElem?_getD]
    cases e : ss[k]? with
    | none => exact hb
    | some x => exact hs x (List.mem_of_getElem? e)
/-- The nodes to which a letter leads from a node. -/
def nxN (ss : List Nat) (ch : Nat → Nat → Nat → List Nat) (n l : Nat) : List Nat := nxK ss (fun i => ch i ((decS ss n).getD i 0) l) ss.length
theorem nxN_lt {ss : List Nat} {ch : Nat → Nat → Nat → List Nat} (hs : ∀ a ∈ ss, 1 ≤ a) (hC : ∀ i, i < ss.length → ∀ q, q < ss.getD i 1 → ∀ l, ∀ x ∈ ch i q l, x < ss.getD i 1) (n l : Nat) : ∀ m ∈ nxN ss ch n l, m < prodL ss := by
  intro m hm
  rw [← prodT_all]
  refine nxK_lt (Nat.le_refl _) (fun i hi x hx => ?_) m hm
  refine hC i hi _ ?_ l x hx
  have h1 := decS_lt hs n i hi
  rw [show ss.getD i 1 = ss[i] from by rw [List.getD_eq_getElem?_getD, List.getElem?_eq_getElem hi]; rfl]
  exact h1

end Go.Proofs.Ytdkjnemakkppfaa

/- The reference's l5Order. -/
namespace Go.Proofs.Ytdkjnemakkppfaa
open Go.RowKit Go.BigFrame Go.Maps AG

/-- A list of numbers under way. -/
structure OrdSt (w0 wr : World) (v : Value) (ns : List Nat) : Prop where
  below : Below w0.heap.size w0 wr
  own : wr.ownsRow w0.heap.size 3 1 v ns.length (natVals ns)
theorem OrdSt.later {w0 wr w' : World} {v : Value} {ns : List Nat} (h : OrdSt w0 wr v ns) (hb : Below wr.heap.size wr w') : OrdSt w0 w' v ns := ⟨h.below.trans (hb.mono h.below.size), own_later_ h.own hb⟩
theorem OrdSt.app {w0 wr w1 : World} {v v' : Value} {ns : List Nat} {o : Obj} {x : Nat} (h : OrdSt w0 wr v ns) (hg : (wr.alloc o).grownBy w1 v.ownBlock)
    (ho : w1.ownsRow w0.heap.size 3 1 v' (ns.length + 1) (natVals ns ++ [.int .i64 (x : Nat)])) : OrdSt w0 w1 v' (ns ++ [x]) := by
  have hkA : KeepB (fun b => v.ownBlock = some b) wr w1 := ((KeepB.refl _ wr).alloc o).grown hg fun k hk _ => hk
  refine ⟨hkA.below h.below h.below.size fun b e => own_block h.own b e, ?_⟩
  rw [List.length_append]
  unfold natVals at ho ⊢
  simpa using ho
theorem OrdSt.new (w0 : World) (x : Nat) : OrdSt w0 (w0.alloc (.cells #[.int .i64 (x : Nat)] 3)) (.slice (some ⟨w0.heap.size, 0, none⟩) 1 1) [x] :=
  ⟨(Below.refl _ _).alloc (Nat.le_refl _) _, ⟨rfl, .inr ⟨w0.heap.size, 1, #[.int .i64 (x : Nat)], rfl, Nat.le_refl _, heap_alloc_self _ _, Nat.le_refl _, by unfold maxLen; omega, rfl, rfl⟩⟩⟩
theorem OrdSt.new0 (w0 : World) : OrdSt w0 (w0.alloc (.cells #[] 3)) (.slice (some ⟨w0.heap.size, 0, none⟩) 0 0) [] :=
  ⟨(Below.refl _ _).alloc (Nat.le_refl _) _, ⟨rfl, .inr ⟨w0.heap.size, 0, #[], rfl, Nat.le_refl _, heap_alloc_self _ _, Nat.le_refl _, Nat.zero_le _, rfl, rfl⟩⟩⟩

/-- A row of a table, read. -/
theorem row_read {w0 : World} {A : Option Addr} {rs : List (List Int)} {q : Nat} (h : RowsAt w0 w0.heap.size A rs) (hq : q < rs.length) :
    ∃ (b o : Nat) (r : List Int) (Ai : Option Addr) (ci : Nat), A = some ⟨b, o, none⟩ ∧ b < w0.heap.size ∧ Hid (r = rs[q]) ∧ Hid (∀ wr, Below w0.heap.size w0 wr → wr.cell? ⟨b, o + q, none⟩ = some (.slice Ai r.length ci)) ∧ r.length ≤ ci ∧ ci ≤ 9223372036854775807 ∧ Hid (IntsAt w0 w0.heap.size Ai r) := by
  obtain ⟨b, o, hA, hlt, hE⟩ := h (by omega)
  obtain ⟨Ai, ci, h1, h2, h3, h4⟩ := hE q hq
  exact ⟨b, o, rs[q], Ai, ci, hA, hlt, hid rfl, hid fun wr hb => (hb.cell (p := ⟨b, o + q, none⟩) (by simpa using hlt)).trans h1, h2, h3, hid h4⟩
end Go.Proofs.Ytdkjnemakkppfaa

/- The reference's l4Decode, l4Encode. -/
namespace Go.Proofs.Ytdkjnemakkppfaa
open Go.RowKit Go.BigFrame AG

theorem getD_at1 {c : List Nat} {i d : Nat} (h : i < c.length) : c.getD i d = c[i] := by
  rw [List.getD_eq_getElem?_getD, List.getElem?_eq_getElem h]
  rfl

theorem own_of_blk {w : World} {B g n : Nat} {cs : Array Value} {ns : List Nat} (hb : Blk w g 3 cs) (hsz : cs.size = n) (hn : ns.length = n) (hmax : n ≤ 1000000) (hc : ∀ p, p < n → cs[p]? = some (.int .i64 (ns.getD p 0 : Nat))) (hB : B ≤ g) : OwnNats w B (.slice (some ⟨g, 0, none⟩) n n) ns := by
  subst hn
  refine ⟨by simp, .inr ⟨g, ns.length, cs, rfl, hB, hb, Nat.le_refl _, by unfold maxLen; omega, by omega, ?_⟩⟩
  refine List.ext_getElem? fun p => ?_
  rw [Nat.mul_one, List.getElem?_take]
  by_cases hp : p < ns.length
  · rw [if_pos hp, Array.getElem?_toList, hc p hp, List.getElem?_map, List.getElem?_eq_getElem hp, getD_at1 hp]
    rfl
  · rw [if_neg hp, List.getElem?_eq_none (by simpa using hp)]

set_option maxRecDepth 100000 in
set_option maxHeartbeats 4000000 in
theorem l4Decode_any (ss : List Nat) (A : Option Addr) (c n : Nat) (w : World) (hs : ∀ a ∈ ss, 1 ≤ a) (hl : ss.length ≤ 3) (hn : n ≤ 1000000) (hsc : ss.length ≤ c) (hc : c ≤ 9223372036854775807) (hr : NatsAt w w.heap.size A ss) :
    Calls Try.prog 65 #[.slice A ss.length c, .int .i64 (n : Nat)] w fun e w' => ∃ v, e = .returned v ∧ OwnNats w' w.heap.size v (decS ss n) ∧ Below w.heap.size w w' := by
  obtain ⟨i0, hi, hz0', hz1, hz2⟩ := info_parts infoInt
  have hmk := fun W => run_make_rowN (P := Try.prog) 40 3 i0 _ Try.underlying40 hi hz0' .i64 .i64 ss.length ss.length (Nat.le_refl _) (by rw [hz2]; omega) (by omega) W
  rw [hz1] at hmk
  clear hz1 hz0' hz2 hi
  have hcn : ss.length * 1 = ss.length := Nat.mul_one _
  rw [hcn] at hmk
  clear hcn
  have hs' := hid hs
  replace hr := hid hr
  clear hs
  go_enter Try.func65, Try.ntmps65
  go_upto_region 2 with fail
  obtain ⟨w2, hw2⟩ : ∃ w2, w.alloc (.cells (madeCells #[Value.int IntKind.i64 0] ss.length) 3) = w2 := ⟨_, rfl⟩
  have hblk2 : Blk w2 w.heap.size 3 (madeCells #[Value.int IntKind.i64 0] ss.length) := by rw [← hw2]; exact Blk.new _ _ _
  have hB2 : Below w.heap.size w w2 := by rw [← hw2]; exact (Below.refl _ _).alloc (Nat.le_refl _) _
  rw [hw2]
  clear hw2
  have hbl2 := hid hblk2
  have hr2 := hid (hr.out.later hB2)
  have hz2 := hblk2.lt
  clear hblk2
  have hsz0 : Hid ((madeCells #[Value.int IntKind.i64 0] ss.length).size = ss.length) := hid (by rw [size_madeCells])
  go_wp2_with fail
  go_loopw [1, 6] (fun nv kv wr => ∃ (k m : Nat) (cs : Array Value), nv = .int .i64 (m : Nat) ∧ kv = .int .i64 ((k : Int) - 1) ∧ k ≤ ss.length ∧ m = n / prodL (ss.drop k) ∧ Blk wr w.heap.size 3 cs ∧ cs.size = ss.length ∧ (∀ p, k ≤ p → p < ss.length → cs[p]? = some (.int .i64 ((decS ss n).getD p 0 : Nat))) ∧ KeepB (fun b => b = w.heap.size) w2 wr) (fun _ kv _ => (intOf kv + 1).toNat)
  case atStart => exact ⟨ss.length, n, _, rfl, rfl, Nat.le_refl _, by rw [List.drop_length]; simp [prodL], hbl2.out, hsz0.out, fun p h1 h2 => by omega, KeepB.refl _ _⟩
  case round =>
    clear hbl2
    obtain ⟨k, m, cs, rfl, rfl, hk, hm, hblk, hsz, hin, hkp⟩ := hrel
    have hBr : Below w.heap.size w wr := KeepB.below hB2 hkp hB2.size fun b e => by omega
    by_cases hk0 : 0 < k
    · obtain ⟨k', rfl⟩ : ∃ k', k = k' + 1 := ⟨k - 1, by omega⟩
      have e1 : (((k' + 1 : Nat) : Int) - 1) = (k' : Int) := by omega
      rw [e1]
      obtain ⟨b, o, hAe, hb, hE⟩ := hr.out (by omega)
      subst hAe
      have a0 := (hBr.cell (p := ⟨b, o + k', none⟩) (by simpa using hb)).trans (hE k' (by omega))
      have hne : b ≠ w.heap.size := by omega
      have hne' : w.heap.size ≠ b := by omega
      obtain ⟨a, ha⟩ : ∃ a, Hid (a = ss[k']'(by omega)) := ⟨_, hid rfl⟩
      rw [← ha.out] at a0
      have ha1 : 1 ≤ a := by rw [ha.out]; exact hs'.out _ (List.getElem_mem _)
      have hml : m ≤ 1000000 := by rw [hm]; exact Nat.le_trans (Nat.div_le_self _ _) hn
      obtain ⟨x, hx⟩ : ∃ x, Hid (x = m % a) := ⟨_, hid rfl⟩
      have hrem : Int.tmod (m : Int) (a : Int) = (x : Int) := by rw [hx.out]; exact (Int.ofNat_tmod m a).symm
      obtain ⟨y, hy⟩ : ∃ y, Hid (y = m / a) := ⟨_, hid rfl⟩
      have hquo : Int.tdiv (m : Int) (a : Int) = (y : Int) := by rw [hy.out]; exact (Int.ofNat_tdiv m a).symm
      have hxd : Hid ((decS ss n).getD k' 0 = x) := hid (by
        rw [getD_at1 (by rw [decS_len]; omega), decS_get ss n k' (by omega), hx.out, hm, ha.out])
      have hyd : Hid (y = n / prodL (ss.drop k')) := hid (by rw [hy.out, hm, ha.out, decS_step (by omega)])
      obtain ⟨v0, d0⟩ := hblk.some_ (i := k') (by omega)
      have z0 := hblk.frozen k'
      have hbk2 := hid (hblk.set_ k' (.int .i64 (x : Nat)))
      have hkp2 := hid (hkp.setCell ⟨w.heap.size, k', none⟩ (.int .i64 (x : Nat)) fun _ => rfl)
      have hin2 : Hid (∀ p, k' ≤ p → p < ss.length → (cs.setIfInBounds k' (.int .i64 (x : Nat)))[p]? = some (.int .i64 ((decS ss n).getD p 0 : Nat))) := hid (fun p h1 h2 => by
        by_cases e : p = k'
        · subst e
          rw [Array.getElem?_setIfInBounds_self_of_lt (by omega), hxd.out]
        · rw [Array.getElem?_setIfInBounds_ne (Ne.symm e)]
          exact hin p (by omega) h2)
      have hsz2 : Hid ((cs.setIfInBounds k' (.int .i64 (x : Nat))).size = ss.length) := hid (by simpa using hsz)
      have ha0 : (a : Int) ≠ 0 := by omega
      have hxl : x ≤ 1000000 := by rw [hx.out]; exact Nat.le_trans (Nat.mod_le _ _) hml
      have hyl : y ≤ 1000000 := by rw [hy.out]; exact Nat.le_trans (Nat.div_le_self _ _) hml
      have k1 : (0 : Int) ≤ (k' : Int) ∧ (k' : Int) < (ss.length : Int) := by omega
      replace hblk := hid hblk
      replace hin := hid hin
      replace hsz := hid hsz
      replace hkp := hid hkp
      replace hm := hid hm
      replace hE := hid hE
      clear e1
      go_wp2_with fail
      go_roundw
      case rel => exact ⟨k', y, _, rfl, by go_num, by omega, hyd.out, hbk2.out, hsz2.out, hin2.out, hkp2.out⟩
      case measure => simp [intOf] <;> omega
    · obtain rfl : k = 0 := by omega
      have hfin : Hid (OwnNats wr w.heap.size (.slice (some ⟨w.heap.size, 0, none⟩) ss.length ss.length) (decS ss n)) := hid (by
        exact own_of_blk hblk hsz (decS_len ss n) (by omega) (fun p hp => hin p (Nat.zero_le _) hp) (Nat.le_refl _))
      replace hblk := hid hblk
      replace hin := hid hin
      replace hkp := hid hkp
      replace hm := hid hm
      go_wp2_with fail
      go_ret
      exact ⟨_, rfl, hfin.out, hBr⟩

set_option maxRecDepth 100000 in
set_option maxHeartbeats 4000000 in
theorem l4Encode_any (ss qs : List Nat) (A B : Option Addr) (c d : Nat) (w : World) (hs : ∀ a ∈ ss, a ≤ 1000) (hq : ∀ a ∈ qs, a ≤ 1000) (he : ∀ k, encK ss qs k ≤ 1000000) (hl : qs.length = ss.length) (hsc : ss.length ≤ c) (hc : c ≤ 9223372036854775807) (hqd : qs.length ≤ d) (hd : d ≤ 9223372036854775807) (hr : NatsAt w w.heap.size A ss) (hr2 : NatsAt w w.heap.size B qs) :
    Calls Try.prog 67 #[.slice A ss.length c, .slice B qs.length d] w fun e w' => e = .returned (.int .i64 (encK ss qs ss.length : Nat)) ∧ Below w.heap.size w w' := by
  replace hr := hid hr
  replace hr2 := hid hr2
  replace hl := hid hl
  have hs' := hid hs
  have hq' := hid hq
  have he' := hid he
  clear hs hq he
  go_enter Try.func67, Try.ntmps67
  go_wp2_with fail
  go_loopw [5, 6] (fun nv kv wr => ∃ k m : Nat, nv = .int .i64 (m : Nat) ∧ kv = .int .i64 (k : Nat) ∧ k ≤ ss.length ∧ m = encK ss qs k ∧ Below w.heap.size w wr) (fun _ kv _ => ss.length - (intOf kv).toNat)
  case atStart => exact ⟨0, 0, rfl, rfl, Nat.zero_le _, rfl, Below.refl _ _⟩
  case round =>
    obtain ⟨k, m, rfl, rfl, hk, hm, hb⟩ := hrel
    by_cases hkl : k < ss.length
    · have hkq : k < qs.length := by have := hl.out; omega
      obtain ⟨b, o, hAe, hbb, hE⟩ := (hr.out.later hb) (by omega)
      subst hAe
      obtain ⟨b2, o2, hAe2, hbb2, hE2⟩ := (hr2.out.later hb) (by omega)
      subst hAe2
      have a0 := hE k hkl
      have a1 := hE2 k hkq
      obtain ⟨a, ha⟩ : ∃ a, Hid (a = ss[k]) := ⟨_, hid rfl⟩
      obtain ⟨q, hqq⟩ : ∃ q, Hid (q = qs[k]) := ⟨_, hid rfl⟩
      rw [← ha.out] at a0
      rw [← hqq.out] at a1
      have hal : a ≤ 1000 := by rw [ha.out]; exact hs'.out _ (List.getElem_mem _)
      have hql : q ≤ 1000 := by rw [hqq.out]; exact hq'.out _ (List.getElem_mem _)
      have hml : m ≤ 1000000 := by rw [hm]; exact he'.out k
      have hnx : Hid (m * a + q = encK ss qs (k + 1)) := hid (by rw [encK, getD_at1 hkl, getD_at1 hkq, ← ha.out, ← hqq.out, hm])
      have k1 : (0 : Int) ≤ (k : Int) ∧ (k : Int) < (ss.length : Int) ∧ (k : Int) < (qs.length : Int) := by omega
      have hk1 : k + 1 ≤ ss.length := hkl
      obtain ⟨P, hP⟩ : ∃ P, Hid (P = m * a) := ⟨_, hid rfl⟩
      have hPl : P ≤ 1000000000 := by rw [hP.out]; exact Nat.le_trans (Nat.mul_le_mul hml hal) (by decide)
      have hsum : P + q < 9223372036854775807 := by omega
      have e5 : wrap64 ((m : Int) * (a : Int)) = (P : Int) := by rw [← Int.natCast_mul, ← hP.out]; exact IntWalk.wrap64_in _ ⟨by omega, by omega⟩
      have e6 := wrap_addN P q hsum
      obtain ⟨Z, hZ⟩ : ∃ Z, Hid (Z = P + q) := ⟨_, hid rfl⟩
      rw [← hZ.out] at e6
      rw [← hP.out, ← hZ.out] at hnx
      clear hPl hal hql hml hsum
      have y0 : ∀ x', (Fam wr.heap.size wr x').cell? ⟨b, o + k, none⟩ = some (.int .i64 (a : Nat)) := fun x' => by rw [(Fam.below wr.heap.size wr x').cell (by simpa using hbb)]; exact a0
      have y1 : ∀ x', (Fam wr.heap.size wr x').cell? ⟨b2, o2 + k, none⟩ = some (.int .i64 (q : Nat)) := fun x' => by rw [(Fam.below wr.heap.size wr x').cell (by simpa using hbb2)]; exact a1
      replace hE := hid hE
      replace hE2 := hid hE2
      replace hm := hid hm
      clear a0 a1
      go_upto_region 5 with fail
      refine wp_region_fam wr.heap.size wr (by kernel_rfl) (by kernel_rfl) (Below.refl _ _) ?_
      (repeat (go_big_quiet_step (fail)))
      refine wpQuiet_nil ?_
      intro w5 hw5
      replace hw5 := hid (hb.trans ((Fam.out hw5).mono hb.size))
      clear y0 y1
      go_wp2_with fail
      go_roundw
      case rel => exact ⟨k + 1, Z, by first | rfl | go_num, by go_num, by omega, hnx.out, hw5.out⟩
      case measure => simp [intOf]; omega
    · obtain rfl : k = ss.length := by omega
      have hm' := hid hm
      clear hm
      go_wp2_with fail
      go_ret
      exact ⟨ret_int (by rw [hm'.out]), hb⟩

end Go.Proofs.Ytdkjnemakkppfaa
