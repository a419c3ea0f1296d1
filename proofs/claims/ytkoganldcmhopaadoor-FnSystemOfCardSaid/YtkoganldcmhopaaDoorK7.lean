/- Lemmas, part 7: several texts in one. -/
import Derived.Test.YtkoganldcmhopaaDoorK6
import Derived.Lib.SliceRun
import Derived.Test.YtkoganldcmhopaaDoorK4
import Derived.Test.YtkoganldcmhopaaDoorK3
import Derived.Test.YtkoganldcmhopaaDoorK5
import Derived.Test.YtkoganldcmhopaaDoorK2
import Derived.Deep.DeepCutAuto
set_option linter.unusedSimpArgs false
set_option linter.unusedVariables false

/- The drawing kit: l3Random. -/
namespace Go.Proofs.YtkoganldcmhopaaDoor
open Go.RowKit Go.BigFrame AG

theorem infoRows : (Tryd.prog.info? 52).map (fun i => (i.zero, i.size, i.bytes)) = some (some (.slice none 0 0), 1, 24) := by kernel_rfl
theorem infoBools : (Tryd.prog.info? 4).map (fun i => (i.zero, i.size, i.bytes)) = some (some (.bool false), 1, 1) := by kernel_rfl

/-- What l3Random holds: i states are drawn. -/
structure RaSt (R P : Nat) (w0 wr : World) (gs : Nat) (al : Int) (v1 v2 : Value) (a : Au) (xs : List RowV) (i N : Nat) : Prop where
  st : AuSt (fun b => b = R) w0 wr gs v1 v2 a xs
  al : a.al = al
  nx : a.nx.length = i
  ac : a.ac.length = i
  rows : ∀ r ∈ a.nx, r.length ≤ 6
  rd : RdUp wr R (P + N)
def RaQ (al : Int) (n : Nat) (a : Au) : Prop := a.al = al ∧ a.nx.length = n ∧ a.ac.length = n ∧ ∀ r ∈ a.nx, r.length ≤ 6
theorem append_snoc_int (xs : List Int) (t : Int) : intVals (xs ++ [t]) = intVals xs ++ [.int .i64 t] := by unfold intVals; rw [List.map_append]; rfl

set_option maxRecDepth 100000 in
set_option maxHeartbeats 8000000 in
theorem l3Random_up (R P : Nat) (al st : Int) (w : World) (hP : P + 100000000 ≤ 1125899906842624) (hst : st ≤ 16) (hr : RdUp w R P) :
    Calls Tryd.prog 192 #[.pointer (some ⟨R, 0, none⟩), .int .i64 al, .int .i64 st] w (AuUp (RaQ al st.toNat) R (P + 20000000) w) := by
  obtain ⟨i0, hi, hz0, hz1, hz2⟩ := info_parts infoInt
  obtain ⟨j0, hj, jz0, jz1, jz2⟩ := info_parts infoRows
  obtain ⟨b0, hb, bz0, bz1, bz2⟩ := info_parts infoBools
  have hR := hr.lt
  obtain ⟨wA, hwA, hzA, hBA, -⟩ := boxed w #[.int .i64 0, .slice none 0 0, .slice none 0 0] 26
  have hzAe : wA.heap.size = w.heap.size + 1 := by rw [← hwA]; simp
  have hres : Blk wA w.heap.size 26 #[.int .i64 0, .slice none 0 0, .slice none 0 0] := by rw [← hwA]; exact Blk.new _ _ _
  have hst0 := AuSt.begin (K := fun b => b = R) (w0 := wA) (wr := wA) al (KeepB.refl _ _) (Nat.le_refl _)
  have hK : ∀ b, b = R → b < wA.heap.size := fun b e => by omega
  have hrA := hr.later hBA
  replace hr := hid hr
  replace hres := hid hres
  have hzAe' := hid hzAe
  clear hzAe
  go_enter Tryd.func192, Tryd.ntmps192
  go_upto_region 2 with fail
  obtain ⟨wB, hwB, hzB, hBB, -⟩ := boxed wA #[.int .i64 al, .slice none 0 0, .slice none 0 0] 26
  rw [hwB]
  rw [hwB] at hst0
  clear hwB
  have hrB := hrA.later hBB
  replace hst0 := hid hst0
  go_wp2_with fail
  refine (l1Letters_any al wB).mono ?_
  rintro e w2 ⟨lv, rfl, hown, hb2⟩
  obtain ⟨AL, cL, rfl, hcL, hcL'⟩ := own_slice hown
  obtain ⟨L, hL⟩ : ∃ L, Hid (L = (letters al).length) := ⟨_, hid rfl⟩
  have hL6 : L ≤ 6 := by rw [hL.out]; exact lettersTo_len al 6
  rw [← hL.out] at hcL ⊢
  have h0 : Hid (RaSt R P wA w2 wA.heap.size al (.slice none 0 0) (.slice none 0 0) ⟨al, [], []⟩ [] 0 0) := hid ⟨hst0.out.later hb2, rfl, rfl, rfl, fun r h => (by cases h), hrB.later hb2⟩
  clear hown hrA hrB hwA
  go_wp2_with fail
  go_loopw [9] (fun iv wr => ∃ (i N : Nat) (v1 v2 : Value) (a : Au) (xs : List RowV), iv = .int .i64 (i : Nat) ∧ i ≤ st.toNat ∧ N ≤ i * 1000000 ∧ RaSt R P wA wr wA.heap.size al v1 v2 a xs i N) (fun iv _ => st.toNat - (intOf iv).toNat)
  case atStart => exact ⟨0, 0, _, _, _, _, rfl, by omega, by omega, h0.out⟩
  case round =>
    obtain ⟨i, N, v1, v2, a, xs, rfl, hi1, hN, hs⟩ := hrel
    by_cases hlt : (i : Int) < st
    · have hi16 : i < 16 := by omega
      replace hs := hid hs
      go_upto_region 7 with fail
      obtain ⟨wo, rfl⟩ : ∃ wo : World, wo = wr := ⟨_, rfl⟩
      have hrow0 := Blk.new wo 3 #[]
      obtain ⟨wC, hwC, hzC, hBC, -⟩ := boxed wo #[] 3
      rw [hwC]
      rw [hwC] at hrow0
      have hzCe : wC.heap.size = wo.heap.size + 1 := by rw [← hwC]; simp
      clear hwC
      have hs1 := hid (hs.out.st.later hBC)
      have hwoz : wA.heap.size ≤ wo.heap.size := hs.out.st.keep.size
      have hrow1 : Hid (wC.ownsRow wo.heap.size 3 1 (.slice (some ⟨wo.heap.size, 0, none⟩) 0 0) 0 (intVals [])) := hid ⟨rfl, .inr ⟨wo.heap.size, 0, #[], rfl, Nat.le_refl _, hrow0, Nat.le_refl _, Nat.zero_le _, rfl, rfl⟩⟩
      have hrdC := hid (hs.out.rd.later hBC)
      have hlow : Hid (∀ y ∈ xs, ∀ k, y.v.ownBlock = some k → k < wo.heap.size) := hid fun y hy k e => (hs.out.st.rowLt hy e).2
      clear hrow0
      go_wp2_with fail
      go_loopw [10, 11] (fun rv kv wr => ∃ (M : Nat) (r : List Int), kv = .int .i64 (r.length : Nat) ∧ r.length ≤ L ∧ M ≤ N + r.length * 10 ∧ AuSt (fun b => b = R) wA wr wA.heap.size v1 v2 a xs ∧ wr.ownsRow wo.heap.size 3 1 rv r.length (intVals r) ∧ RdUp wr R (P + M) ∧ wo.heap.size ≤ wr.heap.size) (fun _ kv _ => L - (intOf kv).toNat)
      case atStart => exact ⟨N, [], rfl, by simp, by simp, hs1.out, hrow1.out, hrdC.out, by omega⟩
      case round =>
        obtain ⟨M, r, rfl, hk, hM, hsr, hor, hrd, hwor⟩ := hrel
        obtain ⟨Ar, cr, rfl, hcr, hcr'⟩ := own_slice hor
        have hzr := World.ownsRow.lt hor
        have hzAe := hzAe'.out
        by_cases hkl : r.length < L
        · replace hsr := hid hsr
          replace hor := hid hor
          replace hrd := hid hrd
          clear hzAe
          go_wp2_with fail
          refine (pick_up R (P + M) st wr (by omega) (by omega) hrd.out).mono ?_
          rintro e w3 ⟨t, rfl, ht0, -, hr3, hk3⟩
          have hs3 := hid (hsr.out.keepK hK hk3)
          have ho3 := hid (own_keep hor.out hk3 fun g hg e => by have := (hor.out.lt g hg).1; have := hzAe'.out; omega)
          have hz3 := hk3.size
          replace hr3 := hid hr3
          replace hk3 := hid hk3
          go_wp2_with (at_builtin; refine wpList_append_own_at _ rfl _ _ 52 rfl wo.heap.size 3 i0 (.int .i64 0) 1 8 Tryd.underlying52 hi hz0 hz1 hz2 rfl (by decide) _ _ _ rfl (ho3.out.alloc _) ⟨w3.heap.size, 0, none⟩ 1 1 [.int .i64 t] rfl rfl (cell_one_new _ _ _) (by intro u hu; simp at hu; subst hu; rfl) (by unfold maxLen; omega) (by omega) (by simp; omega) ?_; intro v5 w5 hO5 hg5 _ hat5; obtain ⟨A5, c5, ev5, -, -⟩ := own_slice hO5; subst ev5; replace hO5 := hid hO5; replace hg5 := hid hg5; replace hat5 := hid hat5)
          have hkk : Hid (KeepB (fun b => wo.heap.size ≤ b) w3 w5) := hid (((KeepB.refl _ w3).alloc _).grown hg5.out fun k hk _ => (ho3.out.lt k hk).1)
          have hfin : Hid (AuSt (fun b => b = R) wA w5 wA.heap.size v1 v2 a xs) := hid (hs.out.st.far hs3.out hkk.out)
          have hrd5 : Hid (RdUp w5 R (P + (M + 1))) := hid (hr3.out.keep hkk.out fun k hk => by have := hzAe'.out; omega)
          have hz5 : Hid (wo.heap.size ≤ w5.heap.size) := hid (by have := hkk.out.size; omega)
          go_roundw
          case rel => exact ⟨M + 1, r ++ [t], by rw [List.length_append]; go_num, by rw [List.length_append]; exact hkl, by rw [List.length_append]; simp; omega, hfin.out, by rw [append_snoc_int, List.length_append]; exact hO5.out, hrd5.out, hz5.out⟩
          case measure => simp [intOf]; omega
        · have hsr' := hsr
          obtain ⟨A1, c1, e1, -, -⟩ := own_slice hsr.own.rows.own
          subst e1
          have b0 := hsr.blk.cell 0
          have b1 := hsr.blk.cell 1
          simp only [List.getElem?_toArray, List.getElem?_cons_zero, List.getElem?_cons_succ] at b0 b1
          have hxl := hsr.len
          have hxl2 : xs.length ≤ 16 := by have := hs.out.nx; omega
          replace hsr := hid hsr
          replace hsr' := hid hsr'
          replace hor := hid hor
          replace hrd := hid hrd
          replace hxl := hid hxl
          have hgsl := hsr.out.blk.lt
          clear hzAe
          go_upto_region 12 with (at_builtin; refine wpList_append_own_at _ rfl _ _ 23 rfl wA.heap.size 52 j0 (.slice none 0 0) 1 24 Tryd.underlying23 hj jz0 jz1 jz2 rfl (by decide) _ _ _ rfl (hsr.out.own.rows.own.alloc _) ⟨wr.heap.size, 0, none⟩ 1 1 [.slice Ar r.length cr] rfl rfl (cell_one_new _ _ _) (by intro u hu; simp at hu; subst hu; rfl) (by unfold maxLen; omega) (by omega) (by simp; omega) ?_; intro v5 w5 hO5 hg5 _ hat5; obtain ⟨A5, c5, ev5, -, -⟩ := own_slice hO5; subst ev5; have hbl5 : Blk w5 wA.heap.size 26 #[.int .i64 a.al, .slice A1 xs.length c1, v2] := ((hsr.out.blk.alloc _).keep ((KeepB.refl _ _).grown hg5 (fun k hk _ => hk)) (fun e => own_ne hsr.out.own.rows.own hsr.out.blk (by decide) _ e rfl)); have x1 := hbl5.cell 1; have y1 := hbl5.frozen 1; simp only [List.getElem?_toArray, List.getElem?_cons_zero, List.getElem?_cons_succ] at x1; replace hO5 := hid hO5; replace hg5 := hid hg5; replace hat5 := hid hat5; replace hbl5 := hid hbl5)
          have hx5 := hid ((hsr.out.later ((Below.refl _ wr).alloc (Nat.le_refl _) (.cells #[.slice Ar r.length cr] 52))).row (x := ⟨r, Ar, cr⟩) (own_base (own_later_ (show wr.ownsRow wo.heap.size 3 1 (.slice Ar r.length cr) r.length (intVals r) from hor.out) ((Below.refl _ wr).alloc (Nat.le_refl _) _)) hwoz)
            (fun y hy k e e2 => by have := hlow.out y hy k e; have := (hor.out.lt k e2).1; omega) hg5.out hO5.out)
          obtain ⟨w6, hw6⟩ : ∃ w6, w5.setCell ⟨wA.heap.size, 1, none⟩ (.slice A5 (xs.length + 1) c5) = w6 := ⟨_, rfl⟩
          rw [hw6] at hx5 ⊢
          have hk6 : KeepB (fun b => wA.heap.size ≤ b) wr w6 := by
            rw [← hw6]
            exact (((KeepB.refl _ wr).alloc _).grown hg5.out fun k hk _ => (hsr.out.own.rows.own.lt k hk).1).setCell _ _ fun _ => Nat.le_refl _
          have hrd6 := hrd.out.keep hk6 fun k hk => by have := hzAe'.out; omega
          clear hw6 x1 y1 b0 b1
          obtain ⟨a6, ha6⟩ : ∃ a6, Hid (a6 = (⟨a.al, a.nx ++ [r], a.ac⟩ : Au)) := ⟨_, hid rfl⟩
          have hal6 : a6.al = a.al := by rw [ha6.out]
          rw [← ha6.out, ] at hx5
          have c2 := hx5.out.blk.cell 2
          simp only [List.getElem?_toArray, List.getElem?_cons_zero, List.getElem?_cons_succ] at c2
          obtain ⟨A2, c2', e2, -, -⟩ := own_slice hx5.out.own.acc
          subst e2
          have hgs6 := hx5.out.blk.lt
          have hac6 := hid (show a6.ac.length = i by rw [ha6.out]; exact hs.out.ac)
          have hac16 : a6.ac.length ≤ 16 := by have := hac6.out; omega
          have q2 := RI.cell hrd6 c2 (by have := hzAe'.out; omega)
          have hgR := hid (show wA.heap.size ≠ R from by have := hzAe'.out; omega)
          replace hrd6 := hid hrd6
          replace hk6 := hid hk6
          replace hal6 := hid hal6
          clear c2
          refine GK.wp_region 6 [6, 7, 8] 200 (KeepB fun b => b = R) (RI w6 R (P + M)) (fun _ u _ => ∃ x : Int, u = .int .i64 x) (by kernel_rfl) (by kernel_rfl) (RI.way w6 R _) (by decide) (RI.drew hrd6.out) ?_
          simp only [List.take_succ_cons, List.take_zero]
          (repeat (refine GK.grow_quiet w6 (by rfl) (by rfl) ?_; intro K hK; go_big_quiet_op; go_big_quiet_on))
          refine GK.grow_call (by rfl) (fun u w w' _ h => h) (fun m wq hm hbq hf => ?_) ?_
          · go_simp
            exact ⟨rfl, (pick_up R (P + M + m * 10000) 3 wq (by omega) (by omega) hbq.2).mono fun e w' ⟨x, h2, _, _, h3, h4⟩ => ⟨_, h2, RI.call hbq h4 h3 (by omega), x, rfl⟩⟩
          rintro u ⟨_, _, _, x, rfl⟩
          simp only [Act.put, List.setIfInBounds_toArray, List.set_cons_zero, List.set_cons_succ]
          (repeat (refine GK.grow_quiet w6 (by rfl) (by rfl) ?_; intro K hK; go_big_quiet_op; go_big_quiet_on))
          refine GK.grow_new (K := fun b => b = R) (by rfl) w6.heap.size (fun b => .slice (some ⟨b, 0, none⟩) 1 1) 4 #[.bool (decide (0 < x))] (fun _ => by go_simp) rfl (fun _ _ o h => RI.alloc o h) (fun _ _ h => RI.size h) (fun k hk => by have := hrd6.out.lt; omega) (fun bb hbb => ?_)
          simp only [Act.put, List.setIfInBounds_toArray, List.set_cons_zero, List.set_cons_succ]
          refine GK.grow_nil ?_
          intro w8 hw8 hf
          obtain ⟨g', hge, hge2, hblk8⟩ := hf _ List.mem_cons_self
          cases hge
          clear hf q2
          simp only [List.filterMap_cons, List.filterMap_nil, List.getElem?_cons_zero, List.getElem?_cons_succ]
          have hs8 := hx5.out.keepK hK hw8.1
          have hown8 := hs8.own.acc
          have hbl8 := hs8.blk
          have ag : (Value.slice A2 a6.ac.length c2').ownBlock ≠ some wA.heap.size := fun e => own_ne hown8 hbl8 (by decide) _ e rfl
          have hbl8' := hbl8.lt
          have c2 := hbl8.cell 2
          have f2 := hbl8.frozen 2
          simp only [List.getElem?_toArray, List.getElem?_cons_zero, List.getElem?_cons_succ] at c2
          replace hs8 := hid hs8
          refine wpList_append_own_at _ (by rfl) _ _ 24 (by rfl) wA.heap.size 4 b0 (.bool false) 1 1 Tryd.underlying24 hb bz0 bz1 bz2 rfl (by decide) _ a6.ac.length (boolVals a6.ac) (by rfl) hown8 ⟨bb, 0, none⟩ 1 1 [.bool (decide (0 < x))] (by rfl) (by rfl) (World.news_of_block hblk8) ?c1 ?c3 ?c4 ?c5 ?_
          case c1 => simp [Value.oneCell']
          case c3 => unfold maxLen; omega
          case c4 => omega
          case c5 => have := hs8.out.keep.size; omega
          intro v9 w9 hown9 hgrow hnil9 hat9
          obtain ⟨A9, c9, hv9, -, -⟩ := own_slice hown9
          subst hv9
          have c2'' : w9.cell? ⟨wA.heap.size, 2, none⟩ = some (.slice A2 a6.ac.length c2') := by rw [hgrow.cell_far _ (by simpa using hbl8') (Ne.symm ag)]; exact c2
          have f2'' : w9.frozen? ⟨wA.heap.size, 2, none⟩ = false := by rw [hgrow.frozen_far _ (by simpa using hbl8') (Ne.symm ag)]; exact f2
          have hfin := hid (hs8.out.put hgrow hown9)
          have hk9 : Hid (KeepB (fun b => wA.heap.size ≤ b) w8 (w9.setCell ⟨wA.heap.size, 2, none⟩ (.slice A9 (a6.ac.length + 1) c9))) := hid (((KeepB.refl _ w8).grown hgrow fun k hk _ => (hs8.out.own.acc.lt k hk).1).setCell _ _ fun _ => Nat.le_refl _)
          have hrd9 := hid ((hw8.2.keep hk9.out fun k hk => by have := hzAe'.out; omega).more (by omega : P + M + _ ≤ P + (M + 90000)))
          clear hown8 hbl8 hown9 hgrow c2 f2
          go_wp2_with fail
          go_roundw
          case rel => exact ⟨i + 1, M + 90000, _, _, _, _, by go_num, by omega, by omega, ⟨hfin.out, by show a6.al = al; rw [hal6.out]; exact hs.out.al, by show a6.nx.length = i + 1; rw [ha6.out]; simp [hs.out.nx], by show (a6.ac ++ _).length = i + 1; rw [List.length_append]; rw [hac6.out]; rfl, by
            show ∀ y ∈ a6.nx, y.length ≤ 6
            rw [ha6.out]
            intro y hy
            rcases List.mem_append.1 hy with hy | hy
            · exact hs.out.rows y hy
            · rw [List.mem_singleton.1 hy]; omega, hrd9.out⟩⟩
          case measure => simp [intOf]; omega
    · obtain ⟨A1, c1, e1, -, -⟩ := own_slice hs.st.own.rows.own
      subst e1
      obtain ⟨A2, c2, e2, -, -⟩ := own_slice hs.st.own.acc
      subst e2
      have k0 := hs.st.blk.cell 0
      have k1 := hs.st.blk.cell 1
      have k2 := hs.st.blk.cell 2
      have hzAe := hzAe'.out
      have hbl := hres.out.keep hs.st.keep (by omega)
      have d0 := hbl.cell 0
      have d1 := hbl.cell 1
      have d2 := hbl.cell 2
      have f0 := hbl.frozen 0
      have f1 := hbl.frozen 1
      have f2 := hbl.frozen 2
      simp only [List.getElem?_toArray, List.getElem?_cons_zero, List.getElem?_cons_succ] at d0 d1 d2 k0 k1 k2
      have hlt2 := hbl.lt
      have hown := hs.st.own
      rw [hzAe] at hown
      have hfin := hid (AuUp.ret (Q := RaQ al st.toNat) (P' := P + 20000000) ⟨hs.al, by have := hs.nx; omega, by have := hs.ac; omega, hs.rows⟩ hown hs.rd (by omega) ((KeepB.of_below hBA).trans hs.st.keep) hR (.int .i64 a.al) (.slice A1 xs.length c1) (.slice A2 a.ac.length c2))
      replace hs := hid hs
      clear hbl hown hzAe
      go_wp2
      refine bodyPost_ret (v := .agg #[.int .i64 a.al, .slice A1 xs.length c1, .slice A2 a.ac.length c2]) (by simp [results, Tryd.results192, go_sem, d0, d1, d2]) rfl ?_
      exact hfin.out

end Go.Proofs.YtkoganldcmhopaaDoor

/- The drawing kit: l3Copy. -/
namespace Go.Proofs.YtkoganldcmhopaaDoor
open Go.RowKit Go.BigFrame AG

theorem add_none (b o j : Nat) : (⟨b, o, none⟩ : Addr).add j = ⟨b, o + j, none⟩ := by unfold Addr.add; split <;> simp_all
theorem BoolsAt.news {w : World} {B : Nat} {A : Option Addr} {xs : List Bool} (h : BoolsAt w B A xs) (hn : 0 < xs.length) : ∃ a, A = some a ∧ ∀ (j : Nat) u, (boolVals xs)[j]? = some u → w.cell? (a.add j) = some u := by
  obtain ⟨b, o, hA, -, hE⟩ := h hn
  refine ⟨_, hA, fun j u hj => ?_⟩
  unfold boolVals at hj
  rw [List.getElem?_map] at hj
  cases hx : xs[j]? with
  | none => rw [hx] at hj; cases hj
  | some t =>
    rw [hx] at hj
    obtain ⟨hj2, e⟩ := List.getElem?_eq_some_iff.1 hx
    have := hE j hj2
    rw [e] at this
    have e2 : Value.bool t = u := by simpa using hj
    rw [← e2, add_none]
    exact this
theorem IntsAt.news {w : World} {B : Nat} {A : Option Addr} {xs : List Int} (h : IntsAt w B A xs) (hn : 0 < xs.length) : ∃ a, A = some a ∧ ∀ (j : Nat) u, (intVals xs)[j]? = some u → w.cell? (a.add j) = some u := by
  obtain ⟨b, o, hA, -, hE⟩ := h hn
  refine ⟨_, hA, fun j u hj => ?_⟩
  unfold intVals at hj
  rw [List.getElem?_map] at hj
  cases hx : xs[j]? with
  | none => rw [hx] at hj; cases hj
  | some t =>
    rw [hx] at hj
    obtain ⟨hj2, e⟩ := List.getElem?_eq_some_iff.1 hx
    have := hE j hj2
    rw [e] at this
    have e2 : Value.int .i64 t = u := by simpa using hj
    rw [← e2, add_none]
    exact this
theorem boolVals_one (xs : List Bool) (u : Value) (h : u ∈ boolVals xs) : u.oneCell' = true := by
  unfold boolVals at h
  obtain ⟨t, _, rfl⟩ := List.mem_map.1 h
  rfl
theorem intVals_one (xs : List Int) (u : Value) (h : u ∈ intVals xs) : u.oneCell' = true := by
  unfold intVals at h
  obtain ⟨t, _, rfl⟩ := List.mem_map.1 h
  rfl
theorem boolVals_len (xs : List Bool) : (boolVals xs).length = xs.length := by unfold boolVals; simp

/-- An automaton of the call's own comes back. -/
def AuNew (a : Au) (w : World) (e : Ending) (w' : World) : Prop := ∃ (v1 v2 : Value) (xs : List RowV), e = .returned (.agg #[.int .i64 a.al, v1, v2]) ∧ AuOwn w' w.heap.size v1 v2 a xs ∧ Below w.heap.size w w'

set_option maxRecDepth 100000 in
set_option maxHeartbeats 8000000 in
theorem l3Copy_any (a : Au) (A B : Option Addr) (c d : Nat) (w : World) (hsz : AuSz 1000000 a) (ha : AuAt w A c B d a) :
    Calls Tryd.prog 172 #[a.val A c B d] w (AuNew a w) := by
  obtain ⟨i0, hi, hz0, hz1, hz2⟩ := info_parts infoInt
  obtain ⟨j0, hj, jz0, jz1, jz2⟩ := info_parts infoRows
  obtain ⟨b0, hb, bz0, bz1, bz2⟩ := info_parts infoBools
  obtain ⟨s1, s2, s3⟩ := hsz
  obtain ⟨w0, hw0, hz00, hB0, hS, -⟩ := boxed2 w #[Value.int IntKind.i64 a.al, Value.slice A a.nx.length c, Value.slice B a.ac.length d] 26 #[Value.int IntKind.i64 0, Value.slice none 0 0, Value.slice none 0 0] 26
  have hres : Hid (Blk w0 (w.heap.size + 1) 26 #[Value.int IntKind.i64 0, Value.slice none 0 0, Value.slice none 0 0]) := hid (by
    rw [← hw0]
    have := Blk.new (w.alloc (.cells #[Value.int IntKind.i64 a.al, Value.slice A a.nx.length c, Value.slice B a.ac.length d] 26)) 26 #[Value.int IntKind.i64 0, Value.slice none 0 0, Value.slice none 0 0]
    simpa using this)
  have hz0e : Hid (w0.heap.size = w.heap.size + 2) := hid (by rw [← hw0]; simp)
  have ha0 := hid (ha.later hB0)
  have hcl := ha.cl
  have hcm := ha.cm
  have hdl := ha.dl
  have hdm := ha.dm
  have p0 := hS 0 _ rfl _ (Below.refl _ _)
  have p1 := hS 1 _ rfl _ (Below.refl _ _)
  have p2 := hS 2 _ rfl _ (Below.refl _ _)
  replace ha := hid ha
  have q0 := GK.BI.cell p0
  have q2 := GK.BI.cell p2
  unfold AG.Au.val
  go_enter Tryd.func172, Tryd.ntmps172
  go_upto_region 1 with fail
  clear p0 p1 p2 hw0
  refine GK.wp_region 8 [8] 200 (KeepB fun _ => False) (GK.BI w0) (fun _ _ _ => True) (by kernel_rfl) (by kernel_rfl) (GK.BI.way w0) (by decide) (Below.refl _ _).drew ?_
  simp only [List.take_succ_cons, List.take_zero]
  (repeat (refine GK.grow_quiet w0 (by rfl) (by rfl) ?_; intro K hK; go_big_quiet_op; go_big_quiet_on))
  refine GK.grow_new (K := fun _ => False) (by rfl) _ (fun b => .slice (some ⟨b, 0, none⟩) 0 0) 4 #[] (fun _ => by go_simp) rfl (fun _ _ o h => GK.BI.alloc o h) (fun _ _ h => GK.BI.size h) (fun _ h => h.elim) (fun b hbb => ?_)
  simp only [Act.put, List.setIfInBounds_toArray, List.set_cons_zero, List.set_cons_succ]
  (repeat (refine GK.grow_quiet w0 (by rfl) (by rfl) ?_; intro K hK; go_big_quiet_op; go_big_quiet_on))
  refine GK.grow_copy (by rfl) _ _ 24 (by rfl) 4 b0 (.bool false) 1 1 Tryd.underlying24 hb bz0 bz1 bz2 rfl b (by rfl) (fun w hf => ?_) B a.ac.length d (boolVals a.ac) (by rfl) (by rw [boolVals_len, Nat.mul_one]) (fun hn => ha0.out.acc.news hn) (boolVals_one _) (by unfold maxLen; omega) (by omega) fun v hv => ?_
  · obtain ⟨b', e1, e2, e3⟩ := hf _ List.mem_cons_self (by kernel_rfl)
    cases e1
    exact ⟨e2, e3⟩
  obtain ⟨A2, c2, hve, hc2, hc2'⟩ : ∃ Av cv, v = .slice Av a.ac.length cv ∧ a.ac.length ≤ cv ∧ cv ≤ 9223372036854775807 := by obtain ⟨_, _, hv⟩ := hv; exact own_slice hv
  subst hve
  clear hv
  simp only [Act.put, List.setIfInBounds_toArray, List.set_cons_zero, List.set_cons_succ]
  (repeat (refine GK.grow_quiet w0 (by rfl) (by rfl) ?_; intro K hK; go_big_quiet_op; go_big_quiet_on))
  refine GK.grow_new (K := fun _ => False) (by rfl) _ (fun b => .pointer (some ⟨b, 0, none⟩)) 26 #[.int .i64 0, .slice none 0 0, .slice none 0 0] (fun _ => by go_simp) rfl (fun _ _ o h => GK.BI.alloc o h) (fun _ _ h => GK.BI.size h) (fun _ h => h.elim) (fun gs hgs => ?_)
  simp only [Act.put, List.setIfInBounds_toArray, List.set_cons_zero, List.set_cons_succ]
  refine GK.grow_nil ?_
  intro w2 hw2 hf
  simp only [List.filterMap_cons, List.filterMap_nil, List.getElem?_cons_zero, List.getElem?_cons_succ]
  obtain ⟨gs', e1, -, hblk⟩ := hf _ List.mem_cons_self
  cases e1
  have hown := hf _ (List.mem_cons_of_mem _ List.mem_cons_self)
  replace hw2 : Below w0.heap.size w0 w2 := hw2
  clear hf q0 q2
  have hblk' : Blk w2 gs 26 #[.int .i64 0, .slice none 0 0, .slice none 0 0] := hblk
  have hown' : w2.ownsRow w0.heap.size 4 1 (.slice A2 a.ac.length c2) a.ac.length (boolVals a.ac) := hown
  have hgl := hblk'.lt
  have c0 := hblk'.cell 0
  have c1 := hblk'.cell 1
  have c2x := hblk'.cell 2
  have f0 := hblk'.frozen 0
  have f1 := hblk'.frozen 1
  have f2 := hblk'.frozen 2
  simp only [List.getElem?_toArray, List.getElem?_cons_zero, List.getElem?_cons_succ] at c0 c1 c2x
  have hneO : (Value.slice A2 a.ac.length c2).ownBlock ≠ some gs := fun e => own_ne hown' hblk' (by decide) gs e rfl
  obtain ⟨w3, hw3⟩ : ∃ w3, Hid (((w2.setCell ⟨gs, 0, none⟩ (.int .i64 a.al)).setCell ⟨gs, 1, none⟩ (.slice none 0 0)).setCell ⟨gs, 2, none⟩ (.slice A2 a.ac.length c2) = w3) := ⟨_, hid rfl⟩
  have hst : Hid (AuSt (fun _ => False) w0 w3 gs (.slice none 0 0) (.slice A2 a.ac.length c2) ⟨a.al, [], a.ac⟩ []) := hid (by
    rw [← hw3.out]
    exact ⟨KeepB.of_below (((hw2.setCell (by simpa using hgs) _).setCell (by simpa using hgs) _).setCell (by simpa using hgs) _), hgs, ⟨⟨World.ownsRow_nil _ _ _ _, fun x hx => (by cases hx), List.Pairwise.nil⟩, rfl, ownsRow_setCell_other (ownsRow_setCell_other (ownsRow_setCell_other hown' hneO _) hneO _) hneO _⟩,
      by simpa using ((hblk'.set_ 0 (.int .i64 a.al)).set_ 1 (.slice none 0 0)).set_ 2 (.slice A2 a.ac.length c2)⟩)
  have hB03 : ∀ {wr : World} {v1 v2 : Value} {x : Au} {ys : List RowV}, AuSt (fun _ => False) w0 wr gs v1 v2 x ys → Below w0.heap.size w0 wr := fun h => ⟨h.keep.os, h.keep.tape, h.keep.output, h.keep.size, fun i hi => h.keep.block i hi (fun h => h)⟩
  replace hblk := hid hblk
  replace hown := hid hown
  replace hown' := hid hown'
  replace hblk' := hid hblk'
  go_upto_region 2 with fail
  rw [hw3.out]
  have p1 := hS 1 _ rfl _ ((hB03 hst.out).mono hz00)
  clear c0 c1 c2x f0 f1 f2
  go_wp2_with fail
  clear p1
  go_loopw [4] (fun iv wr => ∃ (i : Nat) (v1 : Value) (xs : List RowV), iv = .int .i64 (i : Nat) ∧ i ≤ a.nx.length ∧ AuSt (fun _ => False) w0 wr gs v1 (.slice A2 a.ac.length c2) ⟨a.al, a.nx.take i, a.ac⟩ xs) (fun iv _ => a.nx.length - (intOf iv).toNat)
  case atStart => exact ⟨0, _, _, rfl, by omega, hst.out⟩
  case round =>
    obtain ⟨i, v1, xs, rfl, hi', hs⟩ := hrel
    obtain ⟨A1, c1, e1, -, -⟩ := own_slice hs.own.rows.own
    subst e1
    have hbr := hB03 hs
    have p1 := hS 1 _ rfl _ (hbr.mono hz00)
    by_cases hlt : i < a.nx.length
    · obtain ⟨bR, oR, hRe, hbR, hER⟩ := ha0.out.rows (by omega)
      subst hRe
      obtain ⟨Ai, ci, r0, h1, h2, h3⟩ := hER i hlt
      rw [← hbr.cell (by simpa using hbR)] at r0
      have htk : Hid (a.nx.take (i + 1) = a.nx.take i ++ [a.nx[i]]) := hid (List.take_succ_eq_append_getElem hlt)
      obtain ⟨r, hr⟩ : ∃ r, Hid (r = a.nx[i]) := ⟨_, hid rfl⟩
      have hrl := s3 _ (List.getElem_mem hlt)
      rw [← hr.out] at r0 h1 h3 htk hrl
      have hxl : xs.length ≤ 1000000 := by have := hs.len; have h4 : (a.nx.take i).length ≤ i := by rw [List.length_take]; omega
                                           show xs.length ≤ _; have h5 : xs.length = (a.nx.take i).length := this; omega
      have k1 : (0 : Int) ≤ (i : Int) ∧ (i : Int) < (a.nx.length : Int) := by omega
      have k2 := hs.blk.cell 1
      simp only [List.getElem?_toArray, List.getElem?_cons_zero, List.getElem?_cons_succ] at k2
      have hgsr := hs.blk.lt
      have q0 := GK.BI.cell p1
      have q1 := GK.BI.cell k2
      have q2 := GK.BI.cell r0
      have h3r := hid (h3.later hbr)
      have hlow : Hid (∀ y ∈ xs, ∀ k, y.v.ownBlock = some k → k < wr.heap.size) := hid fun y hy k e => (hs.rowLt hy e).2
      have hbrz := hbr.size
      replace hs := hid hs
      replace hER := hid hER
      replace h3 := hid h3
      go_upto_region 5 with fail
      clear p1 k2 r0
      refine GK.wp_region 10 [10, 11, 12] 200 (KeepB fun _ => False) (GK.BI wr) (fun _ _ _ => True) (by kernel_rfl) (by kernel_rfl) (GK.BI.way wr) (by decide) (Below.refl _ _).drew ?_
      simp only [List.take_succ_cons, List.take_zero]
      (repeat (refine GK.grow_quiet wr (by rfl) (by rfl) ?_; intro K hK; go_big_quiet_op; go_big_quiet_on))
      refine GK.grow_new (K := fun _ => False) (by rfl) _ (fun b => .slice (some ⟨b, 0, none⟩) 0 0) 3 #[] (fun _ => by go_simp) rfl (fun _ _ o h => GK.BI.alloc o h) (fun _ _ h => GK.BI.size h) (fun _ h => h.elim) (fun b hbb => ?_)
      simp only [Act.put, List.setIfInBounds_toArray, List.set_cons_zero, List.set_cons_succ]
      (repeat (refine GK.grow_quiet wr (by rfl) (by rfl) ?_; intro K hK; go_big_quiet_op; go_big_quiet_on))
      refine GK.grow_copy (by rfl) _ _ 52 (by rfl) 3 i0 (.int .i64 0) 1 8 Tryd.underlying52 hi hz0 hz1 hz2 rfl b (by rfl) (fun w hf => ?_) Ai r.length ci (intVals r) (by rfl) (by rw [intVals_len, Nat.mul_one]) (fun hn => h3r.out.news hn) (intVals_one _) (by unfold maxLen; omega) (by omega) fun v hv => ?_
      · obtain ⟨b', e1, e2, e3⟩ := hf _ List.mem_cons_self (by kernel_rfl)
        cases e1
        exact ⟨e2, e3⟩
      obtain ⟨Ar, cr, hve, hcr, hcr'⟩ : ∃ Av cv, v = .slice Av r.length cv ∧ r.length ≤ cv ∧ cv ≤ 9223372036854775807 := by obtain ⟨_, _, hv⟩ := hv; exact own_slice hv
      subst hve
      clear hv
      simp only [Act.put, List.setIfInBounds_toArray, List.set_cons_zero, List.set_cons_succ]
      (repeat (refine GK.grow_quiet wr (by rfl) (by rfl) ?_; intro K hK; go_big_quiet_op; go_big_quiet_on))
      refine GK.grow_new (K := fun _ => False) (by rfl) _ (fun b => .slice (some ⟨b, 0, none⟩) 1 1) 52 #[.slice Ar r.length cr] (fun _ => by go_simp) rfl (fun _ _ o h => GK.BI.alloc o h) (fun _ _ h => GK.BI.size h) (fun _ h => h.elim) (fun bb hbb2 => ?_)
      simp only [Act.put, List.setIfInBounds_toArray, List.set_cons_zero, List.set_cons_succ]
      refine GK.grow_nil ?_
      intro w4 hw4 hf
      simp only [List.filterMap_cons, List.filterMap_nil, List.getElem?_cons_zero, List.getElem?_cons_succ]
      obtain ⟨bb', e1, -, hblk4⟩ := hf _ List.mem_cons_self
      cases e1
      have hor : w4.ownsRow wr.heap.size 3 1 (.slice Ar r.length cr) r.length (intVals r) := hf _ (List.mem_cons_of_mem _ List.mem_cons_self)
      replace hw4 : Below wr.heap.size wr w4 := hw4
      clear hf q0 q1 q2
      have hs4 := hs.out.later hw4
      have hown4 := hs4.own.rows.own
      have hbl4 := hs4.blk
      have ag : (Value.slice A1 xs.length c1).ownBlock ≠ some gs := fun e => own_ne hown4 hbl4 (by decide) _ e rfl
      have hbl4' := hbl4.lt
      have k2 := hbl4.cell 1
      have f2 := hbl4.frozen 1
      simp only [List.getElem?_toArray, List.getElem?_cons_zero, List.getElem?_cons_succ] at k2
      replace hs4 := hid hs4
      have hz4 := hw4.size
      have hor' := hid hor
      clear hor
      refine wpList_append_own_at _ (by rfl) _ _ 23 (by rfl) w0.heap.size 52 j0 (.slice none 0 0) 1 24 Tryd.underlying23 hj jz0 jz1 jz2 rfl (by decide) _ xs.length (rowVals xs) (by rfl) hown4 ⟨bb, 0, none⟩ 1 1 [.slice Ar r.length cr] (by rfl) (by rfl) (World.news_of_block hblk4) ?c1 ?c3 ?c4 ?c5 ?_
      case c1 => simp [Value.oneCell']
      case c3 => unfold maxLen; omega
      case c4 => omega
      case c5 => have := hs4.out.keep.size; omega
      intro v9 w9 hown9 hgrow hnil9 hat9
      obtain ⟨A9, c9, hv9, -, -⟩ := own_slice hown9
      subst hv9
      have c2'' : w9.cell? ⟨gs, 1, none⟩ = some (.slice A1 xs.length c1) := by rw [hgrow.cell_far _ (by simpa using hbl4') (Ne.symm ag)]; exact k2
      have f2'' : w9.frozen? ⟨gs, 1, none⟩ = false := by rw [hgrow.frozen_far _ (by simpa using hbl4') (Ne.symm ag)]; exact f2
      have hfin := hid (hs4.out.row (x := ⟨r, Ar, cr⟩) (own_base (show w4.ownsRow wr.heap.size 3 1 (.slice Ar r.length cr) r.length (intVals r) from hor'.out) hbrz) (fun y hy k e e2 => by have := hlow.out y hy k e; have := (hor'.out.lt k e2).1; omega) hgrow hown9)
      clear hown4 hbl4 hown9 hgrow k2 f2
      go_wp2_with fail
      go_roundw
      case rel => exact ⟨i + 1, _, _, by go_num, by omega, by rw [htk.out]; exact hfin.out⟩
      case measure => simp [intOf]; omega
    · rw [List.take_of_length_le (by omega)] at hs
      have hxl : xs.length = a.nx.length := hs.len
      rw [hxl] at hs
      have k0 := hs.blk.cell 0
      have k1 := hs.blk.cell 1
      have k2 := hs.blk.cell 2
      have hbl := hres.out.below hbr (by have := hz0e.out; omega)
      have d0 := hbl.cell 0
      have d1 := hbl.cell 1
      have d2 := hbl.cell 2
      have f0 := hbl.frozen 0
      have f1 := hbl.frozen 1
      have f2 := hbl.frozen 2
      simp only [List.getElem?_toArray, List.getElem?_cons_zero, List.getElem?_cons_succ] at d0 d1 d2 k0 k1 k2
      have hltb := hbl.lt
      have hfin : Hid (AuNew a w (.returned (.agg #[.int .i64 a.al, .slice A1 a.nx.length c1, .slice A2 a.ac.length c2])) (((wr.setCell ⟨w.heap.size + 1, 0, none⟩ (.int .i64 a.al)).setCell ⟨w.heap.size + 1, 1, none⟩ (.slice A1 a.nx.length c1)).setCell ⟨w.heap.size + 1, 2, none⟩ (.slice A2 a.ac.length c2))) := hid (by
        have hk2 : KeepB (fun b => b = w.heap.size + 1) wr (((wr.setCell ⟨w.heap.size + 1, 0, none⟩ (.int .i64 a.al)).setCell ⟨w.heap.size + 1, 1, none⟩ (.slice A1 a.nx.length c1)).setCell ⟨w.heap.size + 1, 2, none⟩ (.slice A2 a.ac.length c2)) := (((KeepB.refl _ wr).setCell _ _ (by simp)).setCell _ _ (by simp)).setCell _ _ (by simp)
        refine ⟨_, _, xs, rfl, (hs.own.keepNew hk2 (fun b e => by have := hz0e.out; omega)).base (by have := hz0e.out; omega), ?_⟩
        exact (((hB0.trans (hbr.mono (by have := hz0e.out; omega))).setCell (by simp) _).setCell (by simp) _).setCell (by simp) _)
      replace hs := hid hs
      replace hxl := hid hxl
      clear hbl
      go_wp2
      refine bodyPost_ret (v := .agg #[.int .i64 a.al, .slice A1 a.nx.length c1, .slice A2 a.ac.length c2]) (by simp [results, Tryd.results172, go_sem, d0, d1, d2]) rfl ?_
      exact hfin.out

end Go.Proofs.YtkoganldcmhopaaDoor

/- An append to an owned row inside a statement that draws its order. -/
namespace AG
open Go Go.RowKit

/-- What an append hands back. -/
def Done (base : Nat) (e : TypeId) (size n : Nat) (ys : List Value) (row : Option Nat) (Bd : Nat) (u : Value) (w : World) : Prop :=
  w.ownsRow base e size u n ys ∧ (u.ownBlock = row ∨ ∀ k, u.ownBlock = some k → Bd ≤ k)
theorem Done.below {base : Nat} {e : TypeId} {size n : Nat} {ys : List Value} {row : Option Nat} {Bd : Nat} {u : Value} {w w' : World} (h : Done base e size n ys row Bd u w) (hb : Below w.heap.size w w') : Done base e size n ys row Bd u w' :=
  ⟨own_keep h.1 (.of_below (K := fun _ => False) hb) fun _ _ h => h, h.2⟩

theorem append_two {P : Program} (w : World) (base : Nat) (t ty e : TypeId) (i : TypeInfo) (z : Value) (size bytes : Nat) (ht : P.underlying t = some (.slice e)) (hi : P.info? e = some i) (hz : i.zero = some z)
    (hsize : i.size = size) (hby : i.bytes = bytes) (hzs : z.cells.size = size) (hsz : 0 < size) (v : Value) (n : Nat) (xs : List Value) (hown : w.ownsRow base e size v n xs)
    (a : Addr) (m c : Nat) (news : List Value) (hl : news.length = m * size) (hnews : ∀ j u, news[j]? = some u → w.cell? (a.add j) = some u) (h1 : ∀ u ∈ news, u.oneCell' = true) (hm : 0 < m)
    (h63 : n + m ≤ maxLen) (hbytes : (n + m) * bytes ≤ 140737488355328) (hbase : base ≤ w.heap.size) (Bd : Nat) (hBd : Bd ≤ w.heap.size) :
    ∃ v' w', (Builtin.append_ #[t, t] ty #[v, .slice (some a) m c]).run P w = .ok v' w' ∧ KeepB (fun b => v.ownBlock = some b) w w' ∧ w'.ownsRow base e size v n xs ∧ Done base e size (n + m) (xs ++ news) v.ownBlock Bd v' w' ∧
      ∀ u, Done base e size (n + m) (xs ++ news) v.ownBlock Bd u w → Done base e size (n + m) (xs ++ news) v.ownBlock Bd u w' := by
  subst hsize
  subst hby
  have hsmall : n + m ≤ 9223372036854775807 := by simp only [maxLen] at h63; omega
  have hlen : (xs ++ news).length = (n + m) * i.size := by rw [List.length_append, hown.1, hl, Nat.add_mul]
  have grown : ∀ (old : Nat), 
      (w.drew.alloc (.cells (xs.toArray ++ news.toArray ++ Builtin.zeroCells z.cells (grownCap w (n + m) old e - (n + m))) e)).ownsRow base e i.size
        (.slice (some ⟨w.heap.size, 0, none⟩) (n + m) (grownCap w (n + m) old e)) (n + m) (xs ++ news) := by
    intro old
    have hge := grownCap_ge w (n + m) old e
    have hcm : grownCap w (n + m) old e ≤ maxLen := grownCap_le_maxLen w (n + m) old e h63
    refine ⟨hlen, .inr ⟨w.heap.size, _, _, rfl, hbase, heap_alloc_new w.drew _, hge, hcm, ?_, ?_⟩⟩
    · simp only [Array.size_append, List.size_toArray, size_zeroCells, hzs, hown.1, hl, ← Nat.add_mul]
      congr 1
      omega
    · simp only [Array.toList_append, List.append_assoc]
      rw [← List.append_assoc, ← hlen]
      exact List.take_left
  have hbl : ∀ o, Below w.heap.size w (w.drew.alloc o) := fun o => (Below.refl w.heap.size w).drew.alloc (Nat.le_refl _) o
  have hnb : ∀ (x y k : Nat), (Value.slice (some ⟨w.heap.size, 0, none⟩) x y).ownBlock = some k → Bd ≤ k := fun x y k hk => by
    have : w.heap.size = k := by injection hk
    omega
  have hown0 := hown
  rcases hown.2 with ⟨rfl, rfl⟩ | ⟨g, cap, cur, rfl, hbg, hg, hnc, hcm, hcs, htake⟩
  · have hx : xs = [] := List.eq_nil_of_length_eq_zero (by simpa using hown.1)
    subst hx
    have hr := run_append_nil (P := P) w t ty e i z ht hi hz a m c news hl hnews (by omega) (by omega) (by have hb := hbytes; simp only [Nat.zero_add] at hb; omega)
    have hgr := grown 0
    simp only [Nat.zero_add, List.nil_append, Array.empty_append] at hgr ⊢
    exact ⟨_, _, hr, KeepB.of_below (hbl _), own_keep hown0 (.of_below (K := fun _ => False) (hbl _)) fun _ _ h => h, ⟨hgr, .inr (hnb _ _)⟩, fun u hu => hu.below (hbl _)⟩
  · by_cases hroom : n + m ≤ cap
    · have hfit : n * i.size + news.length ≤ cur.size := by rw [hl, hcs, ← Nat.add_mul]; exact Nat.mul_le_mul_right _ hroom
      have hr := run_append_room (P := P) w t ty e i ht hi g n cap cur hg a m c news hl hnews h1 hroom hfit
      have hgr : w.grownBy (w.setRow g (cur.toList.take (n * i.size) ++ news ++ cur.toList.drop (n * i.size + news.length)).toArray) (some g) := ⟨rfl, rfl, rfl, by simp, fun k _ hk => setRow_other w g k _ (fun e => hk (by simp [e]))⟩
      have hk : KeepB (fun b => some g = some b) w (w.setRow g (cur.toList.take (n * i.size) ++ news ++ cur.toList.drop (n * i.size + news.length)).toArray) := (KeepB.refl _ w).grown hgr fun k hk _ => hk
      have hsz2 : (cur.toList.take (n * i.size) ++ news ++ cur.toList.drop (n * i.size + news.length)).toArray.size = cap * i.size := by
        simp only [List.size_toArray, List.length_append, List.length_take, List.length_drop, Array.length_toList]
        omega
      have hnew : (w.setRow g (cur.toList.take (n * i.size) ++ news ++ cur.toList.drop (n * i.size + news.length)).toArray).ownsRow base e i.size (.slice (some ⟨g, 0, none⟩) (n + m) cap) (n + m) (xs ++ news) := by
        refine ⟨hlen, .inr ⟨g, cap, _, rfl, hbg, setRow_heap w g cur _ e _ hg, hroom, hcm, hsz2, ?_⟩⟩
        rw [htake, ← hlen]
        exact List.take_left
      refine ⟨_, _, hr, hk, ⟨hown.1, .inr ⟨g, cap, _, rfl, hbg, setRow_heap w g cur _ e _ hg, hnc, hcm, hsz2, ?_⟩⟩, ⟨hnew, .inl rfl⟩, ?_⟩
      · rw [htake, ← hown.1, List.append_assoc]
        exact List.take_left
      · rintro u ⟨hu1, hu2⟩
        rcases hu1.2 with ⟨rfl, h0⟩ | ⟨g', cap', cur', rfl, hbg', hg', hnc', hcm', hcs', htk'⟩
        · omega
        · by_cases e : g' = g
          · subst e
            rw [hg] at hg'
            injection hg' with hg'
            injection hg' with hg' _ _
            subst hg'
            have : cap' = cap := Nat.eq_of_mul_eq_mul_right hsz (by rw [← hcs', ← hcs])
            subst this
            exact ⟨hnew, .inl rfl⟩
          · refine ⟨own_keep hu1 hk fun k hk' e' => e ?_, hu2⟩
            have h2 : g' = k := by injection hk'
            have h3 : g = k := by injection e'
            omega
    · have holds : ∀ j u, xs[j]? = some u → w.cell? ((⟨g, 0, none⟩ : Addr).add j) = some u := hown.cells (g := g) rfl
      have hr := run_append_grow (P := P) w t ty e i z ht hi hz ⟨g, 0, none⟩ n cap xs hown.1 holds a m c news hl hnews (by omega) (by omega) (growslice_fits (by omega) hbytes)
      exact ⟨_, _, hr, KeepB.of_below (hbl _), own_keep hown0 (.of_below (K := fun _ => False) (hbl _)) fun _ _ h => h, ⟨grown cap, .inr (hnb _ _)⟩, fun u hu => hu.below (hbl _)⟩

namespace GK
def AS (D : Value → World → Prop) (K : Nat → Prop) (w w' : World) : Prop := KeepB K w w' ∧ ∀ u, D u w → D u w'
def AI (w1 : World) (base : Nat) (e : TypeId) (size : Nat) (v : Value) (n : Nat) (xs : List Value) : Nat → World → Prop := fun _ w => KeepB (fun b => v.ownBlock = some b) w1 w ∧ w.ownsRow base e size v n xs
section
variable {P : Program} {ops : Array Oper} {M : Nat} {sp : Nat → Value → World → Prop} {w0 w1 : World} {D : Value → World → Prop} {K : Nat → Prop} {base : Nat} {e : TypeId} {size : Nat} {v : Value} {n : Nat} {xs : List Value}
variable {Q : List (Nat × (World → Prop)) → Act → Prop} {o : Oper} {rest : List Oper} {i : Nat} {Γ : List (Nat × (World → Prop))} {a : Act}
theorem AI.way : Way (AS D K) (AI w1 base e size v n xs) := ⟨fun w => ⟨KeepB.refl _ _, fun _ h => h⟩, fun _ _ _ h k => ⟨h.1.trans k.1, fun u hu => k.2 u (h.2 u hu)⟩, fun _ _ h => h⟩
theorem AI.begin (h : w1.ownsRow base e size v n xs) : AI w1 base e size v n xs 0 w1.drew :=
  ⟨.of_below (Below.refl _ _).drew, own_keep h (.of_below (K := fun _ => False) (Below.refl _ _).drew) fun _ _ h => h⟩
theorem AI.cell {b o : Nat} {y : Value} (hown : w1.ownsRow base e size v n xs) (h : w1.cell? ⟨b, o, none⟩ = some y) (hb : v.ownBlock ≠ some b) (x : World) : (FamI (Upto (AI w1 base e size v n xs) 200) w1 x).cell? ⟨b, o, none⟩ = some y := by
  obtain ⟨_, _, h2, _⟩ := FamI.is (J := Upto (AI w1 base e size v n xs) 200) (w1 := w1) ⟨0, by omega, KeepB.refl _ _, hown⟩ x
  rw [World.cell?_of_block (h2.block b (World.block_lt_of_cell? _ _ h) hb)]
  exact h
theorem grow_newA (hw : Region.wanted o (yielded ops a.tmps) = true) (mk : Nat → Value) (T : TypeId) (cs : Array Value) (hrun : ∀ w, (execOp a.eval o).run P w = .ok (.value (mk w.heap.size)) (w.alloc (.cells cs T)))
    (hK : ∀ k, K k → k < w1.heap.size) (hD : ∀ u w w', D u w → Below w.heap.size w w' → D u w')
    (h : ∀ b, w1.heap.size ≤ b → wpGrow P ops (AS D K) (AI w1 base e size v n xs) M w0 sp Q rest (i + 1) ((i, fun w' => ∃ b', mk b = mk b' ∧ w1.heap.size ≤ b' ∧ w'.heap[b']? = some (.cells cs T (0, 0))) :: Γ) (a.put o.dst (mk b))) :
    wpGrow P ops (AS D K) (AI w1 base e size v n xs) M w0 sp Q (o :: rest) i Γ a := by
  refine grow_fact (fun u w' => ∃ b', u = mk b' ∧ w1.heap.size ≤ b' ∧ w'.heap[b']? = some (.cells cs T (0, 0))) hw (fun u w w' hb ⟨b', h1, h2, h3⟩ => ⟨b', h1, h2, ?_⟩) (fun m w hm hb _ => ?_) fun u ⟨_, w', _, b', hu, h2, _⟩ => by subst hu; exact h b' h2
  · rw [hb.1.block b' (by
      rcases Nat.lt_or_ge b' w.heap.size with h | h
      · exact h
      · rw [Array.getElem?_eq_none h] at h3; cases h3) (fun hk => by have := hK _ hk; omega), h3]
  · rw [hrun]
    have hbl : Below w.heap.size w (w.alloc (.cells cs T)) := (Below.refl _ w).alloc (Nat.le_refl _) _
    exact ⟨⟨⟨.of_below hbl, fun u hu => hD u _ _ hu hbl⟩, hb.1.trans (.of_below hbl), own_keep hb.2 (.of_below (K := fun _ => False) hbl) fun _ _ h => h⟩, w.heap.size, rfl, hb.1.size, heap_alloc_new w _⟩
theorem grow_app (hw : Region.wanted o (yielded ops a.tmps) = true) (s x : Operand) (t : TypeId) (ho : o.op = .call { callee := .builtin .append, args := #[s, x], argTypes := #[t, t] })
    (ti : TypeInfo) (z : Value) (bytes : Nat) (ht : P.underlying t = some (.slice e)) (hi : P.info? e = some ti) (hz : ti.zero = some z)
    (hsize : ti.size = size) (hby : ti.bytes = bytes) (hzs : z.cells.size = size) (hsz : 0 < size) (hs : a.eval s = v) (ad : Addr) (m c : Nat) (news : List Value) (hx : a.eval x = .slice (some ad) m c) (hl : news.length = m * size)
    (hA : ∀ w, FactsAt .any ops i Γ w → ∀ j u, news[j]? = some u → w.cell? (ad.add j) = some u) (h1 : ∀ u ∈ news, u.oneCell' = true) (hm0 : 0 < m)
    (h63 : n + m ≤ maxLen) (hbytes : (n + m) * bytes ≤ 140737488355328) (hbase : base ≤ w1.heap.size)
    (h : ∀ u, (∃ w', KeepB (fun b => v.ownBlock = some b) w1 w' ∧ Done base e size (n + m) (xs ++ news) v.ownBlock w1.heap.size u w') → wpGrow P ops (AS (Done base e size (n + m) (xs ++ news) v.ownBlock w1.heap.size) fun b => v.ownBlock = some b) (AI w1 base e size v n xs) M w0 sp Q rest (i + 1) ((i, Done base e size (n + m) (xs ++ news) v.ownBlock w1.heap.size u) :: Γ) (a.put o.dst u)) :
    wpGrow P ops (AS (Done base e size (n + m) (xs ++ news) v.ownBlock w1.heap.size) fun b => v.ownBlock = some b) (AI w1 base e size v n xs) M w0 sp Q (o :: rest) i Γ a := by
  refine grow_fact (fun u w' => Done base e size (n + m) (xs ++ news) v.ownBlock w1.heap.size u w') hw (fun u w w' hS hu => hS.2 u hu) (fun k w hk hb hf => ?_) fun u ⟨_, w', h1, h2⟩ => h u ⟨w', h1.1, h2⟩
  have hz1 := hb.1.size
  obtain ⟨v', w', hr, h2, h3, h4, h5⟩ := append_two (P := P) w base t o.type e ti z size bytes ht hi hz hsize hby hzs hsz v n xs hb.2 ad m c news hl (hA w hf) h1 hm0 h63 hbytes (by omega) w1.heap.size (by omega)
  unfold execOp
  simp only [ho, resolve, invoke, builtin, Sem.run_bind, Sem.run_pure, Result.andThen_ok, List.map_toArray, List.map_cons, List.map_nil, hs, hx, hr]
  exact ⟨⟨⟨h2, h5⟩, hb.1.trans h2, h3⟩, h4⟩
end
end GK
end AG

/- slices.Clone at []bool and []int. -/
namespace AG
open Go Go.RowKit
theorem wpList_append_copy {P : Program} {ops : Array Oper} {rest : List Oper} {o : Oper} {a : Act} {w : World} {Q : Exit → Act → World → Prop} (hgd : o.guard = none) (s x : Operand) (t : TypeId)
    (ho : o.op = .call { callee := .builtin .append, args := #[s, x], argTypes := #[t, t] })
    (base : Nat) (e : TypeId) (i : TypeInfo) (z : Value) (size bytes : Nat) (ht : P.underlying t = some (.slice e)) (hi : P.info? e = some i) (hz : i.zero = some z)
    (hsize : i.size = size) (hby : i.bytes = bytes) (hzs : z.cells.size = size) (g : Nat) (hs : a.eval s = .slice (some ⟨g, 0, none⟩) 0 0) (hg : w.heap[g]? = some (.cells #[] e (0, 0))) (hbg : base ≤ g) (hbase : base ≤ w.heap.size)
    (A : Option Addr) (m c : Nat) (news : List Value) (hx : a.eval x = .slice A m c) (hl : news.length = m * size) (hA : 0 < m → ∃ a, A = some a ∧ ∀ j u, news[j]? = some u → w.cell? (a.add j) = some u) (h1 : ∀ u ∈ news, u.oneCell' = true)
    (h63 : m ≤ maxLen) (hbytes : m * bytes ≤ 140737488355328)
    (h : ∀ v' w', w'.ownsRow base e size v' m news → Below w.heap.size w w' → wpList P ops Q rest (a.put o.dst v') w') :
    wpList P ops Q (o :: rest) a w := by
  refine wpList_plain hgd fun K hK => ?_
  obtain ⟨v', w', hr, h2, h3⟩ := run_append_copy (P := P) w base t o.type e i z size bytes ht hi hz hsize hby hzs g hg hbg hbase A m c news hl hA h1 h63 hbytes
  unfold Oper.wp execOp
  simp only [ho, resolve, invoke, builtin, Sem.run_bind, Sem.run_pure, Result.andThen_ok, List.map_toArray, List.map_cons, List.map_nil, hs, hx, hr]
  exact hK _ _ (h v' w' h2 h3)
end AG
namespace Go.Proofs.YtkoganldcmhopaaDoor
open Go.RowKit Go.BigFrame AG
/-- A copy, made since. -/
def CloneP (w : World) (T : TypeId) (n : Nat) (vs : List Value) (e : Ending) (w' : World) : Prop := ∃ v, e = .returned v ∧ w'.ownsRow w.heap.size T 1 v n vs ∧ Below w.heap.size w w'

set_option maxRecDepth 100000 in
set_option maxHeartbeats 4000000 in
theorem clone_bool (B : Option Addr) (xs : List Bool) (d : Nat) (w : World) (hn : xs.length ≤ 1000000) (hd : xs.length ≤ d) (hd2 : d ≤ 9223372036854775807) (hx : BoolsAt w w.heap.size B xs) :
    Calls Tryd.prog 125 #[.slice B xs.length d] w (CloneP w 4 xs.length (boolVals xs)) := by
  obtain ⟨b0, hb, bz0, bz1, bz2⟩ := info_parts infoBools
  obtain ⟨m, hm⟩ : ∃ m, Hid (m = xs.length) := ⟨_, hid rfl⟩
  rw [← hm.out] at hn hd ⊢
  have hnews := hid (fun h : 0 < xs.length => BoolsAt.news hx h)
  replace hx := hid hx
  have q22 : ∀ (w : World) (a : Option Addr) (n c n' c' : Nat), (binOp .eql 24 (.slice a n c) (.slice none n' c')).run Tryd.prog w = .ok (.bool a.isNone) w := fun w a n c n' c' => Lib.run_eql_slice_nil w _ _ a n c n' c' Tryd.underlying24
  cases B with
  | none =>
    have hm0 : m = 0 := by
      rcases Nat.eq_zero_or_pos m with h | h
      · exact h
      · obtain ⟨a, ha, -⟩ := hnews.out (by rw [← hm.out]; exact h)
        cases ha
    have hxs : xs = [] := List.eq_nil_of_length_eq_zero (by have := hm.out; omega)
    subst hm0 hxs
    go_enter Tryd.func125, Tryd.ntmps125
    go_wp2_with fail
    go_ret
    exact ⟨_, rfl, World.ownsRow_nil _ _ _ _, Below.refl _ _⟩
  | some ad =>
    go_enter Tryd.func125, Tryd.ntmps125
    have hb1 : Below w.heap.size w (w.alloc (.cells #[] 4)) := (Below.refl _ _).alloc (Nat.le_refl _) _
    have hfc := heap_alloc_new w (.cells #[] 4)
    replace hfc := hid hfc
    replace hb1 := hid hb1
    have hxl := hid (hx.out.later hb1.out)
    go_wp2_with (at_builtin; refine wpList_append_copy rfl _ _ 24 rfl w.heap.size 4 b0 (.bool false) 1 1 Tryd.underlying24 hb bz0 bz1 bz2 rfl w.heap.size rfl hfc.out (Nat.le_refl _) (by simp) (some ad) m d (boolVals xs) rfl (by rw [boolVals_len, Nat.mul_one]; exact hm.out.symm) (fun h => BoolsAt.news hxl.out (by rw [← hm.out]; exact h)) (boolVals_one _) (by unfold maxLen; omega) (by omega) ?_; intro v5 w5 hO5 hB5; replace hO5 := hid hO5; replace hB5 := hid hB5)
    go_ret
    exact ⟨_, rfl, hO5.out, hb1.out.trans (hB5.out.mono (by simp))⟩

set_option maxRecDepth 100000 in
set_option maxHeartbeats 4000000 in
theorem clone_int (B : Option Addr) (xs : List Int) (d : Nat) (w : World) (hn : xs.length ≤ 1000000) (hd : xs.length ≤ d) (hd2 : d ≤ 9223372036854775807) (hx : IntsAt w w.heap.size B xs) :
    Calls Tryd.prog 126 #[.slice B xs.length d] w (CloneP w 3 xs.length (intVals xs)) := by
  obtain ⟨b0, hb, bz0, bz1, bz2⟩ := info_parts infoInt
  obtain ⟨m, hm⟩ : ∃ m, Hid (m = xs.length) := ⟨_, hid rfl⟩
  rw [← hm.out] at hn hd ⊢
  have hnews := hid (fun h : 0 < xs.length => IntsAt.news hx h)
  replace hx := hid hx
  have q22 : ∀ (w : World) (a : Option Addr) (n c n' c' : Nat), (binOp .eql 52 (.slice a n c) (.slice none n' c')).run Tryd.prog w = .ok (.bool a.isNone) w := fun w a n c n' c' => Lib.run_eql_slice_nil w _ _ a n c n' c' Tryd.underlying52
  cases B with
  | none =>
    have hm0 : m = 0 := by
      rcases Nat.eq_zero_or_pos m with h | h
      · exact h
      · obtain ⟨a, ha, -⟩ := hnews.out (by rw [← hm.out]; exact h)
        cases ha
    have hxs : xs = [] := List.eq_nil_of_length_eq_zero (by have := hm.out; omega)
    subst hm0 hxs
    go_enter Tryd.func126, Tryd.ntmps126
    go_wp2_with fail
    go_ret
    exact ⟨_, rfl, World.ownsRow_nil _ _ _ _, Below.refl _ _⟩
  | some ad =>
    go_enter Tryd.func126, Tryd.ntmps126
    have hb1 : Below w.heap.size w (w.alloc (.cells #[] 3)) := (Below.refl _ _).alloc (Nat.le_refl _) _
    have hfc := heap_alloc_new w (.cells #[] 3)
    replace hfc := hid hfc
    replace hb1 := hid hb1
    have hxl := hid (hx.out.later hb1.out)
    go_wp2_with (at_builtin; refine wpList_append_copy rfl _ _ 52 rfl w.heap.size 3 b0 (.int .i64 0) 1 8 Tryd.underlying52 hb bz0 bz1 bz2 rfl w.heap.size rfl hfc.out (Nat.le_refl _) (by simp) (some ad) m d (intVals xs) rfl (by rw [intVals_len, Nat.mul_one]; exact hm.out.symm) (fun h => IntsAt.news hxl.out (by rw [← hm.out]; exact h)) (intVals_one _) (by unfold maxLen; omega) (by omega) ?_; intro v5 w5 hO5 hB5; replace hO5 := hid hO5; replace hB5 := hid hB5)
    go_ret
    exact ⟨_, rfl, hO5.out, hb1.out.trans (hB5.out.mono (by simp))⟩

end Go.Proofs.YtkoganldcmhopaaDoor

/- impl.copyAutomaton. -/
namespace Go.Proofs.YtkoganldcmhopaaDoor
open Go.RowKit Go.BigFrame AG

set_option maxRecDepth 100000 in
set_option maxHeartbeats 8000000 in
theorem copyAutomaton_any (a : Au) (A B : Option Addr) (c d : Nat) (w : World) (hsz : AuSz 1000000 a) (ha : AuAt w A c B d a) :
    Calls Tryd.prog 65 #[a.val A c B d] w (AuNew a w) := by
  obtain ⟨i0, hi, hz0, hz1, hz2⟩ := info_parts infoInt
  obtain ⟨j0, hj, jz0, jz1, jz2⟩ := info_parts infoRows
  obtain ⟨b0, hb, bz0, bz1, bz2⟩ := info_parts infoBools
  obtain ⟨s1, s2, s3⟩ := hsz
  obtain ⟨w0, hw0, hz00, hB0, hS, -⟩ := boxed2 w #[Value.int IntKind.i64 a.al, Value.slice A a.nx.length c, Value.slice B a.ac.length d] 26 #[Value.int IntKind.i64 0, Value.slice none 0 0, Value.slice none 0 0] 26
  have hres : Hid (Blk w0 (w.heap.size + 1) 26 #[Value.int IntKind.i64 0, Value.slice none 0 0, Value.slice none 0 0]) := hid (by
    rw [← hw0]
    have := Blk.new (w.alloc (.cells #[Value.int IntKind.i64 a.al, Value.slice A a.nx.length c, Value.slice B a.ac.length d] 26)) 26 #[Value.int IntKind.i64 0, Value.slice none 0 0, Value.slice none 0 0]
    simpa using this)
  have hz0e : Hid (w0.heap.size = w.heap.size + 2) := hid (by rw [← hw0]; simp)
  have ha0 := hid (ha.later hB0)
  have hcl := ha.cl
  have hcm := ha.cm
  have hdl := ha.dl
  have hdm := ha.dm
  have p0 := hS 0 _ rfl _ (Below.refl _ _)
  have p1 := hS 1 _ rfl _ (Below.refl _ _)
  have p2 := hS 2 _ rfl _ (Below.refl _ _)
  replace ha := hid ha
  have q0 := GK.BI.cell p0
  have q2 := GK.BI.cell p2
  unfold AG.Au.val
  go_enter Tryd.func65, Tryd.ntmps65
  go_upto_region 1 with fail
  clear p0 p1 p2 hw0
  have hacc0 := hid ha0.out.acc
  refine GK.wp_region 7 [7] 200 (KeepB fun _ => False) (GK.BI w0) (fun _ u w' => w'.ownsRow w0.heap.size 4 1 u a.ac.length (boolVals a.ac)) (by kernel_rfl) (by kernel_rfl) (GK.BI.way w0) (by decide) (Below.refl _ _).drew ?_
  simp only [List.take_succ_cons, List.take_zero]
  (repeat (refine GK.grow_quiet w0 (by rfl) (by rfl) ?_; intro K hK; go_big_quiet_op; go_big_quiet_on))
  refine GK.grow_call (by rfl) GK.own_steady (fun m wq hm hbq hf => ?_) ?_
  · go_simp
    exact ⟨rfl, (clone_bool B a.ac d wq s2 hdl hdm (hacc0.out.later hbq)).mono fun e w' ⟨v, h1, h2, h3⟩ => ⟨v, h1, GK.BI.after hbq h3, own_base h2 (GK.BI.size hbq)⟩⟩
  rintro v ⟨_, wq, -, hv⟩
  obtain ⟨A2, c2, hve, hc2, hc2'⟩ := own_slice hv
  subst hve
  clear hv wq
  simp only [Act.put, List.setIfInBounds_toArray, List.set_cons_zero, List.set_cons_succ]
  (repeat (refine GK.grow_quiet w0 (by rfl) (by rfl) ?_; intro K hK; go_big_quiet_op; go_big_quiet_on))
  refine GK.grow_new (K := fun _ => False) (by rfl) _ (fun b => .pointer (some ⟨b, 0, none⟩)) 26 #[.int .i64 0, .slice none 0 0, .slice none 0 0] (fun _ => by go_simp) rfl (fun _ _ o h => GK.BI.alloc o h) (fun _ _ h => GK.BI.size h) (fun _ h => h.elim) (fun gs hgs => ?_)
  simp only [Act.put, List.setIfInBounds_toArray, List.set_cons_zero, List.set_cons_succ]
  refine GK.grow_nil ?_
  intro w2 hw2 hf
  simp only [List.filterMap_cons, List.filterMap_nil, List.getElem?_cons_zero, List.getElem?_cons_succ]
  obtain ⟨gs', e1, -, hblk⟩ := hf _ List.mem_cons_self
  cases e1
  have hown := hf _ (List.mem_cons_of_mem _ List.mem_cons_self)
  replace hw2 : Below w0.heap.size w0 w2 := hw2
  clear hf q0 q2
  have hblk' : Blk w2 gs 26 #[.int .i64 0, .slice none 0 0, .slice none 0 0] := hblk
  have hown' : w2.ownsRow w0.heap.size 4 1 (.slice A2 a.ac.length c2) a.ac.length (boolVals a.ac) := hown
  have hgl := hblk'.lt
  have c0 := hblk'.cell 0
  have c1 := hblk'.cell 1
  have c2x := hblk'.cell 2
  have f0 := hblk'.frozen 0
  have f1 := hblk'.frozen 1
  have f2 := hblk'.frozen 2
  simp only [List.getElem?_toArray, List.getElem?_cons_zero, List.getElem?_cons_succ] at c0 c1 c2x
  have hneO : (Value.slice A2 a.ac.length c2).ownBlock ≠ some gs := fun e => own_ne hown' hblk' (by decide) gs e rfl
  obtain ⟨w3, hw3⟩ : ∃ w3, Hid (((w2.setCell ⟨gs, 0, none⟩ (.int .i64 a.al)).setCell ⟨gs, 1, none⟩ (.slice none 0 0)).setCell ⟨gs, 2, none⟩ (.slice A2 a.ac.length c2) = w3) := ⟨_, hid rfl⟩
  have hst : Hid (AuSt (fun _ => False) w0 w3 gs (.slice none 0 0) (.slice A2 a.ac.length c2) ⟨a.al, [], a.ac⟩ []) := hid (by
    rw [← hw3.out]
    exact ⟨KeepB.of_below (((hw2.setCell (by simpa using hgs) _).setCell (by simpa using hgs) _).setCell (by simpa using hgs) _), hgs, ⟨⟨World.ownsRow_nil _ _ _ _, fun x hx => (by cases hx), List.Pairwise.nil⟩, rfl, ownsRow_setCell_other (ownsRow_setCell_other (ownsRow_setCell_other hown' hneO _) hneO _) hneO _⟩,
      by simpa using ((hblk'.set_ 0 (.int .i64 a.al)).set_ 1 (.slice none 0 0)).set_ 2 (.slice A2 a.ac.length c2)⟩)
  have hB03 : ∀ {wr : World} {v1 v2 : Value} {x : Au} {ys : List RowV}, AuSt (fun _ => False) w0 wr gs v1 v2 x ys → Below w0.heap.size w0 wr := fun h => ⟨h.keep.os, h.keep.tape, h.keep.output, h.keep.size, fun i hi => h.keep.block i hi (fun h => h)⟩
  replace hblk := hid hblk
  replace hown := hid hown
  replace hown' := hid hown'
  replace hblk' := hid hblk'
  go_upto_region 2 with fail
  rw [hw3.out]
  have p1 := hS 1 _ rfl _ ((hB03 hst.out).mono hz00)
  clear c0 c1 c2x f0 f1 f2
  go_wp2_with fail
  clear p1
  go_loopw [15] (fun iv wr => ∃ (i : Nat) (v1 : Value) (xs : List RowV), iv = .int .i64 (i : Nat) ∧ i ≤ a.nx.length ∧ AuSt (fun _ => False) w0 wr gs v1 (.slice A2 a.ac.length c2) ⟨a.al, a.nx.take i, a.ac⟩ xs) (fun iv _ => a.nx.length - (intOf iv).toNat)
  case atStart => exact ⟨0, _, _, rfl, by omega, hst.out⟩
  case round =>
    obtain ⟨i, v1, xs, rfl, hi', hs⟩ := hrel
    obtain ⟨A1, c1, e1, -, -⟩ := own_slice hs.own.rows.own
    subst e1
    have hbr := hB03 hs
    by_cases hlt : i < a.nx.length
    · obtain ⟨bR, oR, hRe, hbR, hER⟩ := ha0.out.rows (by omega)
      subst hRe
      obtain ⟨Ai, ci, r0, h1, h2, h3⟩ := hER i hlt
      rw [← hbr.cell (by simpa using hbR)] at r0
      have htk : Hid (a.nx.take (i + 1) = a.nx.take i ++ [a.nx[i]]) := hid (List.take_succ_eq_append_getElem hlt)
      obtain ⟨r, hr⟩ : ∃ r, Hid (r = a.nx[i]) := ⟨_, hid rfl⟩
      have hrl := s3 _ (List.getElem_mem hlt)
      rw [← hr.out] at r0 h1 h3 htk hrl
      have hxl : xs.length ≤ 1000000 := by have := hs.len; have h4 : (a.nx.take i).length ≤ i := by rw [List.length_take]; omega
                                           show xs.length ≤ _; have h5 : xs.length = (a.nx.take i).length := this; omega
      have k1 : (0 : Int) ≤ (i : Int) ∧ (i : Int) < (a.nx.length : Int) := by omega
      have k2 := hs.blk.cell 1
      simp only [List.getElem?_toArray, List.getElem?_cons_zero, List.getElem?_cons_succ] at k2
      have hgsr := hs.blk.lt
      have q1 := GK.BI.cell k2
      have h3r := hid (h3.later hbr)
      have hlow : Hid (∀ y ∈ xs, ∀ k, y.v.ownBlock = some k → k < wr.heap.size) := hid fun y hy k e => (hs.rowLt hy e).2
      have hbrz := hbr.size
      replace hs := hid hs
      replace hER := hid hER
      replace h3 := hid h3
      go_upto_region 5 with fail
      clear k2 r0
      refine GK.wp_region 5 [5, 6, 7] 200 (KeepB fun _ => False) (GK.BI wr) (fun _ u w' => w'.ownsRow wr.heap.size 3 1 u r.length (intVals r)) (by kernel_rfl) (by kernel_rfl) (GK.BI.way wr) (by decide) (Below.refl _ _).drew ?_
      simp only [List.take_succ_cons, List.take_zero]
      (repeat (refine GK.grow_quiet wr (by rfl) (by rfl) ?_; intro K hK; go_big_quiet_op; go_big_quiet_on))
      refine GK.grow_call (by rfl) GK.own_steady (fun m wq hm hbq hf => ?_) ?_
      · go_simp
        exact ⟨rfl, (clone_int Ai r ci wq hrl h1 h2 (h3r.out.later hbq)).mono fun e w' ⟨v, h1, h2, h3⟩ => ⟨v, h1, GK.BI.after hbq h3, own_base h2 (GK.BI.size hbq)⟩⟩
      rintro v ⟨_, wq, -, hv⟩
      obtain ⟨Ar, cr, hve, hcr, hcr'⟩ := own_slice hv
      subst hve
      clear hv wq
      simp only [Act.put, List.setIfInBounds_toArray, List.set_cons_zero, List.set_cons_succ]
      refine GK.grow_new (K := fun _ => False) (by rfl) _ (fun b => .slice (some ⟨b, 0, none⟩) 1 1) 52 #[.slice Ar r.length cr] (fun _ => by go_simp) rfl (fun _ _ o h => GK.BI.alloc o h) (fun _ _ h => GK.BI.size h) (fun _ h => h.elim) (fun bb hbb2 => ?_)
      simp only [Act.put, List.setIfInBounds_toArray, List.set_cons_zero, List.set_cons_succ]
      refine GK.grow_nil ?_
      intro w4 hw4 hf
      simp only [List.filterMap_cons, List.filterMap_nil, List.getElem?_cons_zero, List.getElem?_cons_succ]
      obtain ⟨bb', e1, -, hblk4⟩ := hf _ List.mem_cons_self
      cases e1
      have hor : w4.ownsRow wr.heap.size 3 1 (.slice Ar r.length cr) r.length (intVals r) := hf _ (List.mem_cons_of_mem _ List.mem_cons_self)
      replace hw4 : Below wr.heap.size wr w4 := hw4
      clear hf q1
      have hs4 := hs.out.later hw4
      have hown4 := hs4.own.rows.own
      have hbl4 := hs4.blk
      have ag : (Value.slice A1 xs.length c1).ownBlock ≠ some gs := fun e => own_ne hown4 hbl4 (by decide) _ e rfl
      have hbl4' := hbl4.lt
      have k2 := hbl4.cell 1
      have f2 := hbl4.frozen 1
      simp only [List.getElem?_toArray, List.getElem?_cons_zero, List.getElem?_cons_succ] at k2
      replace hs4 := hid hs4
      have hz4 := hw4.size
      have hor' := hid hor
      clear hor
      refine wpList_append_own_at _ (by rfl) _ _ 23 (by rfl) w0.heap.size 52 j0 (.slice none 0 0) 1 24 Tryd.underlying23 hj jz0 jz1 jz2 rfl (by decide) _ xs.length (rowVals xs) (by rfl) hown4 ⟨bb, 0, none⟩ 1 1 [.slice Ar r.length cr] (by rfl) (by rfl) (World.news_of_block hblk4) ?c1 ?c3 ?c4 ?c5 ?_
      case c1 => simp [Value.oneCell']
      case c3 => unfold maxLen; omega
      case c4 => omega
      case c5 => have := hs4.out.keep.size; omega
      intro v9 w9 hown9 hgrow hnil9 hat9
      obtain ⟨A9, c9, hv9, -, -⟩ := own_slice hown9
      subst hv9
      have c2'' : w9.cell? ⟨gs, 1, none⟩ = some (.slice A1 xs.length c1) := by rw [hgrow.cell_far _ (by simpa using hbl4') (Ne.symm ag)]; exact k2
      have f2'' : w9.frozen? ⟨gs, 1, none⟩ = false := by rw [hgrow.frozen_far _ (by simpa using hbl4') (Ne.symm ag)]; exact f2
      have hfin := hid (hs4.out.row (x := ⟨r, Ar, cr⟩) (own_base (show w4.ownsRow wr.heap.size 3 1 (.slice Ar r.length cr) r.length (intVals r) from hor'.out) hbrz) (fun y hy k e e2 => by have := hlow.out y hy k e; have := (hor'.out.lt k e2).1; omega) hgrow hown9)
      clear hown4 hbl4 hown9 hgrow k2 f2
      go_wp2_with fail
      go_roundw
      case rel => exact ⟨i + 1, _, _, by go_num, by omega, by rw [htk.out]; exact hfin.out⟩
      case measure => simp [intOf]; omega
    · rw [List.take_of_length_le (by omega)] at hs
      have hxl : xs.length = a.nx.length := hs.len
      rw [hxl] at hs
      have k0 := hs.blk.cell 0
      have k1 := hs.blk.cell 1
      have k2 := hs.blk.cell 2
      have hbl := hres.out.below hbr (by have := hz0e.out; omega)
      have d0 := hbl.cell 0
      have d1 := hbl.cell 1
      have d2 := hbl.cell 2
      have f0 := hbl.frozen 0
      have f1 := hbl.frozen 1
      have f2 := hbl.frozen 2
      simp only [List.getElem?_toArray, List.getElem?_cons_zero, List.getElem?_cons_succ] at d0 d1 d2 k0 k1 k2
      have hltb := hbl.lt
      have hfin : Hid (AuNew a w (.returned (.agg #[.int .i64 a.al, .slice A1 a.nx.length c1, .slice A2 a.ac.length c2])) (((wr.setCell ⟨w.heap.size + 1, 0, none⟩ (.int .i64 a.al)).setCell ⟨w.heap.size + 1, 1, none⟩ (.slice A1 a.nx.length c1)).setCell ⟨w.heap.size + 1, 2, none⟩ (.slice A2 a.ac.length c2))) := hid (by
        have hk2 : KeepB (fun b => b = w.heap.size + 1) wr (((wr.setCell ⟨w.heap.size + 1, 0, none⟩ (.int .i64 a.al)).setCell ⟨w.heap.size + 1, 1, none⟩ (.slice A1 a.nx.length c1)).setCell ⟨w.heap.size + 1, 2, none⟩ (.slice A2 a.ac.length c2)) := (((KeepB.refl _ wr).setCell _ _ (by simp)).setCell _ _ (by simp)).setCell _ _ (by simp)
        refine ⟨_, _, xs, rfl, (hs.own.keepNew hk2 (fun b e => by have := hz0e.out; omega)).base (by have := hz0e.out; omega), ?_⟩
        exact (((hB0.trans (hbr.mono (by have := hz0e.out; omega))).setCell (by simp) _).setCell (by simp) _).setCell (by simp) _)
      replace hs := hid hs
      replace hxl := hid hxl
      clear hbl
      go_wp2
      refine bodyPost_ret (v := .agg #[.int .i64 a.al, .slice A1 a.nx.length c1, .slice A2 a.ac.length c2]) (by simp [results, Tryd.results65, go_sem, d0, d1, d2]) rfl ?_
      exact hfin.out

end Go.Proofs.YtkoganldcmhopaaDoor

/- The reference's AutomatonValid and l6Accepting. -/
namespace Go.Proofs.YtkoganldcmhopaaDoor
open Go.RowKit Go.BigFrame AG

noncomputable def rowOkB (L n : Nat) (r : List Int) : Bool := @decide (rowOk L n r) (Classical.propDecidable _)
theorem rowOkB_iff {L n : Nat} {r : List Int} : rowOkB L n r = true ↔ rowOk L n r := by unfold rowOkB; exact @decide_eq_true_iff _ (Classical.propDecidable _)
theorem rowOkB_no {L n : Nat} {r : List Int} (h : ¬ rowOk L n r) : rowOkB L n r = false := by rw [← Bool.not_eq_true, rowOkB_iff]; exact h
set_option maxRecDepth 100000 in
set_option maxHeartbeats 1000000 in
theorem l3Row_any (r : List Int) (A : Option Addr) (c L n : Nat) (w : World) (hl : r.length ≤ c) (hc : c ≤ 9223372036854775807) (hr : IntsAt w w.heap.size A r) :
    Calls Tryd.prog 116 #[.slice A r.length c, .int .i64 (L : Nat), .int .i64 (n : Nat)] w fun e w' => e = .returned (.bool (rowOkB L n r)) ∧ Below w.heap.size w w' := by
  replace hr := hid hr
  go_enter Tryd.func116, Tryd.ntmps116
  by_cases hrl : r.length = L
  case neg =>
    have hno := hid (rowOkB_no (n := n) (fun h : rowOk L n r => hrl h.1))
    have hq : ((r.length : Int) != (L : Int)) = true := by simp; omega
    replace hrl := hid hrl
    go_wp2
    go_ret
    exact ⟨ret_bool (by rw [hno.out]), Below.refl _ _⟩
  have hq : ((r.length : Int) != (L : Int)) = false := by simp; omega
  replace hrl := hid hrl
  go_wp2
  go_loopw [7] (fun jv wq => ∃ j : Nat, jv = .int .i64 (j : Nat) ∧ j ≤ r.length ∧ (∀ q ∈ r.take j, 0 ≤ q ∧ q < (n : Int)) ∧ wq = w) (fun jv _ => r.length - (intOf jv).toNat)
  case atStart => exact ⟨0, rfl, by omega, by simp, rfl⟩
  case round =>
    obtain ⟨j, rfl, hj, hin, rfl⟩ := hrel
    by_cases hjl : j < r.length
    · obtain ⟨bj, oj, hA, hbj, hcell⟩ := hr.out (by omega)
      subst hA
      have c0 := hcell j hjl
      obtain ⟨q, hq'⟩ : ∃ q, Hid (q = r[j]) := ⟨_, hid rfl⟩
      rw [← hq'.out] at c0
      have hqm : Hid (q ∈ r) := hid (by rw [hq'.out]; exact List.getElem_mem _)
      have k2 : (0 : Int) ≤ (j : Int) ∧ (j : Int) < (r.length : Int) := by omega
      replace hcell := hid hcell
      replace hin := hid hin
      by_cases hqn : 0 ≤ q ∧ q < (n : Int)
      · have hq1 : ¬ (q < 0) := by omega
        have hq2 : ¬ ((n : Int) ≤ q) := by omega
        go_wp2
        go_roundw
        case rel =>
          refine ⟨j + 1, by go_num, by omega, fun y hy => ?_, by first | rfl | trivial⟩
          rw [List.take_succ_eq_append_getElem hjl, List.mem_append, List.mem_singleton, ← hq'.out] at hy
          rcases hy with hy | rfl
          · exact hin.out y hy
          · exact hqn
        case measure => simp [intOf]; omega
      · have hno := hid (rowOkB_no (fun h : rowOk L n r => hqn (h.2 q hqm.out)))
        by_cases hq1 : q < 0
        · go_wp2
          go_ret
          exact ⟨ret_bool (by rw [hno.out]), Below.refl _ _⟩
        · have hq2 : ((n : Int) ≤ q) := by omega
          go_wp2
          go_ret
          exact ⟨ret_bool (by rw [hno.out]), Below.refl _ _⟩
    · rw [List.take_of_length_le (by omega)] at hin
      have hyes := hid (rowOkB_iff.2 (show rowOk L n r from ⟨hrl.out, hin⟩))
      replace hin := hid hin
      go_wp2
      go_ret
      exact ⟨ret_bool (by rw [hyes.out]), Below.refl _ _⟩

set_option maxRecDepth 100000 in
set_option maxHeartbeats 4000000 in
theorem specAutomatonValid_any (a : Au) (A B : Option Addr) (c d : Nat) (w : World) (ha : AuAt w A c B d a) :
    Calls Tryd.prog 60 #[a.val A c B d] w fun e w' => e = .returned (.bool (auOk a)) ∧ Below w.heap.size w w' := by
  obtain ⟨cl, cm, dl, dm, hrows, -⟩ := ha
  unfold AG.Au.val
  obtain ⟨w0, hw0, hz0, hB0, hS⟩ := boxed w #[Value.int IntKind.i64 a.al, Value.slice A a.nx.length c, Value.slice B a.ac.length d] 26
  have hr0 := hid (hrows.later hB0)
  have p0 := hS 0 _ rfl _ (Below.refl _ _)
  have p1 := hS 1 _ rfl _ (Below.refl _ _)
  have p2 := hS 2 _ rfl _ (Below.refl _ _)
  replace hrows := hid hrows
  go_enter Tryd.func60, Tryd.ntmps60
  go_wp2_with fail
  refine (l1Alphabet_any a.al w0).mono ?_
  rintro e w1 ⟨rfl, rfl⟩
  cases hal : alphaOk a.al
  case false =>
    have hno := hid (auOk_no (a := a) (by rw [hal]; simp))
    replace hal := hid hal
    go_wp2
    go_ret
    exact ⟨ret_bool (by rw [hno.out]), hB0⟩
  case true =>
  have hal' := hid hal
  clear hal
  by_cases hn1 : 1 ≤ a.nx.length
  case neg =>
    have hno := hid (auOk_no (a := a) (by omega))
    have ht : ((a.nx.length : Int) < 1) := by omega
    go_wp2
    go_ret
    exact ⟨ret_bool (by rw [hno.out]), hB0⟩
  by_cases hn2 : a.nx.length ≤ 12
  case neg =>
    have hno := hid (auOk_no (a := a) (by omega))
    have ht : ¬ ((a.nx.length : Int) < 1) := by omega
    have ht2 : ((12 : Int) < (a.nx.length : Int)) := by omega
    go_wp2
    go_ret
    exact ⟨ret_bool (by rw [hno.out]), hB0⟩
  have ht : ¬ ((a.nx.length : Int) < 1) := by omega
  have ht2 : ¬ ((12 : Int) < (a.nx.length : Int)) := by omega
  by_cases hn3 : a.ac.length = a.nx.length
  case neg =>
    have hno := hid (auOk_no (a := a) (fun h => hn3 h.2.2.2.1))
    have ht3 : ((a.ac.length : Int) != (a.nx.length : Int)) = true := by simp; omega
    replace hn3 := hid hn3
    go_wp2
    go_ret
    exact ⟨ret_bool (by rw [hno.out]), hB0⟩
  have ht3 : ((a.ac.length : Int) != (a.nx.length : Int)) = false := by simp; omega
  replace hn3 := hid hn3
  obtain ⟨L, hL⟩ : ∃ L, Hid (L = (letters a.al).length) := ⟨_, hid rfl⟩
  have hL6 : L ≤ 6 := by rw [hL.out]; exact lettersTo_len a.al 6
  go_wp2_with fail
  clear p0 p1 p2
  go_loopw [4] (fun iv wr => ∃ i : Nat, iv = .int .i64 (i : Nat) ∧ i ≤ a.nx.length ∧ (∀ r ∈ a.nx.take i, rowOk L a.nx.length r) ∧ Below w0.heap.size w0 wr) (fun iv _ => a.nx.length - (intOf iv).toNat)
  case atStart => exact ⟨0, rfl, by omega, by simp, Below.refl _ _⟩
  case round =>
    obtain ⟨i, rfl, hi, hok, hb⟩ := hrel
    have hBr := hB0.trans (hb.mono hB0.size)
    by_cases hlt : i < a.nx.length
    · obtain ⟨b, o, hA, hbB, hE⟩ := hr0.out (by omega)
      subst hA
      obtain ⟨Ai, ci, e0, h1, h2, h3⟩ := hE i hlt
      rw [← hb.cell (by simpa using hbB)] at e0
      obtain ⟨r, hr⟩ : ∃ r, Hid (r = a.nx[i]) := ⟨_, hid rfl⟩
      rw [← hr.out] at e0 h1 h3
      have hmem : Hid (r ∈ a.nx) := hid (by rw [hr.out]; exact List.getElem_mem _)
      have k1 : (0 : Int) ≤ (i : Int) ∧ (i : Int) < (a.nx.length : Int) := by omega
      have h3' := hid h3
      replace hE := hid hE
      replace hok := hid hok
      clear h3
      have hF : ∀ x, Below (w.heap.size + 1) w0 (Fam wr.heap.size wr x) := fun x => (hb.trans ((Fam.below _ _ x).mono hb.size)).mono hz0
      have y0 := fun x => hS 0 _ rfl _ (hF x)
      have y1 := fun x => hS 1 _ rfl _ (hF x)
      have y2 := fun x => (Fam.below wr.heap.size wr x).cell (World.block_lt_of_cell? _ _ e0) |>.trans e0
      obtain ⟨R, hR⟩ : ∃ R, Hid (R = rowOkB L a.nx.length r) := ⟨_, hid rfl⟩
      have hrd := hid (h3'.out.later hb)
      replace hF := hid hF
      clear e0
      go_wp2_with fail
      refine wp_region_grow 12 wr.heap.size wr (fun i u w' => if i = 7 then OwnNats w' wr.heap.size u (letters a.al) else u = .bool R) (by kernel_rfl) (by kernel_rfl) (Nat.le_refl _) (Below.refl _ _) ?_
      simp only [List.take_succ_cons, List.take_zero, List.drop_succ_cons, List.drop_zero]
      (repeat (refine grow_quiet (by rfl) (by rfl) (by rfl) ?_; intro K hK; go_big_quiet_op; go_big_quiet_on))
      refine grow_call (by rfl) (by rfl) (fun u v v' hb h => ?_) (fun wq hbq _ => ?_) fun u hu => ?_
      · exact own_keep h (.of_below (K := fun _ => False) hb) fun _ _ h => h
      · go_simp
        refine ⟨rfl, (l1Letters_any a.al wq).mono ?_⟩
        rintro e w5 ⟨v, rfl, ho, hb5⟩
        exact ⟨v, rfl, hb5, own_base ho hbq.size⟩
      obtain ⟨wx, hbx, hux⟩ := hu
      obtain ⟨AL, cL, rfl, hcL, hcL'⟩ := own_slice hux
      rw [← hL.out] at hcL ⊢
      clear hux hbx
      simp only [Act.put, List.setIfInBounds_toArray, List.set_cons_zero, List.set_cons_succ]
      (repeat (refine grow_quiet (by rfl) (by rfl) (by rfl) ?_; intro K hK; go_big_quiet_op; go_big_quiet_on))
      refine grow_val (.bool R) (by rfl) (by rfl) rfl (fun wq hbq _ => ?_) ?_
      · have hrq := hid (hrd.out.later hbq)
        go_simp
        refine ⟨rfl, (l3Row_any r Ai ci L a.nx.length wq h1 h2 hrq.out).mono ?_⟩
        rintro e w6 ⟨rfl, hb6⟩
        exact ⟨by rw [hR.out], hb6⟩
      simp only [Act.put, List.setIfInBounds_toArray, List.set_cons_zero, List.set_cons_succ]
      (repeat (refine grow_quiet (by rfl) (by rfl) (by rfl) ?_; intro K hK; go_big_quiet_op; go_big_quiet_on))
      refine grow_nil ?_
      intro w7 hb7 hf
      clear hf y0 y1 y2
      have hb27 := hb.trans (hb7.mono hb.size)
      have hB7 := hB0.trans (hb27.mono hB0.size)
      cases R
      · have hno := hid (auOk_no (a := a) (fun h => by
          have h5 := rowOkB_iff.2 (h.2.2.2.2 r hmem.out)
          rw [← hL.out, ← hR.out] at h5
          cases h5))
        go_wp2_with fail
        go_ret
        exact ⟨ret_bool (by rw [hno.out]), hB7⟩
      · have hro := hid (rowOkB_iff.1 hR.out.symm)
        go_wp2_with fail
        go_roundw
        case rel =>
          refine ⟨i + 1, by go_num, by omega, fun y hy => ?_, hb27⟩
          rw [List.take_succ_eq_append_getElem hlt, List.mem_append, List.mem_singleton, ← hr.out] at hy
          rcases hy with hy | rfl
          · exact hok.out y hy
          · exact hro.out
        case measure => simp [intOf]; omega
    · rw [List.take_of_length_le (by omega)] at hok
      have hyes := hid ((auOk_iff a).2 ⟨hal'.out, hn1, hn2, hn3.out, by rw [← hL.out]; exact hok⟩)
      replace hok := hid hok
      go_wp2
      go_ret
      exact ⟨ret_bool (by rw [hyes.out]), hBr⟩

set_option maxRecDepth 100000 in
set_option maxHeartbeats 1000000 in
theorem l6Accepting_any (a : Au) (A B : Option Addr) (c d : Nat) (w : World) (hn : a.ac.length = a.nx.length) (h12 : a.nx.length ≤ 12) (ha : AuAt w A c B d a) :
    Calls Tryd.prog 63 #[a.val A c B d] w fun e w' => e = .returned (.int .i64 (accS a : Nat)) ∧ Below w.heap.size w w' := by
  obtain ⟨cl, cm, dl, dm, -, hacc⟩ := ha
  unfold AG.Au.val
  obtain ⟨w0, hw0, hz0, hB0, hS⟩ := boxed w #[Value.int IntKind.i64 a.al, Value.slice A a.nx.length c, Value.slice B a.ac.length d] 26
  have ha0 := hid (hacc.later hB0)
  have p2 := hS 2 _ rfl _ (Below.refl _ _)
  replace hacc := hid hacc
  have h12' : a.ac.length ≤ 12 := by omega
  have hfin : Hid (accSet a a.ac.length = accS a) := hid (by unfold accS; rw [hn])
  clear hn
  go_enter Tryd.func63, Tryd.ntmps63
  go_wp2_with fail
  go_loopw [3, 4] (fun sv iv wr => ∃ i : Nat, iv = .int .i64 (i : Nat) ∧ i ≤ a.ac.length ∧ sv = .int .i64 (accSet a i : Nat) ∧ wr = w0) (fun _ iv _ => a.ac.length - (intOf iv).toNat)
  case atStart => exact ⟨0, rfl, by omega, rfl, rfl⟩
  case round =>
    obtain ⟨i, rfl, hi, rfl, rfl⟩ := hrel
    have hlt2 := accSet_lt a i
    by_cases hlt : i < a.ac.length
    · obtain ⟨b, o, hA, hbB, hE⟩ := ha0.out (by omega)
      subst hA
      have c0 := hE i hlt
      have hsucc : Hid (accSet a (i + 1) = if a.ac[i] = true then accSet a i ||| 2 ^ i else accSet a i) := hid (by
        show (if a.ac.getD i false = true then _ else _) = _
        rw [List.getD_eq_getElem?_getD, List.getElem?_eq_getElem hlt]
        rfl)
      obtain ⟨t, ht⟩ : ∃ t, t = a.ac[i] := ⟨_, rfl⟩
      rw [← ht] at c0 hsucc
      have k1 : (0 : Int) ≤ (i : Int) ∧ (i : Int) < (a.ac.length : Int) := by omega
      replace hE := hid hE
      clear ht
      have hpw : 2 ^ i ≤ 2 ^ 12 := Nat.pow_le_pow_right (by omega) (by omega)
      cases t
      · have hs : Hid (accSet a (i + 1) = accSet a i) := hid (by rw [hsucc.out]; simp)
        clear hpw hlt2
        go_wp2_with fail
        go_roundw
        case rel => exact ⟨i + 1, by go_num, by omega, by rw [hs.out], by first | rfl | trivial⟩
        case measure => simp [intOf]; omega
      · have hs : Hid (accSet a (i + 1) = accSet a i ||| 2 ^ i) := hid (by rw [hsucc.out]; simp)
        obtain ⟨S, hSs⟩ : ∃ S, Hid (S = accSet a i) := ⟨_, hid rfl⟩
        rw [← hSs.out] at hlt2 hs ⊢
        obtain ⟨P, hP⟩ : ∃ P, Hid (P = 2 ^ i) := ⟨_, hid rfl⟩
        rw [← hP.out] at hlt2 hs hpw
        have hor := bits_orN S P (by omega) (by omega)
        go_wp2_with (go_at_call 119; refine (l1Bit_any i _ (by omega)).mono ?_; rintro e w' ⟨rfl, rfl⟩; rw [← hP.out])
        go_roundw
        case rel => exact ⟨i + 1, by go_num, by omega, by rw [hs.out], by first | rfl | trivial⟩
        case measure => simp [intOf]; omega
    · obtain rfl : i = a.ac.length := by omega
      go_wp2_with fail
      go_ret
      exact ⟨ret_int (by rw [hfin.out]), hB0⟩

end Go.Proofs.YtkoganldcmhopaaDoor

/- math/bits.OnesCount on small numbers; the program's rank. -/
namespace Go.Proofs.YtkoganldcmhopaaDoor
open Go.RowKit Go.BigFrame AG

theorem and_u64 (a b : Nat) (ha : a < 18446744073709551616) (hb : b < 18446744073709551616) : bits .and .u64 (a : Int) (b : Int) = ((a &&& b : Nat) : Int) := by
  have hx : a &&& b < 2 ^ 64 := Nat.and_lt_two_pow _ (by omega)
  show IntKind.u64.wrap ((BitVec.ofInt 64 (a : Int) &&& BitVec.ofInt 64 (b : Int)).toNat : Int) = _
  rw [BitVec.toNat_and, BitVec.ofInt_natCast, BitVec.ofInt_natCast, BitVec.toNat_ofNat, BitVec.toNat_ofNat, Nat.mod_eq_of_lt (by omega), Nat.mod_eq_of_lt (by omega), IntKind.wrap_u64]
  omega
theorem wrap_u64n (a b : Nat) (h : a + b < 18446744073709551616) : IntKind.u64.wrap ((a : Int) + (b : Int)) = ((a + b : Nat) : Int) := by
  rw [IntKind.wrap_u64]
  omega

set_option maxHeartbeats 4000000 in
theorem onesCount64_any (x : Nat) (hx : x < 65536) (w : World) :
    Calls Tryd.prog 174 #[.int .u64 x] w fun e w' => e = .returned (.int .i64 (popE x : Nat)) ∧ w = w' := by
  have hp := hid (pop_steps x hx)
  obtain ⟨a1, ha1⟩ : ∃ a, a = x / 2 &&& 6148914691236517205 := ⟨_, rfl⟩
  obtain ⟨a2, ha2⟩ : ∃ a, a = x &&& 6148914691236517205 := ⟨_, rfl⟩
  have l1 : a1 ≤ x / 2 := by rw [ha1]; exact Nat.and_le_left
  have l2 : a2 ≤ x := by rw [ha2]; exact Nat.and_le_left
  have f1 : bits .and .u64 ((x : Int) / 2) 6148914691236517205 = (a1 : Nat) := by
    have := and_u64 (x / 2) 6148914691236517205 (by omega) (by omega)
    rw [← ha1] at this
    exact this
  have f2 : bits .and .u64 (x : Int) 6148914691236517205 = (a2 : Nat) := by
    have := and_u64 x 6148914691236517205 (by omega) (by omega)
    rw [← ha2] at this
    exact this
  obtain ⟨x1, hx1⟩ : ∃ a, a = a1 + a2 := ⟨_, rfl⟩
  have f3 : IntKind.u64.wrap ((a1 : Int) + (a2 : Int)) = (x1 : Nat) := by rw [wrap_u64n a1 a2 (by omega), hx1]
  obtain ⟨b1, hb1⟩ : ∃ a, a = x1 / 4 &&& 3689348814741910323 := ⟨_, rfl⟩
  obtain ⟨b2, hb2⟩ : ∃ a, a = x1 &&& 3689348814741910323 := ⟨_, rfl⟩
  have m1 : b1 ≤ x1 / 4 := by rw [hb1]; exact Nat.and_le_left
  have m2 : b2 ≤ x1 := by rw [hb2]; exact Nat.and_le_left
  have f4 : bits .and .u64 ((x1 : Int) / 4) 3689348814741910323 = (b1 : Nat) := by
    have := and_u64 (x1 / 4) 3689348814741910323 (by omega) (by omega)
    rw [← hb1] at this
    exact this
  have f5 : bits .and .u64 (x1 : Int) 3689348814741910323 = (b2 : Nat) := by
    have := and_u64 x1 3689348814741910323 (by omega) (by omega)
    rw [← hb2] at this
    exact this
  obtain ⟨x2, hx2⟩ : ∃ a, a = b1 + b2 := ⟨_, rfl⟩
  have f6 : IntKind.u64.wrap ((b1 : Int) + (b2 : Int)) = (x2 : Nat) := by rw [wrap_u64n b1 b2 (by omega), hx2]
  obtain ⟨y, hy⟩ : ∃ a, a = x2 / 16 + x2 := ⟨_, rfl⟩
  have f7 : IntKind.u64.wrap ((x2 : Int) / 16 + (x2 : Int)) = (y : Nat) := by
    have := wrap_u64n (x2 / 16) x2 (by omega)
    rw [← hy] at this
    exact this
  obtain ⟨x3, hx3⟩ : ∃ a, a = y &&& 1085102592571150095 := ⟨_, rfl⟩
  have m3 : x3 ≤ y := by rw [hx3]; exact Nat.and_le_left
  have f8 : bits .and .u64 (y : Int) 1085102592571150095 = (x3 : Nat) := by
    have := and_u64 y 1085102592571150095 (by omega) (by omega)
    rw [← hx3] at this
    exact this
  obtain ⟨x4, hx4⟩ : ∃ a, a = x3 + x3 / 256 := ⟨_, rfl⟩
  have f9 : IntKind.u64.wrap ((x3 : Int) + (x3 : Int) / 256) = (x4 : Nat) := by
    have := wrap_u64n x3 (x3 / 256) (by omega)
    rw [← hx4] at this
    exact this
  obtain ⟨x5, hx5⟩ : ∃ a, a = x4 + x4 / 65536 := ⟨_, rfl⟩
  have f10 : IntKind.u64.wrap ((x4 : Int) + (x4 : Int) / 65536) = (x5 : Nat) := by
    have := wrap_u64n x4 (x4 / 65536) (by omega)
    rw [← hx5] at this
    exact this
  obtain ⟨x6, hx6⟩ : ∃ a, a = x5 + x5 / 4294967296 := ⟨_, rfl⟩
  have f11 : IntKind.u64.wrap ((x5 : Int) + (x5 : Int) / 4294967296) = (x6 : Nat) := by
    have := wrap_u64n x5 (x5 / 4294967296) (by omega)
    rw [← hx6] at this
    exact this
  have f12 : IntKind.i64.wrap (x6 : Int) = (x6 : Int) := IntWalk.i64_in _ (by omega)
  have hfin : popE x = x6 &&& 127 := by rw [hp.out, hx6, hx5, hx4, hx3, hy, hx2, hb1, hb2, hx1, ha1, ha2]; rfl
  have f13 : bits .and .i64 (x6 : Int) 127 = ((popE x : Nat) : Int) := by
    have hx : x6 &&& 127 < 2 ^ 7 := Nat.and_lt_two_pow _ (by omega)
    rw [hfin]
    show IntKind.i64.wrap ((BitVec.ofInt 64 (x6 : Int) &&& BitVec.ofInt 64 ((127 : Nat) : Int)).toNat : Int) = _
    rw [BitVec.toNat_and, BitVec.ofInt_natCast, BitVec.ofInt_natCast, BitVec.toNat_ofNat, BitVec.toNat_ofNat, Nat.mod_eq_of_lt (by omega), Nat.mod_eq_of_lt (by omega), IntKind.wrap_i64]
    omega
  clear hp ha1 ha2 hx1 hb1 hb2 hx2 hy hx3 hx4 hx5 hx6 hfin l1 l2 m1 m2 m3
  go_enter Tryd.func174, Tryd.ntmps174
  go_wp2
  go_ret
  exact ⟨rfl, rfl⟩

set_option maxHeartbeats 1000000 in
theorem onesCount_any (x : Nat) (hx : x < 65536) (w : World) :
    Calls Tryd.prog 113 #[.int .u64 x] w fun e w' => e = .returned (.int .i64 (popE x : Nat)) ∧ w = w' := by
  go_enter Tryd.func113, Tryd.ntmps113
  go_wp2_with (go_at_call 174; refine (onesCount64_any x hx _).mono ?_; rintro e w' ⟨rfl, rfl⟩)
  go_ret
  exact ⟨rfl, rfl⟩

end Go.Proofs.YtkoganldcmhopaaDoor

/- Ranks: the program's rank, the reference's l2Rank. -/
namespace Go.Proofs.YtkoganldcmhopaaDoor
open Go.RowKit Go.BigFrame AG

set_option maxHeartbeats 1000000 in
theorem implRank_any (S n : Nat) (w : World) (hS : S < 65536) (hn : n ≤ 16) :
    Calls Tryd.prog 57 #[.int .i64 (S : Nat), .int .i64 (n : Nat)] w fun e w' => e = .returned (.int .i64 (rankN S n : Nat)) ∧ w = w' := by
  have h2 : 2 ^ n ≤ 2 ^ 16 := Nat.pow_le_pow_right (by omega) hn
  have h3 : 0 < 2 ^ n := Nat.two_pow_pos n
  have f1 := wrap_pow (n := n) (by omega)
  obtain ⟨M, hM⟩ : ∃ M, M = 2 ^ n - 1 := ⟨_, rfl⟩
  have f2 : (((2 ^ n : Nat) : Int) - 1) = (M : Int) := by omega
  have f3 := bits_andN S M hS (by omega)
  obtain ⟨X, hX⟩ : ∃ X, X = S &&& M := ⟨_, rfl⟩
  rw [← hX] at f3
  have hXl : X < 65536 := by
    have : X ≤ S := by rw [hX]; exact Nat.and_le_left
    omega
  have hfin : Hid (popE X = rankN S n) := hid (by rw [popE_rank, hX, hM, rank_mask S n 16 hn])
  generalize hP : 2 ^ n = P at *
  clear hM hX
  go_enter Tryd.func57, Tryd.ntmps57
  go_wp2_with (go_at_call 113; refine (onesCount_any X hXl _).mono ?_; rintro e w' ⟨rfl, rfl⟩; rw [hfin.out])
  go_ret
  exact ⟨rfl, rfl⟩

set_option maxHeartbeats 1000000 in
theorem l2Rank_any (S n : Nat) (w : World) (hn : n ≤ 16) :
    Calls Tryd.prog 118 #[.int .i64 (S : Nat), .int .i64 (n : Nat)] w fun e w' => e = .returned (.int .i64 (rankN S n : Nat)) ∧ w = w' := by
  go_enter Tryd.func118, Tryd.ntmps118
  go_wp2_with fail
  go_loopw [5, 6] (fun o i wr => ∃ k : Nat, i = .int .i64 (k : Nat) ∧ k ≤ n ∧ o = .int .i64 (rankN S k : Nat) ∧ w = wr) (fun _ i _ => n - (intOf i).toNat)
  case atStart => exact ⟨0, rfl, by omega, rfl, rfl⟩
  case round =>
    obtain ⟨k, rfl, hk, rfl, rfl⟩ := hrel
    have hle := rankN_le S k
    by_cases hlt : k < n
    · have hnx : Hid (rankN S (k + 1) = rankN S k + if S.testBit k = true then 1 else 0) := hid rfl
      cases hb : S.testBit k
      · have hn2 : Hid (rankN S (k + 1) = rankN S k) := hid (by rw [hnx.out, hb]; simp)
        replace hb := hid hb
        go_wp2_with (go_at_call 117; refine (l1Has_nat S k _ (by omega)).mono ?_; rintro e w' ⟨rfl, rfl⟩; rw [hb.out])
        go_roundw
        case rel => exact ⟨k + 1, by go_num, by omega, by rw [hn2.out], by first | trivial | rfl⟩
        case measure => simp [intOf]; omega
      · have hn2 : Hid (rankN S (k + 1) = rankN S k + 1) := hid (by rw [hnx.out, hb]; simp)
        replace hb := hid hb
        go_wp2_with (go_at_call 117; refine (l1Has_nat S k _ (by omega)).mono ?_; rintro e w' ⟨rfl, rfl⟩; rw [hb.out])
        go_roundw
        case rel => exact ⟨k + 1, by go_num, by omega, by rw [hn2.out]; go_num, by first | trivial | rfl⟩
        case measure => simp [intOf]; omega
    · obtain rfl : k = n := by omega
      go_wp2
      go_ret
      exact ⟨rfl, rfl⟩

end Go.Proofs.YtkoganldcmhopaaDoor

/- A system with only some of its states: the program's subSystem, the reference's l2Keep. -/
namespace Go.Proofs.YtkoganldcmhopaaDoor
open Go.RowKit Go.BigFrame AG

/-- The result under way: its own block gs, its edges a row that the call owns. -/
structure SubSt (w0 wr : World) (gs : Nat) (al st : Int) (v : Value) (es : List Ed) : Prop where
  blk : Blk wr gs 30 #[.int .i64 al, .int .i64 st, v]
  own : wr.ownsRow w0.heap.size 66 3 v es.length (edCells es)
  low : w0.heap.size ≤ gs
  keep : Below w0.heap.size w0 wr
theorem SubSt.later {w0 wr w1 : World} {gs : Nat} {al st : Int} {v : Value} {es : List Ed} (h : SubSt w0 wr gs al st v es) (hb : Below wr.heap.size wr w1) : SubSt w0 w1 gs al st v es :=
  ⟨h.blk.below hb h.blk.lt, own_later h.own hb, h.low, h.keep.trans (hb.mono h.keep.size)⟩
theorem SubSt.add {w0 wr w1 : World} {gs gg cap : Nat} {al st : Int} {v : Value} {es : List Ed} {x : Ed} (h : SubSt w0 wr gs al st v es)
    (hown : w1.ownsRow w0.heap.size 66 3 (.slice (some ⟨gg, 0, none⟩) (es.length + 1) cap) (es.length + 1) (edCells es ++ [.int .i64 x.f, .int .i64 x.l, .int .i64 x.t])) (hg : wr.grownBy w1 v.ownBlock) :
    SubSt w0 (w1.setCell ⟨gs, 2, none⟩ (.slice (some ⟨gg, 0, none⟩) (es.length + 1) cap)) gs al st (.slice (some ⟨gg, 0, none⟩) (es.length + 1) cap) (es ++ [x]) := by
  have hne : v.ownBlock ≠ some gs := fun e => own_ne h.own h.blk (by decide) gs e rfl
  have hb1 : Blk w1 gs 30 #[.int .i64 al, .int .i64 st, v] := by
    have := hg.block gs h.blk.lt (Ne.symm hne)
    exact this.trans h.blk
  have hne2 : (Value.slice (some ⟨gg, 0, none⟩) (es.length + 1) cap).ownBlock ≠ some gs := fun e => own_ne hown hb1 (by decide) gs e rfl
  refine ⟨by simpa using hb1.set_ 2 (.slice (some ⟨gg, 0, none⟩) (es.length + 1) cap), ?_, h.low, ?_⟩
  · have e : (es ++ [x]).length = es.length + 1 := by simp
    rw [e, edCells_append]
    exact ownsRow_setCell_other hown hne2 _
  · exact Below.setCell (h.keep.grown hg h.keep.size (fun k hk => (h.own.lt k hk).1)) (by have := h.low; simpa using this) _

def SubPost (w : World) (x : Sy) (e : Ending) (w' : World) : Prop := ∃ (A : Option Addr) (c : Nat), e = .returned (x.val A c) ∧ x.es.length ≤ c ∧ c ≤ 9223372036854775807 ∧ EdsAt w' w'.heap.size A x.es ∧ FreshA w.heap.size A ∧ Below w.heap.size w w'

set_option maxRecDepth 100000 in
set_option maxHeartbeats 8000000 in
theorem l2Keep_any (s : Sy) (A : Option Addr) (c R : Nat) (w : World) (hs : edgesIn s) (hst : s.st ≤ 16) (hst0 : 0 ≤ s.st) (hR : R < 2 ^ s.st.toNat) (hL : s.es.length ≤ 1000000) (hl : s.es.length ≤ c) (hc : c ≤ 9223372036854775807) (hr : EdsAt w w.heap.size A s.es) :
    Calls Tryd.prog 62 #[s.val A c, .int .i64 (R : Nat)] w (SubPost w (trimSy s R)) := by
  obtain ⟨i0, hi, hz0, hz1, hz2⟩ := info_parts infoEd
  unfold Sy.val
  have hR16 : R < 65536 := by
    have : 2 ^ s.st.toNat ≤ 2 ^ 16 := Nat.pow_le_pow_right (by omega) (by omega)
    omega
  obtain ⟨n, hn⟩ := Int.eq_ofNat_of_zero_le hst0
  have hn16 : n ≤ 16 := by omega
  have hpop : Hid (popE R = rankN R n) := hid (by rw [popE_rank]; exact rank_top (by rw [hn] at hR; simpa using hR) 16 hn16)
  have htr : Hid (trimSy s R = ⟨s.al, (rankN R n : Nat), trimEs R s.es⟩) := hid (by unfold trimSy; rw [hn]; rfl)
  have hpar := (Blk.new w 30 #[.int .i64 s.al, .int .i64 s.st, .slice A s.es.length c]).alloc (.cells #[.int .i64 0, .int .i64 0, .slice none 0 0] 30)
  have hres := Blk.new (w.alloc (.cells #[.int .i64 s.al, .int .i64 s.st, .slice A s.es.length c] 30)) 30 #[.int .i64 0, .int .i64 0, .slice none 0 0]
  have hb0 : Below w.heap.size w ((w.alloc (.cells #[.int .i64 s.al, .int .i64 s.st, .slice A s.es.length c] 30)).alloc (.cells #[.int .i64 0, .int .i64 0, .slice none 0 0] 30)) := ((Below.refl _ _).alloc (Nat.le_refl _) _).alloc (by simp) _
  have hsz0 : ((w.alloc (.cells #[.int .i64 s.al, .int .i64 s.st, .slice A s.es.length c] 30)).alloc (.cells #[.int .i64 0, .int .i64 0, .slice none 0 0] 30)).heap.size = w.heap.size + 2 := by simp
  simp only [World.size_alloc] at hres
  generalize hw0 : (w.alloc (.cells #[.int .i64 s.al, .int .i64 s.st, .slice A s.es.length c] 30)).alloc (.cells #[.int .i64 0, .int .i64 0, .slice none 0 0] 30) = w0 at hres hb0 hsz0 hpar
  rw [hn] at hpar
  have p0 := hpar.cell 0
  have p1 := hpar.cell 1
  have p2 := hpar.cell 2
  simp only [List.getElem?_toArray, List.getElem?_cons_zero, List.getElem?_cons_succ] at p0 p1 p2
  have q0 := GK.BI.cell p0
  have q1 := GK.BI.cell p1
  have q2 := GK.BI.cell p2
  have hs0 := hid (hr.later hb0)
  replace hr := hid hr
  replace hs := hid hs
  replace hres := hid hres
  have hpar' := hid hpar
  replace hsz0 := hid hsz0
  replace hn := hid hn
  clear p0 p1 p2 hpar
  go_enter Tryd.func62, Tryd.ntmps62
  go_wp2_with fail
  refine GK.wp_region 8 [8] 200 (KeepB fun _ => False) (GK.BI w0) (fun _ u _ => u = .int .i64 ((rankN R n : Nat) : Int)) (by kernel_rfl) (by kernel_rfl) (GK.BI.way w0) (by decide) (Below.refl _ _).drew ?_
  simp only [List.take_succ_cons, List.take_zero]
  (repeat (refine GK.grow_quiet w0 (by rfl) (by rfl) ?_; intro K hK; go_big_quiet_op; go_big_quiet_on))
  refine GK.grow_val (.int .i64 ((rankN R n : Nat) : Int)) (by rfl) rfl (fun m wq hm2 hbq _ => ?_) ?_
  · go_simp
    exact ⟨rfl, (l2Rank_any R n wq hn16).mono fun e w' ⟨h1, h2⟩ => ⟨h1, GK.BI.after hbq (by rw [← h2]; exact Below.refl _ _)⟩⟩
  simp only [Act.put, List.setIfInBounds_toArray, List.set_cons_zero, List.set_cons_succ]
  (repeat (refine GK.grow_quiet w0 (by rfl) (by rfl) ?_; intro K hK; go_big_quiet_op; go_big_quiet_on))
  refine GK.grow_new (K := fun _ => False) (by rfl) _ (fun b => .pointer (some ⟨b, 0, none⟩)) 30 #[.int .i64 0, .int .i64 0, .slice none 0 0] (fun _ => by go_simp) rfl (fun _ _ o h => GK.BI.alloc o h) (fun _ _ h => GK.BI.size h) (fun _ h => h.elim) (fun gs hgs => ?_)
  simp only [Act.put, List.setIfInBounds_toArray, List.set_cons_zero, List.set_cons_succ]
  refine GK.grow_nil ?_
  intro w1 hw1 hf
  simp only [List.filterMap_cons, List.filterMap_nil, List.getElem?_cons_zero, List.getElem?_cons_succ]
  obtain ⟨gs', e1, -, hblk⟩ := hf _ List.mem_cons_self
  cases e1
  replace hw1 : Below w0.heap.size w0 w1 := hw1
  clear hf q0 q1 q2 hw0
  have hblk' : Blk w1 gs 30 #[.int .i64 0, .int .i64 0, .slice none 0 0] := hblk
  have hgl := hblk'.lt
  have c0 := hblk'.cell 0
  have c1 := hblk'.cell 1
  have c2 := hblk'.cell 2
  have f0 := hblk'.frozen 0
  have f1 := hblk'.frozen 1
  have f2 := hblk'.frozen 2
  simp only [List.getElem?_toArray, List.getElem?_cons_zero, List.getElem?_cons_succ] at c0 c1 c2
  have hS1 : Hid (SubSt w0 (((w1.setCell ⟨gs, 0, none⟩ (.int .i64 s.al)).setCell ⟨gs, 1, none⟩ (.int .i64 ((rankN R n : Nat) : Int))).setCell ⟨gs, 2, none⟩ (.slice none 0 0)) gs s.al ((rankN R n : Nat) : Int) (.slice none 0 0) []) := hid
    ⟨by simpa using ((hblk'.set_ 0 (.int .i64 s.al)).set_ 1 (.int .i64 ((rankN R n : Nat) : Int))).set_ 2 (.slice none 0 0), World.ownsRow_nil _ _ _ _, hgs,
      ((hw1.setCell (by simpa using hgs) _).setCell (by simpa using hgs) _).setCell (by simpa using hgs) _⟩
  obtain ⟨w2, hw2⟩ : ∃ w2, ((w1.setCell ⟨gs, 0, none⟩ (.int .i64 s.al)).setCell ⟨gs, 1, none⟩ (.int .i64 ((rankN R n : Nat) : Int))).setCell ⟨gs, 2, none⟩ (.slice none 0 0) = w2 := ⟨_, rfl⟩
  rw [hw2] at hS1
  have hparr := fun (wr : World) (hb : Below w0.heap.size w0 wr) => (hpar'.out.below hb hpar'.out.lt)
  have hpz := hS1.out.keep
  have g0 := (hparr _ hpz).cell 0
  have g1 := (hparr _ hpz).cell 1
  have g2 := (hparr _ hpz).cell 2
  simp only [List.getElem?_toArray, List.getElem?_cons_zero, List.getElem?_cons_succ] at g0 g1 g2
  replace hparr := hid hparr
  replace hblk := hid hblk
  clear hblk' hpz
  go_wp2_with fail
  go_loopw [6] (fun i wr => ∃ (k : Nat) (v : Value), i = .int .i64 (k : Nat) ∧ k ≤ s.es.length ∧ SubSt w0 wr gs s.al ((rankN R n : Nat) : Int) v (trimEs R (s.es.take k))) (fun i _ => s.es.length - (intOf i).toNat)
  case atStart => exact ⟨0, _, rfl, by omega, hS1.out⟩
  case round =>
    clear g0 g1 g2
    obtain ⟨k, v, rfl, hk, hst2⟩ := hrel
    have hbr := hst2.keep
    have g0 := (hparr.out _ hbr).cell 0
    have g1 := (hparr.out _ hbr).cell 1
    have g2 := (hparr.out _ hbr).cell 2
    simp only [List.getElem?_toArray, List.getElem?_cons_zero, List.getElem?_cons_succ] at g0 g1 g2
    have hzr := hbr.size
    have hz00 := hsz0.out
    by_cases hlt : k < s.es.length
    · obtain ⟨b, o, hA, hbb, hE⟩ := hs0.out (by omega)
      subst hA
      obtain ⟨e0, e1, e2⟩ := hE k hlt
      rw [← hbr.cell (by simpa using hbb)] at e0 e1 e2
      obtain ⟨i1, i2, i3, i4, i5, i6, -, -, -⟩ := hs.out s.es[k] (List.getElem_mem _)
      have hhit := trimEs_hit (R := R) hlt
      have hmiss := trimEs_miss (R := R) hlt
      obtain ⟨x, hx⟩ : ∃ x, x = s.es[k] := ⟨_, rfl⟩
      rw [← hx] at e0 e1 e2 i1 i2 i3 i4 i5 i6 hhit hmiss
      obtain ⟨⟨xf, xl, xt⟩, rfl⟩ : ∃ y, y = x := ⟨_, rfl⟩
      simp only at e0 e1 e2 i1 i2 i3 i4 i5 i6
      obtain ⟨f, rfl⟩ := Int.eq_ofNat_of_zero_le i1
      obtain ⟨t, rfl⟩ := Int.eq_ofNat_of_zero_le i3
      have hf16 : f < 16 := by omega
      have ht16 : t < 16 := by omega
      have k1 : (0 : Int) ≤ (k : Int) ∧ (k : Int) < (s.es.length : Int) := by omega
      have hkept : Hid (keptE R ⟨(f : Int), xl, (t : Int)⟩ = (R.testBit f && R.testBit t)) := hid rfl
      have htrim : Hid (trimE R ⟨(f : Int), xl, (t : Int)⟩ = ⟨((rankN R f : Nat) : Int), xl, ((rankN R t : Nat) : Int)⟩) := hid rfl
      have r1 := rankN_le R f
      have r2 := rankN_le R t
      have hnb := Blk.new wr 66 #[.int .i64 (f : Int), .int .i64 xl, .int .i64 (t : Int)]
      have hba : Below wr.heap.size wr (wr.alloc (.cells #[.int .i64 (f : Int), .int .i64 xl, .int .i64 (t : Int)] 66)) := (Below.refl _ _).alloc (Nat.le_refl _) _
      have hbs : wr.heap.size < (wr.alloc (.cells #[.int .i64 (f : Int), .int .i64 xl, .int .i64 (t : Int)] 66)).heap.size := by simp
      generalize hwa : wr.alloc (.cells #[.int .i64 (f : Int), .int .i64 xl, .int .i64 (t : Int)] 66) = wa at hnb hba hbs
      have d0 := hnb.cell 0
      have d1 := hnb.cell 1
      have d2 := hnb.cell 2
      simp only [List.getElem?_toArray, List.getElem?_cons_zero, List.getElem?_cons_succ] at d0 d1 d2
      have hSa := hid (hst2.later hba)
      have hbl := hSa.out.blk.lt
      have hle : (trimEs R (s.es.take k)).length ≤ k := by have := trimEs_len R (s.es.take k); rw [List.length_take] at this; omega
      replace hE := hid hE
      replace hx := hid hx
      replace hhit := hid hhit
      replace hmiss := hid hmiss
      clear hst2
      cases hbf : R.testBit f
      · have hm := hid (hmiss.out (by rw [hkept.out, hbf]; rfl))
        replace hbf := hid hbf
        go_wp2_with (go_at_call 117; refine (l1Has_nat R f _ (by omega)).mono ?_; rintro e w' ⟨rfl, rfl⟩; rw [hbf.out])
        go_roundw
        case rel => exact ⟨k + 1, v, by go_num, by omega, by rw [hm.out]; exact hSa.out⟩
        case measure => simp [intOf]; omega
      · cases hbt : R.testBit t
        · have hm := hid (hmiss.out (by rw [hkept.out, hbf, hbt]; rfl))
          replace hbf := hid hbf
          replace hbt := hid hbt
          go_wp2_with fail
          refine (l1Has_nat R f _ (by omega)).mono ?_
          rintro e w' ⟨rfl, rfl⟩
          rw [hbf.out]
          go_wp2_with fail
          refine (l1Has_nat R t _ (by omega)).mono ?_
          rintro e w' ⟨rfl, rfl⟩
          rw [hbt.out]
          go_wp2_with fail
          go_roundw
          case rel => exact ⟨k + 1, v, by go_num, by omega, by rw [hm.out]; exact hSa.out⟩
          case measure => simp [intOf]; omega
        · have hm := hid (hhit.out (by rw [hkept.out, hbf, hbt]; rfl))
          replace hbf := hid hbf
          replace hbt := hid hbt
          have c2 := hSa.out.blk.cell 2
          simp only [List.getElem?_toArray, List.getElem?_cons_zero, List.getElem?_cons_succ] at c2
          have q0 := GK.BI.cell c2
          have q1 := GK.BI.cell d0
          have q2 := GK.BI.cell d1
          have q3 := GK.BI.cell d2
          obtain ⟨es, hes⟩ : ∃ es, es = trimEs R (s.es.take k) := ⟨_, rfl⟩
          rw [← hes] at hSa hle hm
          replace hes := hid hes
          go_wp2_with fail
          refine (l1Has_nat R f _ (by omega)).mono ?_
          rintro e w' ⟨rfl, rfl⟩
          rw [hbf.out]
          go_wp2_with fail
          refine (l1Has_nat R t _ (by omega)).mono ?_
          rintro e w' ⟨rfl, rfl⟩
          rw [hbt.out]
          go_wp2_with fail
          clear c2 d0 d1 d2
          refine GK.wp_region 14 [14, 15, 16] 200 (KeepB fun _ => False) (GK.BI wa) (fun i u _ => u = .int .i64 (((if i = 5 then rankN R f else rankN R t) : Nat) : Int)) (by kernel_rfl) (by kernel_rfl) (GK.BI.way wa) (by decide) (Below.refl _ _).drew ?_
          simp only [List.take_succ_cons, List.take_zero]
          (repeat (refine GK.grow_quiet wa (by rfl) (by rfl) ?_; intro K hK; go_big_quiet_op; go_big_quiet_on))
          refine GK.grow_val (.int .i64 ((rankN R f : Nat) : Int)) (by rfl) rfl (fun m wq hm2 hbq _ => ?_) ?_
          · go_simp
            exact ⟨rfl, (l2Rank_any R f wq (by omega)).mono fun e w' ⟨h1, h2⟩ => ⟨h1, GK.BI.after hbq (by rw [← h2]; exact Below.refl _ _)⟩⟩
          simp only [Act.put, List.setIfInBounds_toArray, List.set_cons_zero, List.set_cons_succ]
          (repeat (refine GK.grow_quiet wa (by rfl) (by rfl) ?_; intro K hK; go_big_quiet_op; go_big_quiet_on))
          refine GK.grow_val (.int .i64 ((rankN R t : Nat) : Int)) (by rfl) rfl (fun m wq hm2 hbq _ => ?_) ?_
          · go_simp
            exact ⟨rfl, (l2Rank_any R t wq (by omega)).mono fun e w' ⟨h1, h2⟩ => ⟨h1, GK.BI.after hbq (by rw [← h2]; exact Below.refl _ _)⟩⟩
          simp only [Act.put, List.setIfInBounds_toArray, List.set_cons_zero, List.set_cons_succ]
          (repeat (refine GK.grow_quiet wa (by rfl) (by rfl) ?_; intro K hK; go_big_quiet_op; go_big_quiet_on))
          refine GK.grow_new (K := fun _ => False) (by rfl) _ (fun b => .slice (some ⟨b, 0, none⟩) 1 1) 66 #[.int .i64 ((rankN R f : Nat) : Int), .int .i64 xl, .int .i64 ((rankN R t : Nat) : Int)] (fun _ => by go_simp) rfl (fun _ _ o h => GK.BI.alloc o h) (fun _ _ h => GK.BI.size h) (fun _ h => h.elim) (fun bb hbb2 => ?_)
          simp only [Act.put, List.setIfInBounds_toArray, List.set_cons_zero, List.set_cons_succ]
          refine GK.grow_nil ?_
          intro w4 hw4 hf
          obtain ⟨g', hge, hge2, hblk4⟩ := hf _ List.mem_cons_self
          cases hge
          clear hf
          simp only [List.filterMap_cons, List.filterMap_nil, List.getElem?_cons_zero, List.getElem?_cons_succ]
          replace hw4 : Below wa.heap.size wa w4 := hw4
          have hS4 := hid (hSa.out.later hw4)
          have z4 := hw4.size
          have hown4 := hS4.out.own
          have hbl4 := hS4.out.blk.lt
          have ag : v.ownBlock ≠ some gs := fun e => own_ne hS4.out.own hS4.out.blk (by decide) gs e rfl
          have c2 := hS4.out.blk.cell 2
          have f2 := hS4.out.blk.frozen 2
          simp only [List.getElem?_toArray, List.getElem?_cons_zero, List.getElem?_cons_succ] at c2
          clear q0 q1 q2 q3
          refine wpList_append_lies _ (by rfl) _ _ 28 (by rfl) w0.heap.size 66 i0 (.agg #[.int .i64 0, .int .i64 0, .int .i64 0]) 3 24 Tryd.underlying28 hi hz0 hz1 hz2 rfl (by decide) v es.length (edCells es) (by rfl) hown4 ⟨bb, 0, none⟩ 1 1 [.int .i64 ((rankN R f : Nat) : Int), .int .i64 xl, .int .i64 ((rankN R t : Nat) : Int)] (by rfl) (by rfl) (World.news_of_block hblk4) ?c1 (by omega) ?c3 ?c4 ?c5 w4.heap.size rfl ?_
          case c1 => simp [Value.oneCell']
          case c3 => unfold maxLen; omega
          case c4 => omega
          case c5 => have := hS4.out.keep.size; omega
          intro gg cap w5 hown5 hgrow hat hlt5
          have c2' : w5.cell? ⟨gs, 2, none⟩ = some v := by rw [hgrow.cell_far _ (by simpa using hbl4) (Ne.symm ag)]; exact c2
          have f2' : w5.frozen? ⟨gs, 2, none⟩ = false := by rw [hgrow.frozen_far _ (by simpa using hbl4) (Ne.symm ag)]; exact f2
          have hfin := hid (hS4.out.add (x := ⟨((rankN R f : Nat) : Int), xl, ((rankN R t : Nat) : Int)⟩) hown5 hgrow)
          have hz5 := hgrow.size
          clear hown4 hown5 hgrow c2 f2
          go_wp2_with fail
          go_roundw
          case rel => exact ⟨k + 1, _, by go_num, by omega, by rw [hm.out, htrim.out]; exact hfin.out⟩
          case measure => simp [intOf]; omega
    · obtain rfl : k = s.es.length := by omega
      rw [List.take_length] at hst2
      obtain ⟨Av, cv, hve, hv1, hv2⟩ := own_slice hst2.own
      subst hve
      have hrd := OwnEds.read (show OwnEds wr w0.heap.size (.slice Av (trimEs R s.es).length cv) (trimEs R s.es) from hst2.own)
      obtain ⟨A2, c2', hve2, h1, h2, h3, h4⟩ := hrd
      cases hve2
      have c0 := hst2.blk.cell 0
      have c1 := hst2.blk.cell 1
      have c2 := hst2.blk.cell 2
      have hresb := hres.out.below hbr hres.out.lt
      have d0 := hresb.cell 0
      have d1 := hresb.cell 1
      have d2 := hresb.cell 2
      have f0 := hresb.frozen 0
      have f1 := hresb.frozen 1
      have f2 := hresb.frozen 2
      simp only [List.getElem?_toArray, List.getElem?_cons_zero, List.getElem?_cons_succ] at c0 c1 c2 d0 d1 d2
      have hfin : Hid (SubPost w (trimSy s R) (.returned (.agg #[.int .i64 s.al, .int .i64 ((rankN R n : Nat) : Int), .slice Av (trimEs R s.es).length cv])) (((wr.setCell ⟨w.heap.size + 1, 0, none⟩ (.int .i64 s.al)).setCell ⟨w.heap.size + 1, 1, none⟩ (.int .i64 ((rankN R n : Nat) : Int))).setCell ⟨w.heap.size + 1, 2, none⟩ (.slice Av (trimEs R s.es).length cv))) := hid (by
        rw [htr.out]
        have hne : ∀ b o, Av = some ⟨b, o, none⟩ → 0 < (trimEs R s.es).length → b ≠ w.heap.size + 1 := fun b o hA _ => by have := h4 b o hA; omega
        refine ⟨Av, cv, rfl, h1, h2, ?_, fun b o hA => by have := h4 b o hA; omega, ?_⟩
        · simpa [World.setCell] using ((h3.stored _ hne).stored _ hne).stored _ hne
        · exact (((hb0.trans (hbr.mono (by omega))).setCell (by simp) _).setCell (by simp) _).setCell (by simp) _)
      have hvl := hresb.lt
      clear hresb hst2 h3 h4
      go_wp2
      refine bodyPost_ret (v := .agg #[.int .i64 s.al, .int .i64 ((rankN R n : Nat) : Int), .slice Av (trimEs R s.es).length cv]) (by simp [results, Tryd.results62, go_sem, d0, d1, d2]) rfl ?_
      exact hfin.out

end Go.Proofs.YtkoganldcmhopaaDoor
