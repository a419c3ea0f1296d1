/- The drawing kit: l2Random, l2Small. -/
import Derived.Test.YtbomhfbiaedbiaaDoorD2
import Derived.Test.YtbomhfbiaedbiaaDoorOwn0
import Derived.Test.YtbomhfbiaedbiaaDoorGrowK
import Derived.Deep.AppendLies
namespace Go.Proofs.YtbomhfbiaedbiaaDoor
open Go.RowKit Go.BigFrame AG

theorem infoEd : (Tryd.prog.info? 76).map (fun i => (i.zero, i.size, i.bytes)) = some (some (.agg #[.int .i64 0, .int .i64 0, .int .i64 0]), 3, 24) := by kernel_rfl

def edCells : List Ed → List Value
  | [] => []
  | e :: es => .int .i64 e.f :: .int .i64 e.l :: .int .i64 e.t :: edCells es
theorem edCells_append : ∀ ps qs : List Ed, edCells (ps ++ qs) = edCells ps ++ edCells qs
  | [], _ => rfl
  | p :: ps, qs => by rw [List.cons_append, edCells, edCells_append ps qs]; rfl
theorem edCells_at : ∀ (ps : List Ed) (i : Nat) (h : i < ps.length), (edCells ps)[i * 3]? = some (.int .i64 ps[i].f) ∧ (edCells ps)[i * 3 + 1]? = some (.int .i64 ps[i].l) ∧ (edCells ps)[i * 3 + 2]? = some (.int .i64 ps[i].t)
  | p :: ps, 0, _ => ⟨rfl, rfl, rfl⟩
  | p :: ps, i + 1, h => by
    have := edCells_at ps i (by simpa using h)
    rw [show (i + 1) * 3 = i * 3 + 1 + 1 + 1 from by omega]
    exact this
theorem edCells_len : ∀ ps : List Ed, (edCells ps).length = ps.length * 3
  | [] => rfl
  | p :: ps => by simp [edCells, edCells_len ps]; omega

/-- The edges es, as an owned slice. -/
def OwnEds (w : World) (B : Nat) (v : Value) (es : List Ed) : Prop := w.ownsRow B 76 3 v es.length (edCells es)
theorem OwnEds.read {w : World} {B : Nat} {v : Value} {es : List Ed} (h : OwnEds w B v es) : ∃ A c, v = .slice A es.length c ∧ es.length ≤ c ∧ c ≤ 9223372036854775807 ∧ EdsAt w w.heap.size A es ∧ FreshA B A := by
  have hlt := World.ownsRow.lt h
  have hcl := fun {g} hg => World.ownsRow.cells h (g := g) hg
  obtain ⟨_, ⟨rfl, h0⟩ | ⟨g, cap, cur, rfl, hg, hw, h1, h2, h3, h4⟩⟩ := h
  · exact ⟨none, 0, by rw [h0], by omega, by omega, fun hl => by omega, fun b o hA => by cases hA⟩
  · refine ⟨_, cap, rfl, h1, h2, fun _ => ⟨g, 0, rfl, (hlt g rfl).2, fun i hi => ?_⟩, fun b o hA => by injection hA with hA; injection hA with hA; omega⟩
    obtain ⟨a1, a2, a3⟩ := edCells_at es i hi
    have b1 := hcl rfl _ _ a1
    have b2 := hcl rfl _ _ a2
    have b3 := hcl rfl _ _ a3
    have hadd : ∀ j, (⟨g, 0, none⟩ : Addr).add j = ⟨g, j, none⟩ := fun j => by unfold Addr.add; split <;> simp_all
    rw [hadd] at b1 b2 b3
    simp only [Nat.zero_add]
    exact ⟨b1, b2, b3⟩

/-- Some system comes back; the reader has moved on to P at most. -/
def SyUp (R P L : Nat) (w : World) (e : Ending) (w' : World) : Prop :=
  ∃ (s : Sy) (A : Option Addr) (c : Nat), e = .returned (s.val A c) ∧ s.es.length ≤ c ∧ c ≤ 9223372036854775807 ∧ s.es.length ≤ L ∧ EdsAt w' w'.heap.size A s.es ∧ FreshA w.heap.size A ∧ RdUp w' R P ∧ KeepB (fun b => b = R) w w'

/-- What l2Random holds in its loops: N rounds at most are behind it. -/
structure RndSt (w wr : World) (R P gs : Nat) (al st : Int) (lv : Value) (ls : List Nat) (N : Nat) (v : Value) (es : List Ed) : Prop where
  len : es.length ≤ N
  blk : Blk wr gs 36 #[.int .i64 al, .int .i64 st, v]
  own : OwnEds wr (gs + 1) v es
  list : OwnNats wr (gs + 1) lv ls
  rd : RdUp wr R (P + N)
  keep : KeepB (fun b => b = R) w wr
  res : Blk wr w.heap.size 36 #[.int .i64 0, .int .i64 0, .slice none 0 0]
theorem RndSt.pick {w wr w1 : World} {R P gs : Nat} {al st : Int} {lv : Value} {ls : List Nat} {N : Nat} {v : Value} {es : List Ed} (h : RndSt w wr R P gs al st lv ls N v es) (hR : R < w.heap.size) (hgs : w.heap.size < gs) (hr : RdUp w1 R (P + N + 1)) (hk : KeepB (fun b => b = R) wr w1) :
    RndSt w w1 R P gs al st lv ls (N + 1) v es :=
  ⟨by have := h.len; omega, h.blk.keep hk (by omega), own_keep h.own hk (fun g hg => by have := (h.own.lt g hg).1; omega), own_keep h.list hk (fun g hg => by have := (World.ownsRow.lt h.list g hg).1; omega), hr, h.keep.trans hk, h.res.keep hk (by omega)⟩
theorem RndSt.later {w wr w1 : World} {R P gs : Nat} {al st : Int} {lv : Value} {ls : List Nat} {N : Nat} {v : Value} {es : List Ed} (h : RndSt w wr R P gs al st lv ls N v es) (hb : Below wr.heap.size wr w1) : RndSt w w1 R P gs al st lv ls N v es :=
  ⟨h.len, h.blk.below hb h.blk.lt, own_later h.own hb, own_later h.list hb, h.rd.later hb, h.keep.trans (KeepB.of_below hb), h.res.below hb h.res.lt⟩
theorem RndSt.begin {w w2 : World} {R P : Nat} {al st : Int} {lv : Value} {ls : List Nat}
    (hr : RdUp w R P) (hown : OwnNats w2 (w.heap.size + 2) lv ls) (hb : Below (w.heap.size + 2) ((w.alloc (.cells #[.int .i64 0, .int .i64 0, .slice none 0 0] 36)).alloc (.cells #[.int .i64 al, .int .i64 st, .slice none 0 0] 36)) w2) :
    RndSt w w2 R P (w.heap.size + 1) al st lv ls 0 (.slice none 0 0) [] := by
  have b1 : Below w.heap.size w w2 := (((Below.refl _ _).alloc (Nat.le_refl _) _).alloc (by simp) _).trans (hb.mono (by omega))
  refine ⟨Nat.le_refl _, ?_, World.ownsRow_nil _ _ _ _, own_base hown (by omega), hr.later b1, KeepB.of_below b1, ?_⟩
  · have := Blk.new (w.alloc (.cells #[.int .i64 0, .int .i64 0, .slice none 0 0] 36)) 36 #[.int .i64 al, .int .i64 st, .slice none 0 0]
    rw [World.size_alloc] at this
    exact this.below hb (by omega)
  · have := (Blk.new w 36 #[.int .i64 0, .int .i64 0, .slice none 0 0]).alloc (.cells #[.int .i64 al, .int .i64 st, .slice none 0 0] 36)
    exact this.below hb (by omega)
/-- An edge is appended and the field stored. -/
theorem RndSt.add' {w wr w1 : World} {R P gs : Nat} {al st : Int} {lv : Value} {ls : List Nat} {N : Nat} {v v' : Value} {es : List Ed} {x : Ed} (h : RndSt w wr R P gs al st lv ls N v es) (hN : es.length + 1 ≤ N) (hR : R < w.heap.size) (hgs : w.heap.size < gs)
    (hown : w1.ownsRow (gs + 1) 76 3 v' (es.length + 1) (edCells es ++ [.int .i64 x.f, .int .i64 x.l, .int .i64 x.t])) (hg : wr.grownBy w1 v.ownBlock) :
    RndSt w (w1.setCell ⟨gs, 2, none⟩ v') R P gs al st lv ls N v' (es ++ [x]) := by
  have hv : ∀ k, v.ownBlock = some k → gs < k := fun k hk => by have := (h.own.lt k hk).1; omega
  have hv' : ∀ k, v'.ownBlock = some k → gs < k := fun k hk => by have := (World.ownsRow.lt hown k hk).1; omega
  have k1 : KeepB (fun b => v.ownBlock = some b) wr w1 := (KeepB.refl _ wr).grown hg (fun k hk _ => hk)
  have k2 : KeepB (fun b => v.ownBlock = some b ∨ b = gs) wr (w1.setCell ⟨gs, 2, none⟩ v') := (k1.mono fun _ h => .inl h).setCell _ _ fun _ => .inr rfl
  have hb := h.blk.lt
  have hneL : ∀ k, lv.ownBlock = some k → ¬ v.ownBlock = some k := fun k hk hk2 => own_ne_own h.list h.own (by decide) k k hk hk2 rfl
  have hll := World.ownsRow.lt h.list
  refine ⟨by simp; omega, ?_, ?_, ?_, h.rd.keep k2 ?_, ?_, ?_⟩
  · have := (h.blk.keep k1 (fun hk => by have := hv _ hk; omega)).set_ 2 v'
    simpa using this
  · have e : (es ++ [x]).length = es.length + 1 := by simp
    unfold OwnEds
    rw [e, edCells_append]
    exact ownsRow_setCell_other hown (fun hk => by have := hv' _ hk; simp at this) _
  · exact own_keep h.list k2 (fun g hg hk => by
      rcases hk with hk | hk
      · exact hneL g hg hk
      · have := (hll g hg).1; omega)
  · rintro k (hk | rfl)
    · have := hv k hk; omega
    · omega
  · exact h.keep.grown hg (fun k hk hlt => by have := hv k hk; omega) |>.setCell _ _ fun hlt => by simp at hlt; omega
  · exact h.res.keep k2 (by rintro (hk | hk); (have := hv _ hk; omega); omega)
theorem RndSt.post {w wr : World} {R P : Nat} {al st : Int} {lv : Value} {ls : List Nat} {N : Nat} {v : Value} {es : List Ed} (h : RndSt w wr R P (w.heap.size + 1) al st lv ls N v es) (hN : N ≤ 1536) (hR : R < w.heap.size) (v1 v2 v3 : Value) :
    SyUp R (P + 1536) 1536 w (.returned (.agg #[.int .i64 al, .int .i64 st, v])) (((wr.setCell ⟨w.heap.size, 0, none⟩ v1).setCell ⟨w.heap.size, 1, none⟩ v2).setCell ⟨w.heap.size, 2, none⟩ v3) := by
  obtain ⟨A, c, hv, h1, h2, h3, h4⟩ := h.own.read
  have hl := h.len
  have hk : KeepB (fun b => b = w.heap.size) wr (((wr.setCell ⟨w.heap.size, 0, none⟩ v1).setCell ⟨w.heap.size, 1, none⟩ v2).setCell ⟨w.heap.size, 2, none⟩ v3) := (((KeepB.refl _ wr).setCell _ _ (by simp)).setCell _ _ (by simp)).setCell _ _ (by simp)
  refine ⟨⟨al, st, es⟩, A, c, by rw [hv]; rfl, h1, h2, by show es.length ≤ 1536; omega, ?_, fun b o hA => by have := h4 b o hA; omega, (h.rd.more (by omega)).keep hk (by omega), ?_⟩
  · have hne : ∀ b o, A = some ⟨b, o, none⟩ → 0 < es.length → b ≠ w.heap.size := fun b o hA _ => by have := h4 b o hA; omega
    simpa [World.setCell] using ((h3.stored v1 hne).stored v2 hne).stored v3 hne
  · exact (((h.keep).setCell _ _ (by simp)).setCell _ _ (by simp)).setCell _ _ (by simp)


set_option maxRecDepth 100000 in
set_option maxHeartbeats 4000000 in
theorem l2Random_up (R P : Nat) (al st few : Int) (w : World) (hP : P + 100000 ≤ 1125899906842624) (hst : st ≤ 16) (hf : few ≤ 9223372036854775807) (hr : RdUp w R P) :
    Calls Tryd.prog 130 #[.pointer (some ⟨R, 0, none⟩), .int .i64 al, .int .i64 st, .int .i64 few] w (SyUp R (P + 1536) 1536 w) := by
  obtain ⟨i0, hi, hz0, hz1, hz2⟩ := info_parts infoEd
  have hR := hr.lt
  replace hr := hid hr
  go_enter Tryd.func130, Tryd.ntmps130
  go_wp2_with fail
  refine (l1Letters_any al _).mono ?_
  rintro e w2 ⟨lv, rfl, hown, hb2⟩
  simp only [World.size_alloc] at hown hb2
  have H0 := hid (RndSt.begin (st := st) hr.out hown hb2)
  clear hown hb2
  obtain ⟨ls, hls⟩ : ∃ ls, Hid (ls = letters al) := ⟨_, hid rfl⟩
  rw [← hls.out] at H0
  have hl6 : ls.length ≤ 6 := by rw [hls.out]; exact lettersTo_len al 6
  obtain ⟨Al, cl, hvl, hcl, hcl'⟩ := own_slice H0.out.list
  subst hvl
  go_wp2_with fail
  go_loopw [11] (fun i wr => ∃ (k N : Nat) (v : Value) (es : List Ed), i = .int .i64 k ∧ k ≤ 16 ∧ N ≤ k * 96 ∧ RndSt w wr R P (w.heap.size + 1) al st (.slice Al ls.length cl) ls N v es) (fun i _ => st.toNat - (intOf i).toNat)
  case atStart => exact ⟨0, 0, _, [], rfl, by omega, by omega, H0.out⟩
  case round =>
    obtain ⟨k, N, v, es, rfl, hk, hN, hs⟩ := hrel
    replace hs := hid hs
    by_cases hlt : (k : Int) < st
    · go_wp2_with fail
      obtain ⟨wo, rfl⟩ : ∃ wo : World, wo = wr := ⟨_, rfl⟩
      go_loopw [12] (fun i wr => ∃ (m N : Nat) (v : Value) (es : List Ed), i = .int .i64 m ∧ m ≤ ls.length ∧ N ≤ k * 96 + m * 16 ∧ RndSt w wr R P (w.heap.size + 1) al st (.slice Al ls.length cl) ls N v es) (fun i _ => ls.length - (intOf i).toNat)
      case atStart => exact ⟨0, N, v, es, rfl, by omega, by omega, hs.out⟩
      case round =>
        clear hs hN
        obtain ⟨m, N, v, es, rfl, hm, hN, hs⟩ := hrel
        replace hs := hid hs
        by_cases hlm : m < ls.length
        · go_wp2_with fail
          obtain ⟨wo2, rfl⟩ : ∃ wo2 : World, wo2 = wr := ⟨_, rfl⟩
          go_loopw [13] (fun i wr => ∃ (t N : Nat) (v : Value) (es : List Ed), i = .int .i64 t ∧ t ≤ 16 ∧ N ≤ k * 96 + m * 16 + t ∧ RndSt w wr R P (w.heap.size + 1) al st (.slice Al ls.length cl) ls N v es) (fun i _ => st.toNat - (intOf i).toNat)
          case atStart => exact ⟨0, N, v, es, rfl, by omega, by omega, hs.out⟩
          case round =>
            clear hs hN
            obtain ⟨t, N, v, es, rfl, ht, hN, hs⟩ := hrel
            have hrd := hid hs.rd
            replace hs := hid hs
            by_cases hlt2 : (t : Int) < st
            · go_wp2_with fail
              refine (pick_up R (P + N) few wr (by omega) hf hrd.out).mono ?_
              rintro e w3 ⟨j, rfl, hj0, hj1, hr3, hk3⟩
              have h3 := hid (hs.out.pick hR (by omega) hr3 hk3)
              have hle0 := hs.out.len
              clear hs hrd hr3 hk3 hj1
              by_cases hj : j = 0
              · subst hj
                obtain ⟨gl, cl2, hve, hgl, hgl', -, -, hLc⟩ := own_nats h3.out.list (by omega)
                injection hve with hv1 hv2 hv3
                subst hv1
                subst hv3
                have l0 := hLc m hlm
                obtain ⟨l, hll⟩ : ∃ l : Nat, l = ls[m] := ⟨_, rfl⟩
                rw [← hll] at l0
                replace hll := hid hll
                replace hLc := hid hLc
                have hown := h3.out.own
                unfold OwnEds at hown
                have hbl := h3.out.blk.lt
                have c2 := h3.out.blk.cell 2
                simp only [List.getElem?_toArray, List.getElem?_cons_zero, List.getElem?_cons_succ] at c2
                have m1 : (0 : Int) ≤ (m : Int) := by omega
                have m2 : (m : Int) < (ls.length : Int) := by omega
                have ag : v.ownBlock ≠ some (w.heap.size + 1) := fun e => by have := (hown.lt _ e).1; omega
                have al' : v.ownBlock ≠ some gl := fun e => own_ne_own h3.out.list hown (by decide) gl gl rfl e rfl
                have hle := h3.out.len
                replace hown := hid hown
                have q0 := GK.BI.cell c2
                have q1 := GK.BI.cell l0
                clear c2 l0
                go_wp2_with fail
                refine GK.wp_region 10 [10, 11, 12] 200 (KeepB fun _ => False) (GK.BI w3) (fun _ _ _ => True) (by kernel_rfl) (by kernel_rfl) (GK.BI.way w3) (by decide) (Below.refl _ _).drew ?_
                simp only [List.take_succ_cons, List.take_zero]
                (repeat (refine GK.grow_quiet w3 (by rfl) (by rfl) ?_; intro K hK; go_big_quiet_op; go_big_quiet_on))
                refine GK.grow_new (K := fun _ => False) (by rfl) _ (fun b => .slice (some ⟨b, 0, none⟩) 1 1) 76 #[.int .i64 (k : Nat), .int .i64 (l : Nat), .int .i64 (t : Nat)] (fun _ => by go_simp) rfl (fun _ _ o h => GK.BI.alloc o h) (fun _ _ h => GK.BI.size h) (fun _ h => h.elim) (fun b hb => ?_)
                simp only [Act.put, List.setIfInBounds_toArray, List.set_cons_zero, List.set_cons_succ]
                refine GK.grow_nil ?_
                intro w4 hw4 hf
                obtain ⟨g', hge, hge2, hblk⟩ := hf _ List.mem_cons_self
                cases hge
                clear hf
                simp only [List.filterMap_cons, List.filterMap_nil, List.getElem?_cons_zero, List.getElem?_cons_succ]
                have hown4 := own_later hown.out hw4
                have z4 := Below.size hw4
                have c2 : w4.cell? ⟨w.heap.size + 1, 2, none⟩ = some v := by rw [Below.cell hw4 (by simpa using hbl)]; exact h3.out.blk.cell 2
                have f2 : w4.frozen? ⟨w.heap.size + 1, 2, none⟩ = false := by rw [Below.frozen hw4 (by simpa using hbl)]; exact h3.out.blk.frozen 2
                have hS4 := hid (h3.out.later hw4)
                clear q0 q1
                refine wpList_append_lies _ (by rfl) _ _ 34 (by rfl) (w.heap.size + 1 + 1) 76 i0 (.agg #[.int .i64 0, .int .i64 0, .int .i64 0]) 3 24 Tryd.underlying34 hi hz0 hz1 hz2 rfl (by decide) v es.length (edCells es) (by rfl) hown4 ⟨b, 0, none⟩ 1 1 [.int .i64 (k : Nat), .int .i64 (l : Nat), .int .i64 (t : Nat)] (by rfl) (by rfl) (World.news_of_block hblk) ?c1 (by omega) ?c3 ?c4 ?c5 w4.heap.size rfl ?_
                case c1 => simp [Value.oneCell']
                case c3 => unfold maxLen; omega
                case c4 => omega
                case c5 => omega
                intro gg cap w5 hown5 hgrow hat hlt5
                have c2' : w5.cell? ⟨w.heap.size + 1, 2, none⟩ = some v := by rw [hgrow.cell_far _ (by simp; omega) (Ne.symm ag)]; exact c2
                have f2' : w5.frozen? ⟨w.heap.size + 1, 2, none⟩ = false := by rw [hgrow.frozen_far _ (by simp; omega) (Ne.symm ag)]; exact f2
                have hfin := hid (hS4.out.add' (x := ⟨k, l, t⟩) (by omega) hR (by omega) hown5 hgrow)
                clear hown4 hown5 hgrow c2 f2
                go_wp2_with fail
                go_roundw
                case rel => exact ⟨t + 1, N + 1, _, _, by go_num, by omega, by omega, hfin.out⟩
                case measure => simp [intOf]; omega
              · have hjb : ((j : Int) == 0) = false := by simp; omega
                replace hj := hid hj
                go_wp2_with fail
                go_roundw
                case rel => exact ⟨t + 1, N + 1, v, es, by go_num, by omega, by omega, h3.out⟩
                case measure => simp [intOf]; omega
            · go_wp2_with fail
              go_roundw
              case rel => exact ⟨m + 1, N, v, es, by go_num, by omega, by omega, hs.out⟩
              case measure => simp [intOf]; omega
        · go_wp2_with fail
          go_roundw
          case rel => exact ⟨k + 1, N, v, es, by go_num, by omega, by omega, hs.out⟩
          case measure => simp [intOf]; omega
    · obtain ⟨Av, cv, hve, -, -⟩ := own_slice hs.out.own
      subst hve
      have c0 := hs.out.blk.cell 0
      have c1 := hs.out.blk.cell 1
      have c2 := hs.out.blk.cell 2
      have d0 := hs.out.res.cell 0
      have d1 := hs.out.res.cell 1
      have d2 := hs.out.res.cell 2
      have f0 := hs.out.res.frozen 0
      have f1 := hs.out.res.frozen 1
      have f2 := hs.out.res.frozen 2
      simp only [List.getElem?_toArray, List.getElem?_cons_zero, List.getElem?_cons_succ] at c0 c1 c2 d0 d1 d2
      have hfin := hid (hs.out.post (by omega) hR (.int .i64 al) (.int .i64 st) (.slice Av es.length cv))
      have hvl := hs.out.res.lt
      go_wp2
      refine bodyPost_ret (v := .agg #[.int .i64 al, .int .i64 st, .slice Av es.length cv]) (by simp [results, Tryd.results130, go_sem, d0, d1, d2]) rfl ?_
      exact hfin.out

/-- The result's own block, which the function made first, is stored into. -/
theorem SyUp.ret {R P L : Nat} {w w1 : World} {s : Sy} {A : Option Addr} {c : Nat} (h1 : s.es.length ≤ c) (h2 : c ≤ 9223372036854775807) (h3 : s.es.length ≤ L) (h4 : EdsAt w1 w1.heap.size A s.es) (h5 : FreshA (w.heap.size + 1) A)
    (h6 : RdUp w1 R P) (h7 : KeepB (fun b => b = R) w w1) (hR : R < w.heap.size) (v1 v2 v3 : Value) :
    SyUp R P L w (.returned (.agg #[.int .i64 s.al, .int .i64 s.st, .slice A s.es.length c])) (((w1.setCell ⟨w.heap.size, 0, none⟩ v1).setCell ⟨w.heap.size, 1, none⟩ v2).setCell ⟨w.heap.size, 2, none⟩ v3) := by
  have hk : KeepB (fun b => b = w.heap.size) w1 (((w1.setCell ⟨w.heap.size, 0, none⟩ v1).setCell ⟨w.heap.size, 1, none⟩ v2).setCell ⟨w.heap.size, 2, none⟩ v3) := (((KeepB.refl _ w1).setCell _ _ (by simp)).setCell _ _ (by simp)).setCell _ _ (by simp)
  have hne : ∀ b o, A = some ⟨b, o, none⟩ → 0 < s.es.length → b ≠ w.heap.size := fun b o hA _ => by have := h5 b o hA; omega
  refine ⟨s, A, c, rfl, h1, h2, h3, ?_, fun b o hA => by have := h5 b o hA; omega, h6.keep hk (by omega), ?_⟩
  · simpa [World.setCell] using ((h4.stored v1 hne).stored v2 hne).stored v3 hne
  · exact ((h7.setCell _ _ (by simp)).setCell _ _ (by simp)).setCell _ _ (by simp)


end Go.Proofs.YtbomhfbiaedbiaaDoor
