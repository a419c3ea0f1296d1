/- The drawing kit: ParseSystem. -/
import Derived.Test.YtbomhfbiaedbiaaDoorD8
namespace Go.Proofs.YtbomhfbiaedbiaaDoor
open Go.RowKit Go.BigFrame AG

/-- Some system and a Bool come back. -/
def SyBPost (L : Nat) (w : World) (e : Ending) (w' : World) : Prop :=
  ∃ (s : Sy) (A : Option Addr) (c : Nat) (b : Bool), e = .returned (.tuple #[s.val A c, .bool b]) ∧ s.es.length ≤ c ∧ c ≤ 9223372036854775807 ∧ s.es.length ≤ L ∧ EdsAt w' w'.heap.size A s.es ∧ FreshA w.heap.size A ∧ Below w.heap.size w w'

structure PsSt (w2 wr : World) (al st : Int) (v : Value) (es : List Ed) (k : Nat) : Prop where
  blk : Blk wr w2.heap.size 36 #[.int .i64 al, .int .i64 st, v]
  own : OwnEds wr (w2.heap.size + 1) v es
  len : es.length ≤ k
  below : Below w2.heap.size w2 wr
theorem PsSt.later {w2 wr w1 : World} {al st : Int} {v : Value} {es : List Ed} {k : Nat} (h : PsSt w2 wr al st v es k) (hb : Below wr.heap.size wr w1) : PsSt w2 w1 al st v es k :=
  ⟨h.blk.below hb h.blk.lt, own_later h.own hb, h.len, h.below.trans (hb.mono h.below.size)⟩
theorem PsSt.add {w2 wr w1 : World} {al st : Int} {v v' : Value} {es : List Ed} {k : Nat} {x : Ed} (h : PsSt w2 wr al st v es k)
    (hown : w1.ownsRow (w2.heap.size + 1) 76 3 v' (es.length + 1) (edCells es ++ [.int .i64 x.f, .int .i64 x.l, .int .i64 x.t])) (hg : wr.grownBy w1 v.ownBlock) :
    PsSt w2 (w1.setCell ⟨w2.heap.size, 2, none⟩ v') al st v' (es ++ [x]) (k + 1) := by
  have hv : ∀ k, v.ownBlock = some k → w2.heap.size < k := fun k hk => by have := (h.own.lt k hk).1; omega
  have hv' : ∀ k, v'.ownBlock = some k → w2.heap.size < k := fun k hk => by have := (World.ownsRow.lt hown k hk).1; omega
  have k1 : KeepB (fun b => v.ownBlock = some b) wr w1 := (KeepB.refl _ wr).grown hg (fun k hk _ => hk)
  have hb := h.blk.lt
  refine ⟨?_, ?_, by have := h.len; simp; omega, ?_⟩
  · have := (h.blk.keep k1 (fun hk => by have := hv _ hk; omega)).set_ 2 v'
    simpa using this
  · have e : (es ++ [x]).length = es.length + 1 := by simp
    unfold OwnEds
    rw [e, edCells_append]
    exact ownsRow_setCell_other hown (fun hk => by have := hv' _ hk; simp at this) _
  · exact (h.below.grown hg h.below.size (fun k hk => by have := hv k hk; omega)).setCell (by simp) _

theorem SyBPost.ret {L : Nat} {w w1 : World} {s : Sy} {A : Option Addr} {c : Nat} (b : Bool) (h1 : s.es.length ≤ c) (h2 : c ≤ 9223372036854775807) (h3 : s.es.length ≤ L) (h4 : EdsAt w1 w1.heap.size A s.es) (h5 : FreshA (w.heap.size + 1) A)
    (h7 : Below w.heap.size w w1) (v1 v2 v3 : Value) :
    SyBPost L w (.returned (.tuple #[.agg #[.int .i64 s.al, .int .i64 s.st, .slice A s.es.length c], .bool b])) (((w1.setCell ⟨w.heap.size, 0, none⟩ v1).setCell ⟨w.heap.size, 1, none⟩ v2).setCell ⟨w.heap.size, 2, none⟩ v3) := by
  have hne : ∀ b o, A = some ⟨b, o, none⟩ → 0 < s.es.length → b ≠ w.heap.size := fun b o hA _ => by have := h5 b o hA; omega
  refine ⟨s, A, c, b, rfl, h1, h2, h3, ?_, fun b o hA => by have := h5 b o hA; omega, ?_⟩
  · simpa [World.setCell] using ((h4.stored v1 hne).stored v2 hne).stored v3 hne
  · (repeat (first | exact Below.refl _ _ | assumption | refine Below.drew ?_ | refine Below.alloc ?_ (by first | omega | (simp; done) | (simp; omega)) _ | refine Below.setCell ?_ (by first | omega | (simp; done) | (simp; omega)) _))

set_option maxRecDepth 100000 in
set_option maxHeartbeats 8000000 in
theorem parseSystem_any (t : ByteArray) (w : World) (hz : t.size ≤ 900) : Calls Tryd.prog 145 #[.string t] w (SyBPost 1000 w) := by
  obtain ⟨i0, hi, hz0, hz1, hz2⟩ := info_parts infoEd
  have hres := Blk.new w 36 #[.int .i64 0, .int .i64 0, .slice none 0 0]
  have hb0 : Below w.heap.size w (w.alloc (.cells #[.int .i64 0, .int .i64 0, .slice none 0 0] 36)) := (Below.refl _ _).alloc (Nat.le_refl _) _
  have hsz0 : (w.alloc (.cells #[.int .i64 0, .int .i64 0, .slice none 0 0] 36)).heap.size = w.heap.size + 1 := by simp
  generalize hw0 : w.alloc (.cells #[.int .i64 0, .int .i64 0, .slice none 0 0] 36) = w0 at hres hb0 hsz0
  replace hres := hid hres
  have hzero : ∀ w1, Below w0.heap.size w0 w1 → Hid (SyBPost 1000 w (.returned (.tuple #[.agg #[.int .i64 0, .int .i64 0, .slice none 0 0], .bool false])) (((w1.setCell ⟨w.heap.size, 0, none⟩ (.int .i64 0)).setCell ⟨w.heap.size, 1, none⟩ (.int .i64 0)).setCell ⟨w.heap.size, 2, none⟩ (.slice none 0 0))) := fun w1 h =>
    hid (SyBPost.ret (s := ⟨0, 0, []⟩) (A := none) (c := 0) false (by simp) (by omega) (by simp) (fun h => by simp at h) (fun b o h => by cases h) (hb0.trans (h.mono (by omega))) _ _ _)
  replace hsz0 := hid hsz0
  have hrb : ∀ w1, Below w0.heap.size w0 w1 → Hid (Blk w1 w.heap.size 36 #[.int .i64 0, .int .i64 0, .slice none 0 0]) := fun w1 h => hid (hres.out.below h (by have := hsz0.out; omega))
  go_enter Tryd.func145, Tryd.ntmps145
  go_wp2_with fail
  refine (l19Cut_any t 32 w0 (by omega)).mono ?_
  rintro e w1 ⟨pv, ps, rfl, hcut⟩
  have hb1 := hcut.below
  have hplen := hcut.len
  obtain ⟨Ap, cp, hpv, hcp, hcp'⟩ := own_slice hcut.own
  subst hpv
  replace hcut := hid hcut
  by_cases hlen : ps.length < 2
  · have hfin := hzero w1 hb1
    have hbl := hrb w1 hb1
    have d0 := hbl.out.cell 0
    have d1 := hbl.out.cell 1
    have d2 := hbl.out.cell 2
    have f0 := hbl.out.frozen 0
    have f1 := hbl.out.frozen 1
    have f2 := hbl.out.frozen 2
    simp only [List.getElem?_toArray, List.getElem?_cons_zero, List.getElem?_cons_succ] at d0 d1 d2
    have hlt := hbl.out.lt
    clear hw0
    go_wp2
    refine bodyPost_ret (v := .tuple #[.agg #[.int .i64 0, .int .i64 0, .slice none 0 0], .bool false]) (by simp [results, Tryd.results145, go_sem, d0, d1, d2]) rfl ?_
    exact hfin.out
  · obtain ⟨gp, cap, hve, hg1, hg2, -, -, hP⟩ := own_strs hcut.out.own (by omega)
    injection hve with hv1 hv2 hv3
    subst hv1
    subst hv3
    have s0 := hP 0 (by omega)
    have hsm : ∀ i (h : i < ps.length), (ps[i]'h).size ≤ 900 := fun i h => by have := hcut.out.small _ (List.getElem_mem h); omega
    replace hsm := hid hsm
    replace hP := hid hP
    have i1 : (1 : Int) < (ps.length : Int) := by omega
    have i0' : (0 : Int) < (ps.length : Int) := by omega
    go_wp2_with fail
    refine (parseAlpha_any _ w1).mono ?_
    rintro e w2 ⟨al, ok, rfl, hb2⟩
    have s1 : w2.cell? ⟨gp, 1, none⟩ = some (.string ps[1]) := by rw [hb2.cell (by simpa using hg2)]; exact hP.out 1 (by omega)
    have hb02 := hb1.trans (hb2.mono hb1.size)
    clear s0
    go_wp2_with fail
    refine (l19Num_any ps[1] w2 (by have := hsm.out 1 (by omega); omega)).mono ?_
    rintro e w' ⟨st, fine, rfl, rfl⟩
    clear s1 hw0
    have hfin := hzero w2 hb02
    have hbl := hrb w2 hb02
    have d0 := hbl.out.cell 0
    have d1 := hbl.out.cell 1
    have d2 := hbl.out.cell 2
    have f0 := hbl.out.frozen 0
    have f1 := hbl.out.frozen 1
    have f2 := hbl.out.frozen 2
    simp only [List.getElem?_toArray, List.getElem?_cons_zero, List.getElem?_cons_succ] at d0 d1 d2
    have hlt := hbl.out.lt
    cases ok
    · go_wp2
      refine bodyPost_ret (v := .tuple #[.agg #[.int .i64 0, .int .i64 0, .slice none 0 0], .bool false]) (by simp [results, Tryd.results145, go_sem, d0, d1, d2]) rfl ?_
      exact hfin.out
    · cases fine
      · go_wp2
        refine bodyPost_ret (v := .tuple #[.agg #[.int .i64 0, .int .i64 0, .slice none 0 0], .bool false]) (by simp [results, Tryd.results145, go_sem, d0, d1, d2]) rfl ?_
        exact hfin.out
      · clear d0 d1 d2 f0 f1 f2 hfin hbl
        go_wp2_with fail
        have hs0 : PsSt w2 (w2.alloc (.cells #[.int .i64 al, .int .i64 st, .slice none 0 0] 36)) al st (.slice none 0 0) [] 2 :=
          ⟨Blk.new _ _ _, World.ownsRow_nil _ _ _ _, by simp, (Below.refl _ _).alloc (Nat.le_refl _) _⟩
        replace hs0 := hid hs0
        go_loopw [10] (fun i wr => ∃ (k : Nat) (v : Value) (es : List Ed), i = .int .i64 k ∧ 2 ≤ k ∧ k ≤ ps.length ∧ PsSt w2 wr al st v es k) (fun i _ => ps.length - (intOf i).toNat)
        case atStart => exact ⟨2, _, [], rfl, by omega, by omega, hs0.out⟩
        case round =>
          obtain ⟨k, v, es, rfl, hk2, hk, hs⟩ := hrel
          have hbr := hs.below
          have hln := hs.len
          have hb0r := hb02.trans (hbr.mono hb02.size)
          replace hs := hid hs
          by_cases hkl : k < ps.length
          · have s1 : wr.cell? ⟨gp, k, none⟩ = some (.string ps[k]) := by rw [hbr.cell (by have := hb2.size; simp; omega), hb2.cell (by simpa using hg2)]; exact hP.out k hkl
            have i2 : (0 : Int) ≤ (k : Int) ∧ (k : Int) < (ps.length : Int) := by omega
            go_wp2_with fail
            refine (l2Parse_any ps[k] wr (by have := hsm.out k (by omega); omega)).mono ?_
            rintro e w3 ⟨x, good, rfl, hb3⟩
            have hb03 := hb0r.trans (hb3.mono hb0r.size)
            have hs3 := hid (hs.out.later hb3)
            clear s1 hs
            unfold Ed.val
            cases good
            · have b4 : Below w0.heap.size w0 (w3.alloc (.cells #[.int .i64 x.f, .int .i64 x.l, .int .i64 x.t] 76)) := hb03.alloc hb03.size _
              have hfin := hzero _ b4
              have hbl := hrb _ b4
              have d0 := hbl.out.cell 0
              have d1 := hbl.out.cell 1
              have d2 := hbl.out.cell 2
              have f0 := hbl.out.frozen 0
              have f1 := hbl.out.frozen 1
              have f2 := hbl.out.frozen 2
              simp only [List.getElem?_toArray, List.getElem?_cons_zero, List.getElem?_cons_succ] at d0 d1 d2
              have hlt := hbl.out.lt
              generalize hw4 : w3.alloc (.cells #[.int .i64 x.f, .int .i64 x.l, .int .i64 x.t] 76) = w4 at *
              go_wp2
              refine bodyPost_ret (v := .tuple #[.agg #[.int .i64 0, .int .i64 0, .slice none 0 0], .bool false]) (by simp [results, Tryd.results145, go_sem, d0, d1, d2]) rfl ?_
              exact hfin.out
            · have hs4 := hid (hs3.out.later ((Below.refl _ w3).alloc (Nat.le_refl _) (.cells #[.int .i64 x.f, .int .i64 x.l, .int .i64 x.t] 76)))
              have hnb := Blk.new w3 76 #[.int .i64 x.f, .int .i64 x.l, .int .i64 x.t]
              have hsz4 : w3.heap.size < (w3.alloc (.cells #[.int .i64 x.f, .int .i64 x.l, .int .i64 x.t] 76)).heap.size := by simp
              have b4 : Below w0.heap.size w0 (w3.alloc (.cells #[.int .i64 x.f, .int .i64 x.l, .int .i64 x.t] 76)) := hb03.alloc hb03.size _
              generalize hw4 : w3.alloc (.cells #[.int .i64 x.f, .int .i64 x.l, .int .i64 x.t] 76) = w4 at *
              have m0 := hnb.cell 0
              have m1 := hnb.cell 1
              have m2 := hnb.cell 2
              simp only [List.getElem?_toArray, List.getElem?_cons_zero, List.getElem?_cons_succ] at m0 m1 m2
              have c2 := hs4.out.blk.cell 2
              simp only [List.getElem?_toArray, List.getElem?_cons_zero, List.getElem?_cons_succ] at c2
              have hgl := hs4.out.blk.lt
              have hown := hs4.out.own
              unfold OwnEds at hown
              have ag : v.ownBlock ≠ some w2.heap.size := fun e => by have := (hown.lt _ e).1; omega
              replace hown := hid hown
              replace hnb := hid hnb
              go_wp2_with (at_builtin; refine wpList_append_lies _ (by rfl) _ _ 34 (by rfl) (w2.heap.size + 1) 76 i0 (.agg #[.int .i64 0, .int .i64 0, .int .i64 0]) 3 24 Tryd.underlying34 hi hz0 hz1 hz2 rfl (by decide) v es.length (edCells es) (by rfl) (hown.out.alloc _) ⟨w4.heap.size, 0, none⟩ 1 1 [.int .i64 x.f, .int .i64 x.l, .int .i64 x.t] (by rfl) (by rfl) (World.news_of_block (heap_alloc_new w4 _)) ?c1 (by omega) ?c3 ?c4 ?c5 _ rfl ?_)
              case c1 => simp [Value.oneCell']
              case c3 => unfold maxLen; omega
              case c4 => omega
              case c5 => simp; omega
              intro gg cap5 w5 hown5 hgrow hat hlt5
              have hs5 := hid ((hs4.out.later ((Below.refl _ w4).alloc (Nat.le_refl _) _)).add (x := x) hown5 hgrow)
              have c2' : w5.cell? ⟨w2.heap.size, 2, none⟩ = some v := by rw [hgrow.cell_far _ (by simp; omega) (Ne.symm ag), World.cell?_alloc_lt (h := by simpa using hgl)]; exact c2
              have f2' : w5.frozen? ⟨w2.heap.size, 2, none⟩ = false := by rw [hgrow.frozen_far _ (by simp; omega) (Ne.symm ag)]; exact (hs4.out.blk.alloc _).frozen 2
              clear hown5 hgrow hat c2 m0 m1 m2 hw4
              go_wp2_with fail
              go_roundw
              case rel => exact ⟨k + 1, _, _, by go_num, by omega, by omega, hs5.out⟩
              case measure => simp [intOf]; omega
          · obtain ⟨Av, cv, hve, h1, h2⟩ := own_slice hs.out.own
            subst hve
            obtain ⟨A', c', hv', -, -, hE, hF⟩ := hs.out.own.read
            cases hv'
            have c0 := hs.out.blk.cell 0
            have c1 := hs.out.blk.cell 1
            have c2 := hs.out.blk.cell 2
            simp only [List.getElem?_toArray, List.getElem?_cons_zero, List.getElem?_cons_succ] at c0 c1 c2
            replace hE := hid hE
            replace hF := hid hF
            go_wp2_with fail
            refine (formatSystem_any ⟨al, st, es⟩ Av cv wr h1 h2 (by show es.length ≤ 10000; omega) hE.out).mono ?_
            rintro e w3 ⟨x, rfl, hx, hb3⟩
            have hb03 := hb0r.trans (hb3.mono hb0r.size)
            have hs3 := hid (hs.out.later hb3)
            have hE3 := hid (hE.out.later hb3)
            clear c0 c1 c2
            have c0 := hs3.out.blk.cell 0
            have c1 := hs3.out.blk.cell 1
            have c2 := hs3.out.blk.cell 2
            simp only [List.getElem?_toArray, List.getElem?_cons_zero, List.getElem?_cons_succ] at c0 c1 c2
            have hfin := hzero w3 hb03
            have hfin2 := hid (SyBPost.ret (w := w) (L := 1000) (s := ⟨al, st, es⟩) (A := Av) (c := cv) true h1 h2 (by show es.length ≤ 1000; omega) hE3.out (fun b o hA => by have := hF.out b o hA; have := hb02.size; have := hsz0.out; omega) (hb0.trans (hb03.mono (by have := hsz0.out; omega))) (.int .i64 al) (.int .i64 st) (.slice Av es.length cv))
            have hbl := hrb w3 hb03
            have d0 := hbl.out.cell 0
            have d1 := hbl.out.cell 1
            have d2 := hbl.out.cell 2
            have f0 := hbl.out.frozen 0
            have f1 := hbl.out.frozen 1
            have f2 := hbl.out.frozen 2
            simp only [List.getElem?_toArray, List.getElem?_cons_zero, List.getElem?_cons_succ] at d0 d1 d2
            have hlt := hbl.out.lt
            go_wp2
            all_goals first
              | (refine bodyPost_ret (v := .tuple #[.agg #[.int .i64 al, .int .i64 st, .slice Av es.length cv], .bool true]) (by simp [results, Tryd.results145, go_sem, d0, d1, d2]; done) rfl ?_; exact hfin2.out)
              | (refine bodyPost_ret (v := .tuple #[.agg #[.int .i64 0, .int .i64 0, .slice none 0 0], .bool false]) (by simp [results, Tryd.results145, go_sem, d0, d1, d2]; done) rfl ?_; exact hfin.out)

end Go.Proofs.YtbomhfbiaedbiaaDoor
