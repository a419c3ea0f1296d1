/- Lemmas, part 8: several texts in one. -/
import Derived.Test.YtkoganldcmhopaaDoorK7
import Derived.Test.YtkoganldcmhopaaDoorK2
import Derived.Test.YtkoganldcmhopaaDoorK4
set_option linter.unusedSimpArgs false
set_option linter.unusedVariables false

/- The reference's SystemOf. -/
namespace Go.Proofs.YtkoganldcmhopaaDoor
open Go.RowKit Go.BigFrame AG

def SoPost (w : World) (x : Sy) (ok : Bool) (e : Ending) (w' : World) : Prop := ∃ (A : Option Addr) (c : Nat), e = .returned (.tuple #[x.val A c, .bool ok]) ∧ x.es.length ≤ c ∧ c ≤ 9223372036854775807 ∧ EdsAt w' w'.heap.size A x.es ∧ FreshA w.heap.size A ∧ Below w.heap.size w w'
def SoOwn (w : World) (x : Sy) (ok : Bool) (e : Ending) (w' : World) : Prop := ∃ (A : Option Addr) (c : Nat), e = .returned (.tuple #[x.val A c, .bool ok]) ∧ OwnEds w' w.heap.size (.slice A x.es.length c) x.es ∧ Below w.heap.size w w'
theorem SoOwn.read {w : World} {x : Sy} {ok : Bool} {e : Ending} {w' : World} (h : SoOwn w x ok e w') : SoPost w x ok e w' := by
  obtain ⟨A, c, h1, h2, h3⟩ := h
  obtain ⟨A', c', e', k1, k2, k3, k4⟩ := OwnEds.read h2
  cases e'
  exact ⟨A, c, h1, k1, k2, k3, k4, h3⟩

/-- The system under way, and the letters. -/
structure SoSt (w0 wr : World) (gs : Nat) (al st : Int) (v : Value) (es : List Ed) (lv : Value) (L : List Nat) : Prop where
  sub : SubSt w0 wr gs al st v es
  list : OwnNats wr w0.heap.size lv L
theorem SoSt.later {w0 wr w1 : World} {gs : Nat} {al st : Int} {v lv : Value} {es : List Ed} {L : List Nat} (h : SoSt w0 wr gs al st v es lv L) (hb : Below wr.heap.size wr w1) : SoSt w0 w1 gs al st v es lv L := ⟨h.sub.later hb, own_later h.list hb⟩
theorem SoSt.add {w0 wr w1 : World} {gs gg cap : Nat} {al st : Int} {v lv : Value} {es : List Ed} {L : List Nat} {x : Ed} (h : SoSt w0 wr gs al st v es lv L)
    (hown : w1.ownsRow w0.heap.size 66 3 (.slice (some ⟨gg, 0, none⟩) (es.length + 1) cap) (es.length + 1) (edCells es ++ [.int .i64 x.f, .int .i64 x.l, .int .i64 x.t])) (hg : wr.grownBy w1 v.ownBlock) :
    SoSt w0 (w1.setCell ⟨gs, 2, none⟩ (.slice (some ⟨gg, 0, none⟩) (es.length + 1) cap)) gs al st (.slice (some ⟨gg, 0, none⟩) (es.length + 1) cap) (es ++ [x]) lv L := by
  have hbl : wr.grownBy w1 v.ownBlock := hg
  refine ⟨h.sub.add hown hg, ?_⟩
  have k2 : KeepB (fun b => v.ownBlock = some b ∨ b = gs) wr (w1.setCell ⟨gs, 2, none⟩ (.slice (some ⟨gg, 0, none⟩) (es.length + 1) cap)) := ((((KeepB.refl _ wr).grown hg (fun k hk _ => hk)).mono fun _ h => .inl h).setCell _ _ fun _ => .inr rfl)
  exact own_keep h.list k2 fun g hg hk => by
    rcases hk with hk | hk
    · exact own_ne_own h.list h.sub.own (by decide) g g hg hk rfl
    · exact own_ne h.list h.sub.blk (by decide) g hg hk

theorem soS_zero {a : Au} (h : soOk a = false) : soS a = ⟨0, 0, []⟩ := by unfold soS; rw [h]; rfl

set_option maxRecDepth 100000 in
set_option maxHeartbeats 8000000 in
theorem specSystemOf_any (a : Au) (A B : Option Addr) (c d : Nat) (w : World) (ha : AuAt w A c B d a) :
    Calls Tryd.prog 17 #[a.val A c B d] w (SoPost w (soS a) (soOk a)) := by
  obtain ⟨i0, hi, hz0', hz1', hz2'⟩ := info_parts infoEd
  obtain ⟨w0, hw0, hz0, hB0, hS, -⟩ := boxed2 w #[Value.int IntKind.i64 a.al, Value.slice A a.nx.length c, Value.slice B a.ac.length d] 26 #[Value.int IntKind.i64 0, Value.int IntKind.i64 0, Value.slice none 0 0] 30
  have hres : Blk w0 (w.heap.size + 1) 30 #[Value.int IntKind.i64 0, Value.int IntKind.i64 0, Value.slice none 0 0] := by
    rw [← hw0]
    have := Blk.new (w.alloc (.cells #[Value.int IntKind.i64 a.al, Value.slice A a.nx.length c, Value.slice B a.ac.length d] 26)) 30 #[Value.int IntKind.i64 0, Value.int IntKind.i64 0, Value.slice none 0 0]
    simpa using this
  have ha0 := hid (ha.later hB0)
  have p0 := hS 0 _ rfl _ (Below.refl _ _)
  have p1 := hS 1 _ rfl _ (Below.refl _ _)
  have p2 := hS 2 _ rfl _ (Below.refl _ _)
  replace ha := hid ha
  replace hres := hid hres
  unfold AG.Au.val
  go_enter Tryd.func17, Tryd.ntmps17
  go_wp2_with fail
  refine (specAutomatonValid_any a A B c d w0 ha0.out).mono ?_
  rintro e w1 ⟨rfl, hb1⟩
  have hB1 := hB0.trans (hb1.mono hB0.size)
  have hC1 := hb1.mono hz0
  have ha1 := hid (ha0.out.later hb1)
  have hz1 := hb1.size
  have hzero : soOk a = false → ∀ wx, Below w1.heap.size w1 wx → SoPost w (soS a) (soOk a) (.returned (.tuple #[.agg #[.int .i64 0, .int .i64 0, .slice none 0 0], .bool false])) (((wx.setCell ⟨w.heap.size + 1, 0, none⟩ (.int .i64 0)).setCell ⟨w.heap.size + 1, 1, none⟩ (.int .i64 0)).setCell ⟨w.heap.size + 1, 2, none⟩ (.slice none 0 0)) := fun h wx hbx => by
    rw [soS_zero h, h]
    exact ⟨none, 0, rfl, Nat.le_refl _, by omega, fun h => by simp at h, fun b o h => (by cases h), (((hB1.trans (hbx.mono hB1.size)).setCell (by simp) _).setCell (by simp) _).setCell (by simp) _⟩
  have hrb := hres.out.below hb1 hres.out.lt
  have d0 := hrb.cell 0
  have d1 := hrb.cell 1
  have d2 := hrb.cell 2
  have f0 := hrb.frozen 0
  have f1 := hrb.frozen 1
  have f2 := hrb.frozen 2
  have hlt1 := hrb.lt
  simp only [List.getElem?_toArray, List.getElem?_cons_zero, List.getElem?_cons_succ] at d0 d1 d2
  replace hzero := hid hzero
  replace hrb := hid hrb
  clear p0 p1 p2 hw0
  cases hok : auOk a
  · have hno := hid (hzero.out (by unfold soOk; rw [hok]; rfl) w1 (Below.refl _ _))
    replace hok := hid hok
    go_wp2
    refine bodyPost_ret (v := .tuple #[.agg #[.int .i64 0, .int .i64 0, .slice none 0 0], .bool false]) (by simp [results, Tryd.results17, go_sem, d0, d1, d2]) rfl ?_
    exact hno.out
  obtain ⟨-, hn1, hn12, hn3, -⟩ := (auOk_iff a).1 hok
  obtain ⟨bA, oA, hAe, hbA, hEA⟩ := ha1.out.acc (by omega)
  subst hAe
  have hac0 := hEA 0 (by omega)
  rw [Nat.add_zero] at hac0
  have hso : Hid (soOk a = a.ac[0]) := hid (by
    unfold soOk
    rw [hok, Bool.true_and, List.getD_eq_getElem?_getD, List.getElem?_eq_getElem (by omega)]
    rfl)
  obtain ⟨t, ht⟩ : ∃ t, t = a.ac[0] := ⟨_, rfl⟩
  rw [← ht] at hac0 hso
  have hok' := hid hok
  have hn3' := hid hn3
  have hal0 : (0 : Int) < (a.ac.length : Int) := by omega
  have p2 := hS 2 _ rfl _ hC1
  replace hEA := hid hEA
  clear hok hn3 ht
  cases t
  · have hno := hid (hzero.out hso.out w1 (Below.refl _ _))
    go_wp2
    refine bodyPost_ret (v := .tuple #[.agg #[.int .i64 0, .int .i64 0, .slice none 0 0], .bool false]) (by simp [results, Tryd.results17, go_sem, d0, d1, d2]) rfl ?_
    exact hno.out
  have p0 := hS 0 _ rfl _ hC1
  have p1 := hS 1 _ rfl _ hC1
  clear hzero d0 d1 d2 f0 f1 f2
  go_upto_region 4 with fail
  have hblk := Blk.new w1 30 #[.int .i64 a.al, .int .i64 (a.nx.length : Nat), .slice none 0 0]
  obtain ⟨w2, hw2, hz2, hB2', hU⟩ := boxed w1 #[.int .i64 a.al, .int .i64 (a.nx.length : Nat), .slice none 0 0] 30
  rw [hw2]
  rw [hw2] at hblk
  clear hw2
  have hC2 := hC1.trans (hB2'.mono (by omega))
  clear p0 p1 p2
  have p0 := hS 0 _ rfl _ hC2
  replace hblk := hid hblk
  go_wp2_with fail
  refine (l1Letters_any a.al w2).mono ?_
  rintro e w3 ⟨lv, rfl, hown3, hb3⟩
  have hs3 : SoSt w1 w3 w1.heap.size a.al (a.nx.length : Nat) (.slice none 0 0) (fullTo a 0) lv (letters a.al) := ⟨⟨hblk.out.below hb3 hblk.out.lt, World.ownsRow_nil _ _ _ _, Nat.le_refl _, hB2'.trans (hb3.mono (by omega))⟩, own_base hown3 (by omega)⟩
  obtain ⟨AL, cL, rfl, hcL, hcL'⟩ := own_slice hown3
  obtain ⟨L, hL⟩ : ∃ L, Hid (L = letters a.al) := ⟨_, hid rfl⟩
  rw [← hL.out] at hs3 hcL ⊢
  have hL6 : L.length ≤ 6 := by rw [hL.out]; exact letters_len6 a.al
  have hrow : Hid (∀ i (h : i < a.nx.length), (a.nx[i]).length = L.length) := hid fun i h => by rw [hL.out]; exact (row_at hok'.out h).2.1
  clear hown3 p0
  replace hs3 := hid hs3
  have hz12 : w1.heap.size < w2.heap.size := by omega
  have hpar := hid (fun (wr : World) (hb : Below w1.heap.size w1 wr) => And.intro (hS 0 _ rfl _ (hC1.trans (hb.mono (by omega)))) (And.intro (hS 1 _ rfl _ (hC1.trans (hb.mono (by omega)))) (hS 2 _ rfl _ (hC1.trans (hb.mono (by omega))))))
  have p1 := (hpar.out _ hs3.out.sub.keep).2.1
  go_wp2_with fail
  go_loopw [6] (fun iv wr => ∃ (i : Nat) (v : Value), iv = .int .i64 (i : Nat) ∧ i ≤ a.nx.length ∧ SoSt w1 wr w1.heap.size a.al (a.nx.length : Nat) v (fullTo a i) (.slice AL L.length cL) L) (fun iv _ => a.nx.length - (intOf iv).toNat)
  case atStart => exact ⟨0, _, rfl, by omega, hs3.out⟩
  case round =>
    clear p1
    obtain ⟨i, v, rfl, hi', hs⟩ := hrel
    have p1 := (hpar.out _ hs.sub.keep).2.1
    by_cases hlt : i < a.nx.length
    · have hs' := hid hs
      clear hs
      go_wp2_with fail
      obtain ⟨wo, rfl⟩ : ∃ wo : World, wo = wr := ⟨_, rfl⟩
      go_loopw [7] (fun kv wr => ∃ (k : Nat) (v : Value), kv = .int .i64 (k : Nat) ∧ k ≤ L.length ∧ SoSt w1 wr w1.heap.size a.al (a.nx.length : Nat) v (fullTo a i ++ (rowEs L i a.nx[i]).take k) (.slice AL L.length cL) L) (fun kv _ => L.length - (intOf kv).toNat)
      case atStart => exact ⟨0, v, rfl, by omega, by rw [List.take_zero, List.append_nil]; exact hs'.out⟩
      case round =>
        clear p1 hs'
        obtain ⟨k, v, rfl, hk, hs⟩ := hrel
        have p1 := (hpar.out _ hs.sub.keep).2.1
        by_cases hlk : k < L.length
        · obtain ⟨gl, cl, hve, -, -, -, -, hcell⟩ := own_nats hs.list (by omega)
          injection hve with e1 e2 e3
          subst e1
          subst e3
          have l0 := hcell k hlk
          have har := ha1.out.rows.later (show Below w1.heap.size w1 wr from hs.sub.keep)
          obtain ⟨bR, oR, hRe, hbR, hER⟩ := har (by omega)
          subst hRe
          obtain ⟨Ai, ci, r0, h1, h2, h3⟩ := hER i hlt
          have hrl := hrow.out i hlt
          have hek : Hid ((rowEs L i a.nx[i]).take (k + 1) = (rowEs L i a.nx[i]).take k ++ [⟨(i : Int), (L[k] : Int), (a.nx[i])[k]'(by omega)⟩]) := hid (rowEs_take L i a.nx[i] hlk (by omega))
          obtain ⟨r, hr⟩ : ∃ r, r = a.nx[i] := ⟨_, rfl⟩
          simp only [← hr] at r0 h1 h3 hrl hek hs ⊢
          obtain ⟨bi, oi, hie, hbi, hEi⟩ := h3 (by omega)
          subst hie
          have i0c := hEi k (by omega)
          obtain ⟨t, ht⟩ : ∃ t, t = r[k]'(by omega) := ⟨_, rfl⟩
          obtain ⟨l, hll⟩ : ∃ l, l = L[k] := ⟨_, rfl⟩
          rw [← ht] at i0c hek
          rw [← hll] at l0 hek
          have k1 : (0 : Int) ≤ (k : Int) ∧ (k : Int) < (L.length : Int) := by omega
          have k2 : (0 : Int) ≤ (i : Int) ∧ (i : Int) < (a.nx.length : Int) := by omega
          have k3 : (k : Int) < (r.length : Int) := by omega
          obtain ⟨es, hes⟩ : ∃ es, Hid (es = fullTo a i ++ (rowEs L i r).take k) := ⟨_, hid rfl⟩
          have hesl : es.length ≤ 1000 := by
            rw [hes.out, List.length_append, List.length_take]
            have := fullTo_len a i
            omega
          rw [← hes.out] at hs
          have c2 := hs.sub.blk.cell 2
          simp only [List.getElem?_toArray, List.getElem?_cons_zero, List.getElem?_cons_succ] at c2
          have q0 := GK.BI.cell c2
          have q1 := GK.BI.cell l0
          have q2 := GK.BI.cell p1
          have q3 := GK.BI.cell r0
          have q4 := GK.BI.cell i0c
          replace hs := hid hs
          replace hcell := hid hcell
          replace hER := hid hER
          replace hEi := hid hEi
          replace h3 := hid h3
          replace har := hid har
          replace hr := hid hr
          replace ht := hid ht
          replace hll := hid hll
          go_upto_region 11 with fail
          clear c2 l0 p1 r0 i0c
          refine GK.wp_region 17 [17, 18, 19] 200 (KeepB fun _ => False) (GK.BI wr) (fun _ _ _ => True) (by kernel_rfl) (by kernel_rfl) (GK.BI.way wr) (by decide) (Below.refl _ _).drew ?_
          simp only [List.take_succ_cons, List.take_zero]
          (repeat (refine GK.grow_quiet wr (by rfl) (by rfl) ?_; intro K hK; go_big_quiet_op; go_big_quiet_on))
          refine GK.grow_new (K := fun _ => False) (by rfl) _ (fun b => .slice (some ⟨b, 0, none⟩) 1 1) 66 #[.int .i64 (i : Nat), .int .i64 (l : Nat), .int .i64 t] (fun _ => by go_simp) rfl (fun _ _ o h => GK.BI.alloc o h) (fun _ _ h => GK.BI.size h) (fun _ h => h.elim) (fun bb hbb2 => ?_)
          simp only [Act.put, List.setIfInBounds_toArray, List.set_cons_zero, List.set_cons_succ]
          refine GK.grow_nil ?_
          intro w4 hw4 hf
          obtain ⟨g', hge, hge2, hblk4⟩ := hf _ List.mem_cons_self
          cases hge
          clear hf
          simp only [List.filterMap_cons, List.filterMap_nil, List.getElem?_cons_zero, List.getElem?_cons_succ]
          replace hw4 : Below wr.heap.size wr w4 := hw4
          have hS4 := hid (hs.out.later hw4)
          have hown4 := hS4.out.sub.own
          have hbl4 := hS4.out.sub.blk.lt
          have ag : v.ownBlock ≠ some w1.heap.size := fun e => own_ne hS4.out.sub.own hS4.out.sub.blk (by decide) w1.heap.size e rfl
          have c2 := hS4.out.sub.blk.cell 2
          have f2 := hS4.out.sub.blk.frozen 2
          simp only [List.getElem?_toArray, List.getElem?_cons_zero, List.getElem?_cons_succ] at c2
          clear q0 q1 q2 q3 q4
          refine wpList_append_lies _ (by rfl) _ _ 28 (by rfl) w1.heap.size 66 i0 (.agg #[.int .i64 0, .int .i64 0, .int .i64 0]) 3 24 Tryd.underlying28 hi hz0' hz1' hz2' rfl (by decide) v es.length (edCells es) (by rfl) hown4 ⟨bb, 0, none⟩ 1 1 [.int .i64 (i : Nat), .int .i64 (l : Nat), .int .i64 t] (by rfl) (by rfl) (World.news_of_block hblk4) ?c1 (by omega) ?c3 ?c4 ?c5 w4.heap.size rfl ?_
          case c1 => simp [Value.oneCell']
          case c3 => unfold maxLen; omega
          case c4 => omega
          case c5 => have := hS4.out.sub.keep.size; omega
          intro gg cap w5 hown5 hgrow hat hlt5
          have c2' : w5.cell? ⟨w1.heap.size, 2, none⟩ = some v := by rw [hgrow.cell_far _ (by simpa using hbl4) (Ne.symm ag)]; exact c2
          have f2' : w5.frozen? ⟨w1.heap.size, 2, none⟩ = false := by rw [hgrow.frozen_far _ (by simpa using hbl4) (Ne.symm ag)]; exact f2
          have hfin := hid (hS4.out.add (x := ⟨(i : Int), (l : Int), t⟩) hown5 hgrow)
          have hz5 := hgrow.size
          clear hown4 hown5 hgrow c2 f2
          go_wp2_with fail
          go_roundw
          case rel => exact ⟨k + 1, _, by go_num, by omega, by rw [hek.out, ← List.append_assoc, ← hes.out]; exact hfin.out⟩
          case measure => simp [intOf]; omega
        · obtain rfl : k = L.length := by omega
          have hrl := hrow.out i hlt
          have hfin : Hid (fullTo a (i + 1) = fullTo a i ++ (rowEs L i a.nx[i]).take L.length) := hid (by
            rw [fullTo_succ a hlt, hL.out, List.take_of_length_le (by rw [rowEs_len]; omega)])
          replace hs := hid hs
          go_wp2_with fail
          go_roundw
          case rel => exact ⟨i + 1, v, by go_num, by omega, by rw [hfin.out]; exact hs.out⟩
          case measure => simp [intOf]; omega
    · obtain rfl : i = a.nx.length := by omega
      obtain ⟨Av, cv, hve, hv1, hv2⟩ := own_slice hs.sub.own
      subst hve
      obtain ⟨A2, c2', hve2, h1, h2, h3, h4⟩ := OwnEds.read (show OwnEds wr w1.heap.size (.slice Av (fullTo a a.nx.length).length cv) (fullTo a a.nx.length) from hs.sub.own)
      cases hve2
      have hbr := hs.sub.keep
      have hfl := fullTo_len a a.nx.length
      have c0 := hs.sub.blk.cell 0
      have c1 := hs.sub.blk.cell 1
      have c2 := hs.sub.blk.cell 2
      simp only [List.getElem?_toArray, List.getElem?_cons_zero, List.getElem?_cons_succ] at c0 c1 c2
      obtain ⟨p0, p1', p2⟩ := hpar.out _ hbr
      have hzr := hbr.size
      have hin := hid (fullSy_in hok'.out)
      have hR := hid (accSet_lt a a.nx.length)
      have htr : Hid (soS a = trimSy (fullSy a) (accS a)) := hid (soS_eq hso.out)
      have q0 := GK.BI.cell c0
      have q1 := GK.BI.cell c1
      have q2 := GK.BI.cell c2
      have q3 := GK.BI.cell p0
      have q4 := GK.BI.cell p1
      have q5 := GK.BI.cell p2
      have har := hid (ha1.out.later (show Below w1.heap.size w1 wr from hbr))
      have h3' := hid h3
      replace hs := hid hs
      clear h3
      obtain ⟨x, hx⟩ : ∃ x, Hid (x = trimSy (fullSy a) (accS a)) := ⟨_, hid rfl⟩
      go_upto_region 12 with fail
      clear c0 c1 c2 p0 p1 p2 p1'
      refine GK.wp_region 4 [4, 5] 200 (KeepB fun _ => False) (GK.BI wr) (fun i u w' => if i = 2 then u = .int .i64 ((accS a : Nat) : Int) else ∃ (A2 : Option Addr) (c2 : Nat), u = x.val A2 c2 ∧ x.es.length ≤ c2 ∧ c2 ≤ 9223372036854775807 ∧ EdsAt w' w'.heap.size A2 x.es ∧ FreshA wr.heap.size A2) (by kernel_rfl) (by kernel_rfl) (GK.BI.way wr) (by decide) (Below.refl _ _).drew ?_
      simp only [List.take_succ_cons, List.take_zero]
      (repeat (refine GK.grow_quiet wr (by rfl) (by rfl) ?_; intro K hK; go_big_quiet_op; go_big_quiet_on))
      refine GK.grow_val (.int .i64 ((accS a : Nat) : Int)) (by rfl) rfl (fun m wq hm2 hbq _ => ?_) ?_
      · go_simp
        exact ⟨rfl, by
          have hbq' : Below wr.heap.size wr wq := hbq
          exact (l6Accepting_any a A (some ⟨bA, oA, none⟩) c d wq hn3'.out hn12 (har.out.later hbq')).mono fun e w' ⟨h1, h2⟩ => ⟨h1, GK.BI.after hbq h2⟩⟩
      simp only [Act.put, List.setIfInBounds_toArray, List.set_cons_zero, List.set_cons_succ]
      (repeat (refine GK.grow_quiet wr (by rfl) (by rfl) ?_; intro K hK; go_big_quiet_op; go_big_quiet_on))
      refine GK.grow_call (by rfl) (fun u w w' hk h => by
        obtain ⟨A2, c2, h1, h2, h3, h4, h5⟩ := h
        exact ⟨A2, c2, h1, h2, h3, h4.later ⟨hk.os, hk.tape, hk.output, hk.size, fun i hi => hk.block i hi (fun hh => hh)⟩, h5⟩) (fun m wq hm2 hbq hf => ?_) ?_
      · go_simp
        have hbq' : Below wr.heap.size wr wq := hbq
        exact ⟨rfl, (l2Keep_any (fullSy a) Av cv (accS a) wq hin.out (by show ((a.nx.length : Nat) : Int) ≤ 16; omega) (by show (0 : Int) ≤ ((a.nx.length : Nat) : Int); omega) (by show accS a < 2 ^ ((a.nx.length : Nat) : Int).toNat; rw [Int.toNat_natCast]; exact hR.out) (by show (fullTo a a.nx.length).length ≤ 1000000; omega) h1 h2 (h3'.out.later hbq')).mono fun e w' ⟨A2, c2, h1, h2, h3, h4, h5, h6⟩ => ⟨_, h1, GK.BI.after hbq h6, A2, c2, by rw [hx.out], by rw [hx.out]; exact h2, h3, by rw [hx.out]; exact h4, fun b o hA => by have := h5 b o hA; have := hbq'.size; omega⟩⟩
      rintro u ⟨_, _, _, A2, c2, rfl, a1, a2, -, -⟩
      unfold Sy.val
      simp only [Act.put, List.setIfInBounds_toArray, List.set_cons_zero, List.set_cons_succ]
      refine GK.grow_nil ?_
      intro w3' hw3 hf
      simp only [List.filterMap_cons, List.filterMap_nil, List.getElem?_cons_zero, List.getElem?_cons_succ]
      obtain ⟨A3, c3, hve, -, -, h4', h5⟩ := hf _ List.mem_cons_self
      injection hve with hve
      simp at hve
      obtain ⟨rfl, rfl⟩ := hve
      replace hw3 : Below wr.heap.size wr w3' := hw3
      clear hf q0 q1 q2 q3 q4 q5
      have hb13 := hbr.trans (hw3.mono hzr)
      have hrb3 := hrb.out.below hb13 hlt1
      have d0 := hrb3.cell 0
      have d1 := hrb3.cell 1
      have d2 := hrb3.cell 2
      have f0 := hrb3.frozen 0
      have f1 := hrb3.frozen 1
      have f2 := hrb3.frozen 2
      simp only [List.getElem?_toArray, List.getElem?_cons_zero, List.getElem?_cons_succ] at d0 d1 d2
      have hlt3 := hrb3.lt
      have hzw1 := hB1.size
      have hfin : Hid (SoPost w (soS a) (soOk a) (.returned (.tuple #[.agg #[.int .i64 x.al, .int .i64 x.st, .slice A2 x.es.length c2], .bool true])) (((w3'.setCell ⟨w.heap.size + 1, 0, none⟩ (.int .i64 x.al)).setCell ⟨w.heap.size + 1, 1, none⟩ (.int .i64 x.st)).setCell ⟨w.heap.size + 1, 2, none⟩ (.slice A2 x.es.length c2))) := hid (by
        have hne : ∀ b o, A2 = some ⟨b, o, none⟩ → 0 < x.es.length → b ≠ w.heap.size + 1 := fun b o hA _ => by have := h5 b o hA; omega
        rw [htr.out, hso.out, ← hx.out]
        refine ⟨A2, c2, rfl, a1, a2, ?_, fun b o hA => by have := h5 b o hA; omega, ?_⟩
        · simpa [World.setCell] using ((h4'.stored _ hne).stored _ hne).stored _ hne
        · exact (((hB1.trans (hb13.mono hB1.size)).setCell (by simp) _).setCell (by simp) _).setCell (by simp) _)
      clear h4' h5 hrb3
      go_wp2
      refine bodyPost_ret (v := .tuple #[.agg #[.int .i64 x.al, .int .i64 x.st, .slice A2 x.es.length c2], .bool true]) (by simp [results, Tryd.results17, go_sem, d0, d1, d2]) rfl ?_
      exact hfin.out

end Go.Proofs.YtkoganldcmhopaaDoor

/- The program's SystemOf. -/
namespace Go.Proofs.YtkoganldcmhopaaDoor
open Go.RowKit Go.BigFrame AG

structure SoSt2 (w0 wr : World) (gs : Nat) (al st : Int) (v : Value) (es : List Ed) (lv : Value) (L : List Nat) (mv : Value) (M : List Nat) : Prop where
  so : SoSt w0 wr gs al st v es lv L
  mem : OwnNats wr w0.heap.size mv M
theorem SoSt2.later {w0 wr w1 : World} {gs : Nat} {al st : Int} {v lv mv : Value} {es : List Ed} {L M : List Nat} (h : SoSt2 w0 wr gs al st v es lv L mv M) (hb : Below wr.heap.size wr w1) : SoSt2 w0 w1 gs al st v es lv L mv M := ⟨h.so.later hb, own_later h.mem hb⟩
theorem SoSt2.add {w0 wr w1 : World} {gs gg cap : Nat} {al st : Int} {v lv mv : Value} {es : List Ed} {L M : List Nat} {x : Ed} (h : SoSt2 w0 wr gs al st v es lv L mv M)
    (hown : w1.ownsRow w0.heap.size 66 3 (.slice (some ⟨gg, 0, none⟩) (es.length + 1) cap) (es.length + 1) (edCells es ++ [.int .i64 x.f, .int .i64 x.l, .int .i64 x.t])) (hg : wr.grownBy w1 v.ownBlock) :
    SoSt2 w0 (w1.setCell ⟨gs, 2, none⟩ (.slice (some ⟨gg, 0, none⟩) (es.length + 1) cap)) gs al st (.slice (some ⟨gg, 0, none⟩) (es.length + 1) cap) (es ++ [x]) lv L mv M :=
  ⟨h.so.add hown hg, (SoSt.add (lv := mv) (L := M) ⟨h.so.sub, h.mem⟩ hown hg).list⟩

theorem trim_take_hit {R : Nat} {E T : List Ed} {e : Ed} (h : keptE R e = true) : trimEs R (E ++ (T ++ [e])) = trimEs R (E ++ T) ++ [trimE R e] := by
  rw [← List.append_assoc, trimEs_append]
  unfold trimEs
  rw [List.filter_cons_of_pos h]
  rfl
theorem trim_take_miss {R : Nat} {E T : List Ed} {e : Ed} (h : keptE R e = false) : trimEs R (E ++ (T ++ [e])) = trimEs R (E ++ T) := by
  rw [← List.append_assoc, trimEs_append, trimEs_none (es := [e]) (fun x hx => by rw [List.mem_singleton.1 hx]; exact h), List.append_nil]

theorem flat_len6 (A : Int) (g : Nat → List Int) : ∀ (ms : List Nat) , (ms.flatMap fun q => rowEs (letters A) q (g q)).length ≤ ms.length * 6
  | [] => Nat.le_refl _
  | m :: ms => by
    have ih := flat_len6 A g ms
    have h6 := letters_len6 A
    rw [List.flatMap_cons, List.length_append, List.length_cons, rowEs_len]
    omega
set_option maxRecDepth 100000 in
set_option maxHeartbeats 8000000 in
theorem implSystemOf_any (a : Au) (A B : Option Addr) (c d : Nat) (w : World) (hT : Tab w) (ha : AuAt w A c B d a) :
    Calls Tryd.prog 16 #[a.val A c B d] w (SoOwn w (soS a) (soOk a)) := by
  obtain ⟨i0, hi0, hz0', hz1', hz2'⟩ := info_parts infoEd
  obtain ⟨w0, hw0, hz0, hB0, hS, -⟩ := boxed2 w #[Value.int IntKind.i64 a.al, Value.slice A a.nx.length c, Value.slice B a.ac.length d] 26 #[Value.int IntKind.i64 0, Value.int IntKind.i64 0, Value.slice none 0 0] 30
  have hres : Blk w0 (w.heap.size + 1) 30 #[Value.int IntKind.i64 0, Value.int IntKind.i64 0, Value.slice none 0 0] := by
    rw [← hw0]
    have := Blk.new (w.alloc (.cells #[Value.int IntKind.i64 a.al, Value.slice A a.nx.length c, Value.slice B a.ac.length d] 26)) 30 #[Value.int IntKind.i64 0, Value.int IntKind.i64 0, Value.slice none 0 0]
    simpa using this
  have ha0 := hid (ha.later hB0)
  have p0 := hS 0 _ rfl _ (Below.refl _ _)
  have p1 := hS 1 _ rfl _ (Below.refl _ _)
  have p2 := hS 2 _ rfl _ (Below.refl _ _)
  replace ha := hid ha
  replace hres := hid hres
  replace hT := hid hT
  unfold AG.Au.val
  go_enter Tryd.func16, Tryd.ntmps16
  go_wp2_with fail
  refine (implAutomatonValid_any a A B c d w0 ha0.out).mono ?_
  rintro e w1 ⟨rfl, hb1⟩
  have hB1 := hB0.trans (hb1.mono hB0.size)
  have hC1 := hb1.mono hz0
  have ha1 := hid (ha0.out.later hb1)
  have hz1 := hb1.size
  have hzero : soOk a = false → SoOwn w (soS a) (soOk a) (.returned (.tuple #[.agg #[.int .i64 0, .int .i64 0, .slice none 0 0], .bool false])) (((w1.setCell ⟨w.heap.size + 1, 0, none⟩ (.int .i64 0)).setCell ⟨w.heap.size + 1, 1, none⟩ (.int .i64 0)).setCell ⟨w.heap.size + 1, 2, none⟩ (.slice none 0 0)) := fun h => by
    rw [soS_zero h, h]
    exact ⟨none, 0, rfl, World.ownsRow_nil _ _ _ _, ((hB1.setCell (by simp) _).setCell (by simp) _).setCell (by simp) _⟩
  have hrb := hres.out.below hb1 hres.out.lt
  have d0 := hrb.cell 0
  have d1 := hrb.cell 1
  have d2 := hrb.cell 2
  have f0 := hrb.frozen 0
  have f1 := hrb.frozen 1
  have f2 := hrb.frozen 2
  have hlt1 := hrb.lt
  simp only [List.getElem?_toArray, List.getElem?_cons_zero, List.getElem?_cons_succ] at d0 d1 d2
  replace hzero := hid hzero
  replace hrb := hid hrb
  clear p0 p1 p2 hw0
  cases hok : auOk a
  · have hno := hid (hzero.out (by unfold soOk; rw [hok]; rfl))
    replace hok := hid hok
    go_wp2
    refine bodyPost_ret (v := .tuple #[.agg #[.int .i64 0, .int .i64 0, .slice none 0 0], .bool false]) (by simp [results, Tryd.results16, go_sem, d0, d1, d2]) rfl ?_
    exact hno.out
  obtain ⟨-, hn1, hn12, hn3, -⟩ := (auOk_iff a).1 hok
  obtain ⟨bA, oA, hAe, hbA, hEA⟩ := ha1.out.acc (by omega)
  subst hAe
  have hac0 := hEA 0 (by omega)
  rw [Nat.add_zero] at hac0
  have hso : Hid (soOk a = a.ac[0]) := hid (by
    unfold soOk
    rw [hok, Bool.true_and, List.getD_eq_getElem?_getD, List.getElem?_eq_getElem (by omega)]
    rfl)
  obtain ⟨t, ht⟩ : ∃ t, t = a.ac[0] := ⟨_, rfl⟩
  rw [← ht] at hac0 hso
  have hok' := hid hok
  have hac12 : a.ac.length ≤ 12 := by omega
  have hn3' := hid hn3
  have hal0 : (0 : Int) < (a.ac.length : Int) := by omega
  have p2 := hS 2 _ rfl _ hC1
  replace hEA := hid hEA
  clear hok hn3 ht
  cases t
  · have hno := hid (hzero.out hso.out)
    go_wp2
    refine bodyPost_ret (v := .tuple #[.agg #[.int .i64 0, .int .i64 0, .slice none 0 0], .bool false]) (by simp [results, Tryd.results16, go_sem, d0, d1, d2]) rfl ?_
    exact hno.out
  clear hzero d0 d1 d2 f0 f1 f2
  have hpar := hid (fun (wr : World) (hb : Below w1.heap.size w1 wr) => And.intro (hS 0 _ rfl _ (hC1.trans (hb.mono (by omega)))) (And.intro (hS 1 _ rfl _ (hC1.trans (hb.mono (by omega)))) (hS 2 _ rfl _ (hC1.trans (hb.mono (by omega))))))
  go_wp2_with fail
  clear hac0
  go_loopw [4, 27] (fun sv iv wr => ∃ i : Nat, iv = .int .i64 (i : Nat) ∧ i ≤ a.ac.length ∧ sv = .int .i64 (accSet a i : Nat) ∧ wr = w1) (fun _ iv _ => a.ac.length - (intOf iv).toNat)
  case atStart => exact ⟨0, rfl, by omega, rfl, rfl⟩
  case round =>
    clear p2
    obtain ⟨i, rfl, hi, rfl, rfl⟩ := hrel
    have hlt2 := accSet_lt a i
    by_cases hlt : i < a.ac.length
    · have c0 := hEA.out i hlt
      have hsucc : Hid (accSet a (i + 1) = if a.ac[i] = true then accSet a i ||| 2 ^ i else accSet a i) := hid (by
        show (if a.ac.getD i false = true then _ else _) = _
        rw [List.getD_eq_getElem?_getD, List.getElem?_eq_getElem hlt]
        rfl)
      obtain ⟨t, ht⟩ : ∃ t, t = a.ac[i] := ⟨_, rfl⟩
      rw [← ht] at c0 hsucc
      have k1 : (0 : Int) ≤ (i : Int) ∧ (i : Int) < (a.ac.length : Int) := by omega
      clear ht
      have hpw : 2 ^ i ≤ 2 ^ 12 := Nat.pow_le_pow_right (by omega) (by omega)
      cases t
      · have hs : Hid (accSet a (i + 1) = accSet a i) := hid (by rw [hsucc.out]; simp)
        clear hpw hlt2
        go_wp2_with fail
        go_roundw
        case rel => exact ⟨i + 1, by go_num, by omega, by rw [hs.out], by first | rfl | trivial⟩
        case measure => simp [intOf]; omega
      · have hs : Hid (accSet a (i + 1) = accSet a i ||| 2 ^ i) := hid (by rw [hsucc.out]; simp)
        have f1 := wrap_pow (n := i) (by omega)
        obtain ⟨S, hSs⟩ : ∃ S, Hid (S = accSet a i) := ⟨_, hid rfl⟩
        rw [← hSs.out] at hlt2 hs ⊢
        obtain ⟨P, hP⟩ : ∃ P, Hid (P = 2 ^ i) := ⟨_, hid rfl⟩
        rw [← hP.out] at hlt2 hs hpw f1
        have hor := bits_orN S P (by omega) (by omega)
        go_wp2_with fail
        go_roundw
        case rel => exact ⟨i + 1, by go_num, by omega, by rw [hs.out], by first | rfl | trivial⟩
        case measure => simp [intOf]; omega
    · obtain rfl : i = a.ac.length := by omega
      obtain ⟨wz, rfl⟩ : ∃ wz : World, wz = wr := ⟨_, rfl⟩
      obtain ⟨R, hR⟩ : ∃ R, Hid (R = accS a) := ⟨_, hid rfl⟩
      have hRe : Hid (accSet a a.ac.length = R) := hid (by rw [hR.out]; unfold accS; rw [hn3'.out])
      rw [hRe.out]
      have hR16 : R < 65536 := by rw [hR.out]; exact accS_lt hok'.out
      obtain ⟨p0, p1, p2⟩ := hpar.out _ (Below.refl _ _)
      have q0 := GK.BI.cell p0
      have q1 := GK.BI.cell p1
      clear hlt2 hlt hi
      go_upto_region 10 with fail
      clear p0 p1 p2
      refine GK.wp_region 9 [9] 200 (KeepB fun _ => False) (GK.BI wz) (fun _ u _ => u = .int .i64 ((rankN R a.nx.length : Nat) : Int)) (by kernel_rfl) (by kernel_rfl) (GK.BI.way wz) (by decide) (Below.refl _ _).drew ?_
      simp only [List.take_succ_cons, List.take_zero]
      (repeat (refine GK.grow_quiet wz (by rfl) (by rfl) ?_; intro K hK; go_big_quiet_op; go_big_quiet_on))
      refine GK.grow_val (.int .i64 ((rankN R a.nx.length : Nat) : Int)) (by rfl) rfl (fun m wq hm2 hbq _ => ?_) ?_
      · go_simp
        exact ⟨rfl, (implRank_any R a.nx.length wq hR16 (by omega)).mono fun e w' ⟨h1, h2⟩ => ⟨h1, GK.BI.after hbq (by rw [← h2]; exact Below.refl _ _)⟩⟩
      simp only [Act.put, List.setIfInBounds_toArray, List.set_cons_zero, List.set_cons_succ]
      (repeat (refine GK.grow_quiet wz (by rfl) (by rfl) ?_; intro K hK; go_big_quiet_op; go_big_quiet_on))
      refine GK.grow_new (K := fun _ => False) (by rfl) _ (fun b => .pointer (some ⟨b, 0, none⟩)) 30 #[.int .i64 0, .int .i64 0, .slice none 0 0] (fun _ => by go_simp) rfl (fun _ _ o h => GK.BI.alloc o h) (fun _ _ h => GK.BI.size h) (fun _ h => h.elim) (fun gs hgs => ?_)
      simp only [Act.put, List.setIfInBounds_toArray, List.set_cons_zero, List.set_cons_succ]
      refine GK.grow_nil ?_
      intro w2 hw2 hf
      simp only [List.filterMap_cons, List.filterMap_nil, List.getElem?_cons_zero, List.getElem?_cons_succ]
      obtain ⟨gs', e1, -, hblk⟩ := hf _ List.mem_cons_self
      cases e1
      replace hw2 : Below wz.heap.size wz w2 := hw2
      clear hf q0 q1
      have hblk' : Blk w2 gs 30 #[.int .i64 0, .int .i64 0, .slice none 0 0] := hblk
      have hgl := hblk'.lt
      have c0 := hblk'.cell 0
      have c1 := hblk'.cell 1
      have c2 := hblk'.cell 2
      have f0 := hblk'.frozen 0
      have f1 := hblk'.frozen 1
      have f2 := hblk'.frozen 2
      simp only [List.getElem?_toArray, List.getElem?_cons_zero, List.getElem?_cons_succ] at c0 c1 c2
      have hS1 : Hid (SubSt wz (((w2.setCell ⟨gs, 0, none⟩ (.int .i64 a.al)).setCell ⟨gs, 1, none⟩ (.int .i64 ((rankN R a.nx.length : Nat) : Int))).setCell ⟨gs, 2, none⟩ (.slice none 0 0)) gs a.al ((rankN R a.nx.length : Nat) : Int) (.slice none 0 0) []) := hid
        ⟨by simpa using ((hblk'.set_ 0 (.int .i64 a.al)).set_ 1 (.int .i64 ((rankN R a.nx.length : Nat) : Int))).set_ 2 (.slice none 0 0), World.ownsRow_nil _ _ _ _, hgs,
          ((hw2.setCell (by simpa using hgs) _).setCell (by simpa using hgs) _).setCell (by simpa using hgs) _⟩
      obtain ⟨w3, hw3⟩ : ∃ w3, ((w2.setCell ⟨gs, 0, none⟩ (.int .i64 a.al)).setCell ⟨gs, 1, none⟩ (.int .i64 ((rankN R a.nx.length : Nat) : Int))).setCell ⟨gs, 2, none⟩ (.slice none 0 0) = w3 := ⟨_, rfl⟩
      rw [hw3] at hS1
      obtain ⟨p0, p1, p2⟩ := hpar.out _ hS1.out.keep
      replace hblk := hid hblk
      clear hblk'
      clear p1 p2
      have hz13 := hS1.out.keep.size
      go_wp2_with fail
      refine (lettersOf_any a.al w3).mono ?_
      rintro e w4 ⟨lv, rfl, hown4, hb4⟩
      obtain ⟨AL, cL, rfl, hcL, hcL'⟩ := own_slice hown4
      obtain ⟨L, hL⟩ : ∃ L, Hid (L = letters a.al) := ⟨_, hid rfl⟩
      rw [← hL.out] at hown4 hcL ⊢
      have hS4 := hid (SoSt.mk (hS1.out.later hb4) (own_base hown4 hz13))
      have hb14 := hS4.out.sub.keep
      have hT4 := hid (hT.out.later (hB1.trans (hb14.mono hB1.size)))
      clear hown4 p0 hw3 c0 c1 c2 f0 f1 f2
      go_wp2_with fail
      refine (members_any R hR16 w4 hT4.out).mono ?_
      rintro e w5 ⟨mv, rfl, hown5, hb5⟩
      obtain ⟨AM, cM, rfl, hcM, hcM'⟩ := own_slice hown5
      obtain ⟨M, hM⟩ : ∃ M, Hid (M = memL R) := ⟨_, hid rfl⟩
      rw [← hM.out] at hown5 hcM ⊢
      have hS5 : Hid (SoSt2 wz w5 gs a.al ((rankN R a.nx.length : Nat) : Int) (.slice none 0 0) (trimEs R (gotTo a 0)) (.slice AL L.length cL) L (.slice AM M.length cM) M) := hid (SoSt2.mk (hS4.out.later hb5) (own_base hown5 hb14.size))
      have hM16 : M.length ≤ 16 := by rw [hM.out]; exact memL_len R
      have hL6 : L.length ≤ 6 := by rw [hL.out]; exact letters_len6 a.al
      have hMR : Hid (∀ q ∈ M, q < a.nx.length ∧ R.testBit q = true) := hid fun q hq => by
        rw [hM.out, memL_mem] at hq
        have h2 := hq.2
        rw [hR.out] at h2
        exact ⟨((accS_bit hok'.out q).1 h2).1, hq.2⟩
      clear hown5
      go_wp2_with fail
      go_loopw [52] (fun iv wx => ∃ (i : Nat) (v : Value), iv = .int .i64 (i : Nat) ∧ i ≤ M.length ∧ SoSt2 wz wx gs a.al ((rankN R a.nx.length : Nat) : Int) v (trimEs R (gotTo a i)) (.slice AL L.length cL) L (.slice AM M.length cM) M) (fun iv _ => M.length - (intOf iv).toNat)
      case atStart => exact ⟨0, _, rfl, by omega, hS5.out⟩
      case round =>
        obtain ⟨i, v, rfl, hi', hs⟩ := hrel
        by_cases hlt : i < M.length
        · obtain ⟨gm, cm', hve, -, -, -, -, hcell⟩ := own_nats hs.mem (by omega)
          injection hve with e1 e2 e3
          subst e1
          subst e3
          have l0 := hcell i hlt
          obtain ⟨hq1, hq2⟩ := hMR.out _ (List.getElem_mem hlt)
          have hsucc : Hid (gotTo a (i + 1) = gotTo a i ++ rowEs L M[i] a.nx[M[i]]) := hid (by
            have h1 : i < (memL (accS a)).length := by rw [← hR.out, ← hM.out]; exact hlt
            have h2 : (memL (accS a))[i] = M[i] := by simp only [hM.out, hR.out]
            rw [gotTo_succ h1 (by rw [h2]; exact hq1), ← hL.out]
            simp only [h2])
          obtain ⟨e1, hrl, hrin⟩ := row_at hok'.out hq1
          rw [← hL.out] at hrl
          obtain ⟨bR, oR, hRe', hbR, hER⟩ := ha1.out.rows (by omega)
          subst hRe'
          obtain ⟨Ai, ci, r0, h1, h2, h3⟩ := hER M[i] hq1
          rw [← hs.so.sub.keep.cell (by simpa using hbR)] at r0
          obtain ⟨q, hq⟩ : ∃ q, q = M[i] := ⟨_, rfl⟩
          obtain ⟨r, hr⟩ : ∃ r, r = a.nx[M[i]] := ⟨_, rfl⟩
          rw [← hr] at r0 h1 h3 hrl hrin hsucc
          rw [← hq] at l0 hq1 hq2 r0 hsucc
          have hrmem : Hid (r = a.nx[q]) := hid (by simp only [hr, hq])
          have p1 := (hpar.out _ hs.so.sub.keep).2.1
          have k1 : (0 : Int) ≤ (i : Int) ∧ (i : Int) < (M.length : Int) := by omega
          have k2 : (0 : Int) ≤ (q : Int) ∧ (q : Int) < (a.nx.length : Int) := by omega
          have hq16 : q < 16 := by omega
          have hs' := hid hs
          replace hcell := hid hcell
          replace hER := hid hER
          replace h3 := hid h3
          replace hrin := hid hrin
          replace e1 := hid e1
          clear hs
          replace hr := hid hr
          replace hq := hid hq
          go_wp2_with fail
          obtain ⟨wo, rfl⟩ : ∃ wo : World, wo = wr := ⟨_, rfl⟩
          go_loopw [62] (fun jv wx => ∃ (j : Nat) (v : Value), jv = .int .i64 (j : Nat) ∧ j ≤ r.length ∧ SoSt2 wz wx gs a.al ((rankN R a.nx.length : Nat) : Int) v (trimEs R (gotTo a i ++ (rowEs L q r).take j)) (.slice AL L.length cL) L (.slice (some ⟨gm, 0, none⟩) M.length cM) M) (fun jv _ => r.length - (intOf jv).toNat)
          case atStart => exact ⟨0, v, rfl, by omega, by rw [List.take_zero, List.append_nil]; exact hs'.out⟩
          case round =>
            clear l0 r0 p1 hs'
            obtain ⟨j, v, rfl, hj, hs⟩ := hrel
            by_cases hjl : j < r.length
            · obtain ⟨bi, oi, hie, hbi, hEi⟩ := h3.out (by omega)
              subst hie
              have i0c := hEi j hjl
              rw [← hs.so.sub.keep.cell (by simpa using hbi)] at i0c
              obtain ⟨t0, t1⟩ := hrin.out _ (List.getElem_mem hjl)
              have hek : Hid ((rowEs L q r).take (j + 1) = (rowEs L q r).take j ++ [⟨(q : Int), (L[j]'(by omega) : Int), r[j]⟩]) := hid (rowEs_take L q r (by omega) hjl)
              obtain ⟨tz, htz⟩ : ∃ tz, Hid (tz = r[j]) := ⟨_, hid rfl⟩
              obtain ⟨l, hll⟩ : ∃ l, Hid (l = L[j]'(by omega)) := ⟨_, hid rfl⟩
              rw [← htz.out] at i0c t0 t1 hek
              rw [← hll.out] at hek
              obtain ⟨tn, rfl⟩ := Int.eq_ofNat_of_zero_le t0
              have htn : tn < a.nx.length := by omega
              have htn16 : tn < 16 := by omega
              have c0 := hEA.out tn (by have := hn3'.out; omega)
              rw [← hs.so.sub.keep.cell (by simpa using hbA)] at c0
              have htb : Hid (R.testBit tn = a.ac[tn]'(by have := hn3'.out; omega)) := hid (by
                rw [Bool.eq_iff_iff, hR.out, accS_bit hok'.out, List.getD_eq_getElem?_getD, List.getElem?_eq_getElem (by have := hn3'.out; omega)]
                exact ⟨fun h => h.2, fun h => ⟨htn, h⟩⟩)
              obtain ⟨tb, htb'⟩ : ∃ tb, Hid (tb = a.ac[tn]'(by have := hn3'.out; omega)) := ⟨_, hid rfl⟩
              rw [← htb'.out] at c0 htb
              have hkept : Hid (keptE R ⟨(q : Int), (l : Int), (tn : Int)⟩ = tb) := hid (by
                unfold keptE
                dsimp only
                rw [Int.toNat_natCast, Int.toNat_natCast, hq2, htb.out, Bool.true_and])
              have htrim : Hid (trimE R ⟨(q : Int), (l : Int), (tn : Int)⟩ = ⟨((rankN R q : Nat) : Int), (l : Int), ((rankN R tn : Nat) : Int)⟩) := hid rfl
              have k3 : (0 : Int) ≤ (j : Int) ∧ (j : Int) < (r.length : Int) := by omega
              have k4 : (0 : Int) ≤ (tn : Int) ∧ (tn : Int) < (a.ac.length : Int) := by have := hn3'.out; omega
              have k5 : (j : Int) < (L.length : Int) := by omega
              have p2 := (hpar.out _ hs.so.sub.keep).2.2
              replace hEi := hid hEi
              obtain ⟨E, hE⟩ : ∃ E, Hid (E = trimEs R (gotTo a i ++ (rowEs L q r).take j)) := ⟨_, hid rfl⟩
              cases tb
              · have hnx : Hid (trimEs R (gotTo a i ++ (rowEs L q r).take (j + 1)) = trimEs R (gotTo a i ++ (rowEs L q r).take j)) := hid (by rw [hek.out, trim_take_miss hkept.out])
                replace hs := hid hs
                go_wp2_with fail
                go_roundw
                case rel => exact ⟨j + 1, v, by go_num, by omega, by rw [hnx.out]; exact hs.out⟩
                case measure => simp [intOf]; omega
              · have hnx : Hid (trimEs R (gotTo a i ++ (rowEs L q r).take (j + 1)) = E ++ [⟨((rankN R q : Nat) : Int), (l : Int), ((rankN R tn : Nat) : Int)⟩]) := hid (by rw [hek.out, trim_take_hit hkept.out, htrim.out, hE.out])
                rw [← hE.out] at hs
                have hEl : E.length ≤ 10000 := by
                  have h1 := trimEs_len R (gotTo a i ++ (rowEs L q r).take j)
                  rw [← hE.out, List.length_append, List.length_take] at h1
                  have h2 : (gotTo a i).length ≤ i * 6 := by
                    unfold gotTo
                    refine Nat.le_trans (flat_len6 a.al (fun q => a.nx.getD q []) _) (Nat.mul_le_mul_right 6 ?_)
                    rw [List.length_take]
                    omega
                  omega
                obtain ⟨gl, cl, hve, -, -, -, -, hlcell⟩ := own_nats hs.so.list (by omega)
                injection hve with e1' e2' e3'
                subst e1'
                subst e3'
                have l0 := hlcell j (by omega)
                rw [← hll.out] at l0
                have c2 := hs.so.sub.blk.cell 2
                simp only [List.getElem?_toArray, List.getElem?_cons_zero, List.getElem?_cons_succ] at c2
                have q0 := GK.BI.cell c2
                have q1 := GK.BI.cell l0
                replace hs := hid hs
                replace hlcell := hid hlcell
                go_upto_region 19 with fail
                clear c2 l0 i0c c0 p2
                refine GK.wp_region 14 [14, 15, 16] 200 (KeepB fun _ => False) (GK.BI wr) (fun i u _ => u = .int .i64 (((if i = 4 then rankN R q else rankN R tn) : Nat) : Int)) (by kernel_rfl) (by kernel_rfl) (GK.BI.way wr) (by decide) (Below.refl _ _).drew ?_
                simp only [List.take_succ_cons, List.take_zero]
                (repeat (refine GK.grow_quiet wr (by rfl) (by rfl) ?_; intro K hK; go_big_quiet_op; go_big_quiet_on))
                refine GK.grow_val (.int .i64 ((rankN R q : Nat) : Int)) (by rfl) rfl (fun m wq hm2 hbq _ => ?_) ?_
                · go_simp
                  exact ⟨rfl, (implRank_any R q wq hR16 (by omega)).mono fun e w' ⟨h1, h2⟩ => ⟨h1, GK.BI.after hbq (by rw [← h2]; exact Below.refl _ _)⟩⟩
                simp only [Act.put, List.setIfInBounds_toArray, List.set_cons_zero, List.set_cons_succ]
                (repeat (refine GK.grow_quiet wr (by rfl) (by rfl) ?_; intro K hK; go_big_quiet_op; go_big_quiet_on))
                refine GK.grow_val (.int .i64 ((rankN R tn : Nat) : Int)) (by rfl) rfl (fun m wq hm2 hbq _ => ?_) ?_
                · go_simp
                  exact ⟨rfl, (implRank_any R tn wq hR16 (by omega)).mono fun e w' ⟨h1, h2⟩ => ⟨h1, GK.BI.after hbq (by rw [← h2]; exact Below.refl _ _)⟩⟩
                simp only [Act.put, List.setIfInBounds_toArray, List.set_cons_zero, List.set_cons_succ]
                (repeat (refine GK.grow_quiet wr (by rfl) (by rfl) ?_; intro K hK; go_big_quiet_op; go_big_quiet_on))
                refine GK.grow_new (K := fun _ => False) (by rfl) _ (fun b => .slice (some ⟨b, 0, none⟩) 1 1) 66 #[.int .i64 ((rankN R q : Nat) : Int), .int .i64 (l : Nat), .int .i64 ((rankN R tn : Nat) : Int)] (fun _ => by go_simp) rfl (fun _ _ o h => GK.BI.alloc o h) (fun _ _ h => GK.BI.size h) (fun _ h => h.elim) (fun bb hbb2 => ?_)
                simp only [Act.put, List.setIfInBounds_toArray, List.set_cons_zero, List.set_cons_succ]
                refine GK.grow_nil ?_
                intro w6 hw6 hf
                obtain ⟨g', hge, hge2, hblk6⟩ := hf _ List.mem_cons_self
                cases hge
                clear hf
                simp only [List.filterMap_cons, List.filterMap_nil, List.getElem?_cons_zero, List.getElem?_cons_succ]
                replace hw6 : Below wr.heap.size wr w6 := hw6
                have hS6 := hid (hs.out.later hw6)
                have hown6 := hS6.out.so.sub.own
                have hbl6 := hS6.out.so.sub.blk.lt
                have ag : v.ownBlock ≠ some gs := fun e => own_ne hS6.out.so.sub.own hS6.out.so.sub.blk (by decide) gs e rfl
                have c2 := hS6.out.so.sub.blk.cell 2
                have f2 := hS6.out.so.sub.blk.frozen 2
                simp only [List.getElem?_toArray, List.getElem?_cons_zero, List.getElem?_cons_succ] at c2
                clear q0 q1
                refine wpList_append_lies _ (by rfl) _ _ 28 (by rfl) wz.heap.size 66 i0 (.agg #[.int .i64 0, .int .i64 0, .int .i64 0]) 3 24 Tryd.underlying28 hi0 hz0' hz1' hz2' rfl (by decide) v E.length (edCells E) (by rfl) hown6 ⟨bb, 0, none⟩ 1 1 [.int .i64 ((rankN R q : Nat) : Int), .int .i64 (l : Nat), .int .i64 ((rankN R tn : Nat) : Int)] (by rfl) (by rfl) (World.news_of_block hblk6) ?c1 (by omega) ?c3 ?c4 ?c5 w6.heap.size rfl ?_
                case c1 => simp [Value.oneCell']
                case c3 => unfold maxLen; omega
                case c4 => omega
                case c5 => have := hS6.out.so.sub.keep.size; omega
                intro gg cap w7 hown7 hgrow hat hlt7
                have c2' : w7.cell? ⟨gs, 2, none⟩ = some v := by rw [hgrow.cell_far _ (by simpa using hbl6) (Ne.symm ag)]; exact c2
                have f2' : w7.frozen? ⟨gs, 2, none⟩ = false := by rw [hgrow.frozen_far _ (by simpa using hbl6) (Ne.symm ag)]; exact f2
                have hfin := hid (hS6.out.add (x := ⟨((rankN R q : Nat) : Int), (l : Int), ((rankN R tn : Nat) : Int)⟩) hown7 hgrow)
                have hz7 := hgrow.size
                clear hown6 hown7 hgrow c2 f2
                go_wp2_with fail
                go_roundw
                case rel => exact ⟨j + 1, _, by go_num, by omega, by rw [hnx.out]; exact hfin.out⟩
                case measure => simp [intOf]; omega
            · obtain rfl : j = r.length := by omega
              have hfin : Hid (trimEs R (gotTo a i ++ (rowEs L q r).take r.length) = trimEs R (gotTo a (i + 1))) := hid (by
                rw [hsucc.out, List.take_of_length_le (by rw [rowEs_len]; omega)])
              replace hs := hid hs
              go_wp2_with fail
              go_roundw
              case rel => exact ⟨i + 1, v, by go_num, by omega, by rw [← hfin.out]; exact hs.out⟩
              case measure => simp [intOf]; omega
        · obtain rfl : i = M.length := by omega
          have hall : Hid (trimEs R (gotTo a M.length) = (soS a).es) := hid (by
            have h1 : M.length = (memL (accS a)).length := by rw [hM.out, hR.out]
            rw [h1, hR.out, gotTo_all hok'.out, soS_eq hso.out]
            rfl)
          rw [hall.out] at hs
          obtain ⟨Av, cv, hve, hv1, hv2⟩ := own_slice hs.so.sub.own
          subst hve
          have hbr := hs.so.sub.keep
          have c0 := hs.so.sub.blk.cell 0
          have c1 := hs.so.sub.blk.cell 1
          have c2 := hs.so.sub.blk.cell 2
          have hrb3 := hrb.out.below hbr hlt1
          have d0 := hrb3.cell 0
          have d1 := hrb3.cell 1
          have d2 := hrb3.cell 2
          have f0 := hrb3.frozen 0
          have f1 := hrb3.frozen 1
          have f2 := hrb3.frozen 2
          simp only [List.getElem?_toArray, List.getElem?_cons_zero, List.getElem?_cons_succ] at c0 c1 c2 d0 d1 d2
          have hlt3 := hrb3.lt
          have hzw1 := hB1.size
          have hox : OwnEds wr wz.heap.size (.slice Av (soS a).es.length cv) (soS a).es := hs.so.sub.own
          have hal2 : (soS a).al = a.al := soS_al hso.out
          have hst2 : (soS a).st = ((rankN R a.nx.length : Nat) : Int) := by rw [soS_eq hso.out, hR.out]; rfl
          obtain ⟨x, hx⟩ : ∃ x, x = soS a := ⟨_, rfl⟩
          rw [← hx] at hox hal2 hst2 c2 ⊢
          rw [← hal2] at c0
          rw [← hst2] at c1
          have hfin : Hid (SoOwn w (soS a) (soOk a) (.returned (.tuple #[.agg #[.int .i64 x.al, .int .i64 x.st, .slice Av x.es.length cv], .bool true])) (((wr.setCell ⟨w.heap.size + 1, 0, none⟩ (.int .i64 x.al)).setCell ⟨w.heap.size + 1, 1, none⟩ (.int .i64 x.st)).setCell ⟨w.heap.size + 1, 2, none⟩ (.slice Av x.es.length cv))) := hid (by
            rw [hso.out, ← hx]
            refine ⟨Av, cv, rfl, ?_, ?_⟩
            · have hne : ∀ g, (Value.slice Av x.es.length cv).ownBlock = some g → g ≠ w.heap.size + 1 := fun g hg => by
                have := (hox.lt g hg).1
                omega
              have hk : KeepB (fun b => b = w.heap.size + 1) wr (((wr.setCell ⟨w.heap.size + 1, 0, none⟩ (.int .i64 x.al)).setCell ⟨w.heap.size + 1, 1, none⟩ (.int .i64 x.st)).setCell ⟨w.heap.size + 1, 2, none⟩ (.slice Av x.es.length cv)) := (((KeepB.refl _ wr).setCell _ _ (by simp)).setCell _ _ (by simp)).setCell _ _ (by simp)
              exact own_base (own_keep hox hk hne) (by omega)
            · exact (((hB1.trans (hbr.mono hB1.size)).setCell (by simp) _).setCell (by simp) _).setCell (by simp) _)
          replace hs := hid hs
          replace hx := hid hx
          clear hrb3 hox hal2 hst2
          go_wp2
          refine bodyPost_ret (v := .tuple #[.agg #[.int .i64 x.al, .int .i64 x.st, .slice Av x.es.length cv], .bool true]) (by simp [results, Tryd.results16, go_sem, d0, d1, d2]) rfl ?_
          exact hfin.out

end Go.Proofs.YtkoganldcmhopaaDoor

/- The drawing kit: l3Safe, l3Over. -/
namespace Go.Proofs.YtkoganldcmhopaaDoor
open Go.RowKit Go.BigFrame AG

theorem AuSt.of {K : Nat → Prop} {w0 w1 : World} {v1 v2 : Value} {a : Au} {xs : List RowV} (ho : AuOwn w1 w0.heap.size v1 v2 a xs) (hk : KeepB K w0 w1) :
    AuSt K w0 (w1.alloc (.cells #[.int .i64 a.al, v1, v2] 26)) w1.heap.size v1 v2 a xs :=
  ⟨hk.alloc _, hk.size, ho.later ((Below.refl _ _).alloc (Nat.le_refl _) _), Blk.new _ _ _⟩
theorem AuUp.imp {Q Q' : Au → Prop} {R P P' : Nat} {w : World} {e : Ending} {w' : World} (h : AuUp Q R P w e w') (hq : ∀ a, Q a → Q' a) (hP : P ≤ P') : AuUp Q' R P' w e w' := by
  obtain ⟨a, v1, v2, xs, h1, h2, h3, h4, h5⟩ := h
  exact ⟨a, v1, v2, xs, h1, hq a h2, h3, h4.more hP, h5⟩

theorem own_frozen {w : World} {base : Nat} {e : TypeId} {size : Nat} {v : Value} {n : Nat} {xs : List Value} {g : Nat} (h : w.ownsRow base e size v n xs) (hg : v.ownBlock = some g) (i : Nat) : w.frozen? ⟨g, i, none⟩ = false := by
  rcases h.2 with ⟨rfl, _⟩ | ⟨g', cap, cur, rfl, _, hgg, _⟩
  · cases hg
  · cases hg
    exact Blk.frozen (show Blk w g' e cur from hgg) i
set_option maxRecDepth 100000 in
set_option maxHeartbeats 8000000 in
theorem l3Safe_up (R P n : Nat) (al : Int) (w : World) (hP : P + 200000000 ≤ 1125899906842624) (hn1 : 1 ≤ n) (hn : n ≤ 16) (hr : RdUp w R P) :
    Calls Tryd.prog 191 #[.pointer (some ⟨R, 0, none⟩), .int .i64 al, .int .i64 (n : Nat)] w (AuUp (RaQ al n) R (P + 20000000) w) := by
  have hR := hr.lt
  obtain ⟨wA, hwA, hzA, hBA, -⟩ := boxed w #[.int .i64 0, .slice none 0 0, .slice none 0 0] 26
  have hzAe : wA.heap.size = w.heap.size + 1 := by rw [← hwA]; simp
  have hres : Blk wA w.heap.size 26 #[.int .i64 0, .slice none 0 0, .slice none 0 0] := by rw [← hwA]; exact Blk.new _ _ _
  have hK : ∀ b, b = R → b < wA.heap.size := fun b e => by omega
  have hrA := hid (hr.later hBA)
  replace hr := hid hr
  replace hres := hid hres
  have hzAe' := hid hzAe
  clear hzAe
  go_enter Tryd.func191, Tryd.ntmps191
  go_wp2_with fail
  refine (l3Random_up R P al (n : Nat) wA (by omega) (by omega) hrA.out).mono ?_
  rintro e w1 ⟨a, v1, v2, xs, rfl, hq, ho, hr1, hk1⟩
  rw [Int.toNat_natCast] at hq
  clear hwA
  have hst := AuSt.of ho hk1
  have hr2 := hr1.later ((Below.refl _ w1).alloc (Nat.le_refl _) (.cells #[.int .i64 a.al, v1, v2] 26))
  obtain ⟨q1, q2, q3, q4⟩ := hq
  have hal := hid q1
  have hnx := hid q2
  have hac := hid q3
  have hrw := hid q4
  clear q1 q2 q3 q4 ho hr1
  obtain ⟨A1, c1, e1, -, -⟩ := own_slice hst.own.rows.own
  obtain ⟨g2, c2, e2, -, -, -, -, -⟩ := own_shape hst.own.acc (by have := hac.out; omega)
  subst e1 e2
  have hxl := hst.len
  rw [hxl, hnx.out] at hst hr2 ⊢
  rw [hac.out] at hst hr2 ⊢
  have hz1 := hk1.size
  replace hst := hid hst
  replace hr2 := hid hr2
  replace hxl := hid hxl
  replace hk1 := hid hk1
  obtain ⟨gs, hgs⟩ : ∃ gs, Hid (gs = w1.heap.size) := ⟨_, hid rfl⟩
  go_upto_region 2 with fail
  rw [← hgs.out] at hst ⊢
  obtain ⟨w2, hw2⟩ : ∃ w2, w1.alloc (.cells #[.int .i64 a.al, .slice A1 n c1, .slice (some ⟨g2, 0, none⟩) n c2] 26) = w2 := ⟨_, rfl⟩
  rw [hw2] at hst hr2 ⊢
  clear hw2
  go_wp2_with fail
  go_loopw [8] (fun iv wr => ∃ (i : Nat) (ac : List Bool), iv = .int .i64 (i : Nat) ∧ i ≤ n ∧ ac.length = n ∧ AuSt (fun b => b = R) wA wr gs (.slice A1 n c1) (.slice (some ⟨g2, 0, none⟩) n c2) ⟨a.al, a.nx, ac⟩ xs ∧ RdUp wr R (P + 20000000)) (fun iv _ => n - (intOf iv).toNat)
  case atStart => exact ⟨0, a.ac, rfl, by omega, hac.out, hst.out, hr2.out⟩
  case round =>
    obtain ⟨i, ac, rfl, hi, hacl, hs, hrd⟩ := hrel
    have k1 := hs.blk.cell 1
    have k2 := hs.blk.cell 2
    simp only [List.getElem?_toArray, List.getElem?_cons_zero, List.getElem?_cons_succ] at k1 k2
    by_cases hlt : i < n
    · have hgsl := hs.blk.lt
      obtain ⟨g, cap, hve, hg1, hg2, hcap1, hcap2, hcell⟩ := own_shape hs.own.acc (by show 0 < ac.length; omega)
      have hve' : g = g2 := by injection hve with hve; injection hve with hve; injection hve with hve; exact hve.symm
      subst hve'
      obtain ⟨t0, c0⟩ : ∃ t0, wr.cell? ⟨g, i, none⟩ = some (.bool t0) := ⟨_, hcell i _ (show (boolVals ac)[i]? = some (.bool (ac[i]'(by omega))) from by unfold boolVals; simp [hacl, hlt])⟩
      have fz : wr.frozen? ⟨g, i, none⟩ = false := own_frozen hs.own.acc rfl i
      have hacl' := hid hacl
      have hset := hid (fun t => AuSt.setAc (g := g) (c := c2) (i := i) (t := t) (a := ⟨a.al, a.nx, ac⟩) (by rw [show (⟨a.al, a.nx, ac⟩ : Au).ac.length = n from hacl'.out]; exact hs))
      have kx : (0 : Int) ≤ (i : Int) ∧ (i : Int) < (n : Int) := by omega
      have hrd' := hid hrd
      replace hs := hid hs
      replace hcell := hid hcell
      clear hacl hrd hve
      go_wp2_with fail
      go_roundw
      case rel =>
        have h1 := hset.out (decide ((i : Int) < (n : Int) - 1))
        rw [show (⟨a.al, a.nx, ac⟩ : Au).ac.length = n from hacl'.out] at h1
        exact ⟨i + 1, _, by go_num, by omega, by rw [List.length_set]; exact hacl'.out, h1, hrd'.out.keep ((KeepB.refl (fun b => wA.heap.size ≤ b) wr).setCell _ _ fun _ => hg1) fun k hk => by have := hzAe'.out; omega⟩
      case measure => simp [intOf]; omega
    · obtain ⟨n1, hn1'⟩ : ∃ n1, n = n1 + 1 := ⟨n - 1, by omega⟩
      have hxln : xs.length = n := by rw [hxl.out, hnx.out]
      obtain ⟨x, hx⟩ : ∃ x, x = xs[n1]'(by omega) := ⟨_, rfl⟩
      have hsplit : xs = xs.take n1 ++ x :: xs.drop (n1 + 1) := by
        rw [hx, ← List.drop_eq_getElem_cons (by omega), List.take_append_drop]
      obtain ⟨l1, hl1⟩ : ∃ l1, l1 = xs.take n1 := ⟨_, rfl⟩
      obtain ⟨l2, hl2⟩ : ∃ l2, l2 = xs.drop (n1 + 1) := ⟨_, rfl⟩
      have hl1n : l1.length = n1 := by rw [hl1, List.length_take]; omega
      rw [← hl1, ← hl2] at hsplit
      have hrx : x.r.length ≤ 6 := by
        refine hrw.out x.r ?_
        have := hst.out.own.eq
        rw [← this]
        exact List.mem_map_of_mem (by rw [hx]; exact List.getElem_mem _)
      obtain ⟨r, Ax, cx⟩ := x
      have hlen2 : Hid ((l1 ++ ⟨r, Ax, cx⟩ :: l2).length = n) := hid (by rw [← hsplit]; exact hxln)
      have hs' : AuSt (fun b => b = R) wA wr gs (.slice A1 n c1) (.slice (some ⟨g2, 0, none⟩) n c2) ⟨a.al, (l1 ++ ⟨r, Ax, cx⟩ :: l2).map (·.r), ac⟩ (l1 ++ ⟨r, Ax, cx⟩ :: l2) := by
        have := hs.own.eq
        rw [hsplit] at hs this
        rw [this]
        exact hs
      have hrx' : r.length ≤ 6 := hrx
      have hrows : Hid (∀ y, y ∈ l1 ++ l2 → y.r.length ≤ 6) := hid fun y hy => by
        refine hrw.out y.r ?_
        have := hst.out.own.eq
        rw [← this, hsplit]
        refine List.mem_map_of_mem ?_
        rcases List.mem_append.1 hy with hy | hy
        · exact List.mem_append_left _ hy
        · exact List.mem_append_right _ (List.mem_cons_of_mem _ hy)
      have hacl' := hid hacl
      have hnn : (n : Int) - 1 = (n1 : Int) := by omega
      have hn1l : (0 : Int) ≤ (n1 : Int) ∧ (n1 : Int) < (n : Int) := by omega
      have hrd' := hid hrd
      replace hs' := hid hs'
      replace hl1n := hid hl1n
      replace hxln := hid hxln
      clear hs hx hl1 hl2 hsplit hacl hrd hrx
      replace hn1' := hid hn1'
      go_wp2_with fail
      go_loopw [9] (fun kv wr => ∃ (k : Nat) (r' : List Int), kv = .int .i64 (k : Nat) ∧ k ≤ r.length ∧ r'.length = r.length ∧ AuSt (fun b => b = R) wA wr gs (.slice A1 n c1) (.slice (some ⟨g2, 0, none⟩) n c2) ⟨a.al, (l1 ++ ⟨r', Ax, cx⟩ :: l2).map (·.r), ac⟩ (l1 ++ ⟨r', Ax, cx⟩ :: l2) ∧ RdUp wr R (P + 20000000)) (fun kv _ => r.length - (intOf kv).toNat)
      case atStart => exact ⟨0, r, rfl, by omega, rfl, hs'.out, hrd'.out⟩
      case round =>
        clear k1 k2 hs' hrd'
        obtain ⟨k, r', rfl, hk, hrl, hs, hrd⟩ := hrel
        have k0 := hs.blk.cell 0
        have k1 := hs.blk.cell 1
        have k2 := hs.blk.cell 2
        simp only [List.getElem?_toArray, List.getElem?_cons_zero, List.getElem?_cons_succ] at k0 k1 k2
        obtain ⟨gT, capT, hve, -, -, -, -, hcell⟩ := own_shape hs.own.rows.own (by have := hlen2.out; simp at this ⊢; omega)
        have e1 : A1 = some ⟨gT, 0, none⟩ := by injection hve
        subst e1
        have t0 := hcell n1 _ (show (rowVals (l1 ++ ⟨r', Ax, cx⟩ :: l2))[n1]? = some (.slice Ax r'.length cx) from by
          unfold rowVals
          rw [List.map_append, List.getElem?_append_right (by rw [List.length_map, hl1n.out]; exact Nat.le_refl _), List.length_map, hl1n.out, Nat.sub_self]
          rfl)
        rw [hrl] at t0
        by_cases hlt2 : k < r.length
        · have hxo := hs.own.rows.rows ⟨r', Ax, cx⟩ (by simp)
          obtain ⟨gr, capr, hver, hgr1, hgr2, -, -, hcellr⟩ := own_shape hxo (by show 0 < r'.length; omega)
          have e2 : Ax = some ⟨gr, 0, none⟩ := by injection hver
          subst e2
          obtain ⟨y0, c0⟩ : ∃ y0, wr.cell? ⟨gr, k, none⟩ = some (.int .i64 y0) := ⟨_, hcellr k _ (show (intVals r')[k]? = some (.int .i64 (r'[k]'(by omega))) from by unfold intVals; simp [hrl, hlt2])⟩
          have fz : wr.frozen? ⟨gr, k, none⟩ = false := own_frozen hxo rfl k
          have hset := hid (fun t => hs.setRow (j := k) t)
          have hrl' := hid hrl
          have kx : (0 : Int) ≤ (k : Int) ∧ (k : Int) < (r.length : Int) := by omega
          replace hs := hid hs
          replace hcell := hid hcell
          replace hcellr := hid hcellr
          replace hxo := hid hxo
          have hrd2 := hid hrd
          clear hrl hver hve hrd
          go_wp2_with fail
          go_roundw
          case rel => exact ⟨k + 1, r'.set k (n1 : Int), by go_num, by omega, by rw [List.length_set]; exact hrl'.out, hset.out (n1 : Int), hrd2.out.keep ((KeepB.refl (fun b => wA.heap.size ≤ b) wr).setCell _ _ fun _ => hgr1) fun k hk => by have := hzAe'.out; omega⟩
          case measure => simp [intOf]; omega
        · have hbl := hres.out.keep hs.keep (by omega)
          have d0 := hbl.cell 0
          have d1 := hbl.cell 1
          have d2 := hbl.cell 2
          have f0 := hbl.frozen 0
          have f1 := hbl.frozen 1
          have f2 := hbl.frozen 2
          simp only [List.getElem?_toArray, List.getElem?_cons_zero, List.getElem?_cons_succ] at d0 d1 d2
          have hltb := hbl.lt
          have hown := hs.own
          rw [hzAe'.out] at hown
          have hfin := hid (AuUp.ret (Q := RaQ al n) (P' := P + 20000000) (a := ⟨a.al, (l1 ++ ⟨r', Ax, cx⟩ :: l2).map (·.r), ac⟩) ⟨hal.out, by have := hlen2.out; simp at this ⊢; omega, hacl'.out, fun y hy => by
            obtain ⟨z, hz, rfl⟩ := List.mem_map.1 hy
            rcases List.mem_append.1 hz with hz | hz
            · exact hrows.out z (List.mem_append_left _ hz)
            · rcases List.mem_cons.1 hz with rfl | hz
              · show r'.length ≤ 6; omega
              · exact hrows.out z (List.mem_append_right _ hz)⟩ hown hrd (Nat.le_refl _) ((KeepB.of_below hBA).trans hs.keep) hR (.int .i64 a.al) (.slice (some ⟨gT, 0, none⟩) n c1) (.slice (some ⟨g2, 0, none⟩) n c2))
          replace hs := hid hs
          replace hcell := hid hcell
          have hrl' := hid hrl
          clear hbl hown hve hrl
          go_wp2
          refine bodyPost_ret (v := .agg #[.int .i64 a.al, .slice (some ⟨gT, 0, none⟩) n c1, .slice (some ⟨g2, 0, none⟩) n c2]) (by simp [results, Tryd.results191, go_sem, d0, d1, d2]) rfl ?_
          exact hfin.out

def OvQ (al : Int) (a : Au) : Prop := a.al = al ∧ 1 ≤ a.nx.length ∧ a.nx.length ≤ 12 ∧ a.ac.length = a.nx.length ∧ ∀ r ∈ a.nx, r.length ≤ 6
set_option maxRecDepth 100000 in
set_option maxHeartbeats 4000000 in
theorem l3Over_up (R P : Nat) (al : Int) (w : World) (hP : P + 300000000 ≤ 1125899906842624) (hr : RdUp w R P) :
    Calls Tryd.prog 167 #[.pointer (some ⟨R, 0, none⟩), .int .i64 al] w (AuUp (OvQ al) R (P + 30000000) w) := by
  have hR := hr.lt
  obtain ⟨wA, hwA, hzA, hBA, -⟩ := boxed w #[.int .i64 0, .slice none 0 0, .slice none 0 0] 26
  have hzAe : wA.heap.size = w.heap.size + 1 := by rw [← hwA]; simp
  have hres : Blk wA w.heap.size 26 #[.int .i64 0, .slice none 0 0, .slice none 0 0] := by rw [← hwA]; exact Blk.new _ _ _
  have hrA := hid (hr.later hBA)
  replace hr := hid hr
  replace hres := hid hres
  have hzAe' := hid hzAe
  clear hzAe
  go_enter Tryd.func167, Tryd.ntmps167
  go_wp2_with fail
  refine (pick_up R P 2 wA (by omega) (by omega) hrA.out).mono ?_
  rintro e wp ⟨j, rfl, hj0, hj1, hrp, hkp⟩
  clear hwA hj1
  replace hrp := hid hrp
  replace hkp := hid hkp
  by_cases hj : j = 0
  · subst hj
    go_wp2_with fail
    refine (num_lit R (P + 1) [3, 2, 4, 1] wp _ (by decide) (by decide) (by omega) hrp.out).mono ?_
    rintro e w1 ⟨x, hx, rfl, hr1, hk1⟩
    obtain ⟨n, rfl, hn1, hn⟩ : ∃ n : Nat, x = (n : Int) ∧ 1 ≤ n ∧ n ≤ 12 := by
      simp at hx
      exact ⟨x.toNat, by omega, by omega, by omega⟩
    replace hr1 := hid hr1
    replace hk1 := hid hk1
    clear hx
    go_wp2_with fail
    refine (l3Safe_up R (P + 1 + 1) n al w1 (by omega) hn1 (by omega) hr1.out).mono ?_
    rintro e w2 ⟨a, v1, v2, xs, rfl, hq, ho, hr2, hk2⟩
    obtain ⟨A1, c1, e1, -, -⟩ := own_slice ho.rows.own
    obtain ⟨A2, c2, e2, -, -⟩ := own_slice ho.acc
    subst e1 e2
    have hkk := (hkp.out.trans hk1.out).trans hk2
    have hbl := hres.out.keep hkk (by omega)
    have d0 := hbl.cell 0
    have d1 := hbl.cell 1
    have d2 := hbl.cell 2
    have f0 := hbl.frozen 0
    have f1 := hbl.frozen 1
    have f2 := hbl.frozen 2
    simp only [List.getElem?_toArray, List.getElem?_cons_zero, List.getElem?_cons_succ] at d0 d1 d2
    have hltb := hbl.lt
    obtain ⟨q1, q2, q3, q4⟩ := hq
    have hz1 : wA.heap.size ≤ w1.heap.size := (hkp.out.trans hk1.out).size
    have hfin := hid (AuUp.ret (w := w) (Q := OvQ al) (P' := P + 30000000) (a := a) ⟨q1, by omega, by omega, by omega, q4⟩ (ho.base (show w.heap.size + 1 ≤ w1.heap.size by have := hzAe'.out; omega)) hr2 (by omega) ((KeepB.of_below hBA).trans hkk) hR (.int .i64 a.al) (.slice A1 xs.length c1) (.slice A2 a.ac.length c2))
    clear hbl ho hr2 hk2 hkk q1 q2 q3 q4
    go_wp2
    refine bodyPost_ret (v := .agg #[.int .i64 a.al, .slice A1 xs.length c1, .slice A2 a.ac.length c2]) (by simp [results, Tryd.results167, go_sem, d0, d1, d2]) rfl ?_
    exact hfin.out
  · have hjb : ((j : Int) == 0) = false := by simp; omega
    replace hj := hid hj
    go_wp2_with fail
    refine (num_lit R (P + 1) [2, 3, 1, 4, 5] wp _ (by decide) (by decide) (by omega) hrp.out).mono ?_
    rintro e w1 ⟨x, hx, rfl, hr1, hk1⟩
    obtain ⟨n, rfl, hn1, hn⟩ : ∃ n : Nat, x = (n : Int) ∧ 1 ≤ n ∧ n ≤ 12 := by
      simp at hx
      exact ⟨x.toNat, by omega, by omega, by omega⟩
    replace hr1 := hid hr1
    replace hk1 := hid hk1
    clear hx
    go_wp2_with fail
    refine (l3Random_up R (P + 1 + 1) al (n : Nat) w1 (by omega) (by omega) hr1.out).mono ?_
    rintro e w2 ⟨a, v1, v2, xs, rfl, hq, ho, hr2, hk2⟩
    rw [Int.toNat_natCast] at hq
    obtain ⟨A1, c1, e1, -, -⟩ := own_slice ho.rows.own
    obtain ⟨A2, c2, e2, -, -⟩ := own_slice ho.acc
    subst e1 e2
    have hkk := (hkp.out.trans hk1.out).trans hk2
    have hbl := hres.out.keep hkk (by omega)
    have d0 := hbl.cell 0
    have d1 := hbl.cell 1
    have d2 := hbl.cell 2
    have f0 := hbl.frozen 0
    have f1 := hbl.frozen 1
    have f2 := hbl.frozen 2
    simp only [List.getElem?_toArray, List.getElem?_cons_zero, List.getElem?_cons_succ] at d0 d1 d2
    have hltb := hbl.lt
    obtain ⟨q1, q2, q3, q4⟩ := hq
    have hz1 : wA.heap.size ≤ w1.heap.size := (hkp.out.trans hk1.out).size
    have hfin := hid (AuUp.ret (w := w) (Q := OvQ al) (P' := P + 30000000) (a := a) ⟨q1, by omega, by omega, by omega, q4⟩ (ho.base (show w.heap.size + 1 ≤ w1.heap.size by have := hzAe'.out; omega)) hr2 (by omega) ((KeepB.of_below hBA).trans hkk) hR (.int .i64 a.al) (.slice A1 xs.length c1) (.slice A2 a.ac.length c2))
    clear hbl ho hr2 hk2 hkk q1 q2 q3 q4
    go_wp2
    refine bodyPost_ret (v := .agg #[.int .i64 a.al, .slice A1 xs.length c1, .slice A2 a.ac.length c2]) (by simp [results, Tryd.results167, go_sem, d0, d1, d2]) rfl ?_
    exact hfin.out

end Go.Proofs.YtkoganldcmhopaaDoor

/- The drawing kit: l4Change. -/
namespace Go.Proofs.YtkoganldcmhopaaDoor
open Go.RowKit Go.BigFrame AG

theorem AuUp2.ret {Q : Au → Prop} {w wA w1 : World} {R P P' : Nat} {a : Au} {v1 v2 : Value} {xs : List RowV} (hq : Q a) (ho : AuOwn w1 wA.heap.size v1 v2 a xs) (hz : wA.heap.size = w.heap.size + 2) (hr : RdUp w1 R P) (hP : P ≤ P') (hk : KeepB (fun b => b = R) w w1) (hR : R < w.heap.size) (u1 u2 u3 : Value) :
    AuUp Q R P' w (.returned (.agg #[.int .i64 a.al, v1, v2])) (((w1.setCell ⟨w.heap.size + 1, 0, none⟩ u1).setCell ⟨w.heap.size + 1, 1, none⟩ u2).setCell ⟨w.heap.size + 1, 2, none⟩ u3) := by
  have hk2 : KeepB (fun b => b = w.heap.size + 1) w1 (((w1.setCell ⟨w.heap.size + 1, 0, none⟩ u1).setCell ⟨w.heap.size + 1, 1, none⟩ u2).setCell ⟨w.heap.size + 1, 2, none⟩ u3) := (((KeepB.refl _ w1).setCell _ _ (by simp)).setCell _ _ (by simp)).setCell _ _ (by simp)
  exact ⟨a, v1, v2, xs, rfl, hq, (ho.keepNew hk2 (fun b e => by omega)).base (by omega), (hr.more hP).keep hk2 (by omega), ((hk.setCell _ _ (fun h => by simp at h; omega)).setCell _ _ (fun h => by simp at h; omega)).setCell _ _ (fun h => by simp at h; omega)⟩
/-- A table's row and what is left and right of it. -/
theorem row_split {xs : List RowV} {k : Nat} (h : k < xs.length) : ∃ (l1 l2 : List RowV) (r : List Int) (Ax : Option Addr) (cx : Nat), xs = l1 ++ ⟨r, Ax, cx⟩ :: l2 ∧ l1.length = k := by
  refine ⟨xs.take k, xs.drop (k + 1), xs[k].r, xs[k].A, xs[k].c, ?_, by rw [List.length_take]; omega⟩
  have : xs = xs.take k ++ xs[k] :: xs.drop (k + 1) := by rw [← List.drop_eq_getElem_cons h, List.take_append_drop]
  exact this
theorem szSame {a : Au} {N n m : Nat} (hn : Hid (n = a.nx.length)) (hm : Hid (m = a.ac.length)) (s1 : n ≤ N) (s2 : m ≤ N) (s3 : ∀ r ∈ a.nx, r.length ≤ N) : AuSz (N + 1) a :=
  ⟨by have := hn.out; omega, by have := hm.out; omega, fun r hr => by have := s3 r hr; omega⟩
theorem szSet {a : Au} {N n m k : Nat} {t : Bool} (hn : Hid (n = a.nx.length)) (hm : Hid (m = a.ac.length)) (s1 : n ≤ N) (s2 : m ≤ N) (s3 : ∀ r ∈ a.nx, r.length ≤ N) : AuSz (N + 1) ⟨a.al, a.nx, a.ac.set k t⟩ :=
  ⟨by have := hn.out; show a.nx.length ≤ _; omega, by have := hm.out; show (a.ac.set k t).length ≤ _; rw [List.length_set]; omega, fun r hr => by have := s3 r hr; omega⟩
theorem szRow {a : Au} {N M : Nat} {l1 l2 : List RowV} {x x' : RowV} (h : Hid ((l1 ++ x :: l2).map (·.r) = a.nx)) (s1 : M ≤ N) (s2 : a.ac.length ≤ N + 1 ∨ True) (s3 : ∀ r ∈ a.nx, r.length ≤ N) (h1 : a.nx.length ≤ N + 1) (h2 : a.ac.length ≤ N + 1) (hl : x'.r.length = x.r.length) : AuSz (N + 1) ⟨a.al, (l1 ++ x' :: l2).map (·.r), a.ac⟩ := by
  have e := h.out
  refine ⟨?_, h2, fun r hr => ?_⟩
  · have : a.nx.length = l1.length + (l2.length + 1) := by rw [← e]; simp
    show ((l1 ++ x' :: l2).map (·.r)).length ≤ N + 1
    simp
    omega
  · obtain ⟨y, hy, rfl⟩ := List.mem_map.1 hr
    have key : ∀ z ∈ l1 ++ x :: l2, z.r.length ≤ N := fun z hz => s3 _ (by rw [← e]; exact List.mem_map_of_mem hz)
    rcases List.mem_append.1 hy with hy | hy
    · have := key y (List.mem_append_left _ hy); omega
    · rcases List.mem_cons.1 hy with rfl | hy
      · have := key x (by simp); omega
      · have := key y (List.mem_append_right _ (List.mem_cons_of_mem _ hy)); omega
theorem row_at_ {l1 l2 : List RowV} {x : RowV} {k : Nat} (h : l1.length = k) : (rowVals (l1 ++ x :: l2))[k]? = some x.v := by
  unfold rowVals
  rw [List.map_append, List.getElem?_append_right (by rw [List.length_map, h]; exact Nat.le_refl _), List.length_map, h, Nat.sub_self]
  rfl

set_option maxRecDepth 100000 in
set_option maxHeartbeats 16000000 in
theorem l4Change_up (R P N : Nat) (a : Au) (A B : Option Addr) (c d : Nat) (w : World) (hP : P + 400000000 ≤ 1125899906842624) (hN : N ≤ 100000) (hsz : AuSz N a) (hr : RdUp w R P) (ha : AuAt w A c B d a) :
    Calls Tryd.prog 110 #[.pointer (some ⟨R, 0, none⟩), a.val A c B d] w (AuUp (AuSz (N + 1)) R (P + 4000000) w) := by
  obtain ⟨i0, hi, hz0, hz1, hz2⟩ := info_parts infoInt
  obtain ⟨j0, hj, jz0, jz1, jz2⟩ := info_parts infoRows
  obtain ⟨b0, hb, bz0, bz1, bz2⟩ := info_parts infoBools
  have hR := hr.lt
  obtain ⟨wA, hwA, hz00, hBA, hS, -⟩ := boxed2 w #[Value.int IntKind.i64 a.al, Value.slice A a.nx.length c, Value.slice B a.ac.length d] 26 #[Value.int IntKind.i64 0, Value.slice none 0 0, Value.slice none 0 0] 26
  have hres : Hid (Blk wA (w.heap.size + 1) 26 #[Value.int IntKind.i64 0, Value.slice none 0 0, Value.slice none 0 0]) := hid (by
    rw [← hwA]
    have := Blk.new (w.alloc (.cells #[Value.int IntKind.i64 a.al, Value.slice A a.nx.length c, Value.slice B a.ac.length d] 26)) 26 #[Value.int IntKind.i64 0, Value.slice none 0 0, Value.slice none 0 0]
    simpa using this)
  have hzAe : Hid (wA.heap.size = w.heap.size + 2) := hid (by rw [← hwA]; simp)
  have hK : ∀ b, b = R → b < wA.heap.size := fun b e => by have := hzAe.out; omega
  have haA := hid (ha.later hBA)
  have hrA := hid (hr.later hBA)
  have p0 := hS 0 _ rfl _ (Below.refl _ _)
  have p1 := hS 1 _ rfl _ (Below.refl _ _)
  have p2 := hS 2 _ rfl _ (Below.refl _ _)
  replace ha := hid ha
  replace hr := hid hr
  obtain ⟨s1, s2, s3⟩ := hsz
  unfold AG.Au.val
  go_enter Tryd.func110, Tryd.ntmps110
  go_wp2_with fail
  refine (l3Copy_any a A B c d wA ⟨by omega, by omega, fun r hr => by have := s3 r hr; omega⟩ haA.out).mono ?_
  rintro e w1 ⟨v1, v2, xs, rfl, ho, hb1⟩
  have hst := AuSt.of (K := fun b => b = R) ho (KeepB.of_below hb1)
  have hr1 := (hrA.out.later hb1).later ((Below.refl _ w1).alloc (Nat.le_refl _) (.cells #[.int .i64 a.al, v1, v2] 26))
  obtain ⟨A1, c1, e1, -, -⟩ := own_slice hst.own.rows.own
  obtain ⟨A2, c2, e2, -, -⟩ := own_slice hst.own.acc
  subst e1 e2
  clear p0 p1 p2 hwA ho
  obtain ⟨n, hnx⟩ : ∃ n, Hid (n = a.nx.length) := ⟨_, hid rfl⟩
  have hxl := hst.len
  rw [hxl, ← hnx.out] at hst hr1 ⊢
  obtain ⟨m, hac⟩ : ∃ m, Hid (m = a.ac.length) := ⟨_, hid rfl⟩
  rw [← hac.out] at hst hr1 s2 ⊢
  rw [← hnx.out] at s1 hxl
  have hxl' := hid hxl
  clear hxl
  obtain ⟨gs, hgs⟩ : ∃ gs, Hid (gs = w1.heap.size) := ⟨_, hid rfl⟩
  obtain ⟨w2, hw2⟩ : ∃ w2, Hid (w1.alloc (.cells #[.int .i64 a.al, .slice A1 n c1, .slice A2 m c2] 26) = w2) := ⟨_, hid rfl⟩
  rw [hw2.out] at hst hr1
  rw [← hgs.out] at hst
  replace hst := hid hst
  replace hr1 := hid hr1
  go_upto_region 2 with fail
  rw [hw2.out, ← hgs.out]
  clear hw2 hgs
  have k1 := hst.out.blk.cell 1
  simp only [List.getElem?_toArray, List.getElem?_cons_zero, List.getElem?_cons_succ] at k1
  by_cases hn0 : n = 0
  · have hn0' := hid hn0
    subst hn0
    have hs := hst
    have hrd := hr1
    clear k1
    have k0 := hs.out.blk.cell 0
    have k1 := hs.out.blk.cell 1
    have k2 := hs.out.blk.cell 2
    have hbl := hid (hres.out.keep hs.out.keep (by have := hzAe.out; omega))
    have d0 := hbl.out.cell 0
    have d1 := hbl.out.cell 1
    have d2 := hbl.out.cell 2
    have f0 := hbl.out.frozen 0
    have f1 := hbl.out.frozen 1
    have f2 := hbl.out.frozen 2
    have hltb := hbl.out.lt
    simp only [List.getElem?_toArray, List.getElem?_cons_zero, List.getElem?_cons_succ] at d0 d1 d2 k0 k1 k2
    have hfin := hid (AuUp2.ret (w := w) (Q := AuSz (N + 1)) (P' := P + 4000000) (a := a) (szSame hnx hac s1 s2 s3) hs.out.own hzAe.out hrd.out (by omega) ((KeepB.of_below hBA).trans hs.out.keep) hR (.int .i64 (a).al) (.slice A1 0 c1) (.slice A2 m c2))
    go_wp2
    refine bodyPost_ret (v := .agg #[.int .i64 (a).al, .slice A1 0 c1, .slice A2 m c2]) (by simp [results, Tryd.results110, go_sem, d0, d1, d2]) rfl ?_
    exact hfin.out
  have hnb : ((n : Int) == 0) = false := by simp; omega
  go_wp2_with fail
  refine (pick_up R P (n : Nat) w2 (by omega) (by omega) hr1.out).mono ?_
  rintro e w3 ⟨k, rfl, hk0, hk1, hr3, hk3⟩
  obtain ⟨kn, rfl⟩ := Int.eq_ofNat_of_zero_le hk0
  have hkn : kn < n := by omega
  have hs3 := hid (hst.out.keepK hK hk3)
  replace hr3 := hid hr3
  clear hk0 hk1 hk3 k1
  go_wp2_with fail
  refine (pick_up R (P + 1) 4 w3 (by omega) (by omega) hr3.out).mono ?_
  rintro e w4 ⟨j, rfl, hj0, hj1, hr4, hk4⟩
  have hs := hid (hs3.out.keepK hK hk4)
  have hrd := hid hr4
  clear hr4 hk4 hs3
  have kx : (0 : Int) ≤ (kn : Int) ∧ (kn : Int) < (n : Int) := by omega
  have k1 := hs.out.blk.cell 1
  have k2 := hs.out.blk.cell 2
  simp only [List.getElem?_toArray, List.getElem?_cons_zero, List.getElem?_cons_succ] at k1 k2
  have hgsl := hs.out.blk.lt
  by_cases hj0c : j = 0
  · subst hj0c
    by_cases hmk : kn < m
    · have hmki : (kn : Int) < (m : Int) := by omega
      obtain ⟨g2, cap, hve, hg1, hg2, -, -, hcell⟩ := own_shape hs.out.own.acc (by have := hac.out; omega)
      have e2 : A2 = some ⟨g2, 0, none⟩ := by injection hve
      subst e2
      obtain ⟨t, c0⟩ : ∃ t, w4.cell? ⟨g2, kn, none⟩ = some (.bool t) := ⟨_, hcell kn _ (show (boolVals a.ac)[kn]? = some (.bool (a.ac[kn]'(by have := hac.out; omega))) from by unfold boolVals; rw [List.getElem?_map, List.getElem?_eq_getElem (by have := hac.out; omega)]; rfl)⟩
      replace hcell := hid hcell
      have q1 := GK.BI.cell k2
      have q2 := GK.BI.cell c0
      clear hve
      go_upto_region 9 with fail
      clear k1 k2
      refine GK.wp_region 10 [10] 200 (KeepB fun _ => False) (GK.BI w4) (fun _ _ _ => True) (by kernel_rfl) (by kernel_rfl) (GK.BI.way w4) (by decide) (Below.refl _ _).drew ?_
      simp only [List.take_succ_cons, List.take_zero]
      (repeat (refine GK.grow_quiet w4 (by rfl) (by rfl) ?_; intro K hK; go_big_quiet_op; go_big_quiet_on))
      refine GK.grow_nil ?_
      intro w5 hw5 hf
      simp only [List.filterMap_cons, List.filterMap_nil, List.getElem?_cons_zero, List.getElem?_cons_succ]
      clear hf q1 q2
      replace hw5 : Below w4.heap.size w4 w5 := hw5
      have c5 : w5.cell? ⟨g2, kn, none⟩ = some (.bool t) := by rw [hw5.cell (World.block_lt_of_cell? _ _ c0)]; exact c0
      have hs5 := hs.out.later hw5
      have fz : w5.frozen? ⟨g2, kn, none⟩ = false := own_frozen hs5.own.acc rfl kn
      have hset : Hid (AuSt (fun b => b = R) wA (w5.setCell ⟨g2, kn, none⟩ (.bool !t)) gs (.slice A1 n c1) (.slice (some ⟨g2, 0, none⟩) m c2) ⟨a.al, a.nx, a.ac.set kn !t⟩ xs) := hid (by
        have h1 := AuSt.setAc (g := g2) (c := c2) (i := kn) (a := a) (by rw [← hac.out]; exact hs5) (!t)
        rw [← hac.out] at h1
        exact h1)
      have hrd5 := hid ((hrd.out.later hw5).keep ((KeepB.refl (fun b => wA.heap.size ≤ b) w5).setCell ⟨g2, kn, none⟩ (.bool !t) fun _ => hg1) fun k hk => by have := hzAe.out; omega)
      obtain ⟨w6, hw6⟩ : ∃ w6, Hid (w5.setCell ⟨g2, kn, none⟩ (.bool !t) = w6) := ⟨_, hid rfl⟩
      rw [hw6.out] at hset hrd5
      replace hs5 := hid hs5
      clear c0
      go_upto_region 18 with fail
      rw [hw6.out]
      have k0 := hset.out.blk.cell 0
      have k1 := hset.out.blk.cell 1
      have k2 := hset.out.blk.cell 2
      have hbl := hid (hres.out.keep hset.out.keep (by have := hzAe.out; omega))
      have d0 := hbl.out.cell 0
      have d1 := hbl.out.cell 1
      have d2 := hbl.out.cell 2
      have f0 := hbl.out.frozen 0
      have f1 := hbl.out.frozen 1
      have f2 := hbl.out.frozen 2
      have hltb := hbl.out.lt
      simp only [List.getElem?_toArray, List.getElem?_cons_zero, List.getElem?_cons_succ] at d0 d1 d2 k0 k1 k2
      have hfin := hid (AuUp2.ret (w := w) (Q := AuSz (N + 1)) (P' := P + 4000000) (a := (⟨a.al, a.nx, a.ac.set kn !t⟩ : Au)) (szSet hnx hac s1 s2 s3) hset.out.own hzAe.out hrd5.out (by omega) ((KeepB.of_below hBA).trans hset.out.keep) hR (.int .i64 ((⟨a.al, a.nx, a.ac.set kn !t⟩ : Au)).al) (.slice A1 n c1) (.slice (some ⟨g2, 0, none⟩) m c2))
      go_wp2
      refine bodyPost_ret (v := .agg #[.int .i64 ((⟨a.al, a.nx, a.ac.set kn !t⟩ : Au)).al, .slice A1 n c1, .slice (some ⟨g2, 0, none⟩) m c2]) (by simp [results, Tryd.results110, go_sem, d0, d1, d2]) rfl ?_
      exact hfin.out
    · have hmki : ¬ ((kn : Int) < (m : Int)) := by omega
      go_upto_region 18 with fail
      clear k1 k2
      have k0 := hs.out.blk.cell 0
      have k1 := hs.out.blk.cell 1
      have k2 := hs.out.blk.cell 2
      have hbl := hid (hres.out.keep hs.out.keep (by have := hzAe.out; omega))
      have d0 := hbl.out.cell 0
      have d1 := hbl.out.cell 1
      have d2 := hbl.out.cell 2
      have f0 := hbl.out.frozen 0
      have f1 := hbl.out.frozen 1
      have f2 := hbl.out.frozen 2
      have hltb := hbl.out.lt
      simp only [List.getElem?_toArray, List.getElem?_cons_zero, List.getElem?_cons_succ] at d0 d1 d2 k0 k1 k2
      have hfin := hid (AuUp2.ret (w := w) (Q := AuSz (N + 1)) (P' := P + 4000000) (a := a) (szSame hnx hac s1 s2 s3) hs.out.own hzAe.out hrd.out (by omega) ((KeepB.of_below hBA).trans hs.out.keep) hR (.int .i64 (a).al) (.slice A1 n c1) (.slice A2 m c2))
      go_wp2
      refine bodyPost_ret (v := .agg #[.int .i64 (a).al, .slice A1 n c1, .slice A2 m c2]) (by simp [results, Tryd.results110, go_sem, d0, d1, d2]) rfl ?_
      exact hfin.out
  have hjb0 : ((j : Int) == 0) = false := by simpa using hj0c
  replace hj0c := hid hj0c
  have hnn : n = xs.length := by rw [hxl'.out]
  obtain ⟨l1, l2, r, Ax, cx, hsplit, hl1n⟩ := row_split (xs := xs) (k := kn) (by omega)
  subst hsplit
  have heq := hs.out.own.eq
  have hrN : r.length ≤ N := s3 r (by rw [← heq, List.map_append, List.map_cons]; exact List.mem_append_right _ List.mem_cons_self)
  replace heq := hid heq
  obtain ⟨gT, capT, hveT, -, -, -, -, hcellT⟩ := own_shape hs.out.own.rows.own (by omega)
  have eT : A1 = some ⟨gT, 0, none⟩ := by injection hveT
  subst eT
  have t0 : w4.cell? ⟨gT, kn, none⟩ = some (.slice Ax r.length cx) := hcellT kn _ (row_at_ hl1n)
  have hrow := hs.out.own.rows.rows ⟨r, Ax, cx⟩ (by simp)
  obtain ⟨Ax', cx', ex, hrcx, hrcx'⟩ := own_slice hrow
  have hrc : r.length ≤ cx ∧ cx ≤ 9223372036854775807 := by unfold RowV.v at ex; injection ex with e1 e2 e3; subst e3; exact ⟨hrcx, hrcx'⟩
  replace hnn := hid hnn
  replace hrow := hid hrow
  replace hl1n := hid hl1n
  replace hcellT := hid hcellT
  clear hveT ex hrcx hrcx'
  by_cases hj1c : j = 1
  · subst hj1c
    by_cases hr0 : r.length = 0
    · have hr0i : ¬ ((0 : Int) < (r.length : Int)) := by omega
      replace hr0 := hid hr0
      go_upto_region 18 with fail
      clear k1 k2
      have k0 := hs.out.blk.cell 0
      have k1 := hs.out.blk.cell 1
      have k2 := hs.out.blk.cell 2
      have hbl := hid (hres.out.keep hs.out.keep (by have := hzAe.out; omega))
      have d0 := hbl.out.cell 0
      have d1 := hbl.out.cell 1
      have d2 := hbl.out.cell 2
      have f0 := hbl.out.frozen 0
      have f1 := hbl.out.frozen 1
      have f2 := hbl.out.frozen 2
      have hltb := hbl.out.lt
      simp only [List.getElem?_toArray, List.getElem?_cons_zero, List.getElem?_cons_succ] at d0 d1 d2 k0 k1 k2
      have hfin := hid (AuUp2.ret (w := w) (Q := AuSz (N + 1)) (P' := P + 4000000) (a := a) (szSame hnx hac s1 s2 s3) hs.out.own hzAe.out hrd.out (by omega) ((KeepB.of_below hBA).trans hs.out.keep) hR (.int .i64 (a).al) (.slice (some ⟨gT, 0, none⟩) n c1) (.slice A2 m c2))
      go_wp2
      refine bodyPost_ret (v := .agg #[.int .i64 (a).al, .slice (some ⟨gT, 0, none⟩) n c1, .slice A2 m c2]) (by simp [results, Tryd.results110, go_sem, d0, d1, d2]) rfl ?_
      exact hfin.out
    · have hr0i : (0 : Int) < (r.length : Int) := by omega
      obtain ⟨gr, capr, hver, hgr1, hgr2, -, -, -⟩ := own_shape hrow.out (by show 0 < r.length; omega)
      have e2 : Ax = some ⟨gr, 0, none⟩ := by injection hver
      subst e2
      have hgRn : gs ≠ R := by have := hs.out.ge; have := hzAe.out; omega
      have hgTR : gT ≠ R := by have := (hs.out.own.rows.own.lt gT rfl).1; have := hzAe.out; omega
      have q1 := RI.cell hrd.out k1 hgRn
      have q2 := RI.cell hrd.out t0 hgTR
      clear hver
      go_upto_region 12 with fail
      clear k1 k2 t0
      refine GK.wp_region 16 [16, 17] 200 (KeepB fun b => b = R) (RI w4 R (P + 1 + 1)) (fun i u _ => ∃ x : Int, u = .int .i64 x ∧ (i = 12 → 0 ≤ x ∧ x < (r.length : Int))) (by kernel_rfl) (by kernel_rfl) (RI.way w4 R _) (by decide) (RI.drew hrd.out) ?_
      simp only [List.take_succ_cons, List.take_zero]
      (repeat (refine GK.grow_quiet w4 (by rfl) (by rfl) ?_; intro K hK; go_big_quiet_op; go_big_quiet_on))
      refine GK.grow_call (by rfl) (fun u w w' _ h => h) (fun m wq hm hbq hf => ?_) ?_
      · go_simp
        exact ⟨rfl, (pick_up R (P + 1 + 1 + m * 10000) (r.length : Nat) wq (by omega) (by omega) hbq.2).mono fun e w' ⟨x, h2, h5, h6, h3, h4⟩ => ⟨_, h2, RI.call hbq h4 h3 (by omega), x, rfl, h5, by omega⟩⟩
      rintro u ⟨_, _, _, x, rfl, hx⟩
      obtain ⟨hx0, hx1⟩ := hx rfl
      obtain ⟨xn, rfl⟩ := Int.eq_ofNat_of_zero_le hx0
      clear hx
      simp only [Act.put, List.setIfInBounds_toArray, List.set_cons_zero, List.set_cons_succ]
      (repeat (refine GK.grow_quiet w4 (by rfl) (by rfl) ?_; intro K hK; go_big_quiet_op; go_big_quiet_on))
      refine GK.grow_call (by rfl) (fun u w w' _ h => h) (fun m wq hm hbq hf => ?_) ?_
      · go_simp
        exact ⟨rfl, (pick_up R (P + 1 + 1 + m * 10000) (n : Nat) wq (by omega) (by omega) hbq.2).mono fun e w' ⟨x, h2, h5, h6, h3, h4⟩ => ⟨_, h2, RI.call hbq h4 h3 (by omega), x, rfl⟩⟩
      rintro u ⟨_, _, _, y, rfl, -⟩
      simp only [Act.put, List.setIfInBounds_toArray, List.set_cons_zero, List.set_cons_succ]
      (repeat (refine GK.grow_quiet w4 (by rfl) (by rfl) ?_; intro K hK; go_big_quiet_op; go_big_quiet_on))
      refine GK.grow_nil ?_
      intro w5 hw5 hf
      simp only [List.filterMap_cons, List.filterMap_nil, List.getElem?_cons_zero, List.getElem?_cons_succ]
      clear hf q1 q2
      have hs5 := hs.out.keepK hK hw5.1
      have hrow5 := hs5.own.rows.rows ⟨r, some ⟨gr, 0, none⟩, cx⟩ (by simp)
      obtain ⟨gr', capr, hver, -, -, -, -, hcellr⟩ := own_shape hrow5 (by show 0 < r.length; omega)
      have e3 : gr' = gr := by injection hver with h; injection h with h; injection h with h; exact h.symm
      subst e3
      obtain ⟨y0, c5⟩ : ∃ y0, w5.cell? ⟨gr', xn, none⟩ = some (.int .i64 y0) := ⟨_, hcellr xn _ (show (intVals r)[xn]? = some (.int .i64 (r[xn]'(by omega))) from by unfold intVals; rw [List.getElem?_map, List.getElem?_eq_getElem (by omega)]; rfl)⟩
      have fz : w5.frozen? ⟨gr', xn, none⟩ = false := own_frozen hrow5 rfl xn
      have hset := hid (hs5.setRow (j := xn) y)
      have hrd6 := hid (hw5.2.keep ((KeepB.refl (fun b => wA.heap.size ≤ b) w5).setCell ⟨gr', xn, none⟩ (.int .i64 y) fun _ => hgr1) fun k hk => by have := hzAe.out; omega)
      obtain ⟨w6, hw6⟩ : ∃ w6, Hid (w5.setCell ⟨gr', xn, none⟩ (.int .i64 y) = w6) := ⟨_, hid rfl⟩
      rw [hw6.out] at hset hrd6
      replace hs5 := hid hs5
      replace hrow5 := hid hrow5
      replace hcellr := hid hcellr
      clear hver
      go_upto_region 18 with fail
      rw [hw6.out]
      have k0 := hset.out.blk.cell 0
      have k1 := hset.out.blk.cell 1
      have k2 := hset.out.blk.cell 2
      have hbl := hid (hres.out.keep hset.out.keep (by have := hzAe.out; omega))
      have d0 := hbl.out.cell 0
      have d1 := hbl.out.cell 1
      have d2 := hbl.out.cell 2
      have f0 := hbl.out.frozen 0
      have f1 := hbl.out.frozen 1
      have f2 := hbl.out.frozen 2
      have hltb := hbl.out.lt
      simp only [List.getElem?_toArray, List.getElem?_cons_zero, List.getElem?_cons_succ] at d0 d1 d2 k0 k1 k2
      have hfin := hid (AuUp2.ret (w := w) (Q := AuSz (N + 1)) (P' := P + 4000000) (a := (⟨a.al, (l1 ++ ⟨r.set xn y, some ⟨gr', 0, none⟩, cx⟩ :: l2).map (·.r), a.ac⟩ : Au)) (szRow heq s1 (.inr trivial) s3 (by have := hnx.out; omega) (by have := hac.out; omega) (by show (r.set xn y).length = r.length; rw [List.length_set])) hset.out.own hzAe.out hrd6.out (by omega) ((KeepB.of_below hBA).trans hset.out.keep) hR (.int .i64 ((⟨a.al, (l1 ++ ⟨r.set xn y, some ⟨gr', 0, none⟩, cx⟩ :: l2).map (·.r), a.ac⟩ : Au)).al) (.slice (some ⟨gT, 0, none⟩) n c1) (.slice A2 m c2))
      go_wp2
      refine bodyPost_ret (v := .agg #[.int .i64 ((⟨a.al, (l1 ++ ⟨r.set xn y, some ⟨gr', 0, none⟩, cx⟩ :: l2).map (·.r), a.ac⟩ : Au)).al, .slice (some ⟨gT, 0, none⟩) n c1, .slice A2 m c2]) (by simp [results, Tryd.results110, go_sem, d0, d1, d2]) rfl ?_
      exact hfin.out
  have hjb1 : ((j : Int) == 1) = false := by simpa using hj1c
  replace hj1c := hid hj1c
  by_cases hj2c : j = 2
  · subst hj2c
    by_cases hn12 : n < 12
    case neg =>
      have hn12i : ¬ ((n : Int) < 12) := by omega
      go_upto_region 18 with fail
      clear k1 k2
      have k0 := hs.out.blk.cell 0
      have k1 := hs.out.blk.cell 1
      have k2 := hs.out.blk.cell 2
      have hbl := hid (hres.out.keep hs.out.keep (by have := hzAe.out; omega))
      have d0 := hbl.out.cell 0
      have d1 := hbl.out.cell 1
      have d2 := hbl.out.cell 2
      have f0 := hbl.out.frozen 0
      have f1 := hbl.out.frozen 1
      have f2 := hbl.out.frozen 2
      have hltb := hbl.out.lt
      simp only [List.getElem?_toArray, List.getElem?_cons_zero, List.getElem?_cons_succ] at d0 d1 d2 k0 k1 k2
      have hfin := hid (AuUp2.ret (w := w) (Q := AuSz (N + 1)) (P' := P + 4000000) (a := a) (szSame hnx hac s1 s2 s3) hs.out.own hzAe.out hrd.out (by omega) ((KeepB.of_below hBA).trans hs.out.keep) hR (.int .i64 (a).al) (.slice (some ⟨gT, 0, none⟩) n c1) (.slice A2 m c2))
      go_wp2
      refine bodyPost_ret (v := .agg #[.int .i64 (a).al, .slice (some ⟨gT, 0, none⟩) n c1, .slice A2 m c2]) (by simp [results, Tryd.results110, go_sem, d0, d1, d2]) rfl ?_
      exact hfin.out
    have hn12i : (n : Int) < 12 := by omega
    by_cases hmk : kn < m
    case neg =>
      have hmki : ¬ ((kn : Int) < (m : Int)) := by omega
      go_upto_region 18 with fail
      clear k1 k2
      have k0 := hs.out.blk.cell 0
      have k1 := hs.out.blk.cell 1
      have k2 := hs.out.blk.cell 2
      have hbl := hid (hres.out.keep hs.out.keep (by have := hzAe.out; omega))
      have d0 := hbl.out.cell 0
      have d1 := hbl.out.cell 1
      have d2 := hbl.out.cell 2
      have f0 := hbl.out.frozen 0
      have f1 := hbl.out.frozen 1
      have f2 := hbl.out.frozen 2
      have hltb := hbl.out.lt
      simp only [List.getElem?_toArray, List.getElem?_cons_zero, List.getElem?_cons_succ] at d0 d1 d2 k0 k1 k2
      have hfin := hid (AuUp2.ret (w := w) (Q := AuSz (N + 1)) (P' := P + 4000000) (a := a) (szSame hnx hac s1 s2 s3) hs.out.own hzAe.out hrd.out (by omega) ((KeepB.of_below hBA).trans hs.out.keep) hR (.int .i64 (a).al) (.slice (some ⟨gT, 0, none⟩) n c1) (.slice A2 m c2))
      go_wp2
      refine bodyPost_ret (v := .agg #[.int .i64 (a).al, .slice (some ⟨gT, 0, none⟩) n c1, .slice A2 m c2]) (by simp [results, Tryd.results110, go_sem, d0, d1, d2]) rfl ?_
      exact hfin.out
    have hmki : (kn : Int) < (m : Int) := by omega
    by_cases hr0 : r.length = 0
    case pos =>
      have hr0i : ¬ ((0 : Int) < (r.length : Int)) := by omega
      replace hr0 := hid hr0
      go_upto_region 18 with fail
      clear k1 k2
      have k0 := hs.out.blk.cell 0
      have k1 := hs.out.blk.cell 1
      have k2 := hs.out.blk.cell 2
      have hbl := hid (hres.out.keep hs.out.keep (by have := hzAe.out; omega))
      have d0 := hbl.out.cell 0
      have d1 := hbl.out.cell 1
      have d2 := hbl.out.cell 2
      have f0 := hbl.out.frozen 0
      have f1 := hbl.out.frozen 1
      have f2 := hbl.out.frozen 2
      have hltb := hbl.out.lt
      simp only [List.getElem?_toArray, List.getElem?_cons_zero, List.getElem?_cons_succ] at d0 d1 d2 k0 k1 k2
      have hfin := hid (AuUp2.ret (w := w) (Q := AuSz (N + 1)) (P' := P + 4000000) (a := a) (szSame hnx hac s1 s2 s3) hs.out.own hzAe.out hrd.out (by omega) ((KeepB.of_below hBA).trans hs.out.keep) hR (.int .i64 (a).al) (.slice (some ⟨gT, 0, none⟩) n c1) (.slice A2 m c2))
      go_wp2
      refine bodyPost_ret (v := .agg #[.int .i64 (a).al, .slice (some ⟨gT, 0, none⟩) n c1, .slice A2 m c2]) (by simp [results, Tryd.results110, go_sem, d0, d1, d2]) rfl ?_
      exact hfin.out
    have hr0i : (0 : Int) < (r.length : Int) := by omega
    have q0 := GK.BI.cell k1
    have q1 := GK.BI.cell t0
    have h3r := hid (own_ints_at hrow.out).2.2.2
    have hlow : Hid (∀ y ∈ l1 ++ ⟨r, Ax, cx⟩ :: l2, ∀ k, y.v.ownBlock = some k → k < w4.heap.size) := hid fun y hy k e => (hs.out.rowLt hy e).2
    have hw4z := hs.out.keep.size
    go_upto_region 15 with fail
    clear k1 k2 t0
    refine GK.wp_region 10 [10, 11, 12] 200 (KeepB fun _ => False) (GK.BI w4) (fun _ _ _ => True) (by kernel_rfl) (by kernel_rfl) (GK.BI.way w4) (by decide) (Below.refl _ _).drew ?_
    simp only [List.take_succ_cons, List.take_zero]
    (repeat (refine GK.grow_quiet w4 (by rfl) (by rfl) ?_; intro K hK; go_big_quiet_op; go_big_quiet_on))
    refine GK.grow_new (K := fun _ => False) (by rfl) _ (fun b => .slice (some ⟨b, 0, none⟩) 0 0) 3 #[] (fun _ => by go_simp) rfl (fun _ _ o h => GK.BI.alloc o h) (fun _ _ h => GK.BI.size h) (fun _ h => h.elim) (fun b hbb => ?_)
    simp only [Act.put, List.setIfInBounds_toArray, List.set_cons_zero, List.set_cons_succ]
    (repeat (refine GK.grow_quiet w4 (by rfl) (by rfl) ?_; intro K hK; go_big_quiet_op; go_big_quiet_on))
    refine GK.grow_copy (by rfl) _ _ 52 (by rfl) 3 i0 (.int .i64 0) 1 8 Tryd.underlying52 hi hz0 hz1 hz2 rfl b (by rfl) (fun w hf => ?_) Ax r.length cx (intVals r) (by rfl) (by rw [intVals_len, Nat.mul_one]) (fun hn => h3r.out.news hn) (intVals_one _) (by unfold maxLen; omega) (by omega) fun v hv => ?_
    · obtain ⟨b', e1, e2, e3⟩ := hf _ List.mem_cons_self (by kernel_rfl)
      cases e1
      exact ⟨e2, e3⟩
    obtain ⟨Ar, cr, hve, hcr, hcr'⟩ : ∃ Av cv, v = .slice Av r.length cv ∧ r.length ≤ cv ∧ cv ≤ 9223372036854775807 := by obtain ⟨_, _, hv⟩ := hv; exact own_slice hv
    subst hve
    clear hv
    simp only [Act.put, List.setIfInBounds_toArray, List.set_cons_zero, List.set_cons_succ]
    (repeat (refine GK.grow_quiet w4 (by rfl) (by rfl) ?_; intro K hK; go_big_quiet_op; go_big_quiet_on))
    refine GK.grow_new (K := fun _ => False) (by rfl) _ (fun b => .slice (some ⟨b, 0, none⟩) 1 1) 52 #[.slice Ar r.length cr] (fun _ => by go_simp) rfl (fun _ _ o h => GK.BI.alloc o h) (fun _ _ h => GK.BI.size h) (fun _ h => h.elim) (fun bb hbb2 => ?_)
    simp only [Act.put, List.setIfInBounds_toArray, List.set_cons_zero, List.set_cons_succ]
    refine GK.grow_nil ?_
    intro w5 hw5 hf
    simp only [List.filterMap_cons, List.filterMap_nil, List.getElem?_cons_zero, List.getElem?_cons_succ]
    obtain ⟨bb', e1, -, hblk4⟩ := hf _ List.mem_cons_self
    cases e1
    have hor : w5.ownsRow w4.heap.size 3 1 (.slice Ar r.length cr) r.length (intVals r) := hf _ (List.mem_cons_of_mem _ List.mem_cons_self)
    replace hw5 : Below w4.heap.size w4 w5 := hw5
    clear hf q0 q1
    have hs5 := hs.out.later hw5
    have hown5 := hs5.own.rows.own
    rw [← hnn.out] at hown5
    have hbl5 := hs5.blk
    have ag : (Value.slice (some ⟨gT, 0, none⟩) n c1).ownBlock ≠ some gs := fun e => own_ne hown5 hbl5 (by decide) _ e rfl
    have hbl5' := hbl5.lt
    have k1 := hbl5.cell 1
    have f1 := hbl5.frozen 1
    simp only [List.getElem?_toArray, List.getElem?_cons_zero, List.getElem?_cons_succ] at k1
    have hrd5 := hid (hrd.out.later hw5)
    replace hs5 := hid hs5
    have hz5 := hw5.size
    have hor' := hid hor
    clear hor
    refine wpList_append_own_at _ (by rfl) _ _ 23 (by rfl) wA.heap.size 52 j0 (.slice none 0 0) 1 24 Tryd.underlying23 hj jz0 jz1 jz2 rfl (by decide) _ n (rowVals (l1 ++ ⟨r, Ax, cx⟩ :: l2)) (by rfl) hown5 ⟨bb, 0, none⟩ 1 1 [.slice Ar r.length cr] (by rfl) (by rfl) (World.news_of_block hblk4) ?c1 ?c3 ?c4 ?c5 ?_
    case c1 => simp [Value.oneCell']
    case c3 => unfold maxLen; omega
    case c4 => omega
    case c5 => have := hs5.out.keep.size; omega
    intro v9 w6 hown9 hgrow hnil9 hat9
    obtain ⟨A8, c8, hv9, -, -⟩ := own_slice hown9
    subst hv9
    have c2'' : w6.cell? ⟨gs, 1, none⟩ = some (.slice (some ⟨gT, 0, none⟩) n c1) := by rw [hgrow.cell_far _ (by simpa using hbl5') (Ne.symm ag)]; exact k1
    have f2'' : w6.frozen? ⟨gs, 1, none⟩ = false := by rw [hgrow.frozen_far _ (by simpa using hbl5') (Ne.symm ag)]; exact f1
    have hs7 := hid (hs5.out.row (v1' := .slice A8 (n + 1) c8) (x := ⟨r, Ar, cr⟩) (own_base (show w5.ownsRow w4.heap.size 3 1 (.slice Ar r.length cr) r.length (intVals r) from hor'.out) hw4z) (fun y hy k e e2 => by have := hlow.out y hy k e; have := (hor'.out.lt k e2).1; omega) hgrow (by rw [← hnn.out]; exact hown9))
    have hk7 : Hid (KeepB (fun b => wA.heap.size ≤ b) w5 (w6.setCell ⟨gs, 1, none⟩ (.slice A8 (n + 1) c8))) := hid (((KeepB.refl _ w5).grown hgrow fun k hk _ => (hs5.out.own.rows.own.lt k hk).1).setCell _ _ fun _ => hs5.out.ge)
    have hrd7 := hid (hrd5.out.keep hk7.out fun k hk => by have := hzAe.out; omega)
    obtain ⟨w7, hw7⟩ : ∃ w7, Hid (w6.setCell ⟨gs, 1, none⟩ (.slice A8 (n + 1) c8) = w7) := ⟨_, hid rfl⟩
    rw [hw7.out] at hs7 hrd7
    clear hown5 hbl5 hown9 hgrow k1 f1
    go_upto_region 16 with fail
    rw [hw7.out]
    clear c2'' f2''
    have k2 := hs7.out.blk.cell 2
    simp only [List.getElem?_toArray, List.getElem?_cons_zero, List.getElem?_cons_succ] at k2
    obtain ⟨g2, cap, hve, hg1, hg2, -, -, hcell⟩ := own_shape hs7.out.own.acc (by have := hac.out; show 0 < a.ac.length; omega)
    have e2 : A2 = some ⟨g2, 0, none⟩ := by injection hve
    subst e2
    obtain ⟨t, c0⟩ : ∃ t, w7.cell? ⟨g2, kn, none⟩ = some (.bool t) := ⟨_, hcell kn _ (show (boolVals a.ac)[kn]? = some (.bool (a.ac[kn]'(by have := hac.out; omega))) from by unfold boolVals; rw [List.getElem?_map, List.getElem?_eq_getElem (by have := hac.out; omega)]; rfl)⟩
    have hgs7 := hs7.out.blk.lt
    replace hcell := hid hcell
    have q1 := GK.BI.cell k2
    have q2 := GK.BI.cell c0
    clear hve k2 c0
    refine GK.wp_region 8 [8, 9, 10] 200 (KeepB fun _ => False) (GK.BI w7) (fun _ _ _ => True) (by kernel_rfl) (by kernel_rfl) (GK.BI.way w7) (by decide) (Below.refl _ _).drew ?_
    simp only [List.take_succ_cons, List.take_zero]
    (repeat (refine GK.grow_quiet w7 (by rfl) (by rfl) ?_; intro K hK; go_big_quiet_op; go_big_quiet_on))
    refine GK.grow_new (K := fun _ => False) (by rfl) _ (fun b => .slice (some ⟨b, 0, none⟩) 1 1) 4 #[.bool t] (fun _ => by go_simp) rfl (fun _ _ o h => GK.BI.alloc o h) (fun _ _ h => GK.BI.size h) (fun _ h => h.elim) (fun b3 hb3 => ?_)
    simp only [Act.put, List.setIfInBounds_toArray, List.set_cons_zero, List.set_cons_succ]
    refine GK.grow_nil ?_
    intro w8 hw8 hf
    obtain ⟨b3', e1, -, hblk8⟩ := hf _ List.mem_cons_self
    cases e1
    clear hf q1 q2
    simp only [List.filterMap_cons, List.filterMap_nil, List.getElem?_cons_zero, List.getElem?_cons_succ]
    replace hw8 : Below w7.heap.size w7 w8 := hw8
    have hs8 := hs7.out.later hw8
    have hown8 : w8.ownsRow wA.heap.size 4 1 (.slice (some ⟨g2, 0, none⟩) m c2) m (boolVals a.ac) := by have h1 := hs8.own.acc; rw [show (⟨a.al, a.nx ++ [r], a.ac⟩ : Au).ac.length = m from hac.out.symm] at h1; exact h1
    have hbl8 := hs8.blk
    have ag2 : (Value.slice (some ⟨g2, 0, none⟩) m c2).ownBlock ≠ some gs := fun e => own_ne hown8 hbl8 (by decide) _ e rfl
    have hbl8' := hbl8.lt
    have k2 := hbl8.cell 2
    have f2 := hbl8.frozen 2
    simp only [List.getElem?_toArray, List.getElem?_cons_zero, List.getElem?_cons_succ] at k2
    have hrd8 := hid (hrd7.out.later hw8)
    replace hs8 := hid hs8
    refine wpList_append_own_at _ (by rfl) _ _ 24 (by rfl) wA.heap.size 4 b0 (.bool false) 1 1 Tryd.underlying24 hb bz0 bz1 bz2 rfl (by decide) _ m (boolVals a.ac) (by rfl) hown8 ⟨b3, 0, none⟩ 1 1 [.bool t] (by rfl) (by rfl) (World.news_of_block hblk8) ?d1 ?d3 ?d4 ?d5 ?_
    case d1 => simp [Value.oneCell']
    case d3 => unfold maxLen; omega
    case d4 => omega
    case d5 => have := hs8.out.keep.size; omega
    intro v10 w10 hown10 hgrow2 hnil10 hat10
    obtain ⟨A9, c9, hv10, -, -⟩ := own_slice hown10
    subst hv10
    have x2 : w10.cell? ⟨gs, 2, none⟩ = some (.slice (some ⟨g2, 0, none⟩) m c2) := by rw [hgrow2.cell_far _ (by simpa using hbl8') (Ne.symm ag2)]; exact k2
    have y2 : w10.frozen? ⟨gs, 2, none⟩ = false := by rw [hgrow2.frozen_far _ (by simpa using hbl8') (Ne.symm ag2)]; exact f2
    have hs11 := hid (hs8.out.put (t := t) (v2' := .slice A9 (m + 1) c9) hgrow2 (by rw [show (⟨a.al, a.nx ++ [r], a.ac⟩ : Au).ac.length = m from hac.out.symm]; exact hown10))
    have hk11 : Hid (KeepB (fun b => wA.heap.size ≤ b) w8 (w10.setCell ⟨gs, 2, none⟩ (.slice A9 (m + 1) c9))) := hid (((KeepB.refl _ w8).grown hgrow2 fun k hk _ => (hown8.lt k hk).1).setCell _ _ fun _ => hs8.out.ge)
    have hrd11 := hid (hrd8.out.keep hk11.out fun k hk => by have := hzAe.out; omega)
    obtain ⟨w11, hw11⟩ : ∃ w11, Hid (w10.setCell ⟨gs, 2, none⟩ (.slice A9 (m + 1) c9) = w11) := ⟨_, hid rfl⟩
    rw [hw11.out] at hs11 hrd11
    clear hown8 hbl8 hown10 hgrow2 k2 f2
    go_upto_region 17 with fail
    rw [hw11.out]
    clear x2 y2
    have k1 := hs11.out.blk.cell 1
    simp only [List.getElem?_toArray, List.getElem?_cons_zero, List.getElem?_cons_succ] at k1
    rw [show (l1 ++ ⟨r, Ax, cx⟩ :: l2) ++ [⟨r, Ar, cr⟩] = l1 ++ ⟨r, Ax, cx⟩ :: (l2 ++ [⟨r, Ar, cr⟩]) from by rw [List.append_assoc, List.cons_append]] at hs11
    obtain ⟨gU, capU, hveU, -, -, -, -, hcellU⟩ := own_shape hs11.out.own.rows.own (by show 0 < (l1 ++ _ :: _).length; rw [List.length_append, List.length_cons]; omega)
    have eU : A8 = some ⟨gU, 0, none⟩ := by injection hveU
    subst eU
    have t1 : w11.cell? ⟨gU, kn, none⟩ = some (.slice Ax r.length cx) := hcellU kn _ (row_at_ hl1n.out)
    have hrow11 := hs11.out.own.rows.rows ⟨r, Ax, cx⟩ (by simp)
    obtain ⟨gr, capr, hver, hgr1, -, -, -, hcellr⟩ := own_shape hrow11 (by show 0 < r.length; omega)
    have e3 : Ax = some ⟨gr, 0, none⟩ := by injection hver
    subst e3
    obtain ⟨y0, c5⟩ : ∃ y0, w11.cell? ⟨gr, 0, none⟩ = some (.int .i64 y0) := ⟨_, hcellr 0 _ (show (intVals r)[0]? = some (.int .i64 (r[0]'(by omega))) from by unfold intVals; rw [List.getElem?_map, List.getElem?_eq_getElem (by omega)]; rfl)⟩
    have fz : w11.frozen? ⟨gr, 0, none⟩ = false := own_frozen hrow11 rfl 0
    have hset := hid (hs11.out.setRow (j := 0) (n : Int))
    have hrd9 := hid (hrd11.out.keep ((KeepB.refl (fun b => wA.heap.size ≤ b) w11).setCell ⟨gr, 0, none⟩ (.int .i64 (n : Int)) fun _ => hgr1) fun k hk => by have := hzAe.out; omega)
    obtain ⟨w9, hw9⟩ : ∃ w9, Hid (w11.setCell ⟨gr, 0, none⟩ (.int .i64 (n : Int)) = w9) := ⟨_, hid rfl⟩
    rw [hw9.out] at hset hrd9
    obtain ⟨a9, ha9⟩ : ∃ a9, Hid (a9 = (⟨a.al, (l1 ++ (⟨r.set 0 (n : Int), some ⟨gr, 0, none⟩, cx⟩ : RowV) :: (l2 ++ [(⟨r, Ar, cr⟩ : RowV)]) : List RowV).map RowV.r, a.ac ++ [t]⟩ : Au)) := ⟨_, hid rfl⟩
    have hset' : Hid (AuSt (fun b => b = R) wA w9 gs (.slice (some ⟨gU, 0, none⟩) (n + 1) c8) (.slice A9 (m + 1) c9) a9 (l1 ++ ⟨r.set 0 (n : Int), some ⟨gr, 0, none⟩, cx⟩ :: (l2 ++ [⟨r, Ar, cr⟩]))) := hid (by rw [ha9.out]; exact hset.out)
    have hsz9 : AuSz (N + 1) a9 := by
      rw [ha9.out]
      have hnl := hnn.out
      have e := heq.out
      refine ⟨?_, ?_, fun y hy => ?_⟩
      · simp at hnl ⊢; omega
      · show (a.ac ++ [t]).length ≤ _; rw [List.length_append]; have := hac.out; simp; omega
      · obtain ⟨z, hz, rfl⟩ := List.mem_map.1 hy
        have key : ∀ z ∈ l1 ++ ⟨r, some ⟨gr, 0, none⟩, cx⟩ :: l2, z.r.length ≤ N := fun z hz => s3 _ (by rw [← e]; exact List.mem_map_of_mem hz)
        rcases List.mem_append.1 hz with hz | hz
        · have := key z (List.mem_append_left _ hz); omega
        · rcases List.mem_cons.1 hz with rfl | hz
          · show (r.set 0 (n : Int)).length ≤ N + 1; rw [List.length_set]; omega
          · rcases List.mem_append.1 hz with hz | hz
            · have := key z (List.mem_append_right _ (List.mem_cons_of_mem _ hz)); omega
            · rw [List.mem_singleton.1 hz]; show r.length ≤ N + 1; omega
    replace hset := hset'
    replace hs11 := hid hs11
    replace hrow11 := hid hrow11
    replace hcellr := hid hcellr
    replace hcellU := hid hcellU
    clear hset' hver hveU
    go_upto_region 18 with fail
    rw [hw9.out]
    have k0 := hset.out.blk.cell 0
    have k1 := hset.out.blk.cell 1
    have k2 := hset.out.blk.cell 2
    have hbl := hid (hres.out.keep hset.out.keep (by have := hzAe.out; omega))
    have d0 := hbl.out.cell 0
    have d1 := hbl.out.cell 1
    have d2 := hbl.out.cell 2
    have f0 := hbl.out.frozen 0
    have f1 := hbl.out.frozen 1
    have f2 := hbl.out.frozen 2
    have hltb := hbl.out.lt
    simp only [List.getElem?_toArray, List.getElem?_cons_zero, List.getElem?_cons_succ] at d0 d1 d2 k0 k1 k2
    have hfin := hid (AuUp2.ret (w := w) (Q := AuSz (N + 1)) (P' := P + 4000000) (a := a9) hsz9 hset.out.own hzAe.out hrd9.out (by omega) ((KeepB.of_below hBA).trans hset.out.keep) hR (.int .i64 (a9).al) (.slice (some ⟨gU, 0, none⟩) (n + 1) c8) (.slice A9 (m + 1) c9))
    go_wp2
    refine bodyPost_ret (v := .agg #[.int .i64 (a9).al, .slice (some ⟨gU, 0, none⟩) (n + 1) c8, .slice A9 (m + 1) c9]) (by simp [results, Tryd.results110, go_sem, d0, d1, d2]) rfl ?_
    exact hfin.out
  have hjb2 : ((j : Int) == 2) = false := by simpa using hj2c
  replace hj2c := hid hj2c
  go_upto_region 18 with fail
  clear k1 k2
  have k0 := hs.out.blk.cell 0
  have k1 := hs.out.blk.cell 1
  have k2 := hs.out.blk.cell 2
  have hbl := hid (hres.out.keep hs.out.keep (by have := hzAe.out; omega))
  have d0 := hbl.out.cell 0
  have d1 := hbl.out.cell 1
  have d2 := hbl.out.cell 2
  have f0 := hbl.out.frozen 0
  have f1 := hbl.out.frozen 1
  have f2 := hbl.out.frozen 2
  have hltb := hbl.out.lt
  simp only [List.getElem?_toArray, List.getElem?_cons_zero, List.getElem?_cons_succ] at d0 d1 d2 k0 k1 k2
  have hfin := hid (AuUp2.ret (w := w) (Q := AuSz (N + 1)) (P' := P + 4000000) (a := a) (szSame hnx hac s1 s2 s3) hs.out.own hzAe.out hrd.out (by omega) ((KeepB.of_below hBA).trans hs.out.keep) hR (.int .i64 (a).al) (.slice (some ⟨gT, 0, none⟩) n c1) (.slice A2 m c2))
  go_wp2
  refine bodyPost_ret (v := .agg #[.int .i64 (a).al, .slice (some ⟨gT, 0, none⟩) n c1, .slice A2 m c2]) (by simp [results, Tryd.results110, go_sem, d0, d1, d2]) rfl ?_
  exact hfin.out

end Go.Proofs.YtkoganldcmhopaaDoor

/- impl.SafetyPart. -/
namespace Go.Proofs.YtkoganldcmhopaaDoor
open Go.RowKit Go.BigFrame AG

def safX (a : Au) : Au := if auOk a = true then safA a else ⟨0, [], []⟩
def SafOwn (w : World) (a : Au) (e : Ending) (w' : World) : Prop := ∃ v1 v2 xs, e = .returned (.tuple #[.agg #[.int .i64 (safX a).al, v1, v2], .bool (auOk a)]) ∧ AuOwn w' w.heap.size v1 v2 (safX a) xs ∧ Below w.heap.size w w'
def nxAt (a : Au) (i : Nat) : List (List Int) := (safA a).nx.take i ++ a.nx.drop i
def rowK (a : Au) (i k : Nat) (r : List Int) : List Int := if a.ac.getD i false = true then r else List.replicate k (i : Int) ++ r.drop k
theorem rowK_len {a : Au} {i k : Nat} {r : List Int} (h : k ≤ r.length) : (rowK a i k r).length = r.length := by
  unfold rowK
  split
  · rfl
  · rw [List.length_append, List.length_replicate, List.length_drop]; omega
theorem rowK_zero (a : Au) (i : Nat) (r : List Int) : rowK a i 0 r = r := by unfold rowK; split <;> simp
theorem rowK_full (a : Au) (i : Nat) (r : List Int) : rowK a i r.length r = safNx a i r := by
  unfold rowK safNx
  split
  · rfl
  · rw [List.drop_length, List.append_nil, List.map_const']
theorem rowK_yes {a : Au} {i : Nat} (h : a.ac.getD i false = true) (k k' : Nat) (r : List Int) : rowK a i k r = rowK a i k' r := by unfold rowK; rw [if_pos h, if_pos h]
theorem rowK_no {a : Au} {i k : Nat} {r : List Int} (h : a.ac.getD i false = false) (hk : k < r.length) : (rowK a i k r).set k (i : Int) = rowK a i (k + 1) r := by
  unfold rowK
  rw [if_neg (by rw [h]; decide), if_neg (by rw [h]; decide), List.set_append_right _ _ (by rw [List.length_replicate]; exact Nat.le_refl _), List.length_replicate, Nat.sub_self, List.drop_eq_getElem_cons hk, List.set_cons_zero, List.replicate_succ', List.append_assoc]
  rfl
theorem nxAt_zero (a : Au) : nxAt a 0 = a.nx := by unfold nxAt; simp
theorem nxAt_full (a : Au) : nxAt a a.nx.length = (safA a).nx := by
  unfold nxAt
  rw [List.drop_length, List.append_nil, List.take_of_length_le (by rw [safA_len]; exact Nat.le_refl _)]
theorem nxAt_split {a : Au} {i : Nat} (h : i < a.nx.length) {l1 l2 : List RowV} {r : List Int} {Ax : Option Addr} {cx : Nat} (hl : l1.length = i) (e : (l1 ++ (⟨r, Ax, cx⟩ : RowV) :: l2).map (·.r) = nxAt a i) :
    r = a.nx[i] ∧ (l1 ++ (⟨rowK a i r.length r, Ax, cx⟩ : RowV) :: l2).map (·.r) = nxAt a (i + 1) := by
  unfold nxAt at e ⊢
  rw [List.map_append, List.map_cons] at e
  have hlen : (l1.map (·.r)).length = ((safA a).nx.take i).length := by rw [List.length_map, List.length_take, safA_len]; omega
  obtain ⟨e1, e2⟩ := List.append_inj e hlen
  rw [List.drop_eq_getElem_cons h] at e2
  have e3 : r = a.nx[i] := by injection e2
  have e4 : l2.map (·.r) = a.nx.drop (i + 1) := by injection e2
  refine ⟨e3, ?_⟩
  rw [List.map_append, List.map_cons, e1, e4, rowK_full, List.take_succ_eq_append_getElem (show i < (safA a).nx.length by rw [safA_len]; exact h), List.append_assoc]
  have e5 : (safA a).nx[i]'(by rw [safA_len]; exact h) = safNx a i a.nx[i] := by
    show (a.nx.mapIdx (safNx a))[i]'(by simpa using h) = _
    simp
  rw [e5, ← e3]
  rfl

set_option maxRecDepth 100000 in
set_option maxHeartbeats 8000000 in
theorem implSafetyPart_any (a : Au) (A B : Option Addr) (c d : Nat) (w : World) (ha : AuAt w A c B d a) :
    Calls Tryd.prog 20 #[a.val A c B d] w (SafOwn w a) := by
  obtain ⟨w0, hw0, hz0, hB0, hS, -⟩ := boxed2 w #[Value.int IntKind.i64 a.al, Value.slice A a.nx.length c, Value.slice B a.ac.length d] 26 #[Value.int IntKind.i64 0, Value.slice none 0 0, Value.slice none 0 0] 26
  have hz0e : Hid (w0.heap.size = w.heap.size + 2) := hid (by rw [← hw0]; simp)
  have hres : Hid (Blk w0 (w.heap.size + 1) 26 #[Value.int IntKind.i64 0, Value.slice none 0 0, Value.slice none 0 0]) := hid (by
    rw [← hw0]
    have := Blk.new (w.alloc (.cells #[Value.int IntKind.i64 a.al, Value.slice A a.nx.length c, Value.slice B a.ac.length d] 26)) 26 #[Value.int IntKind.i64 0, Value.slice none 0 0, Value.slice none 0 0]
    simpa using this)
  have ha0 := hid (ha.later hB0)
  have p0 := hS 0 _ rfl _ (Below.refl _ _)
  have p1 := hS 1 _ rfl _ (Below.refl _ _)
  have p2 := hS 2 _ rfl _ (Below.refl _ _)
  replace ha := hid ha
  unfold AG.Au.val
  go_enter Tryd.func20, Tryd.ntmps20
  go_wp2_with fail
  refine (implAutomatonValid_any a A B c d w0 ha0.out).mono ?_
  rintro e w1 ⟨rfl, hb1⟩
  have hz1 := hb1.size
  have hbl1 := hid (hres.out.below hb1 hres.out.lt)
  clear p0 p1 p2 hw0
  cases hok : auOk a
  · have d0 := hbl1.out.cell 0
    have d1 := hbl1.out.cell 1
    have d2 := hbl1.out.cell 2
    have f0 := hbl1.out.frozen 0
    have f1 := hbl1.out.frozen 1
    have f2 := hbl1.out.frozen 2
    simp only [List.getElem?_toArray, List.getElem?_cons_zero, List.getElem?_cons_succ] at d0 d1 d2
    have hlt := hbl1.out.lt
    have hfin : Hid (SafOwn w a (.returned (.tuple #[.agg #[.int .i64 0, .slice none 0 0, .slice none 0 0], .bool false])) (((w1.setCell ⟨w.heap.size + 1, 0, none⟩ (.int .i64 0)).setCell ⟨w.heap.size + 1, 1, none⟩ (.slice none 0 0)).setCell ⟨w.heap.size + 1, 2, none⟩ (.slice none 0 0))) := hid (by
      unfold SafOwn safX
      rw [hok]
      refine ⟨.slice none 0 0, .slice none 0 0, [], rfl, ⟨⟨World.ownsRow_nil _ _ _ _, fun x hx => (by cases hx), List.Pairwise.nil⟩, rfl, World.ownsRow_nil _ _ _ _⟩, ?_⟩
      exact (((hB0.trans (hb1.mono hB0.size)).setCell (by simp) _).setCell (by simp) _).setCell (by simp) _)
    replace hok := hid hok
    go_wp2
    refine bodyPost_ret (v := .tuple #[.agg #[.int .i64 0, .slice none 0 0, .slice none 0 0], .bool false]) (by simp [results, Tryd.results20, go_sem, d0, d1, d2]) rfl ?_
    exact hfin.out
  · obtain ⟨-, hn1, hn12, hml, hrl⟩ := (auOk_iff a).1 hok
    have hsz : AuSz 1000000 a := ⟨by omega, by omega, fun r hr => by
      have h1 := (hrl r hr).1
      have h2 := lettersTo_len a.al 6
      have h3 : (letters a.al).length ≤ 6 := h2
      omega⟩
    have p0 := hS 0 _ rfl _ (hb1.mono hz0)
    have p1 := hS 1 _ rfl _ (hb1.mono hz0)
    have p2 := hS 2 _ rfl _ (hb1.mono hz0)
    have ha1 := hid (ha0.out.later hb1)
    replace hok := hid hok
    replace hml := hid hml
    replace hrl := hid hrl
    replace hn1 := hid hn1
    replace hn12 := hid hn12
    replace hsz := hid hsz
    go_wp2_with fail
    refine (copyAutomaton_any a A B c d w1 hsz.out ha1.out).mono ?_
    rintro e w2 ⟨v1, v2, xs, rfl, ho, hb2⟩
    obtain ⟨A1, c1, e1, -, -⟩ := own_slice ho.rows.own
    obtain ⟨A2, c2, e2, -, -⟩ := own_slice ho.acc
    subst e1 e2
    have hst := AuSt.of (K := fun _ => False) ho (KeepB.of_below hb2)
    obtain ⟨n, hnx⟩ : ∃ n, Hid (n = a.nx.length) := ⟨_, hid rfl⟩
    have hxl := hst.len
    rw [hxl, ← hnx.out] at hst ⊢
    obtain ⟨m, hac⟩ : ∃ m, Hid (m = a.ac.length) := ⟨_, hid rfl⟩
    rw [← hac.out] at hst ⊢
    replace hxl := hid hxl
    have hnp : n ≤ 12 ∧ m = n := by have := hnx.out; have := hac.out; have := hn12.out; have := hml.out; omega
    obtain ⟨hn12', hmn⟩ := hnp
    replace hmn := hid hmn
    obtain ⟨gs, hgs⟩ : ∃ gs, Hid (gs = w2.heap.size) := ⟨_, hid rfl⟩
    obtain ⟨w3, hw3⟩ : ∃ w3, Hid (w2.alloc (.cells #[.int .i64 a.al, .slice A1 n c1, .slice A2 m c2] 26) = w3) := ⟨_, hid rfl⟩
    rw [hw3.out] at hst
    rw [← hgs.out] at hst
    have hB03 : ∀ {wr : World} {v1 v2 : Value} {x : Au} {ys : List RowV}, AuSt (fun _ => False) w1 wr gs v1 v2 x ys → Below w1.heap.size w1 wr := fun h => ⟨h.keep.os, h.keep.tape, h.keep.output, h.keep.size, fun i hi => h.keep.block i hi (fun h => h)⟩
    replace hst := hid hst
    replace ho := hid ho
    replace hb2 := hid hb2
    clear p0 p1 p2
    go_upto_region 4 with fail
    rw [hw3.out, ← hgs.out]
    clear hw3 hgs
    have k1 := hst.out.blk.cell 1
    simp only [List.getElem?_toArray, List.getElem?_cons_zero, List.getElem?_cons_succ] at k1
    have hgsl := hst.out.blk.lt
    go_wp2_with fail
    clear k1
    go_loopw [17] (fun iv wr => ∃ (i : Nat) (ys : List RowV), iv = .int .i64 (i : Nat) ∧ i ≤ n ∧ AuSt (fun _ => False) w1 wr gs (.slice A1 n c1) (.slice A2 m c2) ⟨a.al, nxAt a i, a.ac⟩ ys) (fun iv _ => n - (intOf iv).toNat)
    case atStart => exact ⟨0, xs, rfl, by omega, by rw [nxAt_zero]; exact hst.out⟩
    case round =>
      obtain ⟨i, ys, rfl, hi', hs⟩ := hrel
      have hbr := hB03 hs
      by_cases hlt : i < n
      · have hsplit' : ∃ (l1 l2 : List RowV) (r : List Int) (Ax : Option Addr) (cx : Nat), ys = l1 ++ ⟨r, Ax, cx⟩ :: l2 ∧ l1.length = i := by
          refine row_split ?_
          have h1 := hs.len
          have h2 : (⟨a.al, nxAt a i, a.ac⟩ : Au).nx.length = a.nx.length := by
            show (nxAt a i).length = _
            unfold nxAt
            rw [List.length_append, List.length_take, List.length_drop, safA_len]
            have := hnx.out
            omega
          have := hnx.out
          omega
        obtain ⟨l1, l2, r, Ax, cx, hsp, hl1⟩ := hsplit'
        subst hsp
        have hnl : Hid (n = (l1 ++ (⟨r, Ax, cx⟩ : RowV) :: l2).length) := hid (by
          obtain ⟨A', c', e', -, -⟩ := own_slice hs.own.rows.own
          injection e')
        have hrr := nxAt_split (by have := hnx.out; omega) hl1 hs.own.eq
        have hr6 : r.length ≤ 1000000 := by rw [hrr.1]; exact hsz.out.2.2 _ (List.getElem_mem _)
        replace hrr := hid hrr
        obtain ⟨gT, capT, hveT, -, -, -, -, hcellT⟩ := own_shape hs.own.rows.own (by have := hnl.out; omega)
        have eT : A1 = some ⟨gT, 0, none⟩ := by injection hveT
        subst eT
        have t0 : wr.cell? ⟨gT, i, none⟩ = some (.slice Ax r.length cx) := hcellT i _ (row_at_ hl1)
        have ki : (0 : Int) ≤ (i : Int) ∧ (i : Int) < (n : Int) := by omega
        have h0 : Hid (AuSt (fun _ => False) w1 wr gs (.slice (some ⟨gT, 0, none⟩) n c1) (.slice A2 m c2) ⟨a.al, (l1 ++ (⟨rowK a i 0 r, Ax, cx⟩ : RowV) :: l2).map (·.r), a.ac⟩ (l1 ++ ⟨rowK a i 0 r, Ax, cx⟩ :: l2)) := hid (by
          rw [rowK_zero, hs.own.eq]
          exact hs)
        replace hs := hid hs
        replace hbr := hid hbr
        replace hl1 := hid hl1
        replace hcellT := hid hcellT
        clear hveT
        go_upto_region 7 with fail
        clear t0
        go_wp2_with fail
        go_loopw [24] (fun kv wr => ∃ (k : Nat), kv = .int .i64 (k : Nat) ∧ k ≤ r.length ∧ AuSt (fun _ => False) w1 wr gs (.slice (some ⟨gT, 0, none⟩) n c1) (.slice A2 m c2) ⟨a.al, (l1 ++ (⟨rowK a i k r, Ax, cx⟩ : RowV) :: l2).map (·.r), a.ac⟩ (l1 ++ ⟨rowK a i k r, Ax, cx⟩ :: l2)) (fun kv _ => r.length - (intOf kv).toNat)
        case atStart => exact ⟨0, rfl, by omega, h0.out⟩
        case round =>
          obtain ⟨k, rfl, hk', hs2⟩ := hrel
          have hbr2 := hB03 hs2
          by_cases hkl : k < r.length
          · have ha2 := ha1.out.later hbr2
            obtain ⟨bB, oB, hBe, hbB, hEB⟩ := ha2.acc (by have := hac.out; have := hmn.out; omega)
            have p2 := hS 2 _ rfl _ ((hb1.trans (hbr2.mono hz1)).mono hz0)
            subst hBe
            obtain ⟨t, ht⟩ : ∃ t : Bool, Hid (t = a.ac.getD i false) := ⟨_, hid rfl⟩
            have c5 : wr.cell? ⟨bB, oB + i, none⟩ = some (.bool t) := by
              rw [hEB i (by have := hac.out; have := hmn.out; omega), ht.out]
              congr 2
              rw [List.getD_eq_getElem?_getD, List.getElem?_eq_getElem (by have := hac.out; have := hmn.out; omega)]
              rfl
            have hrow := hid (hs2.own.rows.rows ⟨rowK a i k r, Ax, cx⟩ (by simp))
            have kk : (0 : Int) ≤ (k : Int) ∧ (k : Int) < (r.length : Int) := by omega
            have kim : (0 : Int) ≤ (i : Int) ∧ (i : Int) < (a.ac.length : Int) := by have := hac.out; have := hmn.out; omega
            replace hEB := hid hEB
            replace hbr2 := hid hbr2
            replace ha2 := hid ha2
            cases t
            · obtain ⟨gr, capr, hver, hgr1, hgr2, -, -, hcellr⟩ := own_shape hrow.out (by show 0 < (rowK a i k r).length; rw [rowK_len hk']; omega)
              have e2 : Ax = some ⟨gr, 0, none⟩ := by injection hver
              subst e2
              obtain ⟨y0, c6⟩ : ∃ y0, wr.cell? ⟨gr, k, none⟩ = some (.int .i64 y0) := ⟨_, hcellr k _ (show (intVals (rowK a i k r))[k]? = some (.int .i64 ((rowK a i k r)[k]'(by rw [rowK_len hk']; exact hkl))) from by unfold intVals; rw [List.getElem?_map, List.getElem?_eq_getElem (by rw [rowK_len hk']; exact hkl)]; rfl)⟩
              have fz : wr.frozen? ⟨gr, k, none⟩ = false := own_frozen hrow.out rfl k
              have hset := hs2.setRow (j := k) (i : Int)
              rw [rowK_no ht.out.symm hkl] at hset
              replace hset := hid hset
              replace hs2 := hid hs2
              replace hcellr := hid hcellr
              clear hver
              go_wp2_with fail
              go_roundw
              case rel => exact ⟨k + 1, by go_num, by omega, hset.out⟩
              case measure => simp [intOf]; omega
            · rw [rowK_yes ht.out.symm k (k + 1)] at hs2
              replace hs2 := hid hs2
              go_wp2_with fail
              go_roundw
              case rel => exact ⟨k + 1, by go_num, by omega, hs2.out⟩
              case measure => simp [intOf]; omega
          · have hke : k = r.length := by omega
            rw [show rowK a i k r = rowK a i r.length r from by rw [hke]] at hs2
            rw [hrr.out.2] at hs2
            replace hs2 := hid hs2
            replace hke := hid hke
            replace hbr2 := hid hbr2
            go_wp2_with fail
            go_roundw
            case rel => exact ⟨i + 1, _, by go_num, by omega, hs2.out⟩
            case measure => simp [intOf]; omega
      · have hie : i = n := by omega
        have e9 : (⟨a.al, nxAt a i, a.ac⟩ : Au) = safA a := by
          rw [show i = a.nx.length from by have := hnx.out; omega, nxAt_full]
          rfl
        rw [e9] at hs
        replace hie := hid hie
        have k0 : wr.cell? ⟨gs, 0, none⟩ = some (.int .i64 a.al) := hs.blk.cell 0
        have k1 := hs.blk.cell 1
        have k2 := hs.blk.cell 2
        have hbl := hres.out.below (hb1.trans (hbr.mono hz1)) (by have := hz0e.out; omega)
        have d0 := hbl.cell 0
        have d1 := hbl.cell 1
        have d2 := hbl.cell 2
        have f0 := hbl.frozen 0
        have f1 := hbl.frozen 1
        have f2 := hbl.frozen 2
        simp only [List.getElem?_toArray, List.getElem?_cons_zero, List.getElem?_cons_succ] at d0 d1 d2 k1 k2
        have hltb := hbl.lt
        have hfin : Hid (SafOwn w a (.returned (.tuple #[.agg #[.int .i64 a.al, .slice A1 n c1, .slice A2 m c2], .bool true])) (((wr.setCell ⟨w.heap.size + 1, 0, none⟩ (.int .i64 a.al)).setCell ⟨w.heap.size + 1, 1, none⟩ (.slice A1 n c1)).setCell ⟨w.heap.size + 1, 2, none⟩ (.slice A2 m c2))) := hid (by
          have hk2 : KeepB (fun b => b = w.heap.size + 1) wr (((wr.setCell ⟨w.heap.size + 1, 0, none⟩ (.int .i64 a.al)).setCell ⟨w.heap.size + 1, 1, none⟩ (.slice A1 n c1)).setCell ⟨w.heap.size + 1, 2, none⟩ (.slice A2 m c2)) := (((KeepB.refl _ wr).setCell _ _ (by simp)).setCell _ _ (by simp)).setCell _ _ (by simp)
          unfold SafOwn safX
          rw [hok.out]
          refine ⟨.slice A1 n c1, .slice A2 m c2, ys, rfl, (hs.own.keepNew hk2 (fun b e => by have := hz0e.out; omega)).base (by have := hz0e.out; omega), ?_⟩
          exact (((hB0.trans ((hb1.trans (hbr.mono hz1)).mono hB0.size)).setCell (by simp) _).setCell (by simp) _).setCell (by simp) _)
        replace hs := hid hs
        replace hbl := hid hbl
        clear e9
        go_wp2
        refine bodyPost_ret (v := .tuple #[.agg #[.int .i64 a.al, .slice A1 n c1, .slice A2 m c2], .bool true]) (by simp [results, Tryd.results20, go_sem, d0, d1, d2]) rfl ?_
        exact hfin.out

end Go.Proofs.YtkoganldcmhopaaDoor
