/- Lemmas, part 16: several texts in one. -/
import Derived.Test.YtolnlkccbndkcaaDoorK15
import Derived.Test.YtolnlkccbndkcaaDoorK5
import Derived.Test.YtolnlkccbndkcaaDoorK6
import Derived.Test.YtolnlkccbndkcaaDoorK3
import Derived.Test.YtolnlkccbndkcaaDoorK4
import Derived.Test.YtolnlkccbndkcaaDoorK10
set_option linter.unusedSimpArgs false
set_option linter.unusedVariables false

/- The program's SystemOf. -/
namespace Go.Proofs.YtolnlkccbndkcaaDoor
open Go.RowKit Go.BigFrame AG

structure SoSt2 (w0 wr : World) (gs : Nat) (al st : Int) (v : Value) (es : List Ed) (lv : Value) (L : List Nat) (mv : Value) (M : List Nat) : Prop where
  so : SoSt w0 wr gs al st v es lv L
  mem : OwnNats wr w0.heap.size mv M
theorem SoSt2.later {w0 wr w1 : World} {gs : Nat} {al st : Int} {v lv mv : Value} {es : List Ed} {L M : List Nat} (h : SoSt2 w0 wr gs al st v es lv L mv M) (hb : Below wr.heap.size wr w1) : SoSt2 w0 w1 gs al st v es lv L mv M := ⟨h.so.later hb, own_later h.mem hb⟩
theorem SoSt2.add {w0 wr w1 : World} {gs gg cap : Nat} {al st : Int} {v lv mv : Value} {es : List Ed} {L M : List Nat} {x : Ed} (h : SoSt2 w0 wr gs al st v es lv L mv M)
    (hown : w1.ownsRow w0.heap.size 81 3 (.slice (some ⟨gg, 0, none⟩) (es.length + 1) cap) (es.length + 1) (edCells es ++ [.int .i64 x.f, .int .i64 x.l, .int .i64 x.t])) (hg : wr.grownBy w1 v.ownBlock) :
    SoSt2 w0 (w1.setCell ⟨gs, 2, none⟩ (.slice (some ⟨gg, 0, none⟩) (es.length + 1) cap)) gs al st (.slice (some ⟨gg, 0, none⟩) (es.length + 1) cap) (es ++ [x]) lv L mv M :=
  ⟨h.so.add hown hg, (SoSt.add (lv := mv) (L := M) ⟨h.so.sub, h.mem⟩ hown hg).list⟩

theorem trim_take_hit {R : Nat} {E T : List Ed} {e : Ed} (h : keptE R e = true) : trimEs R (E ++ (T ++ [e])) = trimEs R (E ++ T) ++ [trimE R e] := by
  rw [← List.append_assoc, trimEs_append]
  unfold trimEs
  rw [List.filter_cons_of_pos h]
  rfl
theorem trim_take_miss {R : Nat} {E T : List Ed} {e : Ed} (h : keptE R e = false) : trimEs R (E ++ (T ++ [e])) = trimEs R (E ++ T) := by
  rw [← List.append_assoc, trimEs_append, trimEs_none (es := [e]) (fun x hx => by rw [List.mem_singleton.1 hx]; exact h), List.append_nil]

theorem flat_len6 (A : Int) (g : Nat → List Int) : ∀ (ms : List Nat) , (ms.flatMap fun q => rowEs (letters A) q (g q)).length ≤ ms.length * 6
  | [] => Nat.le_refl _
  | m :: ms => by
    have ih := flat_len6 A g ms
    have h6 := letters_len6 A
    rw [List.flatMap_cons, List.length_append, List.length_cons, rowEs_len]
    omega
set_option maxRecDepth 100000 in
set_option maxHeartbeats 8000000 in
theorem implSystemOf_any (a : Au) (A B : Option Addr) (c d : Nat) (w : World) (hT : Tab w) (ha : AuAt w A c B d a) :
    Calls Tryd.prog 25 #[a.val A c B d] w (SoOwn w (soS a) (soOk a)) := by
  obtain ⟨i0, hi0, hz0', hz1', hz2'⟩ := info_parts infoEd
  obtain ⟨w0, hw0, hz0, hB0, hS, -⟩ := boxed2 w #[Value.int IntKind.i64 a.al, Value.slice A a.nx.length c, Value.slice B a.ac.length d] 32 #[Value.int IntKind.i64 0, Value.int IntKind.i64 0, Value.slice none 0 0] 25
  have hres : Blk w0 (w.heap.size + 1) 25 #[Value.int IntKind.i64 0, Value.int IntKind.i64 0, Value.slice none 0 0] := by
    rw [← hw0]
    have := Blk.new (w.alloc (.cells #[Value.int IntKind.i64 a.al, Value.slice A a.nx.length c, Value.slice B a.ac.length d] 32)) 25 #[Value.int IntKind.i64 0, Value.int IntKind.i64 0, Value.slice none 0 0]
    simpa using this
  have ha0 := hid (ha.later hB0)
  have p0 := hS 0 _ rfl _ (Below.refl _ _)
  have p1 := hS 1 _ rfl _ (Below.refl _ _)
  have p2 := hS 2 _ rfl _ (Below.refl _ _)
  replace ha := hid ha
  replace hres := hid hres
  replace hT := hid hT
  unfold AG.Au.val
  go_enter Tryd.func25, Tryd.ntmps25
  go_wp2_with fail
  refine (implAutomatonValid_any a A B c d w0 ha0.out).mono ?_
  rintro e w1 ⟨rfl, hb1⟩
  have hB1 := hB0.trans (hb1.mono hB0.size)
  have hC1 := hb1.mono hz0
  have ha1 := hid (ha0.out.later hb1)
  have hz1 := hb1.size
  have hzero : soOk a = false → SoOwn w (soS a) (soOk a) (.returned (.tuple #[.agg #[.int .i64 0, .int .i64 0, .slice none 0 0], .bool false])) (((w1.setCell ⟨w.heap.size + 1, 0, none⟩ (.int .i64 0)).setCell ⟨w.heap.size + 1, 1, none⟩ (.int .i64 0)).setCell ⟨w.heap.size + 1, 2, none⟩ (.slice none 0 0)) := fun h => by
    rw [soS_zero h, h]
    exact ⟨none, 0, rfl, World.ownsRow_nil _ _ _ _, ((hB1.setCell (by simp) _).setCell (by simp) _).setCell (by simp) _⟩
  have hrb := hres.out.below hb1 hres.out.lt
  have d0 := hrb.cell 0
  have d1 := hrb.cell 1
  have d2 := hrb.cell 2
  have f0 := hrb.frozen 0
  have f1 := hrb.frozen 1
  have f2 := hrb.frozen 2
  have hlt1 := hrb.lt
  simp only [List.getElem?_toArray, List.getElem?_cons_zero, List.getElem?_cons_succ] at d0 d1 d2
  replace hzero := hid hzero
  replace hrb := hid hrb
  clear p0 p1 p2 hw0
  cases hok : auOk a
  · have hno := hid (hzero.out (by unfold soOk; rw [hok]; rfl))
    replace hok := hid hok
    go_wp2
    refine bodyPost_ret (v := .tuple #[.agg #[.int .i64 0, .int .i64 0, .slice none 0 0], .bool false]) (by simp [results, Tryd.results25, go_sem, d0, d1, d2]) rfl ?_
    exact hno.out
  obtain ⟨-, hn1, hn12, hn3, -⟩ := (auOk_iff a).1 hok
  obtain ⟨bA, oA, hAe, hbA, hEA⟩ := ha1.out.acc (by omega)
  subst hAe
  have hac0 := hEA 0 (by omega)
  rw [Nat.add_zero] at hac0
  have hso : Hid (soOk a = a.ac[0]) := hid (by
    unfold soOk
    rw [hok, Bool.true_and, List.getD_eq_getElem?_getD, List.getElem?_eq_getElem (by omega)]
    rfl)
  obtain ⟨t, ht⟩ : ∃ t, t = a.ac[0] := ⟨_, rfl⟩
  rw [← ht] at hac0 hso
  have hok' := hid hok
  have hac12 : a.ac.length ≤ 12 := by omega
  have hn3' := hid hn3
  have hal0 : (0 : Int) < (a.ac.length : Int) := by omega
  have p2 := hS 2 _ rfl _ hC1
  replace hEA := hid hEA
  clear hok hn3 ht
  cases t
  · have hno := hid (hzero.out hso.out)
    go_wp2
    refine bodyPost_ret (v := .tuple #[.agg #[.int .i64 0, .int .i64 0, .slice none 0 0], .bool false]) (by simp [results, Tryd.results25, go_sem, d0, d1, d2]) rfl ?_
    exact hno.out
  clear hzero d0 d1 d2 f0 f1 f2
  have hpar := hid (fun (wr : World) (hb : Below w1.heap.size w1 wr) => And.intro (hS 0 _ rfl _ (hC1.trans (hb.mono (by omega)))) (And.intro (hS 1 _ rfl _ (hC1.trans (hb.mono (by omega)))) (hS 2 _ rfl _ (hC1.trans (hb.mono (by omega))))))
  go_wp2_with fail
  clear hac0
  go_loopw [4, 27] (fun sv iv wr => ∃ i : Nat, iv = .int .i64 (i : Nat) ∧ i ≤ a.ac.length ∧ sv = .int .i64 (accSet a i : Nat) ∧ wr = w1) (fun _ iv _ => a.ac.length - (intOf iv).toNat)
  case atStart => exact ⟨0, rfl, by omega, rfl, rfl⟩
  case round =>
    clear p2
    obtain ⟨i, rfl, hi, rfl, rfl⟩ := hrel
    have hlt2 := accSet_lt a i
    by_cases hlt : i < a.ac.length
    · have c0 := hEA.out i hlt
      have hsucc : Hid (accSet a (i + 1) = if a.ac[i] = true then accSet a i ||| 2 ^ i else accSet a i) := hid (by
        show (if a.ac.getD i false = true then _ else _) = _
        rw [List.getD_eq_getElem?_getD, List.getElem?_eq_getElem hlt]
        rfl)
      obtain ⟨t, ht⟩ : ∃ t, t = a.ac[i] := ⟨_, rfl⟩
      rw [← ht] at c0 hsucc
      have k1 : (0 : Int) ≤ (i : Int) ∧ (i : Int) < (a.ac.length : Int) := by omega
      clear ht
      have hpw : 2 ^ i ≤ 2 ^ 12 := Nat.pow_le_pow_right (by omega) (by omega)
      cases t
      · have hs : Hid (accSet a (i + 1) = accSet a i) := hid (by rw [hsucc.out]; simp)
        clear hpw hlt2
        go_wp2_with fail
        go_roundw
        case rel => exact ⟨i + 1, by go_num, by omega, by rw [hs.out], by first | rfl | trivial⟩
        case measure => simp [intOf]; omega
      · have hs : Hid (accSet a (i + 1) = accSet a i ||| 2 ^ i) := hid (by rw [hsucc.out]; simp)
        have f1 := wrap_pow (n := i) (by omega)
        obtain ⟨S, hSs⟩ : ∃ S, Hid (S = accSet a i) := ⟨_, hid rfl⟩
        rw [← hSs.out] at hlt2 hs ⊢
        obtain ⟨P, hP⟩ : ∃ P, Hid (P = 2 ^ i) := ⟨_, hid rfl⟩
        rw [← hP.out] at hlt2 hs hpw f1
        have hor := bits_orN S P (by omega) (by omega)
        go_wp2_with fail
        go_roundw
        case rel => exact ⟨i + 1, by go_num, by omega, by rw [hs.out], by first | rfl | trivial⟩
        case measure => simp [intOf]; omega
    · obtain rfl : i = a.ac.length := by omega
      obtain ⟨wz, rfl⟩ : ∃ wz : World, wz = wr := ⟨_, rfl⟩
      obtain ⟨R, hR⟩ : ∃ R, Hid (R = accS a) := ⟨_, hid rfl⟩
      have hRe : Hid (accSet a a.ac.length = R) := hid (by rw [hR.out]; unfold accS; rw [hn3'.out])
      rw [hRe.out]
      have hR16 : R < 65536 := by rw [hR.out]; exact accS_lt hok'.out
      obtain ⟨p0, p1, p2⟩ := hpar.out _ (Below.refl _ _)
      have q0 := GK.BI.cell p0
      have q1 := GK.BI.cell p1
      clear hlt2 hlt hi
      go_upto_region 10 with fail
      clear p0 p1 p2
      refine GK.wp_region 9 [9] 200 (KeepB fun _ => False) (GK.BI wz) (fun _ u _ => u = .int .i64 ((rankN R a.nx.length : Nat) : Int)) (by kernel_rfl) (by kernel_rfl) (GK.BI.way wz) (by decide) (Below.refl _ _).drew ?_
      simp only [List.take_succ_cons, List.take_zero]
      (repeat (refine GK.grow_quiet wz (by rfl) (by rfl) ?_; intro K hK; go_big_quiet_op; go_big_quiet_on))
      refine GK.grow_val (.int .i64 ((rankN R a.nx.length : Nat) : Int)) (by rfl) rfl (fun m wq hm2 hbq _ => ?_) ?_
      · go_simp
        exact ⟨rfl, (implRank_any R a.nx.length wq hR16 (by omega)).mono fun e w' ⟨h1, h2⟩ => ⟨h1, GK.BI.after hbq (by rw [← h2]; exact Below.refl _ _)⟩⟩
      simp only [Act.put, List.setIfInBounds_toArray, List.set_cons_zero, List.set_cons_succ]
      (repeat (refine GK.grow_quiet wz (by rfl) (by rfl) ?_; intro K hK; go_big_quiet_op; go_big_quiet_on))
      refine GK.grow_new (K := fun _ => False) (by rfl) _ (fun b => .pointer (some ⟨b, 0, none⟩)) 25 #[.int .i64 0, .int .i64 0, .slice none 0 0] (fun _ => by go_simp) rfl (fun _ _ o h => GK.BI.alloc o h) (fun _ _ h => GK.BI.size h) (fun _ h => h.elim) (fun gs hgs => ?_)
      simp only [Act.put, List.setIfInBounds_toArray, List.set_cons_zero, List.set_cons_succ]
      refine GK.grow_nil ?_
      intro w2 hw2 hf
      simp only [List.filterMap_cons, List.filterMap_nil, List.getElem?_cons_zero, List.getElem?_cons_succ]
      obtain ⟨gs', e1, -, hblk⟩ := hf _ List.mem_cons_self
      cases e1
      replace hw2 : Below wz.heap.size wz w2 := hw2
      clear hf q0 q1
      have hblk' : Blk w2 gs 25 #[.int .i64 0, .int .i64 0, .slice none 0 0] := hblk
      have hgl := hblk'.lt
      have c0 := hblk'.cell 0
      have c1 := hblk'.cell 1
      have c2 := hblk'.cell 2
      have f0 := hblk'.frozen 0
      have f1 := hblk'.frozen 1
      have f2 := hblk'.frozen 2
      simp only [List.getElem?_toArray, List.getElem?_cons_zero, List.getElem?_cons_succ] at c0 c1 c2
      have hS1 : Hid (SubSt wz (((w2.setCell ⟨gs, 0, none⟩ (.int .i64 a.al)).setCell ⟨gs, 1, none⟩ (.int .i64 ((rankN R a.nx.length : Nat) : Int))).setCell ⟨gs, 2, none⟩ (.slice none 0 0)) gs a.al ((rankN R a.nx.length : Nat) : Int) (.slice none 0 0) []) := hid
        ⟨by simpa using ((hblk'.set_ 0 (.int .i64 a.al)).set_ 1 (.int .i64 ((rankN R a.nx.length : Nat) : Int))).set_ 2 (.slice none 0 0), World.ownsRow_nil _ _ _ _, hgs,
          ((hw2.setCell (by simpa using hgs) _).setCell (by simpa using hgs) _).setCell (by simpa using hgs) _⟩
      obtain ⟨w3, hw3⟩ : ∃ w3, ((w2.setCell ⟨gs, 0, none⟩ (.int .i64 a.al)).setCell ⟨gs, 1, none⟩ (.int .i64 ((rankN R a.nx.length : Nat) : Int))).setCell ⟨gs, 2, none⟩ (.slice none 0 0) = w3 := ⟨_, rfl⟩
      rw [hw3] at hS1
      obtain ⟨p0, p1, p2⟩ := hpar.out _ hS1.out.keep
      replace hblk := hid hblk
      clear hblk'
      clear p1 p2
      have hz13 := hS1.out.keep.size
      go_wp2_with fail
      refine (lettersOf_any a.al w3).mono ?_
      rintro e w4 ⟨lv, rfl, hown4, hb4⟩
      obtain ⟨AL, cL, rfl, hcL, hcL'⟩ := own_slice hown4
      obtain ⟨L, hL⟩ : ∃ L, Hid (L = letters a.al) := ⟨_, hid rfl⟩
      rw [← hL.out] at hown4 hcL ⊢
      have hS4 := hid (SoSt.mk (hS1.out.later hb4) (own_base hown4 hz13))
      have hb14 := hS4.out.sub.keep
      have hT4 := hid (hT.out.later (hB1.trans (hb14.mono hB1.size)))
      clear hown4 p0 hw3 c0 c1 c2 f0 f1 f2
      go_wp2_with fail
      refine (members_any R hR16 w4 hT4.out).mono ?_
      rintro e w5 ⟨mv, rfl, hown5, hb5⟩
      obtain ⟨AM, cM, rfl, hcM, hcM'⟩ := own_slice hown5
      obtain ⟨M, hM⟩ : ∃ M, Hid (M = memL R) := ⟨_, hid rfl⟩
      rw [← hM.out] at hown5 hcM ⊢
      have hS5 : Hid (SoSt2 wz w5 gs a.al ((rankN R a.nx.length : Nat) : Int) (.slice none 0 0) (trimEs R (gotTo a 0)) (.slice AL L.length cL) L (.slice AM M.length cM) M) := hid (SoSt2.mk (hS4.out.later hb5) (own_base hown5 hb14.size))
      have hM16 : M.length ≤ 16 := by rw [hM.out]; exact memL_len R
      have hL6 : L.length ≤ 6 := by rw [hL.out]; exact letters_len6 a.al
      have hMR : Hid (∀ q ∈ M, q < a.nx.length ∧ R.testBit q = true) := hid fun q hq => by
        rw [hM.out, memL_mem] at hq
        have h2 := hq.2
        rw [hR.out] at h2
        exact ⟨((accS_bit hok'.out q).1 h2).1, hq.2⟩
      clear hown5
      go_wp2_with fail
      go_loopw [52] (fun iv wx => ∃ (i : Nat) (v : Value), iv = .int .i64 (i : Nat) ∧ i ≤ M.length ∧ SoSt2 wz wx gs a.al ((rankN R a.nx.length : Nat) : Int) v (trimEs R (gotTo a i)) (.slice AL L.length cL) L (.slice AM M.length cM) M) (fun iv _ => M.length - (intOf iv).toNat)
      case atStart => exact ⟨0, _, rfl, by omega, hS5.out⟩
      case round =>
        obtain ⟨i, v, rfl, hi', hs⟩ := hrel
        by_cases hlt : i < M.length
        · obtain ⟨gm, cm', hve, -, -, -, -, hcell⟩ := own_nats hs.mem (by omega)
          injection hve with e1 e2 e3
          subst e1
          subst e3
          have l0 := hcell i hlt
          obtain ⟨hq1, hq2⟩ := hMR.out _ (List.getElem_mem hlt)
          have hsucc : Hid (gotTo a (i + 1) = gotTo a i ++ rowEs L M[i] a.nx[M[i]]) := hid (by
            have h1 : i < (memL (accS a)).length := by rw [← hR.out, ← hM.out]; exact hlt
            have h2 : (memL (accS a))[i] = M[i] := by simp only [hM.out, hR.out]
            rw [gotTo_succ h1 (by rw [h2]; exact hq1), ← hL.out]
            simp only [h2])
          obtain ⟨e1, hrl, hrin⟩ := row_at hok'.out hq1
          rw [← hL.out] at hrl
          obtain ⟨bR, oR, hRe', hbR, hER⟩ := ha1.out.rows (by omega)
          subst hRe'
          obtain ⟨Ai, ci, r0, h1, h2, h3⟩ := hER M[i] hq1
          rw [← hs.so.sub.keep.cell (by simpa using hbR)] at r0
          obtain ⟨q, hq⟩ : ∃ q, q = M[i] := ⟨_, rfl⟩
          obtain ⟨r, hr⟩ : ∃ r, r = a.nx[M[i]] := ⟨_, rfl⟩
          rw [← hr] at r0 h1 h3 hrl hrin hsucc
          rw [← hq] at l0 hq1 hq2 r0 hsucc
          have hrmem : Hid (r = a.nx[q]) := hid (by simp only [hr, hq])
          have p1 := (hpar.out _ hs.so.sub.keep).2.1
          have k1 : (0 : Int) ≤ (i : Int) ∧ (i : Int) < (M.length : Int) := by omega
          have k2 : (0 : Int) ≤ (q : Int) ∧ (q : Int) < (a.nx.length : Int) := by omega
          have hq16 : q < 16 := by omega
          have hs' := hid hs
          replace hcell := hid hcell
          replace hER := hid hER
          replace h3 := hid h3
          replace hrin := hid hrin
          replace e1 := hid e1
          clear hs
          replace hr := hid hr
          replace hq := hid hq
          go_wp2_with fail
          obtain ⟨wo, rfl⟩ : ∃ wo : World, wo = wr := ⟨_, rfl⟩
          go_loopw [62] (fun jv wx => ∃ (j : Nat) (v : Value), jv = .int .i64 (j : Nat) ∧ j ≤ r.length ∧ SoSt2 wz wx gs a.al ((rankN R a.nx.length : Nat) : Int) v (trimEs R (gotTo a i ++ (rowEs L q r).take j)) (.slice AL L.length cL) L (.slice (some ⟨gm, 0, none⟩) M.length cM) M) (fun jv _ => r.length - (intOf jv).toNat)
          case atStart => exact ⟨0, v, rfl, by omega, by rw [List.take_zero, List.append_nil]; exact hs'.out⟩
          case round =>
            clear l0 r0 p1 hs'
            obtain ⟨j, v, rfl, hj, hs⟩ := hrel
            by_cases hjl : j < r.length
            · obtain ⟨bi, oi, hie, hbi, hEi⟩ := h3.out (by omega)
              subst hie
              have i0c := hEi j hjl
              rw [← hs.so.sub.keep.cell (by simpa using hbi)] at i0c
              obtain ⟨t0, t1⟩ := hrin.out _ (List.getElem_mem hjl)
              have hek : Hid ((rowEs L q r).take (j + 1) = (rowEs L q r).take j ++ [⟨(q : Int), (L[j]'(by omega) : Int), r[j]⟩]) := hid (rowEs_take L q r (by omega) hjl)
              obtain ⟨tz, htz⟩ : ∃ tz, Hid (tz = r[j]) := ⟨_, hid rfl⟩
              obtain ⟨l, hll⟩ : ∃ l, Hid (l = L[j]'(by omega)) := ⟨_, hid rfl⟩
              rw [← htz.out] at i0c t0 t1 hek
              rw [← hll.out] at hek
              obtain ⟨tn, rfl⟩ := Int.eq_ofNat_of_zero_le t0
              have htn : tn < a.nx.length := by omega
              have htn16 : tn < 16 := by omega
              have c0 := hEA.out tn (by have := hn3'.out; omega)
              rw [← hs.so.sub.keep.cell (by simpa using hbA)] at c0
              have htb : Hid (R.testBit tn = a.ac[tn]'(by have := hn3'.out; omega)) := hid (by
                rw [Bool.eq_iff_iff, hR.out, accS_bit hok'.out, List.getD_eq_getElem?_getD, List.getElem?_eq_getElem (by have := hn3'.out; omega)]
                exact ⟨fun h => h.2, fun h => ⟨htn, h⟩⟩)
              obtain ⟨tb, htb'⟩ : ∃ tb, Hid (tb = a.ac[tn]'(by have := hn3'.out; omega)) := ⟨_, hid rfl⟩
              rw [← htb'.out] at c0 htb
              have hkept : Hid (keptE R ⟨(q : Int), (l : Int), (tn : Int)⟩ = tb) := hid (by
                unfold keptE
                dsimp only
                rw [Int.toNat_natCast, Int.toNat_natCast, hq2, htb.out, Bool.true_and])
              have htrim : Hid (trimE R ⟨(q : Int), (l : Int), (tn : Int)⟩ = ⟨((rankN R q : Nat) : Int), (l : Int), ((rankN R tn : Nat) : Int)⟩) := hid rfl
              have k3 : (0 : Int) ≤ (j : Int) ∧ (j : Int) < (r.length : Int) := by omega
              have k4 : (0 : Int) ≤ (tn : Int) ∧ (tn : Int) < (a.ac.length : Int) := by have := hn3'.out; omega
              have k5 : (j : Int) < (L.length : Int) := by omega
              have p2 := (hpar.out _ hs.so.sub.keep).2.2
              replace hEi := hid hEi
              obtain ⟨E, hE⟩ : ∃ E, Hid (E = trimEs R (gotTo a i ++ (rowEs L q r).take j)) := ⟨_, hid rfl⟩
              cases tb
              · have hnx : Hid (trimEs R (gotTo a i ++ (rowEs L q r).take (j + 1)) = trimEs R (gotTo a i ++ (rowEs L q r).take j)) := hid (by rw [hek.out, trim_take_miss hkept.out])
                replace hs := hid hs
                go_wp2_with fail
                go_roundw
                case rel => exact ⟨j + 1, v, by go_num, by omega, by rw [hnx.out]; exact hs.out⟩
                case measure => simp [intOf]; omega
              · have hnx : Hid (trimEs R (gotTo a i ++ (rowEs L q r).take (j + 1)) = E ++ [⟨((rankN R q : Nat) : Int), (l : Int), ((rankN R tn : Nat) : Int)⟩]) := hid (by rw [hek.out, trim_take_hit hkept.out, htrim.out, hE.out])
                rw [← hE.out] at hs
                have hEl : E.length ≤ 10000 := by
                  have h1 := trimEs_len R (gotTo a i ++ (rowEs L q r).take j)
                  rw [← hE.out, List.length_append, List.length_take] at h1
                  have h2 : (gotTo a i).length ≤ i * 6 := by
                    unfold gotTo
                    refine Nat.le_trans (flat_len6 a.al (fun q => a.nx.getD q []) _) (Nat.mul_le_mul_right 6 ?_)
                    rw [List.length_take]
                    omega
                  omega
                obtain ⟨gl, cl, hve, -, -, -, -, hlcell⟩ := own_nats hs.so.list (by omega)
                injection hve with e1' e2' e3'
                subst e1'
                subst e3'
                have l0 := hlcell j (by omega)
                rw [← hll.out] at l0
                have c2 := hs.so.sub.blk.cell 2
                simp only [List.getElem?_toArray, List.getElem?_cons_zero, List.getElem?_cons_succ] at c2
                have q0 := GK.BI.cell c2
                have q1 := GK.BI.cell l0
                replace hs := hid hs
                replace hlcell := hid hlcell
                go_upto_region 19 with fail
                clear c2 l0 i0c c0 p2
                refine GK.wp_region 14 [14, 15, 16] 200 (KeepB fun _ => False) (GK.BI wr) (fun i u _ => u = .int .i64 (((if i = 4 then rankN R q else rankN R tn) : Nat) : Int)) (by kernel_rfl) (by kernel_rfl) (GK.BI.way wr) (by decide) (Below.refl _ _).drew ?_
                simp only [List.take_succ_cons, List.take_zero]
                (repeat (refine GK.grow_quiet wr (by rfl) (by rfl) ?_; intro K hK; go_big_quiet_op; go_big_quiet_on))
                refine GK.grow_val (.int .i64 ((rankN R q : Nat) : Int)) (by rfl) rfl (fun m wq hm2 hbq _ => ?_) ?_
                · go_simp
                  exact ⟨rfl, (implRank_any R q wq hR16 (by omega)).mono fun e w' ⟨h1, h2⟩ => ⟨h1, GK.BI.after hbq (by rw [← h2]; exact Below.refl _ _)⟩⟩
                simp only [Act.put, List.setIfInBounds_toArray, List.set_cons_zero, List.set_cons_succ]
                (repeat (refine GK.grow_quiet wr (by rfl) (by rfl) ?_; intro K hK; go_big_quiet_op; go_big_quiet_on))
                refine GK.grow_val (.int .i64 ((rankN R tn : Nat) : Int)) (by rfl) rfl (fun m wq hm2 hbq _ => ?_) ?_
                · go_simp
                  exact ⟨rfl, (implRank_any R tn wq hR16 (by omega)).mono fun e w' ⟨h1, h2⟩ => ⟨h1, GK.BI.after hbq (by rw [← h2]; exact Below.refl _ _)⟩⟩
                simp only [Act.put, List.setIfInBounds_toArray, List.set_cons_zero, List.set_cons_succ]
                (repeat (refine GK.grow_quiet wr (by rfl) (by rfl) ?_; intro K hK; go_big_quiet_op; go_big_quiet_on))
                refine GK.grow_new (K := fun _ => False) (by rfl) _ (fun b => .slice (some ⟨b, 0, none⟩) 1 1) 81 #[.int .i64 ((rankN R q : Nat) : Int), .int .i64 (l : Nat), .int .i64 ((rankN R tn : Nat) : Int)] (fun _ => by go_simp) rfl (fun _ _ o h => GK.BI.alloc o h) (fun _ _ h => GK.BI.size h) (fun _ h => h.elim) (fun bb hbb2 => ?_)
                simp only [Act.put, List.setIfInBounds_toArray, List.set_cons_zero, List.set_cons_succ]
                refine GK.grow_nil ?_
                intro w6 hw6 hf
                obtain ⟨g', hge, hge2, hblk6⟩ := hf _ List.mem_cons_self
                cases hge
                clear hf
                simp only [List.filterMap_cons, List.filterMap_nil, List.getElem?_cons_zero, List.getElem?_cons_succ]
                replace hw6 : Below wr.heap.size wr w6 := hw6
                have hS6 := hid (hs.out.later hw6)
                have hown6 := hS6.out.so.sub.own
                have hbl6 := hS6.out.so.sub.blk.lt
                have ag : v.ownBlock ≠ some gs := fun e => own_ne hS6.out.so.sub.own hS6.out.so.sub.blk (by decide) gs e rfl
                have c2 := hS6.out.so.sub.blk.cell 2
                have f2 := hS6.out.so.sub.blk.frozen 2
                simp only [List.getElem?_toArray, List.getElem?_cons_zero, List.getElem?_cons_succ] at c2
                clear q0 q1
                refine wpList_append_lies _ (by rfl) _ _ 23 (by rfl) wz.heap.size 81 i0 (.agg #[.int .i64 0, .int .i64 0, .int .i64 0]) 3 24 Tryd.underlying23 hi0 hz0' hz1' hz2' rfl (by decide) v E.length (edCells E) (by rfl) hown6 ⟨bb, 0, none⟩ 1 1 [.int .i64 ((rankN R q : Nat) : Int), .int .i64 (l : Nat), .int .i64 ((rankN R tn : Nat) : Int)] (by rfl) (by rfl) (World.news_of_block hblk6) ?c1 (by omega) ?c3 ?c4 ?c5 w6.heap.size rfl ?_
                case c1 => simp [Value.oneCell']
                case c3 => unfold maxLen; omega
                case c4 => omega
                case c5 => have := hS6.out.so.sub.keep.size; omega
                intro gg cap w7 hown7 hgrow hat hlt7
                have c2' : w7.cell? ⟨gs, 2, none⟩ = some v := by rw [hgrow.cell_far _ (by simpa using hbl6) (Ne.symm ag)]; exact c2
                have f2' : w7.frozen? ⟨gs, 2, none⟩ = false := by rw [hgrow.frozen_far _ (by simpa using hbl6) (Ne.symm ag)]; exact f2
                have hfin := hid (hS6.out.add (x := ⟨((rankN R q : Nat) : Int), (l : Int), ((rankN R tn : Nat) : Int)⟩) hown7 hgrow)
                have hz7 := hgrow.size
                clear hown6 hown7 hgrow c2 f2
                go_wp2_with fail
                go_roundw
                case rel => exact ⟨j + 1, _, by go_num, by omega, by rw [hnx.out]; exact hfin.out⟩
                case measure => simp [intOf]; omega
            · obtain rfl : j = r.length := by omega
              have hfin : Hid (trimEs R (gotTo a i ++ (rowEs L q r).take r.length) = trimEs R (gotTo a (i + 1))) := hid (by
                rw [hsucc.out, List.take_of_length_le (by rw [rowEs_len]; omega)])
              replace hs := hid hs
              go_wp2_with fail
              go_roundw
              case rel => exact ⟨i + 1, v, by go_num, by omega, by rw [← hfin.out]; exact hs.out⟩
              case measure => simp [intOf]; omega
        · obtain rfl : i = M.length := by omega
          have hall : Hid (trimEs R (gotTo a M.length) = (soS a).es) := hid (by
            have h1 : M.length = (memL (accS a)).length := by rw [hM.out, hR.out]
            rw [h1, hR.out, gotTo_all hok'.out, soS_eq hso.out]
            rfl)
          rw [hall.out] at hs
          obtain ⟨Av, cv, hve, hv1, hv2⟩ := own_slice hs.so.sub.own
          subst hve
          have hbr := hs.so.sub.keep
          have c0 := hs.so.sub.blk.cell 0
          have c1 := hs.so.sub.blk.cell 1
          have c2 := hs.so.sub.blk.cell 2
          have hrb3 := hrb.out.below hbr hlt1
          have d0 := hrb3.cell 0
          have d1 := hrb3.cell 1
          have d2 := hrb3.cell 2
          have f0 := hrb3.frozen 0
          have f1 := hrb3.frozen 1
          have f2 := hrb3.frozen 2
          simp only [List.getElem?_toArray, List.getElem?_cons_zero, List.getElem?_cons_succ] at c0 c1 c2 d0 d1 d2
          have hlt3 := hrb3.lt
          have hzw1 := hB1.size
          have hox : OwnEds wr wz.heap.size (.slice Av (soS a).es.length cv) (soS a).es := hs.so.sub.own
          have hal2 : (soS a).al = a.al := soS_al hso.out
          have hst2 : (soS a).st = ((rankN R a.nx.length : Nat) : Int) := by rw [soS_eq hso.out, hR.out]; rfl
          obtain ⟨x, hx⟩ : ∃ x, x = soS a := ⟨_, rfl⟩
          rw [← hx] at hox hal2 hst2 c2 ⊢
          rw [← hal2] at c0
          rw [← hst2] at c1
          have hfin : Hid (SoOwn w (soS a) (soOk a) (.returned (.tuple #[.agg #[.int .i64 x.al, .int .i64 x.st, .slice Av x.es.length cv], .bool true])) (((wr.setCell ⟨w.heap.size + 1, 0, none⟩ (.int .i64 x.al)).setCell ⟨w.heap.size + 1, 1, none⟩ (.int .i64 x.st)).setCell ⟨w.heap.size + 1, 2, none⟩ (.slice Av x.es.length cv))) := hid (by
            rw [hso.out, ← hx]
            refine ⟨Av, cv, rfl, ?_, ?_⟩
            · have hne : ∀ g, (Value.slice Av x.es.length cv).ownBlock = some g → g ≠ w.heap.size + 1 := fun g hg => by
                have := (hox.lt g hg).1
                omega
              have hk : KeepB (fun b => b = w.heap.size + 1) wr (((wr.setCell ⟨w.heap.size + 1, 0, none⟩ (.int .i64 x.al)).setCell ⟨w.heap.size + 1, 1, none⟩ (.int .i64 x.st)).setCell ⟨w.heap.size + 1, 2, none⟩ (.slice Av x.es.length cv)) := (((KeepB.refl _ wr).setCell _ _ (by simp)).setCell _ _ (by simp)).setCell _ _ (by simp)
              exact own_base (own_keep hox hk hne) (by omega)
            · exact (((hB1.trans (hbr.mono hB1.size)).setCell (by simp) _).setCell (by simp) _).setCell (by simp) _)
          replace hs := hid hs
          replace hx := hid hx
          clear hrb3 hox hal2 hst2
          go_wp2
          refine bodyPost_ret (v := .tuple #[.agg #[.int .i64 x.al, .int .i64 x.st, .slice Av x.es.length cv], .bool true]) (by simp [results, Tryd.results25, go_sem, d0, d1, d2]) rfl ?_
          exact hfin.out

end Go.Proofs.YtolnlkccbndkcaaDoor

/- Plain: an automaton of sets is trimmed as it stands, and its state that does not accept leads nowhere else. -/
namespace Go.Proofs.YtolnlkccbndkcaaDoor
open AG

/-- What trimming makes of an automaton. -/
noncomputable def trimOpt (a : Au) : Option (List Nat × List (List Nat)) := numRes (goA a) (letters a.al) 0 a.nx.length
noncomputable def trimA (a : Au) : Au := match trimOpt a with
  | some x => ⟨a.al, toRows x.2, x.1.map fun q => a.ac.getD q false⟩
  | none => ⟨a.al, [], []⟩

theorem numRes_small {nx : Nat → Nat → Nat} {L : List Nat} {n0 lim : Nat} {x : List Nat × List (List Nat)} (h : numRes nx L n0 lim = some x) : numRes nx L n0 x.1.length = some x := by
  obtain ⟨h1, h2, -⟩ := numRes_spec h
  have hle := (numRes_len h).1
  have e : nsAt nx L n0 x.1.length = x.1 := by
    rcases Nat.lt_or_ge x.1.length (nsAt nx L n0 x.1.length).length with hl | hl
    · obtain ⟨m, hm⟩ := nsAt_pre nx L n0 x.1.length (lim - x.1.length)
      rw [show x.1.length + (lim - x.1.length) = lim from by omega, ← h1] at hm
      have := congrArg List.length hm
      rw [List.length_append] at this
      omega
    · have := nsAt_stop hl (lim - x.1.length)
      rw [show x.1.length + (lim - x.1.length) = lim from by omega, ← h1] at this
      exact this.symm
  unfold numRes
  rw [e, if_pos (Nat.le_refl _), ← h2]

theorem idxOf_range {N : List Nat} (h : N.Nodup) : N.map (fun a => N.idxOf a) = List.range N.length := by
  refine List.ext_getElem (by simp) fun i h1 h2 => ?_
  rw [List.getElem_map, List.getElem_range]
  exact h.idxOf_getElem i (by simpa using h1)

theorem trimOpt_pr {s : Sy} {al : Int} {x : List Nat × List (List Nat)} (h : prNum s al = some x) : trimOpt (prAu al x) = some (List.range x.1.length, x.2) := by
  obtain ⟨-, -, h3, h4, h5, h6⟩ := numRes_spec h
  have hs := numRes_small h
  unfold trimOpt
  have hl : (prAu al x).nx.length = x.1.length := by
    show (toRows x.2).length = _
    rw [toRows_len, (numRes_len h).2.1]
  rw [hl]
  have := numRes_map (f := fun a => x.1.idxOf a) (nx := prNx s (hidA s.al al)) (nx' := goA (prAu al x)) (P := fun a => a ∈ x.1) (L := letters al) (n0 := reachSet s (hidA s.al al) 1) (lim := x.1.length) h4
    (fun a b ha hb e => by
      have h1 := List.getElem_idxOf (List.idxOf_lt_length_iff.2 ha)
      have h2 := List.getElem_idxOf (List.idxOf_lt_length_iff.2 hb)
      rw [← h1, ← h2]
      simp only [e])
    (fun a ha l hl => ⟨h6 a ha l hl, goA_pr h ha hl⟩)
  rw [h5, hs] at this
  show numRes (goA (prAu al x)) (letters al) 0 x.1.length = _
  rw [this, Option.map_some, idxOf_range h3]

theorem trim_pr {s : Sy} {al : Int} (h : prK s al = true) : trimA (prA s al) = prA s al ∧ (trimOpt (prA s al)).isSome = true := by
  obtain ⟨hk, x, hx, e⟩ := prK_true h
  rw [e]
  have ht := trimOpt_pr hx
  have hm : (List.range x.1.length).map (fun q => (prAu al x).ac.getD q false) = (prAu al x).ac := by
    unfold prAu
    dsimp only
    refine List.ext_getElem (by simp) fun i h1 h2 => ?_
    have hi : i < x.1.length := by simpa using h1
    rw [List.getElem_map, List.getElem_range, getD_map_of_lt _ _ _ _ hi, List.getElem_map]
  constructor
  · unfold trimA
    rw [ht]
    dsimp only
    rw [hm]
    rfl
  · rw [ht]
    rfl

theorem reach_of0 (s : Sy) (h : Int) : reachSet s h 0 = 0 := by
  refine Nat.eq_of_testBit_eq fun j => ?_
  rw [Nat.zero_testBit]
  cases hj : (reachSet s h 0).testBit j with
  | false => rfl
  | true =>
    unfold reachSet at hj
    have := ((bitsOf_testBit _ 16 j).1 hj).2 (fun _ => False) (fun x hx => by simp at hx) (fun _ _ _ h => h)
    exact this.elim
/-- The set without states stays as it is. -/
theorem dead_pr {s : Sy} {al : Int} {x : List Nat × List (List Nat)} (h : prNum s al = some x) {q : Nat} (hq : q < x.1.length) (ha : (prAu al x).ac.getD q false = false) : ∀ r : List Nat, (∀ l ∈ r, l ∈ letters al) → runA (prAu al x) q r = q
  | [], _ => rfl
  | l :: r, hr => by
    have ih := dead_pr h hq ha r fun y hy => hr y (List.mem_cons_of_mem _ hy)
    show goA (prAu al x) (runA (prAu al x) q r) l = q
    rw [ih]
    have h0 : x.1[q] = 0 := by
      have e : (x.1.map fun S => decide (S ≠ 0)).getD q false = false := ha
      rw [getD_map_of_lt _ _ _ _ hq] at e
      simpa using e
    have e := goA_pr h (List.getElem_mem hq) (hr l List.mem_cons_self)
    have hi := (numRes_spec h).2.2.1.idxOf_getElem q hq
    rw [hi] at e
    rw [e]
    unfold prNx
    rw [h0, stepSet_of0, reach_of0, ← h0]
    exact hi
theorem dead_prA {s : Sy} {al : Int} (h : prK s al = true) {q : Nat} (hq : q < (prA s al).nx.length) (ha : (prA s al).ac.getD q false = false) (r : List Nat) (hr : ∀ l ∈ r, l ∈ letters (prA s al).al) : (prA s al).ac.getD (runA (prA s al) q r) false = false := by
  obtain ⟨hk, x, hx, e⟩ := prK_true h
  rw [e] at hq ha hr ⊢
  have hl : (prAu al x).nx.length = x.1.length := by
    show (toRows x.2).length = _
    rw [toRows_len, (numRes_len hx).2.1]
  rw [dead_pr hx (by omega) ha r hr]
  exact ha

end Go.Proofs.YtolnlkccbndkcaaDoor

/- Plain: systems of automata: their traces, their automata, projections in steps; deterministic systems. -/
namespace Go.Proofs.YtolnlkccbndkcaaDoor
open AG

theorem accB_word {a : Au} (h : auOk a = true) {r : List Nat} (hr : ∀ l ∈ r, l ∈ letters a.al) (hl : r.length ≤ 50000) : accB a (wordS r) = accA a r := by
  have hw := wordS_within (A := a.al) ((auOk_iff a).1 h).1 hr hl
  unfold accB accA
  rw [h, hw, autTo_word a fun l hm => (letters_lt (hr l hm)).1]
  rfl
/-- The traces of an automaton's system are the words of which all beginnings are accepted. -/
theorem hasTr_so {a : Au} (h : soOk a = true) (x : ByteArray) : hasTr (soS a) x = accB (safA a) x := by
  have hok := (soOk_iff.1 h).1
  cases hw : within x a.al
  · have h1 : accB (safA a) x = false := by
      unfold accB
      rw [show (safA a).al = a.al from rfl, hw, Bool.and_false, Bool.false_and]
    rw [h1, ← Bool.not_eq_true]
    intro h2
    have := (hasTr_ok h2).2
    rw [soS_al h, hw] at this
    cases this
  · obtain ⟨r, rfl, hr, hl⟩ := word_ex hw
    rw [accB_word (safA_ok hok) hr hl, acc_saf hok hr, hasTr_wordS (soS_ok h) (by rw [soS_al h]; exact hr) hl, Bool.eq_iff_iff, decide_eq_true_eq]
    exact setW_so_ne h hr
theorem soOk_acc {a : Au} : soOk a = accB a ⟨#[]⟩ := by
  cases hok : auOk a
  · unfold soOk accB
    rw [hok]
    rfl
  · have h1 := accB_word hok (r := []) (by simp) (by simp)
    have hw : wordS [] = ⟨#[]⟩ := rfl
    rw [hw] at h1
    rw [h1]
    unfold soOk
    rw [hok]
    rfl

theorem step_back {s : Sy} {S l t : Nat} (h : (stepSet s S l).testBit t = true) : ∃ e ∈ s.es, e.l = (l : Int) ∧ S.testBit e.f.toNat = true ∧ e.t.toNat = t := by
  unfold stepSet at h
  exact ((bitsOf_testBit _ 16 t).1 h).2
theorem step_fwd {s : Sy} (hs : sysOk s = true) {S : Nat} {e : Ed} (he : e ∈ s.es) (h : S.testBit e.f.toNat = true) : (stepSet s S (e.l.toNat : Nat)).testBit e.t.toNat = true := by
  obtain ⟨_, _, h3, h4, h5, _⟩ := sysOk_in hs e he
  unfold stepSet
  exact (bitsOf_testBit _ 16 _).2 ⟨by omega, e, he, by omega, h, rfl⟩
/-- What a word of the projection leads to is what the words with that projection lead to. -/
theorem prW_back {s : Sy} {al : Int} (hk : prOk s al = true) : ∀ r : List Nat, (∀ l ∈ r, l ∈ letters al) → ∀ q, (prW s al r).testBit q = true → ∃ u : List Nat, (∀ l ∈ u, l ∈ letters s.al) ∧ (u.filter fun l => decide (l ∈ letters al)) = r ∧ (setW s u).testBit q = true := by
  obtain ⟨hs, hal, han⟩ := prOk_parts hk
  have hin := sysOk_in hs
  have hlet : ∀ e ∈ s.es, e.l.toNat ∈ letters s.al := fun e he => by
    obtain ⟨_, _, _, _, h5, h6, h7, _⟩ := hin e he
    exact letters_ok.2 ⟨by omega, h7⟩
  have close : ∀ (r : List Nat) (X : Nat), (∀ q, X.testBit q = true → ∃ u : List Nat, (∀ l ∈ u, l ∈ letters s.al) ∧ (u.filter fun l => decide (l ∈ letters al)) = r ∧ (setW s u).testBit q = true) →
      ∀ q, (reachSet s (hidA s.al al) X).testBit q = true → ∃ u : List Nat, (∀ l ∈ u, l ∈ letters s.al) ∧ (u.filter fun l => decide (l ∈ letters al)) = r ∧ (setW s u).testBit q = true := by
    intro r X hX q hq
    unfold reachSet at hq
    refine ((bitsOf_testBit _ 16 q).1 hq).2 (fun q => ∃ u : List Nat, (∀ l ∈ u, l ∈ letters s.al) ∧ (u.filter fun l => decide (l ∈ letters al)) = r ∧ (setW s u).testBit q = true) hX fun e he hA hf => ?_
    obtain ⟨u, u1, u2, u3⟩ := hf
    refine ⟨e.l.toNat :: u, fun l hl => ?_, ?_, step_fwd hs he u3⟩
    · rcases List.mem_cons.1 hl with rfl | hl
      · exact hlet e he
      · exact u1 l hl
    · have h6 := letters_lt (hlet e he)
      rw [Has_hid (sysOk_alpha hs) hal h6.1, h6.2, Bool.true_and, Bool.not_eq_true'] at hA
      rw [List.filter_cons_of_neg (by
        rw [decide_eq_true_eq]
        intro h
        have := (letters_lt h).2
        rw [hA] at this
        cases this)]
      exact u2
  intro r
  induction r with
  | nil =>
    intro _ q hq
    refine close [] 1 (fun q hq => ⟨[], by simp, rfl, hq⟩) q ?_
    exact hq
  | cons l r ih =>
    intro hr q hq
    have hl := hr l List.mem_cons_self
    refine close (l :: r) (stepSet s (prW s al r) (l : Nat)) (fun t ht => ?_) q hq
    obtain ⟨e, he, e1, e2, rfl⟩ := step_back ht
    obtain ⟨u, u1, u2, u3⟩ := ih (fun x hx => hr x (List.mem_cons_of_mem _ hx)) _ e2
    have hel : e.l.toNat = l := by omega
    refine ⟨l :: u, fun x hx => ?_, ?_, ?_⟩
    · rcases List.mem_cons.1 hx with rfl | hx
      · rw [← hel]; exact hlet e he
      · exact u1 x hx
    · rw [List.filter_cons_of_pos (by simpa using hl), u2]
    · have := step_fwd hs he u3
      rw [hel] at this
      exact this
theorem ne_zero_bit {S : Nat} (h : S ≠ 0) : ∃ q, S.testBit q = true := Nat.exists_testBit_of_ne_zero h
theorem bit_ne_zero {S q : Nat} (h : S.testBit q = true) : S ≠ 0 := fun e => by rw [e] at h; simp at h
theorem prW_iff {s : Sy} {al : Int} (hk : prOk s al = true) {r : List Nat} (hr : ∀ l ∈ r, l ∈ letters al) : prW s al r ≠ 0 ↔ ∃ u : List Nat, (∀ l ∈ u, l ∈ letters s.al) ∧ (u.filter fun l => decide (l ∈ letters al)) = r ∧ setW s u ≠ 0 := by
  constructor
  · intro h
    obtain ⟨q, hq⟩ := ne_zero_bit h
    obtain ⟨u, u1, u2, u3⟩ := prW_back hk r hr q hq
    exact ⟨u, u1, u2, bit_ne_zero u3⟩
  · rintro ⟨u, u1, rfl, u3⟩
    obtain ⟨q, hq⟩ := ne_zero_bit u3
    exact bit_ne_zero (prW_sub hk u u1 q hq)
theorem prW_pre {s : Sy} {al : Int} {l : Nat} {r : List Nat} (h : prW s al (l :: r) ≠ 0) : prW s al r ≠ 0 := fun e => by
  apply h
  show reachSet s (hidA s.al al) (stepSet s (prW s al r) (l : Nat)) = 0
  rw [e, stepSet_zero, reach_of0]
theorem prW_nil (s : Sy) (al : Int) : prW s al [] ≠ 0 := by
  have hb : (reachSet s (hidA s.al al) 1).testBit 0 = true := (bitsOf_testBit _ 16 0).2 ⟨by omega, fun R h1 _ => h1 0 rfl⟩
  exact bit_ne_zero hb
theorem accA_prA {s : Sy} {al : Int} (h : prK s al = true) {r : List Nat} (hr : ∀ l ∈ r, l ∈ letters al) : accA (prA s al) r = decide (prW s al r ≠ 0) := by
  obtain ⟨_, x, hx, e⟩ := prK_true h
  rw [e]
  exact accA_pr hx hr
theorem safe_prA {s : Sy} {al : Int} (h : prK s al = true) : ∀ r : List Nat, (∀ l ∈ r, l ∈ letters al) → (safeA (prA s al) r = true ↔ prW s al r ≠ 0)
  | [], hr => by
    have := accA_prA h hr
    show accA (prA s al) [] = true ↔ _
    rw [this, decide_eq_true_eq]
  | l :: r, hr => by
    have ih := safe_prA h r fun x hx => hr x (List.mem_cons_of_mem _ hx)
    have := accA_prA h hr
    show (safeA (prA s al) r && accA (prA s al) (l :: r)) = true ↔ _
    rw [this, Bool.and_eq_true, ih, decide_eq_true_eq]
    exact ⟨fun h => h.2, fun h => ⟨prW_pre h, h⟩⟩
theorem soOk_prA {s : Sy} {al : Int} (h : prK s al = true) : soOk (prA s al) = true := by
  refine soOk_iff.2 ⟨auOk_prA h, ?_⟩
  exact (safe_prA h [] (by simp)).2 (prW_nil s al)
theorem letters_sub {a b : Int} (ha : 0 ≤ a) (hb : 0 ≤ b) (h : andB a b = b) {l : Nat} (hl : l ∈ letters b) : l ∈ letters a := by
  obtain ⟨h6, h2⟩ := letters_lt hl
  rw [← h, Has_and ha hb, Bool.and_eq_true] at h2
  exact letters_ok.2 ⟨h6, h2.1⟩
/-- Projecting what has been projected. -/
theorem steps_law {s : Sy} {al be : Int} (h : prK s al = true) (ht : prK (soS (prA s al)) be = true) (hy : prK s be = true) {r : List Nat} (hr : ∀ l ∈ r, l ∈ letters be) : accA (prA (soS (prA s al)) be) r = accA (prA s be) r := by
  have hso := soOk_prA h
  have e1 : (soS (prA s al)).al = al := by rw [soS_al hso, prA_al h]
  have k1 := (prK_true h).1
  have k2 := (prK_true ht).1
  have k3 := (prK_true hy).1
  obtain ⟨_, r1, _⟩ := prOk_parts k1
  obtain ⟨_, r2, a2⟩ := prOk_parts k2
  rw [e1] at a2
  have hsub : ∀ l, l ∈ letters be → l ∈ letters al := fun l hl => letters_sub r1.1 r2.1 a2 hl
  rw [accA_prA ht hr, accA_prA hy hr]
  refine decide_eq_decide.2 ?_
  rw [prW_iff k2 hr, prW_iff k3 hr]
  have hff : ∀ v : List Nat, ((v.filter fun l => decide (l ∈ letters al)).filter fun l => decide (l ∈ letters be)) = v.filter fun l => decide (l ∈ letters be) := fun v => by
    rw [List.filter_filter]
    refine List.filter_congr fun l _ => ?_
    rw [Bool.eq_iff_iff]
    simp only [Bool.and_eq_true, decide_eq_true_eq]
    exact ⟨fun h => h.1, fun h => ⟨h, hsub l h⟩⟩
  constructor
  · rintro ⟨u, u1, rfl, u3⟩
    rw [e1] at u1
    have u4 := (setW_so_ne hso (by rw [prA_al h]; exact u1)).1 u3
    obtain ⟨v, v1, rfl, v3⟩ := (prW_iff k1 u1).1 ((safe_prA h u u1).1 u4)
    exact ⟨v, v1, (hff v).symm, v3⟩
  · rintro ⟨v, v1, rfl, v3⟩
    have u1 : ∀ l ∈ v.filter fun l => decide (l ∈ letters al), l ∈ letters al := fun l hl => by simpa using (List.mem_filter.1 hl).2
    refine ⟨v.filter fun l => decide (l ∈ letters al), by rw [e1]; exact u1, hff v, ?_⟩
    exact (setW_so_ne hso (by rw [prA_al h]; exact u1)).2 ((safe_prA h _ u1).2 ((prW_iff k1 u1).2 ⟨v, v1, rfl, v3⟩))
/-- The automaton of an automaton's system. -/
theorem back_law {a : Au} (h : soOk a = true) (hk : prK (soS a) (soS a).al = true) {r : List Nat} (hr : ∀ l ∈ r, l ∈ letters a.al) : accA (prA (soS a) (soS a).al) r = accA (safA a) r := by
  have hr' : ∀ l ∈ r, l ∈ letters (soS a).al := by rw [soS_al h]; exact hr
  rw [accA_prA hk hr', acc_saf (soOk_iff.1 h).1 hr, Bool.eq_iff_iff, decide_eq_true_eq, prW_self (sysOk_alpha (soS_ok h)).1]
  exact setW_so_ne h hr
theorem detB_iff (s : Sy) : detB s = true ↔ sysOk s = true ∧ detAt s (reachAll s) s.es.length := by unfold detB; simp
theorem pow2_inj {a b : Nat} (h : 2 ^ a = 2 ^ b) : a = b := by
  rcases Nat.lt_trichotomy a b with h1 | h1 | h1
  · have := Nat.pow_lt_pow_right (a := 2) (by omega) h1; omega
  · exact h1
  · have := Nat.pow_lt_pow_right (a := 2) (by omega) h1; omega
theorem det_so {a : Au} (h : soOk a = true) : detB (soS a) = true := by
  have hok := (soOk_iff.1 h).1
  refine (detB_iff _).2 ⟨soS_ok h, ?_⟩
  refine (detAt_iff (soS_ok h)).2 fun x hx y hy _ hf hl => ?_
  obtain ⟨q, l, hq, hll, a1, a2, rfl⟩ := (soS_mem h).1 hx
  obtain ⟨q', l', hq', hll', b1, b2, rfl⟩ := (soS_mem h).1 hy
  have hf' : ((rankN (accS a) q : Nat) : Int) = ((rankN (accS a) q' : Nat) : Int) := hf
  have hl' : (l : Int) = (l' : Int) := hl
  have e1 := rank_inj ((accS_bit hok _).2 ⟨hq, a1⟩) ((accS_bit hok _).2 ⟨hq', b1⟩) (by omega)
  have e2 : l = l' := by omega
  subst e1 e2
  rfl

/-- In a deterministic system a word leads to one state at most. -/
theorem det_one {s : Sy} (h : detB s = true) : ∀ r : List Nat, setW s r = 0 ∨ ∃ q, q < 16 ∧ setW s r = 2 ^ q ∧ (reachAll s).testBit q = true := by
  have hs : sysOk s = true := ((detB_iff s).1 h).1
  have hd : DetP s := (detAt_iff hs).1 ((detB_iff s).1 h).2
  intro r
  induction r with
  | nil => exact .inr ⟨0, by omega, rfl, reach_zero⟩
  | cons l r ih =>
    have hdef : setW s (l :: r) = stepSet s (setW s r) (l : Nat) := rfl
    by_cases h0 : setW s (l :: r) = 0
    · exact .inl h0
    · right
      rcases ih with h1 | ⟨q, hq, h1, hR⟩
      · rw [hdef, h1, stepSet_zero] at h0
        exact absurd rfl h0
      · rw [hdef] at h0 ⊢
        obtain ⟨t, ht⟩ := ne_zero_bit h0
        obtain ⟨e, he, e1, e2, rfl⟩ := step_back ht
        have hef : e.f.toNat = q := by
          rw [h1, Nat.testBit_two_pow, decide_eq_true_eq] at e2
          exact e2.symm
        obtain ⟨g1, g2, g3, g4, _⟩ := sysOk_in hs e he
        refine ⟨e.t.toNat, by omega, ?_, reach_step hs he (by rw [hef]; exact hR)⟩
        refine Nat.eq_of_testBit_eq fun j => ?_
        rw [Nat.testBit_two_pow, Bool.eq_iff_iff, decide_eq_true_eq]
        constructor
        · intro hj
          obtain ⟨e', he', e1', e2', rfl⟩ := step_back hj
          have hef' : e'.f.toNat = q := by
            rw [h1, Nat.testBit_two_pow, decide_eq_true_eq] at e2'
            exact e2'.symm
          obtain ⟨g1', _⟩ := sysOk_in hs e' he'
          have := hd e he e' he' (by rw [hef]; exact hR) (by omega) (by rw [e1, e1'])
          rw [this]
        · rintro rfl
          exact ht
theorem pop_one {q : Nat} (hq : q < 16) : popE (2 ^ q) = 1 := by
  have : ∀ x : Fin 16, popE (2 ^ x.val) = 1 := by decide
  exact this ⟨q, hq⟩
theorem det_pop {s : Sy} (h : detB s = true) (r : List Nat) : popE (setW s r) ≤ 1 := by
  rcases det_one h r with h | ⟨q, hq, h, _⟩
  · rw [h]; decide
  · rw [h, pop_one hq]; exact Nat.le_refl _
theorem det_pop_aft {s : Sy} (h : detB s = true) (x : ByteArray) : popE (aft s x) ≤ 1 := by
  by_cases h0 : aft s x = 0
  · rw [h0]; decide
  · have hs : sysOk s = true := ((detB_iff s).1 h).1
    have hw : within x s.al = true := by
      cases hw : within x s.al
      · exact absurd (by unfold aft; rw [hw, Bool.and_false]; rfl) h0
      · rfl
    obtain ⟨r, rfl, hr, hl⟩ := word_ex hw
    rw [aft_wordS hs hr hl]
    exact det_pop h r

/-- Every reached state is reached by a word. -/
theorem reach_word {s : Sy} (hs : sysOk s = true) {q : Nat} (h : (reachAll s).testBit q = true) : ∃ r : List Nat, (∀ l ∈ r, l ∈ letters s.al) ∧ (setW s r).testBit q = true := by
  have h1 := ((reach_bit q).1 h).2
  refine h1 (fun q => ∃ r : List Nat, (∀ l ∈ r, l ∈ letters s.al) ∧ (setW s r).testBit q = true) (fun x hx => ⟨[], by simp, hx⟩) fun e he _ hf => ?_
  obtain ⟨r, r1, r2⟩ := hf
  obtain ⟨_, _, _, _, h5, h6, h7, _⟩ := sysOk_in hs e he
  refine ⟨e.l.toNat :: r, fun l hl => ?_, step_fwd hs he r2⟩
  rcases List.mem_cons.1 hl with rfl | hl
  · exact letters_ok.2 ⟨by omega, h7⟩
  · exact r1 l hl
theorem rank_mem_len {S : Nat} : ∀ n, n ≤ 16 → rankN S n = ((List.range n).filter fun q => S.testBit q).length
  | 0, _ => rfl
  | n + 1, h => by
    rw [rankN, rank_mem_len n (by omega), List.range_succ, List.filter_append, List.length_append]
    cases hb : S.testBit n
    · simp [hb]
    · simp [hb]
theorem nodup_zero {N : List Nat} (h : N.Nodup) : N.length = (N.filter fun x => decide (x ≠ 0)).length + (if 0 ∈ N then 1 else 0) := by
  induction N with
  | nil => simp
  | cons a N ih =>
    rw [List.nodup_cons] at h
    have ih := ih h.2
    by_cases ha : a = 0
    · subst ha
      rw [List.filter_cons_of_neg (by simp), if_pos List.mem_cons_self, List.length_cons, ih, if_neg h.1]
    · rw [List.filter_cons_of_pos (by simpa using ha), List.length_cons, List.length_cons, ih]
      have : (0 ∈ a :: N) ↔ 0 ∈ N := by
        rw [List.mem_cons]
        exact ⟨fun h => h.resolve_left fun e => ha e.symm, .inr⟩
      simp only [this]
      omega
/-- A deterministic system's automaton has its reached states, and one more for the words that are no traces. -/
theorem det_states {s : Sy} (h : detB s = true) (hk : prK s s.al = true) : (prA s s.al).nx.length = rankN (reachAll s) s.st.toNat ∨ (prA s s.al).nx.length = rankN (reachAll s) s.st.toNat + 1 := by
  have hs : sysOk s = true := ((detB_iff s).1 h).1
  obtain ⟨_, x, hx, e⟩ := prK_true hk
  have hal := (sysOk_alpha hs).1
  have hn : (prA s s.al).nx.length = x.1.length := by rw [e]; exact prA_len hx
  have hnd : x.1.Nodup := by
    have := (numRes_spec hx).1
    rw [this]
    exact nsAt_nodup _ _ _ _
  have hw : ∀ y ∈ x.1, ∃ r : List Nat, (∀ l ∈ r, l ∈ letters s.al) ∧ setW s r = y := fun y hy => by
    have := (numRes_spec hx).1
    rw [this] at hy
    obtain ⟨r, h1, _, h3⟩ := nsAt_word _ y hy
    refine ⟨r, h1, ?_⟩
    rw [← prW_self hal]
    exact h3
  have hst := sysOk_st hs
  have hR : reachAll s < 2 ^ s.st.toNat := by
    refine Nat.lt_pow_two_of_testBit _ fun j hj => ?_
    rw [← Bool.not_eq_true]
    intro hb
    obtain ⟨r, _, r2⟩ := reach_word hs hb
    exact absurd (testBit_lt (setW_small (sysOk_in hs) hst.1 r) r2) (by omega)
  have hlen : (x.1.filter fun x => decide (x ≠ 0)).length = rankN (reachAll s) s.st.toNat := by
    rw [rank_mem_len _ (by omega)]
    have hp : (x.1.filter fun x => decide (x ≠ 0)).Perm (((List.range s.st.toNat).filter fun q => (reachAll s).testBit q).map fun q => 2 ^ q) := by
      refine (List.perm_ext_iff_of_nodup (hnd.filter _) ?_).2 fun y => ?_
      · rw [List.nodup_iff_pairwise_ne, List.pairwise_map]
        refine ((List.nodup_range (n := s.st.toNat)).filter _).imp fun {a b} hab e => hab ?_
        exact pow2_inj e
      · rw [List.mem_filter, decide_eq_true_eq, List.mem_map]
        constructor
        · rintro ⟨h1, h2⟩
          obtain ⟨r, _, rfl⟩ := hw y h1
          rcases det_one h r with h3 | ⟨q, hq, h3, h4⟩
          · exact absurd h3 h2
          · refine ⟨q, ?_, h3.symm⟩
            rw [List.mem_filter, List.mem_range]
            exact ⟨testBit_lt hR h4, h4⟩
        · rintro ⟨q, hq, rfl⟩
          rw [List.mem_filter] at hq
          obtain ⟨r, r1, r2⟩ := reach_word hs hq.2
          have hpos := Nat.two_pow_pos q
          refine ⟨?_, by omega⟩
          rcases det_one h r with h3 | ⟨q', hq', h3, h4⟩
          · rw [h3] at r2
            simp at r2
          · rw [h3, Nat.testBit_two_pow, decide_eq_true_eq] at r2
            subst r2
            rw [← h3, ← prW_self hal]
            exact dW_mem hx r r1
    rw [hp.length_eq, List.length_map]
  rw [hn, nodup_zero hnd, hlen]
  split
  · right; rfl
  · left; rfl

end Go.Proofs.YtolnlkccbndkcaaDoor

/- The laws' comparisons of lists, tables of numbers, automata. -/
namespace Go.Proofs.YtolnlkccbndkcaaDoor
open Go.RowKit Go.BigFrame AG

set_option maxRecDepth 100000 in
set_option maxHeartbeats 1000000 in
theorem eqIntS_any (es fs : List Int) (A B : Option Addr) (c d : Nat) (w : World) (hn : es.length ≤ c) (hc : c ≤ 9223372036854775807) (hm : fs.length ≤ d) (_hd : d ≤ 9223372036854775807) (hr : IntsAt w w.heap.size A es) (hs : IntsAt w w.heap.size B fs) :
    Calls Tryd.prog 149 #[.slice A es.length c, .slice B fs.length d] w fun e w' => e = .returned (.bool (decide (es = fs))) ∧ Below w.heap.size w w' := by
  replace hr := hid hr
  replace hs := hid hs
  by_cases hlen : es.length = fs.length
  · go_enter Tryd.func149, Tryd.ntmps149
    go_wp2
    go_loopw [5] (fun i wr => ∃ k : Nat, i = .int .i64 k ∧ k ≤ es.length ∧ (∀ i (h : i < es.length) (h' : i < fs.length), i < k → es[i] = fs[i]) ∧ Below w.heap.size w wr) (fun i _ => es.length - (intOf i).toNat)
    case atStart => exact ⟨0, rfl, by omega, by intro i _ _ h; omega, Below.refl _ _⟩
    case round =>
      obtain ⟨k, rfl, hk, heq, hb⟩ := hrel
      by_cases hlt : k < es.length
      · obtain ⟨b, o, hA, hB, hE⟩ := hr.out (by omega)
        obtain ⟨b', o', hA', hB', hF⟩ := hs.out (by omega)
        subst hA
        subst hA'
        have e0 := hE k hlt
        have f0 := hF k (by omega)
        have k1 : (0 : Int) ≤ (k : Int) ∧ (k : Int) < (es.length : Int) ∧ (k : Int) < (fs.length : Int) := by omega
        replace hE := hid hE
        replace hF := hid hF
        have g0 : ∀ x, (Fam w.heap.size w x).cell? ⟨b, o + k, none⟩ = some (.int .i64 es[k]) := fun x => by rw [(Fam.below w.heap.size w x).cell (by simpa using hB)]; exact e0
        have i0 : ∀ x, (Fam w.heap.size w x).cell? ⟨b', o' + k, none⟩ = some (.int .i64 fs[k]) := fun x => by rw [(Fam.below w.heap.size w x).cell (by simpa using hB')]; exact f0
        clear e0 f0
        obtain ⟨x, hx⟩ : ∃ x, Hid (x = es[k]) := ⟨_, hid rfl⟩
        obtain ⟨y, hy⟩ : ∃ y, Hid (y = fs[k]) := ⟨_, hid rfl⟩
        rw [← hx.out] at g0
        rw [← hy.out] at i0
        cases hq : (x != y)
        all_goals
          replace heq := hid heq
          go_wp2_with fail
          refine wp_region_fam w.heap.size w (by kernel_rfl) (by kernel_rfl) hb ?_
          (repeat (go_big_quiet_step (fail)))
          refine wpQuiet_nil ?_
          intro w2 hw2
          replace hw2 := Fam.out hw2
          replace hq := hid hq
          go_wp2
        · go_roundw
          case rel =>
            refine ⟨k + 1, by go_num, by omega, fun i hi hi' hik => ?_, hw2⟩
            by_cases e : i = k
            · subst e; rw [← hx.out, ← hy.out]; simpa using hq.out
            · exact heq.out i hi hi' (by omega)
          case measure => simp [intOf]; omega
        · go_ret
          exact ⟨ret_bool (by
            have h1 : x ≠ y := by simpa using hq.out
            rw [hx.out, hy.out] at h1
            rw [eq_comm, decide_eq_false_iff_not]
            intro h
            subst h
            exact h1 rfl), hw2⟩
      · replace heq := hid heq
        go_wp2
        go_ret
        exact ⟨ret_bool (by
          rw [eq_comm, decide_eq_true_iff]
          exact List.ext_getElem hlen fun i hi hi' => heq.out i hi hi' (by omega)), hb⟩
  · go_enter Tryd.func149, Tryd.ntmps149
    go_wp2
    go_ret
    exact ⟨ret_bool (by rw [eq_comm, decide_eq_false_iff_not]; intro h; exact hlen (by rw [h])), Below.refl _ _⟩

set_option maxRecDepth 100000 in
set_option maxHeartbeats 1000000 in
theorem agInts_any (es fs : List Int) (A B : Option Addr) (c d : Nat) (w : World) (hn : es.length ≤ c) (hc : c ≤ 9223372036854775807) (hm : fs.length ≤ d) (_hd : d ≤ 9223372036854775807) (hr : IntsAt w w.heap.size A es) (hs : IntsAt w w.heap.size B fs) :
    Calls Tryd.prog 121 #[.slice A es.length c, .slice B fs.length d] w fun e w' => e = .returned (.bool (decide (es = fs))) ∧ Below w.heap.size w w' := by
  replace hr := hid hr
  replace hs := hid hs
  by_cases hlen : es.length = fs.length
  · go_enter Tryd.func121, Tryd.ntmps121
    go_wp2
    go_loopw [5] (fun i wr => ∃ k : Nat, i = .int .i64 k ∧ k ≤ es.length ∧ (∀ i (h : i < es.length) (h' : i < fs.length), i < k → es[i] = fs[i]) ∧ Below w.heap.size w wr) (fun i _ => es.length - (intOf i).toNat)
    case atStart => exact ⟨0, rfl, by omega, by intro i _ _ h; omega, Below.refl _ _⟩
    case round =>
      obtain ⟨k, rfl, hk, heq, hb⟩ := hrel
      by_cases hlt : k < es.length
      · obtain ⟨b, o, hA, hB, hE⟩ := hr.out (by omega)
        obtain ⟨b', o', hA', hB', hF⟩ := hs.out (by omega)
        subst hA
        subst hA'
        have e0 := hE k hlt
        have f0 := hF k (by omega)
        have k1 : (0 : Int) ≤ (k : Int) ∧ (k : Int) < (es.length : Int) ∧ (k : Int) < (fs.length : Int) := by omega
        replace hE := hid hE
        replace hF := hid hF
        have g0 : ∀ x, (Fam w.heap.size w x).cell? ⟨b, o + k, none⟩ = some (.int .i64 es[k]) := fun x => by rw [(Fam.below w.heap.size w x).cell (by simpa using hB)]; exact e0
        have i0 : ∀ x, (Fam w.heap.size w x).cell? ⟨b', o' + k, none⟩ = some (.int .i64 fs[k]) := fun x => by rw [(Fam.below w.heap.size w x).cell (by simpa using hB')]; exact f0
        clear e0 f0
        obtain ⟨x, hx⟩ : ∃ x, Hid (x = es[k]) := ⟨_, hid rfl⟩
        obtain ⟨y, hy⟩ : ∃ y, Hid (y = fs[k]) := ⟨_, hid rfl⟩
        rw [← hx.out] at g0
        rw [← hy.out] at i0
        cases hq : (x != y)
        all_goals
          replace heq := hid heq
          go_wp2_with fail
          refine wp_region_fam w.heap.size w (by kernel_rfl) (by kernel_rfl) hb ?_
          (repeat (go_big_quiet_step (fail)))
          refine wpQuiet_nil ?_
          intro w2 hw2
          replace hw2 := Fam.out hw2
          replace hq := hid hq
          go_wp2
        · go_roundw
          case rel =>
            refine ⟨k + 1, by go_num, by omega, fun i hi hi' hik => ?_, hw2⟩
            by_cases e : i = k
            · subst e; rw [← hx.out, ← hy.out]; simpa using hq.out
            · exact heq.out i hi hi' (by omega)
          case measure => simp [intOf]; omega
        · go_ret
          exact ⟨ret_bool (by
            have h1 : x ≠ y := by simpa using hq.out
            rw [hx.out, hy.out] at h1
            rw [eq_comm, decide_eq_false_iff_not]
            intro h
            subst h
            exact h1 rfl), hw2⟩
      · replace heq := hid heq
        go_wp2
        go_ret
        exact ⟨ret_bool (by
          rw [eq_comm, decide_eq_true_iff]
          exact List.ext_getElem hlen fun i hi hi' => heq.out i hi hi' (by omega)), hb⟩
  · go_enter Tryd.func121, Tryd.ntmps121
    go_wp2
    go_ret
    exact ⟨ret_bool (by rw [eq_comm, decide_eq_false_iff_not]; intro h; exact hlen (by rw [h])), Below.refl _ _⟩

set_option maxRecDepth 100000 in
set_option maxHeartbeats 1000000 in
theorem eqBoolS_any (es fs : List Bool) (A B : Option Addr) (c d : Nat) (w : World) (hn : es.length ≤ c) (hc : c ≤ 9223372036854775807) (hm : fs.length ≤ d) (_hd : d ≤ 9223372036854775807) (hr : BoolsAt w w.heap.size A es) (hs : BoolsAt w w.heap.size B fs) :
    Calls Tryd.prog 86 #[.slice A es.length c, .slice B fs.length d] w fun e w' => e = .returned (.bool (decide (es = fs))) ∧ Below w.heap.size w w' := by
  replace hr := hid hr
  replace hs := hid hs
  by_cases hlen : es.length = fs.length
  · go_enter Tryd.func86, Tryd.ntmps86
    go_wp2
    go_loopw [5] (fun i wr => ∃ k : Nat, i = .int .i64 k ∧ k ≤ es.length ∧ (∀ i (h : i < es.length) (h' : i < fs.length), i < k → es[i] = fs[i]) ∧ Below w.heap.size w wr) (fun i _ => es.length - (intOf i).toNat)
    case atStart => exact ⟨0, rfl, by omega, by intro i _ _ h; omega, Below.refl _ _⟩
    case round =>
      obtain ⟨k, rfl, hk, heq, hb⟩ := hrel
      by_cases hlt : k < es.length
      · obtain ⟨b, o, hA, hB, hE⟩ := hr.out (by omega)
        obtain ⟨b', o', hA', hB', hF⟩ := hs.out (by omega)
        subst hA
        subst hA'
        have e0 := hE k hlt
        have f0 := hF k (by omega)
        have k1 : (0 : Int) ≤ (k : Int) ∧ (k : Int) < (es.length : Int) ∧ (k : Int) < (fs.length : Int) := by omega
        replace hE := hid hE
        replace hF := hid hF
        have g0 : ∀ x, (Fam w.heap.size w x).cell? ⟨b, o + k, none⟩ = some (.bool es[k]) := fun x => by rw [(Fam.below w.heap.size w x).cell (by simpa using hB)]; exact e0
        have i0 : ∀ x, (Fam w.heap.size w x).cell? ⟨b', o' + k, none⟩ = some (.bool fs[k]) := fun x => by rw [(Fam.below w.heap.size w x).cell (by simpa using hB')]; exact f0
        clear e0 f0
        obtain ⟨x, hx⟩ : ∃ x, Hid (x = es[k]) := ⟨_, hid rfl⟩
        obtain ⟨y, hy⟩ : ∃ y, Hid (y = fs[k]) := ⟨_, hid rfl⟩
        rw [← hx.out] at g0
        rw [← hy.out] at i0
        cases x <;> cases y
        all_goals
          replace heq := hid heq
          go_wp2_with fail
          refine wp_region_fam w.heap.size w (by kernel_rfl) (by kernel_rfl) hb ?_
          (repeat (go_big_quiet_step (fail)))
          refine wpQuiet_nil ?_
          intro w2 hw2
          replace hw2 := Fam.out hw2
          go_wp2
        · go_roundw
          case rel =>
            refine ⟨k + 1, by go_num, by omega, fun i hi hi' hik => ?_, hw2⟩
            by_cases e : i = k
            · subst e; rw [← hx.out, ← hy.out]
            · exact heq.out i hi hi' (by omega)
          case measure => simp [intOf]; omega
        · go_ret
          exact ⟨ret_bool (by
            have h1 : false ≠ true := by decide
            rw [hx.out, hy.out] at h1
            rw [eq_comm, decide_eq_false_iff_not]
            intro h
            subst h
            exact h1 rfl), hw2⟩
        · go_ret
          exact ⟨ret_bool (by
            have h1 : true ≠ false := by decide
            rw [hx.out, hy.out] at h1
            rw [eq_comm, decide_eq_false_iff_not]
            intro h
            subst h
            exact h1 rfl), hw2⟩
        · go_roundw
          case rel =>
            refine ⟨k + 1, by go_num, by omega, fun i hi hi' hik => ?_, hw2⟩
            by_cases e : i = k
            · subst e; rw [← hx.out, ← hy.out]
            · exact heq.out i hi hi' (by omega)
          case measure => simp [intOf]; omega
      · replace heq := hid heq
        go_wp2
        go_ret
        exact ⟨ret_bool (by
          rw [eq_comm, decide_eq_true_iff]
          exact List.ext_getElem hlen fun i hi hi' => heq.out i hi hi' (by omega)), hb⟩
  · go_enter Tryd.func86, Tryd.ntmps86
    go_wp2
    go_ret
    exact ⟨ret_bool (by rw [eq_comm, decide_eq_false_iff_not]; intro h; exact hlen (by rw [h])), Below.refl _ _⟩

set_option maxRecDepth 100000 in
set_option maxHeartbeats 1000000 in
theorem agBools_any (es fs : List Bool) (A B : Option Addr) (c d : Nat) (w : World) (hn : es.length ≤ c) (hc : c ≤ 9223372036854775807) (hm : fs.length ≤ d) (_hd : d ≤ 9223372036854775807) (hr : BoolsAt w w.heap.size A es) (hs : BoolsAt w w.heap.size B fs) :
    Calls Tryd.prog 120 #[.slice A es.length c, .slice B fs.length d] w fun e w' => e = .returned (.bool (decide (es = fs))) ∧ Below w.heap.size w w' := by
  replace hr := hid hr
  replace hs := hid hs
  by_cases hlen : es.length = fs.length
  · go_enter Tryd.func120, Tryd.ntmps120
    go_wp2
    go_loopw [5] (fun i wr => ∃ k : Nat, i = .int .i64 k ∧ k ≤ es.length ∧ (∀ i (h : i < es.length) (h' : i < fs.length), i < k → es[i] = fs[i]) ∧ Below w.heap.size w wr) (fun i _ => es.length - (intOf i).toNat)
    case atStart => exact ⟨0, rfl, by omega, by intro i _ _ h; omega, Below.refl _ _⟩
    case round =>
      obtain ⟨k, rfl, hk, heq, hb⟩ := hrel
      by_cases hlt : k < es.length
      · obtain ⟨b, o, hA, hB, hE⟩ := hr.out (by omega)
        obtain ⟨b', o', hA', hB', hF⟩ := hs.out (by omega)
        subst hA
        subst hA'
        have e0 := hE k hlt
        have f0 := hF k (by omega)
        have k1 : (0 : Int) ≤ (k : Int) ∧ (k : Int) < (es.length : Int) ∧ (k : Int) < (fs.length : Int) := by omega
        replace hE := hid hE
        replace hF := hid hF
        have g0 : ∀ x, (Fam w.heap.size w x).cell? ⟨b, o + k, none⟩ = some (.bool es[k]) := fun x => by rw [(Fam.below w.heap.size w x).cell (by simpa using hB)]; exact e0
        have i0 : ∀ x, (Fam w.heap.size w x).cell? ⟨b', o' + k, none⟩ = some (.bool fs[k]) := fun x => by rw [(Fam.below w.heap.size w x).cell (by simpa using hB')]; exact f0
        clear e0 f0
        obtain ⟨x, hx⟩ : ∃ x, Hid (x = es[k]) := ⟨_, hid rfl⟩
        obtain ⟨y, hy⟩ : ∃ y, Hid (y = fs[k]) := ⟨_, hid rfl⟩
        rw [← hx.out] at g0
        rw [← hy.out] at i0
        cases x <;> cases y
        all_goals
          replace heq := hid heq
          go_wp2_with fail
          refine wp_region_fam w.heap.size w (by kernel_rfl) (by kernel_rfl) hb ?_
          (repeat (go_big_quiet_step (fail)))
          refine wpQuiet_nil ?_
          intro w2 hw2
          replace hw2 := Fam.out hw2
          go_wp2
        · go_roundw
          case rel =>
            refine ⟨k + 1, by go_num, by omega, fun i hi hi' hik => ?_, hw2⟩
            by_cases e : i = k
            · subst e; rw [← hx.out, ← hy.out]
            · exact heq.out i hi hi' (by omega)
          case measure => simp [intOf]; omega
        · go_ret
          exact ⟨ret_bool (by
            have h1 : false ≠ true := by decide
            rw [hx.out, hy.out] at h1
            rw [eq_comm, decide_eq_false_iff_not]
            intro h
            subst h
            exact h1 rfl), hw2⟩
        · go_ret
          exact ⟨ret_bool (by
            have h1 : true ≠ false := by decide
            rw [hx.out, hy.out] at h1
            rw [eq_comm, decide_eq_false_iff_not]
            intro h
            subst h
            exact h1 rfl), hw2⟩
        · go_roundw
          case rel =>
            refine ⟨k + 1, by go_num, by omega, fun i hi hi' hik => ?_, hw2⟩
            by_cases e : i = k
            · subst e; rw [← hx.out, ← hy.out]
            · exact heq.out i hi hi' (by omega)
          case measure => simp [intOf]; omega
      · replace heq := hid heq
        go_wp2
        go_ret
        exact ⟨ret_bool (by
          rw [eq_comm, decide_eq_true_iff]
          exact List.ext_getElem hlen fun i hi hi' => heq.out i hi hi' (by omega)), hb⟩
  · go_enter Tryd.func120, Tryd.ntmps120
    go_wp2
    go_ret
    exact ⟨ret_bool (by rw [eq_comm, decide_eq_false_iff_not]; intro h; exact hlen (by rw [h])), Below.refl _ _⟩

end Go.Proofs.YtolnlkccbndkcaaDoor

/- The laws' comparisons of tables of numbers, of automata. -/
namespace Go.Proofs.YtolnlkccbndkcaaDoor
open Go.RowKit Go.BigFrame AG

set_option maxRecDepth 100000 in
set_option maxHeartbeats 1000000 in
theorem eqIntSS_any (es fs : List (List Int)) (A B : Option Addr) (c d : Nat) (w : World) (hn : es.length ≤ c) (hc : c ≤ 9223372036854775807) (hm : fs.length ≤ d) (_hd : d ≤ 9223372036854775807) (hr : RowsAt w w.heap.size A es) (hs : RowsAt w w.heap.size B fs) :
    Calls Tryd.prog 85 #[.slice A es.length c, .slice B fs.length d] w fun e w' => e = .returned (.bool (decide (es = fs))) ∧ Below w.heap.size w w' := by
  replace hr := hid hr
  replace hs := hid hs
  by_cases hlen : es.length = fs.length
  · go_enter Tryd.func85, Tryd.ntmps85
    go_wp2
    go_loopw [5] (fun i wr => ∃ k : Nat, i = .int .i64 k ∧ k ≤ es.length ∧ (∀ i (h : i < es.length) (h' : i < fs.length), i < k → es[i] = fs[i]) ∧ Below w.heap.size w wr) (fun i _ => es.length - (intOf i).toNat)
    case atStart => exact ⟨0, rfl, by omega, by intro i _ _ h; omega, Below.refl _ _⟩
    case round =>
      obtain ⟨k, rfl, hk, heq, hb⟩ := hrel
      by_cases hlt : k < es.length
      · obtain ⟨b, o, hA, hB, hE⟩ := hr.out (by omega)
        obtain ⟨b', o', hA', hB', hF⟩ := hs.out (by omega)
        subst hA
        subst hA'
        obtain ⟨Ai, ci, e0, hAl, hAc, hAe⟩ := hE k hlt
        obtain ⟨Bi, di, f0, hBl, hBc, hBe⟩ := hF k (by omega)
        have k1 : (0 : Int) ≤ (k : Int) ∧ (k : Int) < (es.length : Int) ∧ (k : Int) < (fs.length : Int) := by omega
        replace hE := hid hE
        replace hF := hid hF
        have g0 : ∀ x, (Fam w.heap.size w x).cell? ⟨b, o + k, none⟩ = some (.slice Ai es[k].length ci) := fun x => by rw [(Fam.below w.heap.size w x).cell (by simpa using hB)]; exact e0
        have i0 : ∀ x, (Fam w.heap.size w x).cell? ⟨b', o' + k, none⟩ = some (.slice Bi fs[k].length di) := fun x => by rw [(Fam.below w.heap.size w x).cell (by simpa using hB')]; exact f0
        clear e0 f0
        have hAe' := hid (fun x => hAe.later (Fam.below w.heap.size w x))
        have hBe' := hid (fun x => hBe.later (Fam.below w.heap.size w x))
        clear hAe hBe
        cases hq : decide (es[k] = fs[k])
        all_goals
          replace hq := hid hq
          replace heq := hid heq
          go_wp2_with fail
          refine wp_region_fam w.heap.size w (by kernel_rfl) (by kernel_rfl) hb ?_
          (repeat (go_big_quiet_step ((refine (eqIntS_any es[k] fs[k] Ai Bi ci di _ hAl hAc hBl hBc (hAe'.out _) (hBe'.out _)).mono ?_; rintro e w1 ⟨rfl, hb1⟩; exact ⟨by rw [hq.out], Fam.next (Nat.le_refl _) hb1⟩))))
          refine wpQuiet_nil ?_
          intro w2 hw2
          replace hw2 := Fam.out hw2
          go_wp2
        · go_ret
          exact ⟨ret_bool (by
            have := hq.out
            rw [decide_eq_false_iff_not] at this
            rw [eq_comm, decide_eq_false_iff_not]
            intro h
            subst h
            exact this rfl), hw2⟩
        · go_roundw
          case rel =>
            refine ⟨k + 1, by go_num, by omega, fun i hi hi' hik => ?_, hw2⟩
            by_cases e : i = k
            · subst e; exact of_decide_eq_true hq.out
            · exact heq.out i hi hi' (by omega)
          case measure => simp [intOf]; omega
      · replace heq := hid heq
        go_wp2
        go_ret
        exact ⟨ret_bool (by
          rw [eq_comm, decide_eq_true_iff]
          exact List.ext_getElem hlen fun i hi hi' => heq.out i hi hi' (by omega)), hb⟩
  · go_enter Tryd.func85, Tryd.ntmps85
    go_wp2
    go_ret
    exact ⟨ret_bool (by rw [eq_comm, decide_eq_false_iff_not]; intro h; exact hlen (by rw [h])), Below.refl _ _⟩

set_option maxRecDepth 100000 in
set_option maxHeartbeats 1000000 in
theorem eqAutomaton_any (a b : Au) (A B C D : Option Addr) (c d f g : Nat) (w : World) (hr : AuAt w A c B d a) (hs : AuAt w C f D g b) :
    Calls Tryd.prog 27 #[a.val A c B d, b.val C f D g] w fun e w' => e = .returned (.bool (decide (a = b))) ∧ Below w.heap.size w w' := by
  obtain ⟨aa, an, ac⟩ := a
  obtain ⟨ba, bn, bc⟩ := b
  have hsp : Hid (decide (({ al := aa, nx := an, ac := ac } : Au) = { al := ba, nx := bn, ac := bc }) = (decide (aa = ba) && (decide (an = bn) && decide (ac = bc)))) := hid (by simp)
  obtain ⟨cl, cm, dl, dm, hr1, hr2⟩ := hr
  obtain ⟨fl, fm, gl, gm, hs1, hs2⟩ := hs
  dsimp only at cl dl fl gl hr1 hr2 hs1 hs2
  unfold AG.Au.val
  replace hr1 := hid hr1
  replace hr2 := hid hr2
  replace hs1 := hid hs1
  replace hs2 := hid hs2
  go_enter Tryd.func27, Tryd.ntmps27
  obtain ⟨w0, hw0, hz0, hB0, hS, hU⟩ := boxed2 w #[Value.int IntKind.i64 aa, Value.slice A an.length c, Value.slice B ac.length d] 32 #[Value.int IntKind.i64 ba, Value.slice C bn.length f, Value.slice D bc.length g] 32
  have p0 := hS 0 _ rfl _ (Below.refl _ _)
  have p1 := hS 1 _ rfl _ (Below.refl _ _)
  have p2 := hS 2 _ rfl _ (Below.refl _ _)
  have q0 := hU 0 _ rfl _ (Below.refl _ _)
  have q1 := hU 1 _ rfl _ (Below.refl _ _)
  have q2 := hU 2 _ rfl _ (Below.refl _ _)
  go_wp2_with fail
  · go_ret
    exact ⟨ret_bool (by rw [hsp.out]; simp_all), hB0⟩
  refine (eqIntSS_any an bn A C c f w0 cl cm fl fm (hr1.out.later hB0) (hs1.out.later hB0)).mono ?_
  rintro e w1 ⟨rfl, hb1⟩
  have hB1 := hB0.trans (hb1.mono hB0.size)
  have hC := hb1.mono hz0
  clear p0 p1 p2 q0 q1 q2
  have p2 := hS 2 _ rfl _ hC
  have q2 := hU 2 _ rfl _ hC
  by_cases hn : an = bn
  · have hn' : decide (an = bn) = true := decide_eq_true hn
    replace hn := hid hn
    go_wp2_with fail
    refine (eqBoolS_any ac bc B D d g w1 dl dm gl gm (hr2.out.later hB1) (hs2.out.later hB1)).mono ?_
    rintro e w2 ⟨rfl, hb2⟩
    have hB2 := hB1.trans (hb2.mono hB1.size)
    go_wp2
    all_goals
      go_ret
      exact ⟨ret_bool (by rw [hsp.out, hn']; simp_all), hB2⟩
  · have hn' : decide (an = bn) = false := decide_eq_false hn
    go_wp2
    go_ret
    exact ⟨ret_bool (by rw [hsp.out, hn']; simp_all), hB1⟩

end Go.Proofs.YtolnlkccbndkcaaDoor

/- The laws' agAutomata; marks in automata that came back, and whether they are held. -/
namespace Go.Proofs.YtolnlkccbndkcaaDoor
open Go.RowKit Go.BigFrame AG

set_option maxRecDepth 100000 in
set_option maxHeartbeats 2000000 in
theorem agAutomata_any (a b : Au) (A B C D : Option Addr) (c d f g : Nat) (w : World) (hr : AuAt w A c B d a) (hs : AuAt w C f D g b) :
    Calls Tryd.prog 48 #[a.val A c B d, b.val C f D g] w fun e w' => e = .returned (.bool (decide (a = b))) ∧ Below w.heap.size w w' := by
  obtain ⟨aa, an, ac⟩ := a
  obtain ⟨ba, bn, bc⟩ := b
  have hsp : Hid (decide (({ al := aa, nx := an, ac := ac } : Au) = { al := ba, nx := bn, ac := bc }) = (decide (aa = ba) && (decide (an = bn) && decide (ac = bc)))) := hid (by simp)
  obtain ⟨cl, cm, dl, dm, hr1, hr2⟩ := hr
  obtain ⟨fl, fm, gl, gm, hs1, hs2⟩ := hs
  dsimp only at cl dl fl gl hr1 hr2 hs1 hs2
  unfold AG.Au.val
  replace hr1 := hid hr1
  replace hr2 := hid hr2
  replace hs1 := hid hs1
  replace hs2 := hid hs2
  go_enter Tryd.func48, Tryd.ntmps48
  obtain ⟨w0, hw0, hz0, hB0, hS, hU⟩ := boxed2 w #[Value.int IntKind.i64 aa, Value.slice A an.length c, Value.slice B ac.length d] 32 #[Value.int IntKind.i64 ba, Value.slice C bn.length f, Value.slice D bc.length g] 32
  have p0 := hS 0 _ rfl _ (Below.refl _ _)
  have p1 := hS 1 _ rfl _ (Below.refl _ _)
  have p2 := hS 2 _ rfl _ (Below.refl _ _)
  have q0 := hU 0 _ rfl _ (Below.refl _ _)
  have q1 := hU 1 _ rfl _ (Below.refl _ _)
  have q2 := hU 2 _ rfl _ (Below.refl _ _)
  by_cases ha : aa = ba
  case neg =>
    have ha' : (aa != ba) = true := by simpa using ha
    have hd : decide (aa = ba) = false := decide_eq_false ha
    replace ha := hid ha
    go_wp2
    go_ret
    exact ⟨ret_bool (by first | rfl | (rw [hsp.out, hd]; rfl)), hB0⟩
  subst ha
  by_cases hln : an.length = bn.length
  case neg =>
    have ha' : ((an.length : Int) != (bn.length : Int)) = true := by simp; omega
    have hd : decide (an = bn) = false := decide_eq_false fun e => hln (by rw [e])
    replace hln := hid hln
    go_wp2
    go_ret
    exact ⟨ret_bool (by first | rfl | (rw [hsp.out, hd]; simp)), hB0⟩
  have hln' : ((an.length : Int) != (bn.length : Int)) = false := by simp; omega
  have haa : (aa != aa) = false := by simp
  replace hln := hid hln
  go_wp2_with fail
  refine (agBools_any ac bc B D d g w0 dl dm gl gm (hr2.out.later hB0) (hs2.out.later hB0)).mono ?_
  rintro e w1 ⟨rfl, hb1⟩
  have hB1 := hB0.trans (hb1.mono hB0.size)
  have hC1 := hb1.mono hz0
  clear p0 p1 p2 q0 q1 q2
  by_cases hac : ac = bc
  case neg =>
    have hd : decide (ac = bc) = false := decide_eq_false hac
    replace hac := hid hac
    rw [hd]
    go_wp2
    go_ret
    exact ⟨ret_bool (by first | rfl | (rw [hsp.out, hd]; simp)), hB1⟩
  have hd : decide (ac = bc) = true := decide_eq_true hac
  replace hac := hid hac
  rw [hd]
  have hz1 := hb1.size
  go_wp2_with fail
  go_loopw [5] (fun i wr => ∃ k : Nat, i = .int .i64 k ∧ k ≤ an.length ∧ (∀ i (h : i < an.length) (h' : i < bn.length), i < k → an[i] = bn[i]) ∧ Below w1.heap.size w1 wr) (fun i _ => an.length - (intOf i).toNat)
  case atStart => exact ⟨0, rfl, by omega, by intro i _ _ h; omega, Below.refl _ _⟩
  case round =>
    obtain ⟨k, rfl, hk, heq, hb⟩ := hrel
    have hCr := hC1.trans (hb.mono (by omega))
    have p1 := hS 1 _ rfl _ hCr
    have q1 := hU 1 _ rfl _ hCr
    by_cases hlt : k < an.length
    · have hrr := hr1.out.later hB1
      have hss := hs1.out.later hB1
      obtain ⟨b, o, hA, hB, hE⟩ := hrr (by omega)
      have hkb : k < bn.length := by have := hln.out; omega
      obtain ⟨b', o', hA', hB', hF⟩ := hss (by omega)
      subst hA
      subst hA'
      obtain ⟨Ai, ci, e0, hAl, hAc, hAe⟩ := hE k hlt
      obtain ⟨Bi, di, f0, hBl, hBc, hBe⟩ := hF k hkb
      have k1 : (0 : Int) ≤ (k : Int) ∧ (k : Int) < (an.length : Int) ∧ (k : Int) < (bn.length : Int) := by omega
      replace hE := hid hE
      replace hF := hid hF
      have g0 : ∀ x, (Fam w1.heap.size w1 x).cell? ⟨b, o + k, none⟩ = some (.slice Ai an[k].length ci) := fun x => by rw [(Fam.below w1.heap.size w1 x).cell (by simpa using hB)]; exact e0
      have i0 : ∀ x, (Fam w1.heap.size w1 x).cell? ⟨b', o' + k, none⟩ = some (.slice Bi bn[k].length di) := fun x => by rw [(Fam.below w1.heap.size w1 x).cell (by simpa using hB')]; exact f0
      have u1 := fun x => hS 1 _ rfl _ (hC1.trans ((Fam.below w1.heap.size w1 x).mono (by omega)))
      have v1 := fun x => hU 1 _ rfl _ (hC1.trans ((Fam.below w1.heap.size w1 x).mono (by omega)))
      clear e0 f0
      have hAe' := hid (fun x => hAe.later (Fam.below w1.heap.size w1 x))
      have hBe' := hid (fun x => hBe.later (Fam.below w1.heap.size w1 x))
      clear hAe hBe
      replace hrr := hid hrr
      replace hss := hid hss
      cases hq : decide (an[k] = bn[k])
      all_goals
        replace hq := hid hq
        replace heq := hid heq
        go_wp2_with fail
        clear p1 q1
        refine wp_region_fam w1.heap.size w1 (by kernel_rfl) (by kernel_rfl) hb ?_
        (repeat (go_big_quiet_step ((refine (agInts_any an[k] bn[k] Ai Bi ci di _ hAl hAc hBl hBc (hAe'.out _) (hBe'.out _)).mono ?_; rintro e w2 ⟨rfl, hb2⟩; exact ⟨by rw [hq.out], Fam.next (Nat.le_refl _) hb2⟩))))
        refine wpQuiet_nil ?_
        intro w2 hw2
        replace hw2 := Fam.out hw2
        clear u1 v1 g0 i0
        go_wp2
      · go_ret
        exact ⟨ret_bool (by
          have := hq.out
          rw [decide_eq_false_iff_not] at this
          rw [eq_comm, hsp.out, show decide (an = bn) = false from decide_eq_false fun h => this (by subst h; rfl)]
          simp), hB1.trans (hw2.mono hB1.size)⟩
      · go_roundw
        case rel =>
          refine ⟨k + 1, by go_num, by omega, fun i hi hi' hik => ?_, hw2⟩
          by_cases e : i = k
          · subst e; exact of_decide_eq_true hq.out
          · exact heq.out i hi hi' (by omega)
        case measure => simp [intOf]; omega
    · replace heq := hid heq
      go_wp2
      go_ret
      exact ⟨ret_bool (by
        rw [eq_comm, hsp.out, show decide (an = bn) = true from decide_eq_true (List.ext_getElem hln.out fun i hi hi' => heq.out i hi hi' (by omega)), hd]
        simp), hB1.trans (hb.mono hB1.size)⟩

end Go.Proofs.YtolnlkccbndkcaaDoor

/- The laws' marks in automata that came back, and whether they are held. -/
namespace Go.Proofs.YtolnlkccbndkcaaDoor
open Go.RowKit Go.BigFrame AG

def marksI (n : Nat) (k : Int) : List Int := (List.range n).map fun (i : Nat) => k + (i : Int)
def marksB (n : Nat) (k : Int) : List Bool := (List.range n).map fun (i : Nat) => decide ((k + (i : Int)) % 3 = 0)
def markV : List RowV → Int → List RowV
  | [], _ => []
  | x :: xs, k => ⟨marksI x.r.length k, x.A, x.c⟩ :: markV xs (k + (x.r.length : Int))
def marksR : List (List Int) → Int → List (List Int)
  | [], _ => []
  | r :: rs, k => marksI r.length k :: marksR rs (k + (r.length : Int))
def cntR (rs : List (List Int)) : Nat := (rs.map List.length).sum
theorem marksI_len (n : Nat) (k : Int) : (marksI n k).length = n := by simp [marksI]
theorem marksB_len (n : Nat) (k : Int) : (marksB n k).length = n := by simp [marksB]
theorem marksI_at {n : Nat} {k : Int} {i : Nat} (h : i < (marksI n k).length) : (marksI n k)[i] = k + (i : Int) := by simp [marksI]
theorem marksB_at {n : Nat} {k : Int} {i : Nat} (h : i < (marksB n k).length) : (marksB n k)[i] = decide ((k + (i : Int)) % 3 = 0) := by simp [marksB]
theorem markV_len : ∀ (xs : List RowV) (k : Int), (markV xs k).length = xs.length
  | [], _ => rfl
  | x :: xs, k => by rw [markV, List.length_cons, List.length_cons, markV_len xs]
theorem markV_vals : ∀ (xs : List RowV) (k : Int), rowVals (markV xs k) = rowVals xs
  | [], _ => rfl
  | x :: xs, k => by
    have := markV_vals xs (k + (x.r.length : Int))
    unfold rowVals at this ⊢
    rw [markV, List.map_cons, List.map_cons, this]
    congr 1
    unfold RowV.v
    rw [marksI_len]
theorem markV_rows : ∀ (xs : List RowV) (k : Int), (markV xs k).map (·.r) = marksR (xs.map (·.r)) k
  | [], _ => rfl
  | x :: xs, k => by rw [markV, List.map_cons, List.map_cons, marksR, markV_rows xs]
theorem marksR_len : ∀ (rs : List (List Int)) (k : Int), (marksR rs k).length = rs.length
  | [], _ => rfl
  | r :: rs, k => by rw [marksR, List.length_cons, List.length_cons, marksR_len rs]
theorem cntR_take {rs : List (List Int)} {j : Nat} (h : j < rs.length) : cntR (rs.take (j + 1)) = cntR (rs.take j) + rs[j].length := by
  unfold cntR
  rw [List.take_succ_eq_append_getElem h, List.map_append, List.sum_append]
  simp
theorem cntR_le (rs : List (List Int)) (j : Nat) : cntR (rs.take j) ≤ cntR rs := by
  unfold cntR
  have : rs = rs.take j ++ rs.drop j := (List.take_append_drop j rs).symm
  conv => rhs; rw [this, List.map_append, List.sum_append]
  omega
theorem cntR_more {rs : List (List Int)} {j : Nat} (h : j < rs.length) : cntR (rs.take j) + rs[j].length ≤ cntR rs := by
  rw [← cntR_take h]
  exact cntR_le _ _
theorem markV_append : ∀ (xs ys : List RowV) (k : Int), markV (xs ++ ys) k = markV xs k ++ markV ys (k + (cntR (xs.map (·.r)) : Int))
  | [], ys, k => by simp [markV, cntR]
  | x :: xs, ys, k => by
    rw [List.cons_append, markV, markV, markV_append xs ys]
    unfold cntR
    simp only [List.map_cons, List.sum_cons, List.cons_append]
    congr 3
    omega
theorem marksR_at : ∀ (rs : List (List Int)) (k : Int) (j : Nat) (h : j < rs.length), (marksR rs k)[j]'(by rw [marksR_len]; exact h) = marksI rs[j].length (k + (cntR (rs.take j) : Int))
  | r :: rs, k, 0, _ => by simp [marksR, cntR]
  | r :: rs, k, j + 1, h => by
    have := marksR_at rs (k + (r.length : Int)) j (by simpa using h)
    simp only [marksR, List.getElem_cons_succ]
    rw [this]
    unfold cntR
    simp only [List.take_succ_cons, List.map_cons, List.sum_cons]
    congr 1
    omega

/-- A row is written anew. -/
theorem RowsOwn.set_ {w w' : World} {base : Nat} {v : Value} {l1 l2 : List RowV} {x x' : RowV} (h : RowsOwn w base v (l1 ++ x :: l2)) (hk : KeepB (fun b => x.v.ownBlock = some b) w w') (hv : x'.v = x.v)
    (ho : w'.ownsRow base 3 1 x'.v x'.r.length (intVals x'.r)) : RowsOwn w' base v (l1 ++ x' :: l2) := by
  obtain ⟨h1, h2, h3⟩ := h
  have hx := h2 x (by simp)
  rw [List.pairwise_append, List.pairwise_cons] at h3
  refine ⟨?_, fun y hy => ?_, ?_⟩
  · have e : rowVals (l1 ++ x' :: l2) = rowVals (l1 ++ x :: l2) := by unfold rowVals; simp [hv]
    rw [e]
    have e2 : (l1 ++ x' :: l2).length = (l1 ++ x :: l2).length := by simp
    rw [e2]
    exact own_keep h1 hk fun g hg e => own_ne_own h1 hx (by decide) g g hg e rfl
  · rw [List.mem_append, List.mem_cons] at hy
    rcases hy with hy | rfl | hy
    · exact own_keep (h2 y (by simp [hy])) hk fun g hg e => h3.2.2 y hy x List.mem_cons_self g hg e
    · exact ho
    · exact own_keep (h2 y (by simp [hy])) hk fun g hg e => h3.2.1.1 y hy g e hg
  · rw [List.pairwise_append, List.pairwise_cons]
    refine ⟨h3.1, ⟨fun y hy => by rw [hv]; exact h3.2.1.1 y hy, h3.2.1.2⟩, fun a ha b hb => ?_⟩
    rcases List.mem_cons.1 hb with rfl | hb
    · rw [hv]; exact h3.2.2 a ha x List.mem_cons_self
    · exact h3.2.2 a ha b (List.mem_cons_of_mem _ hb)

theorem tmod3 {k : Int} (h : 0 ≤ k) : Int.tmod k 3 = k % 3 := Int.tmod_eq_emod_of_nonneg h

set_option maxRecDepth 100000 in
set_option maxHeartbeats 1000000 in
theorem markIntS_any (A : Option Addr) (n c base : Nat) (xs : List Int) (k : Int) (w : World) (h0 : 0 ≤ k) (h1 : k + n ≤ 1152921504606846976) (ho : w.ownsRow base 3 1 (.slice A n c) n (intVals xs)) :
    Calls Tryd.prog 150 #[.slice A n c, .int .i64 k] w fun e w' => e = .returned (.int .i64 (k + n)) ∧ w'.ownsRow base 3 1 (.slice A n c) n (intVals (marksI n k)) ∧ KeepB (fun b => (Value.slice A n c).ownBlock = some b) w w' := by
  by_cases hn : n = 0
  · subst hn
    replace ho := hid ho
    go_enter Tryd.func150, Tryd.ntmps150
    go_wp2
    go_loopw [1, 5] (fun kv i wr => kv = .int .i64 k ∧ i = .int .i64 0 ∧ wr = w) (fun _ _ _ => 0)
    case atStart => exact ⟨rfl, rfl, rfl⟩
    case round =>
      obtain ⟨rfl, rfl, rfl⟩ := hrel
      go_wp2
      go_ret
      refine ⟨ret_int (by omega), ?_, KeepB.refl _ _⟩
      have := ho.out
      have e : xs = [] := by have := this.1; unfold intVals at this; simpa using this
      subst e
      exact this
  · obtain ⟨hl, ⟨hv, h⟩ | ⟨g, cap, cur, hv, hb, hg, hnc, hcm, hsz, htk⟩⟩ := ho
    · omega
    · injection hv with e1 _ e3
      subst e1
      subst e3
      have hblk : Blk w g 3 cur := hg
      have hcs : cur.size = c := by omega
      unfold maxLen at hcm
      replace hblk := hid hblk
      replace htk := hid htk
      replace hg := hid hg
      go_enter Tryd.func150, Tryd.ntmps150
      go_wp2
      go_loopw [1, 5] (fun kv i wr => ∃ (j : Nat) (cs : Array Value), kv = .int .i64 (k + j) ∧ i = .int .i64 (j : Nat) ∧ j ≤ n ∧ Blk wr g 3 cs ∧ cs.size = c ∧ (∀ i, i < j → cs[i]? = some (.int .i64 (k + i))) ∧ KeepB (fun b => b = g) w wr) (fun _ i _ => n - (intOf i).toNat)
      case atStart => exact ⟨0, cur, by simp, rfl, by omega, hblk.out, hcs, fun i hi => by omega, KeepB.refl _ _⟩
      case round =>
        obtain ⟨j, cs, rfl, rfl, hj, hbr, hs, hin, hkp⟩ := hrel
        by_cases hlt : j < n
        · obtain ⟨v0, d0⟩ := hbr.some_ (i := j) (by omega)
          have z0 := hbr.frozen j
          have k1 : (0 : Int) ≤ (j : Int) ∧ (j : Int) < (n : Int) := by omega
          have hb2 := hid (hbr.set_ j (.int .i64 (k + j)))
          have hk2 := hid (hkp.setCell ⟨g, j, none⟩ (.int .i64 (k + j)) fun _ => rfl)
          replace hin := hid hin
          replace hbr := hid hbr
          go_wp2
          go_roundw
          case rel =>
            refine ⟨j + 1, _, by go_num, by go_num, by omega, hb2.out, by simpa using hs, fun i hi => ?_, hk2.out⟩
            by_cases e : i = j
            · subst e; rw [Array.getElem?_setIfInBounds_self_of_lt (by omega)]
            · rw [Array.getElem?_setIfInBounds_ne (Ne.symm e)]; exact hin.out i (by omega)
          case measure => simp [intOf]; omega
        · obtain rfl : j = n := by omega
          have hfin : Hid (wr.ownsRow base 3 1 (.slice (some ⟨g, 0, none⟩) j c) j (intVals (marksI j k))) := hid ⟨by unfold intVals; simp [marksI_len], .inr ⟨g, c, cs, rfl, hb, hbr, hnc, by unfold maxLen; omega, by omega, by
            refine List.ext_getElem? fun i => ?_
            rw [List.getElem?_take]
            by_cases hi : i < j
            · rw [if_pos (by omega), Array.getElem?_toList, hin i hi]
              unfold intVals
              rw [List.getElem?_map, List.getElem?_eq_getElem (by rw [marksI_len]; exact hi), marksI_at]
              rfl
            · rw [if_neg (by omega), List.getElem?_eq_none (by unfold intVals; rw [List.length_map, marksI_len]; omega)]⟩⟩
          replace hin := hid hin
          replace hbr := hid hbr
          go_wp2
          go_ret
          exact ⟨rfl, hfin.out, hkp.mono fun b e => by rw [e]; rfl⟩

set_option maxRecDepth 100000 in
set_option maxHeartbeats 1000000 in
theorem markBoolS_any (A : Option Addr) (n c base : Nat) (xs : List Bool) (k : Int) (w : World) (h0 : 0 ≤ k) (h1 : k + n ≤ 1152921504606846976) (ho : w.ownsRow base 4 1 (.slice A n c) n (boolVals xs)) :
    Calls Tryd.prog 88 #[.slice A n c, .int .i64 k] w fun e w' => e = .returned (.int .i64 (k + n)) ∧ w'.ownsRow base 4 1 (.slice A n c) n (boolVals (marksB n k)) ∧ KeepB (fun b => (Value.slice A n c).ownBlock = some b) w w' := by
  by_cases hn : n = 0
  · subst hn
    replace ho := hid ho
    go_enter Tryd.func88, Tryd.ntmps88
    go_wp2
    go_loopw [1, 5] (fun kv i wr => kv = .int .i64 k ∧ i = .int .i64 0 ∧ wr = w) (fun _ _ _ => 0)
    case atStart => exact ⟨rfl, rfl, rfl⟩
    case round =>
      obtain ⟨rfl, rfl, rfl⟩ := hrel
      go_wp2
      go_ret
      refine ⟨ret_int (by omega), ?_, KeepB.refl _ _⟩
      have := ho.out
      have e : xs = [] := by have := this.1; unfold boolVals at this; simpa using this
      subst e
      exact this
  · obtain ⟨hl, ⟨hv, h⟩ | ⟨g, cap, cur, hv, hb, hg, hnc, hcm, hsz, htk⟩⟩ := ho
    · omega
    · injection hv with e1 _ e3
      subst e1
      subst e3
      have hblk : Blk w g 4 cur := hg
      have hcs : cur.size = c := by omega
      unfold maxLen at hcm
      replace hblk := hid hblk
      replace htk := hid htk
      replace hg := hid hg
      go_enter Tryd.func88, Tryd.ntmps88
      go_wp2
      go_loopw [1, 5] (fun kv i wr => ∃ (j : Nat) (cs : Array Value), kv = .int .i64 (k + j) ∧ i = .int .i64 (j : Nat) ∧ j ≤ n ∧ Blk wr g 4 cs ∧ cs.size = c ∧ (∀ i : Nat, i < j → cs[i]? = some (.bool (decide ((k + (i : Int)) % 3 = 0)))) ∧ KeepB (fun b => b = g) w wr) (fun _ i _ => n - (intOf i).toNat)
      case atStart => exact ⟨0, cur, by simp, rfl, by omega, hblk.out, hcs, fun i hi => by omega, KeepB.refl _ _⟩
      case round =>
        obtain ⟨j, cs, rfl, rfl, hj, hbr, hs, hin, hkp⟩ := hrel
        by_cases hlt : j < n
        · obtain ⟨v0, d0⟩ := hbr.some_ (i := j) (by omega)
          have z0 := hbr.frozen j
          have k1 : (0 : Int) ≤ (j : Int) ∧ (j : Int) < (n : Int) := by omega
          have hm3 := tmod3 (show (0 : Int) ≤ k + (j : Int) by omega)
          obtain ⟨m, hm⟩ : ∃ m, m = (k + (j : Int)) % 3 := ⟨_, rfl⟩
          rw [← hm] at hm3
          have hmb : (m == 0) = decide ((k + (j : Int)) % 3 = 0) := by rw [hm]; rfl
          have hb2 := fun u => hid (hbr.set_ j (.bool u))
          have hk2 := fun u => hid (hkp.setCell ⟨g, j, none⟩ (.bool u) fun _ => rfl)
          replace hin := hid hin
          replace hbr := hid hbr
          replace hm := hid hm
          replace hmb := hid hmb
          go_wp2
          go_roundw
          case rel =>
            refine ⟨j + 1, _, by go_num, by go_num, by omega, (hb2 _).out, by simpa using hs, fun i hi => ?_, (hk2 _).out⟩
            by_cases e : i = j
            · subst e; rw [Array.getElem?_setIfInBounds_self_of_lt (by omega), hmb.out]
            · rw [Array.getElem?_setIfInBounds_ne (Ne.symm e)]; exact hin.out i (by omega)
          case measure => simp [intOf]; omega
        · obtain rfl : j = n := by omega
          have hfin : Hid (wr.ownsRow base 4 1 (.slice (some ⟨g, 0, none⟩) j c) j (boolVals (marksB j k))) := hid ⟨by unfold boolVals; simp [marksB_len], .inr ⟨g, c, cs, rfl, hb, hbr, hnc, by unfold maxLen; omega, by omega, by
            refine List.ext_getElem? fun i => ?_
            rw [List.getElem?_take]
            by_cases hi : i < j
            · rw [if_pos (by omega), Array.getElem?_toList, hin i hi]
              unfold boolVals
              rw [List.getElem?_map, List.getElem?_eq_getElem (by rw [marksB_len]; exact hi), marksB_at]
              rfl
            · rw [if_neg (by omega), List.getElem?_eq_none (by unfold boolVals; rw [List.length_map, marksB_len]; omega)]⟩⟩
          replace hin := hid hin
          replace hbr := hid hbr
          go_wp2
          go_ret
          exact ⟨rfl, hfin.out, hkp.mono fun b e => by rw [e]; rfl⟩

end Go.Proofs.YtolnlkccbndkcaaDoor

/- Marks in tables and automata, and whether they are held. -/
namespace Go.Proofs.YtolnlkccbndkcaaDoor
open Go.RowKit Go.BigFrame AG

set_option maxRecDepth 100000 in
set_option maxHeartbeats 1000000 in
theorem markIntSS_any (base : Nat) (v : Value) (xs : List RowV) (k : Int) (w : World) (h0 : 0 ≤ k) (h1 : k + cntR (xs.map (·.r)) ≤ 1152921504606846976) (ho : RowsOwn w base v xs) :
    Calls Tryd.prog 87 #[v, .int .i64 k] w fun e w' => e = .returned (.int .i64 (k + cntR (xs.map (·.r)))) ∧ RowsOwn w' base v (markV xs k) ∧ KeepB (fun b => ∃ x ∈ xs, x.v.ownBlock = some b) w w' := by
  obtain ⟨A, c, rfl, hnc, hcm⟩ := own_slice ho.own
  replace ho := hid ho
  go_enter Tryd.func87, Tryd.ntmps87
  go_wp2
  go_loopw [1, 5] (fun kv i wr => ∃ j : Nat, kv = .int .i64 (k + cntR ((xs.take j).map (·.r))) ∧ i = .int .i64 (j : Nat) ∧ j ≤ xs.length ∧ RowsOwn wr base (.slice A xs.length c) (markV (xs.take j) k ++ xs.drop j) ∧ KeepB (fun b => ∃ x ∈ xs, x.v.ownBlock = some b) w wr) (fun _ i _ => xs.length - (intOf i).toNat)
  case atStart => exact ⟨0, by simp [cntR], rfl, by omega, by simpa [markV] using ho.out, KeepB.refl _ _⟩
  case round =>
    obtain ⟨j, rfl, rfl, hj, hro, hkp⟩ := hrel
    by_cases hlt : j < xs.length
    · have hd : xs.drop j = xs[j] :: xs.drop (j + 1) := List.drop_eq_getElem_cons hlt
      have htk : xs.take (j + 1) = xs.take j ++ [xs[j]] := List.take_succ_eq_append_getElem hlt
      have hc0 := cntR_take (rs := xs.map (·.r)) (j := j) (by simpa using hlt)
      have hc1 := cntR_more (rs := xs.map (·.r)) (j := j) (by simpa using hlt)
      rw [← List.map_take, ← List.map_take, List.getElem_map] at hc0
      rw [← List.map_take, List.getElem_map] at hc1
      rw [hd] at hro
      have hx := hro.rows xs[j] (List.mem_append_right _ List.mem_cons_self)
      have hxb : ∀ b, xs[j].v.ownBlock = some b → ∃ x ∈ xs, x.v.ownBlock = some b := fun b e => ⟨_, List.getElem_mem hlt, e⟩
      obtain ⟨g, cap, hve, hg1, hg2, -, -, hcell⟩ := own_shape hro.own (by rw [List.length_append, List.length_cons]; omega)
      have hvals : (rowVals (markV (xs.take j) k ++ xs[j] :: xs.drop (j + 1)))[j]? = some xs[j].v := by
        unfold rowVals
        have hl : (markV (xs.take j) k).length = j := by rw [markV_len, List.length_take]; omega
        rw [List.map_append, List.getElem?_append_right (by rw [List.length_map]; omega), List.length_map, hl, Nat.sub_self, List.map_cons, List.getElem?_cons_zero]
      have c0 := hcell j _ hvals
      injection hve with e1 e2 e3
      subst e1
      clear e2 e3
      have hset : Hid (∀ w', KeepB (fun b => xs[j].v.ownBlock = some b) wr w' → w'.ownsRow base 3 1 (RowV.v ⟨marksI xs[j].r.length (k + cntR ((xs.take j).map (·.r))), xs[j].A, xs[j].c⟩) (marksI xs[j].r.length (k + cntR ((xs.take j).map (·.r)))).length (intVals (marksI xs[j].r.length (k + cntR ((xs.take j).map (·.r))))) →
          RowsOwn w' base (.slice (some ⟨g, 0, none⟩) xs.length c) (markV (xs.take (j + 1)) k ++ xs.drop (j + 1))) := hid fun w' hk' ho' => by
        have := hro.set_ hk' (x' := ⟨marksI xs[j].r.length (k + cntR ((xs.take j).map (·.r))), xs[j].A, xs[j].c⟩) (by unfold RowV.v; rw [marksI_len]) ho'
        rw [htk, markV_append]
        simpa [markV] using this
      obtain ⟨x, hxx⟩ : ∃ x, x = xs[j] := ⟨_, rfl⟩
      rw [← hxx] at hc0 hc1 c0 hset hx hxb
      obtain ⟨q, hq⟩ : ∃ q, q = cntR ((xs.take j).map (·.r)) := ⟨_, rfl⟩
      rw [← hq] at hc0 hc1 hset ⊢
      unfold RowV.v at c0
      have k1 : (0 : Int) ≤ (j : Int) ∧ (j : Int) < (xs.length : Int) := by omega
      replace hro := hid hro
      replace hcell := hid hcell
      replace hx := hid hx
      replace hxb := hid hxb
      replace hxx := hid hxx
      replace hq := hid hq
      replace hd := hid hd
      replace htk := hid htk
      replace hvals := hid hvals
      replace hc0 := hid hc0
      go_wp2_with fail
      refine (markIntS_any x.A x.r.length x.c base x.r (k + q) wr (by omega) (by omega) hx.out).mono ?_
      rintro e w1 ⟨rfl, ho1, hk1⟩
      have hro1 := hid (hset.out w1 hk1 (by unfold RowV.v; dsimp only; rw [marksI_len]; exact ho1))
      have hkp1 := hid (hkp.trans (hk1.mono fun b e => hxb.out b e))
      clear ho1 hk1
      go_wp2_with fail
      go_roundw
      case rel => exact ⟨j + 1, by rw [hc0.out]; go_num, by go_num, by omega, hro1.out, hkp1.out⟩
      case measure => simp [intOf]; omega
    · obtain rfl : j = xs.length := by omega
      rw [List.take_length, List.drop_length, List.append_nil] at hro
      rw [List.take_length]
      replace hro := hid hro
      go_wp2
      go_ret
      exact ⟨rfl, hro.out, hkp⟩

set_option maxRecDepth 100000 in
set_option maxHeartbeats 1000000 in
theorem markAutomaton_any (base : Nat) (v1 v2 : Value) (a : Au) (xs : List RowV) (k : Int) (w : World) (h0 : 0 ≤ k) (h1 : k + cntR a.nx + a.ac.length ≤ 1152921504606846976) (ho : AuOwn w base v1 v2 a xs) :
    Calls Tryd.prog 28 #[.agg #[.int .i64 a.al, v1, v2], .int .i64 k] w fun e w' => e = .returned (.int .i64 (k + cntR a.nx + a.ac.length)) ∧ AuOwn w' base v1 v2 ⟨a.al, marksR a.nx k, marksB a.ac.length (k + cntR a.nx)⟩ (markV xs k) ∧ KeepB (fun b => (∃ x ∈ xs, x.v.ownBlock = some b) ∨ v2.ownBlock = some b) w w' := by
  obtain ⟨w0, hw0, hz0, hB0, hS⟩ := boxed w #[Value.int IntKind.i64 a.al, v1, v2] 32
  have p1 := hS 1 _ rfl _ (Below.refl _ _)
  have p2 := hS 2 _ rfl _ (Below.refl _ _)
  have ho0 := ho.later hB0
  have heq := ho.eq
  have hcn : cntR (xs.map (·.r)) = cntR a.nx := by rw [heq]
  have hgb := own_later_ ho.acc hB0
  have hrb : ∀ b, (∃ x ∈ xs, x.v.ownBlock = some b) → base ≤ b := fun b ⟨x, hx, e⟩ => own_block (ho.rows.rows x hx) b e
  have hab : ∀ b, v2.ownBlock = some b → base ≤ b := own_block ho.acc
  have hne : ∀ g, v2.ownBlock = some g → ¬ ∃ x ∈ xs, x.v.ownBlock = some g := fun g hg ⟨x, hx, e⟩ => own_ne_own ho.acc (ho.rows.rows x hx) (by decide) g g hg e rfl
  have hsz := hB0.size
  replace hgb := hid hgb
  replace hrb := hid hrb
  replace hab := hid hab
  replace hne := hid hne
  replace ho0 := hid ho0
  replace heq := hid heq
  replace ho := hid ho
  have hcell : ∀ w', KeepB (fun b => ∃ x ∈ xs, x.v.ownBlock = some b) w0 w' → w'.cell? ⟨w.heap.size, 2, none⟩ = some v2 := fun w' hk => by
    have hlt : ∀ x ∈ xs, ∀ g, x.v.ownBlock = some g → g < w.heap.size := fun x hx g hg => ((ho.out.rows.rows x hx).lt g hg).2
    rw [World.cell?_of_block (w := w0) (hk.block w.heap.size (by omega) fun ⟨x, hx, e⟩ => by have := hlt x hx _ e; omega)]
    exact p2
  obtain ⟨A, c, B, d, e1, e2, -⟩ := ho.out.at_
  subst e1
  subst e2
  replace hcell := hid hcell
  go_enter Tryd.func28, Tryd.ntmps28
  go_wp2_with fail
  refine (markIntSS_any base (.slice A a.nx.length c) xs k w0 h0 (by omega) ho0.out.rows).mono ?_
  rintro e w1 ⟨rfl, ho1, hk1⟩
  rw [hcn]
  have q2 := hcell.out w1 hk1
  have ha1 := hid (own_keep hgb.out hk1 hne.out)
  have hk1' := hid hk1
  have ho1' := hid ho1
  clear ho1 hk1 p1 p2
  go_wp2_with fail
  refine (markBoolS_any B a.ac.length d base a.ac (k + cntR a.nx) w1 (by omega) (by omega) ha1.out).mono ?_
  rintro e w2 ⟨rfl, ho2, hk2⟩
  have hro := ho1'.out.keep hk2 (fun g hg e => own_ne_own ho1'.out.own ha1.out (by decide) g g hg e rfl) (fun x hx g hg e => own_ne_own (ho1'.out.rows x hx) ha1.out (by decide) g g hg e rfl)
  have hkk := ((KeepB.of_below (K := fun b => (∃ x ∈ xs, x.v.ownBlock = some b) ∨ (Value.slice B a.ac.length d).ownBlock = some b) hB0).trans (hk1'.out.mono fun b h => .inl h)).trans (hk2.mono fun b h => .inr h)
  have hfin := hid (AuOwn.mk (a := ⟨a.al, marksR a.nx k, marksB a.ac.length (k + cntR a.nx)⟩) (w := w2) hro (by rw [markV_rows, heq.out]) (by dsimp only; rw [marksB_len]; exact ho2))
  clear hro ho2 hk2
  go_wp2
  go_ret
  exact ⟨rfl, hfin.out, hkk⟩

end Go.Proofs.YtolnlkccbndkcaaDoor
