/- Lemmas, part 7: several texts in one. -/
import Derived.Test.YtjhlbeamfngebaaDoorV6
import Derived.Test.YtjhlbeamfngebaaDoorV3
import Derived.Test.YtjhlbeamfngebaaDoorV4
import Derived.Test.YtjhlbeamfngebaaDoorV5
import Derived.ChangeSlices
import Derived.Lib.SmallJoins
set_option linter.unusedSimpArgs false
set_option linter.unusedVariables false

/- The program's SystemOf. -/
namespace Go.Proofs.YtjhlbeamfngebaaDoor
open Go.RowKit Go.BigFrame AG

structure SoSt2 (w0 wr : World) (gs : Nat) (al st : Int) (v : Value) (es : List Ed) (lv : Value) (L : List Nat) (mv : Value) (M : List Nat) : Prop where
  so : SoSt w0 wr gs al st v es lv L
  mem : OwnNats wr w0.heap.size mv M
theorem SoSt2.later {w0 wr w1 : World} {gs : Nat} {al st : Int} {v lv mv : Value} {es : List Ed} {L M : List Nat} (h : SoSt2 w0 wr gs al st v es lv L mv M) (hb : Below wr.heap.size wr w1) : SoSt2 w0 w1 gs al st v es lv L mv M := ⟨h.so.later hb, own_later h.mem hb⟩
theorem SoSt2.add {w0 wr w1 : World} {gs gg cap : Nat} {al st : Int} {v lv mv : Value} {es : List Ed} {L M : List Nat} {x : Ed} (h : SoSt2 w0 wr gs al st v es lv L mv M)
    (hown : w1.ownsRow w0.heap.size 77 3 (.slice (some ⟨gg, 0, none⟩) (es.length + 1) cap) (es.length + 1) (edCells es ++ [.int .i64 x.f, .int .i64 x.l, .int .i64 x.t])) (hg : wr.grownBy w1 v.ownBlock) :
    SoSt2 w0 (w1.setCell ⟨gs, 2, none⟩ (.slice (some ⟨gg, 0, none⟩) (es.length + 1) cap)) gs al st (.slice (some ⟨gg, 0, none⟩) (es.length + 1) cap) (es ++ [x]) lv L mv M :=
  ⟨h.so.add hown hg, (SoSt.add (lv := mv) (L := M) ⟨h.so.sub, h.mem⟩ hown hg).list⟩

theorem trim_take_hit {R : Nat} {E T : List Ed} {e : Ed} (h : keptE R e = true) : trimEs R (E ++ (T ++ [e])) = trimEs R (E ++ T) ++ [trimE R e] := by
  rw [← List.append_assoc, trimEs_append]
  unfold trimEs
  rw [List.filter_cons_of_pos h]
  rfl
theorem trim_take_miss {R : Nat} {E T : List Ed} {e : Ed} (h : keptE R e = false) : trimEs R (E ++ (T ++ [e])) = trimEs R (E ++ T) := by
  rw [← List.append_assoc, trimEs_append, trimEs_none (es := [e]) (fun x hx => by rw [List.mem_singleton.1 hx]; exact h), List.append_nil]

theorem flat_len6 (A : Int) (g : Nat → List Int) : ∀ (ms : List Nat) , (ms.flatMap fun q => rowEs (letters A) q (g q)).length ≤ ms.length * 6
  | [] => Nat.le_refl _
  | m :: ms => by
    have ih := flat_len6 A g ms
    have h6 := letters_len6 A
    rw [List.flatMap_cons, List.length_append, List.length_cons, rowEs_len]
    omega
set_option maxRecDepth 100000 in
set_option maxHeartbeats 8000000 in
theorem implSystemOf_any (a : Au) (A B : Option Addr) (c d : Nat) (w : World) (hT : Tab w) (ha : AuAt w A c B d a) :
    Calls Tryd.prog 20 #[a.val A c B d] w (SoOwn w (soS a) (soOk a)) := by
  obtain ⟨i0, hi0, hz0', hz1', hz2'⟩ := info_parts infoEd
  obtain ⟨w0, hw0, hz0, hB0, hS, -⟩ := boxed2 w #[Value.int IntKind.i64 a.al, Value.slice A a.nx.length c, Value.slice B a.ac.length d] 26 #[Value.int IntKind.i64 0, Value.int IntKind.i64 0, Value.slice none 0 0] 37
  have hres : Blk w0 (w.heap.size + 1) 37 #[Value.int IntKind.i64 0, Value.int IntKind.i64 0, Value.slice none 0 0] := by
    rw [← hw0]
    have := Blk.new (w.alloc (.cells #[Value.int IntKind.i64 a.al, Value.slice A a.nx.length c, Value.slice B a.ac.length d] 26)) 37 #[Value.int IntKind.i64 0, Value.int IntKind.i64 0, Value.slice none 0 0]
    simpa using this
  have ha0 := hid (ha.later hB0)
  have p0 := hS 0 _ rfl _ (Below.refl _ _)
  have p1 := hS 1 _ rfl _ (Below.refl _ _)
  have p2 := hS 2 _ rfl _ (Below.refl _ _)
  replace ha := hid ha
  replace hres := hid hres
  replace hT := hid hT
  unfold AG.Au.val
  go_enter Tryd.func20, Tryd.ntmps20
  go_wp2_with fail
  refine (implAutomatonValid_any a A B c d w0 ha0.out).mono ?_
  rintro e w1 ⟨rfl, hb1⟩
  have hB1 := hB0.trans (hb1.mono hB0.size)
  have hC1 := hb1.mono hz0
  have ha1 := hid (ha0.out.later hb1)
  have hz1 := hb1.size
  have hzero : soOk a = false → SoOwn w (soS a) (soOk a) (.returned (.tuple #[.agg #[.int .i64 0, .int .i64 0, .slice none 0 0], .bool false])) (((w1.setCell ⟨w.heap.size + 1, 0, none⟩ (.int .i64 0)).setCell ⟨w.heap.size + 1, 1, none⟩ (.int .i64 0)).setCell ⟨w.heap.size + 1, 2, none⟩ (.slice none 0 0)) := fun h => by
    rw [soS_zero h, h]
    exact ⟨none, 0, rfl, World.ownsRow_nil _ _ _ _, ((hB1.setCell (by simp) _).setCell (by simp) _).setCell (by simp) _⟩
  have hrb := hres.out.below hb1 hres.out.lt
  have d0 := hrb.cell 0
  have d1 := hrb.cell 1
  have d2 := hrb.cell 2
  have f0 := hrb.frozen 0
  have f1 := hrb.frozen 1
  have f2 := hrb.frozen 2
  have hlt1 := hrb.lt
  simp only [List.getElem?_toArray, List.getElem?_cons_zero, List.getElem?_cons_succ] at d0 d1 d2
  replace hzero := hid hzero
  replace hrb := hid hrb
  clear p0 p1 p2 hw0
  cases hok : auOk a
  · have hno := hid (hzero.out (by unfold soOk; rw [hok]; rfl))
    replace hok := hid hok
    go_wp2
    refine bodyPost_ret (v := .tuple #[.agg #[.int .i64 0, .int .i64 0, .slice none 0 0], .bool false]) (by simp [results, Tryd.results20, go_sem, d0, d1, d2]) rfl ?_
    exact hno.out
  obtain ⟨-, hn1, hn12, hn3, -⟩ := (auOk_iff a).1 hok
  obtain ⟨bA, oA, hAe, hbA, hEA⟩ := ha1.out.acc (by omega)
  subst hAe
  have hac0 := hEA 0 (by omega)
  rw [Nat.add_zero] at hac0
  have hso : Hid (soOk a = a.ac[0]) := hid (by
    unfold soOk
    rw [hok, Bool.true_and, List.getD_eq_getElem?_getD, List.getElem?_eq_getElem (by omega)]
    rfl)
  obtain ⟨t, ht⟩ : ∃ t, t = a.ac[0] := ⟨_, rfl⟩
  rw [← ht] at hac0 hso
  have hok' := hid hok
  have hac12 : a.ac.length ≤ 12 := by omega
  have hn3' := hid hn3
  have hal0 : (0 : Int) < (a.ac.length : Int) := by omega
  have p2 := hS 2 _ rfl _ hC1
  replace hEA := hid hEA
  clear hok hn3 ht
  cases t
  · have hno := hid (hzero.out hso.out)
    go_wp2
    refine bodyPost_ret (v := .tuple #[.agg #[.int .i64 0, .int .i64 0, .slice none 0 0], .bool false]) (by simp [results, Tryd.results20, go_sem, d0, d1, d2]) rfl ?_
    exact hno.out
  clear hzero d0 d1 d2 f0 f1 f2
  have hpar := hid (fun (wr : World) (hb : Below w1.heap.size w1 wr) => And.intro (hS 0 _ rfl _ (hC1.trans (hb.mono (by omega)))) (And.intro (hS 1 _ rfl _ (hC1.trans (hb.mono (by omega)))) (hS 2 _ rfl _ (hC1.trans (hb.mono (by omega))))))
  go_wp2_with fail
  clear hac0
  go_loopw [4, 27] (fun sv iv wr => ∃ i : Nat, iv = .int .i64 (i : Nat) ∧ i ≤ a.ac.length ∧ sv = .int .i64 (accSet a i : Nat) ∧ wr = w1) (fun _ iv _ => a.ac.length - (intOf iv).toNat)
  case atStart => exact ⟨0, rfl, by omega, rfl, rfl⟩
  case round =>
    clear p2
    obtain ⟨i, rfl, hi, rfl, rfl⟩ := hrel
    have hlt2 := accSet_lt a i
    by_cases hlt : i < a.ac.length
    · have c0 := hEA.out i hlt
      have hsucc : Hid (accSet a (i + 1) = if a.ac[i] = true then accSet a i ||| 2 ^ i else accSet a i) := hid (by
        show (if a.ac.getD i false = true then _ else _) = _
        rw [List.getD_eq_getElem?_getD, List.getElem?_eq_getElem hlt]
        rfl)
      obtain ⟨t, ht⟩ : ∃ t, t = a.ac[i] := ⟨_, rfl⟩
      rw [← ht] at c0 hsucc
      have k1 : (0 : Int) ≤ (i : Int) ∧ (i : Int) < (a.ac.length : Int) := by omega
      clear ht
      have hpw : 2 ^ i ≤ 2 ^ 12 := Nat.pow_le_pow_right (by omega) (by omega)
      cases t
      · have hs : Hid (accSet a (i + 1) = accSet a i) := hid (by rw [hsucc.out]; simp)
        clear hpw hlt2
        go_wp2_with fail
        go_roundw
        case rel => exact ⟨i + 1, by go_num, by omega, by rw [hs.out], by first | rfl | trivial⟩
        case measure => simp [intOf]; omega
      · have hs : Hid (accSet a (i + 1) = accSet a i ||| 2 ^ i) := hid (by rw [hsucc.out]; simp)
        have f1 := wrap_pow (n := i) (by omega)
        obtain ⟨S, hSs⟩ : ∃ S, Hid (S = accSet a i) := ⟨_, hid rfl⟩
        rw [← hSs.out] at hlt2 hs ⊢
        obtain ⟨P, hP⟩ : ∃ P, Hid (P = 2 ^ i) := ⟨_, hid rfl⟩
        rw [← hP.out] at hlt2 hs hpw f1
        have hor := bits_orN S P (by omega) (by omega)
        go_wp2_with fail
        go_roundw
        case rel => exact ⟨i + 1, by go_num, by omega, by rw [hs.out], by first | rfl | trivial⟩
        case measure => simp [intOf]; omega
    · obtain rfl : i = a.ac.length := by omega
      obtain ⟨wz, rfl⟩ : ∃ wz : World, wz = wr := ⟨_, rfl⟩
      obtain ⟨R, hR⟩ : ∃ R, Hid (R = accS a) := ⟨_, hid rfl⟩
      have hRe : Hid (accSet a a.ac.length = R) := hid (by rw [hR.out]; unfold accS; rw [hn3'.out])
      rw [hRe.out]
      have hR16 : R < 65536 := by rw [hR.out]; exact accS_lt hok'.out
      obtain ⟨p0, p1, p2⟩ := hpar.out _ (Below.refl _ _)
      have q0 := GK.BI.cell p0
      have q1 := GK.BI.cell p1
      clear hlt2 hlt hi
      go_upto_region 10 with fail
      clear p0 p1 p2
      refine GK.wp_region 9 [9] 200 (KeepB fun _ => False) (GK.BI wz) (fun _ u _ => u = .int .i64 ((rankN R a.nx.length : Nat) : Int)) (by kernel_rfl) (by kernel_rfl) (GK.BI.way wz) (by decide) (Below.refl _ _).drew ?_
      simp only [List.take_succ_cons, List.take_zero]
      (repeat (refine GK.grow_quiet wz (by rfl) (by rfl) ?_; intro K hK; go_big_quiet_op; go_big_quiet_on))
      refine GK.grow_val (.int .i64 ((rankN R a.nx.length : Nat) : Int)) (by rfl) rfl (fun m wq hm2 hbq _ => ?_) ?_
      · go_simp
        exact ⟨rfl, (implRank_any R a.nx.length wq hR16 (by omega)).mono fun e w' ⟨h1, h2⟩ => ⟨h1, GK.BI.after hbq (by rw [← h2]; exact Below.refl _ _)⟩⟩
      simp only [Act.put, List.setIfInBounds_toArray, List.set_cons_zero, List.set_cons_succ]
      (repeat (refine GK.grow_quiet wz (by rfl) (by rfl) ?_; intro K hK; go_big_quiet_op; go_big_quiet_on))
      refine GK.grow_new (K := fun _ => False) (by rfl) _ (fun b => .pointer (some ⟨b, 0, none⟩)) 37 #[.int .i64 0, .int .i64 0, .slice none 0 0] (fun _ => by go_simp) rfl (fun _ _ o h => GK.BI.alloc o h) (fun _ _ h => GK.BI.size h) (fun _ h => h.elim) (fun gs hgs => ?_)
      simp only [Act.put, List.setIfInBounds_toArray, List.set_cons_zero, List.set_cons_succ]
      refine GK.grow_nil ?_
      intro w2 hw2 hf
      simp only [List.filterMap_cons, List.filterMap_nil, List.getElem?_cons_zero, List.getElem?_cons_succ]
      obtain ⟨gs', e1, -, hblk⟩ := hf _ List.mem_cons_self
      cases e1
      replace hw2 : Below wz.heap.size wz w2 := hw2
      clear hf q0 q1
      have hblk' : Blk w2 gs 37 #[.int .i64 0, .int .i64 0, .slice none 0 0] := hblk
      have hgl := hblk'.lt
      have c0 := hblk'.cell 0
      have c1 := hblk'.cell 1
      have c2 := hblk'.cell 2
      have f0 := hblk'.frozen 0
      have f1 := hblk'.frozen 1
      have f2 := hblk'.frozen 2
      simp only [List.getElem?_toArray, List.getElem?_cons_zero, List.getElem?_cons_succ] at c0 c1 c2
      have hS1 : Hid (SubSt wz (((w2.setCell ⟨gs, 0, none⟩ (.int .i64 a.al)).setCell ⟨gs, 1, none⟩ (.int .i64 ((rankN R a.nx.length : Nat) : Int))).setCell ⟨gs, 2, none⟩ (.slice none 0 0)) gs a.al ((rankN R a.nx.length : Nat) : Int) (.slice none 0 0) []) := hid
        ⟨by simpa using ((hblk'.set_ 0 (.int .i64 a.al)).set_ 1 (.int .i64 ((rankN R a.nx.length : Nat) : Int))).set_ 2 (.slice none 0 0), World.ownsRow_nil _ _ _ _, hgs,
          ((hw2.setCell (by simpa using hgs) _).setCell (by simpa using hgs) _).setCell (by simpa using hgs) _⟩
      obtain ⟨w3, hw3⟩ : ∃ w3, ((w2.setCell ⟨gs, 0, none⟩ (.int .i64 a.al)).setCell ⟨gs, 1, none⟩ (.int .i64 ((rankN R a.nx.length : Nat) : Int))).setCell ⟨gs, 2, none⟩ (.slice none 0 0) = w3 := ⟨_, rfl⟩
      rw [hw3] at hS1
      obtain ⟨p0, p1, p2⟩ := hpar.out _ hS1.out.keep
      replace hblk := hid hblk
      clear hblk'
      clear p1 p2
      have hz13 := hS1.out.keep.size
      go_wp2_with fail
      refine (lettersOf_any a.al w3).mono ?_
      rintro e w4 ⟨lv, rfl, hown4, hb4⟩
      obtain ⟨AL, cL, rfl, hcL, hcL'⟩ := own_slice hown4
      obtain ⟨L, hL⟩ : ∃ L, Hid (L = letters a.al) := ⟨_, hid rfl⟩
      rw [← hL.out] at hown4 hcL ⊢
      have hS4 := hid (SoSt.mk (hS1.out.later hb4) (own_base hown4 hz13))
      have hb14 := hS4.out.sub.keep
      have hT4 := hid (hT.out.later (hB1.trans (hb14.mono hB1.size)))
      clear hown4 p0 hw3 c0 c1 c2 f0 f1 f2
      go_wp2_with fail
      refine (members_any R hR16 w4 hT4.out).mono ?_
      rintro e w5 ⟨mv, rfl, hown5, hb5⟩
      obtain ⟨AM, cM, rfl, hcM, hcM'⟩ := own_slice hown5
      obtain ⟨M, hM⟩ : ∃ M, Hid (M = memL R) := ⟨_, hid rfl⟩
      rw [← hM.out] at hown5 hcM ⊢
      have hS5 : Hid (SoSt2 wz w5 gs a.al ((rankN R a.nx.length : Nat) : Int) (.slice none 0 0) (trimEs R (gotTo a 0)) (.slice AL L.length cL) L (.slice AM M.length cM) M) := hid (SoSt2.mk (hS4.out.later hb5) (own_base hown5 hb14.size))
      have hM16 : M.length ≤ 16 := by rw [hM.out]; exact memL_len R
      have hL6 : L.length ≤ 6 := by rw [hL.out]; exact letters_len6 a.al
      have hMR : Hid (∀ q ∈ M, q < a.nx.length ∧ R.testBit q = true) := hid fun q hq => by
        rw [hM.out, memL_mem] at hq
        have h2 := hq.2
        rw [hR.out] at h2
        exact ⟨((accS_bit hok'.out q).1 h2).1, hq.2⟩
      clear hown5
      go_wp2_with fail
      go_loopw [52] (fun iv wx => ∃ (i : Nat) (v : Value), iv = .int .i64 (i : Nat) ∧ i ≤ M.length ∧ SoSt2 wz wx gs a.al ((rankN R a.nx.length : Nat) : Int) v (trimEs R (gotTo a i)) (.slice AL L.length cL) L (.slice AM M.length cM) M) (fun iv _ => M.length - (intOf iv).toNat)
      case atStart => exact ⟨0, _, rfl, by omega, hS5.out⟩
      case round =>
        obtain ⟨i, v, rfl, hi', hs⟩ := hrel
        by_cases hlt : i < M.length
        · obtain ⟨gm, cm', hve, -, -, -, -, hcell⟩ := own_nats hs.mem (by omega)
          injection hve with e1 e2 e3
          subst e1
          subst e3
          have l0 := hcell i hlt
          obtain ⟨hq1, hq2⟩ := hMR.out _ (List.getElem_mem hlt)
          have hsucc : Hid (gotTo a (i + 1) = gotTo a i ++ rowEs L M[i] a.nx[M[i]]) := hid (by
            have h1 : i < (memL (accS a)).length := by rw [← hR.out, ← hM.out]; exact hlt
            have h2 : (memL (accS a))[i] = M[i] := by simp only [hM.out, hR.out]
            rw [gotTo_succ h1 (by rw [h2]; exact hq1), ← hL.out]
            simp only [h2])
          obtain ⟨e1, hrl, hrin⟩ := row_at hok'.out hq1
          rw [← hL.out] at hrl
          obtain ⟨bR, oR, hRe', hbR, hER⟩ := ha1.out.rows (by omega)
          subst hRe'
          obtain ⟨Ai, ci, r0, h1, h2, h3⟩ := hER M[i] hq1
          rw [← hs.so.sub.keep.cell (by simpa using hbR)] at r0
          obtain ⟨q, hq⟩ : ∃ q, q = M[i] := ⟨_, rfl⟩
          obtain ⟨r, hr⟩ : ∃ r, r = a.nx[M[i]] := ⟨_, rfl⟩
          rw [← hr] at r0 h1 h3 hrl hrin hsucc
          rw [← hq] at l0 hq1 hq2 r0 hsucc
          have hrmem : Hid (r = a.nx[q]) := hid (by simp only [hr, hq])
          have p1 := (hpar.out _ hs.so.sub.keep).2.1
          have k1 : (0 : Int) ≤ (i : Int) ∧ (i : Int) < (M.length : Int) := by omega
          have k2 : (0 : Int) ≤ (q : Int) ∧ (q : Int) < (a.nx.length : Int) := by omega
          have hq16 : q < 16 := by omega
          have hs' := hid hs
          replace hcell := hid hcell
          replace hER := hid hER
          replace h3 := hid h3
          replace hrin := hid hrin
          replace e1 := hid e1
          clear hs
          replace hr := hid hr
          replace hq := hid hq
          go_wp2_with fail
          obtain ⟨wo, rfl⟩ : ∃ wo : World, wo = wr := ⟨_, rfl⟩
          go_loopw [62] (fun jv wx => ∃ (j : Nat) (v : Value), jv = .int .i64 (j : Nat) ∧ j ≤ r.length ∧ SoSt2 wz wx gs a.al ((rankN R a.nx.length : Nat) : Int) v (trimEs R (gotTo a i ++ (rowEs L q r).take j)) (.slice AL L.length cL) L (.slice (some ⟨gm, 0, none⟩) M.length cM) M) (fun jv _ => r.length - (intOf jv).toNat)
          case atStart => exact ⟨0, v, rfl, by omega, by rw [List.take_zero, List.append_nil]; exact hs'.out⟩
          case round =>
            clear l0 r0 p1 hs'
            obtain ⟨j, v, rfl, hj, hs⟩ := hrel
            by_cases hjl : j < r.length
            · obtain ⟨bi, oi, hie, hbi, hEi⟩ := h3.out (by omega)
              subst hie
              have i0c := hEi j hjl
              rw [← hs.so.sub.keep.cell (by simpa using hbi)] at i0c
              obtain ⟨t0, t1⟩ := hrin.out _ (List.getElem_mem hjl)
              have hek : Hid ((rowEs L q r).take (j + 1) = (rowEs L q r).take j ++ [⟨(q : Int), (L[j]'(by omega) : Int), r[j]⟩]) := hid (rowEs_take L q r (by omega) hjl)
              obtain ⟨tz, htz⟩ : ∃ tz, Hid (tz = r[j]) := ⟨_, hid rfl⟩
              obtain ⟨l, hll⟩ : ∃ l, Hid (l = L[j]'(by omega)) := ⟨_, hid rfl⟩
              rw [← htz.out] at i0c t0 t1 hek
              rw [← hll.out] at hek
              obtain ⟨tn, rfl⟩ := Int.eq_ofNat_of_zero_le t0
              have htn : tn < a.nx.length := by omega
              have htn16 : tn < 16 := by omega
              have c0 := hEA.out tn (by have := hn3'.out; omega)
              rw [← hs.so.sub.keep.cell (by simpa using hbA)] at c0
              have htb : Hid (R.testBit tn = a.ac[tn]'(by have := hn3'.out; omega)) := hid (by
                rw [Bool.eq_iff_iff, hR.out, accS_bit hok'.out, List.getD_eq_getElem?_getD, List.getElem?_eq_getElem (by have := hn3'.out; omega)]
                exact ⟨fun h => h.2, fun h => ⟨htn, h⟩⟩)
              obtain ⟨tb, htb'⟩ : ∃ tb, Hid (tb = a.ac[tn]'(by have := hn3'.out; omega)) := ⟨_, hid rfl⟩
              rw [← htb'.out] at c0 htb
              have hkept : Hid (keptE R ⟨(q : Int), (l : Int), (tn : Int)⟩ = tb) := hid (by
                unfold keptE
                dsimp only
                rw [Int.toNat_natCast, Int.toNat_natCast, hq2, htb.out, Bool.true_and])
              have htrim : Hid (trimE R ⟨(q : Int), (l : Int), (tn : Int)⟩ = ⟨((rankN R q : Nat) : Int), (l : Int), ((rankN R tn : Nat) : Int)⟩) := hid rfl
              have k3 : (0 : Int) ≤ (j : Int) ∧ (j : Int) < (r.length : Int) := by omega
              have k4 : (0 : Int) ≤ (tn : Int) ∧ (tn : Int) < (a.ac.length : Int) := by have := hn3'.out; omega
              have k5 : (j : Int) < (L.length : Int) := by omega
              have p2 := (hpar.out _ hs.so.sub.keep).2.2
              replace hEi := hid hEi
              obtain ⟨E, hE⟩ : ∃ E, Hid (E = trimEs R (gotTo a i ++ (rowEs L q r).take j)) := ⟨_, hid rfl⟩
              cases tb
              · have hnx : Hid (trimEs R (gotTo a i ++ (rowEs L q r).take (j + 1)) = trimEs R (gotTo a i ++ (rowEs L q r).take j)) := hid (by rw [hek.out, trim_take_miss hkept.out])
                replace hs := hid hs
                go_wp2_with fail
                go_roundw
                case rel => exact ⟨j + 1, v, by go_num, by omega, by rw [hnx.out]; exact hs.out⟩
                case measure => simp [intOf]; omega
              · have hnx : Hid (trimEs R (gotTo a i ++ (rowEs L q r).take (j + 1)) = E ++ [⟨((rankN R q : Nat) : Int), (l : Int), ((rankN R tn : Nat) : Int)⟩]) := hid (by rw [hek.out, trim_take_hit hkept.out, htrim.out, hE.out])
                rw [← hE.out] at hs
                have hEl : E.length ≤ 10000 := by
                  have h1 := trimEs_len R (gotTo a i ++ (rowEs L q r).take j)
                  rw [← hE.out, List.length_append, List.length_take] at h1
                  have h2 : (gotTo a i).length ≤ i * 6 := by
                    unfold gotTo
                    refine Nat.le_trans (flat_len6 a.al (fun q => a.nx.getD q []) _) (Nat.mul_le_mul_right 6 ?_)
                    rw [List.length_take]
                    omega
                  omega
                obtain ⟨gl, cl, hve, -, -, -, -, hlcell⟩ := own_nats hs.so.list (by omega)
                injection hve with e1' e2' e3'
                subst e1'
                subst e3'
                have l0 := hlcell j (by omega)
                rw [← hll.out] at l0
                have c2 := hs.so.sub.blk.cell 2
                simp only [List.getElem?_toArray, List.getElem?_cons_zero, List.getElem?_cons_succ] at c2
                have q0 := GK.BI.cell c2
                have q1 := GK.BI.cell l0
                replace hs := hid hs
                replace hlcell := hid hlcell
                go_upto_region 19 with fail
                clear c2 l0 i0c c0 p2
                refine GK.wp_region 14 [14, 15, 16] 200 (KeepB fun _ => False) (GK.BI wr) (fun i u _ => u = .int .i64 (((if i = 4 then rankN R q else rankN R tn) : Nat) : Int)) (by kernel_rfl) (by kernel_rfl) (GK.BI.way wr) (by decide) (Below.refl _ _).drew ?_
                simp only [List.take_succ_cons, List.take_zero]
                (repeat (refine GK.grow_quiet wr (by rfl) (by rfl) ?_; intro K hK; go_big_quiet_op; go_big_quiet_on))
                refine GK.grow_val (.int .i64 ((rankN R q : Nat) : Int)) (by rfl) rfl (fun m wq hm2 hbq _ => ?_) ?_
                · go_simp
                  exact ⟨rfl, (implRank_any R q wq hR16 (by omega)).mono fun e w' ⟨h1, h2⟩ => ⟨h1, GK.BI.after hbq (by rw [← h2]; exact Below.refl _ _)⟩⟩
                simp only [Act.put, List.setIfInBounds_toArray, List.set_cons_zero, List.set_cons_succ]
                (repeat (refine GK.grow_quiet wr (by rfl) (by rfl) ?_; intro K hK; go_big_quiet_op; go_big_quiet_on))
                refine GK.grow_val (.int .i64 ((rankN R tn : Nat) : Int)) (by rfl) rfl (fun m wq hm2 hbq _ => ?_) ?_
                · go_simp
                  exact ⟨rfl, (implRank_any R tn wq hR16 (by omega)).mono fun e w' ⟨h1, h2⟩ => ⟨h1, GK.BI.after hbq (by rw [← h2]; exact Below.refl _ _)⟩⟩
                simp only [Act.put, List.setIfInBounds_toArray, List.set_cons_zero, List.set_cons_succ]
                (repeat (refine GK.grow_quiet wr (by rfl) (by rfl) ?_; intro K hK; go_big_quiet_op; go_big_quiet_on))
                refine GK.grow_new (K := fun _ => False) (by rfl) _ (fun b => .slice (some ⟨b, 0, none⟩) 1 1) 77 #[.int .i64 ((rankN R q : Nat) : Int), .int .i64 (l : Nat), .int .i64 ((rankN R tn : Nat) : Int)] (fun _ => by go_simp) rfl (fun _ _ o h => GK.BI.alloc o h) (fun _ _ h => GK.BI.size h) (fun _ h => h.elim) (fun bb hbb2 => ?_)
                simp only [Act.put, List.setIfInBounds_toArray, List.set_cons_zero, List.set_cons_succ]
                refine GK.grow_nil ?_
                intro w6 hw6 hf
                obtain ⟨g', hge, hge2, hblk6⟩ := hf _ List.mem_cons_self
                cases hge
                clear hf
                simp only [List.filterMap_cons, List.filterMap_nil, List.getElem?_cons_zero, List.getElem?_cons_succ]
                replace hw6 : Below wr.heap.size wr w6 := hw6
                have hS6 := hid (hs.out.later hw6)
                have hown6 := hS6.out.so.sub.own
                have hbl6 := hS6.out.so.sub.blk.lt
                have ag : v.ownBlock ≠ some gs := fun e => own_ne hS6.out.so.sub.own hS6.out.so.sub.blk (by decide) gs e rfl
                have c2 := hS6.out.so.sub.blk.cell 2
                have f2 := hS6.out.so.sub.blk.frozen 2
                simp only [List.getElem?_toArray, List.getElem?_cons_zero, List.getElem?_cons_succ] at c2
                clear q0 q1
                refine wpList_append_lies _ (by rfl) _ _ 35 (by rfl) wz.heap.size 77 i0 (.agg #[.int .i64 0, .int .i64 0, .int .i64 0]) 3 24 Tryd.underlying35 hi0 hz0' hz1' hz2' rfl (by decide) v E.length (edCells E) (by rfl) hown6 ⟨bb, 0, none⟩ 1 1 [.int .i64 ((rankN R q : Nat) : Int), .int .i64 (l : Nat), .int .i64 ((rankN R tn : Nat) : Int)] (by rfl) (by rfl) (World.news_of_block hblk6) ?c1 (by omega) ?c3 ?c4 ?c5 w6.heap.size rfl ?_
                case c1 => simp [Value.oneCell']
                case c3 => unfold maxLen; omega
                case c4 => omega
                case c5 => have := hS6.out.so.sub.keep.size; omega
                intro gg cap w7 hown7 hgrow hat hlt7
                have c2' : w7.cell? ⟨gs, 2, none⟩ = some v := by rw [hgrow.cell_far _ (by simpa using hbl6) (Ne.symm ag)]; exact c2
                have f2' : w7.frozen? ⟨gs, 2, none⟩ = false := by rw [hgrow.frozen_far _ (by simpa using hbl6) (Ne.symm ag)]; exact f2
                have hfin := hid (hS6.out.add (x := ⟨((rankN R q : Nat) : Int), (l : Int), ((rankN R tn : Nat) : Int)⟩) hown7 hgrow)
                have hz7 := hgrow.size
                clear hown6 hown7 hgrow c2 f2
                go_wp2_with fail
                go_roundw
                case rel => exact ⟨j + 1, _, by go_num, by omega, by rw [hnx.out]; exact hfin.out⟩
                case measure => simp [intOf]; omega
            · obtain rfl : j = r.length := by omega
              have hfin : Hid (trimEs R (gotTo a i ++ (rowEs L q r).take r.length) = trimEs R (gotTo a (i + 1))) := hid (by
                rw [hsucc.out, List.take_of_length_le (by rw [rowEs_len]; omega)])
              replace hs := hid hs
              go_wp2_with fail
              go_roundw
              case rel => exact ⟨i + 1, v, by go_num, by omega, by rw [← hfin.out]; exact hs.out⟩
              case measure => simp [intOf]; omega
        · obtain rfl : i = M.length := by omega
          have hall : Hid (trimEs R (gotTo a M.length) = (soS a).es) := hid (by
            have h1 : M.length = (memL (accS a)).length := by rw [hM.out, hR.out]
            rw [h1, hR.out, gotTo_all hok'.out, soS_eq hso.out]
            rfl)
          rw [hall.out] at hs
          obtain ⟨Av, cv, hve, hv1, hv2⟩ := own_slice hs.so.sub.own
          subst hve
          have hbr := hs.so.sub.keep
          have c0 := hs.so.sub.blk.cell 0
          have c1 := hs.so.sub.blk.cell 1
          have c2 := hs.so.sub.blk.cell 2
          have hrb3 := hrb.out.below hbr hlt1
          have d0 := hrb3.cell 0
          have d1 := hrb3.cell 1
          have d2 := hrb3.cell 2
          have f0 := hrb3.frozen 0
          have f1 := hrb3.frozen 1
          have f2 := hrb3.frozen 2
          simp only [List.getElem?_toArray, List.getElem?_cons_zero, List.getElem?_cons_succ] at c0 c1 c2 d0 d1 d2
          have hlt3 := hrb3.lt
          have hzw1 := hB1.size
          have hox : OwnEds wr wz.heap.size (.slice Av (soS a).es.length cv) (soS a).es := hs.so.sub.own
          have hal2 : (soS a).al = a.al := soS_al hso.out
          have hst2 : (soS a).st = ((rankN R a.nx.length : Nat) : Int) := by rw [soS_eq hso.out, hR.out]; rfl
          obtain ⟨x, hx⟩ : ∃ x, x = soS a := ⟨_, rfl⟩
          rw [← hx] at hox hal2 hst2 c2 ⊢
          rw [← hal2] at c0
          rw [← hst2] at c1
          have hfin : Hid (SoOwn w (soS a) (soOk a) (.returned (.tuple #[.agg #[.int .i64 x.al, .int .i64 x.st, .slice Av x.es.length cv], .bool true])) (((wr.setCell ⟨w.heap.size + 1, 0, none⟩ (.int .i64 x.al)).setCell ⟨w.heap.size + 1, 1, none⟩ (.int .i64 x.st)).setCell ⟨w.heap.size + 1, 2, none⟩ (.slice Av x.es.length cv))) := hid (by
            rw [hso.out, ← hx]
            refine ⟨Av, cv, rfl, ?_, ?_⟩
            · have hne : ∀ g, (Value.slice Av x.es.length cv).ownBlock = some g → g ≠ w.heap.size + 1 := fun g hg => by
                have := (hox.lt g hg).1
                omega
              have hk : KeepB (fun b => b = w.heap.size + 1) wr (((wr.setCell ⟨w.heap.size + 1, 0, none⟩ (.int .i64 x.al)).setCell ⟨w.heap.size + 1, 1, none⟩ (.int .i64 x.st)).setCell ⟨w.heap.size + 1, 2, none⟩ (.slice Av x.es.length cv)) := (((KeepB.refl _ wr).setCell _ _ (by simp)).setCell _ _ (by simp)).setCell _ _ (by simp)
              exact own_base (own_keep hox hk hne) (by omega)
            · exact (((hB1.trans (hbr.mono hB1.size)).setCell (by simp) _).setCell (by simp) _).setCell (by simp) _)
          replace hs := hid hs
          replace hx := hid hx
          clear hrb3 hox hal2 hst2
          go_wp2
          refine bodyPost_ret (v := .tuple #[.agg #[.int .i64 x.al, .int .i64 x.st, .slice Av x.es.length cv], .bool true]) (by simp [results, Tryd.results20, go_sem, d0, d1, d2]) rfl ?_
          exact hfin.out

end Go.Proofs.YtjhlbeamfngebaaDoor

/- The law FnExactSystemOf returns true. Printed by tools/gen_q3.py. -/
namespace Go.Proofs.YtjhlbeamfngebaaDoor
open Go.RowKit Go.BigFrame Go.Maps AG

/-- What is owned can be written. -/
theorem OwnEds.wr {w : World} {base : Nat} {A : Option Addr} {c : Nat} {es : List Ed} (h : OwnEds w base (.slice A es.length c) es) : WrB w A es.length := fun b o hA => by
  rcases h.2 with ⟨h1, _⟩ | ⟨g, cap, cur, h1, _, hb, hcap, _, hs, _⟩
  · rw [hA] at h1
    cases h1
  · rw [hA] at h1
    injection h1 with h1
    injection h1 with h1
    injection h1 with h1 h2
    subst h1
    refine ⟨h2, cur, hb, ?_⟩
    have : es.length * 3 ≤ cap * 3 := Nat.mul_le_mul_right 3 hcap
    omega

set_option maxRecDepth 100000 in
set_option maxHeartbeats 16000000 in
theorem FnExactSystemOf_any (a : Au) (A B : Option Addr) (c d : Nat) (w : World) (hT : Tab w) (hr : AuAt w A c B d a) :
    Calls Tryd.prog 5 #[a.val A c B d] w fun e w' => e = .returned (.bool true) ∧ Below w.heap.size w w' := by
  unfold AG.Au.val
  obtain ⟨s, hs⟩ : ∃ s, Hid (s = soS a) := ⟨_, hid rfl⟩
  obtain ⟨ok, hok⟩ : ∃ ok, Hid (ok = soOk a) := ⟨_, hid rfl⟩
  have hsl : s.es.length ≤ 1000 := by rw [hs.out]; exact soS_len a
  obtain ⟨w0, hw0, hz0, hB0, hS⟩ := boxed w #[Value.int IntKind.i64 a.al, Value.slice A a.nx.length c, Value.slice B a.ac.length d] 33
  have hs0 := fun w' (hb : Below w0.heap.size w0 w') => hS 0 _ rfl w' (hb.mono hz0)
  have hs1 := fun w' (hb : Below w0.heap.size w0 w') => hS 1 _ rfl w' (hb.mono hz0)
  have hs2 := fun w' (hb : Below w0.heap.size w0 w') => hS 2 _ rfl w' (hb.mono hz0)
  replace hr := hid hr
  replace hT := hid hT
  have hr0 := hid (hr.out.later hB0)
  have p0 := hs0 _ (Below.refl _ _)
  have p1 := hs1 _ (Below.refl _ _)
  have p2 := hs2 _ (Below.refl _ _)
  replace hs0 := hid hs0
  replace hs1 := hid hs1
  replace hs2 := hid hs2
  go_enter Tryd.func5, Tryd.ntmps5
  go_wp2_with fail
  refine (szAutomaton_any a A B c d 1048576 w0 (by omega) (by omega) hr0.out).mono ?_
  rintro e w1 ⟨⟨rz, rfl, -, hrz⟩, hb1⟩
  have hB1 := hB0.trans (hb1.mono hB0.size)
  have hz1 := hb1.size
  clear p0 p1 p2 hw0 hS
  by_cases hsz : rz < 0
  · go_wp2_with fail
    go_ret
    exact ⟨rfl, hB1⟩
  have hn := hrz (by omega)
  clear hrz
  have hn1 : a.nx.length ≤ 1048576 := by omega
  have hn3 : a.ac.length ≤ 1048576 := by omega
  have hcn : cntR a.nx ≤ 1048576 := by omega
  have hn2 : Hid (∀ r ∈ a.nx, r.length ≤ 1048576) := hid fun r hr => by
    obtain ⟨i, hi, rfl⟩ := List.getElem_of_mem hr
    have h1 := cntR_more hi
    omega
  have hto := hid (fun w' (hb : Below w0.heap.size w0 w') => toAutomaton_any a A B c d w' hn1 hn2.out hn3 (hr0.out.later hb))
  have p0 := hs0.out _ hb1
  have p1 := hs1.out _ hb1
  have p2 := hs2.out _ hb1
  go_wp2_with fail
  refine (hto.out w1 hb1).mono ?_
  rintro e w2 ⟨A2, B2, ys2, rfl, hau2, hb2⟩
  unfold AG.Au.val
  have hB2 := hB1.trans (hb2.mono hB1.size)
  have hz2 := hb2.size
  have hat2 := hid hau2.read
  clear hau2
  have hcs := hid (specSystemOf_any a A2 B2 a.nx.length a.ac.length w2 hat2.out)
  rw [← hs.out, ← hok.out] at hcs
  clear p0 p1 p2
  unfold AG.Au.val at hcs
  go_wp2_with fail
  refine hcs.out.mono ?_
  clear hcs
  rintro e w3 ⟨A0, c0, rfl, hE1, hE2, hE0, -, hb3⟩
  unfold Sy.val
  have hB3 := hB2.trans (hb3.mono hB2.size)
  have hz3 := hb3.size
  have hb03 := (hb1.trans ((hb2.trans (hb3.mono hz2)).mono hz1))
  replace hE0 := hid hE0
  go_upto_region 6 with fail
  obtain ⟨w4, hw4, hz4, hB4', hQ⟩ := boxed w3 #[.int .i64 s.al, .int .i64 s.st, .slice A0 s.es.length c0] 37
  rw [hw4]
  clear hw4
  have hB4 := hB3.trans (hB4'.mono hB3.size)
  have hb04 := hb03.trans (hB4'.mono hb03.size)
  have hq0 := hid fun w' (hb : Below w4.heap.size w4 w') => hQ 0 _ rfl w' (hb.mono hz4)
  have hq1 := hid fun w' (hb : Below w4.heap.size w4 w') => hQ 1 _ rfl w' (hb.mono hz4)
  have hq2 := hid fun w' (hb : Below w4.heap.size w4 w') => hQ 2 _ rfl w' (hb.mono hz4)
  have hE4 := hid (hE0.out.later hB4')
  clear hQ
  have p0 := hs0.out _ hb04
  have p1 := hs1.out _ hb04
  have p2 := hs2.out _ hb04
  go_wp2_with fail
  refine (hto.out w4 hb04).mono ?_
  rintro e w5 ⟨A5, B5, ys, rfl, hau5, hb5⟩
  unfold AG.Au.val
  have hB5 := hB4.trans (hb5.mono hB4.size)
  have hz5 := hb5.size
  have hb05 := hb04.trans (hb5.mono hb04.size)
  clear p0 p1 p2
  replace hau5 := hid hau5
  go_upto_region 7 with fail
  obtain ⟨w6, hw6, hz6, hB6', hX⟩ := boxed w5 #[.int .i64 a.al, .slice A5 a.nx.length a.nx.length, .slice B5 a.ac.length a.ac.length] 26
  rw [hw6]
  clear hw6
  have hB6 := hB5.trans (hB6'.mono hB5.size)
  have hb46 := hb5.trans (hB6'.mono hz5)
  have x0 := hX 0 _ rfl _ (Below.refl _ _)
  have x1 := hX 1 _ rfl _ (Below.refl _ _)
  have x2 := hX 2 _ rfl _ (Below.refl _ _)
  have hau6 := hid (hau5.out.later hB6')
  have hT6 := hid (hT.out.later hB6)
  have hat6 := hid hau6.out.read
  have hci := hid (implSystemOf_any a A5 B5 a.nx.length a.ac.length w6 hT6.out hat6.out)
  rw [← hs.out, ← hok.out] at hci
  unfold AG.Au.val at hci
  go_wp2_with fail
  refine hci.out.mono ?_
  clear hci x0 x1 x2
  rintro e w7 ⟨A7, c7, rfl, hown7, hb7⟩
  unfold Sy.val
  have hB7 := hB6.trans (hb7.mono hB6.size)
  have hz7 := hb7.size
  have hb47 := hb46.trans (hb7.mono hb46.size)
  replace hown7 := hid hown7
  go_upto_region 8 with fail
  obtain ⟨w8, hw8, hz8, hB8', hY⟩ := boxed w7 #[.int .i64 s.al, .int .i64 s.st, .slice A7 s.es.length c7] 37
  rw [hw8]
  clear hw8
  have hB8 := hB7.trans (hB8'.mono hB7.size)
  have hb48 := hb47.trans (hB8'.mono hb47.size)
  have hb68 := hb7.trans (hB8'.mono hz7)
  have hKx : ∀ {b : Nat}, b = w5.heap.size ∨ b = w7.heap.size → ¬ ((w4.heap.size ≤ b ∧ b < w5.heap.size) ∨ (w6.heap.size ≤ b ∧ b < w7.heap.size)) := fun {b} h => by omega
  have hx0 := hid fun w' (hb : KeepB (fun b => (w4.heap.size ≤ b ∧ b < w5.heap.size) ∨ (w6.heap.size ≤ b ∧ b < w7.heap.size)) w8 w') => cell_keep hb (hX 0 _ rfl w8 (hb68.mono hz6)) (hKx (.inl rfl))
  have hx1 := hid fun w' (hb : KeepB (fun b => (w4.heap.size ≤ b ∧ b < w5.heap.size) ∨ (w6.heap.size ≤ b ∧ b < w7.heap.size)) w8 w') => cell_keep hb (hX 1 _ rfl w8 (hb68.mono hz6)) (hKx (.inl rfl))
  have hx2 := hid fun w' (hb : KeepB (fun b => (w4.heap.size ≤ b ∧ b < w5.heap.size) ∨ (w6.heap.size ≤ b ∧ b < w7.heap.size)) w8 w') => cell_keep hb (hX 2 _ rfl w8 (hb68.mono hz6)) (hKx (.inl rfl))
  have hy0 := hid fun w' (hb : KeepB (fun b => (w4.heap.size ≤ b ∧ b < w5.heap.size) ∨ (w6.heap.size ≤ b ∧ b < w7.heap.size)) w8 w') => cell_keep hb (hY 0 _ rfl w8 (Below.refl _ _)) (hKx (.inr rfl))
  have hy1 := hid fun w' (hb : KeepB (fun b => (w4.heap.size ≤ b ∧ b < w5.heap.size) ∨ (w6.heap.size ≤ b ∧ b < w7.heap.size)) w8 w') => cell_keep hb (hY 1 _ rfl w8 (Below.refl _ _)) (hKx (.inr rfl))
  have hy2 := hid fun w' (hb : KeepB (fun b => (w4.heap.size ≤ b ∧ b < w5.heap.size) ∨ (w6.heap.size ≤ b ∧ b < w7.heap.size)) w8 w') => cell_keep hb (hY 2 _ rfl w8 (Below.refl _ _)) (hKx (.inr rfl))
  clear hKx
  have hau8 := hid (hau6.out.later hb68)
  have hown8 := hid (own_keep hown7.out (.of_below (K := fun _ => False) hB8') fun _ _ h => h)
  have hr8 : KeepB (fun b => (w4.heap.size ≤ b ∧ b < w5.heap.size) ∨ (w6.heap.size ≤ b ∧ b < w7.heap.size)) w8 w8 := KeepB.refl _ _
  clear hX hY
  have y0 := hy0.out _ hr8
  have y1 := hy1.out _ hr8
  have y2 := hy2.out _ hr8
  have q0 := hq0.out _ hb48
  have q1 := hq1.out _ hb48
  have q2 := hq2.out _ hb48
  have hEd8 := hid (OwnEds.read hown8.out)
  obtain ⟨Ax, cx, ex, ec1, ec2, eat, -⟩ := hEd8.out
  injection ex with ex1 _ ex3
  subst ex1
  subst ex3
  replace eat := hid eat
  go_wp2_with fail
  refine (eqSystem_any s s A7 A0 _ _ w8 ec1 ec2 hE1 hE2 eat.out (hE4.out.later hb48)).mono ?_
  rintro e w9 ⟨rfl, hb9⟩
  rw [decide_eq_true rfl]
  have hB9 := hB8.trans (hb9.mono hB8.size)
  have hb49 := hb48.trans (hb9.mono hb48.size)
  have hr9 : KeepB (fun b => (w4.heap.size ≤ b ∧ b < w5.heap.size) ∨ (w6.heap.size ≤ b ∧ b < w7.heap.size)) w8 w9 := hr8.trans (.of_below hb9)
  clear y0 y1 y2 q0 q1 q2
  have hau9 := hid (hau8.out.later hb9)
  have hown9 := hid (own_keep hown8.out (.of_below (K := fun _ => False) hb9) fun _ _ h => h)
  have hF : ∀ x, Below w9.heap.size w9 (Fam w9.heap.size w9 x) := fun x => Fam.below _ _ x
  have x0 := fun x => hx0.out _ (hr9.trans (.of_below (hF x)))
  have x1 := fun x => hx1.out _ (hr9.trans (.of_below (hF x)))
  have x2 := fun x => hx2.out _ (hr9.trans (.of_below (hF x)))
  have p0 := fun x => hs0.out _ (hb04.trans ((hb49.trans ((hF x).mono hb49.size)).mono hb04.size))
  have p1 := fun x => hs1.out _ (hb04.trans ((hb49.trans ((hF x).mono hb49.size)).mono hb04.size))
  have p2 := fun x => hs2.out _ (hb04.trans ((hb49.trans ((hF x).mono hb49.size)).mono hb04.size))
  have hb09 := hb04.trans (hb49.mono hb04.size)
  replace hF := hid hF
  cases ok
  all_goals
    go_wp2_with fail
    refine wp_region_grow 5 w9.heap.size w9 (fun i u w' => if i = 2 then ∃ (A2 B2 : Option Addr), u = a.val A2 a.nx.length B2 a.ac.length ∧ AuAt w' A2 a.nx.length B2 a.ac.length a else u = .bool true) (by kernel_rfl) (by kernel_rfl) (Nat.le_refl _) (Below.refl _ _) ?_
    simp only [List.take_succ_cons, List.take_zero, List.drop_succ_cons, List.drop_zero]
    (repeat (refine grow_quiet (by rfl) (by rfl) (by rfl) ?_; intro K hK; go_big_quiet_op; go_big_quiet_on))
    refine grow_call (by rfl) (by rfl) (fun u v v' hb h => ?_) (fun wq hbq _ => ?_) fun u hu => ?_
    · obtain ⟨g, g2, e, h⟩ := h
      exact ⟨g, g2, e, h.later hb⟩
    · go_simp
      refine ⟨rfl, (hto.out wq (hb09.trans (hbq.mono hb09.size))).mono ?_⟩
      rintro e w3 ⟨A3, B3, ys3, rfl, hau3, hb3⟩
      exact ⟨_, rfl, hb3, A3, B3, rfl, hau3.read⟩
    obtain ⟨wx, -, A3, B3, rfl, -⟩ := hu
    unfold AG.Au.val
    simp only [Act.put, List.setIfInBounds_toArray, List.set_cons_zero, List.set_cons_succ]
    (repeat (refine grow_quiet (by rfl) (by rfl) (by rfl) ?_; intro K hK; go_big_quiet_op; go_big_quiet_on))
    refine grow_val (.bool true) (by rfl) (by rfl) rfl (fun wq hbq hfx => ?_) ?_
    · obtain ⟨_, _, e3, h3⟩ := hfx _ List.mem_cons_self (by kernel_rfl)

      cases e3
      have h3' := hid h3
      clear h3 hfx
      go_simp
      have hx3 := (hau9.out.later hbq).read
      refine ⟨rfl, (eqAutomaton_any a a A5 B5 A3 B3 a.nx.length a.ac.length a.nx.length a.ac.length wq hx3 h3'.out).mono ?_⟩
      rintro e w4 ⟨rfl, hb4⟩
      exact ⟨by rw [decide_eq_true rfl], hb4⟩
    simp only [Act.put, List.setIfInBounds_toArray, List.set_cons_zero, List.set_cons_succ]
    (repeat (refine grow_quiet (by rfl) (by rfl) (by rfl) ?_; intro K hK; go_big_quiet_op; go_big_quiet_on))
    refine grow_nil ?_
    intro w10 hb10 hf
    clear hf x0 x1 x2 p0 p1 p2
    have hB10 := hB9.trans (hb10.mono hB9.size)
    have hb410 := hb49.trans (hb10.mono hb49.size)
    have hr10 : KeepB (fun b => (w4.heap.size ≤ b ∧ b < w5.heap.size) ∨ (w6.heap.size ≤ b ∧ b < w7.heap.size)) w8 w10 := hr9.trans (.of_below hb10)
    have x0 := hx0.out _ hr10
    have x1 := hx1.out _ hr10
    have x2 := hx2.out _ hr10
    have hau10 := hid (hau9.out.later hb10)
    have hown10 := hid (own_keep hown9.out (.of_below (K := fun _ => False) hb10) fun _ _ h => h)
    have hz10 := hb10.size
    go_wp2_with fail
    refine (markAutomaton_any w4.heap.size _ _ a ys 1 w10 (by omega) (by omega) hau10.out).mono ?_
    rintro e w11 ⟨rfl, -, hm11⟩
    replace hm11 := hm11.mono (K' := fun b => w4.heap.size ≤ b ∧ b < w5.heap.size) fun b h => by
      rcases h with ⟨x, hx, e⟩ | e
      · exact (hau5.out.rows.rows x hx).lt b e
      · exact hau5.out.acc.lt b e
    have hr11 : KeepB (fun b => (w4.heap.size ≤ b ∧ b < w5.heap.size) ∨ (w6.heap.size ≤ b ∧ b < w7.heap.size)) w8 w11 := hr10.trans (hm11.mono fun b h => .inl h)
    have hb411 : Below w4.heap.size w4 w11 := KeepB.below hb410 hm11 hb410.size fun b h => h.1
    have hB11 : Below w.heap.size w w11 := hB4.trans (hb411.mono hB4.size)
    have hown11 := hid (own_keep hown10.out hm11 fun g hg e => by have := (hown7.out.lt g hg).1; omega)
    obtain ⟨M, hM⟩ : ∃ M, M = (1 : Int) + (cntR a.nx : Int) + (a.ac.length : Int) := ⟨_, rfl⟩
    have hM0 : 0 ≤ M ∧ M ≤ 10000000 := by omega
    have hMn : ¬ (M < 0) := by omega
    rw [← hM]
    clear x0 x1 x2
    have y0 := hy0.out _ hr11
    have y1 := hy1.out _ hr11
    have y2 := hy2.out _ hr11
    have q0 := hq0.out _ hb411
    have q1 := hq1.out _ hb411
    have q2 := hq2.out _ hb411
    obtain ⟨Ax, cx, ex, ed1, ed2, eat11, -⟩ := OwnEds.read hown11.out
    injection ex with ex1 _ ex3
    subst ex1
    subst ex3
    replace eat11 := hid eat11
    go_wp2_with fail
    refine (eqSystem_any s s A7 A0 _ _ w11 ec1 ec2 hE1 hE2 eat11.out (hE4.out.later hb411)).mono ?_
    rintro e w12 ⟨rfl, hb12⟩
    rw [decide_eq_true rfl]
    have hB12 := hB11.trans (hb12.mono hB11.size)
    have hb412 := hb411.trans (hb12.mono hb411.size)
    have hr12 : KeepB (fun b => (w4.heap.size ≤ b ∧ b < w5.heap.size) ∨ (w6.heap.size ≤ b ∧ b < w7.heap.size)) w8 w12 := hr11.trans (.of_below hb12)
    have hown12 := hid (own_keep hown11.out (.of_below (K := fun _ => False) hb12) fun _ _ h => h)
    clear y0 y1 y2 q0 q1 q2
    have y0 := hy0.out _ hr12
    have y1 := hy1.out _ hr12
    have y2 := hy2.out _ hr12
    obtain ⟨Ax, cx, ex, -, -, eat12, -⟩ := OwnEds.read hown12.out
    injection ex with ex1 _ ex3
    subst ex1
    subst ex3
    replace eat12 := hid eat12
    have hwr12 := hid (OwnEds.wr hown12.out)
    go_wp2_with fail
    refine (markSystemM_any s A7 _ 1 w12 (by omega) (by omega) ec1 ec2 eat12.out hwr12.out).mono ?_
    rintro e w13 ⟨rfl, hmk13, hm13⟩
    replace hm13 := hm13.mono (K' := fun b => w6.heap.size ≤ b ∧ b < w7.heap.size) fun b h => by
      obtain ⟨h0, o, e⟩ := h
      obtain ⟨g, cap, hv, hg1, hg2, -⟩ := own_shape hown7.out h0
      injection hv with hv _ _
      rw [e] at hv
      injection hv with hv
      injection hv with hv _
      omega
    have hr13 : KeepB (fun b => (w4.heap.size ≤ b ∧ b < w5.heap.size) ∨ (w6.heap.size ≤ b ∧ b < w7.heap.size)) w8 w13 := hr12.trans (hm13.mono fun b h => .inr h)
    have hb413 : Below w4.heap.size w4 w13 := KeepB.below hb412 hm13 hb412.size fun b h => by have := hb46.size; omega
    have hB13 : Below w.heap.size w w13 := hB4.trans (hb413.mono hB4.size)
    replace hmk13 := hid hmk13
    obtain ⟨N, hN⟩ : ∃ N, N = (1 : Int) + 3 * (s.es.length : Int) := ⟨_, rfl⟩
    have hN0 : 0 ≤ N ∧ N ≤ 10000 := by omega
    have hNn : ¬ (N < 0) := by omega
    have hNN : (N != N) = false := by simp
    rw [← hN]
    clear y0 y1 y2
    have y0 := hy0.out _ hr13
    have y1 := hy1.out _ hr13
    have y2 := hy2.out _ hr13
    have hh13 := hid (heldSystem_any s A7 s.es.length _ 1 w13 rfl (by omega) (by omega) ec1 ec2 hmk13.out)
    rw [← hN] at hh13
    go_wp2_with fail
    refine hh13.out.mono ?_
    rintro e w14 ⟨rfl, hb14⟩
    have hB14 := hB13.trans (hb14.mono hB13.size)
    have hb414 := hb413.trans (hb14.mono hb413.size)
    have hr14 : KeepB (fun b => (w4.heap.size ≤ b ∧ b < w5.heap.size) ∨ (w6.heap.size ≤ b ∧ b < w7.heap.size)) w8 w14 := hr13.trans (.of_below hb14)
    clear y0 y1 y2
    have p0 := hs0.out _ (hb04.trans (hb414.mono hb04.size))
    have p1 := hs1.out _ (hb04.trans (hb414.mono hb04.size))
    have p2 := hs2.out _ (hb04.trans (hb414.mono hb04.size))
    have hmk14 := hid (EdsAt.later hmk13.out hb14)
    have hb014 := hb04.trans (hb414.mono hb04.size)
    go_wp2_with fail
    refine (hto.out w14 hb014).mono ?_
    rintro e w15 ⟨A15, B15, ys15, rfl, hau15, hb15⟩
    unfold AG.Au.val
    have hB15 := hB14.trans (hb15.mono hB14.size)
    have hb415 := hb414.trans (hb15.mono hb414.size)
    have hr15 : KeepB (fun b => (w4.heap.size ≤ b ∧ b < w5.heap.size) ∨ (w6.heap.size ≤ b ∧ b < w7.heap.size)) w8 w15 := hr14.trans (.of_below hb15)
    clear p0 p1 p2
    have hmk15 := hid (EdsAt.later hmk14.out hb15)
    have hat15 := hid hau15.read
    clear hau15
    have hT15 := hid (hT.out.later hB15)
    have hci := hid (implSystemOf_any a A15 B15 a.nx.length a.ac.length w15 hT15.out hat15.out)
    rw [← hs.out, ← hok.out] at hci
    unfold AG.Au.val at hci
    go_wp2_with fail
    refine hci.out.mono ?_
    clear hci
    rintro e w16 ⟨A16, c16, rfl, hown16, hb16⟩
    unfold Sy.val
    have hB16 := hB15.trans (hb16.mono hB15.size)
    have hb416 := hb415.trans (hb16.mono hb415.size)
    have hr16 : KeepB (fun b => (w4.heap.size ≤ b ∧ b < w5.heap.size) ∨ (w6.heap.size ≤ b ∧ b < w7.heap.size)) w8 w16 := hr15.trans (.of_below hb16)
    have hmk16 := hid (EdsAt.later hmk15.out hb16)
    replace hown16 := hid hown16
    go_upto_region 25 with fail
    obtain ⟨w17, hw17, hz17, hB17', hZ⟩ := boxed w16 #[.int .i64 s.al, .int .i64 s.st, .slice A16 s.es.length c16] 37
    rw [hw17]
    clear hw17
    have hB17 := hB16.trans (hB17'.mono hB16.size)
    have hb417 := hb416.trans (hB17'.mono hb416.size)
    have hr17 : KeepB (fun b => (w4.heap.size ≤ b ∧ b < w5.heap.size) ∨ (w6.heap.size ≤ b ∧ b < w7.heap.size)) w8 w17 := hr16.trans (.of_below hB17')
    have hmk17 := hid (EdsAt.later hmk16.out hB17')
    have z0 := hZ 0 _ rfl w17 (Below.refl _ _)
    have z1 := hZ 1 _ rfl w17 (Below.refl _ _)
    have z2 := hZ 2 _ rfl w17 (Below.refl _ _)
    clear hZ
    obtain ⟨Ax, cx, ex, ef1, ef2, eat16, -⟩ := OwnEds.read hown16.out
    injection ex with ex1 _ ex3
    subst ex1
    subst ex3
    have eat17 := hid (eat16.later hB17')
    clear eat16
    have q0 := hq0.out _ hb417
    have q1 := hq1.out _ hb417
    have q2 := hq2.out _ hb417
    go_wp2_with fail
    refine (eqSystem_any s s A16 A0 _ _ w17 ef1 ef2 hE1 hE2 eat17.out (hE4.out.later hb417)).mono ?_
    rintro e w18 ⟨rfl, hb18⟩
    rw [decide_eq_true rfl]
    have hB18 := hB17.trans (hb18.mono hB17.size)
    have hb418 := hb417.trans (hb18.mono hb417.size)
    have hr18 : KeepB (fun b => (w4.heap.size ≤ b ∧ b < w5.heap.size) ∨ (w6.heap.size ≤ b ∧ b < w7.heap.size)) w8 w18 := hr17.trans (.of_below hb18)
    have hmk18 := hid (EdsAt.later hmk17.out hb18)
    clear z0 z1 z2
    clear q0 q1 q2
    have y0 := hy0.out _ hr18
    have y1 := hy1.out _ hr18
    have y2 := hy2.out _ hr18
    have hh18 := hid (heldSystem_any s A7 s.es.length _ 1 w18 rfl (by omega) (by omega) ec1 ec2 hmk18.out)
    rw [← hN] at hh18
    go_wp2_with fail
    refine hh18.out.mono ?_
    rintro e w19 ⟨rfl, hb19⟩
    have hB19 := hB18.trans (hb19.mono hB18.size)
    clear y0 y1 y2
    go_wp2_with fail
    go_ret
    exact ⟨rfl, hB19⟩

end Go.Proofs.YtjhlbeamfngebaaDoor

/- Closed facts on the whole program, each a lemma of its own: the rows of all laws of the seat use them. -/
namespace Go.Proofs.YtjhlbeamfngebaaDoor
open Go.ChangeShapes Go.WideShapes Go.ChangeAt Go.RowKit AG
theorem and2 {a b : Bool} (h : a = true) (k : b = true) : (a && b) = true := by rw [h, k]; rfl
theorem whLaid : laidOutB Tryd.prog = true := by kernel_rfl
theorem whRowed : mapsRowed Tryd.prog = true := by kernel_rfl
theorem whHeard : Tryd.prog.stopsHeard = true := by kernel_rfl
theorem whMay : Tryd.prog.mayEnter = true := by kernel_rfl
theorem whLift : Tryd.prog.liftsFinal = false := by kernel_rfl
theorem whMake : (Tryd.prog.make == some Rows.fnDeadlockLeastRow.make) = true := by kernel_rfl
theorem whMain : Tryd.prog.mainIs = some (Rows.fnDeadlockLeastCard.stood.harness.1, Rows.fnDeadlockLeastCard.stood.harness.2.toList) := by kernel_rfl
theorem whLooks : false = Tryd.prog.looks [] := by kernel_rfl
end Go.Proofs.YtjhlbeamfngebaaDoor
