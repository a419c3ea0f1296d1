/- Lemmas, part 4: several texts in one. -/
import Derived.Test.YtkoganldcmhopaaDoorK3
import Derived.Test.YtkoganldcmhopaaDoorK2
import Derived.Test.YtkoganldcmhopaaDoorK1
set_option linter.unusedSimpArgs false
set_option linter.unusedVariables false

/- The program's ProjectSystem and Determinize. -/
namespace Go.Proofs.YtkoganldcmhopaaDoor
open Go.RowKit Go.BigFrame Go.Maps AG

theorem infoBool : (Tryd.prog.info? 4).map (fun i => (i.zero, i.size, i.bytes)) = some (some (.bool false), 1, 1) := by kernel_rfl
set_option maxRecDepth 100000 in
set_option maxHeartbeats 8000000 in
theorem implProjectSystem_any (s : Sy) (A : Option Addr) (c : Nat) (al : Int) (w : World) (hl : s.es.length ≤ c) (hc : c ≤ 9223372036854775807) (hT : Tab w) (hr : EdsAt w w.heap.size A s.es) :
    Calls Tryd.prog 64 #[s.val A c, .int .i64 al] w (PrPost w (prA s al) (prK s al)) := by
  unfold Sy.val
  obtain ⟨b0, hbi, hb0, hb1', hb2⟩ := info_parts infoBool
  obtain ⟨w0, hw0, hz0, hB0, hS, hU⟩ := boxed2 w #[Value.int IntKind.i64 s.al, Value.int IntKind.i64 s.st, Value.slice A s.es.length c] 30 #[Value.int IntKind.i64 0, Value.slice none 0 0, Value.slice none 0 0] 26
  have hres : Blk w0 (w.heap.size + 1) 26 #[Value.int IntKind.i64 0, Value.slice none 0 0, Value.slice none 0 0] := by
    rw [← hw0]
    have := Blk.new (w.alloc (.cells #[Value.int IntKind.i64 s.al, Value.int IntKind.i64 s.st, Value.slice A s.es.length c] 30)) 26 #[Value.int IntKind.i64 0, Value.slice none 0 0, Value.slice none 0 0]
    simpa using this
  have hr0 := hid (hr.later hB0)
  have hT0 := hid (hT.later hB0)
  have p0 := hS 0 _ rfl _ (Below.refl _ _)
  have p1 := hS 1 _ rfl _ (Below.refl _ _)
  have p2 := hS 2 _ rfl _ (Below.refl _ _)
  replace hr := hid hr
  replace hT := hid hT
  replace hres := hid hres
  go_enter Tryd.func64, Tryd.ntmps64
  go_wp2_with fail
  refine (implSystemValid_any s A c w0 hl hc hr0.out).mono ?_
  rintro e w1 ⟨rfl, hb1⟩
  have hC1 := hb1.mono hz0
  have hB1 := hB0.trans (hb1.mono hB0.size)
  have hz1 := hb1.size
  clear p0 p1 p2
  have q0 := (hres.out.below hb1 hres.out.lt).cell 0
  have q1 := (hres.out.below hb1 hres.out.lt).cell 1
  have q2 := (hres.out.below hb1 hres.out.lt).cell 2
  have f0 := (hres.out.below hb1 hres.out.lt).frozen 0
  have f1 := (hres.out.below hb1 hres.out.lt).frozen 1
  have f2 := (hres.out.below hb1 hres.out.lt).frozen 2
  simp only [List.getElem?_toArray, List.getElem?_cons_zero, List.getElem?_cons_succ] at q0 q1 q2
  cases hok : sysOk s
  case false =>
    have hbad := hid (prA_bad (s := s) (al := al) (by unfold prOk; rw [hok]; rfl))
    replace hok := hid hok
    go_wp2
    refine bodyPost_ret (v := .tuple #[.agg #[.int .i64 0, .slice none 0 0, .slice none 0 0], .bool false]) (by simp [results, Tryd.results64, go_sem, q0, q1, q2]) rfl ?_
    rw [hbad.out.1, hbad.out.2]
    exact ⟨by (repeat (first | exact Below.refl _ _ | assumption | refine Below.drew ?_ | refine Below.alloc ?_ (by first | omega | (simp; done) | (simp; omega)) _ | refine Below.setCell ?_ (by first | omega | (simp; done) | (simp; omega)) _)), _, _, _, rfl, AuOwn.nil _ _⟩
  case true =>
  have hin := hid (sysOk_in hok)
  have hal := sysOk_alpha hok
  have hok' := hid hok
  clear hok
  go_wp2_with fail
  refine (isAlphabet_any al w1).mono ?_
  rintro e w2 ⟨rfl, rfl⟩
  have p0 := hS 0 _ rfl _ hC1
  have p1 := hS 1 _ rfl _ hC1
  have p2 := hS 2 _ rfl _ hC1
  by_cases haa : 0 ≤ al ∧ al ≤ 63
  case neg =>
    have ha' : alphaOk al = false := decide_eq_false haa
    have hbad := hid (prA_bad (s := s) (al := al) (by unfold prOk; rw [ha']; simp))
    replace haa := hid haa
    rw [ha']
    go_wp2
    refine bodyPost_ret (v := .tuple #[.agg #[.int .i64 0, .slice none 0 0, .slice none 0 0], .bool false]) (by simp [results, Tryd.results64, go_sem, q0, q1, q2]) rfl ?_
    rw [hbad.out.1, hbad.out.2]
    exact ⟨by (repeat (first | exact Below.refl _ _ | assumption | refine Below.drew ?_ | refine Below.alloc ?_ (by first | omega | (simp; done) | (simp; omega)) _ | refine Below.setCell ?_ (by first | omega | (simp; done) | (simp; omega)) _)), _, _, _, rfl, AuOwn.nil _ _⟩
  have haT : alphaOk al = true := decide_eq_true haa
  rw [haT]
  have hbn := bits_andNot haa hal
  have hzz := hid_zero (a := al) (b := s.al)
  by_cases han : andB s.al al = al
  case neg =>
    have ha' : decide (andB s.al al = al) = false := decide_eq_false han
    rw [ha'] at hzz
    have hbad := hid (prA_bad (s := s) (al := al) (by unfold prOk; rw [ha']; simp))
    replace han := hid han
    replace hbn := hid hbn
    go_wp2_with (rw [hbn.out])
    refine bodyPost_ret (v := .tuple #[.agg #[.int .i64 0, .slice none 0 0, .slice none 0 0], .bool false]) (by simp [results, Tryd.results64, go_sem, q0, q1, q2]) rfl ?_
    rw [hbad.out.1, hbad.out.2]
    exact ⟨by (repeat (first | exact Below.refl _ _ | assumption | refine Below.drew ?_ | refine Below.alloc ?_ (by first | omega | (simp; done) | (simp; omega)) _ | refine Below.setCell ?_ (by first | omega | (simp; done) | (simp; omega)) _)), _, _, _, rfl, AuOwn.nil _ _⟩
  rw [decide_eq_true han] at hzz
  have hpk : Hid (prOk s al = true) := hid (by unfold prOk; rw [hok'.out, haT, decide_eq_true han]; rfl)
  replace han := hid han
  go_wp2_with fail
  have hr1 := hid (hr0.out.later hb1)
  refine (movesOf_any s A c w1 hin.out hl hc hr1.out).mono ?_
  rintro e w3 ⟨g, rfl, hg3, hb3⟩
  have hB3 := hB1.trans (hb3.mono hB1.size)
  have hC3 := hC1.trans (hb3.mono (by omega))
  have hz3 := hb3.size
  have hbn2 := bits_andNot hal haa
  clear p0 p1 p2 q0 q1 q2 f0 f1 f2
  have p0 := hS 0 _ rfl _ hC3
  replace hg3 := hid hg3
  go_upto_region 4 with fail
  obtain ⟨w4, hw4, hz4, hB4, hC4⟩ := boxed w3 #[.pointer (some ⟨g, 0, none⟩)] 104
  rw [hw4]
  clear p0
  have p0 := hS 0 _ rfl _ (hC3.trans (hB4.mono (by omega)))
  have hB4' := hB3.trans (hB4.mono hB3.size)
  have hT4 := hid (hT.out.later hB4')
  clear hw4
  go_wp2_with fail
  refine (lettersOf_any (hidA s.al al) w4).mono ?_
  rintro e w5 ⟨lv, rfl, hown5, hb5⟩
  obtain ⟨AH, cH, rfl, hcH, hcH', hLH⟩ := OwnNats.read hown5
  have hB5 := hB4'.trans (hb5.mono hB4'.size)
  have hz5 := hb5.size
  replace hLH := hid hLH
  clear hown5 p0
  go_upto_region 5 with fail
  obtain ⟨w6, hw6, hz6, hB6, hC6⟩ := boxed w5 #[.slice AH (letters (hidA s.al al)).length cH] 52
  rw [hw6]
  clear hw6
  have hB6' := hB5.trans (hB6.mono hB5.size)
  have m0 : w6.cell? ⟨w3.heap.size, 0, none⟩ = some (.pointer (some ⟨g, 0, none⟩)) := hC4 0 _ rfl _ ((hb5.mono hz4).trans (hB6.mono (by omega)))
  have m1 : w6.cell? ⟨w5.heap.size, 0, none⟩ = some (.slice AH (letters (hidA s.al al)).length cH) := hC6 0 _ rfl _ (Below.refl _ _)
  have hT6 := hid (hT.out.later hB6')
  have hg6 := hid (((hg3.out.later hB4).later hb5).later hB6)
  have hL6 := hid (hLH.out.later hB6)
  go_wp2_with fail
  refine (closure_any s (hidA s.al al) g 1 AH cH w6 hin.out (by omega) hcH hcH' hT6.out hg6.out hL6.out).mono ?_
  rintro e w7 ⟨rfl, hb7⟩
  have hB7 := hB6'.trans (hb7.mono hB6'.size)
  have hz7 := hb7.size
  obtain ⟨n0, hn0⟩ : ∃ n0, Hid (n0 = reachSet s (hidA s.al al) 1) := ⟨_, hid rfl⟩
  rw [← hn0.out]
  go_wp2_with fail
  refine (lettersOf_any al w7).mono ?_
  rintro e w8 ⟨lv, rfl, hown8, hb8⟩
  obtain ⟨AL, cL, rfl, hcL, hcL', hLL⟩ := OwnNats.read hown8
  have hB8 := hB7.trans (hb8.mono hB7.size)
  have hz8 := hb8.size
  have hb68 := hb7.trans (hb8.mono hz7)
  have hNum : Hid (NumOk w8 (fun q => q < 65536) (letters al) (prNx s (hidA s.al al)) 123 #[.pointer (some ⟨w3.heap.size, 0, none⟩), .pointer (some ⟨w5.heap.size, 0, none⟩)]) := hid
    ⟨fun args w' => by go_simp, fun w' q l hb hq hl => projStep_any s (hidA s.al al) g w3.heap.size w5.heap.size q l AH cH w' hin.out hq (letters_lt hl).1 hcH hcH' (hT6.out.later (hb68.trans (hb.mono hb68.size))) (hg6.out.later (hb68.trans (hb.mono hb68.size))) (hL6.out.later (hb68.trans (hb.mono hb68.size)))
      (((hb68.trans (hb.mono hb68.size)).cell (World.block_lt_of_cell? _ _ m0)).trans m0) (((hb68.trans (hb.mono hb68.size)).cell (World.block_lt_of_cell? _ _ m1)).trans m1), fun q l _ _ => reachSet_lt _ _ _, fun q hq => by omega⟩
  have hLL' := hid hLL
  clear hown8 hLL m0 m1
  go_wp2_with fail
  refine (numbered_any w8 (fun q => q < 65536) (letters al) (prNx s (hidA s.al al)) 123 _ n0 12 AL cL hNum.out (by rw [hn0.out]; exact reachSet_lt _ _ _) (by omega) (by omega) (lettersTo_len al 6) hcL hcL' hLL'.out).mono ?_
  rintro e w9 ⟨hb9, hpost⟩
  have hB9 := hB8.trans (hb9.mono hB8.size)
  have hz9 := hb9.size
  have hres9 := hres.out.below (hb1.trans ((hb3.trans ((hB4.trans ((hb5.trans ((hB6.trans (hb68.mono hB6.size |>.trans (hb9.mono (by omega)))).mono hz5)).mono hB4.size)).mono hz3)).mono hz1)) hres.out.lt
  have q0 := hres9.cell 0
  have q1 := hres9.cell 1
  have q2 := hres9.cell 2
  have f0 := hres9.frozen 0
  have f1 := hres9.frozen 1
  have f2 := hres9.frozen 2
  simp only [List.getElem?_toArray, List.getElem?_cons_zero, List.getElem?_cons_succ] at q0 q1 q2
  replace hres9 := hid hres9
  have hnum : Hid (prNum s al = numRes (prNx s (hidA s.al al)) (letters al) n0 12) := hid (by rw [hn0.out]; rfl)
  rw [← hnum.out] at hpost
  cases hpn : prNum s al with
  | none =>
    rw [hpn] at hpost
    subst hpost
    have hbad := hid (prA_none (s := s) (al := al) hpn)
    replace hpn := hid hpn
    unfold numV
    go_wp2
    refine bodyPost_ret (v := .tuple #[.agg #[.int .i64 0, .slice none 0 0, .slice none 0 0], .bool false]) (by simp [results, Tryd.results64, go_sem, q0, q1, q2]) rfl ?_
    rw [hbad.out.1, hbad.out.2]
    exact ⟨by (repeat (first | exact Below.refl _ _ | assumption | refine Below.drew ?_ | refine Below.alloc ?_ (by first | omega | (simp; done) | (simp; omega)) _ | refine Below.setCell ?_ (by first | omega | (simp; done) | (simp; omega)) _)), _, _, _, rfl, AuOwn.nil _ _⟩
  | some x =>
    rw [hpn] at hpost
    obtain ⟨v1, v2, xs, rfl, hv1, hv2, hxs⟩ := hpost
    have hgood := hid (prA_some (s := s) (al := al) hpk.out hpn)
    replace hpn := hid hpn
    obtain ⟨AS, cS, rfl, hcS, hcS', hLS⟩ := OwnNats.read hv1
    obtain ⟨AR, cR, rfl, hcR, hcR'⟩ := own_slice hv2.own
    unfold numV
    replace hv1 := hid hv1
    replace hv2 := hid hv2
    replace hLS := hid hLS
    go_wp2_with fail
    have hblk0 := hid (Blk.new w9 26 #[.int .i64 al, .slice AR xs.length cR, .slice none 0 0])
    have hxl : x.1.length ≤ 12 := (numRes_len (hpn.out)).1
    go_loopw [56] (fun iv wr => ∃ (k : Nat) (vA : Value), iv = .int .i64 (k : Nat) ∧ k ≤ x.1.length ∧ Blk wr w9.heap.size 26 #[.int .i64 al, .slice AR xs.length cR, vA] ∧ wr.ownsRow w9.heap.size 4 1 vA k (boolVals ((x.1.take k).map fun S => decide (S ≠ 0))) ∧ Below w9.heap.size w9 wr) (fun iv _ => x.1.length - (intOf iv).toNat)
    case atStart => exact ⟨0, _, rfl, by omega, hblk0.out, World.ownsRow_nil _ _ _ _, (Below.refl _ _).alloc (Nat.le_refl _) _⟩
    case round =>
      clear hblk0 q0 q1 q2 f0 f1 f2
      obtain ⟨k, vA, rfl, hk, hblk, hown, hb⟩ := hrel
      have hzr := hb.size
      obtain ⟨AA, cA, rfl, hcA, hcA'⟩ := own_slice hown
      by_cases hlt : k < x.1.length
      · obtain ⟨bS, oS, hAS, hbS, hcell⟩ := hLS.out.later hb (by omega)
        subst hAS
        have s0 := hcell k hlt
        obtain ⟨S, hS'⟩ : ∃ S, Hid (S = x.1[k]) := ⟨_, hid rfl⟩
        rw [← hS'.out] at s0
        obtain ⟨tb, htb⟩ : ∃ tb, ((S : Int) != 0) = tb := ⟨_, rfl⟩
        have d2 := hblk.cell 2
        simp only [List.getElem?_toArray, List.getElem?_cons_zero, List.getElem?_cons_succ] at d2
        have k1 : (0 : Int) ≤ (k : Int) ∧ (k : Int) < (x.1.length : Int) := by omega
        replace hcell := hid hcell
        have hblk' := hid hblk
        have hown' := hid hown
        clear hblk hown
        go_wp2_with (at_builtin; refine wpList_append_own_at _ rfl _ _ 24 rfl w9.heap.size 4 b0 (.bool false) 1 1 Tryd.underlying24 hbi hb0 hb1' hb2 rfl (by decide) _ _ _ rfl (hown'.out.alloc _) ⟨wr.heap.size, 0, none⟩ 1 1 [.bool tb] rfl rfl (cell_one_new _ _ _) (by intro u hu; simp at hu; subst hu; rfl) (by unfold maxLen; omega) (by omega) (by simp; omega) ?_; intro v5 w5 hO5 hg5 _ hat5; obtain ⟨A5, c5, ev5, -, -⟩ := own_slice hO5; subst ev5; have hk5 := (hb.alloc hzr _).grown hg5 (by simp; omega) (own_block hown'.out); have hbk5 : Blk w5 w9.heap.size 26 #[.int .i64 al, .slice AR xs.length cR, .slice AA k cA] := (hblk'.out.alloc _).keep ((KeepB.refl (fun b => (Value.slice AA k cA).ownBlock = some b) _).grown hg5 (fun k hk _ => hk)) (fun e => own_ne hown'.out hblk'.out (by decide) _ e rfl); have e2 := hbk5.cell 2; have g2 := hbk5.frozen 2; simp only [List.getElem?_toArray, List.getElem?_cons_zero, List.getElem?_cons_succ] at e2; replace hbk5 := hid hbk5; replace hO5 := hid hO5; replace hg5 := hid hg5)
        have hbk6 := hid (hbk5.out.set_ 2 (.slice A5 (k + 1) c5))
        have hO6 := hid (own_keep hO5.out ((KeepB.refl (fun b => b = w9.heap.size) w5).setCell ⟨w9.heap.size, 2, none⟩ (.slice A5 (k + 1) c5) fun _ => rfl) (own_ne hO5.out hbk5.out (by decide)))
        have hb6 := hid (hk5.setCell (p := ⟨w9.heap.size, 2, none⟩) (Nat.le_refl _) (.slice A5 (k + 1) c5))
        go_roundw
        case rel =>
          refine ⟨k + 1, _, by go_num, by omega, by simpa using hbk6.out, ?_, hb6.out⟩
          have := hO6.out
          rw [List.take_succ_eq_append_getElem hlt, List.map_append, ← hS'.out]
          unfold boolVals at this ⊢
          rw [List.map_append]
          have hSb : ((S : Int) != 0) = decide (S ≠ 0) := by rw [Bool.eq_iff_iff]; simp
          rw [← htb, hSb] at this
          exact this
        case measure => simp [intOf]; omega
      · obtain rfl : k = x.1.length := by omega
        rw [List.take_length] at hown
        have d0 := hblk.cell 0
        have d1 := hblk.cell 1
        have d2 := hblk.cell 2
        simp only [List.getElem?_toArray, List.getElem?_cons_zero, List.getElem?_cons_succ] at d0 d1 d2
        have hresr := hres9.out.below hb hres9.out.lt
        have q0 := hresr.cell 0
        have q1 := hresr.cell 1
        have q2 := hresr.cell 2
        have f0 := hresr.frozen 0
        have f1 := hresr.frozen 1
        have f2 := hresr.frozen 2
        simp only [List.getElem?_toArray, List.getElem?_cons_zero, List.getElem?_cons_succ] at q0 q1 q2
        have hsz := hb.size
        have hz1' : w.heap.size + 1 < w8.heap.size := by omega
        have hau : Hid (AuOwn wr w8.heap.size (.slice AR xs.length cR) (.slice AA x.1.length cA) (prAu al x) xs) := hid ⟨hv2.out.later hb, by rw [hxs]; rfl, by
          unfold prAu
          dsimp only
          rw [List.length_map]
          exact own_base hown (by omega)⟩
        have hBr := hB9.trans (hb.mono hB9.size)
        replace hblk := hid hblk
        replace hown := hid hown
        replace hresr := hid hresr
        go_wp2
        refine bodyPost_ret (v := .tuple #[.agg #[.int .i64 al, .slice AR xs.length cR, .slice AA x.1.length cA], .bool true]) (by simp [results, Tryd.results64, go_sem, q0, q1, q2]) rfl ?_
        rw [hgood.out.1, hgood.out.2]
        exact ⟨by (repeat (first | exact Below.refl _ _ | assumption | refine Below.drew ?_ | refine Below.alloc ?_ (by first | omega | (simp; done) | (simp; omega)) _ | refine Below.setCell ?_ (by first | omega | (simp; done) | (simp; omega)) _)), _, _, xs, rfl, (((hau.out.setFar hz1' _).setFar hz1' _).setFar hz1' _).base (by omega)⟩

end Go.Proofs.YtkoganldcmhopaaDoor

/- The reference's SystemValid returns sysOk. -/
namespace Go.Proofs.YtkoganldcmhopaaDoor
open Go.RowKit Go.BigFrame AG

attribute [local go_sem] Fam.below

end Go.Proofs.YtkoganldcmhopaaDoor

/- The reference's reached states. -/
namespace Go.Proofs.YtkoganldcmhopaaDoor
open Go.RowKit Go.BigFrame AG

set_option maxHeartbeats 400000 in
theorem l1Bit_any (n : Nat) (w : World) (h : n ≤ 61) :
    Calls Tryd.prog 119 #[.int .i64 n] w fun e w' => e = .returned (.int .i64 ((2 ^ n : Nat) : Int)) ∧ w = w' := by
  go_enter Tryd.func119, Tryd.ntmps119
  go_wp2
  go_ret
  exact ⟨ret_int (wrap_pow h), rfl⟩

set_option maxHeartbeats 400000 in
theorem l1Has_nat (S n : Nat) (w : World) (h1 : n ≤ 63) :
    Calls Tryd.prog 117 #[.int .i64 S, .int .i64 n] w fun e w' => e = .returned (.bool (S.testBit n)) ∧ w = w' := by
  have := l1Has_any S n w (by omega) (by omega)
  rw [Int.toNat_natCast, Has_nat] at this
  exact this

end Go.Proofs.YtkoganldcmhopaaDoor

/- The program's Determinize; the reference's l4In and l5Index; what l6Subsets holds in memory. -/
namespace Go.Proofs.YtkoganldcmhopaaDoor
open Go.RowKit Go.BigFrame Go.Maps AG

set_option maxRecDepth 100000 in
set_option maxHeartbeats 4000000 in
theorem implDeterminize_any (s : Sy) (A : Option Addr) (c : Nat) (w : World) (hl : s.es.length ≤ c) (hc : c ≤ 9223372036854775807) (hT : Tab w) (hr : EdsAt w w.heap.size A s.es) :
    Calls Tryd.prog 19 #[s.val A c] w (PrPost w (prA s s.al) (prK s s.al)) := by
  obtain ⟨w0, hw0, hz0, hB0, hS, hU⟩ := boxed2 w #[Value.int IntKind.i64 s.al, Value.int IntKind.i64 s.st, Value.slice A s.es.length c] 30 #[Value.int IntKind.i64 0, Value.slice none 0 0, Value.slice none 0 0] 26
  have hres : Blk w0 (w.heap.size + 1) 26 #[Value.int IntKind.i64 0, Value.slice none 0 0, Value.slice none 0 0] := by
    rw [← hw0]
    have := Blk.new (w.alloc (.cells #[Value.int IntKind.i64 s.al, Value.int IntKind.i64 s.st, Value.slice A s.es.length c] 30)) 26 #[Value.int IntKind.i64 0, Value.slice none 0 0, Value.slice none 0 0]
    simpa using this
  have hr0 := hid (hr.later hB0)
  have hT0 := hid (hT.later hB0)
  have p0 := hS 0 _ rfl _ (Below.refl _ _)
  have p1 := hS 1 _ rfl _ (Below.refl _ _)
  have p2 := hS 2 _ rfl _ (Below.refl _ _)
  replace hr := hid hr
  replace hT := hid hT
  replace hres := hid hres
  unfold Sy.val
  go_enter Tryd.func19, Tryd.ntmps19
  go_wp2_with fail
  refine (implProjectSystem_any s A c s.al w0 hl hc hT0.out hr0.out).mono ?_
  rintro e w1 ⟨hb1, v1, v2, xs, rfl, hau⟩
  have hB1 := hB0.trans (hb1.mono hB0.size)
  have hres1 := hres.out.below hb1 hres.out.lt
  have q0 := hres1.cell 0
  have q1 := hres1.cell 1
  have q2 := hres1.cell 2
  have f0 := hres1.frozen 0
  have f1 := hres1.frozen 1
  have f2 := hres1.frozen 2
  simp only [List.getElem?_toArray, List.getElem?_cons_zero, List.getElem?_cons_succ] at q0 q1 q2
  clear p0 p1 p2 hw0
  have hg : w.heap.size + 1 < w0.heap.size := by omega
  have hf : Hid (∀ u v z, AuOwn (((w1.setCell ⟨w.heap.size + 1, 0, none⟩ u).setCell ⟨w.heap.size + 1, 1, none⟩ v).setCell ⟨w.heap.size + 1, 2, none⟩ z) w.heap.size v1 v2 (prA s s.al) xs) := hid fun u v z => (((hau.setFar hg u).setFar hg v).setFar hg z).base (by omega)
  obtain ⟨A1, c1, B1, d1, rfl, rfl, -⟩ := hau.at_
  replace hau := hid hau
  replace hres1 := hid hres1
  obtain ⟨a, ha⟩ : ∃ a, a = prA s s.al := ⟨_, rfl⟩
  obtain ⟨ok, hok⟩ : ∃ ok, ok = prK s s.al := ⟨_, rfl⟩
  rw [← ha] at hf ⊢
  rw [← hok]
  replace ha := hid ha
  replace hok := hid hok
  go_wp2
  refine bodyPost_ret (v := .tuple #[.agg #[.int .i64 a.al, .slice A1 a.nx.length c1, .slice B1 a.ac.length d1], .bool ok]) (by simp [results, Tryd.results19, go_sem, q0, q1, q2]) rfl ?_
  have ha' := ha.out
  have hok' := hok.out
  subst ha'
  subst hok'
  exact ⟨by (repeat (first | exact Below.refl _ _ | assumption | refine Below.drew ?_ | refine Below.alloc ?_ (by first | omega | (simp; done) | (simp; omega)) _ | refine Below.setCell ?_ (by first | omega | (simp; done) | (simp; omega)) _)), _, _, xs, rfl, hf.out _ _ _⟩

end Go.Proofs.YtkoganldcmhopaaDoor

/- A statement that draws its order and whose calls may write some old blocks one after the other: one walk in the order of the text serves every order, if what holds behind m operations is told (I m). -/
namespace AG
open Go Go.RowKit

/-- The ways on of a world: what one operation may do (S), and what holds behind m operations (I m). -/
structure Way (S : World → World → Prop) (I : Nat → World → Prop) : Prop where
  refl : ∀ w, S w w
  trans : ∀ a b c, S a b → S b c → S a c
  more : ∀ m w, I m w → I (m + 1) w

theorem Way.mono {S : World → World → Prop} {I : Nat → World → Prop} (y : Way S I) {m : Nat} {w : World} (h : I m w) : ∀ k, I (m + k) w
  | 0 => h
  | k + 1 => y.more _ _ (y.mono h k)

namespace GK
section
variable {P : Program} {ops : Array Oper} {md : Region.Mode} {n M : Nat} {S : World → World → Prop} {I : Nat → World → Prop} {sp : Nat → Value → World → Prop}

/-- What the check says of the first n operations. -/
structure Ok (md : Region.Mode) (ops : Array Oper) (n : Nat) : Prop where
  sel : Region.noSelect ops = true
  size : n ≤ ops.size
  back : ∀ j, j < n → ∀ k ∈ predsOf md ops j, k < j
  one : ∀ i k t, i < n → k < n → dstOf ops i = some t → dstOf ops k = some t → i = k
  seen : ∀ j k t, j < n → k < n → dstOf ops k = some t → t ∈ looksOf ops j → k ∈ predsOf md ops j

/-- The frames of two ways look the same to an operation whose callers have all come up. -/
theorem Ok.same {L : Nat → Bool} {val vh : Nat → Value} {a0 ar a : Act} {j : Nat} {oj : Oper} (g : Ok md ops n) (hr : Pt ops n L val a0 ar) (hl : Pt ops n (fun k => decide (k < j)) vh a0 a) (hj : j < n)
    (ho : ops[j]? = some oj) (hp : ∀ k ∈ predsOf md ops j, L k = true) (hv : ∀ k, k < j → L k = true → vh k = val k) :
    execOp a.eval oj = execOp ar.eval oj ∧ Region.wanted oj (yielded ops a.tmps) = Region.wanted oj (yielded ops ar.tmps) := by
  refine look_same (Region.noSelect_spec g.sel j oj · · ho) fun t ht => hl.agree hr fun k hk hd => ?_
  have hm := g.seen j k t hj hk hd (by simpa [looksOf, ho] using ht)
  have hlt := g.back j hj k hm
  have hLk := hp k hm
  exact ⟨by simp [hlt, hLk], fun _ => hv k hlt hLk⟩

/-- A fact that stays whatever the operations do. -/
def Steady (S : World → World → Prop) (F : World → Prop) : Prop := ∀ w w', S w w' → F w → F w'

/-- The walk in the order of the text; L: the operations that have been carried out already (none, for who walks). -/
def Res (P : Program) (md : Region.Mode) (ops : Array Oper) (S : World → World → Prop) (I : Nat → World → Prop) (M : Nat) (sp : Nat → Value → World → Prop) (L : Nat → Bool) (val : Nat → Value) (wr : World)
    (Q : List (Nat × (World → Prop)) → Act → Prop) : List Oper → Nat → List (Nat × (World → Prop)) → Act → Prop
  | [], _, Γ, a => Q Γ a
  | o :: rest, i, Γ, a =>
    if Region.wanted o (yielded ops a.tmps) = true then
      (∃ v, (∀ m w, m < M → I m w → fnUpon (fun u w' => u = v ∧ w' = w) ((execOp a.eval o).run P w)) ∧ (L i = true → val i = v) ∧ Res P md ops S I M sp L val wr Q rest (i + 1) Γ (a.put o.dst v)) ∨
      (∃ Z : Value → World → Prop, (∀ u, Steady S (Z u)) ∧ (∀ m w, m < M → I m w → FactsAt md ops i Γ w → fnUpon (fun u w' => (S w w' ∧ I (m + 1) w') ∧ Z u w') ((execOp a.eval o).run P w)) ∧ (L i = true → Z (val i) wr) ∧
        ∀ u, (L i = true → u = val i) → (L i = false → ∃ m w', I m w' ∧ Z u w') → Res P md ops S I M sp L val wr Q rest (i + 1) ((i, Z u) :: Γ) (a.put o.dst u)) ∨
      ((∀ u, Steady S (sp i u)) ∧ (∀ m w, m < M → I m w → FactsAt md ops i Γ w → callUpon P w (fun e w' => ∃ u, e = .returned u ∧ (S w w' ∧ I (m + 1) w') ∧ sp i u w') ((execOp a.eval o).run P w)) ∧ (L i = true → sp i (val i) wr) ∧
        ∀ u, (L i = true → u = val i) → (L i = false → ∃ m w', I m w' ∧ sp i u w') → Res P md ops S I M sp L val wr Q rest (i + 1) ((i, sp i u) :: Γ) (a.put o.dst u))
    else (L i = true → val i = undef) ∧ Res P md ops S I M sp L val wr Q rest (i + 1) Γ (a.put o.dst undef)

variable {Q : List (Nat × (World → Prop)) → Act → Prop}

/-- Behind the place of what was carried out last: only the world has moved on. -/
theorem Res.later {L L' : Nat → Bool} {val val' : Nat → Value} {wr w1 : World} (hb : S wr w1) : ∀ (l : List Oper) (i : Nat) (Γ : List (Nat × (World → Prop))) (a : Act),
    (∀ k, i ≤ k → L' k = L k ∧ val' k = val k) → Res P md ops S I M sp L val wr Q l i Γ a → Res P md ops S I M sp L' val' w1 Q l i Γ a := by
  intro l
  induction l with
  | nil => intro i Γ a _ h; exact h
  | cons o rest ih =>
    intro i Γ a he h
    obtain ⟨hL, hv⟩ := he i (Nat.le_refl i)
    have he' : ∀ k, i + 1 ≤ k → L' k = L k ∧ val' k = val k := fun k hk => he k (by omega)
    unfold Res at h ⊢
    rw [hL, hv]
    split
    · rename_i hw
      rw [if_pos hw] at h
      rcases h with ⟨v, h1, h2, h3⟩ | ⟨Z, hs, h1, h2, h3⟩ | ⟨hs, h1, h2, h3⟩
      · exact .inl ⟨v, h1, h2, ih _ _ _ he' h3⟩
      · exact .inr (.inl ⟨Z, hs, h1, fun h => hs _ _ _ hb (h2 h), fun u hu hu' => ih _ _ _ he' (h3 u hu hu')⟩)
      · exact .inr (.inr ⟨hs, h1, fun h => hs _ _ _ hb (h2 h), fun u hu hu' => ih _ _ _ he' (h3 u hu hu')⟩)
    · rename_i hw
      rw [if_neg hw] at h
      exact ⟨h.1, ih _ _ _ he' h.2⟩

/-- Some way leads to operation j. -/
theorem Res.reach {L : Nat → Bool} {val : Nat → Value} {wr : World} {a0 : Act} {j : Nat} {oj : Oper} (y : Way S I) (g : Ok md ops n) (hj : j < n) (ho : ops[j]? = some oj) :
    ∀ (l : List Oper) (i : Nat) (Γ : List (Nat × (World → Prop))) (a : Act) (vh : Nat → Value) (mh : Nat) (wh : World), (∀ m, m < l.length → l[m]? = ops[i + m]?) → i + l.length = n → i ≤ j → Res P md ops S I M sp L val wr Q l i Γ a →
      Pt ops n (fun k => decide (k < i)) vh a0 a → (∀ k, k < i → L k = true → vh k = val k) → (∀ p ∈ Γ, Steady S p.2) → (∀ p ∈ Γ, L p.1 = true → p.2 wr) → mh + l.length ≤ M → S wr wh → I mh wh → (∀ p ∈ Γ, p.2 wh) →
      ∃ rest Γj aj vj, Res P md ops S I M sp L val wr Q (oj :: rest) j Γj aj ∧ Pt ops n (fun k => decide (k < j)) vj a0 aj ∧ (∀ k, k < j → L k = true → vj k = val k) ∧ (∀ p ∈ Γj, L p.1 = true → p.2 wr) := by
  intro l
  induction l with
  | nil => intro i Γ a vh mh wh _ hn hij; simp at hn; omega
  | cons o rest ih =>
    intro i Γ a vh mh wh hl hn hij h hpt hv hst hlr hmh hrh hBh hfh
    have hio : ops[i]? = some o := by simpa using (hl 0 (by simp)).symm
    by_cases e : i = j
    · subst e
      obtain rfl : o = oj := Option.some.inj (hio.symm.trans ho)
      exact ⟨rest, Γ, a, vh, h, hpt, hv, hlr⟩
    · have hlt : i < j := by omega
      have hin : i < n := by omega
      have hl' : ∀ m, m < rest.length → rest[m]? = ops[i + 1 + m]? := fun m hm => by
        have := hl (m + 1) (by simp; omega)
        simpa [Nat.add_assoc, Nat.add_comm 1 m] using this
      have hn' : i + 1 + rest.length = n := by simp at hn; omega
      have hm1 : mh + rest.length ≤ M ∧ mh + 1 + rest.length ≤ M ∧ mh < M := by simp at hmh; omega
      have hput : ∀ u, Pt ops n (fun k => decide (k < i + 1)) (upd vh i u) a0 (a.put o.dst u) := fun u => by
        have := hpt.put (u := u) g.one hin (by simp) hio
        have e2 : ins (fun k => decide (k < i)) i = fun k => decide (k < i + 1) := by
          funext k; simp only [ins]; rw [Bool.eq_iff_iff]; simp; omega
        rwa [e2] at this
      have hvu : ∀ u, (L i = true → u = val i) → ∀ k, k < i + 1 → L k = true → upd vh i u k = val k := fun u hu k hk hLk => by
        unfold upd
        by_cases e : k = i
        · subst e; rw [if_pos rfl]; exact hu hLk
        · rw [if_neg e]; exact hv k (by omega) hLk
      unfold Res at h
      split at h
      · rcases h with ⟨v, h1, h2, h3⟩ | ⟨Z, hs, h1, h2, h3⟩ | ⟨hs, h1, h2, h3⟩
        · exact ih _ _ _ _ mh wh hl' hn' (by omega) h3 (hput v) (hvu v fun h => (h2 h).symm) hst hlr hm1.1 hrh hBh hfh
        · cases hLi : L i with
          | true =>
            refine ih _ _ _ _ mh wh hl' hn' (by omega) (h3 (val i) (fun _ => rfl) (fun h => by rw [hLi] at h; cases h)) (hput _) (hvu _ fun _ => rfl) ?_ ?_ hm1.1 hrh hBh ?_
            · exact fun p hp => by rcases List.mem_cons.1 hp with rfl | hp; exact hs _; exact hst p hp
            · exact fun p hp hL => by rcases List.mem_cons.1 hp with rfl | hp; exact h2 hLi; exact hlr p hp hL
            · exact fun p hp => by rcases List.mem_cons.1 hp with rfl | hp; exact hs _ _ _ hrh (h2 hLi); exact hfh p hp
          | false =>
            have hx := h1 mh wh hm1.2.2 hBh fun p hp _ => hfh p hp
            have hgo : ∀ u w', (S wh w' ∧ I (mh + 1) w') ∧ Z u w' → _ := fun u w' hz =>
              ih (i + 1) ((i, Z u) :: Γ) (a.put o.dst u) (upd vh i u) (mh + 1) w' hl' hn' (by omega) (h3 u (fun h => by rw [hLi] at h; cases h) (fun _ => ⟨_, w', hz.1.2, hz.2⟩)) (hput u)
                (hvu u fun h => by rw [hLi] at h; cases h) (fun p hp => by rcases List.mem_cons.1 hp with rfl | hp; exact hs _; exact hst p hp)
                (fun p hp hL => by rcases List.mem_cons.1 hp with rfl | hp; (rw [hLi] at hL; cases hL); exact hlr p hp hL) hm1.2.1 (y.trans _ _ _ hrh hz.1.1) hz.1.2
                (fun p hp => by rcases List.mem_cons.1 hp with rfl | hp; exact hz.2; exact hst p hp _ _ hz.1.1 (hfh p hp))
            generalize (execOp a.eval o).run P wh = r at hx
            cases r with
            | ok x w' => cases x <;> simp only [fnUpon] at hx <;> exact hgo _ _ hx
            | halt x w' => exact hx.elim
        · cases hLi : L i with
          | true =>
            refine ih _ _ _ _ mh wh hl' hn' (by omega) (h3 (val i) (fun _ => rfl) (fun h => by rw [hLi] at h; cases h)) (hput _) (hvu _ fun _ => rfl) ?_ ?_ hm1.1 hrh hBh ?_
            · exact fun p hp => by rcases List.mem_cons.1 hp with rfl | hp; exact hs _; exact hst p hp
            · exact fun p hp hL => by rcases List.mem_cons.1 hp with rfl | hp; exact h2 hLi; exact hlr p hp hL
            · exact fun p hp => by rcases List.mem_cons.1 hp with rfl | hp; exact hs _ _ _ hrh (h2 hLi); exact hfh p hp
          | false =>
            have hx := h1 mh wh hm1.2.2 hBh fun p hp _ => hfh p hp
            have hgo : ∀ u w', (S wh w' ∧ I (mh + 1) w') ∧ sp i u w' → _ := fun u w' hz =>
              ih (i + 1) ((i, sp i u) :: Γ) (a.put o.dst u) (upd vh i u) (mh + 1) w' hl' hn' (by omega) (h3 u (fun h => by rw [hLi] at h; cases h) (fun _ => ⟨_, w', hz.1.2, hz.2⟩)) (hput u)
                (hvu u fun h => by rw [hLi] at h; cases h) (fun p hp => by rcases List.mem_cons.1 hp with rfl | hp; exact hs _; exact hst p hp)
                (fun p hp hL => by rcases List.mem_cons.1 hp with rfl | hp; (rw [hLi] at hL; cases hL); exact hlr p hp hL) hm1.2.1 (y.trans _ _ _ hrh hz.1.1) hz.1.2
                (fun p hp => by rcases List.mem_cons.1 hp with rfl | hp; exact hz.2; exact hst p hp _ _ hz.1.1 (hfh p hp))
            generalize (execOp a.eval o).run P wh = r at hx
            cases r with
            | ok x w' =>
              cases x <;> simp only [callUpon] at hx
              obtain ⟨_, hc⟩ := hx
              obtain ⟨e', w'', _, ⟨u, _, hz⟩, _⟩ := hc []
              exact hgo u w'' hz
            | halt x w' => exact hx.elim
      · exact ih _ _ _ _ mh wh hl' hn' (by omega) h.2 (hput undef) (hvu undef fun hL => (h.1 hL).symm) hst hlr hm1.1 hrh hBh hfh

theorem Res.mark {L : Nat → Bool} {val : Nat → Value} {wr w1 : World} {a0 ar : Act} {j mr m1 : Nat} {oj : Oper} {u : Value} (g : Ok md ops n) (hj : j < n) (ho : ops[j]? = some oj) (hLj : L j = false)
    (hp : ∀ k ∈ predsOf md ops j, L k = true) (hdep : ∀ k, depB md ops j k = true → L k = true) (hr : Pt ops n L val a0 ar) (hmr : mr < M) (hBr : I mr wr) (hb : S wr w1) (hB1 : I m1 w1) (hout : Outc P ops sp j oj ar wr u w1) :
    ∀ (l : List Oper) (i : Nat) (Γ : List (Nat × (World → Prop))) (a : Act) (vh : Nat → Value), (∀ m, m < l.length → l[m]? = ops[i + m]?) → i + l.length = n → i ≤ j → Res P md ops S I M sp L val wr Q l i Γ a →
      Pt ops n (fun k => decide (k < i)) vh a0 a → (∀ k, k < i → L k = true → vh k = val k) → (∀ p ∈ Γ, L p.1 = true → p.2 wr) → Res P md ops S I M sp (ins L j) (upd val j u) w1 Q l i Γ a := by
  intro l
  induction l with
  | nil => intro i Γ a vh _ hn hij; simp at hn; omega
  | cons o rest ih =>
    intro i Γ a vh hl hn hij h hpt hv hlr
    have hio : ops[i]? = some o := by simpa using (hl 0 (by simp)).symm
    by_cases e : i = j
    · subst e
      obtain rfl : o = oj := Option.some.inj (hio.symm.trans ho)
      obtain ⟨hex, hwt⟩ := g.same hr hpt hj ho hp hv
      have hins : ins L i i = true := by simp [ins]
      have hupd : upd val i u i = u := by simp [upd]
      have hafter : ∀ k, i + 1 ≤ k → ins L i k = L k ∧ upd val i u k = val k := fun k hk => by
        have : k ≠ i := by omega
        simp [ins, upd, this]
      have hF : FactsAt md ops i Γ wr := fun p hp' hd => hlr p hp' (hdep _ hd)
      unfold Res at h ⊢
      rw [hins, hupd]
      unfold Outc at hout
      rw [← hex, ← hwt] at hout
      split
      · rename_i hw
        rw [if_pos hw] at h hout
        rcases h with ⟨v, h1, h2, h3⟩ | ⟨Z, hs, h1, h2, h3⟩ | ⟨hs, h1, h2, h3⟩
        · have hx := h1 mr wr hmr hBr
          have huv : u = v := by
            generalize (execOp a.eval o).run P wr = r at hx hout
            cases r with
            | ok x w' => cases x <;> simp only [fnUpon] at hx <;> simp only at hout <;> rw [← hout.1, hx.1]
            | halt x w' => exact hx.elim
          exact .inl ⟨v, h1, fun _ => huv, Res.later hb _ _ _ _ hafter h3⟩
        · have hx := h1 mr wr hmr hBr hF
          have hz : Z u w1 := by
            generalize (execOp a.eval o).run P wr = r at hx hout
            cases r with
            | ok x w' => cases x <;> simp only [fnUpon] at hx <;> simp only at hout <;> (obtain ⟨rfl, rfl⟩ := hout; exact hx.2)
            | halt x w' => exact hx.elim
          refine .inr (.inl ⟨Z, hs, h1, fun _ => hz, fun u' hu' _ => ?_⟩)
          obtain rfl := hu' rfl
          exact Res.later hb _ _ _ _ hafter (h3 u' (fun h => by rw [hLj] at h; cases h) (fun _ => ⟨m1, w1, hB1, hz⟩))
        · have hx := h1 mr wr hmr hBr hF
          have hz : sp i u w1 := by
            generalize (execOp a.eval o).run P wr = r at hx hout
            cases r with
            | ok x w' => cases x <;> simp only [callUpon] at hx; exact hout
            | halt x w' => exact hx.elim
          refine .inr (.inr ⟨hs, h1, fun _ => hz, fun u' hu' _ => ?_⟩)
          obtain rfl := hu' rfl
          exact Res.later hb _ _ _ _ hafter (h3 u' (fun h => by rw [hLj] at h; cases h) (fun _ => ⟨m1, w1, hB1, hz⟩))
      · rename_i hw
        rw [if_neg hw] at h hout
        exact ⟨fun _ => hout.1.symm, Res.later hb _ _ _ _ hafter h.2⟩
    · have hlt : i < j := by omega
      have hin : i < n := by omega
      have hl' : ∀ m, m < rest.length → rest[m]? = ops[i + 1 + m]? := fun m hm => by
        have := hl (m + 1) (by simp; omega)
        simpa [Nat.add_assoc, Nat.add_comm 1 m] using this
      have hn' : i + 1 + rest.length = n := by simp at hn; omega
      have hput : ∀ u, Pt ops n (fun k => decide (k < i + 1)) (upd vh i u) a0 (a.put o.dst u) := fun u => by
        have := hpt.put (u := u) g.one hin (by simp) hio
        have e2 : ins (fun k => decide (k < i)) i = fun k => decide (k < i + 1) := by
          funext k; simp only [ins]; rw [Bool.eq_iff_iff]; simp; omega
        rwa [e2] at this
      have hvu : ∀ u, (L i = true → u = val i) → ∀ k, k < i + 1 → L k = true → upd vh i u k = val k := fun u hu k hk hLk => by
        unfold upd
        by_cases e : k = i
        · subst e; rw [if_pos rfl]; exact hu hLk
        · rw [if_neg e]; exact hv k (by omega) hLk
      have hins : ins L j i = L i := by simp [ins, e]
      have hupd : upd val j u i = val i := by simp [upd, e]
      unfold Res at h ⊢
      rw [hins, hupd]
      split
      · rename_i hw
        rw [if_pos hw] at h
        rcases h with ⟨v, h1, h2, h3⟩ | ⟨Z, hs, h1, h2, h3⟩ | ⟨hs, h1, h2, h3⟩
        · exact .inl ⟨v, h1, h2, ih _ _ _ _ hl' hn' (by omega) h3 (hput v) (hvu v fun h => (h2 h).symm) hlr⟩
        · exact .inr (.inl ⟨Z, hs, h1, fun h => hs _ _ _ hb (h2 h), fun u' hu hu' => ih _ _ _ _ hl' hn' (by omega) (h3 u' hu hu') (hput u') (hvu u' hu) fun p hp hL => by
            rcases List.mem_cons.1 hp with rfl | hp
            · rw [hu hL]; exact h2 hL
            · exact hlr p hp hL⟩)
        · exact .inr (.inr ⟨hs, h1, fun h => hs _ _ _ hb (h2 h), fun u' hu hu' => ih _ _ _ _ hl' hn' (by omega) (h3 u' hu hu') (hput u') (hvu u' hu) fun p hp hL => by
            rcases List.mem_cons.1 hp with rfl | hp
            · rw [hu hL]; exact h2 hL
            · exact hlr p hp hL⟩)
      · rename_i hw
        rw [if_neg hw] at h
        exact ⟨h.1, ih _ _ _ _ hl' hn' (by omega) h.2 (hput undef) (hvu undef fun hL => (h.1 hL).symm) hlr⟩

/-- All have come up. -/
theorem Res.over {L : Nat → Bool} {val : Nat → Value} {wr : World} {a0 : Act} (g : Ok md ops n) (hL : ∀ k, k < n → L k = true) :
    ∀ (l : List Oper) (i : Nat) (Γ : List (Nat × (World → Prop))) (a : Act) (vh : Nat → Value), (∀ m, m < l.length → l[m]? = ops[i + m]?) → i + l.length = n → Res P md ops S I M sp L val wr Q l i Γ a →
      Pt ops n (fun k => decide (k < i)) vh a0 a → (∀ k, k < i → vh k = val k) → (∀ p ∈ Γ, p.2 wr) → ∃ Γ' a' vh', Q Γ' a' ∧ Pt ops n (fun k => decide (k < n)) vh' a0 a' ∧ (∀ k, k < n → vh' k = val k) ∧ ∀ p ∈ Γ', p.2 wr := by
  intro l
  induction l with
  | nil =>
    intro i Γ a vh _ hn h hpt hv hf
    obtain rfl : i = n := by simpa using hn
    exact ⟨Γ, a, vh, h, hpt, hv, hf⟩
  | cons o rest ih =>
    intro i Γ a vh hl hn h hpt hv hf
    have hio : ops[i]? = some o := by simpa using (hl 0 (by simp)).symm
    have hin : i < n := by simp at hn; omega
    have hLi := hL i hin
    have hl' : ∀ m, m < rest.length → rest[m]? = ops[i + 1 + m]? := fun m hm => by
      have := hl (m + 1) (by simp; omega)
      simpa [Nat.add_assoc, Nat.add_comm 1 m] using this
    have hn' : i + 1 + rest.length = n := by simp at hn; omega
    have hput : ∀ u, Pt ops n (fun k => decide (k < i + 1)) (upd vh i u) a0 (a.put o.dst u) := fun u => by
      have := hpt.put (u := u) g.one hin (by simp) hio
      have e2 : ins (fun k => decide (k < i)) i = fun k => decide (k < i + 1) := by
        funext k; simp only [ins]; rw [Bool.eq_iff_iff]; simp; omega
      rwa [e2] at this
    have hvu : ∀ u, u = val i → ∀ k, k < i + 1 → upd vh i u k = val k := fun u hu k hk => by
      unfold upd
      by_cases e : k = i
      · subst e; rw [if_pos rfl]; exact hu
      · rw [if_neg e]; exact hv k (by omega)
    unfold Res at h
    split at h
    · rcases h with ⟨v, h1, h2, h3⟩ | ⟨Z, hs, h1, h2, h3⟩ | ⟨hs, h1, h2, h3⟩
      · exact ih _ _ _ _ hl' hn' h3 (hput v) (hvu v (h2 hLi).symm) hf
      · exact ih _ _ _ _ hl' hn' (h3 (val i) (fun _ => rfl) (fun h => by rw [hLi] at h; cases h)) (hput _) (hvu _ rfl) fun p hp => by
          rcases List.mem_cons.1 hp with rfl | hp
          exact h2 hLi; exact hf p hp
      · exact ih _ _ _ _ hl' hn' (h3 (val i) (fun _ => rfl) (fun h => by rw [hLi] at h; cases h)) (hput _) (hvu _ rfl) fun p hp => by
          rcases List.mem_cons.1 hp with rfl | hp
          exact h2 hLi; exact hf p hp
    · exact ih _ _ _ _ hl' hn' h.2 (hput undef) (hvu undef (h.1 hLi).symm) hf

/-- One operation comes up. -/
theorem Res.step {Qx : Exit → Act → World → Prop} {L : Nat → Bool} {val : Nat → Value} {wr : World} {a0 ar : Act} {j mr : Nat} {oj : Oper} {l : List Oper} (y : Way S I) (g : Ok md ops n) (hj : j < n) (ho : ops[j]? = some oj)
    (hLj : L j = false) (hp : ∀ k ∈ predsOf md ops j, L k = true) (hdep : ∀ k, depB md ops j k = true → L k = true) (hr : Pt ops n L val a0 ar) (hmr : mr + n ≤ M) (hBr : I mr wr) (hl : ∀ m, m < l.length → l[m]? = ops[m]?) (hn : l.length = n)
    (h : Res P md ops S I M sp L val wr Q l 0 [] a0) :
    wpOp P ops Qx j (fun a' w' => ∃ u, a' = ar.put oj.dst u ∧ I (mr + 1) w' ∧ Res P md ops S I M sp (ins L j) (upd val j u) w' Q l 0 [] a0) ar wr := by
  have pt0 : ∀ v, Pt ops n (fun k => decide (k < 0)) v a0 a0 := fun v => ⟨rfl, fun k t _ hS => by simp at hS, fun _ _ => rfl⟩
  have hl0 : ∀ m, m < l.length → l[m]? = ops[0 + m]? := fun m hm => by rw [Nat.zero_add]; exact hl m hm
  have hmM : mr < M := by omega
  have after : ∀ u w1, S wr w1 → I (mr + 1) w1 → Outc P ops sp j oj ar wr u w1 → (∃ u', ar.put oj.dst u = ar.put oj.dst u' ∧ I (mr + 1) w1 ∧ Res P md ops S I M sp (ins L j) (upd val j u') w1 Q l 0 [] a0) := fun u w1 hb hB1 hout =>
    ⟨u, rfl, hB1, Res.mark g hj ho hLj hp hdep hr hmM hBr hb hB1 hout l 0 [] a0 val hl0 (by omega) (Nat.zero_le _) h (pt0 _) (fun k hk => by omega) (fun p hp => by cases hp)⟩
  obtain ⟨rest, Γ, a, vh, hres, hpt, hv, hlr⟩ := Res.reach (j := j) y g hj ho l 0 [] a0 val mr wr hl0 (by omega) (Nat.zero_le _) h (pt0 _) (fun k hk => by omega) (fun p hp => by cases hp) (fun p hp => by cases hp) (by omega) (y.refl _) hBr (fun p hp => by cases hp)
  obtain ⟨hex, hwt⟩ := g.same hr hpt hj ho hp hv
  have hF : FactsAt md ops j Γ wr := fun p hp' hd => hlr p hp' (hdep _ hd)
  unfold wpOp
  simp only [ho]
  unfold Res at hres
  rw [hex, hwt] at hres
  split
  · rename_i hw
    rw [if_pos hw] at hres
    refine .inl ?_
    unfold Oper.wp
    have hout : ∀ u w1, (match (execOp ar.eval oj).run P wr with | .ok (.value v) w' => v = u ∧ w' = w1 | .ok .skip w' => undef = u ∧ w' = w1 | .ok (.enter _ _) _ => sp j u w1 | _ => False) → Outc P ops sp j oj ar wr u w1 := fun u w1 h => by
      unfold Outc; rw [if_pos hw]; exact h
    rcases hres with ⟨v, h1, h2, h3⟩ | ⟨Z, hs, h1, h2, h3⟩ | ⟨hs, h1, h2, h3⟩
    · have hx := h1 mr wr hmM hBr
      cases hrun : (execOp ar.eval oj).run P wr with
      | ok x w' =>
        rw [hrun] at hx hout
        cases x <;> simp only [fnUpon] at hx <;> simp only [Oper.upon]
        case value v' => exact after _ _ (by rw [hx.2]; exact y.refl _) (by rw [hx.2]; exact y.more _ _ hBr) (hout _ _ ⟨rfl, rfl⟩)
        case skip => exact after _ _ (by rw [hx.2]; exact y.refl _) (by rw [hx.2]; exact y.more _ _ hBr) (hout _ _ ⟨rfl, rfl⟩)
      | halt x w' => rw [hrun] at hx; exact hx.elim
    · have hx := h1 mr wr hmM hBr hF
      cases hrun : (execOp ar.eval oj).run P wr with
      | ok x w' =>
        rw [hrun] at hx hout
        cases x <;> simp only [fnUpon] at hx <;> simp only [Oper.upon]
        case value v' => exact after _ _ hx.1.1 hx.1.2 (hout _ _ ⟨rfl, rfl⟩)
        case skip => exact after _ _ hx.1.1 hx.1.2 (hout _ _ ⟨rfl, rfl⟩)
      | halt x w' => rw [hrun] at hx; exact hx.elim
    · have hx := h1 mr wr hmM hBr hF
      cases hrun : (execOp ar.eval oj).run P wr with
      | ok x w' =>
        rw [hrun] at hx hout
        cases x <;> simp only [callUpon] at hx
        simp only [Oper.upon]
        obtain ⟨rfl, hc⟩ := hx
        exact hc.mono fun e w'' ⟨u, he, hb, hz⟩ => by subst he; exact after u w'' hb.1 hb.2 (hout _ _ hz)
      | halt x w' => rw [hrun] at hx; exact hx.elim
  · rename_i hw
    rw [if_neg hw] at hres
    exact after _ _ (y.refl _) (y.more _ _ hBr) (by unfold Outc; rw [if_neg hw]; exact ⟨rfl, rfl⟩)

/-- Operations that the walk need not wait for (Z) have been carried out; the others behind the first n have not. -/
structure HInv (md : Region.Mode) (ops : Array Oper) (n : Nat) (Z : Nat → Bool) (listed : Array Bool) : Prop where
  size : listed.size = ops.size
  closed : ∀ j oj, ops[j]? = some oj → listed.getD j false = true → ∀ e ∈ oj.after, Region.binds md e = true → listed.getD e.on false = true
  tail : ∀ t, n ≤ t → t < ops.size → Z t = false → listed.getD t true = false
  zin : ∀ t, n ≤ t → t < ops.size → Z t = true → listed.getD t false = true
theorem HInv.set {Z : Nat → Bool} {i : Nat} {listed : Array Bool} (inv : HInv md ops n Z listed) (hi : i ∈ Region.ready md ops listed) (hin : i < n) : HInv md ops n Z (listed.setIfInBounds i true) := by
  obtain ⟨_, oi, hoi, hall⟩ := mem_ready.1 hi
  refine ⟨by simp [inv.size], fun j oj hj hl e he hb => ?_, fun t ht ht' hz => by rw [getD_set_ne true (by omega)]; exact inv.tail t ht ht' hz, fun t ht ht' hz => getD_set_true (inv.zin t ht ht' hz)⟩
  by_cases hij : i = j
  · subst hij
    have : oj = oi := Option.some.inj (hj.symm.trans hoi)
    subst this
    exact getD_set_true (hall e he hb)
  · rw [getD_set_ne false hij] at hl
    exact getD_set_true (inv.closed j oj hj hl e he hb)
def canonZ (ops : Array Oper) (n : Nat) (Z : Nat → Bool) : Array Bool := ((List.range ops.size).map fun k => decide (k < n) || Z k).toArray
/-- The operations that operation j waits for, at once or through others. -/
def needs (md : Region.Mode) (ops : Array Oper) (j : Nat) : List Nat := upset md ops ops.size (predsOf md ops j)

theorem grow_any {Qx : Exit → Act → World → Prop} {a0 : Act} {l : List Oper} {Z : Nat → Bool} {m1 : Nat} (y : Way S I) (g : Ok md ops n) (hM : 2 * n ≤ M) (hwait : ∀ t, n ≤ t → t < ops.size → Z t = false → ∀ i, i < n → i ∈ needs md ops t) (hl : ∀ m, m < l.length → l[m]? = ops[m]?) (hn : l.length = n)
    (hQ : ∀ Γ a w, Q Γ a → I n w → (∀ p ∈ Γ, p.2 w) → wpAny P md ops Qx m1 (canonZ ops n Z) a w) :
    ∀ (f : Nat) (listed : Array Bool) (ar : Act) (mr : Nat) (wr : World) (val : Nat → Value), (List.range n).countP (fun k => !listed.getD k false) = f → HInv md ops n Z listed → Pt ops n (fun k => listed.getD k false) val a0 ar → mr + f = n → I mr wr →
      Res P md ops S I M sp (fun k => listed.getD k false) val wr Q l 0 [] a0 → wpAny P md ops Qx (f + m1) listed ar wr := by
  intro f
  induction f with
  | zero =>
    intro listed ar mr wr val hc inv hpt hmr hB h
    have hall : ∀ k, k < n → listed.getD k false = true := fun k hk => by
      have := List.countP_eq_zero.1 hc k (List.mem_range.2 hk)
      simpa using this
    obtain ⟨Γ, a, vh, hq, hpa, hv, hf⟩ := Res.over g hall l 0 [] a0 val (fun m hm => by rw [Nat.zero_add]; exact hl m hm) (by omega) h ⟨rfl, fun k t _ hS => by simp at hS, fun _ _ => rfl⟩ (fun k hk => by omega) (fun p hp => by cases hp)
    have hcan : listed = canonZ ops n Z := by
      apply Array.ext_getElem?
      intro k
      unfold canonZ
      by_cases hks : k < ops.size
      · have hks' : k < listed.size := by rw [inv.size]; exact hks
        by_cases hkn : k < n
        · have := hall k hkn
          simp [hks, hks', hkn] at this ⊢
          exact this
        · cases hz : Z k
          · have := inv.tail k (by omega) hks hz
            simp [hks, hks', hkn, hz] at this ⊢
            exact this
          · have := inv.zin k (by omega) hks hz
            simp [hks, hks', hkn, hz] at this ⊢
            exact this
      · have hks' : ¬ k < listed.size := by rw [inv.size]; exact hks
        simp [hks, hks']
    have hfr : ar = a := by
      have h1 : ar.defers = a.defers := hpt.defers.trans hpa.defers.symm
      have h2 : ar.tmps = a.tmps := Array.ext_getElem? fun t => hpt.agree hpa fun k hk _ => ⟨by simp [hk, hall k hk], fun _ => (hv k hk).symm⟩
      cases ar; cases a; simp_all
    obtain rfl : mr = n := by omega
    rw [Nat.zero_add, hcan, hfr]
    exact hQ Γ a wr hq hB hf
  | succ f ih =>
    intro listed ar mr wr val hc inv hpt hmr hB h
    have hex : ∃ k, k < n ∧ listed.getD k false = false := by
      have : 0 < (List.range n).countP (fun k => !listed.getD k false) := by omega
      obtain ⟨k, hk, hp⟩ := List.countP_pos_iff.1 this
      exact ⟨k, List.mem_range.1 hk, by simpa using hp⟩
    obtain ⟨k0, hk0, hun0⟩ := hex
    obtain ⟨m, hm, hm1, hm2⟩ := least_of (p := fun k => !listed.getD k false) k0 (by simpa using hun0)
    have hmn : m < n := by omega
    have hms : m < listed.size := by rw [inv.size]; have := g.size; omega
    have hun : listed.getD m true = false := getD_in hms (by simpa using hm1)
    have hready : m ∈ Region.ready md ops listed := by
      have hmo : m < ops.size := by have := g.size; omega
      refine mem_ready.2 ⟨hun, ops[m], by simp [hmo], fun e he hb => ?_⟩
      have : e.on < m := g.back m hmn _ (by
        unfold predsOf
        rw [Array.getElem?_eq_getElem hmo]
        exact List.mem_map.2 ⟨e, List.mem_filter.2 ⟨by simpa using he, hb⟩, rfl⟩)
      have := hm2 _ this
      simpa using this
    have e1 : f + 1 + m1 = (f + m1) + 1 := by omega
    rw [e1]
    refine ⟨fun h0 => absurd (h0 ▸ hready) (by simp), fun j hj => ?_⟩
    obtain ⟨hju, oj, hoj, hall⟩ := mem_ready.1 hj
    have hjs : j < ops.size := (Array.getElem?_eq_some_iff.1 hoj).1
    have hp : ∀ k ∈ predsOf md ops j, listed.getD k false = true := fun k hk => by
      unfold predsOf at hk
      rw [hoj] at hk
      obtain ⟨e, he, rfl⟩ := List.mem_map.1 hk
      obtain ⟨he1, he2⟩ := List.mem_filter.1 he
      exact hall e (by simpa using he1) he2
    have hcl : ∀ i, listed.getD i false = true → ∀ k ∈ predsOf md ops i, listed.getD k false = true := fun i hi k hk => by
      unfold predsOf at hk
      cases hoi : ops[i]? with
      | none => rw [hoi] at hk; cases hk
      | some oi =>
        rw [hoi] at hk
        obtain ⟨e, he, rfl⟩ := List.mem_map.1 hk
        obtain ⟨he1, he2⟩ := List.mem_filter.1 he
        exact inv.closed i oi hoi hi e (by simpa using he1) he2
    have hjn : j < n := by
      rcases Nat.lt_or_ge j n with h | h
      · exact h
      · cases hz : Z j
        · have := upset_in hcl _ _ hp m (hwait j h hjs hz m hmn)
          rw [getD_both hun] at this
          cases this
        · have h1 := inv.zin j h hjs hz
          have hjl : j < listed.size := by rw [inv.size]; exact hjs
          simp [hjl] at h1 hju
          rw [h1] at hju
          cases hju
    have hdep : ∀ k, depB md ops j k = true → listed.getD k false = true := fun k hk => by
      unfold depB at hk
      exact upset_in hcl _ _ hp k (by simpa using hk)
    have hset : (fun k => (listed.setIfInBounds j true).getD k false) = ins (fun k => listed.getD k false) j := by
      funext k
      unfold ins
      by_cases e : k = j
      · subst e
        have : k < listed.size := by rw [inv.size]; exact hjs
        simp [this]
      · rw [getD_set_ne false (Ne.symm e)]
        simp [e]
    have hjf : listed.getD j false = false := getD_both hju
    refine wpOp_mono (fun a' w' ⟨u, he, hB', hres⟩ => ?_) (Res.step (Qx := Qx) y g hjn hoj hjf hp hdep hpt (by omega) hB hl hn h)
    subst he
    have hpt' := hpt.put (u := u) g.one hjn hjf hoj
    rw [← hset] at hres hpt'
    refine ih _ _ (mr + 1) _ _ ?_ (inv.set hj hjn) hpt' (by omega) hB' hres
    have := count_off n (fun k => !listed.getD k false) j hjn (by simpa using hjf)
    rw [hc] at this
    have e3 : (List.range n).countP (fun k => !(listed.setIfInBounds j true).getD k false) = (List.range n).countP (fun k => (!listed.getD k false) && k != j) := List.countP_congr fun k _ => by
      have := congrFun hset k
      simp only [ins] at this
      rw [this]
      by_cases e : k = j <;> simp [e]
    omega

theorem Res.fresh {val val' : Nat → Value} {wr w1 : World} : ∀ (l : List Oper) (i : Nat) (Γ : List (Nat × (World → Prop))) (a : Act), Res P md ops S I M sp (fun _ => false) val wr Q l i Γ a → Res P md ops S I M sp (fun _ => false) val' w1 Q l i Γ a := by
  intro l
  induction l with
  | nil => intro i Γ a h; exact h
  | cons o rest ih =>
    intro i Γ a h
    unfold Res at h ⊢
    split
    · rename_i hw
      rw [if_pos hw] at h
      rcases h with ⟨v, h1, h2, h3⟩ | ⟨Z, hs, h1, h2, h3⟩ | ⟨hs, h1, h2, h3⟩
      · exact .inl ⟨v, h1, (fun h => by cases h), ih _ _ _ h3⟩
      · exact .inr (.inl ⟨Z, hs, h1, (fun h => by cases h), fun u _ hu' => ih _ _ _ (h3 u (fun h => by cases h) hu')⟩)
      · exact .inr (.inr ⟨hs, h1, (fun h => by cases h), fun u _ hu' => ih _ _ _ (h3 u (fun h => by cases h) hu')⟩)
    · rename_i hw
      rw [if_neg hw] at h
      exact ⟨(fun h => by cases h), ih _ _ _ h.2⟩
end

/-- The walk that a prover makes: nothing has been carried out yet. -/
abbrev wpGrow (P : Program) (ops : Array Oper) (S : World → World → Prop) (I : Nat → World → Prop) (M : Nat) (w0 : World) (sp : Nat → Value → World → Prop) (Q : List (Nat × (World → Prop)) → Act → Prop) (l : List Oper) (i : Nat) (Γ : List (Nat × (World → Prop))) (a : Act) : Prop :=
  Res P .any ops S I M sp (fun _ => false) (fun _ => undef) w0 Q l i Γ a

def seqT (md : Region.Mode) (ops : Array Oper) : List Nat → Array Bool → Bool
  | [], listed => (Region.ready md ops listed).isEmpty
  | k :: τ, listed => decide (Region.ready md ops listed = [k]) && seqT md ops τ (listed.setIfInBounds k true)
theorem wpAny_of_seqT {P : Program} {md : Region.Mode} {ops : Array Oper} {Q' : Exit → Act → World → Prop} : ∀ (τ : List Nat) (listed : Array Bool) (a : Act) (w : World), (∀ k ∈ τ, k < ops.size) →
    seqT md ops τ listed = true → wpList P ops Q' (τ.filterMap (ops[·]?)) a w → wpAny P md ops Q' τ.length listed a w
  | [], _, _, _, _, hB, h => ⟨by simpa [seqT] using hB, h⟩
  | k :: τ, listed, a, w, hl, hB, h => by
    have hk : k < ops.size := hl k List.mem_cons_self
    have h0 : ops[k]? = some ops[k] := Array.getElem?_eq_getElem hk
    simp only [seqT, Bool.and_eq_true, decide_eq_true_eq] at hB
    rw [List.filterMap_cons, h0] at h
    refine ⟨fun h1 => (by rw [hB.1] at h1; cases h1), fun i hi => ?_⟩
    rw [hB.1] at hi
    have hik : i = k := by simpa using hi
    subst hik
    have hw : wpOp P ops Q' i (wpList P ops Q' (τ.filterMap (ops[·]?))) a w := by unfold wpOp; simp only [h0]; exact h
    exact wpOp_mono (fun a' w' h' => wpAny_of_seqT τ _ a' w' (fun k hk => hl k (List.mem_cons_of_mem _ hk)) hB.2 h') hw

def okB (md : Region.Mode) (ops : Array Oper) (n : Nat) : Bool :=
  Region.noSelect ops && decide (n ≤ ops.size) &&
  (List.range n).all fun j => (predsOf md ops j).all (fun k => decide (k < j)) && (List.range n).all fun k =>
    match dstOf ops k with
    | none => true
    | some t => (k == j || dstOf ops j != some t) && (!(looksOf ops j).contains t || (predsOf md ops j).contains k)
theorem okB_ok {md : Region.Mode} {ops : Array Oper} {n : Nat} (h : okB md ops n = true) : Ok md ops n := by
  unfold okB at h
  simp only [Bool.and_eq_true, decide_eq_true_eq] at h
  obtain ⟨⟨h1, h2⟩, h4⟩ := h
  have key : ∀ j, j < n → _ := fun j hj => List.all_eq_true.1 h4 j (List.mem_range.2 hj)
  simp only [Bool.and_eq_true] at key
  refine ⟨h1, h2, fun j hj k hk => by simpa using List.all_eq_true.1 (key j hj).1 k hk, fun i k t hi hk hdi hdk => ?_, fun j k t hj hk hd ht => ?_⟩
  · have := List.all_eq_true.1 (key i hi).2 k (List.mem_range.2 hk)
    simp only [hdk, hdi, Bool.and_eq_true, Bool.or_eq_true, beq_iff_eq, bne_self_eq_false, Bool.false_eq_true, or_false] at this
    exact this.1.symm
  · have := List.all_eq_true.1 (key j hj).2 k (List.mem_range.2 hk)
    simp only [hd, Bool.and_eq_true, Bool.or_eq_true] at this
    rcases this.2 with h | h
    · simp [ht] at h
    · simpa using h
def waitB (md : Region.Mode) (ops : Array Oper) (n : Nat) (Z : Nat → Bool) : Bool :=
  (List.range ops.size).all fun t => decide (t < n) || Z t || (List.range n).all fun i => (needs md ops t).contains i
theorem waitB_ok {md : Region.Mode} {ops : Array Oper} {n : Nat} {Z : Nat → Bool} (h : waitB md ops n Z = true) : ∀ t, n ≤ t → t < ops.size → Z t = false → ∀ i, i < n → i ∈ needs md ops t := fun t h1 h2 hz i hi => by
  have := List.all_eq_true.1 h t (List.mem_range.2 h2)
  have h3 : ¬ t < n := by omega
  simp only [hz, h3, decide_false, Bool.false_or] at this
  simpa using List.all_eq_true.1 this i (List.mem_range.2 hi)
/-- No operation is taken ahead; those behind the first n come in the order τ. -/
def growTB (md : Region.Mode) (ops : Array Oper) (n : Nat) (τ : List Nat) : Bool :=
  okB md ops n && waitB md ops n (fun _ => false) && seqT md ops τ (canonZ ops n fun _ => false) && decide (n + τ.length = ops.size) && τ.all fun k => decide (k < ops.size)
theorem wp_region {P : Program} {id : Nat} {Qx : Exit → Act → World → Prop} {a : Act} {w : World} {l : List Oper} (n : Nat) (τ : List Nat) (M : Nat) (S : World → World → Prop) (I : Nat → World → Prop) (sp : Nat → Value → World → Prop) (hm : P.follows .mixedOrders = true) (hg : growTB .any l.toArray n τ = true)
    (y : Way S I) (hM : 2 * n ≤ M) (hC : I 0 w.drew)
    (h : wpGrow P l.toArray S I M w sp (fun Γ a' => ∀ w', I n w' → (∀ p ∈ Γ, p.2 w') → wpList P l.toArray Qx (τ.filterMap (l[·]?)) a' w') (l.take n) 0 [] a) : (Code.region id l.toArray true).wp P Qx a w := by
  unfold growTB at hg
  simp only [Bool.and_eq_true, decide_eq_true_eq] at hg
  obtain ⟨⟨⟨⟨g1, g2⟩, g3⟩, g4⟩, g5⟩ := hg
  have g := okB_ok g1
  have hsz : n ≤ l.length := by simpa using g.size
  have htl : (l.take n).length = n := by simp; omega
  have hrep : (fun k => (Array.replicate l.toArray.size false).getD k false) = fun _ => false := funext fun k => getD_replicate_false _ _
  have key0 : ∀ L a w, wpAny P .any l.toArray Qx (n + τ.length) L a w → wpAny P .any l.toArray Qx l.toArray.size L a w := fun _ _ _ h => by rwa [← g4]
  refine wp_region_any hm (key0 _ _ _ ?_)
  refine grow_any (Qx := Qx) (P := P) (sp := sp) (S := S) (I := I) (M := M) (a0 := a) (l := l.take n) (Z := fun _ => false) (m1 := τ.length) (Q := fun Γ a' => ∀ w', I n w' → (∀ p ∈ Γ, p.2 w') → wpList P l.toArray Qx (τ.filterMap (l[·]?)) a' w') y g hM (waitB_ok g2) (fun m hm' => by rw [htl] at hm'; simp [hm']) htl (fun Γ a' w' hq hb hf =>
    wpAny_of_seqT τ _ a' w' (fun k hk => of_decide_eq_true (List.all_eq_true.1 g5 k hk)) g3 (by simpa using hq w' hb hf)) n _ a 0 { w with drawn := w.drawn + 1 } (fun _ => undef) ?_ ?_ ?_ (by omega) (show I 0 w.drew from hC) ?_
  · rw [List.countP_eq_length.2 (fun k _ => by rw [getD_replicate_false]; rfl)]; simp
  · exact ⟨by simp, fun j oj _ hl => (by rw [getD_replicate_false] at hl; cases hl), fun t _ ht _ => getD_in (by simpa using ht) (getD_replicate_false _ _), fun t _ _ hz => by cases hz⟩
  · rw [hrep]; exact ⟨rfl, fun k t _ hS => by simp at hS, fun _ _ => rfl⟩
  · rw [hrep]
    exact Res.fresh _ _ _ _ h

/-- Every world of a kind, as a family (what is not so is replaced by w1). -/
noncomputable def FamI (J : World → Prop) (w1 x : World) : World := open Classical in if J x then x else w1
theorem FamI.is {J : World → Prop} {w1 : World} (h : J w1) (x : World) : J (FamI J w1 x) := by
  unfold FamI
  split
  · assumption
  · exact h
theorem FamI.of {J : World → Prop} {w w1 : World} (h : J w) : ∃ x, w = FamI J w1 x := ⟨w, by unfold FamI; rw [if_pos h]⟩

/-- Some m below M. -/
def Upto (I : Nat → World → Prop) (M : Nat) (w : World) : Prop := ∃ m, m < M ∧ I m w

section
variable {P : Program} {ops : Array Oper} {M : Nat} {S : World → World → Prop} {I : Nat → World → Prop} {sp : Nat → Value → World → Prop} {w0 w1 : World}
variable {Q : List (Nat × (World → Prop)) → Act → Prop} {o : Oper} {rest : List Oper} {i : Nat} {Γ : List (Nat × (World → Prop))} {a : Act}
theorem grow_nil (h : Q Γ a) : wpGrow P ops S I M w0 sp Q [] i Γ a := h
theorem grow_skip (hw : Region.wanted o (yielded ops a.tmps) = false) (h : wpGrow P ops S I M w0 sp Q rest (i + 1) Γ (a.put o.dst undef)) : wpGrow P ops S I M w0 sp Q (o :: rest) i Γ a := by
  unfold wpGrow Res
  rw [if_neg (by simp [hw])]
  exact ⟨(fun h => by cases h), h⟩

theorem grow_quiet (w1 : World) (hw : Region.wanted o (yielded ops a.tmps) = true) (hf : fnOp o = true)
    (h : ∀ K : Act → Prop, (∀ a, wpGrow P ops S I M w0 sp Q rest (i + 1) Γ a → K a) → o.quiet P a (fun w => ∃ x, w = FamI (Upto I M) w1 x) K) : wpGrow P ops S I M w0 sp Q (o :: rest) i Γ a := by
  obtain ⟨v, h1, h2⟩ := h _ fun _ h => h
  unfold wpGrow Res
  rw [if_pos hw]
  refine .inl ⟨v, fun m w hm hb => ?_, (fun h => by cases h), h2⟩
  have hq := h1 w (FamI.of ⟨m, hm, hb⟩)
  unfold Oper.quietAt at hq
  cases hr : (execOp a.eval o).run P w with
  | ok x w' =>
    rw [hr] at hq
    cases x <;> simp only [Oper.quietUpon] at hq
    case value u => exact ⟨hq.2, hq.1⟩
    case skip => exact ⟨hq.2.symm, hq.1⟩
    case enter f args => exact absurd hr (fnOp_run hf _ _ _ _ _)
  | halt x w' => rw [hr] at hq; exact hq.elim

/-- An operation that makes a block: its value hangs on the block's number alone. -/
theorem grow_new {K : Nat → Prop} (hw : Region.wanted o (yielded ops a.tmps) = true) (B : Nat) (mk : Nat → Value) (T : TypeId) (cs : Array Value) (hrun : ∀ w, (execOp a.eval o).run P w = .ok (.value (mk w.heap.size)) (w.alloc (.cells cs T)))
    (hS : S = KeepB K) (hI : ∀ m w o, I m w → I (m + 1) (w.alloc o)) (hB : ∀ m w, I m w → B ≤ w.heap.size) (hK : ∀ k, K k → k < B)
    (h : ∀ b, B ≤ b → wpGrow P ops S I M w0 sp Q rest (i + 1) ((i, fun w' => ∃ b', mk b = mk b' ∧ B ≤ b' ∧ w'.heap[b']? = some (.cells cs T (0, 0))) :: Γ) (a.put o.dst (mk b))) : wpGrow P ops S I M w0 sp Q (o :: rest) i Γ a := by
  subst hS
  unfold wpGrow Res
  rw [if_pos hw]
  refine .inr (.inl ⟨fun u w' => ∃ b', u = mk b' ∧ B ≤ b' ∧ w'.heap[b']? = some (.cells cs T (0, 0)), fun u w w' hb ⟨b', h1, h2, h3⟩ => ⟨b', h1, h2, ?_⟩, fun m w hm hb _ => ?_, (fun h => by cases h), fun u _ hu => ?_⟩)
  · rw [hb.block b' (by
      rcases Nat.lt_or_ge b' w.heap.size with h | h
      · exact h
      · rw [Array.getElem?_eq_none h] at h3; cases h3) (fun hk => by have := hK _ hk; omega), h3]
  · rw [hrun]
    exact ⟨⟨(KeepB.refl _ _).alloc _, hI _ _ _ hb⟩, w.heap.size, rfl, hB _ _ hb, heap_alloc_new w _⟩
  · obtain ⟨_, w', _, b', rfl, h2, _⟩ := hu rfl
    exact h b' h2

/-- A call of a Go function. -/
theorem grow_call (hw : Region.wanted o (yielded ops a.tmps) = true) (hs : ∀ u, Steady S (sp i u))
    (hc : ∀ m w, m < M → I m w → FactsAt .any ops i Γ w → callUpon P w (fun e w' => ∃ u, e = .returned u ∧ (S w w' ∧ I (m + 1) w') ∧ sp i u w') ((execOp a.eval o).run P w))
    (h : ∀ u, (∃ m w', I m w' ∧ sp i u w') → wpGrow P ops S I M w0 sp Q rest (i + 1) ((i, sp i u) :: Γ) (a.put o.dst u)) : wpGrow P ops S I M w0 sp Q (o :: rest) i Γ a := by
  unfold wpGrow Res
  rw [if_pos hw]
  exact .inr (.inr ⟨hs, hc, (fun h => by cases h), fun u _ hu => h u (hu rfl)⟩)
/-- A call of a Go function whose value is known. -/
theorem grow_val (v : Value) (hw : Region.wanted o (yielded ops a.tmps) = true) (hsp : sp i = fun u _ => u = v)
    (hc : ∀ m w, m < M → I m w → FactsAt .any ops i Γ w → callUpon P w (fun e w' => e = .returned v ∧ S w w' ∧ I (m + 1) w') ((execOp a.eval o).run P w))
    (h : wpGrow P ops S I M w0 sp Q rest (i + 1) ((i, fun _ => v = v) :: Γ) (a.put o.dst v)) : wpGrow P ops S I M w0 sp Q (o :: rest) i Γ a := by
  refine grow_call hw (fun u => by rw [hsp]; exact fun _ _ _ h => h) (fun m w hm hb hf => ?_) fun u ⟨_, w', _, hu⟩ => ?_
  · have hx := hc m w hm hb hf
    generalize (execOp a.eval o).run P w = r at hx ⊢
    cases r with
    | ok x w' =>
      cases x <;> simp only [callUpon] at hx ⊢
      exact ⟨hx.1, hx.2.mono fun e w'' ⟨he, hb⟩ => ⟨v, he, hb, by rw [hsp]⟩⟩
    | halt x w' => exact hx.elim
  · rw [hsp] at hu
    subst hu
    rw [hsp]
    exact h
end
/-- Worlds that are as w0 but for what has been made since. -/
def BI (w0 : World) : Nat → World → Prop := fun _ w => Below w0.heap.size w0 w
theorem BI.way (w0 : World) : Way (KeepB fun _ => False) (BI w0) := ⟨fun w => KeepB.refl _ w, fun _ _ _ h k => h.trans k, fun _ _ h => h⟩
theorem BI.fam (w0 x : World) : Below w0.heap.size w0 (FamI (Upto (BI w0) 200) w0 x) := by
  obtain ⟨_, _, h⟩ := FamI.is (J := Upto (BI w0) 200) (w1 := w0) ⟨0, by omega, Below.refl _ _⟩ x
  exact h
theorem BI.cell {w0 : World} {b o : Nat} {v : Value} (h : w0.cell? ⟨b, o, none⟩ = some v) (x : World) : (FamI (Upto (BI w0) 200) w0 x).cell? ⟨b, o, none⟩ = some v := by
  rw [(BI.fam w0 x).cell (World.block_lt_of_cell? _ _ h)]
  exact h
theorem BI.after {w0 w w' : World} {m : Nat} (h : BI w0 m w) (hb : Below w.heap.size w w') : KeepB (fun _ => False) w w' ∧ BI w0 (m + 1) w' := ⟨KeepB.of_below hb, h.trans (hb.mono h.size)⟩
theorem BI.alloc {w0 w : World} {m : Nat} (o : Obj) (h : BI w0 m w) : BI w0 (m + 1) (w.alloc o) := (h.after ((Below.refl _ _).alloc (Nat.le_refl _) _)).2
theorem BI.size {w0 w : World} {m : Nat} (h : BI w0 m w) : w0.heap.size ≤ w.heap.size := Below.size h
end GK
end AG

/- The laws' marks in automata that came back, and whether they are held. -/
namespace Go.Proofs.YtkoganldcmhopaaDoor
open Go.RowKit Go.BigFrame AG

/-- A row is written anew. -/
theorem RowsOwn.set_ {w w' : World} {base : Nat} {v : Value} {l1 l2 : List RowV} {x x' : RowV} (h : RowsOwn w base v (l1 ++ x :: l2)) (hk : KeepB (fun b => x.v.ownBlock = some b) w w') (hv : x'.v = x.v)
    (ho : w'.ownsRow base 3 1 x'.v x'.r.length (intVals x'.r)) : RowsOwn w' base v (l1 ++ x' :: l2) := by
  obtain ⟨h1, h2, h3⟩ := h
  have hx := h2 x (by simp)
  rw [List.pairwise_append, List.pairwise_cons] at h3
  refine ⟨?_, fun y hy => ?_, ?_⟩
  · have e : rowVals (l1 ++ x' :: l2) = rowVals (l1 ++ x :: l2) := by unfold rowVals; simp [hv]
    rw [e]
    have e2 : (l1 ++ x' :: l2).length = (l1 ++ x :: l2).length := by simp
    rw [e2]
    exact own_keep h1 hk fun g hg e => own_ne_own h1 hx (by decide) g g hg e rfl
  · rw [List.mem_append, List.mem_cons] at hy
    rcases hy with hy | rfl | hy
    · exact own_keep (h2 y (by simp [hy])) hk fun g hg e => h3.2.2 y hy x List.mem_cons_self g hg e
    · exact ho
    · exact own_keep (h2 y (by simp [hy])) hk fun g hg e => h3.2.1.1 y hy g e hg
  · rw [List.pairwise_append, List.pairwise_cons]
    refine ⟨h3.1, ⟨fun y hy => by rw [hv]; exact h3.2.1.1 y hy, h3.2.1.2⟩, fun a ha b hb => ?_⟩
    rcases List.mem_cons.1 hb with rfl | hb
    · rw [hv]; exact h3.2.2 a ha x List.mem_cons_self
    · exact h3.2.2 a ha b (List.mem_cons_of_mem _ hb)

end Go.Proofs.YtkoganldcmhopaaDoor

/- Plain: how many bits a small number has. -/
namespace AG

def popE (x : Nat) : Nat := x % 2 + x / 2 % 2 + x / 4 % 2 + x / 8 % 2 + x / 16 % 2 + x / 32 % 2 + x / 64 % 2 + x / 128 % 2 + x / 256 % 2 + x / 512 % 2 + x / 1024 % 2 + x / 2048 % 2 + x / 4096 % 2 + x / 8192 % 2 + x / 16384 % 2 + x / 32768 % 2
/-- The library's steps. -/
def popS (x : Nat) : Nat :=
  let x1 := (x / 2 &&& 6148914691236517205) + (x &&& 6148914691236517205)
  let x2 := (x1 / 4 &&& 3689348814741910323) + (x1 &&& 3689348814741910323)
  let x3 := x2 / 16 + x2 &&& 1085102592571150095
  let x4 := x3 + x3 / 256
  let x5 := x4 + x4 / 65536
  let x6 := x5 + x5 / 4294967296
  x6 &&& 127
theorem pop_all : ∀ a : Fin 256, ∀ b : Fin 256, popE (a.val * 256 + b.val) = popS (a.val * 256 + b.val) := by decide +kernel
theorem pop_steps (x : Nat) (hx : x < 65536) : popE x = popS x := by
  have := pop_all ⟨x / 256, by omega⟩ ⟨x % 256, by omega⟩
  simp only at this
  rwa [show x / 256 * 256 + x % 256 = x from by omega] at this

end AG

/- Plain: ranks in a set, and a system with only some of its states. -/
namespace AG

/-- How many numbers below n are in the set. -/
def rankN (S : Nat) : Nat → Nat
  | 0 => 0
  | n + 1 => rankN S n + if S.testBit n = true then 1 else 0
theorem rankN_le (S : Nat) : ∀ n, rankN S n ≤ n
  | 0 => Nat.le_refl _
  | n + 1 => by
    have := rankN_le S n
    unfold rankN
    split <;> omega
theorem bit_num (x i : Nat) : (if x.testBit i = true then 1 else 0) = x / 2 ^ i % 2 := by
  have h := Nat.testBit_eq_decide_div_mod_eq (x := x) (i := i)
  rw [h]
  by_cases hh : x / 2 ^ i % 2 = 1
  · simp [hh]
  · simp [hh]; omega
theorem popE_rank (x : Nat) : popE x = rankN x 16 := by
  unfold popE
  simp only [rankN, bit_num]
  simp
theorem rank_mask (S n : Nat) : ∀ m, n ≤ m → rankN (S &&& (2 ^ n - 1)) m = rankN S n := by
  have key : ∀ i, (S &&& (2 ^ n - 1)).testBit i = (S.testBit i && decide (i < n)) := fun i => by rw [Nat.testBit_and, Nat.testBit_two_pow_sub_one]
  have low : ∀ m, m ≤ n → rankN (S &&& (2 ^ n - 1)) m = rankN S m := by
    intro m
    induction m with
    | zero => intro _; rfl
    | succ m ih =>
      intro h
      rw [rankN, rankN, ih (by omega), key, decide_eq_true (by omega : m < n), Bool.and_true]
  intro m
  induction m with
  | zero => intro h; exact low 0 (by omega) |>.trans (by rw [show n = 0 from by omega])
  | succ m ih =>
    intro h
    by_cases e : n = m + 1
    · rw [e, ← e]; exact low n (Nat.le_refl _)
    · rw [rankN, ih (by omega), key, decide_eq_false (by omega : ¬ m < n)]
      simp
theorem rank_top {S n : Nat} (hS : S < 2 ^ n) : ∀ m, n ≤ m → rankN S m = rankN S n := by
  intro m h
  have := rank_mask S n m h
  have e : S &&& (2 ^ n - 1) = S := by rw [Nat.and_two_pow_sub_one_eq_mod, Nat.mod_eq_of_lt hS]
  rwa [e] at this

def trimE (R : Nat) (e : Ed) : Ed := ⟨(rankN R e.f.toNat : Nat), e.l, (rankN R e.t.toNat : Nat)⟩
def keptE (R : Nat) (e : Ed) : Bool := R.testBit e.f.toNat && R.testBit e.t.toNat
def trimEs (R : Nat) (es : List Ed) : List Ed := (es.filter (keptE R)).map (trimE R)
/-- A system with only the states of a set, renumbered. -/
def trimSy (s : Sy) (R : Nat) : Sy := ⟨s.al, (rankN R s.st.toNat : Nat), trimEs R s.es⟩
theorem trimEs_hit {R : Nat} {es : List Ed} {k : Nat} (hk : k < es.length) (h : keptE R es[k] = true) : trimEs R (es.take (k + 1)) = trimEs R (es.take k) ++ [trimE R es[k]] := by
  unfold trimEs
  rw [List.take_succ_eq_append_getElem hk, List.filter_append, List.map_append]
  simp [h]
theorem trimEs_miss {R : Nat} {es : List Ed} {k : Nat} (hk : k < es.length) (h : keptE R es[k] = false) : trimEs R (es.take (k + 1)) = trimEs R (es.take k) := by
  unfold trimEs
  rw [List.take_succ_eq_append_getElem hk, List.filter_append, List.map_append]
  simp [h]
theorem trimEs_len (R : Nat) (es : List Ed) : (trimEs R es).length ≤ es.length := by
  unfold trimEs
  rw [List.length_map]
  exact List.length_filter_le _ _

end AG

/- Plain: a system with only its reached states does the same. -/
namespace AG

theorem rank_mono (S : Nat) {a b : Nat} (h : a ≤ b) : rankN S a ≤ rankN S b := by
  induction b with
  | zero => rw [show a = 0 from by omega]; exact Nat.le_refl _
  | succ b ih =>
    by_cases e : a = b + 1
    · rw [e]; exact Nat.le_refl _
    · have := ih (by omega)
      rw [rankN]
      omega
theorem rank_lt {S a b : Nat} (h : a < b) (ha : S.testBit a = true) : rankN S a < rankN S b := by
  have h1 : rankN S (a + 1) = rankN S a + 1 := by rw [rankN, ha]; simp
  have h2 := rank_mono S (show a + 1 ≤ b from h)
  omega
theorem rank_inj {S a b : Nat} (ha : S.testBit a = true) (hb : S.testBit b = true) (h : rankN S a = rankN S b) : a = b := by
  rcases Nat.lt_trichotomy a b with h1 | h1 | h1
  · have := rank_lt h1 ha; omega
  · exact h1
  · have := rank_lt h1 hb; omega

theorem edgeLt_iff (a b : Ed) : edgeLt a b = true ↔ a.f < b.f ∨ (a.f = b.f ∧ (a.l < b.l ∨ (a.l = b.l ∧ a.t < b.t))) := by
  unfold edgeLt
  by_cases h1 : a.f = b.f
  · by_cases h2 : a.l = b.l
    · simp [h1, h2]
    · simp [h1, h2]
  · simp [h1]
theorem edgeLt_trans {a b c : Ed} (h : edgeLt a b = true) (k : edgeLt b c = true) : edgeLt a c = true := by
  rw [edgeLt_iff] at h k ⊢
  omega
theorem edges_pairwise {s : Sy} (h : sysOk s = true) : s.es.Pairwise fun a b => edgeLt a b = true := by
  rw [List.pairwise_iff_getElem]
  intro i j hi hj hij
  induction j with
  | zero => omega
  | succ j ih =>
    have h1 := sysOk_lt h (i := j) (by omega)
    by_cases e : i = j
    · subst e; exact h1
    · exact edgeLt_trans (ih (by omega) (by omega)) h1
theorem sysOk_of {s : Sy} (h1 : alphaOk s.al = true) (h2 : 1 ≤ s.st ∧ s.st ≤ 16) (h3 : ∀ e ∈ s.es, edgeOk s.al s.st e = true) (h4 : s.es.Pairwise fun a b => edgeLt a b = true) : sysOk s = true := by
  unfold sysOk
  refine decide_eq_true ⟨h1, h2.1, h2.2, fun i hi _ => ⟨h3 _ (List.getElem_mem _), fun j hj hji => ?_⟩⟩
  exact List.pairwise_iff_getElem.1 h4 j i hj hi (by omega)

theorem trim_mem {s : Sy} {R : Nat} {e' : Ed} : e' ∈ (trimSy s R).es ↔ ∃ e ∈ s.es, R.testBit e.f.toNat = true ∧ R.testBit e.t.toNat = true ∧ e' = trimE R e := by
  show e' ∈ trimEs R s.es ↔ _
  unfold trimEs
  rw [List.mem_map]
  constructor
  · rintro ⟨e, he, rfl⟩
    rw [List.mem_filter] at he
    unfold keptE at he
    rw [Bool.and_eq_true] at he
    exact ⟨e, he.1, he.2.1, he.2.2, rfl⟩
  · rintro ⟨e, he, h1, h2, rfl⟩
    exact ⟨e, List.mem_filter.2 ⟨he, by unfold keptE; rw [h1, h2]; rfl⟩, rfl⟩

/-- No two edges from a reached state have one letter. -/
def DetP (s : Sy) : Prop := ∀ a ∈ s.es, ∀ b ∈ s.es, (reachAll s).testBit a.f.toNat = true → a.f = b.f → a.l = b.l → a = b
theorem detAt_iff {s : Sy} (hs : sysOk s = true) : detAt s (reachAll s) s.es.length ↔ DetP s := by
  have hp := List.pairwise_iff_getElem.1 (edges_pairwise hs)
  constructor
  · intro h a ha b hb hr hf hl
    obtain ⟨i, hi, rfl⟩ := List.getElem_of_mem ha
    obtain ⟨j, hj, rfl⟩ := List.getElem_of_mem hb
    have key : ∀ i j (hi : i < s.es.length) (hj : j < s.es.length), i < j → (reachAll s).testBit s.es[i].f.toNat = true → s.es[i].f = s.es[j].f → s.es[i].l = s.es[j].l → False := by
      intro i j hi hj hij hr hf hl
      refine h i (by omega) (by omega) ⟨by rw [Has_nat]; exact hr, ?_⟩
      have h1 := hp i (i + 1) hi (by omega) (by omega)
      by_cases e : i + 1 = j
      · subst e; exact ⟨hf, hl⟩
      · have h2 := hp (i + 1) j (by omega) hj (by omega)
        rw [edgeLt_iff] at h1 h2
        constructor <;> omega
    rcases Nat.lt_trichotomy i j with e | e | e
    · exact (key i j hi hj e hr hf hl).elim
    · subst e; rfl
    · exact (key j i hj hi e (by rw [← hf]; exact hr) hf.symm hl.symm).elim
  · intro h i hi _ ⟨h1, h2, h3⟩
    rw [Has_nat] at h1
    have e := h _ (List.getElem_mem _) _ (List.getElem_mem hi) h1 h2 h3
    have h4 := hp i (i + 1) (by omega) hi (by omega)
    rw [e, edgeLt_iff] at h4
    omega
end AG

/- Words as bytes: their letters, their alphabets, what is left of them, the states behind them. -/
namespace AG

/-- The number of the letter at a place of a word. -/
def lz (w : ByteArray) (i : Nat) : Int := ((w.data.getD i 0).toNat : Int) - 97
def lOk (x : Int) : Bool := decide (0 ≤ x ∧ x < 6)
def wordOk (w : ByteArray) : Bool := decide (w.size ≤ 50000 ∧ ∀ i, i < w.size → lOk (lz w i) = true)
def ltr (w : ByteArray) (i : Nat) : Int := if lOk (lz w i) = true then lz w i else -1
def within (w : ByteArray) (al : Int) : Bool := decide (alphaOk al = true ∧ w.size ≤ 50000 ∧ ∀ i, i < w.size → HasZ al (ltr w i) = true)
noncomputable def runTo (s : Sy) (w : ByteArray) : Nat → Nat
  | 0 => 1
  | k + 1 => stepSet s (runTo s w k) (lz w k)
noncomputable def aft (s : Sy) (w : ByteArray) : Nat := if (sysOk s && within w s.al) = true then runTo s w w.size else 0
noncomputable def hasTr (s : Sy) (w : ByteArray) : Bool := decide (aft s w ≠ 0)
theorem lz_range (w : ByteArray) (i : Nat) : -97 ≤ lz w i ∧ lz w i ≤ 158 := by
  unfold lz
  have := (w.data.getD i 0).toNat_lt
  omega

theorem stepSet_of0 (s : Sy) (l : Int) : stepSet s 0 l = 0 := by
  apply Nat.eq_of_testBit_eq
  intro j
  cases h : (stepSet s 0 l).testBit j with
  | false => simp
  | true =>
    unfold stepSet at h
    obtain ⟨_, e, _, _, h0, _⟩ := (bitsOf_testBit _ _ _).1 h
    simp at h0

theorem runTo_zero {s : Sy} {w : ByteArray} {k : Nat} (h : runTo s w k = 0) : ∀ n, runTo s w (k + n) = 0
  | 0 => h
  | n + 1 => by
    have := runTo_zero h n
    show stepSet s (runTo s w (k + n)) (lz w (k + n)) = 0
    rw [this, stepSet_of0]
theorem runTo_done {s : Sy} {w : ByteArray} {k : Nat} (h : runTo s w k = 0) (hk : k ≤ w.size) : runTo s w w.size = 0 := by
  have := runTo_zero h (w.size - k)
  rwa [Nat.add_sub_cancel' hk] at this
theorem runTo_lt (s : Sy) (w : ByteArray) : ∀ k, runTo s w k < 65536
  | 0 => by unfold runTo; omega
  | k + 1 => by unfold runTo stepSet; exact bitsOf_lt _ 16

theorem wordOk_at {w : ByteArray} (h : wordOk w = true) {i : Nat} (hi : i < w.size) : 0 ≤ lz w i ∧ lz w i < 6 := by
  unfold wordOk at h
  have := (of_decide_eq_true h).2 i hi
  unfold lOk at this
  exact of_decide_eq_true this
theorem ltr_ok {w : ByteArray} {i : Nat} (h : 0 ≤ lz w i ∧ lz w i < 6) : ltr w i = lz w i := by
  unfold ltr lOk
  rw [if_pos (decide_eq_true h)]
theorem ltr_bad {w : ByteArray} {i : Nat} (h : ¬ (0 ≤ lz w i ∧ lz w i < 6)) : ltr w i = -1 := by
  unfold ltr lOk
  rw [if_neg (by simpa using h)]
theorem hasZ_neg (al : Int) : HasZ al (-1) = false := by unfold HasZ; simp

theorem within_bad {w : ByteArray} (al : Int) (h : wordOk w = false) : within w al = false := by
  unfold within
  apply decide_eq_false
  rintro ⟨-, hs, hall⟩
  have : wordOk w = true := by
    unfold wordOk
    refine decide_eq_true ⟨hs, fun i hi => ?_⟩
    have := hall i hi
    unfold ltr at this
    cases hl : lOk (lz w i) with
    | true => rfl
    | false =>
      rw [hl, if_neg (by simp), hasZ_neg] at this
      cases this
  rw [this] at h
  cases h
theorem within_word {w : ByteArray} {al : Int} (h : within w al = true) : wordOk w = true := by
  cases hw : wordOk w with
  | true => rfl
  | false => rw [within_bad al hw] at h; cases h
theorem within_size {w : ByteArray} {al : Int} (h : within w al = true) : w.size ≤ 50000 := by
  unfold within at h
  exact (of_decide_eq_true h).2.1
end AG

/- Plain: one part alone. -/
namespace AG

theorem hasTr_ok {s : Sy} {w : ByteArray} (h : hasTr s w = true) : sysOk s = true ∧ within w s.al = true := by
  unfold hasTr at h
  have h := of_decide_eq_true h
  unfold aft at h
  cases h1 : sysOk s <;> cases h2 : within w s.al <;> simp [h1, h2] at h ⊢
end AG

/- Plain: words as lists: prefixes, restrictions of restrictions, lists of systems in another order, words that are merged. -/
namespace AG

/-- The letter of a byte, -1 if there is none. -/
def bl (b : UInt8) : Int := if lOk ((b.toNat : Int) - 97) = true then (b.toNat : Int) - 97 else -1
def pk (al : Int) (b : UInt8) : Bool := HasZ al (bl b)
theorem pk_at (w : ByteArray) (al : Int) (i : Nat) : HasZ al (ltr w i) = pk al (w.data.getD i 0) := rfl
theorem getD_list {w : ByteArray} {i : Nat} (h : i < w.size) : ∃ h' : i < w.data.toList.length, w.data.getD i 0 = w.data.toList[i]'h' := by
  have hk' : i < w.data.size := h
  refine ⟨by simpa using hk', ?_⟩
  rw [Array.getD_eq_getD_getElem?, Array.getElem?_eq_getElem hk']
  simp
theorem size_list (w : ByteArray) : w.data.toList.length = w.size := by simp
theorem word_ext {a b : ByteArray} (h : a.data.toList = b.data.toList) : a = b := by
  obtain ⟨⟨a⟩⟩ := a
  obtain ⟨⟨b⟩⟩ := b
  cases h
  rfl

theorem within_list (w : ByteArray) (al : Int) : within w al = true ↔ alphaOk al = true ∧ w.size ≤ 50000 ∧ ∀ b ∈ w.data.toList, pk al b = true := by
  unfold within
  rw [decide_eq_true_iff]
  constructor
  · rintro ⟨h1, h2, h3⟩
    refine ⟨h1, h2, fun b hb => ?_⟩
    obtain ⟨i, hi, rfl⟩ := List.getElem_of_mem hb
    have hi' : i < w.size := by rw [size_list] at hi; exact hi
    obtain ⟨h', e⟩ := getD_list hi'
    have := h3 i hi'
    rw [pk_at, e] at this
    exact this
  · rintro ⟨h1, h2, h3⟩
    refine ⟨h1, h2, fun i hi => ?_⟩
    obtain ⟨h', e⟩ := getD_list hi
    rw [pk_at, e]
    exact h3 _ (List.getElem_mem _)

/-- The states behind a list of bytes. -/
noncomputable def runL (s : Sy) (l : List UInt8) : Nat := l.foldl (fun S b => stepSet s S ((b.toNat : Int) - 97)) 1
theorem runTo_list (s : Sy) (w : ByteArray) : ∀ k, k ≤ w.size → runTo s w k = runL s (w.data.toList.take k)
  | 0, _ => rfl
  | k + 1, hk => by
    have ih := runTo_list s w k (by omega)
    obtain ⟨h', e⟩ := getD_list (w := w) (i := k) (by omega)
    rw [List.take_succ_eq_append_getElem h']
    unfold runL at ih ⊢
    rw [List.foldl_append, ← ih]
    show stepSet s (runTo s w k) (lz w k) = stepSet s _ _
    unfold lz
    rw [e]
theorem runTo_all (s : Sy) (w : ByteArray) : runTo s w w.size = runL s w.data.toList := by
  rw [runTo_list s w _ (Nat.le_refl _), List.take_of_length_le (by rw [size_list]; omega)]
theorem foldl_none (s : Sy) : ∀ l : List UInt8, l.foldl (fun S b => stepSet s S ((b.toNat : Int) - 97)) 0 = 0
  | [] => rfl
  | b :: l => by rw [List.foldl_cons, stepSet_of0]; exact foldl_none s l
theorem runL_more {s : Sy} {l : List UInt8} (m : List UInt8) (h : runL s (l ++ m) ≠ 0) : runL s l ≠ 0 := fun e => h (by
  unfold runL at e ⊢
  rw [List.foldl_append, e, foldl_none])

theorem hasTr_list (s : Sy) (w : ByteArray) : hasTr s w = true ↔ sysOk s = true ∧ within w s.al = true ∧ runL s w.data.toList ≠ 0 := by
  constructor
  · intro h
    obtain ⟨h1, h2⟩ := hasTr_ok h
    refine ⟨h1, h2, ?_⟩
    unfold hasTr at h
    have h := of_decide_eq_true h
    unfold aft at h
    rw [h1, h2] at h
    rw [← runTo_all]
    simpa using h
  · rintro ⟨h1, h2, h3⟩
    unfold hasTr aft
    rw [h1, h2, runTo_all]
    exact decide_eq_true (by simpa using h3)
/-- A word begins another. -/
def Pre (x y : ByteArray) : Prop := ∃ m, y.data.toList = x.data.toList ++ m
theorem Pre.within {x y : ByteArray} {al : Int} (h : Pre x y) (hy : AG.within y al = true) : AG.within x al = true := by
  obtain ⟨m, hm⟩ := h
  rw [within_list] at hy ⊢
  have h1 := size_list x
  have h2 := size_list y
  rw [hm, List.length_append] at h2
  refine ⟨hy.1, by have := hy.2.1; omega, fun b hb => hy.2.2 b (by rw [hm]; exact List.mem_append_left _ hb)⟩
theorem Pre.hasTr {x y : ByteArray} {s : Sy} (h : Pre x y) (hy : AG.hasTr s y = true) : AG.hasTr s x = true := by
  rw [hasTr_list] at hy ⊢
  obtain ⟨m, hm⟩ := h
  exact ⟨hy.1, Pre.within ⟨m, hm⟩ hy.2.1, runL_more m (by rw [← hm]; exact hy.2.2)⟩
theorem alphaOk_range {a : Int} : alphaOk a = true ↔ 0 ≤ a ∧ a ≤ 63 := by unfold alphaOk; exact decide_eq_true_iff
end AG

/- Plain: the words over some letters in their order, and the first trace outside among them. -/
namespace Go.Proofs.YtkoganldcmhopaaDoor
open AG

/-- The n-th word over the letters L, its last letter first. -/
def wAt (L : List Nat) : Nat → List Nat
  | 0 => []
  | n + 1 => L.getD (n % L.length) 0 :: wAt L (n / L.length)
termination_by n => n
decreasing_by exact Nat.lt_succ_of_le (Nat.div_le_self _ _)
theorem wAt_zero (L : List Nat) : wAt L 0 = [] := by rw [wAt]
theorem wAt_succ (L : List Nat) (n : Nat) : wAt L (n + 1) = L.getD (n % L.length) 0 :: wAt L (n / L.length) := by rw [wAt]
theorem letters_ok {A : Int} {l : Nat} : l ∈ letters A ↔ l < 6 ∧ Has A l = true := by
  unfold letters lettersTo
  rw [List.mem_filter, List.mem_range]
theorem letB_num {l : Nat} (h : l < 6) : ((letB l).toNat : Int) - 97 = l := by
  unfold letB
  rw [UInt8.toNat_ofNat', Nat.mod_eq_of_lt (by omega)]
  omega
theorem bl_letB {l : Nat} (h : l < 6) : bl (letB l) = l := by
  unfold bl
  rw [letB_num h]
  have : lOk (l : Int) = true := by unfold lOk; exact decide_eq_true (by omega)
  rw [if_pos this]
theorem wordS_list (r : List Nat) : (wordS r).data.toList = r.reverse.map letB := rfl
theorem runL_setW (s : Sy) : ∀ r : List Nat, (∀ l ∈ r, l < 6) → runL s (r.reverse.map letB) = setW s r
  | [], _ => rfl
  | l :: r, h => by
    have ih := runL_setW s r fun x hx => h x (List.mem_cons_of_mem _ hx)
    rw [List.reverse_cons, List.map_append]
    unfold runL at ih ⊢
    rw [List.foldl_append, ih]
    show stepSet s (setW s r) _ = stepSet s (setW s r) _
    rw [letB_num (h l List.mem_cons_self)]
theorem wordS_within {A : Int} {r : List Nat} (hA : alphaOk A = true) (hr : ∀ l ∈ r, l ∈ letters A) (hl : r.length ≤ 50000) : within (wordS r) A = true := by
  rw [within_list]
  refine ⟨hA, by rw [wordS_size]; exact hl, fun b hb => ?_⟩
  rw [wordS_list] at hb
  obtain ⟨l, hl', rfl⟩ := List.mem_map.1 hb
  obtain ⟨h1, h2⟩ := letters_ok.1 (hr l (List.mem_reverse.1 hl'))
  unfold pk HasZ
  rw [bl_letB h1]
  simpa using h2
theorem hasTr_wordS {s : Sy} {r : List Nat} (hs : sysOk s = true) (hr : ∀ l ∈ r, l ∈ letters s.al) (hl : r.length ≤ 50000) : hasTr s (wordS r) = decide (setW s r ≠ 0) := by
  have hA : alphaOk s.al = true := alphaOk_range.2 (sysOk_alpha hs)
  have e := runL_setW s r fun l h => (letters_ok.1 (hr l h)).1
  rw [Bool.eq_iff_iff, hasTr_list, decide_eq_true_iff, wordS_list, e]
  exact ⟨fun h => h.2.2, fun h => ⟨hs, wordS_within hA hr hl, h⟩⟩

end Go.Proofs.YtkoganldcmhopaaDoor

/- The program's AutomatonValid. -/
namespace Go.Proofs.YtkoganldcmhopaaDoor
open Go.RowKit Go.BigFrame AG

def rowOk (L n : Nat) (r : List Int) : Prop := r.length = L ∧ ∀ q ∈ r, 0 ≤ q ∧ q < (n : Int)
theorem auOk_iff (a : Au) : auOk a = true ↔ alphaOk a.al = true ∧ 1 ≤ a.nx.length ∧ a.nx.length ≤ 12 ∧ a.ac.length = a.nx.length ∧ ∀ r ∈ a.nx, rowOk (letters a.al).length a.nx.length r := by
  unfold auOk rowOk
  rw [decide_eq_true_eq]
theorem auOk_no {a : Au} (h : ¬ (alphaOk a.al = true ∧ 1 ≤ a.nx.length ∧ a.nx.length ≤ 12 ∧ a.ac.length = a.nx.length ∧ ∀ r ∈ a.nx, rowOk (letters a.al).length a.nx.length r)) : auOk a = false := by
  rw [← Bool.not_eq_true, auOk_iff]
  exact h

set_option maxRecDepth 100000 in
set_option maxHeartbeats 4000000 in
theorem implAutomatonValid_any (a : Au) (A B : Option Addr) (c d : Nat) (w : World) (ha : AuAt w A c B d a) :
    Calls Tryd.prog 46 #[a.val A c B d] w fun e w' => e = .returned (.bool (auOk a)) ∧ Below w.heap.size w w' := by
  obtain ⟨cl, cm, dl, dm, hrows, -⟩ := ha
  unfold AG.Au.val
  obtain ⟨w0, hw0, hz0, hB0, hS⟩ := boxed w #[Value.int IntKind.i64 a.al, Value.slice A a.nx.length c, Value.slice B a.ac.length d] 26
  have hr0 := hid (hrows.later hB0)
  have p0 := hS 0 _ rfl _ (Below.refl _ _)
  have p1 := hS 1 _ rfl _ (Below.refl _ _)
  have p2 := hS 2 _ rfl _ (Below.refl _ _)
  replace hrows := hid hrows
  go_enter Tryd.func46, Tryd.ntmps46
  go_wp2_with fail
  refine (isAlphabet_any a.al w0).mono ?_
  rintro e w1 ⟨rfl, rfl⟩
  cases hal : alphaOk a.al
  case false =>
    have hno := hid (auOk_no (a := a) (by rw [hal]; simp))
    replace hal := hid hal
    go_wp2
    go_ret
    exact ⟨ret_bool (by rw [hno.out]), hB0⟩
  case true =>
  have hal' := hid hal
  clear hal
  by_cases hn1 : 1 ≤ a.nx.length
  case neg =>
    have hno := hid (auOk_no (a := a) (by omega))
    have ht : ((a.nx.length : Int) < 1) := by omega
    go_wp2
    go_ret
    exact ⟨ret_bool (by rw [hno.out]), hB0⟩
  by_cases hn2 : a.nx.length ≤ 12
  case neg =>
    have hno := hid (auOk_no (a := a) (by omega))
    have ht : ¬ ((a.nx.length : Int) < 1) := by omega
    have ht2 : ((12 : Int) < (a.nx.length : Int)) := by omega
    go_wp2
    go_ret
    exact ⟨ret_bool (by rw [hno.out]), hB0⟩
  have ht : ¬ ((a.nx.length : Int) < 1) := by omega
  have ht2 : ¬ ((12 : Int) < (a.nx.length : Int)) := by omega
  by_cases hn3 : a.ac.length = a.nx.length
  case neg =>
    have hno := hid (auOk_no (a := a) (fun h => hn3 h.2.2.2.1))
    have ht3 : ((a.ac.length : Int) != (a.nx.length : Int)) = true := by simp; omega
    replace hn3 := hid hn3
    go_wp2
    go_ret
    exact ⟨ret_bool (by rw [hno.out]), hB0⟩
  have ht3 : ((a.ac.length : Int) != (a.nx.length : Int)) = false := by simp; omega
  replace hn3 := hid hn3
  go_wp2_with fail
  refine (lettersOf_any a.al w0).mono ?_
  rintro e w2 ⟨lv, rfl, hown2, hb2⟩
  obtain ⟨AL, cL, rfl, hcL, hcL'⟩ := own_slice hown2
  have hB2 := hB0.trans (hb2.mono hB0.size)
  have hC2 := hb2.mono hz0
  have hz2 := hb2.size
  have hr2 := hid (hr0.out.later hb2)
  clear p0 p1 p2 hown2
  have p1 := hS 1 _ rfl _ hC2
  obtain ⟨L, hL⟩ : ∃ L, Hid (L = (letters a.al).length) := ⟨_, hid rfl⟩
  rw [← hL.out] at hcL ⊢
  have hL6 : L ≤ 6 := by rw [hL.out]; exact lettersTo_len a.al 6
  go_wp2_with fail
  clear p1
  go_loopw [40] (fun iv wr => ∃ i : Nat, iv = .int .i64 (i : Nat) ∧ i ≤ a.nx.length ∧ (∀ r ∈ a.nx.take i, rowOk L a.nx.length r) ∧ Below w2.heap.size w2 wr) (fun iv _ => a.nx.length - (intOf iv).toNat)
  case atStart => exact ⟨0, rfl, by omega, by simp, Below.refl _ _⟩
  case round =>
    obtain ⟨i, rfl, hi, hok, hb⟩ := hrel
    have hBr := hB2.trans (hb.mono hB2.size)
    by_cases hlt : i < a.nx.length
    · obtain ⟨b, o, hA, hbB, hE⟩ := hr2.out (by omega)
      subst hA
      obtain ⟨Ai, ci, e0, h1, h2, h3⟩ := hE i hlt
      rw [← hb.cell (by simpa using hbB)] at e0
      obtain ⟨r, hr⟩ : ∃ r, Hid (r = a.nx[i]) := ⟨_, hid rfl⟩
      rw [← hr.out] at e0 h1 h3
      have hmem : Hid (r ∈ a.nx) := hid (by rw [hr.out]; exact List.getElem_mem _)
      have k1 : (0 : Int) ≤ (i : Int) ∧ (i : Int) < (a.nx.length : Int) := by omega
      have h3' := hid h3
      replace hE := hid hE
      replace hok := hid hok
      clear h3
      by_cases hrl : r.length = L
      case neg =>
        have hno := hid (auOk_no (a := a) (fun h => hrl (by rw [hL.out]; exact (h.2.2.2.2 r hmem.out).1)))
        have hq : ((r.length : Int) != (L : Int)) = true := by simp; omega
        replace hrl := hid hrl
        go_wp2
        go_ret
        exact ⟨ret_bool (by rw [hno.out]), hBr⟩
      have hq : ((r.length : Int) != (L : Int)) = false := by simp; omega
      replace hrl := hid hrl
      go_wp2_with fail
      go_loopw [50] (fun jv wq => ∃ j : Nat, jv = .int .i64 (j : Nat) ∧ j ≤ r.length ∧ (∀ q ∈ r.take j, 0 ≤ q ∧ q < (a.nx.length : Int)) ∧ Below w2.heap.size w2 wq) (fun jv _ => r.length - (intOf jv).toNat)
      case atStart => exact ⟨0, rfl, by omega, by simp, hb⟩
      case round =>
        obtain ⟨j, rfl, hj, hin, hbq⟩ := hrel
        have hBq := hB2.trans (hbq.mono hB2.size)
        clear e0
        by_cases hjl : j < r.length
        · obtain ⟨bj, oj, hA, hbj, hcell⟩ := h3'.out (by omega)
          subst hA
          have c0 := hcell j hjl
          rw [← hbq.cell (by simpa using hbj)] at c0
          obtain ⟨q, hq'⟩ : ∃ q, Hid (q = r[j]) := ⟨_, hid rfl⟩
          rw [← hq'.out] at c0
          have hqm : Hid (q ∈ r) := hid (by rw [hq'.out]; exact List.getElem_mem _)
          have k2 : (0 : Int) ≤ (j : Int) ∧ (j : Int) < (r.length : Int) := by omega
          have p1 := hS 1 _ rfl _ (hC2.trans (hbq.mono (by omega)))
          replace hcell := hid hcell
          replace hin := hid hin
          by_cases hqn : 0 ≤ q ∧ q < (a.nx.length : Int)
          · have hq1 : ¬ (q < 0) := by omega
            have hq2 : ¬ ((a.nx.length : Int) ≤ q) := by omega
            go_wp2
            go_roundw
            case rel =>
              refine ⟨j + 1, by go_num, by omega, fun y hy => ?_, hbq⟩
              rw [List.take_succ_eq_append_getElem hjl, List.mem_append, List.mem_singleton, ← hq'.out] at hy
              rcases hy with hy | rfl
              · exact hin.out y hy
              · exact hqn
            case measure => simp [intOf]; omega
          · have hno := hid (auOk_no (a := a) (fun h => hqn ((h.2.2.2.2 r hmem.out).2 q hqm.out)))
            by_cases hq1 : q < 0
            · go_wp2
              go_ret
              exact ⟨ret_bool (by rw [hno.out]), hBq⟩
            · have hq2 : ((a.nx.length : Int) ≤ q) := by omega
              go_wp2
              go_ret
              exact ⟨ret_bool (by rw [hno.out]), hBq⟩
        · obtain rfl : j = r.length := by omega
          rw [List.take_length] at hin
          replace hin := hid hin
          go_wp2
          go_roundw
          case rel =>
            refine ⟨i + 1, by go_num, by omega, fun y hy => ?_, hbq⟩
            rw [List.take_succ_eq_append_getElem hlt, List.mem_append, List.mem_singleton, ← hr.out] at hy
            rcases hy with hy | rfl
            · exact hok.out y hy
            · exact ⟨hrl.out, hin.out⟩
          case measure => simp [intOf]; omega
    · rw [List.take_of_length_le (by omega)] at hok
      have hyes := hid ((auOk_iff a).2 ⟨hal'.out, hn1, hn2, hn3.out, by rw [← hL.out]; exact hok⟩)
      replace hok := hid hok
      go_wp2
      go_ret
      exact ⟨ret_bool (by rw [hyes.out]), hBr⟩

end Go.Proofs.YtkoganldcmhopaaDoor
