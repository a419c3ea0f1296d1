/- Lemmas, part 4: several texts in one. -/
import Derived.Test.YtdkjnemakkppfaaGreatDoorY3
import Derived.Test.YtdkjnemakkppfaaGreatDoorY2
import Derived.Test.YtdkjnemakkppfaaGreatDoorY1
set_option linter.unusedSimpArgs false
set_option linter.unusedVariables false

/- The program's ProjectSystem and Determinize. -/
namespace Go.Proofs.YtdkjnemakkppfaaGreatDoor
open Go.RowKit Go.BigFrame Go.Maps AG

theorem infoBool : (Tryz.prog.info? 4).map (fun i => (i.zero, i.size, i.bytes)) = some (some (.bool false), 1, 1) := by kernel_rfl
set_option maxRecDepth 100000 in
set_option maxHeartbeats 8000000 in
theorem implProjectSystem_any (s : Sy) (A : Option Addr) (c : Nat) (al : Int) (w : World) (hl : s.es.length ≤ c) (hc : c ≤ 9223372036854775807) (hT : Tab w) (hr : EdsAt w w.heap.size A s.es) :
    Calls Tryz.prog 19 #[s.val A c, .int .i64 al] w (PrPost w (prA s al) (prK s al)) := by
  unfold Sy.val
  obtain ⟨b0, hbi, hb0, hb1', hb2⟩ := info_parts infoBool
  obtain ⟨w0, hw0, hz0, hB0, hS, hU⟩ := boxed2 w #[Value.int IntKind.i64 s.al, Value.int IntKind.i64 s.st, Value.slice A s.es.length c] 25 #[Value.int IntKind.i64 0, Value.slice none 0 0, Value.slice none 0 0] 41
  have hres : Blk w0 (w.heap.size + 1) 41 #[Value.int IntKind.i64 0, Value.slice none 0 0, Value.slice none 0 0] := by
    rw [← hw0]
    have := Blk.new (w.alloc (.cells #[Value.int IntKind.i64 s.al, Value.int IntKind.i64 s.st, Value.slice A s.es.length c] 25)) 41 #[Value.int IntKind.i64 0, Value.slice none 0 0, Value.slice none 0 0]
    simpa using this
  have hr0 := hid (hr.later hB0)
  have hT0 := hid (hT.later hB0)
  have p0 := hS 0 _ rfl _ (Below.refl _ _)
  have p1 := hS 1 _ rfl _ (Below.refl _ _)
  have p2 := hS 2 _ rfl _ (Below.refl _ _)
  replace hr := hid hr
  replace hT := hid hT
  replace hres := hid hres
  go_enter Tryz.func19, Tryz.ntmps19
  go_wp2_with fail
  refine (implSystemValid_any s A c w0 hl hc hr0.out).mono ?_
  rintro e w1 ⟨rfl, hb1⟩
  have hC1 := hb1.mono hz0
  have hB1 := hB0.trans (hb1.mono hB0.size)
  have hz1 := hb1.size
  clear p0 p1 p2
  have q0 := (hres.out.below hb1 hres.out.lt).cell 0
  have q1 := (hres.out.below hb1 hres.out.lt).cell 1
  have q2 := (hres.out.below hb1 hres.out.lt).cell 2
  have f0 := (hres.out.below hb1 hres.out.lt).frozen 0
  have f1 := (hres.out.below hb1 hres.out.lt).frozen 1
  have f2 := (hres.out.below hb1 hres.out.lt).frozen 2
  simp only [List.getElem?_toArray, List.getElem?_cons_zero, List.getElem?_cons_succ] at q0 q1 q2
  cases hok : sysOk s
  case false =>
    have hbad := hid (prA_bad (s := s) (al := al) (by unfold prOk; rw [hok]; rfl))
    replace hok := hid hok
    go_wp2
    refine bodyPost_ret (v := .tuple #[.agg #[.int .i64 0, .slice none 0 0, .slice none 0 0], .bool false]) (by simp [results, Tryz.results19, go_sem, q0, q1, q2]) rfl ?_
    rw [hbad.out.1, hbad.out.2]
    exact ⟨by (repeat (first | exact Below.refl _ _ | assumption | refine Below.drew ?_ | refine Below.alloc ?_ (by first | omega | (simp; done) | (simp; omega)) _ | refine Below.setCell ?_ (by first | omega | (simp; done) | (simp; omega)) _)), _, _, _, rfl, AuOwn.nil _ _⟩
  case true =>
  have hin := hid (sysOk_in hok)
  have hal := sysOk_alpha hok
  have hok' := hid hok
  clear hok
  go_wp2_with fail
  refine (isAlphabet_any al w1).mono ?_
  rintro e w2 ⟨rfl, rfl⟩
  have p0 := hS 0 _ rfl _ hC1
  have p1 := hS 1 _ rfl _ hC1
  have p2 := hS 2 _ rfl _ hC1
  by_cases haa : 0 ≤ al ∧ al ≤ 63
  case neg =>
    have ha' : alphaOk al = false := decide_eq_false haa
    have hbad := hid (prA_bad (s := s) (al := al) (by unfold prOk; rw [ha']; simp))
    replace haa := hid haa
    rw [ha']
    go_wp2
    refine bodyPost_ret (v := .tuple #[.agg #[.int .i64 0, .slice none 0 0, .slice none 0 0], .bool false]) (by simp [results, Tryz.results19, go_sem, q0, q1, q2]) rfl ?_
    rw [hbad.out.1, hbad.out.2]
    exact ⟨by (repeat (first | exact Below.refl _ _ | assumption | refine Below.drew ?_ | refine Below.alloc ?_ (by first | omega | (simp; done) | (simp; omega)) _ | refine Below.setCell ?_ (by first | omega | (simp; done) | (simp; omega)) _)), _, _, _, rfl, AuOwn.nil _ _⟩
  have haT : alphaOk al = true := decide_eq_true haa
  rw [haT]
  have hbn := bits_andNot haa hal
  have hzz := hid_zero (a := al) (b := s.al)
  by_cases han : andB s.al al = al
  case neg =>
    have ha' : decide (andB s.al al = al) = false := decide_eq_false han
    rw [ha'] at hzz
    have hbad := hid (prA_bad (s := s) (al := al) (by unfold prOk; rw [ha']; simp))
    replace han := hid han
    replace hbn := hid hbn
    go_wp2_with (rw [hbn.out])
    refine bodyPost_ret (v := .tuple #[.agg #[.int .i64 0, .slice none 0 0, .slice none 0 0], .bool false]) (by simp [results, Tryz.results19, go_sem, q0, q1, q2]) rfl ?_
    rw [hbad.out.1, hbad.out.2]
    exact ⟨by (repeat (first | exact Below.refl _ _ | assumption | refine Below.drew ?_ | refine Below.alloc ?_ (by first | omega | (simp; done) | (simp; omega)) _ | refine Below.setCell ?_ (by first | omega | (simp; done) | (simp; omega)) _)), _, _, _, rfl, AuOwn.nil _ _⟩
  rw [decide_eq_true han] at hzz
  have hpk : Hid (prOk s al = true) := hid (by unfold prOk; rw [hok'.out, haT, decide_eq_true han]; rfl)
  replace han := hid han
  go_wp2_with fail
  have hr1 := hid (hr0.out.later hb1)
  refine (movesOf_any s A c w1 hin.out hl hc hr1.out).mono ?_
  rintro e w3 ⟨g, rfl, hg3, hb3⟩
  have hB3 := hB1.trans (hb3.mono hB1.size)
  have hC3 := hC1.trans (hb3.mono (by omega))
  have hz3 := hb3.size
  have hbn2 := bits_andNot hal haa
  clear p0 p1 p2 q0 q1 q2 f0 f1 f2
  have p0 := hS 0 _ rfl _ hC3
  replace hg3 := hid hg3
  go_upto_region 4 with fail
  obtain ⟨w4, hw4, hz4, hB4, hC4⟩ := boxed w3 #[.pointer (some ⟨g, 0, none⟩)] 86
  rw [hw4]
  clear p0
  have p0 := hS 0 _ rfl _ (hC3.trans (hB4.mono (by omega)))
  have hB4' := hB3.trans (hB4.mono hB3.size)
  have hT4 := hid (hT.out.later hB4')
  clear hw4
  go_wp2_with fail
  refine (lettersOf_any (hidA s.al al) w4).mono ?_
  rintro e w5 ⟨lv, rfl, hown5, hb5⟩
  obtain ⟨AH, cH, rfl, hcH, hcH', hLH⟩ := OwnNats.read hown5
  have hB5 := hB4'.trans (hb5.mono hB4'.size)
  have hz5 := hb5.size
  replace hLH := hid hLH
  clear hown5 p0
  go_upto_region 5 with fail
  obtain ⟨w6, hw6, hz6, hB6, hC6⟩ := boxed w5 #[.slice AH (letters (hidA s.al al)).length cH] 63
  rw [hw6]
  clear hw6
  have hB6' := hB5.trans (hB6.mono hB5.size)
  have m0 : w6.cell? ⟨w3.heap.size, 0, none⟩ = some (.pointer (some ⟨g, 0, none⟩)) := hC4 0 _ rfl _ ((hb5.mono hz4).trans (hB6.mono (by omega)))
  have m1 : w6.cell? ⟨w5.heap.size, 0, none⟩ = some (.slice AH (letters (hidA s.al al)).length cH) := hC6 0 _ rfl _ (Below.refl _ _)
  have hT6 := hid (hT.out.later hB6')
  have hg6 := hid (((hg3.out.later hB4).later hb5).later hB6)
  have hL6 := hid (hLH.out.later hB6)
  go_wp2_with fail
  refine (closure_any s (hidA s.al al) g 1 AH cH w6 hin.out (by omega) hcH hcH' hT6.out hg6.out hL6.out).mono ?_
  rintro e w7 ⟨rfl, hb7⟩
  have hB7 := hB6'.trans (hb7.mono hB6'.size)
  have hz7 := hb7.size
  obtain ⟨n0, hn0⟩ : ∃ n0, Hid (n0 = reachSet s (hidA s.al al) 1) := ⟨_, hid rfl⟩
  rw [← hn0.out]
  go_wp2_with fail
  refine (lettersOf_any al w7).mono ?_
  rintro e w8 ⟨lv, rfl, hown8, hb8⟩
  obtain ⟨AL, cL, rfl, hcL, hcL', hLL⟩ := OwnNats.read hown8
  have hB8 := hB7.trans (hb8.mono hB7.size)
  have hz8 := hb8.size
  have hb68 := hb7.trans (hb8.mono hz7)
  have hNum : Hid (NumOk w8 (fun q => q < 65536) (letters al) (prNx s (hidA s.al al)) 62 #[.pointer (some ⟨w3.heap.size, 0, none⟩), .pointer (some ⟨w5.heap.size, 0, none⟩)]) := hid
    ⟨fun args w' => by go_simp, fun w' q l hb hq hl => projStep_any s (hidA s.al al) g w3.heap.size w5.heap.size q l AH cH w' hin.out hq (letters_lt hl).1 hcH hcH' (hT6.out.later (hb68.trans (hb.mono hb68.size))) (hg6.out.later (hb68.trans (hb.mono hb68.size))) (hL6.out.later (hb68.trans (hb.mono hb68.size)))
      (((hb68.trans (hb.mono hb68.size)).cell (World.block_lt_of_cell? _ _ m0)).trans m0) (((hb68.trans (hb.mono hb68.size)).cell (World.block_lt_of_cell? _ _ m1)).trans m1), fun q l _ _ => reachSet_lt _ _ _, fun q hq => by omega⟩
  have hLL' := hid hLL
  clear hown8 hLL m0 m1
  go_wp2_with fail
  refine (numbered_any w8 (fun q => q < 65536) (letters al) (prNx s (hidA s.al al)) 62 _ n0 12 AL cL hNum.out (by rw [hn0.out]; exact reachSet_lt _ _ _) (by omega) (by omega) (lettersTo_len al 6) hcL hcL' hLL'.out).mono ?_
  rintro e w9 ⟨hb9, hpost⟩
  have hB9 := hB8.trans (hb9.mono hB8.size)
  have hz9 := hb9.size
  have hres9 := hres.out.below (hb1.trans ((hb3.trans ((hB4.trans ((hb5.trans ((hB6.trans (hb68.mono hB6.size |>.trans (hb9.mono (by omega)))).mono hz5)).mono hB4.size)).mono hz3)).mono hz1)) hres.out.lt
  have q0 := hres9.cell 0
  have q1 := hres9.cell 1
  have q2 := hres9.cell 2
  have f0 := hres9.frozen 0
  have f1 := hres9.frozen 1
  have f2 := hres9.frozen 2
  simp only [List.getElem?_toArray, List.getElem?_cons_zero, List.getElem?_cons_succ] at q0 q1 q2
  replace hres9 := hid hres9
  have hnum : Hid (prNum s al = numRes (prNx s (hidA s.al al)) (letters al) n0 12) := hid (by rw [hn0.out]; rfl)
  rw [← hnum.out] at hpost
  cases hpn : prNum s al with
  | none =>
    rw [hpn] at hpost
    subst hpost
    have hbad := hid (prA_none (s := s) (al := al) hpn)
    replace hpn := hid hpn
    unfold numV
    go_wp2
    refine bodyPost_ret (v := .tuple #[.agg #[.int .i64 0, .slice none 0 0, .slice none 0 0], .bool false]) (by simp [results, Tryz.results19, go_sem, q0, q1, q2]) rfl ?_
    rw [hbad.out.1, hbad.out.2]
    exact ⟨by (repeat (first | exact Below.refl _ _ | assumption | refine Below.drew ?_ | refine Below.alloc ?_ (by first | omega | (simp; done) | (simp; omega)) _ | refine Below.setCell ?_ (by first | omega | (simp; done) | (simp; omega)) _)), _, _, _, rfl, AuOwn.nil _ _⟩
  | some x =>
    rw [hpn] at hpost
    obtain ⟨v1, v2, xs, rfl, hv1, hv2, hxs⟩ := hpost
    have hgood := hid (prA_some (s := s) (al := al) hpk.out hpn)
    replace hpn := hid hpn
    obtain ⟨AS, cS, rfl, hcS, hcS', hLS⟩ := OwnNats.read hv1
    obtain ⟨AR, cR, rfl, hcR, hcR'⟩ := own_slice hv2.own
    unfold numV
    replace hv1 := hid hv1
    replace hv2 := hid hv2
    replace hLS := hid hLS
    go_wp2_with fail
    have hblk0 := hid (Blk.new w9 41 #[.int .i64 al, .slice AR xs.length cR, .slice none 0 0])
    have hxl : x.1.length ≤ 12 := (numRes_len (hpn.out)).1
    go_loopw [56] (fun iv wr => ∃ (k : Nat) (vA : Value), iv = .int .i64 (k : Nat) ∧ k ≤ x.1.length ∧ Blk wr w9.heap.size 41 #[.int .i64 al, .slice AR xs.length cR, vA] ∧ wr.ownsRow w9.heap.size 4 1 vA k (boolVals ((x.1.take k).map fun S => decide (S ≠ 0))) ∧ Below w9.heap.size w9 wr) (fun iv _ => x.1.length - (intOf iv).toNat)
    case atStart => exact ⟨0, _, rfl, by omega, hblk0.out, World.ownsRow_nil _ _ _ _, (Below.refl _ _).alloc (Nat.le_refl _) _⟩
    case round =>
      clear hblk0 q0 q1 q2 f0 f1 f2
      obtain ⟨k, vA, rfl, hk, hblk, hown, hb⟩ := hrel
      have hzr := hb.size
      obtain ⟨AA, cA, rfl, hcA, hcA'⟩ := own_slice hown
      by_cases hlt : k < x.1.length
      · obtain ⟨bS, oS, hAS, hbS, hcell⟩ := hLS.out.later hb (by omega)
        subst hAS
        have s0 := hcell k hlt
        obtain ⟨S, hS'⟩ : ∃ S, Hid (S = x.1[k]) := ⟨_, hid rfl⟩
        rw [← hS'.out] at s0
        obtain ⟨tb, htb⟩ : ∃ tb, ((S : Int) != 0) = tb := ⟨_, rfl⟩
        have d2 := hblk.cell 2
        simp only [List.getElem?_toArray, List.getElem?_cons_zero, List.getElem?_cons_succ] at d2
        have k1 : (0 : Int) ≤ (k : Int) ∧ (k : Int) < (x.1.length : Int) := by omega
        replace hcell := hid hcell
        have hblk' := hid hblk
        have hown' := hid hown
        clear hblk hown
        go_wp2_with (at_builtin; refine wpList_append_own_at _ rfl _ _ 39 rfl w9.heap.size 4 b0 (.bool false) 1 1 Tryz.underlying39 hbi hb0 hb1' hb2 rfl (by decide) _ _ _ rfl (hown'.out.alloc _) ⟨wr.heap.size, 0, none⟩ 1 1 [.bool tb] rfl rfl (cell_one_new _ _ _) (by intro u hu; simp at hu; subst hu; rfl) (by unfold maxLen; omega) (by omega) (by simp; omega) ?_; intro v5 w5 hO5 hg5 _ hat5; obtain ⟨A5, c5, ev5, -, -⟩ := own_slice hO5; subst ev5; have hk5 := (hb.alloc hzr _).grown hg5 (by simp; omega) (own_block hown'.out); have hbk5 : Blk w5 w9.heap.size 41 #[.int .i64 al, .slice AR xs.length cR, .slice AA k cA] := (hblk'.out.alloc _).keep ((KeepB.refl (fun b => (Value.slice AA k cA).ownBlock = some b) _).grown hg5 (fun k hk _ => hk)) (fun e => own_ne hown'.out hblk'.out (by decide) _ e rfl); have e2 := hbk5.cell 2; have g2 := hbk5.frozen 2; simp only [List.getElem?_toArray, List.getElem?_cons_zero, List.getElem?_cons_succ] at e2; replace hbk5 := hid hbk5; replace hO5 := hid hO5; replace hg5 := hid hg5)
        have hbk6 := hid (hbk5.out.set_ 2 (.slice A5 (k + 1) c5))
        have hO6 := hid (own_keep hO5.out ((KeepB.refl (fun b => b = w9.heap.size) w5).setCell ⟨w9.heap.size, 2, none⟩ (.slice A5 (k + 1) c5) fun _ => rfl) (own_ne hO5.out hbk5.out (by decide)))
        have hb6 := hid (hk5.setCell (p := ⟨w9.heap.size, 2, none⟩) (Nat.le_refl _) (.slice A5 (k + 1) c5))
        go_roundw
        case rel =>
          refine ⟨k + 1, _, by go_num, by omega, by simpa using hbk6.out, ?_, hb6.out⟩
          have := hO6.out
          rw [List.take_succ_eq_append_getElem hlt, List.map_append, ← hS'.out]
          unfold boolVals at this ⊢
          rw [List.map_append]
          have hSb : ((S : Int) != 0) = decide (S ≠ 0) := by rw [Bool.eq_iff_iff]; simp
          rw [← htb, hSb] at this
          exact this
        case measure => simp [intOf]; omega
      · obtain rfl : k = x.1.length := by omega
        rw [List.take_length] at hown
        have d0 := hblk.cell 0
        have d1 := hblk.cell 1
        have d2 := hblk.cell 2
        simp only [List.getElem?_toArray, List.getElem?_cons_zero, List.getElem?_cons_succ] at d0 d1 d2
        have hresr := hres9.out.below hb hres9.out.lt
        have q0 := hresr.cell 0
        have q1 := hresr.cell 1
        have q2 := hresr.cell 2
        have f0 := hresr.frozen 0
        have f1 := hresr.frozen 1
        have f2 := hresr.frozen 2
        simp only [List.getElem?_toArray, List.getElem?_cons_zero, List.getElem?_cons_succ] at q0 q1 q2
        have hsz := hb.size
        have hz1' : w.heap.size + 1 < w8.heap.size := by omega
        have hau : Hid (AuOwn wr w8.heap.size (.slice AR xs.length cR) (.slice AA x.1.length cA) (prAu al x) xs) := hid ⟨hv2.out.later hb, by rw [hxs]; rfl, by
          unfold prAu
          dsimp only
          rw [List.length_map]
          exact own_base hown (by omega)⟩
        have hBr := hB9.trans (hb.mono hB9.size)
        replace hblk := hid hblk
        replace hown := hid hown
        replace hresr := hid hresr
        go_wp2
        refine bodyPost_ret (v := .tuple #[.agg #[.int .i64 al, .slice AR xs.length cR, .slice AA x.1.length cA], .bool true]) (by simp [results, Tryz.results19, go_sem, q0, q1, q2]) rfl ?_
        rw [hgood.out.1, hgood.out.2]
        exact ⟨by (repeat (first | exact Below.refl _ _ | assumption | refine Below.drew ?_ | refine Below.alloc ?_ (by first | omega | (simp; done) | (simp; omega)) _ | refine Below.setCell ?_ (by first | omega | (simp; done) | (simp; omega)) _)), _, _, xs, rfl, (((hau.out.setFar hz1' _).setFar hz1' _).setFar hz1' _).base (by omega)⟩

end Go.Proofs.YtdkjnemakkppfaaGreatDoor

/- The reference's SystemValid returns sysOk. -/
namespace Go.Proofs.YtdkjnemakkppfaaGreatDoor
open Go.RowKit Go.BigFrame AG

attribute [local go_sem] Fam.below

set_option maxHeartbeats 1000000 in
theorem specSystemValid_any (s : Sy) (A : Option Addr) (c : Nat) (w : World) (hl : s.es.length ≤ c) (hc : c ≤ 9223372036854775807) (hr : EdsAt w w.heap.size A s.es) :
    Calls Tryz.prog 45 #[s.val A c] w fun e w' => e = .returned (.bool (sysOk s)) ∧ Below w.heap.size w w' := by
  unfold Sy.val
  by_cases ha : alphaOk s.al = true
  · by_cases h1 : 1 ≤ s.st ∧ s.st ≤ 16
    · obtain ⟨h1, h2⟩ := h1
      go_enter Tryz.func45, Tryz.ntmps45
      go_wp2_with (go_at_call 96; refine (l1Alphabet_any _ _).mono ?_; rintro e w' ⟨rfl, rfl⟩)
      obtain ⟨w0, hw0, hz0, hB0, hS0, hS1, hS2⟩ := boxed3 w (Value.int IntKind.i64 s.al) (Value.int IntKind.i64 s.st) (Value.slice A s.es.length c) 25
      rw [hw0]
      replace hw0 := hid hw0
      go_loopw [3] (fun i wr => ∃ k : Nat, i = .int .i64 k ∧ k ≤ s.es.length ∧ edgesOkTo s.al s.st s.es k ∧ Below (w.heap.size + 1) w0 wr) (fun i _ => s.es.length - (intOf i).toNat)
      case atStart => exact ⟨0, rfl, by omega, by intro i _ h; omega, Below.refl _ _⟩
      case round =>
        obtain ⟨k, rfl, hk, hok, hb⟩ := hrel
        by_cases hlt : k < s.es.length
        · obtain ⟨b, o, rfl, hB, hE⟩ := hr.get hB0 (Nat.le_succ w.heap.size) hlt
          obtain ⟨e0, e1, e2⟩ := hE k hlt
          have hnot : ¬ edgesOkTo s.al s.st s.es (k + 1) → sysOk s = false := fun h => by
            unfold sysOk
            rw [decide_eq_false_iff_not]
            rintro ⟨_, _, _, h'⟩
            exact h fun i hi _ => h' i hi hi
          by_cases hek : edgeOk s.al s.st s.es[k] = true
          · by_cases hk0 : k = 0
            · subst hk0
              simp only [Nat.zero_mul, Nat.add_zero] at e0 e1 e2
              have hok' : edgesOkTo s.al s.st s.es (0 + 1) := fun i hi hi' => by
                obtain rfl : i = 0 := by omega
                exact ⟨hek, fun j _ h => by omega⟩
              replace hE := hid hE
              replace hr := hid hr
              replace hok := hid hok
              replace hok' := hid hok'
              replace hnot := hid hnot
              replace hek := hid hek
              go_wp2_with fail
              refine wp_region_fam _ _ (by kernel_rfl) (by kernel_rfl) hb ?_
              repeat (go_big_quiet_step ((refine (l2Edge_any _ _ s.es[0] _).mono ?_; rintro e w1 ⟨rfl, hb1⟩; exact ⟨by rw [hek.out], Fam.next hz0 hb1⟩)))
              refine wpQuiet_nil ?_
              intro w2 hw2
              replace hw2 := Fam.out hw2
              go_wp2
              go_roundw
              case rel => exact ⟨1, by go_num, by omega, hok'.out, hw2⟩
              case measure => simp [intOf]; omega
            · obtain ⟨j, rfl⟩ : ∃ j, k = j + 1 := ⟨k - 1, by omega⟩
              obtain ⟨p0, p1, p2⟩ := hE j (by omega)
              replace hE := hid hE
              replace hr := hid hr
              have hyes : edgeLt s.es[j] s.es[j + 1] = true → edgesOkTo s.al s.st s.es (j + 1 + 1) := fun h i hi hi' => by
                by_cases e : i = j + 1
                · subst e
                  exact ⟨hek, fun m hm e => by obtain rfl : m = j := by omega
                                               exact h⟩
                · exact hok i hi (by omega)
              cases hlt' : edgeLt s.es[j] s.es[j + 1]
              all_goals
                replace hok := hid hok
                replace hnot := hid hnot
                replace hyes := hid hyes
                replace hek := hid hek
                replace hlt' := hid hlt'
                go_wp2_with fail
                refine wp_region_fam _ _ (by kernel_rfl) (by kernel_rfl) hb ?_
                repeat (go_big_quiet_step (first | (go_at_call 97; refine (l2Edge_any _ _ s.es[j + 1] _).mono ?_; rintro e w1 ⟨rfl, hb1⟩; exact ⟨by rw [hek.out], Fam.next hz0 hb1⟩) | (go_at_call 89; refine (l2Before_any s.es[j] s.es[j + 1] _).mono ?_; rintro e w1 ⟨rfl, hb1⟩; exact ⟨by rw [hlt'.out], Fam.next hz0 hb1⟩)))
                refine wpQuiet_nil ?_
                intro w2 hw2
                replace hw2 := Fam.out hw2
                go_wp2
              · go_ret
                have hfin := hnot.out fun h => by have := (h (j + 1) hlt (by omega)).2 j (by omega) rfl; rw [hlt'.out] at this; cases this
                exact ⟨by rw [hfin]; rfl, hB0.trans (hw2.mono (by omega))⟩
              · go_roundw
                case rel => exact ⟨j + 1 + 1, by go_num, by omega, hyes.out hlt'.out, hw2⟩
                case measure => simp [intOf]; omega
          · replace hE := hid hE
            replace hr := hid hr
            replace hok := hid hok
            replace hek : edgeOk s.al s.st s.es[k] = false := by simpa using hek
            have hfin := hid (hnot fun h => by have := (h k hlt (by omega)).1; rw [this] at hek; cases hek)
            clear hnot
            replace hek := hid hek
            go_wp2_with fail
            refine wp_region_fam _ _ (by kernel_rfl) (by kernel_rfl) hb ?_
            repeat (go_big_quiet_step ((refine (l2Edge_any _ _ s.es[k] _).mono ?_; rintro e w1 ⟨rfl, hb1⟩; exact ⟨by rw [hek.out], Fam.next hz0 hb1⟩)))
            refine wpQuiet_nil ?_
            intro w2 hw2
            replace hw2 := Fam.out hw2
            go_wp2
            go_ret
            exact ⟨by rw [hfin.out]; rfl, hB0.trans (hw2.mono (by omega))⟩
        · have hfin : Hid (sysOk s = true) := hid (by
            unfold sysOk
            rw [decide_eq_true_iff]
            exact ⟨ha, h1, h2, fun i hi hi' => hok i hi (by omega)⟩)
          replace hok := hid hok
          go_wp2
          go_ret
          exact ⟨by rw [hfin.out]; rfl, hB0.trans (hb.mono (by omega))⟩
    · have hfin : Hid (sysOk s = false) := hid (by
        unfold sysOk
        rw [decide_eq_false_iff_not]
        rintro ⟨_, h2, h3, _⟩
        omega)
      go_enter Tryz.func45, Tryz.ntmps45
      go_wp2_with (go_at_call 96; refine (l1Alphabet_any _ _).mono ?_; rintro e w' ⟨rfl, rfl⟩)
      all_goals
        go_ret
        exact ⟨by rw [hfin.out]; rfl, by (repeat (first | exact Below.refl _ _ | assumption | refine Below.drew ?_ | refine Below.alloc ?_ (by first | omega | (simp; done) | (simp; omega)) _ | refine Below.setCell ?_ (by first | omega | (simp; done) | (simp; omega)) _))⟩
  · have hfin : Hid (sysOk s = false) := hid (by
      unfold sysOk
      rw [decide_eq_false_iff_not]
      rintro ⟨h, _⟩
      exact ha h)
    go_enter Tryz.func45, Tryz.ntmps45
    go_wp2_with (go_at_call 96; refine (l1Alphabet_any _ _).mono ?_; rintro e w' ⟨rfl, rfl⟩)
    all_goals
      go_ret
      exact ⟨by rw [hfin.out]; rfl, by (repeat (first | exact Below.refl _ _ | assumption | refine Below.drew ?_ | refine Below.alloc ?_ (by first | omega | (simp; done) | (simp; omega)) _ | refine Below.setCell ?_ (by first | omega | (simp; done) | (simp; omega)) _))⟩

end Go.Proofs.YtdkjnemakkppfaaGreatDoor

/- The reference's reached states. -/
namespace Go.Proofs.YtdkjnemakkppfaaGreatDoor
open Go.RowKit Go.BigFrame AG

set_option maxHeartbeats 400000 in
theorem l1Bit_any (n : Nat) (w : World) (h : n ≤ 61) :
    Calls Tryz.prog 148 #[.int .i64 n] w fun e w' => e = .returned (.int .i64 ((2 ^ n : Nat) : Int)) ∧ w = w' := by
  go_enter Tryz.func148, Tryz.ntmps148
  go_wp2
  go_ret
  exact ⟨ret_int (wrap_pow h), rfl⟩

theorem l1Bit_int (n : Int) (w : World) (h0 : 0 ≤ n) (h : n ≤ 61) :
    Calls Tryz.prog 148 #[.int .i64 n] w fun e w' => e = .returned (.int .i64 ((2 ^ n.toNat : Nat) : Int)) ∧ w = w' := by
  obtain ⟨m, rfl⟩ := Int.eq_ofNat_of_zero_le h0
  exact l1Bit_any m w (by omega)

end Go.Proofs.YtdkjnemakkppfaaGreatDoor

/- The reference's l2Step, l6Comparable. -/
namespace Go.Proofs.YtdkjnemakkppfaaGreatDoor
open Go.RowKit Go.BigFrame AG

set_option maxHeartbeats 1000000 in
theorem l2Step_any (s : Sy) (A : Option Addr) (c : Nat) (S : Nat) (l : Int) (w : World) (hs : edgesIn s) (hl : s.es.length ≤ c) (hc : c ≤ 9223372036854775807) (hr : EdsAt w w.heap.size A s.es) :
    Calls Tryz.prog 109 #[s.val A c, .int .i64 S, .int .i64 l] w fun e w' => e = .returned (.int .i64 (stepSet s S l : Nat)) ∧ Below w.heap.size w w' := by
  unfold Sy.val
  replace hr := hid hr
  replace hs := hid hs
  go_enter Tryz.func109, Tryz.ntmps109
  go_wp2_with fail
  obtain ⟨w0, hw0, hz0, hB0, hS0, hS1, hS2⟩ := boxed3 w (Value.int IntKind.i64 s.al) (Value.int IntKind.i64 s.st) (Value.slice A s.es.length c) 25
  rw [hw0]
  clear hw0
  go_loopw [7, 8] (fun st i wr => ∃ (U k : Nat), st = .int .i64 U ∧ i = .int .i64 k ∧ k ≤ s.es.length ∧ U = stTo s S l k ∧ Below (w.heap.size + 1) w0 wr) (fun _ i _ => s.es.length - (intOf i).toNat)
  case atStart => exact ⟨0, 0, rfl, rfl, by omega, (stTo_zero s S l).symm, Below.refl _ _⟩
  case round =>
    obtain ⟨U, k, rfl, rfl, hk, hU, hb1⟩ := hrel
    have hUl := stTo_lt s S l k
    rw [← hU] at hUl
    replace hU := hid hU
    have q0 := hS0 _ hb1
    have q1 := hS1 _ hb1
    have q2 := hS2 _ hb1
    by_cases hlt : k < s.es.length
    · obtain ⟨b, o, rfl, hB, hE⟩ := hr.out.get hB0 (Nat.le_succ w.heap.size) hlt
      obtain ⟨e0, e1, e2⟩ := hE k hlt
      replace e0 := e0 _ hb1
      replace e1 := e1 _ hb1
      replace e2 := e2 _ hb1
      obtain ⟨f1, f2, f3, f4, f5, f6, f7, _⟩ := hs.out s.es[k] (List.getElem_mem _)
      have hw3 := hid (bits_orN U (2 ^ s.es[k].t.toNat) (by omega) (by have := Nat.pow_lt_pow_right (a := 2) (by omega) (show s.es[k].t.toNat < 16 by omega); omega))
      replace hE := hid hE
      go_wp2_with (first | (go_at_call 98; refine (l1Has_any _ _ _ (by omega) (by omega)).mono ?_; rintro e w' ⟨rfl, rfl⟩) | (go_at_call 148; refine (l1Bit_int _ _ (by omega) (by omega)).mono ?_; rintro e w' ⟨rfl, rfl⟩))
      · go_roundw
        case rel =>
          refine ⟨U ||| 2 ^ s.es[k].t.toNat, k + 1, ?_, by go_num, by omega, ?_, by (repeat (first | exact Below.refl _ _ | assumption | refine Below.drew ?_ | refine Below.alloc ?_ (by first | omega | (simp; done) | (simp; omega)) _ | refine Below.setCell ?_ (by first | omega | (simp; done) | (simp; omega)) _))⟩
          · rw [← hw3.out, Int.natCast_pow]
            rfl
          · rw [stTo_hit hs.out hlt (by assumption) (by rw [← Has_nat]; assumption), hU.out]
        case measure => simp [intOf]; omega
      all_goals
        go_roundw
        case rel => exact ⟨U, k + 1, rfl, by go_num, by omega, by rw [stTo_miss hlt (by rw [← Has_nat]; simp_all), hU.out], by (repeat (first | exact Below.refl _ _ | assumption | refine Below.drew ?_ | refine Below.alloc ?_ (by first | omega | (simp; done) | (simp; omega)) _ | refine Below.setCell ?_ (by first | omega | (simp; done) | (simp; omega)) _))⟩
        case measure => simp [intOf]; omega
    · obtain rfl : k = s.es.length := by omega
      rw [stTo_all] at hU
      go_wp2
      go_ret
      exact ⟨by rw [← hU.out]; rfl, hB0.trans (hb1.mono (by omega))⟩

end Go.Proofs.YtdkjnemakkppfaaGreatDoor

/- The program's Determinize; the reference's l4In and l5Index; what l6Subsets holds in memory. -/
namespace Go.Proofs.YtdkjnemakkppfaaGreatDoor
open Go.RowKit Go.BigFrame Go.Maps AG

set_option maxRecDepth 100000 in
set_option maxHeartbeats 4000000 in
theorem implDeterminize_any (s : Sy) (A : Option Addr) (c : Nat) (w : World) (hl : s.es.length ≤ c) (hc : c ≤ 9223372036854775807) (hT : Tab w) (hr : EdsAt w w.heap.size A s.es) :
    Calls Tryz.prog 20 #[s.val A c] w (PrPost w (prA s s.al) (prK s s.al)) := by
  obtain ⟨w0, hw0, hz0, hB0, hS, hU⟩ := boxed2 w #[Value.int IntKind.i64 s.al, Value.int IntKind.i64 s.st, Value.slice A s.es.length c] 25 #[Value.int IntKind.i64 0, Value.slice none 0 0, Value.slice none 0 0] 41
  have hres : Blk w0 (w.heap.size + 1) 41 #[Value.int IntKind.i64 0, Value.slice none 0 0, Value.slice none 0 0] := by
    rw [← hw0]
    have := Blk.new (w.alloc (.cells #[Value.int IntKind.i64 s.al, Value.int IntKind.i64 s.st, Value.slice A s.es.length c] 25)) 41 #[Value.int IntKind.i64 0, Value.slice none 0 0, Value.slice none 0 0]
    simpa using this
  have hr0 := hid (hr.later hB0)
  have hT0 := hid (hT.later hB0)
  have p0 := hS 0 _ rfl _ (Below.refl _ _)
  have p1 := hS 1 _ rfl _ (Below.refl _ _)
  have p2 := hS 2 _ rfl _ (Below.refl _ _)
  replace hr := hid hr
  replace hT := hid hT
  replace hres := hid hres
  unfold Sy.val
  go_enter Tryz.func20, Tryz.ntmps20
  go_wp2_with fail
  refine (implProjectSystem_any s A c s.al w0 hl hc hT0.out hr0.out).mono ?_
  rintro e w1 ⟨hb1, v1, v2, xs, rfl, hau⟩
  have hB1 := hB0.trans (hb1.mono hB0.size)
  have hres1 := hres.out.below hb1 hres.out.lt
  have q0 := hres1.cell 0
  have q1 := hres1.cell 1
  have q2 := hres1.cell 2
  have f0 := hres1.frozen 0
  have f1 := hres1.frozen 1
  have f2 := hres1.frozen 2
  simp only [List.getElem?_toArray, List.getElem?_cons_zero, List.getElem?_cons_succ] at q0 q1 q2
  clear p0 p1 p2 hw0
  have hg : w.heap.size + 1 < w0.heap.size := by omega
  have hf : Hid (∀ u v z, AuOwn (((w1.setCell ⟨w.heap.size + 1, 0, none⟩ u).setCell ⟨w.heap.size + 1, 1, none⟩ v).setCell ⟨w.heap.size + 1, 2, none⟩ z) w.heap.size v1 v2 (prA s s.al) xs) := hid fun u v z => (((hau.setFar hg u).setFar hg v).setFar hg z).base (by omega)
  obtain ⟨A1, c1, B1, d1, rfl, rfl, -⟩ := hau.at_
  replace hau := hid hau
  replace hres1 := hid hres1
  obtain ⟨a, ha⟩ : ∃ a, a = prA s s.al := ⟨_, rfl⟩
  obtain ⟨ok, hok⟩ : ∃ ok, ok = prK s s.al := ⟨_, rfl⟩
  rw [← ha] at hf ⊢
  rw [← hok]
  replace ha := hid ha
  replace hok := hid hok
  go_wp2
  refine bodyPost_ret (v := .tuple #[.agg #[.int .i64 a.al, .slice A1 a.nx.length c1, .slice B1 a.ac.length d1], .bool ok]) (by simp [results, Tryz.results20, go_sem, q0, q1, q2]) rfl ?_
  have ha' := ha.out
  have hok' := hok.out
  subst ha'
  subst hok'
  exact ⟨by (repeat (first | exact Below.refl _ _ | assumption | refine Below.drew ?_ | refine Below.alloc ?_ (by first | omega | (simp; done) | (simp; omega)) _ | refine Below.setCell ?_ (by first | omega | (simp; done) | (simp; omega)) _)), _, _, xs, rfl, hf.out _ _ _⟩

end Go.Proofs.YtdkjnemakkppfaaGreatDoor

/- The reference's l6Comparable. -/
namespace Go.Proofs.YtdkjnemakkppfaaGreatDoor
open Go.RowKit Go.BigFrame AG

set_option maxHeartbeats 1000000 in
theorem l6Comparable_any (s t : Sy) (A B : Option Addr) (c d : Nat) (w : World) (hl : s.es.length ≤ c) (hc : c ≤ 9223372036854775807) (hm : t.es.length ≤ d) (hd : d ≤ 9223372036854775807) (hr : EdsAt w w.heap.size A s.es) (hs : EdsAt w w.heap.size B t.es) :
    Calls Tryz.prog 71 #[s.val A c, t.val B d] w fun e w' => e = .returned (.bool (cmpOk s t)) ∧ Below w.heap.size w w' := by
  unfold Sy.val
  replace hr := hid hr
  replace hs := hid hs
  have hval : Hid (cmpOk s t = (sysOk s && (sysOk t && decide (s.al = t.al)))) := hid rfl
  go_enter Tryz.func71, Tryz.ntmps71
  go_wp2_with fail
  obtain ⟨w0, hw0, hz0, hB0, hS, hT⟩ := boxed2 w #[Value.int IntKind.i64 s.al, Value.int IntKind.i64 s.st, Value.slice A s.es.length c] 25 #[Value.int IntKind.i64 t.al, Value.int IntKind.i64 t.st, Value.slice B t.es.length d] 25
  rw [hw0]
  clear hw0
  have p0 := hS 0 _ rfl _ (Below.refl _ _)
  have p1 := hS 1 _ rfl _ (Below.refl _ _)
  have p2 := hS 2 _ rfl _ (Below.refl _ _)
  have hr0 := hid (hr.out.later hB0)
  go_wp2_with fail
  refine (specSystemValid_any s A c w0 hl hc hr0.out).mono ?_
  rintro e w1 ⟨rfl, hb1⟩
  have b1 := hb1.mono hz0
  clear p0 p1 p2
  have p0 := hS 0 _ rfl _ b1
  have q0 := hT 0 _ rfl _ b1
  have q1 := hT 1 _ rfl _ b1
  have q2 := hT 2 _ rfl _ b1
  have B1 : Below w.heap.size w w1 := hB0.trans (b1.mono (by omega))
  cases hA : sysOk s
  · replace hA := hid hA
    go_wp2_with fail
    go_ret
    exact ⟨ret_bool (by rw [hval.out, hA.out]; rfl), B1⟩
  · replace hA := hid hA
    have hs1 := hid (hs.out.later B1)
    go_wp2_with fail
    refine (specSystemValid_any t B d w1 hm hd hs1.out).mono ?_
    rintro e w2 ⟨rfl, hb2⟩
    have b2 := b1.trans (hb2.mono (Nat.le_trans hz0 hb1.size))
    clear p0 q0 q1 q2
    have p0 := hS 0 _ rfl _ b2
    have q0 := hT 0 _ rfl _ b2
    have B2 : Below w.heap.size w w2 := hB0.trans (b2.mono (by omega))
    cases hB : sysOk t
    · replace hB := hid hB
      go_wp2_with fail
      go_ret
      exact ⟨ret_bool (by rw [hval.out, hA.out, hB.out]; rfl), B2⟩
    · replace hB := hid hB
      go_wp2_with fail
      go_ret
      exact ⟨ret_bool (by rw [hval.out, hA.out, hB.out, Bool.eq_iff_iff]; simp), B2⟩

end Go.Proofs.YtdkjnemakkppfaaGreatDoor

/- The reference's FirstTraceOutside. -/
namespace Go.Proofs.YtdkjnemakkppfaaGreatDoor
open Go.RowKit Go.BigFrame AG

theorem infoPair : (Tryz.prog.info? 128).map (fun i => (i.zero, i.size, i.bytes)) = some (some (.agg #[.int .i64 0, .int .i64 0]), 2, 16) := by kernel_rfl
theorem infoStr : (Tryz.prog.info? 9).map (fun i => (i.zero, i.size, i.bytes)) = some (some (.string ⟨#[]⟩), 1, 16) := by kernel_rfl

/-- What the search holds: seen pairs, their words. -/
structure Srch (s t : Sy) (B : Nat) (wr : World) (sv wv : Value) (ps : List (Nat × Nat)) (ws : List (List Nat)) (i k : Nat) : Prop where
  own1 : wr.ownsRow B 128 2 sv ps.length (pairCells ps)
  own2 : wr.ownsRow B 9 1 wv ws.length (ws.map fun r => Value.string (wordS r))
  ne : sv.ownBlock ≠ wv.ownBlock
  pb : PB s t (letters s.al) ps ws i k
  pre : ∀ j (hj : j < ps.length), j < i → ps[j].2 ≠ 0
  pos : 0 < ps.length

theorem PairsAt.later {w w' : World} {A : Option Addr} {ps : List (Nat × Nat)} (h : PairsAt w w.heap.size A ps) (hb : Below w.heap.size w w') : PairsAt w' w'.heap.size A ps := fun hl => by
  obtain ⟨b, o, hA, hb', hE⟩ := h hl
  exact ⟨b, o, hA, Nat.lt_of_lt_of_le hb' hb.size, fun i hi => by rw [hb.cell (by simpa using hb'), hb.cell (by simpa using hb')]; exact hE i hi⟩

theorem Blk.news {w : World} {g : Nat} {T : TypeId} {x : Value} (h : w.heap[g]? = some (.cells #[x] T (0, 0))) : ∀ j u, [x][j]? = some u → w.cell? ((⟨g, 0, none⟩ : Addr).add j) = some u := by
  intro j u hj
  match j, hj with
  | 0, hj =>
    simp at hj
    subst hj
    simp [Addr.add, World.cell?, h]

theorem cell_two_new (w : World) (x y : Value) (t : TypeId) : ∀ j u, [x, y][j]? = some u → (w.alloc (.cells #[x, y] t)).cell? ((⟨w.heap.size, 0, none⟩ : Addr).add j) = some u := by
  intro j u hj
  match j, hj with
  | 0, hj =>
    simp at hj
    subst hj
    simp [Addr.add]
  | 1, hj =>
    simp at hj
    subst hj
    simp [Addr.add]

theorem Srch.later {s t : Sy} {B : Nat} {wr w' : World} {sv wv : Value} {ps : List (Nat × Nat)} {ws : List (List Nat)} {i k k' : Nat} (h : Srch s t B wr sv wv ps ws i k) (hb : Below wr.heap.size wr w') (hp : PB s t (letters s.al) ps ws i k') : Srch s t B w' sv wv ps ws i k' :=
  ⟨own_later h.own1 hb, own_later h.own2 hb, h.ne, hp, h.pre, h.pos⟩

theorem Srch.add {s t : Sy} {B : Nat} {wr w2 w8 w9 w10 w11 : World} {sv wv v9 v11 : Value} {ps : List (Nat × Nat)} {ws : List (List Nat)} {i k Z V l : Nat} {o1 : Obj} {S : ByteArray} (h : Srch s t B wr sv wv ps ws i k) (hB : Below B w2 wr) (hBs : B ≤ w2.heap.size)
    (hi : i < ps.length) (hi' : i < ws.length) (hk : k < (letters s.al).length) (hst : stepP s t ps[i] (letters s.al)[k] = (Z, V)) (hZ : Z ≠ 0) (hnew : (Z, V) ∉ ps) (hl : l = (letters s.al)[k]) (hS : S = wordS (l :: ws[i])) (h8 : Below wr.heap.size wr w8)
    (hO9 : w9.ownsRow B 128 2 v9 (ps.length + 1) (pairCells ps ++ [.int .i64 (Z : Nat), .int .i64 (V : Nat)])) (hg9 : (w8.alloc o1).grownBy w9 sv.ownBlock) (hat9 : v9.ownBlock = sv.ownBlock ∨ v9.ownBlock = some (w8.alloc o1).heap.size) (h10 : Below w9.heap.size w9 w10)
    (hO11 : w11.ownsRow B 9 1 v11 (ws.length + 1) (ws.map (fun r => Value.string (wordS r)) ++ [.string S])) (hg11 : w10.grownBy w11 wv.ownBlock) (hat11 : v11.ownBlock = wv.ownBlock ∨ v11.ownBlock = some w10.heap.size) :
    Srch s t B w11 v9 v11 (ps ++ [(Z, V)]) (ws ++ [l :: ws[i]]) i (k + 1) ∧ Below B w2 w11 := by
  have z8 := h8.size
  have z9 := hg9.size
  have z10 := h10.size
  have z11 := hg11.size
  simp only [World.size_alloc] at z9 hat9
  have hneW : v9.ownBlock ≠ wv.ownBlock := by
    rcases hat9 with e | e
    · rw [e]; exact h.ne
    · rw [e]
      intro e'
      have := (h.own2.lt _ e'.symm).2
      omega
  have hO1 : w11.ownsRow B 128 2 v9 (ps.length + 1) (pairCells ps ++ [.int .i64 (Z : Nat), .int .i64 (V : Nat)]) := (own_later hO9 h10).kept hg11 (.inr hneW)
  have hp := h.pb.add (letters_sorted _) hi hi' hk (by rw [hst]; exact hZ) (by rw [hst]; exact hnew)
  rw [hst, ← hl] at hp
  refine ⟨⟨?_, ?_, ?_, hp, ?_, by simp⟩, ?_⟩
  · have : (ps ++ [(Z, V)]).length = ps.length + 1 := by simp
    rw [this, pairCells_append]
    exact hO1
  · have : (ws ++ [l :: ws[i]]).length = ws.length + 1 := by simp
    rw [this, List.map_append, List.map_cons, List.map_nil, ← hS]
    exact hO11
  · intro e
    rcases hat11 with e' | e'
    · exact hneW (e.trans e')
    · have := (hO9.lt _ (e.trans e')).2
      omega
  · intro j hj hji
    have hj' : j < ps.length := by omega
    rw [List.getElem_append_left hj']
    exact h.pre j hj' hji
  · have b8 : Below B w2 (w8.alloc o1) := (hB.trans (h8.mono (Nat.le_trans hBs hB.size))).alloc (by have := hB.size; omega) _
    have b9 : Below B w2 w9 := b8.grown hg9 (by have := b8.size; omega) (fun k hk => (h.own1.lt k hk).1)
    have b10 : Below B w2 w10 := b9.trans (h10.mono (by have := b9.size; omega))
    exact b10.grown hg11 (by have := b10.size; omega) (fun k hk => (h.own2.lt k hk).1)

/-- What the search for the first trace of a that is none of b finds. -/
def IsFirst (s t : Sy) (o : Option (List Nat)) : Prop :=
  if cmpOk s t = true then
    match o with
    | some r => FirstW pI (letters s.al) (pN s t) pG r
    | none => ∀ q n, RW pI (letters s.al) (pN s t) q n → ¬ pG n
  else o = none
/-- .. as the two results. -/
def outV (o : Option (List Nat)) : Value := .tuple #[.string (match o with | some r => wordS r | none => ⟨#[]⟩), .bool o.isSome]

set_option maxRecDepth 100000 in
set_option maxHeartbeats 8000000 in
theorem specFirstTraceOutside_any (s t : Sy) (A B : Option Addr) (c d : Nat) (w : World) (hl : s.es.length ≤ c) (hc : c ≤ 9223372036854775807) (hm : t.es.length ≤ d) (hd : d ≤ 9223372036854775807) (hr : EdsAt w w.heap.size A s.es) (hs : EdsAt w w.heap.size B t.es) :
    Calls Tryz.prog 70 #[s.val A c, t.val B d] w fun e w' => ∃ o, e = .returned (outV o) ∧ IsFirst s t o ∧ Below w.heap.size w w' := by
  unfold Sy.val
  obtain ⟨j2, ha, ha0, ha1, ha2⟩ := info_parts infoPair
  obtain ⟨j1, hs', hs0', hs1', hs2'⟩ := info_parts infoStr
  replace hr := hid hr
  replace hs := hid hs
  go_enter Tryz.func70, Tryz.ntmps70
  go_wp2_with fail
  obtain ⟨w0, hw0, hz0, hB0, hS, hT⟩ := boxed2 w #[Value.int IntKind.i64 s.al, Value.int IntKind.i64 s.st, Value.slice A s.es.length c] 25 #[Value.int IntKind.i64 t.al, Value.int IntKind.i64 t.st, Value.slice B t.es.length d] 25
  rw [hw0]
  clear hw0
  have p0 := hS 0 _ rfl _ (Below.refl _ _)
  have p1 := hS 1 _ rfl _ (Below.refl _ _)
  have p2 := hS 2 _ rfl _ (Below.refl _ _)
  have q0 := hT 0 _ rfl _ (Below.refl _ _)
  have q1 := hT 1 _ rfl _ (Below.refl _ _)
  have q2 := hT 2 _ rfl _ (Below.refl _ _)
  have hr0 := hid (hr.out.later hB0)
  have hs0 := hid (hs.out.later hB0)
  go_wp2_with fail
  refine (l6Comparable_any s t A B c d w0 hl hc hm hd hr0.out hs0.out).mono ?_
  rintro e w1 ⟨rfl, hb1'⟩
  have b1 := hb1'.mono hz0
  clear p0 p1 p2 q0 q1 q2
  have B1 : Below w.heap.size w w1 := hB0.trans (b1.mono (by omega))
  cases hC : cmpOk s t
  · replace hC := hid hC
    go_wp2_with fail
    go_ret2
    exact ⟨none, rfl, by unfold IsFirst; rw [hC.out]; rfl, B1⟩
  · replace hC := hid hC
    have p0 := hS 0 _ rfl _ b1
    go_wp2_with fail
    refine (l1Letters_any s.al w1).mono ?_
    rintro e w2 ⟨vl, rfl, hown, hb2⟩
    have z1 := hb1'.size
    have b2 := b1.trans (hb2.mono (by omega))
    go_wp2_with fail
    obtain ⟨w3, hw3, hz3, hB3, hX, hY⟩ := boxed2 w2 #[Value.int IntKind.i64 1, Value.int IntKind.i64 1] 128 #[Value.string ⟨#[]⟩] 9
    rw [hw3]
    have hst : Srch s t w2.heap.size w3 (.slice (some ⟨w2.heap.size, 0, none⟩) 1 1) (.slice (some ⟨w2.heap.size + 1, 0, none⟩) 1 1) [(1, 1)] [[]] 0 0 := by
      refine ⟨⟨rfl, .inr ⟨w2.heap.size, 1, #[Value.int IntKind.i64 1, Value.int IntKind.i64 1], rfl, Nat.le_refl _, ?_, Nat.le_refl _, by decide, rfl, rfl⟩⟩, ⟨rfl, .inr ⟨w2.heap.size + 1, 1, #[Value.string ⟨#[]⟩], rfl, by omega, ?_, Nat.le_refl _, by decide, rfl, rfl⟩⟩, by simp [Value.ownBlock], PB.begin, fun j hj h => by omega, by simp⟩
      · rw [← hw3, Below.heap_alloc _ _ _ (by simp)]
        exact heap_alloc_self _ _
      · rw [← hw3]
        have := heap_alloc_self (w2.alloc (Obj.cells #[Value.int IntKind.i64 1, Value.int IntKind.i64 1] 128)) (Obj.cells #[Value.string ⟨#[]⟩] 9)
        simpa using this
    clear hw3 hX hY
    replace hst := hid hst
    have hb3 : Below w2.heap.size w2 w3 := hB3
    have z2 := hb2.size
    have hsy := hid (show sysOk s = true ∧ sysOk t = true from by
      have := hC.out
      unfold cmpOk at this
      simp only [Bool.and_eq_true] at this
      exact ⟨this.1, this.2.1⟩)
    obtain ⟨N, hN⟩ : ∃ N : Nat, Hid (N = 4294967297) := ⟨_, hid rfl⟩
    go_wp2_with fail
    go_loopw [7, 8, 9] (fun sv wv iv wr => ∃ ps ws, ∃ i : Nat, iv = .int .i64 i ∧ i ≤ ps.length ∧ Srch s t w2.heap.size wr sv wv ps ws i 0 ∧ Below w2.heap.size w2 wr) (fun _ _ iv _ => N - (intOf iv).toNat)
    case atStart => exact ⟨[(1, 1)], [[]], 0, rfl, by simp, hst.out, hb3⟩
    case round =>
      obtain ⟨ps, ws, i, rfl, hi, hsr, hbr⟩ := hrel
      have hpos := hsr.pos
      have hbd := hsr.pb.bound
      have hwl := hsr.pb.len
      obtain ⟨g1, c1, rfl, hg1, hg1', hc1, hc1', hP, hPc⟩ := own_pairs hsr.own1 hpos
      replace hP := hid hP
      replace hsr := hid hsr
      by_cases hlt : i < ps.length
      · obtain ⟨e0, e1⟩ := hPc i hlt
        replace hPc := hid hPc
        by_cases hgoal : ps[i].2 = 0
        · obtain ⟨g2, c2, rfl, hg2, hg2', hc2, hc2', hW⟩ := own_words hsr.out.own2 (by omega)
          have f0 := hW i (by omega)
          replace hW := hid hW
          have hF := hid (hsr.out.pb.found hlt (by omega) hsr.out.pre hgoal)
          rw [hgoal] at e1
          go_wp2
          go_ret2
          refine ⟨some ws[i], rfl, ?_, ?_⟩
          · unfold IsFirst
            rw [if_pos hC.out]
            exact hF.out
          · exact (B1.trans (hb2.mono (by omega))).trans (hbr.mono (by omega))
        · obtain ⟨Al, cl, hvl, hcl, hcl'⟩ := own_slice hown
          subst hvl
          replace hown := hid hown
          have hg0 : (((ps[i].2 : Nat) : Int) == 0) = false := by simp; omega
          replace hgoal := hid hgoal
          go_wp2_with fail
          go_loopw [7, 8, 10] (fun sv wv kv wr => ∃ ps ws, ∃ k : Nat, kv = .int .i64 k ∧ k ≤ (letters s.al).length ∧ i < ps.length ∧ (∀ h : i < ps.length, ps[i].2 ≠ 0) ∧ Srch s t w2.heap.size wr sv wv ps ws i k ∧ Below w2.heap.size w2 wr) (fun _ _ kv _ => (letters s.al).length - (intOf kv).toNat)
          case atStart => exact ⟨ps, ws, 0, rfl, by omega, hlt, fun _ => hgoal.out, hsr.out, hbr⟩
          case round =>
            clear hP hPc e0 e1 hg0 hc1 hc1' hg1' hg1 hsr hpos hbd hwl
            obtain ⟨ps, ws, k, rfl, hk, hi, hne, hsr, hbr⟩ := hrel
            have hpos := hsr.pos
            have hbd := hsr.pb.bound
            have hwl := hsr.pb.len
            by_cases hkl : k < (letters s.al).length
            · obtain ⟨gl, cl2, hve, hgl, hgl', -, -, hLc⟩ := own_nats hown.out (by omega)
              injection hve with hv1 hv2 hv3
              subst hv1
              subst hv3
              have l0 := hLc k hkl
              obtain ⟨hl6, hlH⟩ := letters_lt (List.getElem_mem hkl)
              obtain ⟨g1, c1, rfl, hg1, hg1', hc1, hc1', hP, hPc⟩ := own_pairs hsr.own1 hpos
              obtain ⟨e0, e1⟩ := hPc i hi
              obtain ⟨X, hX⟩ : ∃ X, X = ps[i].1 := ⟨_, rfl⟩
              obtain ⟨Y, hY⟩ : ∃ Y, Y = ps[i].2 := ⟨_, rfl⟩
              obtain ⟨l, hll⟩ : ∃ l, l = (letters s.al)[k] := ⟨_, rfl⟩
              rw [← hX] at e0
              rw [← hY] at e1
              rw [← hll] at l0 hl6 hlH
              replace hX := hid hX
              replace hY := hid hY
              replace hll := hid hll
              replace hP := hid hP
              replace hPc := hid hPc
              replace hLc := hid hLc
              replace hne := hid hne
              replace hsr := hid hsr
              have hzr := hbr.size
              have hF : ∀ x, Below wr.heap.size wr x → Below w2.heap.size w2 x := fun x h => hbr.trans (h.mono hzr)
              have hG : ∀ x, Below wr.heap.size wr x → Below (w.heap.size + 2) w0 x := fun x h => b2.trans ((hF x h).mono (by omega))
              have hBF : Hid (∀ x, Below wr.heap.size wr x → Below w.heap.size w x) := hid fun x h => hB0.trans ((hG x h).mono (by omega))
              have hkeep : Hid (∀ x, Below wr.heap.size wr x → x.cell? ⟨w.heap.size, 0, none⟩ = some (.int .i64 s.al) ∧ x.cell? ⟨w.heap.size, 1, none⟩ = some (.int .i64 s.st) ∧ x.cell? ⟨w.heap.size, 2, none⟩ = some (.slice A s.es.length c) ∧
                  x.cell? ⟨w.heap.size + 1, 0, none⟩ = some (.int .i64 t.al) ∧ x.cell? ⟨w.heap.size + 1, 1, none⟩ = some (.int .i64 t.st) ∧ x.cell? ⟨w.heap.size + 1, 2, none⟩ = some (.slice B t.es.length d) ∧
                  x.cell? ⟨gl, k, none⟩ = some (.int .i64 (l : Nat)) ∧ x.cell? ⟨g1, i * 2, none⟩ = some (.int .i64 (X : Nat)) ∧ x.cell? ⟨g1, i * 2 + 1, none⟩ = some (.int .i64 (Y : Nat)) ∧ Below wr.heap.size wr x) := hid fun x h =>
                ⟨hS 0 _ rfl _ (hG x h), hS 1 _ rfl _ (hG x h), hS 2 _ rfl _ (hG x h), hT 0 _ rfl _ (hG x h), hT 1 _ rfl _ (hG x h), hT 2 _ rfl _ (hG x h), by rw [(hF x h).cell (by simpa using hgl')]; exact l0, by rw [h.cell (by simpa using hg1')]; exact e0, by rw [h.cell (by simpa using hg1')]; exact e1, h⟩
              replace hF := hid hF
              replace hG := hid hG
              have hin1 := hid (sysOk_in hsy.out.1)
              have hin2 := hid (sysOk_in hsy.out.2)
              have i1 : (0 : Int) ≤ (i : Int) := by omega
              have i2 : (i : Int) < (ps.length : Int) := by omega
              have k1 : (0 : Int) ≤ (k : Int) := by omega
              have k2 : (k : Int) < ((letters s.al).length : Int) := by omega
              have hbself : Below wr.heap.size wr wr := Below.refl _ _
              have hcells := fun x => hkeep.out _ (Fam.below wr.heap.size wr x)
              have y0 := fun x => (hcells x).1
              have y1 := fun x => (hcells x).2.1
              have y2 := fun x => (hcells x).2.2.1
              have y3 := fun x => (hcells x).2.2.2.1
              have y4 := fun x => (hcells x).2.2.2.2.1
              have y5 := fun x => (hcells x).2.2.2.2.2.1
              have y6 := fun x => (hcells x).2.2.2.2.2.2.1
              have y7 := fun x => (hcells x).2.2.2.2.2.2.2.1
              have y8 := fun x => (hcells x).2.2.2.2.2.2.2.2.1
              clear hcells e0 e1 l0
              go_wp2_with fail
              refine wp_region_grow 24 wr.heap.size wr (fun j => if j = 10 then (fun u _ => u = .int .i64 (stepSet s X l : Nat)) else (fun u _ => u = .int .i64 (stepSet t Y l : Nat))) (by kernel_rfl) (by kernel_rfl) (Nat.le_refl _) (Below.refl _ _) ?_
              simp only [List.take_succ_cons, List.take_zero, List.drop_succ_cons, List.drop_zero]
              (repeat (refine grow_quiet (by rfl) (by rfl) (by rfl) ?_; intro K hK; go_big_quiet_op; go_big_quiet_on))
              refine grow_val (.int .i64 (stepSet s X l : Nat)) (by rfl) (by rfl) rfl (fun wq hbq _ => ?_) ?_
              · go_simp
                exact ⟨rfl, l2Step_any s A c X l wq hin1.out hl hc (hr.out.later (hBF.out _ hbq))⟩
              simp only [Act.put, List.setIfInBounds_toArray, List.set_cons_zero, List.set_cons_succ]
              (repeat (refine grow_quiet (by rfl) (by rfl) (by rfl) ?_; intro K hK; go_big_quiet_op; go_big_quiet_on))
              refine grow_val (.int .i64 (stepSet t Y l : Nat)) (by rfl) (by rfl) rfl (fun wq hbq _ => ?_) ?_
              · go_simp
                exact ⟨rfl, l2Step_any t B d Y l wq hin2.out hm hd (hs.out.later (hBF.out _ hbq))⟩
              simp only [Act.put, List.setIfInBounds_toArray, List.set_cons_zero, List.set_cons_succ]
              (repeat (refine grow_quiet (by rfl) (by rfl) (by rfl) ?_; intro K hK; go_big_quiet_op; go_big_quiet_on))
              refine grow_new (by rfl) (fun b => .pointer (some ⟨b, 0, none⟩)) 128 #[.int .i64 0, .int .i64 0] (fun _ => by go_simp) (fun _ => rfl) (Nat.le_refl _) fun g hg => ?_
              simp only [Act.put, List.setIfInBounds_toArray, List.set_cons_zero, List.set_cons_succ]
              refine grow_nil ?_
              intro w6 hb6 hf
              obtain ⟨g', hge, -, hblk⟩ := hf _ List.mem_cons_self
              cases hge
              clear hf y0 y1 y2 y3 y4 y5 y6 y7 y8 i1 i2 k1 k2 hbself
              obtain ⟨Z, hZ⟩ : ∃ Z, Z = stepSet s X l := ⟨_, rfl⟩
              obtain ⟨V, hV⟩ : ∃ V, V = stepSet t Y l := ⟨_, rfl⟩
              rw [← hZ, ← hV]
              replace hZ := hid hZ
              replace hV := hid hV
              have hblk' : Blk w6 g 128 #[.int .i64 0, .int .i64 0] := hblk
              clear hblk
              have c0 := hblk'.cell 0
              have c1 := hblk'.cell 1
              have z0 := hblk'.frozen 0
              have z1' := hblk'.frozen 1
              simp only [List.getElem?_toArray, List.getElem?_cons_zero, List.getElem?_cons_succ] at c0 c1
              have hg6 := hblk'.lt
              replace hblk' := hid hblk'
              have hstep : Hid (stepP s t ps[i] (letters s.al)[k] = (Z, V)) := hid (by unfold stepP; rw [← hX.out, ← hY.out, ← hll.out, hZ.out, hV.out])
              by_cases hZ0 : Z = 0
              · have hzb : (((Z : Nat) : Int) != 0) = false := by simp; omega
                have hzc : (((Z : Nat) : Int) == 0) = true := by simp; omega
                replace hZ0 := hid hZ0
                go_wp2_with fail
                go_roundw
                case rel =>
                  refine ⟨ps, ws, k + 1, by go_num, by omega, hi, hne.out, hsr.out.later ?_ (hsr.out.pb.skip (letters_sorted _) hi hkl (.inl (by rw [hstep.out]; exact hZ0.out))), hbr.trans (Below.mono ?_ hzr)⟩
                  all_goals (repeat (first | exact Below.refl _ _ | assumption | refine Below.drew ?_ | refine Below.alloc ?_ (by first | omega | (simp; done) | (simp; omega)) _ | refine Below.setCell ?_ (by first | omega | (simp; done) | (simp; omega)) _))
                case measure => simp [intOf]; omega
              · go_wp2_with fail
                generalize hw7 : (w6.setCell ⟨g, 0, none⟩ (Value.int IntKind.i64 (Z : Nat))).setCell ⟨g, 1, none⟩ (Value.int IntKind.i64 (V : Nat)) = w7
                have hb7 : Below wr.heap.size wr w7 := by
                  rw [← hw7]
                  (repeat (first | exact Below.refl _ _ | assumption | refine Below.drew ?_ | refine Below.alloc ?_ (by first | omega | (simp; done) | (simp; omega)) _ | refine Below.setCell ?_ (by first | omega | (simp; done) | (simp; omega)) _))
                have hblk7 : Hid (Blk w7 g 128 #[.int .i64 (Z : Nat), .int .i64 (V : Nat)]) := hid (by rw [← hw7]; exact (hblk'.out.set_ 0 _).set_ 1 _)
                clear hw7 c0 c1 z0 z1' hb6 hblk'
                have hP7 := hid ((show PairsAt wr wr.heap.size (some ⟨g1, 0, none⟩) ps from hP.out).later hb7)
                refine (l5Find_any ps (some ⟨g1, 0, none⟩) c1 (Z, V) w7 hc1 hc1' hP7.out).mono ?_
                rintro e w8 ⟨he, hb8⟩
                have h8 : Below wr.heap.size wr w8 := hb7.trans (hb8.mono hb7.size)
                obtain ⟨F, hF⟩ : ∃ F, F = findP ps (Z, V) := ⟨_, rfl⟩
                rw [← hF] at he
                subst he
                replace hF := hid hF
                have hblk8 := hblk7.out.below hb8 hblk7.out.lt
                clear hblk7 hP7
                by_cases hF0 : F < 0
                · have hnew : Hid ((Z, V) ∉ ps) := hid ((findP_neg _ _).1 (by rw [← hF.out]; exact hF0))
                  have hg8 := hblk8.lt
                  have c0 := hblk8.cell 0
                  have c1 := hblk8.cell 1
                  simp only [List.getElem?_toArray, List.getElem?_cons_zero, List.getElem?_cons_succ] at c0 c1
                  have hO1 := own_later hsr.out.own1 h8
                  have hO2 := own_later hsr.out.own2 h8
                  replace hO1 := hid hO1
                  replace hO2 := hid hO2
                  replace hblk8 := hid hblk8
                  have hz8 := h8.size
                  go_wp2_with (at_builtin; refine wpList_append_own_at _ rfl _ _ 129 rfl w2.heap.size 128 j2 (.agg #[.int .i64 0, .int .i64 0]) 2 16 Tryz.underlying129 ha ha0 ha1 ha2 rfl (by decide) _ _ _ rfl (hO1.out.alloc _) ⟨w8.heap.size, 0, none⟩ 1 1 [.int .i64 (Z : Nat), .int .i64 (V : Nat)] rfl rfl (cell_two_new _ _ _ _) (by intro u hu; simp at hu; rcases hu with rfl | rfl <;> rfl) (by unfold maxLen; omega) (by omega) (by simp; omega) ?_; intro v9 w9 hO9 hgr9 _ hat9)
                  have hb9 : Below w2.heap.size w2 w9 := ((hbr.trans (h8.mono hzr)).alloc (by omega) _).grown hgr9 (by simp; omega) (fun k hk => (hO1.out.lt k hk).1)
                  have hO29 := (hO2.out.alloc (Obj.cells #[.int .i64 (Z : Nat), .int .i64 (V : Nat)] 128)).kept hgr9 (.inr (Ne.symm hsr.out.ne))
                  obtain ⟨g2, c2, rfl, hg2, hg2', hc2, hc2', hW⟩ := own_words hO29 (by omega)
                  have y1 : ∀ x, (Fam w9.heap.size w9 x).cell? ⟨g2, i, none⟩ = some (.string (wordS ws[i])) := fun x => by
                    rw [(Fam.below w9.heap.size w9 x).cell (by simpa using hg2')]
                    exact hW i (by omega)
                  have hb9s := hb9.size
                  have y2 : ∀ x, (Fam w9.heap.size w9 x).cell? ⟨gl, k, none⟩ = some (.int .i64 (l : Nat)) := fun x => by
                    rw [(Fam.below w9.heap.size w9 x).cell (by simp; omega), hb9.cell (by simpa using hgl'), hll.out]
                    exact hLc.out k hkl
                  have i1 : (0 : Int) ≤ (i : Int) := by omega
                  have i2 : (i : Int) < (ws.length : Int) := by omega
                  have k1 : (0 : Int) ≤ (k : Int) := by omega
                  have k2 : (k : Int) < ((letters s.al).length : Int) := by omega
                  have hwb : ¬ 9223372036854775807 < (wordS ws[i]).size + 1 := by
                    have := hsr.out.pb.wlen (j := i) (by omega)
                    rw [wordS_size]
                    omega
                  replace hW := hid hW
                  replace hO29 := hid hO29
                  replace hO9 := hid hO9
                  replace hgr9 := hid hgr9
                  replace hat9 := hid hat9
                  clear c0 c1
                  refine wp_region_grow 12 w9.heap.size w9 (fun _ u _ => u = .string ⟨#[letB l]⟩) (by kernel_rfl) (by kernel_rfl) (Nat.le_refl _) (Below.refl _ _) ?_
                  simp only [List.take_succ_cons, List.take_zero, List.drop_succ_cons, List.drop_zero]
                  (repeat (refine grow_quiet (by rfl) (by rfl) (by rfl) ?_; intro K hK; go_big_quiet_op; go_big_quiet_on))
                  refine grow_val (.string ⟨#[letB l]⟩) (by rfl) (by rfl) rfl (fun wq hbq _ => ?_) ?_
                  · go_simp
                    exact ⟨rfl, l1Text_any l hl6 wq⟩
                  simp only [Act.put, List.setIfInBounds_toArray, List.set_cons_zero, List.set_cons_succ]
                  (repeat (refine grow_quiet (by rfl) (by rfl) (by rfl) ?_; intro K hK; go_big_quiet_op; go_big_quiet_on))
                  refine grow_new (by rfl) (fun b => .slice (some ⟨b, 0, none⟩) 1 1) 9 #[.string (wordS ws[i] ++ ⟨#[letB l]⟩)] (fun _ => by go_simp) (fun _ => rfl) (Nat.le_refl _) fun g3 hg3 => ?_
                  simp only [Act.put, List.setIfInBounds_toArray, List.set_cons_zero, List.set_cons_succ]
                  refine grow_nil ?_
                  intro w10 hb10 hf
                  obtain ⟨g3', hge, -, hblk3⟩ := hf _ List.mem_cons_self
                  cases hge
                  have hnew3 := hid (Blk.news hblk3)
                  clear hblk3
                  clear hf y1 y2 i1 i2 k1 k2 hwb
                  have hO210 := hid (own_later hO29.out hb10)
                  have hz10 := hb10.size
                  go_wp2_with (at_builtin; refine wpList_append_own_at _ rfl _ _ 112 rfl w2.heap.size 9 j1 (.string ⟨#[]⟩) 1 16 Tryz.underlying112 hs' hs0' hs1' hs2' rfl (by decide) _ _ _ rfl hO210.out ⟨g3, 0, none⟩ 1 1 [.string (wordS ws[i] ++ ⟨#[letB l]⟩)] rfl rfl hnew3.out (by intro u hu; simp at hu; subst hu; rfl) (by unfold maxLen; omega) (by omega) (by omega) ?_; intro v11 w11 hO11 hgr11 _ hat11)
                  go_roundw
                  case rel =>
                    obtain ⟨hS, hBB⟩ := hsr.out.add hbr (Nat.le_refl _) hi (by omega) hkl hstep.out (by omega) hnew.out hll.out (wordS_cons _ _) h8 hO9.out hgr9.out hat9.out hb10 hO11 hgr11 hat11
                    exact ⟨_, _, k + 1, by go_num, by omega, by simp; omega, fun h => by rw [List.getElem_append_left hi]; exact hne.out hi, hS, hBB⟩
                  case measure => simp [intOf]; omega
                · have hold : Hid ((Z, V) ∈ ps) := hid (by
                    by_cases h : (Z, V) ∈ ps
                    · exact h
                    · exact absurd ((findP_neg _ _).2 h) (by rw [← hF.out]; exact hF0))
                  go_wp2_with fail
                  go_roundw
                  case rel =>
                    refine ⟨ps, ws, k + 1, by go_num, by omega, hi, hne.out, hsr.out.later ?_ (hsr.out.pb.skip (letters_sorted _) hi hkl (.inr (by rw [hstep.out]; exact hold.out))), hbr.trans (Below.mono ?_ hzr)⟩
                    all_goals (repeat (first | exact Below.refl _ _ | assumption | refine Below.drew ?_ | refine Below.alloc ?_ (by first | omega | (simp; done) | (simp; omega)) _ | refine Below.setCell ?_ (by first | omega | (simp; done) | (simp; omega)) _))
                  case measure => simp [intOf]; omega
            · replace hne := hid hne
              have hov : Hid (Srch s t w2.heap.size wr _ _ ps ws (i + 1) 0) := hid ⟨hsr.own1, hsr.own2, hsr.ne, hsr.pb.over (by omega), (fun j hj hji => by
                by_cases e : j = i
                · subst e; exact hne.out hj
                · exact hsr.pre j hj (by omega)), hsr.pos⟩
              replace hsr := hid hsr
              clear hwl hpos
              go_wp2_with fail
              go_roundw
              case rel => exact ⟨ps, ws, i + 1, by go_num, by omega, hov.out, hbr⟩
              case measure => have := hN.out; have := hsr.out.pb.bound; simp only [intOf]; omega
      · obtain rfl : i = ps.length := by omega
        have hN := hid (hsr.out.pb.none fun j hj => hsr.out.pre j hj hj)
        go_wp2
        go_ret2
        refine ⟨none, rfl, ?_, ?_⟩
        · unfold IsFirst
          rw [if_pos hC.out]
          exact hN.out
        · exact (B1.trans (hb2.mono (by omega))).trans (hbr.mono (by omega))

end Go.Proofs.YtdkjnemakkppfaaGreatDoor

/- The reference's l6Subsets. -/
namespace Go.Proofs.YtdkjnemakkppfaaGreatDoor
open Go.RowKit Go.BigFrame Go.Maps AG

/-- What l6Subsets holds in memory. -/
structure L6 (w2 wr : World) (gO : Nat) (al : Int) (vR : Value) (xs : List RowV) (vA : Value) (acs : List Bool) (fs : List (Value × List Value)) : Prop where
  below : Below w2.heap.size w2 wr
  ge : w2.heap.size ≤ gO
  fam : Fam3 wr w2.heap.size fs
  tab : wr.ownsRow w2.heap.size 63 1 vR xs.length (rowVals xs)
  acc : wr.ownsRow w2.heap.size 4 1 vA acs.length (boolVals acs)
  blk : Blk wr gO 41 #[.int .i64 al, vR, vA]
section
variable {w2 wr w1 w' : World} {gO : Nat} {al : Int} {vR vA : Value} {xs : List RowV} {acs : List Bool} {fs l1 l2 : List (Value × List Value)} {f : Value × List Value}
theorem L6.later (h : L6 w2 wr gO al vR xs vA acs fs) (hb : Below wr.heap.size wr w') : L6 w2 w' gO al vR xs vA acs fs :=
  ⟨h.below.trans (hb.mono h.below.size), h.ge, h.fam.later hb, own_later_ h.tab hb, own_later_ h.acc hb, h.blk.below hb h.blk.lt⟩
theorem L6.own {v : Value} {row : List Nat} (h : L6 w2 wr gO al vR xs vA acs fs) (hf : (v, natVals row) ∈ fs) : wr.ownsRow w2.heap.size 3 1 v row.length (natVals row) := by
  have := h.fam.rows _ hf
  rwa [natVals_len] at this
theorem L6.app {v' : Value} {ys' : List Value} {o : Obj} (h : L6 w2 wr gO al vR xs vA acs (l1 ++ f :: l2)) (hg : (wr.alloc o).grownBy w1 f.1.ownBlock)
    (ho : w1.ownsRow w2.heap.size 3 1 v' ys'.length ys') (hat : v'.ownBlock = f.1.ownBlock ∨ v'.ownBlock = some (wr.alloc o).heap.size) : L6 w2 w1 gO al vR xs vA acs (l1 ++ (v', ys') :: l2) := by
  have hf := h.fam.rows f (by simp)
  have hkA : KeepB (fun b => f.1.ownBlock = some b) wr w1 := ((KeepB.refl _ wr).alloc o).grown hg fun k hk _ => hk
  exact ⟨hkA.below h.below h.below.size fun b e => own_block hf b e, h.ge, h.fam.app hg ho hat, own_keep h.tab hkA fun g hg e => own_ne_own h.tab hf (by decide) g g hg e rfl, own_keep h.acc hkA fun g hg e => own_ne_own h.acc hf (by decide) g g hg e rfl, h.blk.keep hkA fun e => own_ne hf h.blk (by decide) _ e rfl⟩
/-- The row goes into the table. -/
theorem L6.row {row : List Nat} {vR' : Value} {A : Option Addr} {c : Nat} {o : Obj} (h : L6 w2 wr gO al vR xs vA acs (f :: (.slice A row.length c, natVals row) :: famOf xs)) (hg : (wr.alloc o).grownBy w1 vR.ownBlock)
    (ho : w1.ownsRow w2.heap.size 63 1 vR' (xs.length + 1) (rowVals xs ++ [.slice A row.length c])) : L6 w2 (w1.setCell ⟨gO, 1, none⟩ vR') gO al vR' (xs ++ [⟨row.map fun (n : Nat) => (n : Int), A, c⟩]) vA acs (f :: famOf (xs ++ [⟨row.map fun (n : Nat) => (n : Int), A, c⟩])) := by
  have hkA : KeepB (fun b => vR.ownBlock = some b) wr w1 := ((KeepB.refl _ wr).alloc o).grown hg fun k hk _ => hk
  have hblk1 : Blk w1 gO 41 #[.int .i64 al, vR, vA] := h.blk.keep hkA fun e => own_ne h.tab h.blk (by decide) _ e rfl
  have hkB : KeepB (fun b => b = gO) w1 (w1.setCell ⟨gO, 1, none⟩ vR') := (KeepB.refl _ w1).setCell _ _ fun _ => rfl
  have hb1 : Below w2.heap.size w2 w1 := hkA.below h.below h.below.size fun b e => own_block h.tab b e
  refine ⟨hkB.below hb1 hb1.size fun b e => by rw [e]; exact h.ge, h.ge, ?_, ?_, ?_, by simpa using hblk1.set_ 1 vR'⟩
  · have h1 := h.fam.keep hkA fun f hf g hg e => own_ne_own h.tab (h.fam.rows f hf) (by decide) g g e hg rfl
    exact (h1.keep hkB fun f hf g hg e => own_ne (h1.rows f hf) hblk1 (by decide) g hg e).into
  · have h2 : w1.ownsRow w2.heap.size 63 1 vR' (xs ++ [(⟨row.map fun (n : Nat) => (n : Int), A, c⟩ : RowV)]).length (rowVals (xs ++ [⟨row.map fun (n : Nat) => (n : Int), A, c⟩])) := by
      unfold rowVals at ho ⊢
      rw [List.length_append, List.map_append]
      unfold RowV.v at ho ⊢
      simpa using ho
    exact own_keep h2 hkB (own_ne h2 hblk1 (by decide))
  · have h3 := own_keep h.acc hkA fun g hg e => own_ne_own h.acc h.tab (by decide) g g hg e rfl
    exact own_keep h3 hkB (own_ne h3 hblk1 (by decide))
/-- Whether a node is accepting. -/
theorem L6.put {vA' : Value} {t : Bool} (h : L6 w2 wr gO al vR xs vA acs fs) (hg : wr.grownBy w1 vA.ownBlock)
    (ho : w1.ownsRow w2.heap.size 4 1 vA' (acs.length + 1) (boolVals acs ++ [.bool t])) : L6 w2 (w1.setCell ⟨gO, 2, none⟩ vA') gO al vR xs vA' (acs ++ [t]) fs := by
  have hkA : KeepB (fun b => vA.ownBlock = some b) wr w1 := (KeepB.refl _ wr).grown hg fun k hk _ => hk
  have hblk1 : Blk w1 gO 41 #[.int .i64 al, vR, vA] := h.blk.keep hkA fun e => own_ne h.acc h.blk (by decide) _ e rfl
  have hkB : KeepB (fun b => b = gO) w1 (w1.setCell ⟨gO, 2, none⟩ vA') := (KeepB.refl _ w1).setCell _ _ fun _ => rfl
  have hb1 : Below w2.heap.size w2 w1 := hkA.below h.below h.below.size fun b e => own_block h.acc b e
  refine ⟨hkB.below hb1 hb1.size fun b e => by rw [e]; exact h.ge, h.ge, ?_, ?_, ?_, by simpa using hblk1.set_ 2 vA'⟩
  · have h1 := h.fam.keep hkA fun f hf g hg e => own_ne_own h.acc (h.fam.rows f hf) (by decide) g g e hg rfl
    exact h1.keep hkB fun f hf g hg e => own_ne (h1.rows f hf) hblk1 (by decide) g hg e
  · have h3 := own_keep h.tab hkA fun g hg e => own_ne_own h.tab h.acc (by decide) g g hg e rfl
    exact own_keep h3 hkB (own_ne h3 hblk1 (by decide))
  · have h2 : w1.ownsRow w2.heap.size 4 1 vA' (acs ++ [t]).length (boolVals (acs ++ [t])) := by
      unfold boolVals at ho ⊢
      rw [List.length_append, List.map_append]
      exact ho
    exact own_keep h2 hkB (own_ne h2 hblk1 (by decide))
/-- A fresh empty row. -/
theorem Fam3.fresh {w : World} {base : Nat} {f : Value × List Value} {fs : List (Value × List Value)} (h : Fam3 w base (f :: fs)) (hb : base ≤ w.heap.size) : Fam3 (w.alloc (.cells #[] 3)) base (f :: (.slice (some ⟨w.heap.size, 0, none⟩) 0 0, []) :: fs) := by
  have hl := h.later ((Below.refl _ w).alloc (Nat.le_refl _) (.cells #[] 3))
  have hlt : ∀ y ∈ f :: fs, ∀ g, y.1.ownBlock = some g → g < w.heap.size := fun y hy g e => ((h.rows y hy).lt g e).2
  obtain ⟨h2, h3⟩ := hl
  rw [List.pairwise_cons] at h3
  refine ⟨fun y hy => ?_, ?_⟩
  · rw [List.mem_cons, List.mem_cons] at hy
    rcases hy with rfl | rfl | hy
    · exact h2 _ List.mem_cons_self
    · exact ⟨rfl, .inr ⟨w.heap.size, 0, #[], rfl, hb, heap_alloc_self _ _, Nat.le_refl _, Nat.zero_le _, rfl, rfl⟩⟩
    · exact h2 y (List.mem_cons_of_mem _ hy)
  · rw [List.pairwise_cons, List.pairwise_cons]
    refine ⟨fun y hy k e e' => ?_, ⟨fun y hy k e e' => ?_, h3.2⟩⟩
    · rcases List.mem_cons.1 hy with rfl | hy
      · have := hlt f List.mem_cons_self k e
        injection e' with e'
        simp at e'
        omega
      · exact h3.1 y hy k e e'
    · have := hlt y (List.mem_cons_of_mem _ hy) k e'
      injection e with e
      simp at e
      omega
theorem L6.fresh (h : L6 w2 wr gO al vR xs vA acs (f :: fs)) : L6 w2 (wr.alloc (.cells #[] 3)) gO al vR xs vA acs (f :: (.slice (some ⟨wr.heap.size, 0, none⟩) 0 0, []) :: fs) :=
  have hb : Below wr.heap.size wr (wr.alloc (.cells #[] 3)) := (Below.refl _ wr).alloc (Nat.le_refl _) _
  ⟨h.below.trans (hb.mono h.below.size), h.ge, h.fam.fresh h.below.size, own_later_ h.tab hb, own_later_ h.acc hb, h.blk.below hb h.blk.lt⟩
end
theorem OwnN.read {w : World} {B : Nat} {v : Value} {ns : List Nat} (h : w.ownsRow B 3 1 v ns.length (natVals ns)) : ∃ A c, v = .slice A ns.length c ∧ ns.length ≤ c ∧ c ≤ 9223372036854775807 ∧ NatsAt w w.heap.size A ns := OwnNats.read h

end Go.Proofs.YtdkjnemakkppfaaGreatDoor

/- Plain: how many bits a small number has. -/
namespace AG

def popE (x : Nat) : Nat := x % 2 + x / 2 % 2 + x / 4 % 2 + x / 8 % 2 + x / 16 % 2 + x / 32 % 2 + x / 64 % 2 + x / 128 % 2 + x / 256 % 2 + x / 512 % 2 + x / 1024 % 2 + x / 2048 % 2 + x / 4096 % 2 + x / 8192 % 2 + x / 16384 % 2 + x / 32768 % 2
/-- The library's steps. -/
def popS (x : Nat) : Nat :=
  let x1 := (x / 2 &&& 6148914691236517205) + (x &&& 6148914691236517205)
  let x2 := (x1 / 4 &&& 3689348814741910323) + (x1 &&& 3689348814741910323)
  let x3 := x2 / 16 + x2 &&& 1085102592571150095
  let x4 := x3 + x3 / 256
  let x5 := x4 + x4 / 65536
  let x6 := x5 + x5 / 4294967296
  x6 &&& 127
theorem pop_all : ∀ a : Fin 256, ∀ b : Fin 256, popE (a.val * 256 + b.val) = popS (a.val * 256 + b.val) := by decide +kernel
theorem pop_steps (x : Nat) (hx : x < 65536) : popE x = popS x := by
  have := pop_all ⟨x / 256, by omega⟩ ⟨x % 256, by omega⟩
  simp only at this
  rwa [show x / 256 * 256 + x % 256 = x from by omega] at this

end AG

/- Plain: ranks in a set, and a system with only some of its states. -/
namespace AG

/-- How many numbers below n are in the set. -/
def rankN (S : Nat) : Nat → Nat
  | 0 => 0
  | n + 1 => rankN S n + if S.testBit n = true then 1 else 0
theorem rankN_le (S : Nat) : ∀ n, rankN S n ≤ n
  | 0 => Nat.le_refl _
  | n + 1 => by
    have := rankN_le S n
    unfold rankN
    split <;> omega
theorem bit_num (x i : Nat) : (if x.testBit i = true then 1 else 0) = x / 2 ^ i % 2 := by
  have h := Nat.testBit_eq_decide_div_mod_eq (x := x) (i := i)
  rw [h]
  by_cases hh : x / 2 ^ i % 2 = 1
  · simp [hh]
  · simp [hh]; omega
theorem popE_rank (x : Nat) : popE x = rankN x 16 := by
  unfold popE
  simp only [rankN, bit_num]
  simp
theorem rank_mask (S n : Nat) : ∀ m, n ≤ m → rankN (S &&& (2 ^ n - 1)) m = rankN S n := by
  have key : ∀ i, (S &&& (2 ^ n - 1)).testBit i = (S.testBit i && decide (i < n)) := fun i => by rw [Nat.testBit_and, Nat.testBit_two_pow_sub_one]
  have low : ∀ m, m ≤ n → rankN (S &&& (2 ^ n - 1)) m = rankN S m := by
    intro m
    induction m with
    | zero => intro _; rfl
    | succ m ih =>
      intro h
      rw [rankN, rankN, ih (by omega), key, decide_eq_true (by omega : m < n), Bool.and_true]
  intro m
  induction m with
  | zero => intro h; exact low 0 (by omega) |>.trans (by rw [show n = 0 from by omega])
  | succ m ih =>
    intro h
    by_cases e : n = m + 1
    · rw [e, ← e]; exact low n (Nat.le_refl _)
    · rw [rankN, ih (by omega), key, decide_eq_false (by omega : ¬ m < n)]
      simp
theorem rank_top {S n : Nat} (hS : S < 2 ^ n) : ∀ m, n ≤ m → rankN S m = rankN S n := by
  intro m h
  have := rank_mask S n m h
  have e : S &&& (2 ^ n - 1) = S := by rw [Nat.and_two_pow_sub_one_eq_mod, Nat.mod_eq_of_lt hS]
  rwa [e] at this

def trimE (R : Nat) (e : Ed) : Ed := ⟨(rankN R e.f.toNat : Nat), e.l, (rankN R e.t.toNat : Nat)⟩
def keptE (R : Nat) (e : Ed) : Bool := R.testBit e.f.toNat && R.testBit e.t.toNat
def trimEs (R : Nat) (es : List Ed) : List Ed := (es.filter (keptE R)).map (trimE R)
/-- A system with only the states of a set, renumbered. -/
def trimSy (s : Sy) (R : Nat) : Sy := ⟨s.al, (rankN R s.st.toNat : Nat), trimEs R s.es⟩
theorem trimEs_hit {R : Nat} {es : List Ed} {k : Nat} (hk : k < es.length) (h : keptE R es[k] = true) : trimEs R (es.take (k + 1)) = trimEs R (es.take k) ++ [trimE R es[k]] := by
  unfold trimEs
  rw [List.take_succ_eq_append_getElem hk, List.filter_append, List.map_append]
  simp [h]
theorem trimEs_miss {R : Nat} {es : List Ed} {k : Nat} (hk : k < es.length) (h : keptE R es[k] = false) : trimEs R (es.take (k + 1)) = trimEs R (es.take k) := by
  unfold trimEs
  rw [List.take_succ_eq_append_getElem hk, List.filter_append, List.map_append]
  simp [h]
theorem trimEs_len (R : Nat) (es : List Ed) : (trimEs R es).length ≤ es.length := by
  unfold trimEs
  rw [List.length_map]
  exact List.length_filter_le _ _

end AG

/- Plain: a system with only its reached states does the same. -/
namespace AG

theorem rank_mono (S : Nat) {a b : Nat} (h : a ≤ b) : rankN S a ≤ rankN S b := by
  induction b with
  | zero => rw [show a = 0 from by omega]; exact Nat.le_refl _
  | succ b ih =>
    by_cases e : a = b + 1
    · rw [e]; exact Nat.le_refl _
    · have := ih (by omega)
      rw [rankN]
      omega
theorem rank_lt {S a b : Nat} (h : a < b) (ha : S.testBit a = true) : rankN S a < rankN S b := by
  have h1 : rankN S (a + 1) = rankN S a + 1 := by rw [rankN, ha]; simp
  have h2 := rank_mono S (show a + 1 ≤ b from h)
  omega
theorem edgeLt_iff (a b : Ed) : edgeLt a b = true ↔ a.f < b.f ∨ (a.f = b.f ∧ (a.l < b.l ∨ (a.l = b.l ∧ a.t < b.t))) := by
  unfold edgeLt
  by_cases h1 : a.f = b.f
  · by_cases h2 : a.l = b.l
    · simp [h1, h2]
    · simp [h1, h2]
  · simp [h1]
theorem edgeLt_trans {a b c : Ed} (h : edgeLt a b = true) (k : edgeLt b c = true) : edgeLt a c = true := by
  rw [edgeLt_iff] at h k ⊢
  omega
theorem edges_pairwise {s : Sy} (h : sysOk s = true) : s.es.Pairwise fun a b => edgeLt a b = true := by
  rw [List.pairwise_iff_getElem]
  intro i j hi hj hij
  induction j with
  | zero => omega
  | succ j ih =>
    have h1 := sysOk_lt h (i := j) (by omega)
    by_cases e : i = j
    · subst e; exact h1
    · exact edgeLt_trans (ih (by omega) (by omega)) h1
theorem sysOk_of {s : Sy} (h1 : alphaOk s.al = true) (h2 : 1 ≤ s.st ∧ s.st ≤ 16) (h3 : ∀ e ∈ s.es, edgeOk s.al s.st e = true) (h4 : s.es.Pairwise fun a b => edgeLt a b = true) : sysOk s = true := by
  unfold sysOk
  refine decide_eq_true ⟨h1, h2.1, h2.2, fun i hi _ => ⟨h3 _ (List.getElem_mem _), fun j hj hji => ?_⟩⟩
  exact List.pairwise_iff_getElem.1 h4 j i hj hi (by omega)

theorem reach_bit {s : Sy} (q : Nat) : (reachAll s).testBit q = true ↔ q < 16 ∧ Rch s s.al 1 q := by
  unfold reachAll reachSet
  exact bitsOf_testBit _ _ _
theorem reach_zero {s : Sy} : (reachAll s).testBit 0 = true := (reach_bit 0).2 ⟨by omega, Rch.start (by decide)⟩
theorem reach_step {s : Sy} (hs : sysOk s = true) {e : Ed} (he : e ∈ s.es) (h : (reachAll s).testBit e.f.toNat = true) : (reachAll s).testBit e.t.toNat = true := by
  obtain ⟨a, b, c, d, e1, f, g, _⟩ := sysOk_in hs e he
  exact (reach_bit _).2 ⟨by omega, Rch.step he g ((reach_bit _).1 h).2⟩

theorem trim_mem {s : Sy} {R : Nat} {e' : Ed} : e' ∈ (trimSy s R).es ↔ ∃ e ∈ s.es, R.testBit e.f.toNat = true ∧ R.testBit e.t.toNat = true ∧ e' = trimE R e := by
  show e' ∈ trimEs R s.es ↔ _
  unfold trimEs
  rw [List.mem_map]
  constructor
  · rintro ⟨e, he, rfl⟩
    rw [List.mem_filter] at he
    unfold keptE at he
    rw [Bool.and_eq_true] at he
    exact ⟨e, he.1, he.2.1, he.2.2, rfl⟩
  · rintro ⟨e, he, h1, h2, rfl⟩
    exact ⟨e, List.mem_filter.2 ⟨he, by unfold keptE; rw [h1, h2]; rfl⟩, rfl⟩

theorem trim_ok {s : Sy} (hs : sysOk s = true) : sysOk (trimSy s (reachAll s)) = true := by
  have hst := sysOk_st hs
  have hin := sysOk_in hs
  refine sysOk_of (by have := hs; unfold sysOk at this; exact (of_decide_eq_true this).1) ?_ (fun e' he' => ?_) ?_
  · show 1 ≤ ((rankN (reachAll s) s.st.toNat : Nat) : Int) ∧ ((rankN (reachAll s) s.st.toNat : Nat) : Int) ≤ 16
    have h1 := rank_lt (S := reachAll s) (a := 0) (b := s.st.toNat) (by omega) reach_zero
    have h2 := rankN_le (reachAll s) s.st.toNat
    omega
  · obtain ⟨e, he, h1, h2, rfl⟩ := trim_mem.1 he'
    obtain ⟨a, b, c, d, e1, f, g, g1, g2⟩ := hin e he
    have r1 := rank_lt (S := reachAll s) (a := e.f.toNat) (b := s.st.toNat) (by omega) h1
    have r2 := rank_lt (S := reachAll s) (a := e.t.toNat) (b := s.st.toNat) (by omega) h2
    unfold edgeOk
    rw [Bool.and_eq_true, decide_eq_true_iff]
    refine ⟨⟨?_, ?_, ?_, ?_, e1, f⟩, g⟩
    · show (0 : Int) ≤ ((rankN (reachAll s) e.f.toNat : Nat) : Int); omega
    · show ((rankN (reachAll s) e.f.toNat : Nat) : Int) < ((rankN (reachAll s) s.st.toNat : Nat) : Int); omega
    · show (0 : Int) ≤ ((rankN (reachAll s) e.t.toNat : Nat) : Int); omega
    · show ((rankN (reachAll s) e.t.toNat : Nat) : Int) < ((rankN (reachAll s) s.st.toNat : Nat) : Int); omega
  · show (trimEs (reachAll s) s.es).Pairwise _
    unfold trimEs
    rw [List.pairwise_map]
    have hp := (edges_pairwise hs).filter (keptE (reachAll s))
    refine hp.imp_of_mem fun {a b} ha hb hlt => ?_
    rw [List.mem_filter] at ha hb
    have ka := ha.2
    have kb := hb.2
    unfold keptE at ka kb
    rw [Bool.and_eq_true] at ka kb
    obtain ⟨a1, a2, a3, a4, _⟩ := hin a ha.1
    obtain ⟨b1, b2, b3, b4, _⟩ := hin b hb.1
    rw [edgeLt_iff] at hlt ⊢
    show ((rankN (reachAll s) a.f.toNat : Nat) : Int) < ((rankN (reachAll s) b.f.toNat : Nat) : Int) ∨ (((rankN (reachAll s) a.f.toNat : Nat) : Int) = ((rankN (reachAll s) b.f.toNat : Nat) : Int) ∧ (a.l < b.l ∨ (a.l = b.l ∧ ((rankN (reachAll s) a.t.toNat : Nat) : Int) < ((rankN (reachAll s) b.t.toNat : Nat) : Int))))
    rcases hlt with h | ⟨h, h'⟩
    · left
      have := rank_lt (S := reachAll s) (a := a.f.toNat) (b := b.f.toNat) (by omega) ka.1
      omega
    · right
      refine ⟨by rw [h], ?_⟩
      rcases h' with h' | ⟨h', h2⟩
      · exact .inl h'
      · refine .inr ⟨h', ?_⟩
        have := rank_lt (S := reachAll s) (a := a.t.toNat) (b := b.t.toNat) (by omega) ka.2
        omega

theorem setW_reach {s : Sy} (hs : sysOk s = true) : ∀ (r : List Nat) (q : Nat), (setW s r).testBit q = true → (reachAll s).testBit q = true
  | [], q, h => by
    have : q = 0 := by
      have := testBit_lt (n := 1) (S := 1) (by decide) h
      omega
    rw [this]
    exact reach_zero
  | l :: r, q, h => by
    have h' : (stepSet s (setW s r) (l : Int)).testBit q = true := h
    unfold stepSet at h'
    rw [bitsOf_testBit] at h'
    obtain ⟨_, e, he, _, hf, rfl⟩ := h'
    exact reach_step hs he (setW_reach hs r _ hf)
end AG

/- Words as bytes: their letters, their alphabets, what is left of them, the states behind them. -/
namespace AG

/-- The number of the letter at a place of a word. -/
def lz (w : ByteArray) (i : Nat) : Int := ((w.data.getD i 0).toNat : Int) - 97
def lOk (x : Int) : Bool := decide (0 ≤ x ∧ x < 6)
def wordOk (w : ByteArray) : Bool := decide (w.size ≤ 50000 ∧ ∀ i, i < w.size → lOk (lz w i) = true)
def ltr (w : ByteArray) (i : Nat) : Int := if lOk (lz w i) = true then lz w i else -1
def within (w : ByteArray) (al : Int) : Bool := decide (alphaOk al = true ∧ w.size ≤ 50000 ∧ ∀ i, i < w.size → HasZ al (ltr w i) = true)
def keptTo (w : ByteArray) (al : Int) : Nat → List UInt8
  | 0 => []
  | k + 1 => if HasZ al (ltr w k) = true then keptTo w al k ++ [w.data.getD k 0] else keptTo w al k
def restr (w : ByteArray) (al : Int) : ByteArray := ⟨(keptTo w al w.size).toArray⟩
noncomputable def runTo (s : Sy) (w : ByteArray) : Nat → Nat
  | 0 => 1
  | k + 1 => stepSet s (runTo s w k) (lz w k)
noncomputable def aft (s : Sy) (w : ByteArray) : Nat := if (sysOk s && within w s.al) = true then runTo s w w.size else 0
noncomputable def hasTr (s : Sy) (w : ByteArray) : Bool := decide (aft s w ≠ 0)
noncomputable def trParts (ss : List Sy) (w : ByteArray) : Bool := decide (partsOk ss = true ∧ within w (allAl ss) = true ∧ ∀ i (h : i < ss.length), hasTr ss[i] (restr w ss[i].al) = true)

theorem lz_range (w : ByteArray) (i : Nat) : -97 ≤ lz w i ∧ lz w i ≤ 158 := by
  unfold lz
  have := (w.data.getD i 0).toNat_lt
  omega

theorem keptTo_len (w : ByteArray) (al : Int) : ∀ k, (keptTo w al k).length ≤ k
  | 0 => by simp [keptTo]
  | k + 1 => by
    have := keptTo_len w al k
    unfold keptTo
    split
    · rw [List.length_append]; simp; omega
    · omega

theorem stepSet_of0 (s : Sy) (l : Int) : stepSet s 0 l = 0 := by
  apply Nat.eq_of_testBit_eq
  intro j
  cases h : (stepSet s 0 l).testBit j with
  | false => simp
  | true =>
    unfold stepSet at h
    obtain ⟨_, e, _, _, h0, _⟩ := (bitsOf_testBit _ _ _).1 h
    simp at h0

theorem runTo_zero {s : Sy} {w : ByteArray} {k : Nat} (h : runTo s w k = 0) : ∀ n, runTo s w (k + n) = 0
  | 0 => h
  | n + 1 => by
    have := runTo_zero h n
    show stepSet s (runTo s w (k + n)) (lz w (k + n)) = 0
    rw [this, stepSet_of0]
theorem runTo_done {s : Sy} {w : ByteArray} {k : Nat} (h : runTo s w k = 0) (hk : k ≤ w.size) : runTo s w w.size = 0 := by
  have := runTo_zero h (w.size - k)
  rwa [Nat.add_sub_cancel' hk] at this
theorem runTo_lt (s : Sy) (w : ByteArray) : ∀ k, runTo s w k < 65536
  | 0 => by unfold runTo; omega
  | k + 1 => by unfold runTo stepSet; exact bitsOf_lt _ 16

theorem wordOk_at {w : ByteArray} (h : wordOk w = true) {i : Nat} (hi : i < w.size) : 0 ≤ lz w i ∧ lz w i < 6 := by
  unfold wordOk at h
  have := (of_decide_eq_true h).2 i hi
  unfold lOk at this
  exact of_decide_eq_true this
theorem ltr_ok {w : ByteArray} {i : Nat} (h : 0 ≤ lz w i ∧ lz w i < 6) : ltr w i = lz w i := by
  unfold ltr lOk
  rw [if_pos (decide_eq_true h)]
theorem ltr_bad {w : ByteArray} {i : Nat} (h : ¬ (0 ≤ lz w i ∧ lz w i < 6)) : ltr w i = -1 := by
  unfold ltr lOk
  rw [if_neg (by simpa using h)]
theorem hasZ_neg (al : Int) : HasZ al (-1) = false := by unfold HasZ; simp

theorem within_bad {w : ByteArray} (al : Int) (h : wordOk w = false) : within w al = false := by
  unfold within
  apply decide_eq_false
  rintro ⟨-, hs, hall⟩
  have : wordOk w = true := by
    unfold wordOk
    refine decide_eq_true ⟨hs, fun i hi => ?_⟩
    have := hall i hi
    unfold ltr at this
    cases hl : lOk (lz w i) with
    | true => rfl
    | false =>
      rw [hl, if_neg (by simp), hasZ_neg] at this
      cases this
  rw [this] at h
  cases h
theorem within_word {w : ByteArray} {al : Int} (h : within w al = true) : wordOk w = true := by
  cases hw : wordOk w with
  | true => rfl
  | false => rw [within_bad al hw] at h; cases h
theorem within_size {w : ByteArray} {al : Int} (h : within w al = true) : w.size ≤ 50000 := by
  unfold within at h
  exact (of_decide_eq_true h).2.1
end AG

/- Plain: letters of alphabets of lists of systems. -/
namespace AG

theorem Has_or {a b : Int} (ha : 0 ≤ a) (hb : 0 ≤ b) (c : Nat) : Has (orB a b) c = (Has a c || Has b c) := by
  obtain ⟨a, rfl⟩ := Int.eq_ofNat_of_zero_le ha
  obtain ⟨b, rfl⟩ := Int.eq_ofNat_of_zero_le hb
  unfold orB
  rw [Int.toNat_natCast, Int.toNat_natCast, Has_nat, Has_nat, Has_nat, Nat.testBit_or]
theorem Has_and {a b : Int} (ha : 0 ≤ a) (hb : 0 ≤ b) (c : Nat) : Has (andB a b) c = (Has a c && Has b c) := by
  obtain ⟨a, rfl⟩ := Int.eq_ofNat_of_zero_le ha
  obtain ⟨b, rfl⟩ := Int.eq_ofNat_of_zero_le hb
  unfold andB
  rw [Int.toNat_natCast, Int.toNat_natCast, Has_nat, Has_nat, Has_nat, Nat.testBit_and]
theorem Has_zero (c : Nat) : Has 0 c = false := by
  have := Has_nat 0 c
  rw [Nat.zero_testBit] at this
  exact this

/-- How many of the systems have the letter c. -/
def cntAl (ss : List Sy) (c : Nat) : Nat := ss.countP fun s => Has s.al c
theorem cntAl_snoc (ss : List Sy) (s : Sy) (c : Nat) : cntAl (ss ++ [s]) c = cntAl ss c + if Has s.al c = true then 1 else 0 := by
  unfold cntAl
  rw [List.countP_append]
  simp [List.countP_cons]

theorem Has_all : ∀ (ss : List Sy) (c : Nat), ss.all sysOk = true → Has (allAl ss) c = decide (0 < cntAl ss c) ∧ Has (sharedAl ss) c = decide (1 < cntAl ss c) := by
  intro ss c
  induction hn : ss.length generalizing ss with
  | zero =>
    intro _
    obtain rfl : ss = [] := List.eq_nil_of_length_eq_zero hn
    exact ⟨Has_zero c, Has_zero c⟩
  | succ n ih =>
    intro hall
    have hne : ss ≠ [] := fun e => by rw [e] at hn; cases hn
    obtain ⟨ts, s, rfl⟩ : ∃ ts s, ss = ts ++ [s] := ⟨ss.dropLast, ss.getLast hne, (List.dropLast_concat_getLast hne).symm⟩
    have hts : ts.all sysOk = true := by rw [List.all_append, Bool.and_eq_true] at hall; exact hall.1
    have hs : sysOk s = true := by rw [List.all_append, Bool.and_eq_true] at hall; simpa using hall.2
    obtain ⟨h1, h2⟩ := ih ts (by simpa using hn) hts
    have r1 := allAl_range ts hts
    have r2 := sharedAl_range ts hts
    have r3 := sysOk_alpha hs
    have r4 := andB_range (a := allAl ts) r3
    rw [allAl_snoc, sharedAl_snoc, Has_or (by omega) (by omega), Has_or (by omega) (by omega), Has_and (by omega) (by omega), h1, h2, cntAl_snoc]
    cases hH : Has s.al c
    · simp
    · constructor
      · simp
      · rw [Bool.eq_iff_iff]
        simp
        omega

end AG

/- Plain: one part alone. -/
namespace AG

theorem hasTr_ok {s : Sy} {w : ByteArray} (h : hasTr s w = true) : sysOk s = true ∧ within w s.al = true := by
  unfold hasTr at h
  have h := of_decide_eq_true h
  unfold aft at h
  cases h1 : sysOk s <;> cases h2 : within w s.al <;> simp [h1, h2] at h ⊢
theorem allAl_one {s : Sy} (h : sysOk s = true) : allAl [s] = s.al := by
  have r := sysOk_alpha h
  show orB 0 s.al = s.al
  unfold orB
  simp
  omega
theorem allAl_two {s : Sy} (h : sysOk s = true) : allAl [s, s] = s.al := by
  have r := sysOk_alpha h
  have h0 : orB 0 s.al = s.al := allAl_one h
  show orB (orB 0 s.al) s.al = s.al
  rw [h0]
  unfold orB
  rw [Nat.or_self]
  omega
end AG
