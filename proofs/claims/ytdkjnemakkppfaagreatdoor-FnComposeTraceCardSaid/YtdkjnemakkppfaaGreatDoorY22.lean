/- Lemmas, part 22: several texts in one. -/
import Derived.Test.YtdkjnemakkppfaaGreatDoorY9
import Derived.Test.YtdkjnemakkppfaaGreatDoorY11
import Derived.Test.YtdkjnemakkppfaaGreatDoorY2
import Derived.Test.YtdkjnemakkppfaaGreatDoorY5
import Derived.Test.YtdkjnemakkppfaaGreatDoorY6
import Derived.Test.YtdkjnemakkppfaaGreatDoorY13
import Derived.Test.YtdkjnemakkppfaaGreatDoorY10
import Derived.Test.YtdkjnemakkppfaaGreatDoorY7
import Derived.Test.YtdkjnemakkppfaaGreatDoorY14
set_option linter.unusedSimpArgs false
set_option linter.unusedVariables false

/- Both TraceOfParts. -/
namespace Go.Proofs.YtdkjnemakkppfaaGreatDoor
open Go.RowKit Go.BigFrame AG

theorem restr_size (x : ByteArray) (al : Int) : (restr x al).size ≤ x.size := by
  have := keptTo_len x al x.size
  show (keptTo x al x.size).toArray.size ≤ x.size
  rw [List.size_toArray]
  exact this

theorem trParts_bad {ss : List Sy} {x : ByteArray} (h : partsOk ss = false) : trParts ss x = false := by
  unfold trParts
  exact decide_eq_false (fun g => by rw [h] at g; cases g.1)
theorem trParts_out {ss : List Sy} {x : ByteArray} (h : within x (allAl ss) = false) : trParts ss x = false := by
  unfold trParts
  exact decide_eq_false (fun g => by rw [h] at g; cases g.2.1)
theorem trParts_miss {ss : List Sy} {x : ByteArray} {k : Nat} (hk : k < ss.length) (h : hasTr ss[k] (restr x ss[k].al) = false) : trParts ss x = false := by
  unfold trParts
  exact decide_eq_false (fun g => by have := g.2.2 k hk; rw [h] at this; cases this)

set_option maxRecDepth 100000 in
set_option maxHeartbeats 1000000 in
theorem implTraceOfParts_any (ss : List Sy) (A : Option Addr) (c : Nat) (x : ByteArray) (w : World) (hz : x.size ≤ 9223372036854775807) (hl : ss.length ≤ c) (hc : c ≤ 9223372036854775807) (hT : Tab w) (hr : SysAt w w.heap.size A ss) :
    Calls Tryz.prog 17 #[.slice A ss.length c, .string x] w fun e w' => e = .returned (.bool (trParts ss x)) ∧ Below w.heap.size w w' := by
  replace hr := hid hr
  replace hT := hid hT
  cases hp : partsOk ss
  · have hfin := hid (trParts_bad (x := x) hp)
    replace hp := hid hp
    go_enter Tryz.func17, Tryz.ntmps17
    go_wp2_with (go_at_call 56; refine (areParts_any ss A c w hl hc hr.out).mono ?_; rintro e w1 ⟨rfl, hb1⟩; rw [hp.out])
    go_ret
    exact ⟨ret_bool (by rw [hfin.out]), hb1⟩
  · have hall : ss.all sysOk = true := by unfold partsOk at hp; rw [Bool.and_eq_true] at hp; exact hp.2
    have hal : Hid (partsAl ss = allAl ss) := hid (by unfold partsAl; rw [hp]; rfl)
    have hp2 := hid hp
    replace hp := hid hp
    replace hall := hid hall
    cases hwi : within x (allAl ss)
    · have hfin := hid (trParts_out hwi)
      replace hwi := hid hwi
      go_enter Tryz.func17, Tryz.ntmps17
      go_wp2_with (first
        | (go_at_call 56; refine (areParts_any ss A c w hl hc hr.out).mono ?_; rintro e w1 ⟨rfl, hb1⟩; rw [hp.out]; have hr1 := hid (hr.out.later hb1))
        | (go_at_call 18; refine (implPartsAlphabet_any ss A c _ hl hc hr1.out).mono ?_; rintro e w2 ⟨rfl, hb2⟩; rw [hal.out])
        | (go_at_call 57; refine (implWordWithin_any x _ _ hz).mono ?_; rintro e w' ⟨rfl, rfl⟩; rw [hwi.out]))
      go_ret
      exact ⟨ret_bool (by rw [hfin.out]), hb1.trans (hb2.mono hb1.size)⟩
    · have hwi2 := hid hwi
      have h5 := within_size hwi
      replace hwi := hid hwi
      go_enter Tryz.func17, Tryz.ntmps17
      go_wp2_with (first
        | (go_at_call 56; refine (areParts_any ss A c w hl hc hr.out).mono ?_; rintro e w1 ⟨rfl, hb1⟩; rw [hp.out]; have hr1 := hid (hr.out.later hb1))
        | (go_at_call 18; refine (implPartsAlphabet_any ss A c _ hl hc hr1.out).mono ?_; rintro e w2 ⟨rfl, hb2⟩; rw [hal.out])
        | (go_at_call 57; refine (implWordWithin_any x _ _ hz).mono ?_; rintro e w' ⟨rfl, rfl⟩; rw [hwi.out]))
      go_loopw [19] (fun i wr => ∃ k : Nat, i = .int .i64 k ∧ k ≤ ss.length ∧ (∀ j (hj : j < ss.length), j < k → hasTr ss[j] (restr x ss[j].al) = true) ∧ Below w.heap.size w wr) (fun i _ => ss.length - (intOf i).toNat)
      case atStart => exact ⟨0, rfl, by omega, fun j _ h => by omega, hb1.trans (hb2.mono hb1.size)⟩
      case round =>
        obtain ⟨k, rfl, hk, hbf, hb⟩ := hrel
        replace hbf := hid hbf
        by_cases hlt : k < ss.length
        · obtain ⟨b, o, Ai, ci, rfl, hB, c0, c1, c2, hAl, hAc, hAe⟩ := hr.out.get hlt
          have hs : sysOk ss[k] = true := List.all_eq_true.1 hall.out _ (List.getElem_mem _)
          have hks := sysOk_alpha hs
          have hrs := restr_size x ss[k].al
          have g0 := c0 _ hb
          have g1 := c1 _ hb
          have g2 := c2 _ hb
          replace hs := hid hs
          replace hAe := hid hAe
          cases hh : hasTr ss[k] (restr x ss[k].al)
          · have hfin := hid (trParts_miss hlt hh)
            replace hh := hid hh
            go_wp2_with fail
            obtain ⟨w0, hw0, hz0, hB0, hS0, hS1, hS2⟩ := boxed3 wr (Value.int IntKind.i64 ss[k].al) (Value.int IntKind.i64 ss[k].st) (Value.slice Ai ss[k].es.length ci) 25
            rw [hw0]
            clear hw0
            have hzr := hb.size
            have hBw := hb.trans (hB0.mono hzr)
            have f0 := fun y => hS0 _ ((Fam.below w0.heap.size w0 y).mono hz0)
            have f1 := fun y => hS1 _ ((Fam.below w0.heap.size w0 y).mono hz0)
            have f2 := fun y => hS2 _ ((Fam.below w0.heap.size w0 y).mono hz0)
            have hrF : ∀ y, Hid (EdsAt (Fam w0.heap.size w0 y) (Fam w0.heap.size w0 y).heap.size Ai ss[k].es) := fun y => hid (((hAe.out.later hBw).later (Fam.below _ _ y)))
            have hTF : ∀ y, Hid (Tab (Fam w0.heap.size w0 y)) := fun y => hid ((hT.out.later hBw).later (Fam.below _ _ y))
            refine wp_region_fam w0.heap.size w0 (by kernel_rfl) (by kernel_rfl) (Below.refl _ _) ?_
            (repeat (go_big_quiet_step ((first
              | (refine (restrict_any x ss[k].al _ h5).mono ?_; rintro e w1 ⟨rfl, hb1⟩; exact ⟨rfl, Fam.next (Nat.le_refl _) hb1⟩)
              | (refine (implHasTrace_any ss[k] Ai ci (restr x ss[k].al) _ (by omega) hAl hAc (hTF _).out (hrF _).out).mono ?_; rintro e w1 ⟨rfl, hb1⟩; exact ⟨by rw [hh.out], Fam.next (Nat.le_refl _) hb1⟩)))))
            refine wpQuiet_nil ?_
            intro w2 hw2
            replace hw2 := hBw.trans ((Fam.out hw2).mono (by omega))
            go_wp2
            go_ret
            exact ⟨ret_bool (by rw [hfin.out]), hw2⟩
          · replace hh := hid hh
            go_wp2_with fail
            obtain ⟨w0, hw0, hz0, hB0, hS0, hS1, hS2⟩ := boxed3 wr (Value.int IntKind.i64 ss[k].al) (Value.int IntKind.i64 ss[k].st) (Value.slice Ai ss[k].es.length ci) 25
            rw [hw0]
            clear hw0
            have hzr := hb.size
            have hBw := hb.trans (hB0.mono hzr)
            have f0 := fun y => hS0 _ ((Fam.below w0.heap.size w0 y).mono hz0)
            have f1 := fun y => hS1 _ ((Fam.below w0.heap.size w0 y).mono hz0)
            have f2 := fun y => hS2 _ ((Fam.below w0.heap.size w0 y).mono hz0)
            have hrF : ∀ y, Hid (EdsAt (Fam w0.heap.size w0 y) (Fam w0.heap.size w0 y).heap.size Ai ss[k].es) := fun y => hid (((hAe.out.later hBw).later (Fam.below _ _ y)))
            have hTF : ∀ y, Hid (Tab (Fam w0.heap.size w0 y)) := fun y => hid ((hT.out.later hBw).later (Fam.below _ _ y))
            refine wp_region_fam w0.heap.size w0 (by kernel_rfl) (by kernel_rfl) (Below.refl _ _) ?_
            (repeat (go_big_quiet_step ((first
              | (refine (restrict_any x ss[k].al _ h5).mono ?_; rintro e w1 ⟨rfl, hb1⟩; exact ⟨rfl, Fam.next (Nat.le_refl _) hb1⟩)
              | (refine (implHasTrace_any ss[k] Ai ci (restr x ss[k].al) _ (by omega) hAl hAc (hTF _).out (hrF _).out).mono ?_; rintro e w1 ⟨rfl, hb1⟩; exact ⟨by rw [hh.out], Fam.next (Nat.le_refl _) hb1⟩)))))
            refine wpQuiet_nil ?_
            intro w2 hw2
            replace hw2 := hBw.trans ((Fam.out hw2).mono (by omega))
            go_wp2
            go_roundw
            case rel => exact ⟨k + 1, by go_num, by omega, fun j hj hjk => by by_cases e : j = k; (subst e; exact hh.out); exact hbf.out j hj (by omega), hw2⟩
            case measure => simp [intOf]; omega
        · go_wp2
          go_ret
          exact ⟨ret_bool (by unfold trParts; exact (decide_eq_true ⟨hp2.out, hwi2.out, fun i hi => hbf.out i hi (by omega)⟩).symm), hb⟩

end Go.Proofs.YtdkjnemakkppfaaGreatDoor

/- The program's WordAt. -/
namespace Go.Proofs.YtdkjnemakkppfaaGreatDoor
open Go.RowKit Go.BigFrame AG

set_option maxRecDepth 100000 in
set_option maxHeartbeats 1000000 in
theorem reverseNone_any (w : World) :
    Calls Tryz.prog 54 #[.slice none 0 0] w fun e w' => e = .returned (.tuple #[]) ∧ Below w.heap.size w w' := by
  go_enter Tryz.func54, Tryz.ntmps54
  go_wp2_with fail
  go_loopw [2, 3] (fun iv jv wr => iv = .int .i64 0 ∧ jv = .int .i64 (-1) ∧ Below w.heap.size w wr) (fun _ _ _ => 0)
  case atStart => exact ⟨rfl, rfl, Below.refl _ _⟩
  case round =>
    obtain ⟨rfl, rfl, hb⟩ := hrel
    go_wp2
    go_end0
    exact ⟨rfl, hb⟩

/-- WordAt: the word at a place, or no answer. -/
def WordAtPost (n : Nat) (L : List Nat) (w : World) (e : Ending) (w' : World) : Prop :=
  (e = .returned (.tuple #[.string (wordS (wAt L n)), .bool true]) ∧ (0 < L.length ∨ n = 0) ∧ (wAt L n).length ≤ 7 ∨ e = .returned (.tuple #[.string ⟨#[]⟩, .bool false])) ∧ Below w.heap.size w w'

set_option maxRecDepth 100000 in
set_option maxHeartbeats 4000000 in
theorem implWordAt_any (n : Nat) (al : Int) (w : World) (hal : alphaOk al = true) (hn : n ≤ 100000) :
    Calls Tryz.prog 15 #[.int .i64 n, .int .i64 al] w (WordAtPost n (letters al) w) := by
  obtain ⟨i0, hi, hz0, hz1, hz2⟩ := info_parts infoByte
  replace hal := hid hal
  go_enter Tryz.func15, Tryz.ntmps15
  go_wp2_with (go_at_call 52; refine (isAlphabet_any al _).mono ?_; rintro e w' ⟨rfl, rfl⟩; rw [hal.out])
  refine (lettersOf_any al w).mono ?_
  rintro e w1 ⟨lv, rfl, hown, hb1⟩
  obtain ⟨ls, hls⟩ : ∃ ls, Hid (ls = letters al) := ⟨_, hid rfl⟩
  rw [← hls.out] at hown
  have hl6 : ls.length ≤ 6 := by rw [hls.out]; exact lettersTo_len al 6
  obtain ⟨Al, cl, hvl, hcl, hcl'⟩ := own_slice hown
  subst hvl
  replace hown := hid hown
  have hz1' := hb1.size
  go_wp2_with fail
  go_loopw [0, 7] (fun nv v wr => ∃ (k : Nat) (o : List Nat), nv = .int .i64 k ∧ k ≤ n ∧ o.length ≤ 7 ∧ o ++ wAt ls k = wAt ls n ∧ (∀ l ∈ o, l < 6) ∧ (0 < ls.length ∨ k = n) ∧ (o = [] → v = .slice none 0 0) ∧ wr.ownsRow w1.heap.size 5 1 v o.length (bytesOf o) ∧ Below w1.heap.size w1 wr) (fun nv _ _ => (intOf nv).toNat)
  case atStart => exact ⟨n, [], rfl, Nat.le_refl _, by simp, rfl, (fun l hl => by cases hl), .inr rfl, fun _ => rfl, World.ownsRow_nil _ _ _ _, Below.refl _ _⟩
  case round =>
    obtain ⟨k, o, rfl, hkn, ho7, hoo, ho6, hL, hnil, hob, hb⟩ := hrel
    have hbb := hid (hb1.trans (hb.mono hz1'))
    have hown2 := hid (own_later hown.out hb)
    have hzr := hb.size
    replace ho6 := hid ho6
    replace hL := hid hL
    by_cases hk : 0 < k
    · obtain ⟨p, rfl⟩ : ∃ p, k = p + 1 := ⟨k - 1, by omega⟩
      have hk' : (0 : Int) < ((p + 1 : Nat) : Int) := by omega
      obtain ⟨Ao, co, hvo, hco, hco'⟩ := own_slice hob
      subst hvo
      by_cases hl0 : ls.length = 0
      · have hl0' : ((ls.length : Int) == 0) = true := by simpa using hl0
        replace hob := hid hob
        replace hoo := hid hoo
        replace hnil := hid hnil
        replace hl0 := hid hl0
        go_wp2_with fail
        go_ret2
        exact ⟨.inr rfl, hbb.out⟩
      · have hl0' : ((ls.length : Int) == 0) = false := by rw [beq_eq_false_iff_ne]; omega
        by_cases ho : o.length = 7
        · have ho' : ((o.length : Int) == 7) = true := by rw [beq_iff_eq]; omega
          replace hob := hid hob
          replace hoo := hid hoo
          replace hnil := hid hnil
          replace ho := hid ho
          go_wp2_with fail
          go_ret2
          exact ⟨.inr rfl, hbb.out⟩
        · have ho' : ((o.length : Int) == 7) = false := by rw [beq_eq_false_iff_ne]; omega
          have hlp : 0 < ls.length := by omega
          obtain ⟨d, hd⟩ : ∃ d, d = p % ls.length := ⟨_, rfl⟩
          obtain ⟨q, hq⟩ : ∃ q, q = p / ls.length := ⟨_, rfl⟩
          have hdl : d < ls.length := by rw [hd]; exact Nat.mod_lt _ hlp
          have hqp : q ≤ p := by rw [hq]; exact Nat.div_le_self _ _
          have e1 : (((p + 1 : Nat) : Int) - 1) = (p : Int) := by omega
          have e2 : Int.tmod (p : Int) (ls.length : Int) = (d : Int) := by rw [hd]; exact tmod_nat p ls.length
          have e3 : Int.tdiv (p : Int) (ls.length : Int) = (q : Int) := by rw [hq]; exact tdiv_nat p ls.length
          obtain ⟨g, cap, hve, hg1, hg2, -, -, hLs⟩ := own_nats hown2.out (by omega)
          cases hve
          have l0 := hLs d hdl
          obtain ⟨l, hl⟩ : ∃ l : Nat, l = ls[d] := ⟨_, rfl⟩
          have hlt6 : l < 6 := by
            have := letters_lt (A := al) (l := l) (by rw [← hls.out, hl]; exact List.getElem_mem _)
            exact this.1
          rw [← hl] at l0
          have i1 : (0 : Int) ≤ (d : Int) ∧ (d : Int) < (ls.length : Int) := by omega
          have hoo2 : Hid ((o ++ [l]) ++ wAt ls q = wAt ls n) := hid (by
            rw [← hoo, wAt_succ, ← hd, ← hq, List.getD_eq_getElem?_getD, List.getElem?_eq_getElem hdl, hl]
            simp)
          have hlen : o.length < 7 := by omega
          replace hl := hid hl
          replace hLs := hid hLs
          replace hd := hid hd
          replace hq := hid hq
          replace hoo := hid hoo
          replace hnil := hid hnil
          replace ho := hid ho
          replace hl0 := hid hl0
          go_wp2_with (first
            | (go_at_call 53; refine (letterByte_any l hlt6 _).mono ?_; rintro e w' ⟨rfl, rfl⟩)
            | (at_builtin; refine wpList_append_own _ rfl _ _ 22 rfl w1.heap.size 5 i0 (.int .u8 0) 1 1 Tryz.underlying22 hi hz0 hz1 hz2 rfl (by decide) _ _ _ rfl (hob.alloc _) ⟨wr.heap.size, 0, none⟩ 1 1 [.int .u8 (97 + l : Nat)] rfl rfl (cell_one_new _ _ _) (by intro u hu; simp at hu; subst hu; rfl) (by unfold maxLen; omega) (by omega) (by simp; omega) ?_; intro v' w9 hown' hgrow hnil'; have hB9 := hid (Below.grown (hb.alloc hzr _) hgrow (by simp; omega) (own_block hob))))
          have hO9 : Hid (w9.ownsRow w1.heap.size 5 1 v' (o ++ [l]).length (bytesOf (o ++ [l]))) := hid (by
            unfold bytesOf at hown' ⊢
            rw [List.length_append, List.map_append]
            exact hown')
          clear hown' hgrow hob hb hnil'
          go_roundw
          case rel => exact ⟨q, o ++ [l], rfl, by omega, by rw [List.length_append]; simp; omega, hoo2.out, (fun x hx => by rcases List.mem_append.1 hx with h | h; exact ho6.out x h; rw [List.mem_singleton.1 h]; exact hlt6), .inl hlp, (fun e => by simp at e), hO9.out, hB9.out⟩
          case measure => simp [intOf]; omega
    · obtain rfl : k = 0 := by omega
      rw [wAt_zero, List.append_nil] at hoo
      have hLL : 0 < (letters al).length ∨ n = 0 := by
        rw [← hls.out]
        rcases hL.out with h | h
        · exact .inl h
        · exact .inr h.symm
      have hfin : Hid ((wAt (letters al) n).length ≤ 7) := hid (by rw [← hls.out, ← hoo]; exact ho7)
      have hww : Hid (wordS (wAt (letters al) n) = wordS o) := hid (by rw [← hls.out, ← hoo])
      replace hLL := hid hLL
      replace hk := hid hk
      replace hoo := hid hoo
      by_cases hoe : o = []
      · have hv := hnil hoe
        subst hv
        subst hoe
        replace hob := hid hob
        replace hnil := hid hnil
        go_wp2_with fail
        refine (reverseNone_any wr).mono ?_
        rintro e w2 ⟨rfl, hb2⟩
        have hB2 := hid (hbb.out.trans (hb2.mono hbb.out.size))
        have kc : (convert 22 9 (.slice none 0 0)).run Tryz.prog w2 = .ok (.string ⟨#[]⟩) w2 := conv_own (l := []) (World.ownsRow_nil w2 0 _ _)
        go_wp2
        go_ret2
        exact ⟨.inl ⟨by rw [hww.out]; rfl, hLL.out, hfin.out⟩, hB2.out⟩
      · have hpos : 0 < o.length := List.length_pos_iff.2 hoe
        obtain ⟨gb, cap, cur, rfl, hgb, hcap, hcap', hblk, hsz, hcur⟩ := own_blk hob hpos
        have hblk' := hid hblk
        have hcs : Hid (∀ i (h : i < (o.map (97 + ·)).length), cur[i]? = some (.int .u8 ((o.map (97 + ·))[i] : Nat))) := hid fun i h => by
          have hi : i < o.length := by simpa using h
          rw [hcur i (by unfold bytesOf; simpa using hi)]
          unfold bytesOf
          simp
        replace hcur := hid hcur
        replace hblk := hid hblk
        replace hob := hid hob
        replace hnil := hid hnil
        replace hoe := hid hoe
        go_wp2_with fail
        refine (reverseBytes_any gb o.length cap (o.map (97 + ·)) cur wr (by simp) hcap hcap' hblk'.out hsz hcs.out).mono ?_
        rintro e w2 ⟨rfl, hg2, cs2, hblk2, hsz2, hcs2⟩
        have hBr : Below w1.heap.size w1 w2 := hb.grown hg2 hb.size (fun k hk => by cases hk; exact hgb)
        have hB2 := hid (hb1.trans (hBr.mono hz1'))
        have kc : (convert 22 9 (.slice (some ⟨gb, 0, none⟩) o.length cap)).run Tryz.prog w2 = .ok (.string (wordS o)) w2 := by
          have := run_convert_bytes_back (P := Tryz.prog) w2 22 9 5 ⟨gb, 0, none⟩ cap (o.reverse.map letB) Tryz.underlying22 Tryz.underlying5 Tryz.underlying9 (fun j hj => by
            have hj' : j < o.length := by simpa using hj
            have e1 := hcs2 j (by simpa using hj')
            have hadd : (⟨gb, 0, none⟩ : Addr).add j = ⟨gb, j, none⟩ := by unfold Addr.add; split <;> simp_all
            rw [hadd, hblk2.cell, e1]
            have h6' : o.reverse[j]'(by simpa using hj') < 6 := ho6.out _ (List.mem_reverse.1 (List.getElem_mem _))
            simp only [List.getElem_map, List.map_reverse, List.getElem_reverse] at h6' ⊢
            unfold letB
            rw [UInt8.toNat_ofNat']
            have := h6'
            simp only [List.length_map] at *
            rw [Nat.mod_eq_of_lt (by omega)])
          simpa [wordS] using this
        replace hcs2 := hid hcs2
        replace hblk2 := hid hblk2
        replace hg2 := hid hg2
        clear hb hBr
        go_wp2
        go_ret2
        exact ⟨.inl ⟨by rw [hww.out]; rfl, hLL.out, hfin.out⟩, hB2.out⟩

end Go.Proofs.YtdkjnemakkppfaaGreatDoor

/- The law FnComposeTrace. Printed by tools/gen_r9b.py. -/
namespace Go.Proofs.YtdkjnemakkppfaaGreatDoor
open Go.RowKit Go.BigFrame Go.Maps AG


set_option maxRecDepth 100000 in
set_option maxHeartbeats 16000000 in
theorem FnComposeTrace_any (A : Option Addr) (n c : Nat) (w : World) (hn : n ≤ c) (hc : c ≤ 9223372036854775807) (hT : Tab w) (hx : CodeAt w A n) :
    Calls Tryz.prog 3 #[.slice A n c] w fun e w' => e = .returned (.bool true) ∧ Below w.heap.size w w' := by
  replace hT := hid hT
  replace hx := hid hx
  by_cases hlen : 1048576 < n
  · have hgt : (1048576 : Int) < (n : Int) := by omega
    go_enter Tryz.func3, Tryz.ntmps3
    go_wp2
    go_ret
    exact ⟨rfl, Below.refl _ _⟩
  have hgt : ¬ ((1048576 : Int) < (n : Int)) := by omega
  go_enter Tryz.func3, Tryz.ntmps3
  go_wp2_with fail
  have BW_w : Below w.heap.size w w := Below.refl _ _
  refine (drawComposeSystems_any A n c w hn hc hx.out).mono ?_
  rintro e w1 ⟨s, t, As, At, cs, ct, rfl, ls1, ls2, lt1, lt2, es3, et3, hb_w1⟩
  unfold Sy.val
  have BW_w1 := BW_w.trans (hb_w1.mono BW_w.size)
  have es := hid es3
  have BEs_w1 : Below w1.heap.size w1 w1 := Below.refl _ _
  have et := hid et3
  have BEt_w1 : Below w1.heap.size w1 w1 := Below.refl _ _
  clear es3 et3
  go_upto_region 4 with fail
  obtain ⟨w2, hw_w2, hz_w2, hb_w2, hS_w2, hU_w2⟩ := boxed2 w1 #[.int .i64 s.al, .int .i64 s.st, .slice As s.es.length cs] 25 #[.int .i64 t.al, .int .i64 t.st, .slice At t.es.length ct] 25
  rw [hw_w2]
  clear hw_w2
  have hs0 := fun w' (hb : Below w2.heap.size w2 w') => hS_w2 0 _ rfl w' (hb.mono hz_w2)
  have hs1 := fun w' (hb : Below w2.heap.size w2 w') => hS_w2 1 _ rfl w' (hb.mono hz_w2)
  have hs2 := fun w' (hb : Below w2.heap.size w2 w') => hS_w2 2 _ rfl w' (hb.mono hz_w2)
  replace hs0 := hid hs0
  replace hs1 := hid hs1
  replace hs2 := hid hs2
  have ht0 := fun w' (hb : Below w2.heap.size w2 w') => hU_w2 0 _ rfl w' (hb.mono hz_w2)
  have ht1 := fun w' (hb : Below w2.heap.size w2 w') => hU_w2 1 _ rfl w' (hb.mono hz_w2)
  have ht2 := fun w' (hb : Below w2.heap.size w2 w') => hU_w2 2 _ rfl w' (hb.mono hz_w2)
  replace ht0 := hid ht0
  replace ht1 := hid ht1
  replace ht2 := hid ht2
  clear hS_w2 hU_w2
  have BW_w2 := BW_w1.trans (hb_w2.mono BW_w1.size)
  have BEs_w2 := BEs_w1.trans (hb_w2.mono BEs_w1.size)
  have BEt_w2 := BEt_w1.trans (hb_w2.mono BEt_w1.size)
  have Bs_w2 : Below w2.heap.size w2 w2 := Below.refl _ _
  have Bt_w2 : Below w2.heap.size w2 w2 := Below.refl _ _
  obtain ⟨X, hX⟩ : ∃ X, Hid (X = cmX s t) := ⟨_, hid rfl⟩
  obtain ⟨ok, hok⟩ : ∃ ok, Hid (ok = cmOk s t) := ⟨_, hid rfl⟩
  have ps0 := hs0.out _ Bs_w2
  have ps1 := hs1.out _ Bs_w2
  have ps2 := hs2.out _ Bs_w2
  have pt0 := ht0.out _ Bt_w2
  have pt1 := ht1.out _ Bt_w2
  have pt2 := ht2.out _ Bt_w2
  go_wp2_with fail
  have hc_x := hid (implComposeSystems_any s t As At cs ct w2 ls1 ls2 lt1 lt2 (hT.out.later BW_w2) (es.out.later BEs_w2) (et.out.later BEt_w2))
  rw [← hX.out, ← hok.out] at hc_x
  refine hc_x.out.mono ?_
  clear hc_x
  clear ps0 ps1 ps2 pt0 pt1 pt2
  rintro e w3 hpost
  replace hpost := SoOwn.read hpost
  obtain ⟨Ax, cx, rfl, lx1, lx2, ex3, -, hb_w3⟩ := hpost
  unfold Sy.val
  have BW_w3 := BW_w2.trans (hb_w3.mono BW_w2.size)
  have BEs_w3 := BEs_w2.trans (hb_w3.mono BEs_w2.size)
  have BEt_w3 := BEt_w2.trans (hb_w3.mono BEt_w2.size)
  have Bs_w3 := Bs_w2.trans (hb_w3.mono Bs_w2.size)
  have Bt_w3 := Bt_w2.trans (hb_w3.mono Bt_w2.size)
  have ex := hid ex3
  have BEx_w3 : Below w3.heap.size w3 w3 := Below.refl _ _
  clear ex3
  go_upto_region 5 with fail
  obtain ⟨w4, hw_w4, hz_w4, hb_w4, hS_w4⟩ := boxed w3 #[.int .i64 X.al, .int .i64 X.st, .slice Ax X.es.length cx] 25
  rw [hw_w4]
  clear hw_w4
  have hx0 := fun w' (hb : Below w4.heap.size w4 w') => hS_w4 0 _ rfl w' (hb.mono hz_w4)
  have hx1 := fun w' (hb : Below w4.heap.size w4 w') => hS_w4 1 _ rfl w' (hb.mono hz_w4)
  have hx2 := fun w' (hb : Below w4.heap.size w4 w') => hS_w4 2 _ rfl w' (hb.mono hz_w4)
  replace hx0 := hid hx0
  replace hx1 := hid hx1
  replace hx2 := hid hx2
  clear hS_w4
  have BW_w4 := BW_w3.trans (hb_w4.mono BW_w3.size)
  have BEs_w4 := BEs_w3.trans (hb_w4.mono BEs_w3.size)
  have BEt_w4 := BEt_w3.trans (hb_w4.mono BEt_w3.size)
  have Bs_w4 := Bs_w3.trans (hb_w4.mono Bs_w3.size)
  have Bt_w4 := Bt_w3.trans (hb_w4.mono Bt_w3.size)
  have BEx_w4 := BEx_w3.trans (hb_w4.mono BEx_w3.size)
  have Bx_w4 : Below w4.heap.size w4 w4 := Below.refl _ _
  have ps0 := hs0.out _ Bs_w4
  have ps1 := hs1.out _ Bs_w4
  have ps2 := hs2.out _ Bs_w4
  have pt0 := ht0.out _ Bt_w4
  have pt1 := ht1.out _ Bt_w4
  have pt2 := ht2.out _ Bt_w4
  go_wp2_with fail
  have hc_z := hid (specComposeSystems_any s t As At cs ct w4 ls1 ls2 lt1 lt2 (es.out.later BEs_w4) (et.out.later BEt_w4))
  rw [← hX.out, ← hok.out] at hc_z
  refine hc_z.out.mono ?_
  clear hc_z
  clear ps0 ps1 ps2 pt0 pt1 pt2
  rintro e w5 hpost
  obtain ⟨Az, cz, rfl, lz1, lz2, ez3, -, hb_w5⟩ := hpost
  unfold Sy.val
  have BW_w5 := BW_w4.trans (hb_w5.mono BW_w4.size)
  have BEs_w5 := BEs_w4.trans (hb_w5.mono BEs_w4.size)
  have BEt_w5 := BEt_w4.trans (hb_w5.mono BEt_w4.size)
  have Bs_w5 := Bs_w4.trans (hb_w5.mono Bs_w4.size)
  have Bt_w5 := Bt_w4.trans (hb_w5.mono Bt_w4.size)
  have BEx_w5 := BEx_w4.trans (hb_w5.mono BEx_w4.size)
  have Bx_w5 := Bx_w4.trans (hb_w5.mono Bx_w4.size)
  have ez := hid ez3
  have BEz_w5 : Below w5.heap.size w5 w5 := Below.refl _ _
  clear ez3
  go_upto_region 6 with fail
  obtain ⟨w6, hw_w6, hz_w6, hb_w6, hS_w6⟩ := boxed w5 #[.int .i64 X.al, .int .i64 X.st, .slice Az X.es.length cz] 25
  rw [hw_w6]
  clear hw_w6
  have hz0 := fun w' (hb : Below w6.heap.size w6 w') => hS_w6 0 _ rfl w' (hb.mono hz_w6)
  have hz1 := fun w' (hb : Below w6.heap.size w6 w') => hS_w6 1 _ rfl w' (hb.mono hz_w6)
  have hz2 := fun w' (hb : Below w6.heap.size w6 w') => hS_w6 2 _ rfl w' (hb.mono hz_w6)
  replace hz0 := hid hz0
  replace hz1 := hid hz1
  replace hz2 := hid hz2
  clear hS_w6
  have BW_w6 := BW_w5.trans (hb_w6.mono BW_w5.size)
  have BEs_w6 := BEs_w5.trans (hb_w6.mono BEs_w5.size)
  have BEt_w6 := BEt_w5.trans (hb_w6.mono BEt_w5.size)
  have Bs_w6 := Bs_w5.trans (hb_w6.mono Bs_w5.size)
  have Bt_w6 := Bt_w5.trans (hb_w6.mono Bt_w5.size)
  have BEx_w6 := BEx_w5.trans (hb_w6.mono BEx_w5.size)
  have Bx_w6 := Bx_w5.trans (hb_w6.mono Bx_w5.size)
  have BEz_w6 := BEz_w5.trans (hb_w6.mono BEz_w5.size)
  have Bz_w6 : Below w6.heap.size w6 w6 := Below.refl _ _
  cases ok
  case false =>
    have px0 := hx0.out _ Bx_w6
    have px1 := hx1.out _ Bx_w6
    have px2 := hx2.out _ Bx_w6
    have pz0 := hz0.out _ Bz_w6
    have pz1 := hz1.out _ Bz_w6
    have pz2 := hz2.out _ Bz_w6
    go_wp2_with fail
    refine (agSystems_same X Ax Az cx cz w6 lx1 lx2 lz1 lz2 (ex.out.later BEx_w6) (ez.out.later BEz_w6)).mono ?_
    clear px0 px1 px2 pz0 pz1 pz2
    rintro e w7 ⟨rfl, hb_w7⟩
    have BW_w7 := BW_w6.trans (hb_w7.mono BW_w6.size)
    have BEs_w7 := BEs_w6.trans (hb_w7.mono BEs_w6.size)
    have BEt_w7 := BEt_w6.trans (hb_w7.mono BEt_w6.size)
    have Bs_w7 := Bs_w6.trans (hb_w7.mono Bs_w6.size)
    have Bt_w7 := Bt_w6.trans (hb_w7.mono Bt_w6.size)
    have BEx_w7 := BEx_w6.trans (hb_w7.mono BEx_w6.size)
    have Bx_w7 := Bx_w6.trans (hb_w7.mono Bx_w6.size)
    have BEz_w7 := BEz_w6.trans (hb_w7.mono BEz_w6.size)
    have Bz_w7 := Bz_w6.trans (hb_w7.mono Bz_w6.size)
    have px0 := hx0.out _ Bx_w7
    have px1 := hx1.out _ Bx_w7
    have px2 := hx2.out _ Bx_w7
    have pz0 := hz0.out _ Bz_w7
    have pz1 := hz1.out _ Bz_w7
    have pz2 := hz2.out _ Bz_w7
    go_wp2_with fail
    refine (agSystems_same X Ax Az cx cz w7 lx1 lx2 lz1 lz2 (ex.out.later BEx_w7) (ez.out.later BEz_w7)).mono ?_
    clear px0 px1 px2 pz0 pz1 pz2
    rintro e w8 ⟨rfl, hb_w8⟩
    have BW_w8 := BW_w7.trans (hb_w8.mono BW_w7.size)
    have BEs_w8 := BEs_w7.trans (hb_w8.mono BEs_w7.size)
    have BEt_w8 := BEt_w7.trans (hb_w8.mono BEt_w7.size)
    have Bs_w8 := Bs_w7.trans (hb_w8.mono Bs_w7.size)
    have Bt_w8 := Bt_w7.trans (hb_w8.mono Bt_w7.size)
    have BEx_w8 := BEx_w7.trans (hb_w8.mono BEx_w7.size)
    have Bx_w8 := Bx_w7.trans (hb_w8.mono Bx_w7.size)
    have BEz_w8 := BEz_w7.trans (hb_w8.mono BEz_w7.size)
    have Bz_w8 := Bz_w7.trans (hb_w8.mono Bz_w7.size)
    go_wp2_with fail
    go_ret
    exact ⟨rfl, BW_w8⟩
  case true =>
    have px0 := hx0.out _ Bx_w6
    have px1 := hx1.out _ Bx_w6
    have px2 := hx2.out _ Bx_w6
    have pz0 := hz0.out _ Bz_w6
    have pz1 := hz1.out _ Bz_w6
    have pz2 := hz2.out _ Bz_w6
    go_wp2_with fail
    refine (agSystems_same X Ax Az cx cz w6 lx1 lx2 lz1 lz2 (ex.out.later BEx_w6) (ez.out.later BEz_w6)).mono ?_
    clear px0 px1 px2 pz0 pz1 pz2
    rintro e w7 ⟨rfl, hb_w7⟩
    have BW_w7 := BW_w6.trans (hb_w7.mono BW_w6.size)
    have BEs_w7 := BEs_w6.trans (hb_w7.mono BEs_w6.size)
    have BEt_w7 := BEt_w6.trans (hb_w7.mono BEt_w6.size)
    have Bs_w7 := Bs_w6.trans (hb_w7.mono Bs_w6.size)
    have Bt_w7 := Bt_w6.trans (hb_w7.mono Bt_w6.size)
    have BEx_w7 := BEx_w6.trans (hb_w7.mono BEx_w6.size)
    have Bx_w7 := Bx_w6.trans (hb_w7.mono Bx_w6.size)
    have BEz_w7 := BEz_w6.trans (hb_w7.mono BEz_w6.size)
    have Bz_w7 := Bz_w6.trans (hb_w7.mono Bz_w6.size)
    have hcok : Hid (cmOk s t = true) := hid hok.out.symm
    have halx : Hid (alphaOk X.al = true) := hid (alphaOk_range.2 (sysOk_alpha (by rw [hX.out]; exact cmX_sys hcok.out)))
    have hpa : Hid (partsAl [s, t] = X.al) := hid (by
      obtain ⟨h1, h2, h3⟩ := cmOk_parts hcok.out
      unfold partsAl
      rw [parts_two h1 h2, hX.out, cmX_ok hcok.out]
      rfl)
    have htr : Hid (∀ v, within v X.al = true → trParts [s, t] v = hasTr X v) := hid fun v hv => by
      obtain ⟨h1, h2, h3⟩ := cmOk_parts hcok.out
      have e : X = cmSy [s, t] := by rw [hX.out, cmX_ok hcok.out]
      rw [e] at hv ⊢
      exact (hasTr_cm (parts_two h1 h2) h3 hv).symm
    obtain ⟨wla, hw_wla⟩ : ∃ w', w7.alloc (.cells #[.int .i64 s.al, .int .i64 s.st, .slice As s.es.length cs, .int .i64 t.al, .int .i64 t.st, .slice At t.es.length ct] 25) = w' := ⟨_, rfl⟩
    have hb_wla : Below w7.heap.size w7 wla := by rw [← hw_wla]; exact (Below.refl _ _).alloc (Nat.le_refl _) _
    obtain ⟨gla, hg_a⟩ : ∃ g, g = w7.heap.size := ⟨_, rfl⟩
    have hk_wla : Blk wla gla 25 #[.int .i64 s.al, .int .i64 s.st, .slice As s.es.length cs, .int .i64 t.al, .int .i64 t.st, .slice At t.es.length ct] := by rw [← hw_wla, hg_a]; exact Blk.new _ _ _
    have hL_a := hid (two_at hk_wla ls1 ls2 lt1 lt2 ((es.out.later BEs_w7).later hb_wla) ((et.out.later BEt_w7).later hb_wla))
    clear hk_wla
    replace hg_a := hid hg_a
    have hTP : Hid (∀ w' v, Below wla.heap.size wla w' → v.size ≤ 7 → Calls Tryz.prog 17 #[.slice (some ⟨gla, 0, none⟩) 2 2, .string v] w' fun e w2 => e = .returned (.bool (trParts [s, t] v)) ∧ Below w'.heap.size w' w2) := hid fun w' v hb hv => implTraceOfParts_any [s, t] (some ⟨gla, 0, none⟩) 2 v w' (by omega) (Nat.le_refl _) (by omega) (hT.out.later (BW_w7.trans ((hb_wla.trans (hb.mono hb_wla.size)).mono BW_w7.size))) (hL_a.out.later hb)
    have hPA : Hid (∀ w', Below wla.heap.size wla w' → Calls Tryz.prog 18 #[.slice (some ⟨gla, 0, none⟩) 2 2] w' fun e w2 => e = .returned (.int .i64 X.al) ∧ Below w'.heap.size w' w2) := hid fun w' hb => by
      have h := implPartsAlphabet_any [s, t] (some ⟨gla, 0, none⟩) 2 w' (Nat.le_refl _) (by omega) (hL_a.out.later hb)
      rw [hpa.out] at h
      exact h
    have ps0 := hs0.out _ Bs_w7
    have ps1 := hs1.out _ Bs_w7
    have ps2 := hs2.out _ Bs_w7
    have pt0 := ht0.out _ Bt_w7
    have pt1 := ht1.out _ Bt_w7
    have pt2 := ht2.out _ Bt_w7
    go_upto_region 9 with fail
    clear ps0 ps1 ps2 pt0 pt1 pt2
    try rw [hw_wla]
    try rw [← hg_a.out]
    clear hw_wla
    have BW_wla := BW_w7.trans (hb_wla.mono BW_w7.size)
    have BEs_wla := BEs_w7.trans (hb_wla.mono BEs_w7.size)
    have BEt_wla := BEt_w7.trans (hb_wla.mono BEt_w7.size)
    have Bs_wla := Bs_w7.trans (hb_wla.mono Bs_w7.size)
    have Bt_wla := Bt_w7.trans (hb_wla.mono Bt_w7.size)
    have BEx_wla := BEx_w7.trans (hb_wla.mono BEx_w7.size)
    have Bx_wla := Bx_w7.trans (hb_wla.mono Bx_w7.size)
    have BEz_wla := BEz_w7.trans (hb_wla.mono BEz_w7.size)
    have Bz_wla := Bz_w7.trans (hb_wla.mono Bz_w7.size)
    have BL_wla : Below wla.heap.size wla wla := Below.refl _ _
    go_wp2_with fail
    go_loopw [10] (fun iv wr => ∃ i : Nat, iv = .int .i64 (i : Nat) ∧ i ≤ 60 ∧ Below wla.heap.size wla wr) (fun iv _ => 60 - (intOf iv).toNat)
    case atStart => exact ⟨0, rfl, by omega, Below.refl _ _⟩
    case round =>
      obtain ⟨i, rfl, hi, hb_wr⟩ := hrel
      have BW_wr := BW_wla.trans (hb_wr.mono BW_wla.size)
      have BEs_wr := BEs_wla.trans (hb_wr.mono BEs_wla.size)
      have BEt_wr := BEt_wla.trans (hb_wr.mono BEt_wla.size)
      have Bs_wr := Bs_wla.trans (hb_wr.mono Bs_wla.size)
      have Bt_wr := Bt_wla.trans (hb_wr.mono Bt_wla.size)
      have BEx_wr := BEx_wla.trans (hb_wr.mono BEx_wla.size)
      have Bx_wr := Bx_wla.trans (hb_wr.mono Bx_wla.size)
      have BEz_wr := BEz_wla.trans (hb_wr.mono BEz_wla.size)
      have Bz_wr := Bz_wla.trans (hb_wr.mono Bz_wla.size)
      have BL_wr := BL_wla.trans (hb_wr.mono BL_wla.size)
      by_cases hlt : i < 60
      case pos =>
        have px0 := hx0.out _ Bx_wr
        have px1 := hx1.out _ Bx_wr
        have px2 := hx2.out _ Bx_wr
        go_wp2_with fail
        refine (implWordAt_any i X.al wr halx.out (by omega)).mono ?_
        clear px0 px1 px2
        rintro e w8 ⟨hwa, hb_w8⟩
        have BW_w8 := BW_wr.trans (hb_w8.mono BW_wr.size)
        have BEs_w8 := BEs_wr.trans (hb_w8.mono BEs_wr.size)
        have BEt_w8 := BEt_wr.trans (hb_w8.mono BEt_wr.size)
        have Bs_w8 := Bs_wr.trans (hb_w8.mono Bs_wr.size)
        have Bt_w8 := Bt_wr.trans (hb_w8.mono Bt_wr.size)
        have BEx_w8 := BEx_wr.trans (hb_w8.mono BEx_wr.size)
        have Bx_w8 := Bx_wr.trans (hb_w8.mono Bx_wr.size)
        have BEz_w8 := BEz_wr.trans (hb_w8.mono BEz_wr.size)
        have Bz_w8 := Bz_wr.trans (hb_w8.mono Bz_wr.size)
        have BL_w8 := BL_wr.trans (hb_w8.mono BL_wr.size)
        rcases hwa with ⟨rfl, hl0, hl7⟩ | rfl
        case inl =>
          obtain ⟨q, hq⟩ : ∃ q, Hid (q = wAt (letters X.al) i) := ⟨_, hid rfl⟩
          have hqm : Hid (∀ l ∈ q, l ∈ letters X.al) := hid (by rw [hq.out]; exact wAt_mem1 hl0)
          rw [← hq.out] at hl7 ⊢
          replace hl0 := hid hl0
          obtain ⟨v, hv⟩ : ∃ v, Hid (v = wordS q) := ⟨_, hid rfl⟩
          have hvz : v.size ≤ 7 := by rw [hv.out, wordS_size]; exact hl7
          have hvt : Hid (trParts [s, t] v = hasTr X v) := hid (htr.out v (by rw [hv.out]; exact wordS_within halx.out hqm.out (by omega)))
          rw [← hv.out]
          obtain ⟨tv, htv⟩ : ∃ t', Hid (t' = hasTr X v) := ⟨_, hid rfl⟩
          have px0 := hx0.out _ Bx_w8
          have px1 := hx1.out _ Bx_w8
          have px2 := hx2.out _ Bx_w8
          go_wp2_with fail
          refine (implHasTrace_any X Ax cx v w8 (by omega) lx1 lx2 (hT.out.later BW_w8) (ex.out.later BEx_w8)).mono ?_
          clear px0 px1 px2
          rintro e w9 ⟨rfl, hb_w9⟩
          have BW_w9 := BW_w8.trans (hb_w9.mono BW_w8.size)
          have BEs_w9 := BEs_w8.trans (hb_w9.mono BEs_w8.size)
          have BEt_w9 := BEt_w8.trans (hb_w9.mono BEt_w8.size)
          have Bs_w9 := Bs_w8.trans (hb_w9.mono Bs_w8.size)
          have Bt_w9 := Bt_w8.trans (hb_w9.mono Bt_w8.size)
          have BEx_w9 := BEx_w8.trans (hb_w9.mono BEx_w8.size)
          have Bx_w9 := Bx_w8.trans (hb_w9.mono Bx_w8.size)
          have BEz_w9 := BEz_w8.trans (hb_w9.mono BEz_w8.size)
          have Bz_w9 := Bz_w8.trans (hb_w9.mono Bz_w8.size)
          have BL_w9 := BL_w8.trans (hb_w9.mono BL_w8.size)
          rw [← htv.out]
          go_wp2_with fail
          refine (hTP.out w9 v BL_w9 hvz).mono ?_
          rintro e w10 ⟨rfl, hb_w10⟩
          have BW_w10 := BW_w9.trans (hb_w10.mono BW_w9.size)
          have BEs_w10 := BEs_w9.trans (hb_w10.mono BEs_w9.size)
          have BEt_w10 := BEt_w9.trans (hb_w10.mono BEt_w9.size)
          have Bs_w10 := Bs_w9.trans (hb_w10.mono Bs_w9.size)
          have Bt_w10 := Bt_w9.trans (hb_w10.mono Bt_w9.size)
          have BEx_w10 := BEx_w9.trans (hb_w10.mono BEx_w9.size)
          have Bx_w10 := Bx_w9.trans (hb_w10.mono Bx_w9.size)
          have BEz_w10 := BEz_w9.trans (hb_w10.mono BEz_w9.size)
          have Bz_w10 := Bz_w9.trans (hb_w10.mono Bz_w9.size)
          have BL_w10 := BL_w9.trans (hb_w10.mono BL_w9.size)
          rw [hvt.out, ← htv.out]
          cases tv
          case false =>
            go_wp2_with fail
            go_roundw
            case rel => exact ⟨i + 1, by go_num, by omega, BL_w10⟩
            case measure => simp [intOf]; omega
          case true =>
            go_wp2_with fail
            go_roundw
            case rel => exact ⟨i + 1, by go_num, by omega, BL_w10⟩
            case measure => simp [intOf]; omega
        case inr =>
          have px0 := hx0.out _ Bx_w8
          have px1 := hx1.out _ Bx_w8
          have px2 := hx2.out _ Bx_w8
          go_wp2_with fail
          have g0 := GK.BI.cell px0
          clear px0 px1 px2
          refine GK.wp_region 6 [] 200 (KeepB fun _ => False) (GK.BI w8) (fun i u _ => u = .int .i64 X.al) (by kernel_rfl) (by kernel_rfl) (GK.BI.way w8) (by decide) (Below.refl _ _).drew ?_
          simp only [List.take_succ_cons, List.take_zero]
          (repeat (refine GK.grow_quiet w8 (by rfl) (by rfl) ?_; intro K hK; go_big_quiet_op; go_big_quiet_on))
          refine GK.grow_val (.int .i64 X.al) (by rfl) rfl (fun m wq hm hbq _ => ?_) ?_
          · go_simp
            exact ⟨rfl, by
              have hbq' : Below w8.heap.size w8 wq := hbq
              exact (hPA.out wq (BL_w8.trans (hbq'.mono BL_w8.size))).mono fun e w' ⟨h1, h2⟩ => ⟨h1, GK.BI.after hbq h2⟩⟩
          simp only [Act.put, List.setIfInBounds_toArray, List.set_cons_zero, List.set_cons_succ]
          (repeat (refine GK.grow_quiet w8 (by rfl) (by rfl) ?_; intro K hK; go_big_quiet_op; go_big_quiet_on))
          refine GK.grow_nil ?_
          intro w9 hw9 _
          simp only [List.filterMap_nil]
          replace hw9 : Below w8.heap.size w8 w9 := hw9
          clear g0
          go_wp2_with fail
          go_ret
          exact ⟨rfl, BW_w8.trans (hw9.mono BW_w8.size)⟩
      case neg =>
        have px0 := hx0.out _ Bx_wr
        have px1 := hx1.out _ Bx_wr
        have px2 := hx2.out _ Bx_wr
        go_wp2_with fail
        have g0 := GK.BI.cell px0
        clear px0 px1 px2
        refine GK.wp_region 6 [] 200 (KeepB fun _ => False) (GK.BI wr) (fun i u _ => u = .int .i64 X.al) (by kernel_rfl) (by kernel_rfl) (GK.BI.way wr) (by decide) (Below.refl _ _).drew ?_
        simp only [List.take_succ_cons, List.take_zero]
        (repeat (refine GK.grow_quiet wr (by rfl) (by rfl) ?_; intro K hK; go_big_quiet_op; go_big_quiet_on))
        refine GK.grow_val (.int .i64 X.al) (by rfl) rfl (fun m wq hm hbq _ => ?_) ?_
        · go_simp
          exact ⟨rfl, by
            have hbq' : Below wr.heap.size wr wq := hbq
            exact (hPA.out wq (BL_wr.trans (hbq'.mono BL_wr.size))).mono fun e w' ⟨h1, h2⟩ => ⟨h1, GK.BI.after hbq h2⟩⟩
        simp only [Act.put, List.setIfInBounds_toArray, List.set_cons_zero, List.set_cons_succ]
        (repeat (refine GK.grow_quiet wr (by rfl) (by rfl) ?_; intro K hK; go_big_quiet_op; go_big_quiet_on))
        refine GK.grow_nil ?_
        intro w9 hw9 _
        simp only [List.filterMap_nil]
        replace hw9 : Below wr.heap.size wr w9 := hw9
        clear g0
        go_wp2_with fail
        go_ret
        exact ⟨rfl, BW_wr.trans (hw9.mono BW_wr.size)⟩

end Go.Proofs.YtdkjnemakkppfaaGreatDoor
