/- Lemmas, part 11: several texts in one. -/
import Derived.Test.YtjhlbeamfngebaaDoorY10
import Derived.Test.YtjhlbeamfngebaaDoorY7
import Derived.Test.YtjhlbeamfngebaaDoorY2
import Derived.Test.YtjhlbeamfngebaaDoorY4
import Derived.Test.YtjhlbeamfngebaaDoorY8
set_option linter.unusedSimpArgs false
set_option linter.unusedVariables false

/- Both TraceOfParts. -/
namespace Go.Proofs.YtjhlbeamfngebaaDoor
open Go.RowKit Go.BigFrame AG

theorem restr_size (x : ByteArray) (al : Int) : (restr x al).size ≤ x.size := by
  have := keptTo_len x al x.size
  show (keptTo x al x.size).toArray.size ≤ x.size
  rw [List.size_toArray]
  exact this

theorem trParts_bad {ss : List Sy} {x : ByteArray} (h : partsOk ss = false) : trParts ss x = false := by
  unfold trParts
  exact decide_eq_false (fun g => by rw [h] at g; cases g.1)
theorem trParts_out {ss : List Sy} {x : ByteArray} (h : within x (allAl ss) = false) : trParts ss x = false := by
  unfold trParts
  exact decide_eq_false (fun g => by rw [h] at g; cases g.2.1)
theorem trParts_miss {ss : List Sy} {x : ByteArray} {k : Nat} (hk : k < ss.length) (h : hasTr ss[k] (restr x ss[k].al) = false) : trParts ss x = false := by
  unfold trParts
  exact decide_eq_false (fun g => by have := g.2.2 k hk; rw [h] at this; cases this)

set_option maxRecDepth 100000 in
set_option maxHeartbeats 1000000 in
theorem implTraceOfParts_any (ss : List Sy) (A : Option Addr) (c : Nat) (x : ByteArray) (w : World) (hz : x.size ≤ 9223372036854775807) (hl : ss.length ≤ c) (hc : c ≤ 9223372036854775807) (hT : Tab w) (hr : SysAt w w.heap.size A ss) :
    Calls Tryd.prog 33 #[.slice A ss.length c, .string x] w fun e w' => e = .returned (.bool (trParts ss x)) ∧ Below w.heap.size w w' := by
  replace hr := hid hr
  replace hT := hid hT
  cases hp : partsOk ss
  · have hfin := hid (trParts_bad (x := x) hp)
    replace hp := hid hp
    go_enter Tryd.func33, Tryd.ntmps33
    go_wp2_with (go_at_call 76; refine (areParts_any ss A c w hl hc hr.out).mono ?_; rintro e w1 ⟨rfl, hb1⟩; rw [hp.out])
    go_ret
    exact ⟨ret_bool (by rw [hfin.out]), hb1⟩
  · have hall : ss.all sysOk = true := by unfold partsOk at hp; rw [Bool.and_eq_true] at hp; exact hp.2
    have hal : Hid (partsAl ss = allAl ss) := hid (by unfold partsAl; rw [hp]; rfl)
    have hp2 := hid hp
    replace hp := hid hp
    replace hall := hid hall
    cases hwi : within x (allAl ss)
    · have hfin := hid (trParts_out hwi)
      replace hwi := hid hwi
      go_enter Tryd.func33, Tryd.ntmps33
      go_wp2_with (first
        | (go_at_call 76; refine (areParts_any ss A c w hl hc hr.out).mono ?_; rintro e w1 ⟨rfl, hb1⟩; rw [hp.out]; have hr1 := hid (hr.out.later hb1))
        | (go_at_call 32; refine (implPartsAlphabet_any ss A c _ hl hc hr1.out).mono ?_; rintro e w2 ⟨rfl, hb2⟩; rw [hal.out])
        | (go_at_call 85; refine (implWordWithin_any x _ _ hz).mono ?_; rintro e w' ⟨rfl, rfl⟩; rw [hwi.out]))
      go_ret
      exact ⟨ret_bool (by rw [hfin.out]), hb1.trans (hb2.mono hb1.size)⟩
    · have hwi2 := hid hwi
      have h5 := within_size hwi
      replace hwi := hid hwi
      go_enter Tryd.func33, Tryd.ntmps33
      go_wp2_with (first
        | (go_at_call 76; refine (areParts_any ss A c w hl hc hr.out).mono ?_; rintro e w1 ⟨rfl, hb1⟩; rw [hp.out]; have hr1 := hid (hr.out.later hb1))
        | (go_at_call 32; refine (implPartsAlphabet_any ss A c _ hl hc hr1.out).mono ?_; rintro e w2 ⟨rfl, hb2⟩; rw [hal.out])
        | (go_at_call 85; refine (implWordWithin_any x _ _ hz).mono ?_; rintro e w' ⟨rfl, rfl⟩; rw [hwi.out]))
      go_loopw [19] (fun i wr => ∃ k : Nat, i = .int .i64 k ∧ k ≤ ss.length ∧ (∀ j (hj : j < ss.length), j < k → hasTr ss[j] (restr x ss[j].al) = true) ∧ Below w.heap.size w wr) (fun i _ => ss.length - (intOf i).toNat)
      case atStart => exact ⟨0, rfl, by omega, fun j _ h => by omega, hb1.trans (hb2.mono hb1.size)⟩
      case round =>
        obtain ⟨k, rfl, hk, hbf, hb⟩ := hrel
        replace hbf := hid hbf
        by_cases hlt : k < ss.length
        · obtain ⟨b, o, Ai, ci, rfl, hB, c0, c1, c2, hAl, hAc, hAe⟩ := hr.out.get hlt
          have hs : sysOk ss[k] = true := List.all_eq_true.1 hall.out _ (List.getElem_mem _)
          have hks := sysOk_alpha hs
          have hrs := restr_size x ss[k].al
          have g0 := c0 _ hb
          have g1 := c1 _ hb
          have g2 := c2 _ hb
          replace hs := hid hs
          replace hAe := hid hAe
          cases hh : hasTr ss[k] (restr x ss[k].al)
          · have hfin := hid (trParts_miss hlt hh)
            replace hh := hid hh
            go_wp2_with fail
            obtain ⟨w0, hw0, hz0, hB0, hS0, hS1, hS2⟩ := boxed3 wr (Value.int IntKind.i64 ss[k].al) (Value.int IntKind.i64 ss[k].st) (Value.slice Ai ss[k].es.length ci) 37
            rw [hw0]
            clear hw0
            have hzr := hb.size
            have hBw := hb.trans (hB0.mono hzr)
            have f0 := fun y => hS0 _ ((Fam.below w0.heap.size w0 y).mono hz0)
            have f1 := fun y => hS1 _ ((Fam.below w0.heap.size w0 y).mono hz0)
            have f2 := fun y => hS2 _ ((Fam.below w0.heap.size w0 y).mono hz0)
            have hrF : ∀ y, Hid (EdsAt (Fam w0.heap.size w0 y) (Fam w0.heap.size w0 y).heap.size Ai ss[k].es) := fun y => hid (((hAe.out.later hBw).later (Fam.below _ _ y)))
            have hTF : ∀ y, Hid (Tab (Fam w0.heap.size w0 y)) := fun y => hid ((hT.out.later hBw).later (Fam.below _ _ y))
            refine wp_region_fam w0.heap.size w0 (by kernel_rfl) (by kernel_rfl) (Below.refl _ _) ?_
            (repeat (go_big_quiet_step ((first
              | (refine (restrict_any x ss[k].al _ h5).mono ?_; rintro e w1 ⟨rfl, hb1⟩; exact ⟨rfl, Fam.next (Nat.le_refl _) hb1⟩)
              | (refine (implHasTrace_any ss[k] Ai ci (restr x ss[k].al) _ (by omega) hAl hAc (hTF _).out (hrF _).out).mono ?_; rintro e w1 ⟨rfl, hb1⟩; exact ⟨by rw [hh.out], Fam.next (Nat.le_refl _) hb1⟩)))))
            refine wpQuiet_nil ?_
            intro w2 hw2
            replace hw2 := hBw.trans ((Fam.out hw2).mono (by omega))
            go_wp2
            go_ret
            exact ⟨ret_bool (by rw [hfin.out]), hw2⟩
          · replace hh := hid hh
            go_wp2_with fail
            obtain ⟨w0, hw0, hz0, hB0, hS0, hS1, hS2⟩ := boxed3 wr (Value.int IntKind.i64 ss[k].al) (Value.int IntKind.i64 ss[k].st) (Value.slice Ai ss[k].es.length ci) 37
            rw [hw0]
            clear hw0
            have hzr := hb.size
            have hBw := hb.trans (hB0.mono hzr)
            have f0 := fun y => hS0 _ ((Fam.below w0.heap.size w0 y).mono hz0)
            have f1 := fun y => hS1 _ ((Fam.below w0.heap.size w0 y).mono hz0)
            have f2 := fun y => hS2 _ ((Fam.below w0.heap.size w0 y).mono hz0)
            have hrF : ∀ y, Hid (EdsAt (Fam w0.heap.size w0 y) (Fam w0.heap.size w0 y).heap.size Ai ss[k].es) := fun y => hid (((hAe.out.later hBw).later (Fam.below _ _ y)))
            have hTF : ∀ y, Hid (Tab (Fam w0.heap.size w0 y)) := fun y => hid ((hT.out.later hBw).later (Fam.below _ _ y))
            refine wp_region_fam w0.heap.size w0 (by kernel_rfl) (by kernel_rfl) (Below.refl _ _) ?_
            (repeat (go_big_quiet_step ((first
              | (refine (restrict_any x ss[k].al _ h5).mono ?_; rintro e w1 ⟨rfl, hb1⟩; exact ⟨rfl, Fam.next (Nat.le_refl _) hb1⟩)
              | (refine (implHasTrace_any ss[k] Ai ci (restr x ss[k].al) _ (by omega) hAl hAc (hTF _).out (hrF _).out).mono ?_; rintro e w1 ⟨rfl, hb1⟩; exact ⟨by rw [hh.out], Fam.next (Nat.le_refl _) hb1⟩)))))
            refine wpQuiet_nil ?_
            intro w2 hw2
            replace hw2 := hBw.trans ((Fam.out hw2).mono (by omega))
            go_wp2
            go_roundw
            case rel => exact ⟨k + 1, by go_num, by omega, fun j hj hjk => by by_cases e : j = k; (subst e; exact hh.out); exact hbf.out j hj (by omega), hw2⟩
            case measure => simp [intOf]; omega
        · go_wp2
          go_ret
          exact ⟨ret_bool (by unfold trParts; exact (decide_eq_true ⟨hp2.out, hwi2.out, fun i hi => hbf.out i hi (by omega)⟩).symm), hb⟩

end Go.Proofs.YtjhlbeamfngebaaDoor

/- The program's WordAt. -/
namespace Go.Proofs.YtjhlbeamfngebaaDoor
open Go.RowKit Go.BigFrame AG

set_option maxRecDepth 100000 in
set_option maxHeartbeats 1000000 in
theorem reverseNone_any (w : World) :
    Calls Tryd.prog 89 #[.slice none 0 0] w fun e w' => e = .returned (.tuple #[]) ∧ Below w.heap.size w w' := by
  go_enter Tryd.func89, Tryd.ntmps89
  go_wp2_with fail
  go_loopw [2, 3] (fun iv jv wr => iv = .int .i64 0 ∧ jv = .int .i64 (-1) ∧ Below w.heap.size w wr) (fun _ _ _ => 0)
  case atStart => exact ⟨rfl, rfl, Below.refl _ _⟩
  case round =>
    obtain ⟨rfl, rfl, hb⟩ := hrel
    go_wp2
    go_end0
    exact ⟨rfl, hb⟩

/-- WordAt: the word at a place, or no answer. -/
def WordAtPost (n : Nat) (L : List Nat) (w : World) (e : Ending) (w' : World) : Prop :=
  (e = .returned (.tuple #[.string (wordS (wAt L n)), .bool true]) ∧ (0 < L.length ∨ n = 0) ∧ (wAt L n).length ≤ 7 ∨ e = .returned (.tuple #[.string ⟨#[]⟩, .bool false])) ∧ Below w.heap.size w w'

set_option maxRecDepth 100000 in
set_option maxHeartbeats 4000000 in
theorem implWordAt_any (n : Nat) (al : Int) (w : World) (hal : alphaOk al = true) (hn : n ≤ 100000) :
    Calls Tryd.prog 34 #[.int .i64 n, .int .i64 al] w (WordAtPost n (letters al) w) := by
  obtain ⟨i0, hi, hz0, hz1, hz2⟩ := info_parts infoByte
  replace hal := hid hal
  go_enter Tryd.func34, Tryd.ntmps34
  go_wp2_with (go_at_call 87; refine (isAlphabet_any al _).mono ?_; rintro e w' ⟨rfl, rfl⟩; rw [hal.out])
  refine (lettersOf_any al w).mono ?_
  rintro e w1 ⟨lv, rfl, hown, hb1⟩
  obtain ⟨ls, hls⟩ : ∃ ls, Hid (ls = letters al) := ⟨_, hid rfl⟩
  rw [← hls.out] at hown
  have hl6 : ls.length ≤ 6 := by rw [hls.out]; exact lettersTo_len al 6
  obtain ⟨Al, cl, hvl, hcl, hcl'⟩ := own_slice hown
  subst hvl
  replace hown := hid hown
  have hz1' := hb1.size
  go_wp2_with fail
  go_loopw [0, 7] (fun nv v wr => ∃ (k : Nat) (o : List Nat), nv = .int .i64 k ∧ k ≤ n ∧ o.length ≤ 7 ∧ o ++ wAt ls k = wAt ls n ∧ (∀ l ∈ o, l < 6) ∧ (0 < ls.length ∨ k = n) ∧ (o = [] → v = .slice none 0 0) ∧ wr.ownsRow w1.heap.size 5 1 v o.length (bytesOf o) ∧ Below w1.heap.size w1 wr) (fun nv _ _ => (intOf nv).toNat)
  case atStart => exact ⟨n, [], rfl, Nat.le_refl _, by simp, rfl, (fun l hl => by cases hl), .inr rfl, fun _ => rfl, World.ownsRow_nil _ _ _ _, Below.refl _ _⟩
  case round =>
    obtain ⟨k, o, rfl, hkn, ho7, hoo, ho6, hL, hnil, hob, hb⟩ := hrel
    have hbb := hid (hb1.trans (hb.mono hz1'))
    have hown2 := hid (own_later hown.out hb)
    have hzr := hb.size
    replace ho6 := hid ho6
    replace hL := hid hL
    by_cases hk : 0 < k
    · obtain ⟨p, rfl⟩ : ∃ p, k = p + 1 := ⟨k - 1, by omega⟩
      have hk' : (0 : Int) < ((p + 1 : Nat) : Int) := by omega
      obtain ⟨Ao, co, hvo, hco, hco'⟩ := own_slice hob
      subst hvo
      by_cases hl0 : ls.length = 0
      · have hl0' : ((ls.length : Int) == 0) = true := by simpa using hl0
        replace hob := hid hob
        replace hoo := hid hoo
        replace hnil := hid hnil
        replace hl0 := hid hl0
        go_wp2_with fail
        go_ret2
        exact ⟨.inr rfl, hbb.out⟩
      · have hl0' : ((ls.length : Int) == 0) = false := by rw [beq_eq_false_iff_ne]; omega
        by_cases ho : o.length = 7
        · have ho' : ((o.length : Int) == 7) = true := by rw [beq_iff_eq]; omega
          replace hob := hid hob
          replace hoo := hid hoo
          replace hnil := hid hnil
          replace ho := hid ho
          go_wp2_with fail
          go_ret2
          exact ⟨.inr rfl, hbb.out⟩
        · have ho' : ((o.length : Int) == 7) = false := by rw [beq_eq_false_iff_ne]; omega
          have hlp : 0 < ls.length := by omega
          obtain ⟨d, hd⟩ : ∃ d, d = p % ls.length := ⟨_, rfl⟩
          obtain ⟨q, hq⟩ : ∃ q, q = p / ls.length := ⟨_, rfl⟩
          have hdl : d < ls.length := by rw [hd]; exact Nat.mod_lt _ hlp
          have hqp : q ≤ p := by rw [hq]; exact Nat.div_le_self _ _
          have e1 : (((p + 1 : Nat) : Int) - 1) = (p : Int) := by omega
          have e2 : Int.tmod (p : Int) (ls.length : Int) = (d : Int) := by rw [hd]; exact tmod_nat p ls.length
          have e3 : Int.tdiv (p : Int) (ls.length : Int) = (q : Int) := by rw [hq]; exact tdiv_nat p ls.length
          obtain ⟨g, cap, hve, hg1, hg2, -, -, hLs⟩ := own_nats hown2.out (by omega)
          cases hve
          have l0 := hLs d hdl
          obtain ⟨l, hl⟩ : ∃ l : Nat, l = ls[d] := ⟨_, rfl⟩
          have hlt6 : l < 6 := by
            have := letters_lt (A := al) (l := l) (by rw [← hls.out, hl]; exact List.getElem_mem _)
            exact this.1
          rw [← hl] at l0
          have i1 : (0 : Int) ≤ (d : Int) ∧ (d : Int) < (ls.length : Int) := by omega
          have hoo2 : Hid ((o ++ [l]) ++ wAt ls q = wAt ls n) := hid (by
            rw [← hoo, wAt_succ, ← hd, ← hq, List.getD_eq_getElem?_getD, List.getElem?_eq_getElem hdl, hl]
            simp)
          have hlen : o.length < 7 := by omega
          replace hl := hid hl
          replace hLs := hid hLs
          replace hd := hid hd
          replace hq := hid hq
          replace hoo := hid hoo
          replace hnil := hid hnil
          replace ho := hid ho
          replace hl0 := hid hl0
          go_wp2_with (first
            | (go_at_call 88; refine (letterByte_any l hlt6 _).mono ?_; rintro e w' ⟨rfl, rfl⟩)
            | (at_builtin; refine wpList_append_own _ rfl _ _ 22 rfl w1.heap.size 5 i0 (.int .u8 0) 1 1 Tryd.underlying22 hi hz0 hz1 hz2 rfl (by decide) _ _ _ rfl (hob.alloc _) ⟨wr.heap.size, 0, none⟩ 1 1 [.int .u8 (97 + l : Nat)] rfl rfl (cell_one_new _ _ _) (by intro u hu; simp at hu; subst hu; rfl) (by unfold maxLen; omega) (by omega) (by simp; omega) ?_; intro v' w9 hown' hgrow hnil'; have hB9 := hid (Below.grown (hb.alloc hzr _) hgrow (by simp; omega) (own_block hob))))
          have hO9 : Hid (w9.ownsRow w1.heap.size 5 1 v' (o ++ [l]).length (bytesOf (o ++ [l]))) := hid (by
            unfold bytesOf at hown' ⊢
            rw [List.length_append, List.map_append]
            exact hown')
          clear hown' hgrow hob hb hnil'
          go_roundw
          case rel => exact ⟨q, o ++ [l], rfl, by omega, by rw [List.length_append]; simp; omega, hoo2.out, (fun x hx => by rcases List.mem_append.1 hx with h | h; exact ho6.out x h; rw [List.mem_singleton.1 h]; exact hlt6), .inl hlp, (fun e => by simp at e), hO9.out, hB9.out⟩
          case measure => simp [intOf]; omega
    · obtain rfl : k = 0 := by omega
      rw [wAt_zero, List.append_nil] at hoo
      have hLL : 0 < (letters al).length ∨ n = 0 := by
        rw [← hls.out]
        rcases hL.out with h | h
        · exact .inl h
        · exact .inr h.symm
      have hfin : Hid ((wAt (letters al) n).length ≤ 7) := hid (by rw [← hls.out, ← hoo]; exact ho7)
      have hww : Hid (wordS (wAt (letters al) n) = wordS o) := hid (by rw [← hls.out, ← hoo])
      replace hLL := hid hLL
      replace hk := hid hk
      replace hoo := hid hoo
      by_cases hoe : o = []
      · have hv := hnil hoe
        subst hv
        subst hoe
        replace hob := hid hob
        replace hnil := hid hnil
        go_wp2_with fail
        refine (reverseNone_any wr).mono ?_
        rintro e w2 ⟨rfl, hb2⟩
        have hB2 := hid (hbb.out.trans (hb2.mono hbb.out.size))
        have kc : (convert 22 9 (.slice none 0 0)).run Tryd.prog w2 = .ok (.string ⟨#[]⟩) w2 := conv_own (l := []) (World.ownsRow_nil w2 0 _ _)
        go_wp2
        go_ret2
        exact ⟨.inl ⟨by rw [hww.out]; rfl, hLL.out, hfin.out⟩, hB2.out⟩
      · have hpos : 0 < o.length := List.length_pos_iff.2 hoe
        obtain ⟨gb, cap, cur, rfl, hgb, hcap, hcap', hblk, hsz, hcur⟩ := own_blk hob hpos
        have hblk' := hid hblk
        have hcs : Hid (∀ i (h : i < (o.map (97 + ·)).length), cur[i]? = some (.int .u8 ((o.map (97 + ·))[i] : Nat))) := hid fun i h => by
          have hi : i < o.length := by simpa using h
          rw [hcur i (by unfold bytesOf; simpa using hi)]
          unfold bytesOf
          simp
        replace hcur := hid hcur
        replace hblk := hid hblk
        replace hob := hid hob
        replace hnil := hid hnil
        replace hoe := hid hoe
        go_wp2_with fail
        refine (reverseBytes_any gb o.length cap (o.map (97 + ·)) cur wr (by simp) hcap hcap' hblk'.out hsz hcs.out).mono ?_
        rintro e w2 ⟨rfl, hg2, cs2, hblk2, hsz2, hcs2⟩
        have hBr : Below w1.heap.size w1 w2 := hb.grown hg2 hb.size (fun k hk => by cases hk; exact hgb)
        have hB2 := hid (hb1.trans (hBr.mono hz1'))
        have kc : (convert 22 9 (.slice (some ⟨gb, 0, none⟩) o.length cap)).run Tryd.prog w2 = .ok (.string (wordS o)) w2 := by
          have := run_convert_bytes_back (P := Tryd.prog) w2 22 9 5 ⟨gb, 0, none⟩ cap (o.reverse.map letB) Tryd.underlying22 Tryd.underlying5 Tryd.underlying9 (fun j hj => by
            have hj' : j < o.length := by simpa using hj
            have e1 := hcs2 j (by simpa using hj')
            have hadd : (⟨gb, 0, none⟩ : Addr).add j = ⟨gb, j, none⟩ := by unfold Addr.add; split <;> simp_all
            rw [hadd, hblk2.cell, e1]
            have h6' : o.reverse[j]'(by simpa using hj') < 6 := ho6.out _ (List.mem_reverse.1 (List.getElem_mem _))
            simp only [List.getElem_map, List.map_reverse, List.getElem_reverse] at h6' ⊢
            unfold letB
            rw [UInt8.toNat_ofNat']
            have := h6'
            simp only [List.length_map] at *
            rw [Nat.mod_eq_of_lt (by omega)])
          simpa [wordS] using this
        replace hcs2 := hid hcs2
        replace hblk2 := hid hblk2
        replace hg2 := hid hg2
        clear hb hBr
        go_wp2
        go_ret2
        exact ⟨.inl ⟨by rw [hww.out]; rfl, hLL.out, hfin.out⟩, hB2.out⟩

end Go.Proofs.YtjhlbeamfngebaaDoor

/- Words with one letter more; DrawDeadlockOf. -/
namespace Go.Proofs.YtjhlbeamfngebaaDoor
open Go.RowKit Go.BigFrame AG

set_option maxHeartbeats 1000000 in
theorem agLetter_any (l : Nat) (h : l < 6) (w : World) :
    Calls Tryd.prog 35 #[.int .i64 l] w fun e w' => e = .returned (.string ⟨#[letB l]⟩) ∧ Below w.heap.size w w' := by
  have hb : ((letB l).toNat : Int) = 97 + (l : Int) := by
    unfold letB
    rw [UInt8.toNat_ofNat']
    omega
  have kc : (convert 22 9 (.slice (some ⟨w.heap.size, 0, none⟩) 1 1)).run Tryd.prog (w.alloc (Obj.cells #[Value.int IntKind.u8 (97 + (l : Int))] 5)) = .ok (.string ⟨#[letB l]⟩) (w.alloc (Obj.cells #[Value.int IntKind.u8 (97 + (l : Int))] 5)) :=
    run_convert_bytes_back (P := Tryd.prog) _ 22 9 5 ⟨w.heap.size, 0, none⟩ 1 [letB l] Tryd.underlying22 Tryd.underlying5 Tryd.underlying9 (fun j hj => by
      obtain rfl : j = 0 := by simpa using hj
      rw [List.getElem_cons_zero, hb]
      simp [Addr.add])
  replace hb := hid hb
  go_enter Tryd.func35, Tryd.ntmps35
  go_wp2_with fail
  go_ret
  exact ⟨rfl, by (repeat (first | exact Below.refl _ _ | assumption | refine Below.drew ?_ | refine Below.alloc ?_ (by first | omega | (simp; done) | (simp; omega)) _ | refine Below.setCell ?_ (by first | omega | (simp; done) | (simp; omega)) _))⟩

set_option maxHeartbeats 1000000 in
theorem drawDeadlockOf_any (A : Option Addr) (n c : Nat) (w : World) (hn : n ≤ c) (hc : c ≤ 9223372036854775807) (hx : CodeAt w A n) :
    Calls Tryd.prog 31 #[.slice A n c] w (DrawSys w) := by
  replace hx := hid hx
  go_enter Tryd.func31, Tryd.ntmps31
  go_wp2_with fail
  refine (drawPartsAlphabet_any A n c w hn hc hx.out).mono ?_
  rintro e w1 ⟨ss, As, cs, rfl, a1, a2, a3, a4, hb1⟩
  replace a4 := hid a4
  go_wp2_with fail
  go_ret
  exact ⟨ss, As, cs, rfl, a1, a2, a3, a4.out, hb1⟩

/-- A word and a letter more. -/
def andL (v : ByteArray) (c : Nat) : ByteArray := v ++ ⟨#[letB c]⟩
end Go.Proofs.YtjhlbeamfngebaaDoor

/- The law FnDeadlockStill. -/
namespace Go.Proofs.YtjhlbeamfngebaaDoor
open Go.RowKit Go.BigFrame AG

set_option maxRecDepth 100000 in
set_option maxHeartbeats 8000000 in
theorem FnDeadlockStill_any (A : Option Addr) (n c : Nat) (w : World) (hn : n ≤ c) (hc : c ≤ 9223372036854775807) (hT : Tab w) (hx : CodeAt w A n) :
    Calls Tryd.prog 9 #[.slice A n c] w fun e w' => e = .returned (.bool true) ∧ Below w.heap.size w w' := by
  replace hx := hid hx
  replace hT := hid hT
  by_cases hbig : 1048576 < n
  · go_enter Tryd.func9, Tryd.ntmps9
    go_wp2
    go_ret
    exact ⟨rfl, Below.refl _ _⟩
  · go_enter Tryd.func9, Tryd.ntmps9
    go_wp2_with fail
    refine (drawDeadlockOf_any A n c w hn hc hx.out).mono ?_
    rintro e w1 ⟨ss, As, cs, rfl, a1, a2, a3, a4, hb1⟩
    have hT1 := hid (hT.out.later hb1)
    replace a4 := hid a4
    go_wp2_with fail
    refine (implDeadlockOf_any ss As cs w1 a1 a2 hT1.out a4.out).mono ?_
    rintro e w2 ⟨o, rfl, ho1, ho2, hb2⟩
    have hB2 := hb1.trans (hb2.mono hb1.size)
    have r2 := hid (a4.out.later hb2)
    have hT2 := hid (hT1.out.later hb2)
    obtain ⟨Sv, Fv, hpv, hFv, hSv⟩ : ∃ Sv Fv, pathV o = .tuple #[.string Sv, .bool Fv] ∧ Fv = o.isSome ∧ ∀ r, o = some r → Sv = wordS r := ⟨_, _, rfl, rfl, fun r h => by subst h; rfl⟩
    rw [hpv]
    replace hpv := hid hpv
    replace ho1 := hid ho1
    replace ho2 := hid ho2
    go_wp2_with fail
    refine (specDeadlockOf_any ss As cs w2 a1 a2 r2.out).mono ?_
    rintro e w3 ⟨o', rfl, ho3, ho4, hb3⟩
    obtain rfl : o = o' := dead_same ho1.out ho2.out ho3 ho4
    rw [hpv.out]
    clear ho3 ho4
    have hB3 := hB2.trans (hb3.mono hB2.size)
    have r3 := hid (r2.out.later hb3)
    have hT3 := hid (hT2.out.later hb3)
    cases o with
    | none =>
      obtain rfl : Fv = false := hFv
      replace hSv := hid hSv
      go_wp2_with fail
      go_ret
      exact ⟨rfl, hB3⟩
    | some r =>
      obtain rfl : Fv = true := hFv
      have hp : partsOk ss = true := by
        cases hp : partsOk ss
        · have := ho2.out hp; cases this
        · rfl
      have hdead := hid (ho1.out hp)
      have hlen : Sv.size ≤ 4096 := by rw [hSv r rfl, wordS_size]; have := (dead_trace hp hdead.out).2.1; omega
      have hstill := hid (fun (hd : ∀ s ∈ ss, detB s = true) k (hk : k < 6) => (show trParts ss (Sv ++ ⟨#[letB k]⟩) = false from by rw [hSv r rfl]; exact dead_still hp hdead.out hd hk))
      replace hSv := hid hSv
      replace hp := hid hp
      have hz3 := hB3.size
      go_wp2_with fail
      go_loopw [8] (fun iv wr => ∃ k : Nat, iv = .int .i64 k ∧ k ≤ ss.length ∧ (∀ j (h : j < ss.length), j < k → detB ss[j] = true) ∧ Below w3.heap.size w3 wr) (fun iv _ => ss.length - (intOf iv).toNat)
      case atStart => exact ⟨0, rfl, by omega, fun j _ h => by omega, Below.refl _ _⟩
      case round =>
        obtain ⟨k, rfl, hk, hdk, hb⟩ := hrel
        have hBr := hB3.trans (hb.mono hB3.size)
        by_cases hlt : k < ss.length
        · obtain ⟨b, o2, Ai, ci, hAe, hbb, c0, c1, c2, hAl, hAc, hEd⟩ := (r3.out.later hb).get hlt
          subst hAe
          have c0 := c0 wr (Below.refl _ _)
          have c1 := c1 wr (Below.refl _ _)
          have c2 := c2 wr (Below.refl _ _)
          have hTr := hid (hT3.out.later hb)
          have hnext := hid (fun (h : detB ss[k] = true) j (hj : j < ss.length) (hjk : j < k + 1) => (show detB ss[j] = true from by
            by_cases e : j = k
            · subst e; exact h
            · exact hdk j hj (by omega)))
          obtain ⟨s, hs⟩ : ∃ s, Hid (s = ss[k]) := ⟨_, hid rfl⟩
          rw [← hs.out] at c0 c1 c2 hAl hEd hnext
          have k1 : (0 : Int) ≤ (k : Int) ∧ (k : Int) < (ss.length : Int) := by omega
          replace hEd := hid hEd
          replace hdk := hid hdk
          go_wp2_with fail
          refine (implIsDeterministic_any s Ai ci wr hAl hAc hTr.out hEd.out).mono ?_
          rintro e w4 ⟨rfl, hb4⟩
          obtain ⟨t, ht⟩ : ∃ t, Hid (t = detB s) := ⟨_, hid rfl⟩
          rw [← ht.out] at hnext ⊢
          have hB4 := hBr.trans (hb4.mono hBr.size)
          have hb34 := hid (hb.trans (hb4.mono hb.size))
          clear c0 c1 c2
          cases t
          · clear hnext
            go_wp2_with fail
            go_ret
            exact ⟨rfl, hB4⟩
          · go_wp2_with fail
            go_roundw
            case rel => exact ⟨k + 1, by go_num, by omega, hnext.out trivial, hb34.out⟩
            case measure => simp [intOf]; omega
        · have hall := hid (fun k hk => hstill.out (fun s hs => by
            obtain ⟨j, hj, rfl⟩ := List.getElem_of_mem hs
            exact hdk j hj (by omega)) k hk)
          have hTr := hid (hT3.out.later hb)
          have rr := hid (r3.out.later hb)
          replace hb := hid hb
          replace hdk := hid hdk
          go_wp2_with fail
          go_loopw [9] (fun iv wt => ∃ p : Nat, iv = .int .i64 p ∧ p ≤ 6 ∧ Below wr.heap.size wr wt) (fun iv _ => 6 - (intOf iv).toNat)
          case atStart => exact ⟨0, rfl, by omega, Below.refl _ _⟩
          case round =>
            obtain ⟨p, rfl, hp6, hbt⟩ := hrel
            have hBt := hBr.trans (hbt.mono hBr.size)
            by_cases hpl : p < 6
            · have rt := hid (rr.out.later hbt)
              have hTt := hid (hTr.out.later hbt)
              have hno := hid (hall.out p hpl)
              replace hbt := hid hbt
              go_wp2_with fail
              refine (agLetter_any p hpl _).mono ?_
              rintro e w5 ⟨rfl, hb5⟩
              have hB5 := hBt.trans (hb5.mono hBt.size)
              have r5 := hid (rt.out.later hb5)
              have hT5 := hid (hTt.out.later hb5)
              have hbt5 := hid (hbt.out.trans (hb5.mono hbt.out.size))
              have hsz1 : ¬ (9223372036854775807 < Sv.size + 1) := by omega
              go_wp2_with fail
              refine (implTraceOfParts_any ss _ cs _ _ (by rw [ByteArray.size_append]; show Sv.size + 1 ≤ _; omega) a1 a2 hT5.out r5.out).mono ?_
              rintro e w6 ⟨rfl, hb6⟩
              rw [hno.out]
              have hbt6 := hid (hbt5.out.trans (hb6.mono hbt5.out.size))
              go_wp2_with fail
              go_roundw
              case rel => exact ⟨p + 1, by go_num, by omega, hbt6.out⟩
              case measure => simp [intOf]; omega
            · go_wp2_with fail
              go_ret
              exact ⟨rfl, hBt⟩

end Go.Proofs.YtjhlbeamfngebaaDoor

/- The law FnDeadlockOf. Printed by tools/gen_w62.py. -/
namespace Go.Proofs.YtjhlbeamfngebaaDoor
open Go.RowKit Go.BigFrame AG

theorem wAt_mem0 {L : List Nat} {i : Nat} (h : 0 < L.length ∨ i = 0) : ∀ l ∈ wAt L i, l ∈ L := by
  rcases h with h | rfl
  · exact wAt_mem h i
  · rw [wAt_zero]; exact fun l hl => by cases hl

set_option maxRecDepth 100000 in
set_option maxHeartbeats 16000000 in
theorem FnDeadlockOf_any (A : Option Addr) (n c : Nat) (w : World) (hn : n ≤ c) (hc : c ≤ 9223372036854775807) (hT : Tab w) (hx : CodeAt w A n) :
    Calls Tryd.prog 7 #[.slice A n c] w fun e w' => e = .returned (.bool true) ∧ Below w.heap.size w w' := by
  replace hx := hid hx
  replace hT := hid hT
  by_cases hbig : 1048576 < n
  · go_enter Tryd.func7, Tryd.ntmps7
    go_wp2
    go_ret
    exact ⟨rfl, Below.refl _ _⟩
  · go_enter Tryd.func7, Tryd.ntmps7
    go_wp2_with fail
    refine (drawDeadlockOf_any A n c w hn hc hx.out).mono ?_
    rintro e w1 ⟨ss, As, cs, rfl, a1, a2, a3, a4, hb1⟩
    have hT1 := hid (hT.out.later hb1)
    replace a4 := hid a4
    go_wp2_with fail
    refine (implDeadlockOf_any ss As cs w1 a1 a2 hT1.out a4.out).mono ?_
    rintro e w2 ⟨o, rfl, ho1, ho2, hb2⟩
    have hB2 := hb1.trans (hb2.mono hb1.size)
    have r2 := hid (a4.out.later hb2)
    have hT2 := hid (hT1.out.later hb2)
    obtain ⟨Sv, Fv, hpv, hFv, hSv, hS0⟩ : ∃ Sv Fv, pathV o = .tuple #[.string Sv, .bool Fv] ∧ Fv = o.isSome ∧ (∀ r, o = some r → Sv = wordS r) ∧ (o = none → Sv = ⟨#[]⟩) := ⟨_, _, rfl, rfl, fun r h => by subst h; rfl, fun h => by subst h; rfl⟩
    rw [hpv]
    replace hpv := hid hpv
    replace ho1 := hid ho1
    replace ho2 := hid ho2
    replace hSv := hid hSv
    replace hS0 := hid hS0
    go_wp2_with fail
    refine (specDeadlockOf_any ss As cs w2 a1 a2 r2.out).mono ?_
    rintro e w3 ⟨o', rfl, ho3, ho4, hb3⟩
    obtain rfl : o = o' := dead_same ho1.out ho2.out ho3 ho4
    rw [hpv.out]
    clear ho3 ho4
    have hB3 := hB2.trans (hb3.mono hB2.size)
    have r3 := hid (r2.out.later hb3)
    have hT3 := hid (hT2.out.later hb3)
    have hz3 := hB3.size
    cases hp : partsOk ss
    · have ho := ho2.out hp
      subst ho
      obtain rfl : Fv = false := hFv
      have hpa : Hid (partsAl ss = -1) := hid (by unfold partsAl; rw [hp]; rfl)
      replace hp := hid hp
      go_wp2_with fail
      refine (implPartsAlphabet_any ss As cs w3 a1 a2 r3.out).mono ?_
      rintro e w4 ⟨rfl, hb4⟩
      rw [hpa.out]
      have hB4 := hB3.trans (hb4.mono hB3.size)
      go_wp2_with fail
      go_ret
      exact ⟨rfl, hB4⟩
    · obtain ⟨al, hal0⟩ : ∃ al, Hid (al = allAl ss) := ⟨_, hid rfl⟩
      have hpa : Hid (partsAl ss = al) := hid (by unfold partsAl; rw [hp, hal0.out]; rfl)
      have hal : Hid (alphaOk al = true) := hid (by rw [hal0.out]; exact allAl_ok (partsOk_all hp))
      have hdead := hid (ho1.out hp)
      have hran := allAl_range ss (partsOk_all hp)
      rw [← hal0.out] at hran
      have hp' := hid hp
      clear hp
      cases o with
      | some r =>
        obtain rfl : Fv = true := hFv
        have hlen : Sv.size ≤ 4096 := by rw [hSv.out r rfl, wordS_size]; have := (dead_trace hp'.out hdead.out).2.1; omega
        have htr : Hid (trParts ss Sv = true) := hid (by rw [hSv.out r rfl]; exact (dead_trace hp'.out hdead.out).1)
        go_wp2_with fail
        refine (implPartsAlphabet_any ss As cs w3 a1 a2 r3.out).mono ?_
        rintro e w4 ⟨rfl, hb4⟩
        rw [hpa.out]
        have hB4 := hB3.trans (hb4.mono hB3.size)
        have r4 := hid (r3.out.later hb4)
        have hT4 := hid (hT3.out.later hb4)
        go_wp2_with fail
        refine (implTraceOfParts_any ss As cs Sv w4 (by omega) a1 a2 hT4.out r4.out).mono ?_
        rintro e w5 ⟨rfl, hb5⟩
        rw [htr.out]
        have hB5 := hB4.trans (hb5.mono hB4.size)
        go_wp2_with fail
        go_ret
        exact ⟨rfl, hB5⟩
      | none =>
        obtain rfl : Fv = false := hFv
        have hS00 := hS0.out rfl
        subst hS00
        go_wp2_with fail
        refine (implPartsAlphabet_any ss As cs w3 a1 a2 r3.out).mono ?_
        rintro e w0 ⟨rfl, hb0⟩
        rw [hpa.out]
        have hB3' := hB3.trans (hb0.mono hB3.size)
        have r3' := hid (r3.out.later hb0)
        have hT3' := hid (hT3.out.later hb0)
        clear hB3 r3 hT3 hz3
        have hB3 := hB3'
        have r3 := hid r3'.out
        have hT3 := hid hT3'.out
        clear hB3' r3' hT3' hb3 hb0
        obtain ⟨w3, rfl⟩ : ∃ w3 : World, w3 = w0 := ⟨_, rfl⟩
        go_wp2_with fail
        go_loopw [8] (fun iv wr => ∃ i : Nat, iv = .int .i64 (i : Nat) ∧ i ≤ 40 ∧ Below w3.heap.size w3 wr) (fun iv _ => 40 - (intOf iv).toNat)
        case atStart => exact ⟨0, rfl, by omega, Below.refl _ _⟩
        case round =>
          obtain ⟨i, rfl, hi, hb⟩ := hrel
          obtain ⟨wo, rfl⟩ : ∃ wo : World, wo = wr := ⟨_, rfl⟩
          have hBr := hB3.trans (hb.mono hB3.size)
          by_cases hlt : i < 40
          · have rr := hid (r3.out.later hb)
            have hTr := hid (hT3.out.later hb)
            replace hb := hid hb
            go_wp2_with fail
            refine (implPartsAlphabet_any ss As cs wo a1 a2 rr.out).mono ?_
            rintro e w4 ⟨rfl, hb4⟩
            rw [hpa.out]
            have hB4 := hBr.trans (hb4.mono hBr.size)
            have hb34 := hid (hb.out.trans (hb4.mono hb.out.size))
            have r4 := hid (rr.out.later hb4)
            have hT4 := hid (hTr.out.later hb4)
            go_wp2_with fail
            refine (implWordAt_any i al w4 hal.out (by omega)).mono ?_
            rintro e w5 ⟨hwa, hb5⟩
            have hB5 := hB4.trans (hb5.mono hB4.size)
            have hb35 := hid (hb34.out.trans (hb5.mono hb34.out.size))
            have r5 := hid (r4.out.later hb5)
            have hT5 := hid (hT4.out.later hb5)
            rcases hwa with ⟨rfl, hl0, hl7⟩ | rfl
            · obtain ⟨q, hq⟩ : ∃ q, Hid (q = wAt (letters al) i) := ⟨_, hid rfl⟩
              have hqm : Hid (∀ l ∈ q, l ∈ letters al) := hid (by rw [hq.out]; exact wAt_mem0 hl0)
              rw [← hq.out] at hl7 ⊢
              replace hl0 := hid hl0
              obtain ⟨v, hv⟩ : ∃ v, Hid (v = wordS q) := ⟨_, hid rfl⟩
              have hvz : v.size ≤ 7 := by rw [hv.out, wordS_size]; exact hl7
              rw [← hv.out]
              go_wp2_with fail
              refine (implTraceOfParts_any ss As cs v w5 (by omega) a1 a2 hT5.out r5.out).mono ?_
              rintro e w6 ⟨rfl, hb6⟩
              have hB6 := hB5.trans (hb6.mono hB5.size)
              have hb36 := hid (hb35.out.trans (hb6.mono hb35.out.size))
              have r6 := hid (r5.out.later hb6)
              have hT6 := hid (hT5.out.later hb6)
              obtain ⟨t, ht⟩ : ∃ t, Hid (t = trParts ss v) := ⟨_, hid rfl⟩
              rw [← ht.out]
              cases t
              · go_wp2_with fail
                go_roundw
                case rel => exact ⟨i + 1, by go_num, by omega, hb36.out⟩
                case measure => simp [intOf]; omega
              · have hgo : Hid (∃ c, c < 6 ∧ trParts ss (andL v c) = true) := hid (by
                  obtain ⟨c6, h1, h2⟩ := none_goes_on hdead.out ht.out.symm (by omega)
                  exact ⟨c6, h1, h2⟩
                )
                go_wp2_with fail
                go_loopw [11, 12] (fun sv cv wt => ∃ p : Nat, cv = .int .i64 (p : Nat) ∧ p ≤ 6 ∧ sv = .bool ((List.range p).any fun c => trParts ss (andL v c)) ∧ Below w6.heap.size w6 wt) (fun _ cv _ => 6 - (intOf cv).toNat)
                case atStart => exact ⟨0, rfl, by omega, rfl, Below.refl _ _⟩
                case round =>
                  obtain ⟨p, rfl, hp6, rfl, hbt⟩ := hrel
                  have hBt := hB6.trans (hbt.mono hB6.size)
                  have hb3t := hid (hb36.out.trans (hbt.mono hb36.out.size))
                  have hrg : Hid ((List.range (p + 1)).any (fun c => trParts ss (andL v c)) = ((List.range p).any (fun c => trParts ss (andL v c)) || trParts ss (andL v p))) := hid (by rw [List.range_succ, List.any_append]; simp)
                  obtain ⟨sm, hsm⟩ : ∃ sm, Hid (sm = (List.range p).any fun c => trParts ss (andL v c)) := ⟨_, hid rfl⟩
                  rw [← hsm.out] at hrg ⊢
                  by_cases hpl : p < 6
                  · cases sm
                    · have rt := hid (r6.out.later hbt)
                      have hTt := hid (hT6.out.later hbt)
                      replace hbt := hid hbt
                      go_wp2_with fail
                      refine (agLetter_any p hpl _).mono ?_
                      rintro e w8 ⟨rfl, hb8⟩
                      have hB8 := hBt.trans (hb8.mono hBt.size)
                      have r8 := hid (rt.out.later hb8)
                      have hT8 := hid (hTt.out.later hb8)
                      have hbt8 := hid (hbt.out.trans (hb8.mono hbt.out.size))
                      have hsz1 : ¬ (9223372036854775807 < v.size + 1) := by omega
                      go_wp2_with fail
                      refine (implTraceOfParts_any ss _ cs _ _ (by rw [ByteArray.size_append]; show v.size + 1 ≤ _; omega) a1 a2 hT8.out r8.out).mono ?_
                      rintro e w9 ⟨rfl, hb9⟩
                      have hbt9 := hid (hbt8.out.trans (hb9.mono hbt8.out.size))
                      obtain ⟨t2, ht2⟩ : ∃ t2, Hid (t2 = trParts ss (andL v p)) := ⟨_, hid rfl⟩
                      have ht2' : trParts ss (v ++ ⟨#[letB p]⟩) = t2 := ht2.out.symm
                      rw [ht2']
                      rw [← ht2.out, Bool.false_or] at hrg
                      clear ht2'
                      go_wp2_with fail
                      go_roundw
                      case rel => exact ⟨p + 1, by go_num, by omega, by rw [hrg.out], hbt9.out⟩
                      case measure => simp [intOf]; omega
                    · rw [Bool.true_or] at hrg
                      go_wp2_with fail
                      go_roundw
                      case rel => exact ⟨p + 1, by go_num, by omega, by rw [hrg.out], hbt⟩
                      case measure => simp [intOf]; omega
                  · obtain rfl : sm = true := by
                      obtain ⟨c6, hc6, htr⟩ := hgo.out
                      rw [hsm.out, List.any_eq_true]
                      exact ⟨c6, List.mem_range.2 (by omega), htr⟩
                    go_wp2_with fail
                    go_roundw
                    case rel => exact ⟨i + 1, by go_num, by omega, hb3t.out⟩
                    case measure => simp [intOf]; omega
            · go_wp2_with fail
              go_roundw
              case rel => exact ⟨i + 1, by go_num, by omega, hb35.out⟩
              case measure => simp [intOf]; omega
          · go_wp2_with fail
            go_ret
            exact ⟨rfl, hBr⟩

end Go.Proofs.YtjhlbeamfngebaaDoor
