/- Lemmas, part 11: several texts in one. -/
import Derived.Test.YtkoganldcmhopaaDoorK2
import Derived.Test.YtkoganldcmhopaaDoorK4
import Derived.Test.YtkoganldcmhopaaDoorK5
import Derived.Test.YtkoganldcmhopaaDoorK10
set_option linter.unusedSimpArgs false
set_option linter.unusedVariables false

/- The program's WordAt. -/
namespace Go.Proofs.YtkoganldcmhopaaDoor
open Go.RowKit Go.BigFrame AG

set_option maxRecDepth 100000 in
set_option maxHeartbeats 1000000 in
theorem reverseNone_any (w : World) :
    Calls Tryd.prog 73 #[.slice none 0 0] w fun e w' => e = .returned (.tuple #[]) ∧ Below w.heap.size w w' := by
  go_enter Tryd.func73, Tryd.ntmps73
  go_wp2_with fail
  go_loopw [2, 3] (fun iv jv wr => iv = .int .i64 0 ∧ jv = .int .i64 (-1) ∧ Below w.heap.size w wr) (fun _ _ _ => 0)
  case atStart => exact ⟨rfl, rfl, Below.refl _ _⟩
  case round =>
    obtain ⟨rfl, rfl, hb⟩ := hrel
    go_wp2
    go_end0
    exact ⟨rfl, hb⟩

/-- WordAt: the word at a place, or no answer. -/
def WordAtPost (n : Nat) (L : List Nat) (w : World) (e : Ending) (w' : World) : Prop :=
  (e = .returned (.tuple #[.string (wordS (wAt L n)), .bool true]) ∧ (0 < L.length ∨ n = 0) ∧ (wAt L n).length ≤ 7 ∨ e = .returned (.tuple #[.string ⟨#[]⟩, .bool false])) ∧ Below w.heap.size w w'

set_option maxRecDepth 100000 in
set_option maxHeartbeats 4000000 in
theorem implWordAt_any (n : Nat) (al : Int) (w : World) (hal : alphaOk al = true) (hn : n ≤ 100000) :
    Calls Tryd.prog 24 #[.int .i64 n, .int .i64 al] w (WordAtPost n (letters al) w) := by
  obtain ⟨i0, hi, hz0, hz1, hz2⟩ := info_parts infoByte
  replace hal := hid hal
  go_enter Tryd.func24, Tryd.ntmps24
  go_wp2_with (go_at_call 71; refine (isAlphabet_any al _).mono ?_; rintro e w' ⟨rfl, rfl⟩; rw [hal.out])
  refine (lettersOf_any al w).mono ?_
  rintro e w1 ⟨lv, rfl, hown, hb1⟩
  obtain ⟨ls, hls⟩ : ∃ ls, Hid (ls = letters al) := ⟨_, hid rfl⟩
  rw [← hls.out] at hown
  have hl6 : ls.length ≤ 6 := by rw [hls.out]; exact lettersTo_len al 6
  obtain ⟨Al, cl, hvl, hcl, hcl'⟩ := own_slice hown
  subst hvl
  replace hown := hid hown
  have hz1' := hb1.size
  go_wp2_with fail
  go_loopw [0, 7] (fun nv v wr => ∃ (k : Nat) (o : List Nat), nv = .int .i64 k ∧ k ≤ n ∧ o.length ≤ 7 ∧ o ++ wAt ls k = wAt ls n ∧ (∀ l ∈ o, l < 6) ∧ (0 < ls.length ∨ k = n) ∧ (o = [] → v = .slice none 0 0) ∧ wr.ownsRow w1.heap.size 5 1 v o.length (bytesOf o) ∧ Below w1.heap.size w1 wr) (fun nv _ _ => (intOf nv).toNat)
  case atStart => exact ⟨n, [], rfl, Nat.le_refl _, by simp, rfl, (fun l hl => by cases hl), .inr rfl, fun _ => rfl, World.ownsRow_nil _ _ _ _, Below.refl _ _⟩
  case round =>
    obtain ⟨k, o, rfl, hkn, ho7, hoo, ho6, hL, hnil, hob, hb⟩ := hrel
    have hbb := hid (hb1.trans (hb.mono hz1'))
    have hown2 := hid (own_later hown.out hb)
    have hzr := hb.size
    replace ho6 := hid ho6
    replace hL := hid hL
    by_cases hk : 0 < k
    · obtain ⟨p, rfl⟩ : ∃ p, k = p + 1 := ⟨k - 1, by omega⟩
      have hk' : (0 : Int) < ((p + 1 : Nat) : Int) := by omega
      obtain ⟨Ao, co, hvo, hco, hco'⟩ := own_slice hob
      subst hvo
      by_cases hl0 : ls.length = 0
      · have hl0' : ((ls.length : Int) == 0) = true := by simpa using hl0
        replace hob := hid hob
        replace hoo := hid hoo
        replace hnil := hid hnil
        replace hl0 := hid hl0
        go_wp2_with fail
        go_ret2
        exact ⟨.inr rfl, hbb.out⟩
      · have hl0' : ((ls.length : Int) == 0) = false := by rw [beq_eq_false_iff_ne]; omega
        by_cases ho : o.length = 7
        · have ho' : ((o.length : Int) == 7) = true := by rw [beq_iff_eq]; omega
          replace hob := hid hob
          replace hoo := hid hoo
          replace hnil := hid hnil
          replace ho := hid ho
          go_wp2_with fail
          go_ret2
          exact ⟨.inr rfl, hbb.out⟩
        · have ho' : ((o.length : Int) == 7) = false := by rw [beq_eq_false_iff_ne]; omega
          have hlp : 0 < ls.length := by omega
          obtain ⟨d, hd⟩ : ∃ d, d = p % ls.length := ⟨_, rfl⟩
          obtain ⟨q, hq⟩ : ∃ q, q = p / ls.length := ⟨_, rfl⟩
          have hdl : d < ls.length := by rw [hd]; exact Nat.mod_lt _ hlp
          have hqp : q ≤ p := by rw [hq]; exact Nat.div_le_self _ _
          have e1 : (((p + 1 : Nat) : Int) - 1) = (p : Int) := by omega
          have e2 : Int.tmod (p : Int) (ls.length : Int) = (d : Int) := by rw [hd]; exact tmod_nat p ls.length
          have e3 : Int.tdiv (p : Int) (ls.length : Int) = (q : Int) := by rw [hq]; exact tdiv_nat p ls.length
          obtain ⟨g, cap, hve, hg1, hg2, -, -, hLs⟩ := own_nats hown2.out (by omega)
          cases hve
          have l0 := hLs d hdl
          obtain ⟨l, hl⟩ : ∃ l : Nat, l = ls[d] := ⟨_, rfl⟩
          have hlt6 : l < 6 := by
            have := letters_lt (A := al) (l := l) (by rw [← hls.out, hl]; exact List.getElem_mem _)
            exact this.1
          rw [← hl] at l0
          have i1 : (0 : Int) ≤ (d : Int) ∧ (d : Int) < (ls.length : Int) := by omega
          have hoo2 : Hid ((o ++ [l]) ++ wAt ls q = wAt ls n) := hid (by
            rw [← hoo, wAt_succ, ← hd, ← hq, List.getD_eq_getElem?_getD, List.getElem?_eq_getElem hdl, hl]
            simp)
          have hlen : o.length < 7 := by omega
          replace hl := hid hl
          replace hLs := hid hLs
          replace hd := hid hd
          replace hq := hid hq
          replace hoo := hid hoo
          replace hnil := hid hnil
          replace ho := hid ho
          replace hl0 := hid hl0
          go_wp2_with (first
            | (go_at_call 72; refine (letterByte_any l hlt6 _).mono ?_; rintro e w' ⟨rfl, rfl⟩)
            | (at_builtin; refine wpList_append_own _ rfl _ _ 22 rfl w1.heap.size 5 i0 (.int .u8 0) 1 1 Tryd.underlying22 hi hz0 hz1 hz2 rfl (by decide) _ _ _ rfl (hob.alloc _) ⟨wr.heap.size, 0, none⟩ 1 1 [.int .u8 (97 + l : Nat)] rfl rfl (cell_one_new _ _ _) (by intro u hu; simp at hu; subst hu; rfl) (by unfold maxLen; omega) (by omega) (by simp; omega) ?_; intro v' w9 hown' hgrow hnil'; have hB9 := hid (Below.grown (hb.alloc hzr _) hgrow (by simp; omega) (own_block hob))))
          have hO9 : Hid (w9.ownsRow w1.heap.size 5 1 v' (o ++ [l]).length (bytesOf (o ++ [l]))) := hid (by
            unfold bytesOf at hown' ⊢
            rw [List.length_append, List.map_append]
            exact hown')
          clear hown' hgrow hob hb hnil'
          go_roundw
          case rel => exact ⟨q, o ++ [l], rfl, by omega, by rw [List.length_append]; simp; omega, hoo2.out, (fun x hx => by rcases List.mem_append.1 hx with h | h; exact ho6.out x h; rw [List.mem_singleton.1 h]; exact hlt6), .inl hlp, (fun e => by simp at e), hO9.out, hB9.out⟩
          case measure => simp [intOf]; omega
    · obtain rfl : k = 0 := by omega
      rw [wAt_zero, List.append_nil] at hoo
      have hLL : 0 < (letters al).length ∨ n = 0 := by
        rw [← hls.out]
        rcases hL.out with h | h
        · exact .inl h
        · exact .inr h.symm
      have hfin : Hid ((wAt (letters al) n).length ≤ 7) := hid (by rw [← hls.out, ← hoo]; exact ho7)
      have hww : Hid (wordS (wAt (letters al) n) = wordS o) := hid (by rw [← hls.out, ← hoo])
      replace hLL := hid hLL
      replace hk := hid hk
      replace hoo := hid hoo
      by_cases hoe : o = []
      · have hv := hnil hoe
        subst hv
        subst hoe
        replace hob := hid hob
        replace hnil := hid hnil
        go_wp2_with fail
        refine (reverseNone_any wr).mono ?_
        rintro e w2 ⟨rfl, hb2⟩
        have hB2 := hid (hbb.out.trans (hb2.mono hbb.out.size))
        have kc : (convert 22 9 (.slice none 0 0)).run Tryd.prog w2 = .ok (.string ⟨#[]⟩) w2 := conv_own (l := []) (World.ownsRow_nil w2 0 _ _)
        go_wp2
        go_ret2
        exact ⟨.inl ⟨by rw [hww.out]; rfl, hLL.out, hfin.out⟩, hB2.out⟩
      · have hpos : 0 < o.length := List.length_pos_iff.2 hoe
        obtain ⟨gb, cap, cur, rfl, hgb, hcap, hcap', hblk, hsz, hcur⟩ := own_blk hob hpos
        have hblk' := hid hblk
        have hcs : Hid (∀ i (h : i < (o.map (97 + ·)).length), cur[i]? = some (.int .u8 ((o.map (97 + ·))[i] : Nat))) := hid fun i h => by
          have hi : i < o.length := by simpa using h
          rw [hcur i (by unfold bytesOf; simpa using hi)]
          unfold bytesOf
          simp
        replace hcur := hid hcur
        replace hblk := hid hblk
        replace hob := hid hob
        replace hnil := hid hnil
        replace hoe := hid hoe
        go_wp2_with fail
        refine (reverseBytes_any gb o.length cap (o.map (97 + ·)) cur wr (by simp) hcap hcap' hblk'.out hsz hcs.out).mono ?_
        rintro e w2 ⟨rfl, hg2, cs2, hblk2, hsz2, hcs2⟩
        have hBr : Below w1.heap.size w1 w2 := hb.grown hg2 hb.size (fun k hk => by cases hk; exact hgb)
        have hB2 := hid (hb1.trans (hBr.mono hz1'))
        have kc : (convert 22 9 (.slice (some ⟨gb, 0, none⟩) o.length cap)).run Tryd.prog w2 = .ok (.string (wordS o)) w2 := by
          have := run_convert_bytes_back (P := Tryd.prog) w2 22 9 5 ⟨gb, 0, none⟩ cap (o.reverse.map letB) Tryd.underlying22 Tryd.underlying5 Tryd.underlying9 (fun j hj => by
            have hj' : j < o.length := by simpa using hj
            have e1 := hcs2 j (by simpa using hj')
            have hadd : (⟨gb, 0, none⟩ : Addr).add j = ⟨gb, j, none⟩ := by unfold Addr.add; split <;> simp_all
            rw [hadd, hblk2.cell, e1]
            have h6' : o.reverse[j]'(by simpa using hj') < 6 := ho6.out _ (List.mem_reverse.1 (List.getElem_mem _))
            simp only [List.getElem_map, List.map_reverse, List.getElem_reverse] at h6' ⊢
            unfold letB
            rw [UInt8.toNat_ofNat']
            have := h6'
            simp only [List.length_map] at *
            rw [Nat.mod_eq_of_lt (by omega)])
          simpa [wordS] using this
        replace hcs2 := hid hcs2
        replace hblk2 := hid hblk2
        replace hg2 := hid hg2
        clear hb hBr
        go_wp2
        go_ret2
        exact ⟨.inl ⟨by rw [hww.out]; rfl, hLL.out, hfin.out⟩, hB2.out⟩

end Go.Proofs.YtkoganldcmhopaaDoor

/- The law FnSystemOf. -/
namespace Go.Proofs.YtkoganldcmhopaaDoor
open Go.RowKit Go.BigFrame Go.Maps AG


set_option maxRecDepth 100000 in
set_option maxHeartbeats 16000000 in
theorem FnSystemOf_any (A : Option Addr) (n c : Nat) (w : World) (hn : n ≤ c) (hc : c ≤ 9223372036854775807) (hT : Tab w) (hx : CodeAt w A n) :
    Calls Tryd.prog 4 #[.slice A n c] w fun e w' => e = .returned (.bool true) ∧ Below w.heap.size w w' := by
  replace hT := hid hT
  replace hx := hid hx
  by_cases hlen : 1048576 < n
  · have hgt : (1048576 : Int) < (n : Int) := by omega
    go_enter Tryd.func4, Tryd.ntmps4
    go_wp2
    go_ret
    exact ⟨rfl, Below.refl _ _⟩
  have hgt : ¬ ((1048576 : Int) < (n : Int)) := by omega
  go_enter Tryd.func4, Tryd.ntmps4
  go_wp2_with fail
  have BW_w : Below w.heap.size w w := Below.refl _ _
  refine (drawSystemOf_any A n c w hn hc hx.out).mono ?_
  rintro e w1 ⟨a, Aa, Ba, ca, da, xsa, rfl, hsza, hau, hb_w1⟩
  unfold AG.Au.val
  have BW_w1 := BW_w.trans (hb_w1.mono BW_w.size)
  have ta := hau.at_
  obtain ⟨_, _, _, _, e1, e2, ta⟩ := ta
  cases e1
  cases e2
  replace ta := hid ta
  clear hau
  replace hsza := hid hsza
  have BTa_w1 : Below w1.heap.size w1 w1 := Below.refl _ _
  go_upto_region 4 with fail
  obtain ⟨w2, hw_w2, hz_w2, hb_w2, hS_w2⟩ := boxed w1 #[.int .i64 a.al, .slice Aa a.nx.length ca, .slice Ba a.ac.length da] 26
  rw [hw_w2]
  clear hw_w2
  have ha0 := fun w' (hb : Below w2.heap.size w2 w') => hS_w2 0 _ rfl w' (hb.mono hz_w2)
  have ha1 := fun w' (hb : Below w2.heap.size w2 w') => hS_w2 1 _ rfl w' (hb.mono hz_w2)
  have ha2 := fun w' (hb : Below w2.heap.size w2 w') => hS_w2 2 _ rfl w' (hb.mono hz_w2)
  replace ha0 := hid ha0
  replace ha1 := hid ha1
  replace ha2 := hid ha2
  clear hS_w2
  have BW_w2 := BW_w1.trans (hb_w2.mono BW_w1.size)
  have BTa_w2 := BTa_w1.trans (hb_w2.mono BTa_w1.size)
  have Ba_w2 : Below w2.heap.size w2 w2 := Below.refl _ _
  obtain ⟨S, hS1⟩ : ∃ S, Hid (S = soS a) := ⟨_, hid rfl⟩
  obtain ⟨ok, hok⟩ : ∃ ok, Hid (ok = soOk a) := ⟨_, hid rfl⟩
  have pa0 := ha0.out _ Ba_w2
  have pa1 := ha1.out _ Ba_w2
  have pa2 := ha2.out _ Ba_w2
  go_wp2_with fail
  have hc_s := hid (implSystemOf_any a Aa Ba ca da w2 (hT.out.later BW_w2) (ta.out.later BTa_w2))
  rw [← hS1.out, ← hok.out] at hc_s
  refine hc_s.out.mono ?_
  clear hc_s
  clear pa0 pa1 pa2
  rintro e w3 hpost
  replace hpost := SoOwn.read hpost
  obtain ⟨As, cs, rfl, ls1, ls2, es3, -, hb_w3⟩ := hpost
  unfold Sy.val
  have BW_w3 := BW_w2.trans (hb_w3.mono BW_w2.size)
  have BTa_w3 := BTa_w2.trans (hb_w3.mono BTa_w2.size)
  have Ba_w3 := Ba_w2.trans (hb_w3.mono Ba_w2.size)
  have es := hid es3
  have BEs_w3 : Below w3.heap.size w3 w3 := Below.refl _ _
  clear es3
  go_upto_region 5 with fail
  obtain ⟨w4, hw_w4, hz_w4, hb_w4, hS_w4⟩ := boxed w3 #[.int .i64 S.al, .int .i64 S.st, .slice As S.es.length cs] 30
  rw [hw_w4]
  clear hw_w4
  have hs0 := fun w' (hb : Below w4.heap.size w4 w') => hS_w4 0 _ rfl w' (hb.mono hz_w4)
  have hs1 := fun w' (hb : Below w4.heap.size w4 w') => hS_w4 1 _ rfl w' (hb.mono hz_w4)
  have hs2 := fun w' (hb : Below w4.heap.size w4 w') => hS_w4 2 _ rfl w' (hb.mono hz_w4)
  replace hs0 := hid hs0
  replace hs1 := hid hs1
  replace hs2 := hid hs2
  clear hS_w4
  have BW_w4 := BW_w3.trans (hb_w4.mono BW_w3.size)
  have BTa_w4 := BTa_w3.trans (hb_w4.mono BTa_w3.size)
  have Ba_w4 := Ba_w3.trans (hb_w4.mono Ba_w3.size)
  have BEs_w4 := BEs_w3.trans (hb_w4.mono BEs_w3.size)
  have Bs_w4 : Below w4.heap.size w4 w4 := Below.refl _ _
  have pa0 := ha0.out _ Ba_w4
  have pa1 := ha1.out _ Ba_w4
  have pa2 := ha2.out _ Ba_w4
  go_wp2_with fail
  have hc_t := hid (specSystemOf_any a Aa Ba ca da w4 (ta.out.later BTa_w4))
  rw [← hS1.out, ← hok.out] at hc_t
  refine hc_t.out.mono ?_
  clear hc_t
  clear pa0 pa1 pa2
  rintro e w5 hpost
  obtain ⟨At, ct, rfl, lt1, lt2, et3, -, hb_w5⟩ := hpost
  unfold Sy.val
  have BW_w5 := BW_w4.trans (hb_w5.mono BW_w4.size)
  have BTa_w5 := BTa_w4.trans (hb_w5.mono BTa_w4.size)
  have Ba_w5 := Ba_w4.trans (hb_w5.mono Ba_w4.size)
  have BEs_w5 := BEs_w4.trans (hb_w5.mono BEs_w4.size)
  have Bs_w5 := Bs_w4.trans (hb_w5.mono Bs_w4.size)
  have et := hid et3
  have BEt_w5 : Below w5.heap.size w5 w5 := Below.refl _ _
  clear et3
  go_upto_region 6 with fail
  obtain ⟨w6, hw_w6, hz_w6, hb_w6, hS_w6⟩ := boxed w5 #[.int .i64 S.al, .int .i64 S.st, .slice At S.es.length ct] 30
  rw [hw_w6]
  clear hw_w6
  have ht0 := fun w' (hb : Below w6.heap.size w6 w') => hS_w6 0 _ rfl w' (hb.mono hz_w6)
  have ht1 := fun w' (hb : Below w6.heap.size w6 w') => hS_w6 1 _ rfl w' (hb.mono hz_w6)
  have ht2 := fun w' (hb : Below w6.heap.size w6 w') => hS_w6 2 _ rfl w' (hb.mono hz_w6)
  replace ht0 := hid ht0
  replace ht1 := hid ht1
  replace ht2 := hid ht2
  clear hS_w6
  have BW_w6 := BW_w5.trans (hb_w6.mono BW_w5.size)
  have BTa_w6 := BTa_w5.trans (hb_w6.mono BTa_w5.size)
  have Ba_w6 := Ba_w5.trans (hb_w6.mono Ba_w5.size)
  have BEs_w6 := BEs_w5.trans (hb_w6.mono BEs_w5.size)
  have Bs_w6 := Bs_w5.trans (hb_w6.mono Bs_w5.size)
  have BEt_w6 := BEt_w5.trans (hb_w6.mono BEt_w5.size)
  have Bt_w6 : Below w6.heap.size w6 w6 := Below.refl _ _
  have hoo : (ok != ok) = false := by simp
  have hoe : (ok == ok) = true := by simp
  have ps0 := hs0.out _ Bs_w6
  have ps1 := hs1.out _ Bs_w6
  have ps2 := hs2.out _ Bs_w6
  have pt0 := ht0.out _ Bt_w6
  have pt1 := ht1.out _ Bt_w6
  have pt2 := ht2.out _ Bt_w6
  go_wp2_with fail
  refine (agSystems_same S As At cs ct w6 ls1 ls2 lt1 lt2 (es.out.later BEs_w6) (et.out.later BEt_w6)).mono ?_
  clear ps0 ps1 ps2 pt0 pt1 pt2
  rintro e w7 ⟨rfl, hb_w7⟩
  have BW_w7 := BW_w6.trans (hb_w7.mono BW_w6.size)
  have BTa_w7 := BTa_w6.trans (hb_w7.mono BTa_w6.size)
  have Ba_w7 := Ba_w6.trans (hb_w7.mono Ba_w6.size)
  have BEs_w7 := BEs_w6.trans (hb_w7.mono BEs_w6.size)
  have Bs_w7 := Bs_w6.trans (hb_w7.mono Bs_w6.size)
  have BEt_w7 := BEt_w6.trans (hb_w7.mono BEt_w6.size)
  have Bt_w7 := Bt_w6.trans (hb_w7.mono Bt_w6.size)
  have pa0 := ha0.out _ Ba_w7
  have pa1 := ha1.out _ Ba_w7
  have pa2 := ha2.out _ Ba_w7
  go_wp2_with fail
  refine (implAcceptsWord_any a Aa Ba ca da ⟨#[]⟩ w7 (by decide) (ta.out.later BTa_w7)).mono ?_
  clear pa0 pa1 pa2
  rintro e w8 ⟨rfl, hb_w8⟩
  have BW_w8 := BW_w7.trans (hb_w8.mono BW_w7.size)
  have BTa_w8 := BTa_w7.trans (hb_w8.mono BTa_w7.size)
  have Ba_w8 := Ba_w7.trans (hb_w8.mono Ba_w7.size)
  have BEs_w8 := BEs_w7.trans (hb_w8.mono BEs_w7.size)
  have Bs_w8 := Bs_w7.trans (hb_w8.mono Bs_w7.size)
  have BEt_w8 := BEt_w7.trans (hb_w8.mono BEt_w7.size)
  have Bt_w8 := Bt_w7.trans (hb_w8.mono Bt_w7.size)
  rw [← soOk_acc, ← hok.out]
  cases hokc : ok
  case false =>
    have ps0 := hs0.out _ Bs_w8
    have ps1 := hs1.out _ Bs_w8
    have ps2 := hs2.out _ Bs_w8
    have pt0 := ht0.out _ Bt_w8
    have pt1 := ht1.out _ Bt_w8
    have pt2 := ht2.out _ Bt_w8
    go_wp2_with fail
    refine (agSystems_same S As At cs ct w8 ls1 ls2 lt1 lt2 (es.out.later BEs_w8) (et.out.later BEt_w8)).mono ?_
    clear ps0 ps1 ps2 pt0 pt1 pt2
    rintro e w9 ⟨rfl, hb_w9⟩
    have BW_w9 := BW_w8.trans (hb_w9.mono BW_w8.size)
    have BTa_w9 := BTa_w8.trans (hb_w9.mono BTa_w8.size)
    have Ba_w9 := Ba_w8.trans (hb_w9.mono Ba_w8.size)
    have BEs_w9 := BEs_w8.trans (hb_w9.mono BEs_w8.size)
    have Bs_w9 := Bs_w8.trans (hb_w9.mono Bs_w8.size)
    have BEt_w9 := BEt_w8.trans (hb_w9.mono BEt_w8.size)
    have Bt_w9 := Bt_w8.trans (hb_w9.mono Bt_w8.size)
    have pa0 := ha0.out _ Ba_w9
    have pa1 := ha1.out _ Ba_w9
    have pa2 := ha2.out _ Ba_w9
    go_wp2_with fail
    refine (implAcceptsWord_any a Aa Ba ca da ⟨#[]⟩ w9 (by decide) (ta.out.later BTa_w9)).mono ?_
    clear pa0 pa1 pa2
    rintro e w10 ⟨rfl, hb_w10⟩
    have BW_w10 := BW_w9.trans (hb_w10.mono BW_w9.size)
    have BTa_w10 := BTa_w9.trans (hb_w10.mono BTa_w9.size)
    have Ba_w10 := Ba_w9.trans (hb_w10.mono Ba_w9.size)
    have BEs_w10 := BEs_w9.trans (hb_w10.mono BEs_w9.size)
    have Bs_w10 := Bs_w9.trans (hb_w10.mono Bs_w9.size)
    have BEt_w10 := BEt_w9.trans (hb_w10.mono BEt_w9.size)
    have Bt_w10 := Bt_w9.trans (hb_w10.mono Bt_w9.size)
    rw [← soOk_acc, ← hok.out, hokc]
    go_wp2_with fail
    go_ret
    exact ⟨rfl, BW_w10⟩
  case true =>
  have hso : Hid (soOk a = true) := hid (by rw [← hok.out, hokc])
  have hal : Hid (alphaOk a.al = true) := hid ((auOk_iff a).1 (soOk_iff.1 hso.out).1).1
  have hsv : Hid (sysOk S = true) := hid (by rw [hS1.out]; exact soS_ok hso.out)
  have heqb : (S.al == a.al) = true := by rw [hS1.out, soS_al hso.out]; simp
  subst hokc
  clear hoo hoe
  have pa0 := ha0.out _ Ba_w8
  have pa1 := ha1.out _ Ba_w8
  have pa2 := ha2.out _ Ba_w8
  go_wp2_with fail
  obtain ⟨x, hxs⟩ : ∃ x, Hid (x = safX a) := ⟨_, hid rfl⟩
  have hc_x := hid (implSafetyPart_any a Aa Ba ca da w8 (ta.out.later BTa_w8))
  refine hc_x.out.mono ?_
  clear hc_x
  clear pa0 pa1 pa2
  rintro e w11 hpost
  unfold SafOwn at hpost
  rw [← hxs.out] at hpost
  obtain ⟨v1, v2, xs, rfl, hau, hb_w11⟩ := hpost
  obtain ⟨Ax, cx, Bx, dx, rfl, rfl, tx⟩ := hau.at_
  replace tx := hid tx
  clear hau
  have BW_w11 := BW_w8.trans (hb_w11.mono BW_w8.size)
  have BTa_w11 := BTa_w8.trans (hb_w11.mono BTa_w8.size)
  have Ba_w11 := Ba_w8.trans (hb_w11.mono Ba_w8.size)
  have BEs_w11 := BEs_w8.trans (hb_w11.mono BEs_w8.size)
  have Bs_w11 := Bs_w8.trans (hb_w11.mono Bs_w8.size)
  have BEt_w11 := BEt_w8.trans (hb_w11.mono BEt_w8.size)
  have Bt_w11 := Bt_w8.trans (hb_w11.mono Bt_w8.size)
  have BTx_w11 : Below w11.heap.size w11 w11 := Below.refl _ _
  go_upto_region 9 with fail
  obtain ⟨w12, hw_w12, hz_w12, hb_w12, hS_w12⟩ := boxed w11 #[.int .i64 x.al, .slice Ax x.nx.length cx, .slice Bx x.ac.length dx] 26
  rw [hw_w12]
  clear hw_w12
  have hx0 := fun w' (hb : Below w12.heap.size w12 w') => hS_w12 0 _ rfl w' (hb.mono hz_w12)
  have hx1 := fun w' (hb : Below w12.heap.size w12 w') => hS_w12 1 _ rfl w' (hb.mono hz_w12)
  have hx2 := fun w' (hb : Below w12.heap.size w12 w') => hS_w12 2 _ rfl w' (hb.mono hz_w12)
  replace hx0 := hid hx0
  replace hx1 := hid hx1
  replace hx2 := hid hx2
  clear hS_w12
  have BW_w12 := BW_w11.trans (hb_w12.mono BW_w11.size)
  have BTa_w12 := BTa_w11.trans (hb_w12.mono BTa_w11.size)
  have Ba_w12 := Ba_w11.trans (hb_w12.mono Ba_w11.size)
  have BEs_w12 := BEs_w11.trans (hb_w12.mono BEs_w11.size)
  have Bs_w12 := Bs_w11.trans (hb_w12.mono Bs_w11.size)
  have BEt_w12 := BEt_w11.trans (hb_w12.mono BEt_w11.size)
  have Bt_w12 := Bt_w11.trans (hb_w12.mono Bt_w11.size)
  have BTx_w12 := BTx_w11.trans (hb_w12.mono BTx_w11.size)
  have Bx_w12 : Below w12.heap.size w12 w12 := Below.refl _ _
  have hxa : Hid (x = safA a) := hid (by rw [hxs.out]; unfold safX; rw [if_pos (soOk_iff.1 hso.out).1])
  go_wp2_with fail
  go_loopw [10] (fun iv wr => ∃ i : Nat, iv = .int .i64 (i : Nat) ∧ i ≤ 40 ∧ Below w12.heap.size w12 wr) (fun iv _ => 40 - (intOf iv).toNat)
  case atStart => exact ⟨0, rfl, by omega, Below.refl _ _⟩
  case round =>
    obtain ⟨i, rfl, hi, hb_wr⟩ := hrel
    have BW_wr := BW_w12.trans (hb_wr.mono BW_w12.size)
    have BTa_wr := BTa_w12.trans (hb_wr.mono BTa_w12.size)
    have Ba_wr := Ba_w12.trans (hb_wr.mono Ba_w12.size)
    have BEs_wr := BEs_w12.trans (hb_wr.mono BEs_w12.size)
    have Bs_wr := Bs_w12.trans (hb_wr.mono Bs_w12.size)
    have BEt_wr := BEt_w12.trans (hb_wr.mono BEt_w12.size)
    have Bt_wr := Bt_w12.trans (hb_wr.mono Bt_w12.size)
    have BTx_wr := BTx_w12.trans (hb_wr.mono BTx_w12.size)
    have Bx_wr := Bx_w12.trans (hb_wr.mono Bx_w12.size)
    by_cases hlt : i < 40
    case neg =>
      obtain rfl : i = 40 := by omega
      have ps0 := hs0.out _ Bs_wr
      have ps1 := hs1.out _ Bs_wr
      have ps2 := hs2.out _ Bs_wr
      go_wp2_with fail
      refine (implSystemValid_any S As cs wr ls1 ls2 (es.out.later BEs_wr)).mono ?_
      clear ps0 ps1 ps2
      rintro e w13 ⟨rfl, hb_w13⟩
      have BW_w13 := BW_wr.trans (hb_w13.mono BW_wr.size)
      have BTa_w13 := BTa_wr.trans (hb_w13.mono BTa_wr.size)
      have Ba_w13 := Ba_wr.trans (hb_w13.mono Ba_wr.size)
      have BEs_w13 := BEs_wr.trans (hb_w13.mono BEs_wr.size)
      have Bs_w13 := Bs_wr.trans (hb_w13.mono Bs_wr.size)
      have BEt_w13 := BEt_wr.trans (hb_w13.mono BEt_wr.size)
      have Bt_w13 := Bt_wr.trans (hb_w13.mono Bt_wr.size)
      have BTx_w13 := BTx_wr.trans (hb_w13.mono BTx_wr.size)
      have Bx_w13 := Bx_wr.trans (hb_w13.mono Bx_wr.size)
      rw [hsv.out]
      have ps0 := hs0.out _ Bs_w13
      have ps1 := hs1.out _ Bs_w13
      have ps2 := hs2.out _ Bs_w13
      have pa0 := ha0.out _ Ba_w13
      have pa1 := ha1.out _ Ba_w13
      have pa2 := ha2.out _ Ba_w13
      go_wp2
      go_ret
      exact ⟨by first | rfl | (rw [heqb]), BW_w13⟩
    have pa0 := ha0.out _ Ba_wr
    have pa1 := ha1.out _ Ba_wr
    have pa2 := ha2.out _ Ba_wr
    go_wp2_with fail
    refine (implWordAt_any i a.al wr hal.out (by omega)).mono ?_
    clear pa0 pa1 pa2
    rintro e w14 ⟨hres, hb_w14⟩
    have BW_w14 := BW_wr.trans (hb_w14.mono BW_wr.size)
    have BTa_w14 := BTa_wr.trans (hb_w14.mono BTa_wr.size)
    have Ba_w14 := Ba_wr.trans (hb_w14.mono Ba_wr.size)
    have BEs_w14 := BEs_wr.trans (hb_w14.mono BEs_wr.size)
    have Bs_w14 := Bs_wr.trans (hb_w14.mono Bs_wr.size)
    have BEt_w14 := BEt_wr.trans (hb_w14.mono BEt_wr.size)
    have Bt_w14 := Bt_wr.trans (hb_w14.mono Bt_wr.size)
    have BTx_w14 := BTx_wr.trans (hb_w14.mono BTx_wr.size)
    have Bx_w14 := Bx_wr.trans (hb_w14.mono Bx_wr.size)
    rcases hres with ⟨rfl, hLL, hlen⟩ | rfl
    case inr =>
      have ps0 := hs0.out _ Bs_w14
      have ps1 := hs1.out _ Bs_w14
      have ps2 := hs2.out _ Bs_w14
      go_wp2_with fail
      refine (implSystemValid_any S As cs w14 ls1 ls2 (es.out.later BEs_w14)).mono ?_
      clear ps0 ps1 ps2
      rintro e w15 ⟨rfl, hb_w15⟩
      have BW_w15 := BW_w14.trans (hb_w15.mono BW_w14.size)
      have BTa_w15 := BTa_w14.trans (hb_w15.mono BTa_w14.size)
      have Ba_w15 := Ba_w14.trans (hb_w15.mono Ba_w14.size)
      have BEs_w15 := BEs_w14.trans (hb_w15.mono BEs_w14.size)
      have Bs_w15 := Bs_w14.trans (hb_w15.mono Bs_w14.size)
      have BEt_w15 := BEt_w14.trans (hb_w15.mono BEt_w14.size)
      have Bt_w15 := Bt_w14.trans (hb_w15.mono Bt_w14.size)
      have BTx_w15 := BTx_w14.trans (hb_w15.mono BTx_w14.size)
      have Bx_w15 := Bx_w14.trans (hb_w15.mono Bx_w14.size)
      rw [hsv.out]
      have ps0 := hs0.out _ Bs_w15
      have ps1 := hs1.out _ Bs_w15
      have ps2 := hs2.out _ Bs_w15
      have pa0 := ha0.out _ Ba_w15
      have pa1 := ha1.out _ Ba_w15
      have pa2 := ha2.out _ Ba_w15
      go_wp2
      go_ret
      exact ⟨by first | rfl | (rw [heqb]), BW_w15⟩
    obtain ⟨r, hr⟩ : ∃ r, Hid (r = wAt (letters a.al) i) := ⟨_, hid rfl⟩
    rw [← hr.out] at hlen ⊢
    obtain ⟨v, hv⟩ : ∃ v, Hid (v = accB x (wordS r)) := ⟨_, hid rfl⟩
    have hac : Hid (hasTr S (wordS r) = v) := hid (by rw [hv.out, hS1.out, hxa.out]; exact hasTr_so hso.out _)
    have hzr : (wordS r).size ≤ 9223372036854775807 := by rw [wordS_size]; omega
    have hvv : (v != v) = false := by simp
    replace hLL := hid hLL
    replace hlen := hid hlen
    have yx0 := fun x => hx0.out _ (Bx_w14.trans ((Fam.below w14.heap.size w14 x).mono Bx_w14.size))
    have yx1 := fun x => hx1.out _ (Bx_w14.trans ((Fam.below w14.heap.size w14 x).mono Bx_w14.size))
    have yx2 := fun x => hx2.out _ (Bx_w14.trans ((Fam.below w14.heap.size w14 x).mono Bx_w14.size))
    have ys0 := fun x => hs0.out _ (Bs_w14.trans ((Fam.below w14.heap.size w14 x).mono Bs_w14.size))
    have ys1 := fun x => hs1.out _ (Bs_w14.trans ((Fam.below w14.heap.size w14 x).mono Bs_w14.size))
    have ys2 := fun x => hs2.out _ (Bs_w14.trans ((Fam.below w14.heap.size w14 x).mono Bs_w14.size))
    have hTc := hid (hT.out.later BW_w14)
    have hac2 := hid (tx.out.later BTx_w14)
    have hes := hid (es.out.later BEs_w14)
    go_wp2_with fail
    refine wp_region_grow 7 w14.heap.size w14 (fun _ u _ => u = .bool v) (by kernel_rfl) (by kernel_rfl) (Nat.le_refl _) (Below.refl _ _) ?_
    simp only [List.take_succ_cons, List.take_zero, List.drop_succ_cons, List.drop_zero]
    (repeat (refine grow_quiet (by rfl) (by rfl) (by rfl) ?_; intro K hK; go_big_quiet_op; go_big_quiet_on))
    refine grow_val (.bool v) (by rfl) (by rfl) rfl (fun wq hbq _ => ?_) ?_
    · go_simp
      refine ⟨rfl, (implHasTrace_any S As cs (wordS r) wq hzr ls1 ls2 (hTc.out.later hbq) (hes.out.later hbq)).mono ?_⟩
      rintro e w3 ⟨rfl, hb3⟩
      exact ⟨by rw [hac.out], hb3⟩
    simp only [Act.put, List.setIfInBounds_toArray, List.set_cons_zero, List.set_cons_succ]
    (repeat (refine grow_quiet (by rfl) (by rfl) (by rfl) ?_; intro K hK; go_big_quiet_op; go_big_quiet_on))
    refine grow_val (.bool v) (by rfl) (by rfl) rfl (fun wq hbq _ => ?_) ?_
    · go_simp
      refine ⟨rfl, (implAcceptsWord_any x Ax Bx cx dx (wordS r) wq hzr (hac2.out.later hbq)).mono ?_⟩
      rintro e w3 ⟨rfl, hb3⟩
      exact ⟨by rw [hv.out], hb3⟩
    simp only [Act.put, List.setIfInBounds_toArray, List.set_cons_zero, List.set_cons_succ]
    (repeat (refine grow_quiet (by rfl) (by rfl) (by rfl) ?_; intro K hK; go_big_quiet_op; go_big_quiet_on))
    refine grow_nil ?_
    intro w40 hb_w40 hf
    clear hf yx0 yx1 yx2 ys0 ys1 ys2
    have BW_w40 := BW_w14.trans (hb_w40.mono BW_w14.size)
    have BTa_w40 := BTa_w14.trans (hb_w40.mono BTa_w14.size)
    have Ba_w40 := Ba_w14.trans (hb_w40.mono Ba_w14.size)
    have BEs_w40 := BEs_w14.trans (hb_w40.mono BEs_w14.size)
    have Bs_w40 := Bs_w14.trans (hb_w40.mono Bs_w14.size)
    have BEt_w40 := BEt_w14.trans (hb_w40.mono BEt_w14.size)
    have Bt_w40 := Bt_w14.trans (hb_w40.mono Bt_w14.size)
    have BTx_w40 := BTx_w14.trans (hb_w40.mono BTx_w14.size)
    have Bx_w40 := Bx_w14.trans (hb_w40.mono Bx_w14.size)
    have hfin := hid (hb_wr.trans ((hb_w14.trans (hb_w40.mono hb_w14.size)).mono hb_wr.size))
    go_wp2_with fail
    go_roundw
    case rel => exact ⟨i + 1, by go_num, by omega, hfin.out⟩
    case measure => simp [intOf]; omega

end Go.Proofs.YtkoganldcmhopaaDoor
