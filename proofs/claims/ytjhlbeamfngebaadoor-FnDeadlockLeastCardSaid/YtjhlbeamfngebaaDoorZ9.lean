/- Lemmas, part 9: several texts in one. -/
import Derived.Test.YtjhlbeamfngebaaDoorZ8
import Derived.Test.YtjhlbeamfngebaaDoorZ4
import Derived.Test.YtjhlbeamfngebaaDoorZ2
import Derived.Test.YtjhlbeamfngebaaDoorZ3
import Derived.Test.YtjhlbeamfngebaaDoorZ7
import Derived.Test.YtjhlbeamfngebaaDoorZ5
import Derived.Laws.AppendOwnNone
import Derived.Deep.DeepCutAuto
import Derived.Deep.AppendLies
import Derived.Test.YtjhlbeamfngebaaDoorProg
import Derived.Test.YtjhlbeamfngebaaDoorZ6
import Derived.Lib.SmallJoins
set_option linter.unusedSimpArgs false
set_option linter.unusedVariables false

/- The program's WordValid, RestrictWord. -/
namespace Go.Proofs.YtjhlbeamfngebaaDoor
open Go.RowKit Go.BigFrame AG

theorem within_63 (x : ByteArray) : within x 63 = wordOk x := by
  have key : ∀ i, HasZ 63 (ltr x i) = true ↔ lOk (lz x i) = true := by
    intro i
    unfold ltr
    split
    · rename_i h
      refine ⟨fun _ => h, fun _ => ?_⟩
      have h2 : 0 ≤ lz x i ∧ lz x i < 6 := by unfold lOk at h; exact of_decide_eq_true h
      obtain ⟨n, hn⟩ := Int.eq_ofNat_of_zero_le h2.1
      rw [hn]
      have hn6 : n < 6 := by omega
      match n, hn6 with
      | 0, _ => decide
      | 1, _ => decide
      | 2, _ => decide
      | 3, _ => decide
      | 4, _ => decide
      | 5, _ => decide
    · rename_i h
      refine ⟨fun k => ?_, fun k => absurd k h⟩
      rw [hasZ_neg] at k
      cases k
  unfold within wordOk
  rw [Bool.eq_iff_iff, decide_eq_true_iff, decide_eq_true_iff]
  exact ⟨fun h => ⟨h.2.1, fun i hi => (key i).1 (h.2.2 i hi)⟩, fun h => ⟨by decide, h.1, fun i hi => (key i).2 (h.2 i hi)⟩⟩

set_option maxHeartbeats 1000000 in
theorem implWordValid_any (s : ByteArray) (w : World) (hz : s.size ≤ 9223372036854775807) :
    Calls Tryd.prog 90 #[.string s] w fun e w' => e = .returned (.bool (wordOk s)) ∧ w = w' := by
  go_enter Tryd.func90, Tryd.ntmps90
  go_wp2_with (go_at_call 85; refine (implWordWithin_any s 63 _ hz).mono ?_; rintro e w' ⟨rfl, rfl⟩; rw [within_63])
  go_ret
  exact ⟨rfl, rfl⟩

end Go.Proofs.YtjhlbeamfngebaaDoor

/- The program's WordAt. -/
namespace Go.Proofs.YtjhlbeamfngebaaDoor
open Go.RowKit Go.BigFrame AG

set_option maxRecDepth 100000 in
set_option maxHeartbeats 1000000 in
theorem reverseNone_any (w : World) :
    Calls Tryd.prog 89 #[.slice none 0 0] w fun e w' => e = .returned (.tuple #[]) ∧ Below w.heap.size w w' := by
  go_enter Tryd.func89, Tryd.ntmps89
  go_wp2_with fail
  go_loopw [2, 3] (fun iv jv wr => iv = .int .i64 0 ∧ jv = .int .i64 (-1) ∧ Below w.heap.size w wr) (fun _ _ _ => 0)
  case atStart => exact ⟨rfl, rfl, Below.refl _ _⟩
  case round =>
    obtain ⟨rfl, rfl, hb⟩ := hrel
    go_wp2
    go_end0
    exact ⟨rfl, hb⟩

/-- WordAt: the word at a place, or no answer. -/
def WordAtPost (n : Nat) (L : List Nat) (w : World) (e : Ending) (w' : World) : Prop :=
  (e = .returned (.tuple #[.string (wordS (wAt L n)), .bool true]) ∧ (0 < L.length ∨ n = 0) ∧ (wAt L n).length ≤ 7 ∨ e = .returned (.tuple #[.string ⟨#[]⟩, .bool false])) ∧ Below w.heap.size w w'

set_option maxRecDepth 100000 in
set_option maxHeartbeats 4000000 in
theorem implWordAt_any (n : Nat) (al : Int) (w : World) (hal : alphaOk al = true) (hn : n ≤ 100000) :
    Calls Tryd.prog 34 #[.int .i64 n, .int .i64 al] w (WordAtPost n (letters al) w) := by
  obtain ⟨i0, hi, hz0, hz1, hz2⟩ := info_parts infoByte
  replace hal := hid hal
  go_enter Tryd.func34, Tryd.ntmps34
  go_wp2_with (go_at_call 87; refine (isAlphabet_any al _).mono ?_; rintro e w' ⟨rfl, rfl⟩; rw [hal.out])
  refine (lettersOf_any al w).mono ?_
  rintro e w1 ⟨lv, rfl, hown, hb1⟩
  obtain ⟨ls, hls⟩ : ∃ ls, Hid (ls = letters al) := ⟨_, hid rfl⟩
  rw [← hls.out] at hown
  have hl6 : ls.length ≤ 6 := by rw [hls.out]; exact lettersTo_len al 6
  obtain ⟨Al, cl, hvl, hcl, hcl'⟩ := own_slice hown
  subst hvl
  replace hown := hid hown
  have hz1' := hb1.size
  go_wp2_with fail
  go_loopw [0, 7] (fun nv v wr => ∃ (k : Nat) (o : List Nat), nv = .int .i64 k ∧ k ≤ n ∧ o.length ≤ 7 ∧ o ++ wAt ls k = wAt ls n ∧ (∀ l ∈ o, l < 6) ∧ (0 < ls.length ∨ k = n) ∧ (o = [] → v = .slice none 0 0) ∧ wr.ownsRow w1.heap.size 5 1 v o.length (bytesOf o) ∧ Below w1.heap.size w1 wr) (fun nv _ _ => (intOf nv).toNat)
  case atStart => exact ⟨n, [], rfl, Nat.le_refl _, by simp, rfl, (fun l hl => by cases hl), .inr rfl, fun _ => rfl, World.ownsRow_nil _ _ _ _, Below.refl _ _⟩
  case round =>
    obtain ⟨k, o, rfl, hkn, ho7, hoo, ho6, hL, hnil, hob, hb⟩ := hrel
    have hbb := hid (hb1.trans (hb.mono hz1'))
    have hown2 := hid (own_later hown.out hb)
    have hzr := hb.size
    replace ho6 := hid ho6
    replace hL := hid hL
    by_cases hk : 0 < k
    · obtain ⟨p, rfl⟩ : ∃ p, k = p + 1 := ⟨k - 1, by omega⟩
      have hk' : (0 : Int) < ((p + 1 : Nat) : Int) := by omega
      obtain ⟨Ao, co, hvo, hco, hco'⟩ := own_slice hob
      subst hvo
      by_cases hl0 : ls.length = 0
      · have hl0' : ((ls.length : Int) == 0) = true := by simpa using hl0
        replace hob := hid hob
        replace hoo := hid hoo
        replace hnil := hid hnil
        replace hl0 := hid hl0
        go_wp2_with fail
        go_ret2
        exact ⟨.inr rfl, hbb.out⟩
      · have hl0' : ((ls.length : Int) == 0) = false := by rw [beq_eq_false_iff_ne]; omega
        by_cases ho : o.length = 7
        · have ho' : ((o.length : Int) == 7) = true := by rw [beq_iff_eq]; omega
          replace hob := hid hob
          replace hoo := hid hoo
          replace hnil := hid hnil
          replace ho := hid ho
          go_wp2_with fail
          go_ret2
          exact ⟨.inr rfl, hbb.out⟩
        · have ho' : ((o.length : Int) == 7) = false := by rw [beq_eq_false_iff_ne]; omega
          have hlp : 0 < ls.length := by omega
          obtain ⟨d, hd⟩ : ∃ d, d = p % ls.length := ⟨_, rfl⟩
          obtain ⟨q, hq⟩ : ∃ q, q = p / ls.length := ⟨_, rfl⟩
          have hdl : d < ls.length := by rw [hd]; exact Nat.mod_lt _ hlp
          have hqp : q ≤ p := by rw [hq]; exact Nat.div_le_self _ _
          have e1 : (((p + 1 : Nat) : Int) - 1) = (p : Int) := by omega
          have e2 : Int.tmod (p : Int) (ls.length : Int) = (d : Int) := by rw [hd]; exact tmod_nat p ls.length
          have e3 : Int.tdiv (p : Int) (ls.length : Int) = (q : Int) := by rw [hq]; exact tdiv_nat p ls.length
          obtain ⟨g, cap, hve, hg1, hg2, -, -, hLs⟩ := own_nats hown2.out (by omega)
          cases hve
          have l0 := hLs d hdl
          obtain ⟨l, hl⟩ : ∃ l : Nat, l = ls[d] := ⟨_, rfl⟩
          have hlt6 : l < 6 := by
            have := letters_lt (A := al) (l := l) (by rw [← hls.out, hl]; exact List.getElem_mem _)
            exact this.1
          rw [← hl] at l0
          have i1 : (0 : Int) ≤ (d : Int) ∧ (d : Int) < (ls.length : Int) := by omega
          have hoo2 : Hid ((o ++ [l]) ++ wAt ls q = wAt ls n) := hid (by
            rw [← hoo, wAt_succ, ← hd, ← hq, List.getD_eq_getElem?_getD, List.getElem?_eq_getElem hdl, hl]
            simp)
          have hlen : o.length < 7 := by omega
          replace hl := hid hl
          replace hLs := hid hLs
          replace hd := hid hd
          replace hq := hid hq
          replace hoo := hid hoo
          replace hnil := hid hnil
          replace ho := hid ho
          replace hl0 := hid hl0
          go_wp2_with (first
            | (go_at_call 88; refine (letterByte_any l hlt6 _).mono ?_; rintro e w' ⟨rfl, rfl⟩)
            | (at_builtin; refine wpList_append_own _ rfl _ _ 22 rfl w1.heap.size 5 i0 (.int .u8 0) 1 1 Tryd.underlying22 hi hz0 hz1 hz2 rfl (by decide) _ _ _ rfl (hob.alloc _) ⟨wr.heap.size, 0, none⟩ 1 1 [.int .u8 (97 + l : Nat)] rfl rfl (cell_one_new _ _ _) (by intro u hu; simp at hu; subst hu; rfl) (by unfold maxLen; omega) (by omega) (by simp; omega) ?_; intro v' w9 hown' hgrow hnil'; have hB9 := hid (Below.grown (hb.alloc hzr _) hgrow (by simp; omega) (own_block hob))))
          have hO9 : Hid (w9.ownsRow w1.heap.size 5 1 v' (o ++ [l]).length (bytesOf (o ++ [l]))) := hid (by
            unfold bytesOf at hown' ⊢
            rw [List.length_append, List.map_append]
            exact hown')
          clear hown' hgrow hob hb hnil'
          go_roundw
          case rel => exact ⟨q, o ++ [l], rfl, by omega, by rw [List.length_append]; simp; omega, hoo2.out, (fun x hx => by rcases List.mem_append.1 hx with h | h; exact ho6.out x h; rw [List.mem_singleton.1 h]; exact hlt6), .inl hlp, (fun e => by simp at e), hO9.out, hB9.out⟩
          case measure => simp [intOf]; omega
    · obtain rfl : k = 0 := by omega
      rw [wAt_zero, List.append_nil] at hoo
      have hLL : 0 < (letters al).length ∨ n = 0 := by
        rw [← hls.out]
        rcases hL.out with h | h
        · exact .inl h
        · exact .inr h.symm
      have hfin : Hid ((wAt (letters al) n).length ≤ 7) := hid (by rw [← hls.out, ← hoo]; exact ho7)
      have hww : Hid (wordS (wAt (letters al) n) = wordS o) := hid (by rw [← hls.out, ← hoo])
      replace hLL := hid hLL
      replace hk := hid hk
      replace hoo := hid hoo
      by_cases hoe : o = []
      · have hv := hnil hoe
        subst hv
        subst hoe
        replace hob := hid hob
        replace hnil := hid hnil
        go_wp2_with fail
        refine (reverseNone_any wr).mono ?_
        rintro e w2 ⟨rfl, hb2⟩
        have hB2 := hid (hbb.out.trans (hb2.mono hbb.out.size))
        have kc : (convert 22 9 (.slice none 0 0)).run Tryd.prog w2 = .ok (.string ⟨#[]⟩) w2 := conv_own (l := []) (World.ownsRow_nil w2 0 _ _)
        go_wp2
        go_ret2
        exact ⟨.inl ⟨by rw [hww.out]; rfl, hLL.out, hfin.out⟩, hB2.out⟩
      · have hpos : 0 < o.length := List.length_pos_iff.2 hoe
        obtain ⟨gb, cap, cur, rfl, hgb, hcap, hcap', hblk, hsz, hcur⟩ := own_blk hob hpos
        have hblk' := hid hblk
        have hcs : Hid (∀ i (h : i < (o.map (97 + ·)).length), cur[i]? = some (.int .u8 ((o.map (97 + ·))[i] : Nat))) := hid fun i h => by
          have hi : i < o.length := by simpa using h
          rw [hcur i (by unfold bytesOf; simpa using hi)]
          unfold bytesOf
          simp
        replace hcur := hid hcur
        replace hblk := hid hblk
        replace hob := hid hob
        replace hnil := hid hnil
        replace hoe := hid hoe
        go_wp2_with fail
        refine (reverseBytes_any gb o.length cap (o.map (97 + ·)) cur wr (by simp) hcap hcap' hblk'.out hsz hcs.out).mono ?_
        rintro e w2 ⟨rfl, hg2, cs2, hblk2, hsz2, hcs2⟩
        have hBr : Below w1.heap.size w1 w2 := hb.grown hg2 hb.size (fun k hk => by cases hk; exact hgb)
        have hB2 := hid (hb1.trans (hBr.mono hz1'))
        have kc : (convert 22 9 (.slice (some ⟨gb, 0, none⟩) o.length cap)).run Tryd.prog w2 = .ok (.string (wordS o)) w2 := by
          have := run_convert_bytes_back (P := Tryd.prog) w2 22 9 5 ⟨gb, 0, none⟩ cap (o.reverse.map letB) Tryd.underlying22 Tryd.underlying5 Tryd.underlying9 (fun j hj => by
            have hj' : j < o.length := by simpa using hj
            have e1 := hcs2 j (by simpa using hj')
            have hadd : (⟨gb, 0, none⟩ : Addr).add j = ⟨gb, j, none⟩ := by unfold Addr.add; split <;> simp_all
            rw [hadd, hblk2.cell, e1]
            have h6' : o.reverse[j]'(by simpa using hj') < 6 := ho6.out _ (List.mem_reverse.1 (List.getElem_mem _))
            simp only [List.getElem_map, List.map_reverse, List.getElem_reverse] at h6' ⊢
            unfold letB
            rw [UInt8.toNat_ofNat']
            have := h6'
            simp only [List.length_map] at *
            rw [Nat.mod_eq_of_lt (by omega)])
          simpa [wordS] using this
        replace hcs2 := hid hcs2
        replace hblk2 := hid hblk2
        replace hg2 := hid hg2
        clear hb hBr
        go_wp2
        go_ret2
        exact ⟨.inl ⟨by rw [hww.out]; rfl, hLL.out, hfin.out⟩, hB2.out⟩

end Go.Proofs.YtjhlbeamfngebaaDoor

/- Systems that run together: the program's parts.next. -/
namespace Go.Proofs.YtjhlbeamfngebaaDoor
open Go.RowKit Go.BigFrame AG

/-- The moves of some systems lie in memory. -/
def MovesAt (w : World) (B : Nat) (M : Option Addr) (ss : List Sy) : Prop := 0 < ss.length → ∃ b o, M = some ⟨b, o, none⟩ ∧ b < B ∧ ∀ i (h : i < ss.length), ∃ g, w.cell? ⟨b, o + i, none⟩ = some (.pointer (some ⟨g, 0, none⟩)) ∧ MvAt w B g (mv ss[i])
theorem MovesAt.later {w w' : World} {M : Option Addr} {ss : List Sy} (h : MovesAt w w.heap.size M ss) (hb : Below w.heap.size w w') : MovesAt w' w'.heap.size M ss := fun hl => by
  obtain ⟨b, o, h1, h2, h3⟩ := h hl
  refine ⟨b, o, h1, Nat.lt_of_lt_of_le h2 hb.size, fun i hi => ?_⟩
  obtain ⟨g, h4, h5⟩ := h3 i hi
  exact ⟨g, by rw [hb.cell (by simpa using h2)]; exact h4, h5.later hb⟩
def partsV (A : Option Addr) (n c : Nat) (M : Option Addr) (cm : Nat) : Value := .agg #[.slice A n c, .slice M n cm]

set_option maxRecDepth 100000 in
set_option maxHeartbeats 8000000 in
theorem partsNext_any (ss : List Sy) (A M : Option Addr) (c cm node l base : Nat) (v : Value) (ns : List Nat) (w : World) (hall : ss.all sysOk = true) (hn3 : ss.length ≤ 3) (hl6 : l < 6) (hnode : node < 4096) (hlc : ss.length ≤ c) (hc : c ≤ 9223372036854775807) (hlm : ss.length ≤ cm) (hcm : cm ≤ 9223372036854775807)
    (hns : ns.length ≤ 4294967296) (hT : Tab w) (hS : SysAt w w.heap.size A ss) (hM : MovesAt w w.heap.size M ss) (hbase : base ≤ w.heap.size) (hown : w.ownsRow base 3 1 v ns.length (natVals ns)) :
    Calls Tryd.prog 81 #[partsV A ss.length c M cm, .int .i64 (node : Nat), .int .i64 (l : Nat), v] w fun e w' => ∃ v', e = .returned v' ∧ w'.ownsRow base 3 1 v' (ns ++ nxParts ss node l).length (natVals (ns ++ nxParts ss node l)) ∧ KeepB (fun b => v.ownBlock = some b) w w' := by
  obtain ⟨i0, hi, hz0, hz1, hz2⟩ := info_parts infoInt
  unfold partsV
  obtain ⟨Av, cv, hve, hcv1, hcv2⟩ := own_slice hown
  subst hve
  have hpar := Blk.new w 98 #[.slice A ss.length c, .slice M ss.length cm]
  have hb0 : Below w.heap.size w (w.alloc (.cells #[.slice A ss.length c, .slice M ss.length cm] 98)) := (Below.refl _ _).alloc (Nat.le_refl _) _
  have hz0' : (w.alloc (.cells #[.slice A ss.length c, .slice M ss.length cm] 98)).heap.size = w.heap.size + 1 := by simp
  generalize hw0 : w.alloc (.cells #[.slice A ss.length c, .slice M ss.length cm] 98) = w0 at hpar hb0 hz0'
  have p0 := hpar.cell 0
  have p1 := hpar.cell 1
  simp only [List.getElem?_toArray, List.getElem?_cons_zero, List.getElem?_cons_succ] at p0 p1
  have hS0 := hid (hS.later hb0)
  have hM0 := hid (hM.later hb0)
  have hT0 := hid (hT.later hb0)
  have hpar' := hid hpar
  have hok := hid (pst_ok hall l node)
  replace hall := hid hall
  replace hown := hid hown
  replace hS := hid hS
  replace hM := hid hM
  clear hpar
  go_enter Tryd.func81, Tryd.ntmps81
  go_wp2_with fail
  go_loopw [1, 9, 10, 11] (fun nd rv wt iv wr => ∃ (k : Nat) (Ar : Option Addr) (cr : Nat), k ≤ ss.length ∧ iv = .int .i64 ((ss.length : Int) - 1 - k) ∧ nd = .int .i64 ((pst ss l node k).nd : Nat) ∧ wt = .int .i64 ((pst ss l node k).wt : Nat) ∧ rv = .slice Ar (pst ss l node k).re.length cr ∧ (pst ss l node k).re.length ≤ cr ∧ cr ≤ 9223372036854775807 ∧ NatsAt wr wr.heap.size Ar (pst ss l node k).re ∧ ((pst ss l node k).re.length = 0 → rv = .slice none 0 0) ∧ Below w0.heap.size w0 wr) (fun _ _ _ iv _ => (intOf iv + 1).toNat)
  case atStart =>
    refine ⟨0, some ⟨w.heap.size + 1, 0, none⟩, 1, by omega, by first | rfl | (simp; done) | go_num, rfl, rfl, rfl, Nat.le_refl _, by omega, fun _ => ⟨w.heap.size + 1, 0, rfl, by simp; omega, fun i hi => ?_⟩, fun h => by simp [pst] at h, (Below.refl _ _).alloc (Nat.le_refl _) _⟩
    obtain rfl : i = 0 := by simpa [pst] using hi
    rw [Nat.add_zero, ← hz0', World.cell?_alloc_at _ _ _ _ rfl]
    rfl
  case round =>
    clear p0 p1
    obtain ⟨k, Ar, cr, hk, rfl, rfl, rfl, rfl, hr1, hr2, hre, hrn, hb⟩ := hrel
    have hpb := hpar'.out.below hb hpar'.out.lt
    have p0 := hpb.cell 0
    have p1 := hpb.cell 1
    simp only [List.getElem?_toArray, List.getElem?_cons_zero, List.getElem?_cons_succ] at p0 p1
    obtain ⟨o1, o2, o3, o4⟩ := hok.out k hk
    have hzr := hb.size
    by_cases hlt : k < ss.length
    · obtain ⟨i, hik⟩ : ∃ i, i + k + 1 = ss.length := ⟨ss.length - 1 - k, by omega⟩
      obtain ⟨hil, hsucc⟩ := pst_succ (ss := ss) (l := l) (node := node) hlt hik
      obtain ⟨s, hse⟩ : ∃ s, s = ss[i] := ⟨_, rfl⟩
      have hso : sysOk s = true := by rw [hse]; exact List.all_eq_true.1 hall.out _ (List.getElem_mem _)
      have hst := sysOk_st hso
      obtain ⟨sn, hsn⟩ := Int.eq_ofNat_of_zero_le (show 0 ≤ s.st by omega)
      obtain ⟨b, o, hA, hbb, hE⟩ := hS0.out (by omega)
      subst hA
      obtain ⟨c0, c1, Ai, ci, c2, s1, s2, -⟩ := hE i hil
      rw [← hb.cell (by simpa using hbb)] at c0 c1 c2
      rw [← hse] at c0 c1 c2 hsucc
      rw [hsn] at c1
      obtain ⟨b2, o2', hM', hbb2, hEM⟩ := hM0.out (by omega)
      subst hM'
      obtain ⟨g, m0, hmv⟩ := hEM i hil
      rw [← hb.cell (by simpa using hbb2)] at m0
      rw [← hse] at hmv
      have hmvr := hid (MvAt.later hmv hb)
      obtain ⟨x, hx⟩ : ∃ x, x = pst ss l node k := ⟨_, rfl⟩
      rw [← hx] at hr1 hre hrn o1 o2 o3 o4 hsucc ⊢
      obtain ⟨re, wt, nd⟩ := x
      simp only at hr1 hre hrn o1 o2 o3 o4
      have hnd4 : nd < 4096 := by omega
      have hpw : 16 ^ k ≤ 16 ^ 2 := Nat.pow_le_pow_right (by omega) (by omega)
      have hsn1 : 1 ≤ sn ∧ sn ≤ 16 := by omega
      have e1 : ((ss.length : Int) - 1 - (k : Int)) = (i : Int) := by omega
      rw [e1]
      obtain ⟨d, hd⟩ : ∃ d, d = nd % sn := ⟨_, rfl⟩
      have hds : d < sn := by rw [hd]; exact Nat.mod_lt _ (by omega)
      have e2 : Int.tmod (nd : Int) (sn : Int) = (d : Int) := by rw [hd]; exact tmod_nat nd sn
      have e3 : Int.tdiv (nd : Int) (sn : Int) = ((nd / sn : Nat) : Int) := tdiv_nat nd sn
      have hsq : s.st.toNat = sn := by omega
      have k1 : (0 : Int) ≤ (i : Int) ∧ (i : Int) < (ss.length : Int) := by omega
      have hnb := Blk.new wr 37 #[.int .i64 s.al, .int .i64 (sn : Int), .slice Ai s.es.length ci]
      have hba : Below wr.heap.size wr (wr.alloc (.cells #[.int .i64 s.al, .int .i64 (sn : Int), .slice Ai s.es.length ci] 37)) := (Below.refl _ _).alloc (Nat.le_refl _) _
      have hbs : wr.heap.size < (wr.alloc (.cells #[.int .i64 s.al, .int .i64 (sn : Int), .slice Ai s.es.length ci] 37)).heap.size := by simp
      generalize hwa : wr.alloc (.cells #[.int .i64 s.al, .int .i64 (sn : Int), .slice Ai s.es.length ci] 37) = wa at hnb hba hbs
      have d0 := hnb.cell 0
      have d1 := hnb.cell 1
      simp only [List.getElem?_toArray, List.getElem?_cons_zero, List.getElem?_cons_succ] at d0 d1
      have hstq : Hid (stepQ s nd l = if HasZ s.al (l : Int) = true then memL (mv s d l) else [d]) := hid (by unfold stepQ; rw [hsq, ← hd])
      replace hre := hid hre
      replace hE := hid hE
      replace hEM := hid hEM
      replace hse := hid hse
      replace hx := hid hx
      replace hd := hid hd
      replace hsn := hid hsn
      replace hsucc := hid hsucc
      replace hso := hid hso
      replace hik := hid hik
      have hdb := Blk.new wa 3 #[.int .i64 (d : Int)]
      have hba2 : Below wa.heap.size wa (wa.alloc (.cells #[.int .i64 (d : Int)] 3)) := (Below.refl _ _).alloc (Nat.le_refl _) _
      generalize hwb : wa.alloc (.cells #[.int .i64 (d : Int)] 3) = wb at hdb hba2
      have hdc := hdb.cell 0
      simp only [List.getElem?_toArray, List.getElem?_cons_zero, List.getElem?_cons_succ] at hdc
      have hdl := hdb.lt
      have hrb := hba.trans (hba2.mono hba.size)
      have hHle : (l : Int) ≤ 63 := by omega
      have hbb2' := hba2.size
      have d1b : wb.cell? ⟨wr.heap.size, 1, none⟩ = some (.int .i64 (sn : Int)) := by rw [hba2.cell (World.block_lt_of_cell? _ _ d1)]; exact d1
      have d0b : wb.cell? ⟨wr.heap.size, 0, none⟩ = some (.int .i64 s.al) := by rw [hba2.cell (World.block_lt_of_cell? _ _ d0)]; exact d0
      replace hdb := hid hdb
      go_wp2_with fail
      refine (has_any s.al (l : Int) _ hHle).mono ?_
      rintro e w' ⟨rfl, rfl⟩
      clear p0 c0 c1 c2
      go_upto_if 41 with fail
      go_cut [13] from 24 to 87 (fun tv wx => ∃ (qs : List Nat) (At : Option Addr) (cq : Nat), tv = .slice At qs.length cq ∧ qs.length ≤ cq ∧ cq ≤ 9223372036854775807 ∧ Hid (qs = stepQ s nd l) ∧ NatsAt wx wx.heap.size At qs ∧ Below wb.heap.size wb wx)
      case first =>
        cases hH : HasZ s.al (l : Int)
        · have hq1 : Hid ([d] = stepQ s nd l) := hid (by rw [hstq.out, hH]; rfl)
          have hq : Hid (NatsAt wb wb.heap.size (some ⟨wa.heap.size, 0, none⟩) [d]) := hid (fun _ => ⟨wa.heap.size, 0, rfl, hdl, fun i hi => by
            obtain rfl : i = 0 := by simpa using hi
            rw [Nat.add_zero]
            exact hdc⟩)
          replace hH := hid hH
          clear hdc
          go_wp2_with fail
          go_meet
          exact ⟨[d], _, 1, rfl, Nat.le_refl _, by omega, hq1, hq.out, Below.refl _ _⟩
        · obtain ⟨S, hS'⟩ : ∃ S, S = mv s d l := ⟨_, rfl⟩
          have hSl : S < 65536 := by rw [hS']; exact mv_lt _ _ _
          have hq1 : Hid (memL S = stepQ s nd l) := hid (by rw [hstq.out, hH, if_pos rfl, hS'])
          have p1b : ∀ x, (Fam wb.heap.size wb x).cell? ⟨w.heap.size, 1, none⟩ = some (.slice (some ⟨b2, o2', none⟩) ss.length cm) := fun x => by rw [(hrb.trans ((Fam.below wb.heap.size wb x).mono hrb.size)).cell (World.block_lt_of_cell? _ _ p1)]; exact p1
          have m0b : ∀ x, (Fam wb.heap.size wb x).cell? ⟨b2, o2' + i, none⟩ = some (.pointer (some ⟨g, 0, none⟩)) := fun x => by rw [(hrb.trans ((Fam.below wb.heap.size wb x).mono hrb.size)).cell (World.block_lt_of_cell? _ _ m0)]; exact m0
          have d1x : ∀ x, (Fam wb.heap.size wb x).cell? ⟨wr.heap.size, 1, none⟩ = some (.int .i64 (sn : Int)) := fun x => by rw [(Fam.below wb.heap.size wb x).cell (World.block_lt_of_cell? _ _ d1b)]; exact d1b
          have h16 : d < 16 := by omega
          have y3 : ∀ x, (Fam wb.heap.size wb x).cell? ⟨g, d * 6 + l, none⟩ = some (.int .i64 (S : Nat)) := fun x => by
            rw [hS']
            exact (hmvr.out.keep (hrb.trans ((Fam.below wb.heap.size wb x).mono hrb.size))).2 _ _ h16 hl6
          have hd0 : (0 : Int) ≤ (d : Int) ∧ (d : Int) < 16 ∧ (0 : Int) ≤ (l : Int) ∧ (l : Int) < 6 := by omega
          obtain ⟨hd0, hd1, hl0, hl1⟩ := hd0
          have e2' : ((nd : Int) % (sn : Int)) = (d : Int) := by rw [← e2]; exact (Int.tmod_eq_emod_of_nonneg (by omega)).symm
          replace hS' := hid hS'
          replace hH := hid hH
          clear hdc p1 m0 d1 d0 d1b d0b
          go_wp2_with fail
          refine wp_region_grow 15 wb.heap.size wb (fun _ u w' => OwnNats w' wb.heap.size u (memL S)) (by kernel_rfl) (by kernel_rfl) (Nat.le_refl _) (Below.refl _ _) ?_
          simp only [List.take_succ_cons, List.take_zero, List.drop_succ_cons, List.drop_zero]
          (repeat (refine grow_quiet (by rfl) (by rfl) (by rfl) ?_; intro K hK; go_big_quiet_op; go_big_quiet_on))
          refine grow_call (by rfl) (by rfl) (fun u w w' hb h => ?_) (fun wq hbq _ => ?_) fun u hu => ?_
          · exact own_keep h (.of_below (K := fun _ => False) hb) fun _ _ h => h
          · go_simp
            refine ⟨rfl, (members_any S hSl wq (hT0.out.later ((hb.trans (hrb.mono hb.size)).trans (hbq.mono (by have := hb.size; have := hrb.size; omega))))).mono ?_⟩
            rintro e w3 ⟨v, rfl, ho, hb3⟩
            exact ⟨v, rfl, hb3, own_base ho hbq.size⟩
          obtain ⟨w3', -, ho3'⟩ := hu
          obtain ⟨A3, c3, rfl, hc3, hc3'⟩ := own_slice ho3'
          clear ho3'
          simp only [Act.put, List.setIfInBounds_toArray, List.set_cons_zero, List.set_cons_succ]
          (repeat (refine grow_quiet (by rfl) (by rfl) (by rfl) ?_; intro K hK; go_big_quiet_op; go_big_quiet_on))
          refine grow_nil ?_
          intro w3 hb3 hf
          have ho3 := hf _ List.mem_cons_self
          clear hf p1b m0b d1x y3
          obtain ⟨A4, c4, hv4, hc4, hc4', hn4⟩ := OwnNats.read ho3
          replace hn4 := hid hn4
          replace hv4 := hid hv4
          clear ho3
          go_wp2_with fail
          go_meet
          exact ⟨memL S, A4, c4, hv4.out, hc4, hc4', hq1, hn4.out, hb3⟩
      case rest =>
        obtain ⟨qs, At, cq, rfl, hqc, hqc2, hqe, hq, hbx⟩ := hcut
        have hzw : Below wr.heap.size wr wc := hrb.trans (hbx.mono hrb.size)
        have d1z : wc.cell? ⟨wr.heap.size, 1, none⟩ = some (.int .i64 (sn : Int)) := by rw [hbx.cell (World.block_lt_of_cell? _ _ d1b)]; exact d1b
        clear hdc p1 m0 d1 d0 d1b d0b
        have hql : qs.length ≤ 16 := by rw [hqe.out]; exact stepQ_len _ _
        have hqlt : Hid (∀ q ∈ qs, q < sn) := hid (fun q hq => by have := stepQ_lt hso.out nd l q (by rw [← hqe.out]; exact hq); omega)
        have hreZ := hid (hre.out.later hzw)
        replace hq := hid hq
        have hzz := hzw.size
        replace hzw := hid hzw
        go_wp2_with fail
        go_loopw [14, 59] (fun mv jv wq => ∃ (j : Nat), jv = .int .i64 (j : Nat) ∧ j ≤ qs.length ∧ wq.ownsRow wc.heap.size 3 1 mv (joinN (qs.take j) re wt).length (natVals (joinN (qs.take j) re wt)) ∧ ((joinN (qs.take j) re wt).length = 0 → mv = .slice none 0 0) ∧ Below wc.heap.size wc wq) (fun _ jv _ => qs.length - (intOf jv).toNat)
        case atStart => exact ⟨0, rfl, Nat.zero_le _, World.ownsRow_nil _ _ _ _, fun _ => rfl, Below.refl _ _⟩
        case round =>
          obtain ⟨wj, rfl⟩ : ∃ wj : World, wj = wr := ⟨_, rfl⟩
          obtain ⟨j, rfl, hj, hom, hmn, hbj⟩ := hrel
          by_cases hjL : j < qs.length
          · have hjl : j < qs.length := by omega
            obtain ⟨bq, oq, hAq, hbq, hEq⟩ := hq.out (by omega)
            subst hAq
            have l0 := hEq j hjl
            rw [← hbj.cell (by simpa using hbq)] at l0
            try simp only [Nat.zero_add] at l0
            obtain ⟨q, hqj⟩ : ∃ q, q = qs[j] := ⟨_, rfl⟩
            rw [← hqj] at l0
            have hq16 : q < 16 := by have := hqlt.out q (by rw [hqj]; exact List.getElem_mem _); omega
            have k2 : (0 : Int) ≤ (j : Int) ∧ (j : Int) < (qs.length : Int) := by omega
            have hjt := joinN_take (re := re) (wt := wt) hjl
            rw [← hqj] at hjt
            have hjl2 := joinN_len (qs.take j) re wt
            have hjl3 : (joinN (qs.take j) re wt).length ≤ 65536 := by
              rw [hjl2]
              have h1 : (qs.take j).length ≤ 16 := by rw [List.length_take]; omega
              have := Nat.mul_le_mul h1 (show re.length ≤ 4096 by omega)
              omega
            obtain ⟨js, hjs⟩ : ∃ js, js = joinN (qs.take j) re wt := ⟨_, rfl⟩
            rw [← hjs] at hom hmn hjt hjl3
            replace hjs := hid hjs
            replace hqj := hid hqj
            replace hEq := hid hEq
            replace hjt := hid hjt
            go_wp2_with fail
            go_loopw [14, 65] (fun mv pv wq => ∃ (p : Nat), pv = .int .i64 (p : Nat) ∧ p ≤ re.length ∧ wq.ownsRow wc.heap.size 3 1 mv (js ++ (re.take p).map fun r => q * wt + r).length (natVals (js ++ (re.take p).map fun r => q * wt + r)) ∧ ((js ++ (re.take p).map fun r => q * wt + r).length = 0 → mv = .slice none 0 0) ∧ Below wc.heap.size wc wq) (fun _ pv _ => re.length - (intOf pv).toNat)
            case atStart => exact ⟨0, rfl, by omega, by simpa using hom, by simpa using hmn, hbj⟩
            case round =>
              clear hom hmn hbj
              obtain ⟨p, rfl, hp, hop, hpn, hbp⟩ := hrel
              have hpm : (js ++ (re.take p).map fun r => q * wt + r).length ≤ 70000 := by
                rw [List.length_append, List.length_map, List.length_take]
                omega
              by_cases hpl : p < re.length
              · obtain ⟨br, orr, hAr, hbr, hEr⟩ := hreZ.out (by omega)
                subst hAr
                have r0 := hEr p hpl
                rw [← hbp.cell (by simpa using hbr)] at r0
                obtain ⟨r, hrj⟩ : ∃ r, r = re[p] := ⟨_, rfl⟩
                rw [← hrj] at r0
                have hrw : r < wt := o4 r (by rw [hrj]; exact List.getElem_mem _)
                obtain ⟨m, hm⟩ : ∃ m, m = q * wt := ⟨_, rfl⟩
                have hml : m ≤ 65536 := by
                  have := Nat.mul_le_mul (show q ≤ 16 by omega) (show wt ≤ 4096 by omega)
                  omega
                have f1 : (q : Int) * (wt : Int) = (m : Int) := by rw [hm, Int.natCast_mul]
                have f2 : IntKind.i64.wrap ((q : Int) * (wt : Int)) = (m : Int) := by rw [f1]; exact IntWalk.i64_in _ (by omega)
                have k3 : (0 : Int) ≤ (p : Int) ∧ (p : Int) < (re.length : Int) := by omega
                have hmt := map_take (f := fun r => q * wt + r) hpl
                rw [← hrj] at hmt
                have hnx : Hid (js ++ (re.take (p + 1)).map (fun r => q * wt + r) = (js ++ (re.take p).map fun r => q * wt + r) ++ [m + r]) := hid (by rw [hmt, hm, List.append_assoc])
                obtain ⟨cs, hcs⟩ : ∃ cs, cs = js ++ (re.take p).map fun r => q * wt + r := ⟨_, rfl⟩
                rw [← hcs] at hop hpn hpm hnx
                have hzq := hbp.size
                replace hcs := hid hcs
                replace hEr := hid hEr
                replace hrj := hid hrj
                replace hm := hid hm
                replace hpn := hid hpn
                clear hmt
                go_wp2_with (at_builtin; refine wpList_append_own _ rfl _ _ 72 rfl wc.heap.size 3 i0 (.int .i64 0) 1 8 Tryd.underlying72 hi hz0 hz1 hz2 rfl (by decide) _ _ _ rfl (hop.alloc _) ⟨wr.heap.size, 0, none⟩ 1 1 [.int .i64 ((m : Int) + (r : Int))] rfl rfl (cell_one_new _ _ _) (by intro u hu; simp at hu; subst hu; rfl) (by unfold maxLen; omega) (by omega) (by simp; omega) ?_; intro v' w9 hown' hgrow hnil'; have hB9 := hid (Below.grown (hbp.alloc hzq _) hgrow (by simp; omega) (own_block hop)))
                have hO9 : Hid (w9.ownsRow wc.heap.size 3 1 v' (cs ++ [m + r]).length (natVals (cs ++ [m + r]))) := hid (by
                  unfold natVals at hown' ⊢
                  rw [List.length_append, List.map_append]
                  exact hown')
                clear hown' hgrow hnil' hop hbp
                go_roundw
                case rel => exact ⟨p + 1, by go_num, by omega, by rw [hnx.out]; exact hO9.out, (fun h => by rw [hnx.out] at h; simp at h), hB9.out⟩
                case measure => simp [intOf]; omega
              · obtain rfl : p = re.length := by omega
                rw [List.take_length] at hop hpn
                have hj2 : Hid (joinN (qs.take (j + 1)) re wt = js ++ re.map fun r => q * wt + r) := hid (by rw [hjt.out, hjs.out])
                replace hop := hid hop
                replace hpn := hid hpn
                go_wp2_with fail
                go_roundw
                case rel => exact ⟨j + 1, by go_num, by omega, by rw [hj2.out]; exact hop.out, by rw [hj2.out]; exact hpn.out, hbp⟩
                case measure => simp [intOf]; omega
          · have hje : Hid (j = qs.length) := hid (by omega)
            have ht : qs.take j = qs := by rw [hje.out]; exact List.take_length
            rw [ht] at hom hmn
            obtain ⟨Aj, cj, hvj, hj1, hj2, hjn⟩ := OwnNats.read (show OwnNats wj wc.heap.size _ (joinN qs re wt) from hom)
            subst hvj
            have hps : Hid (pst ss l node (k + 1) = ⟨joinN qs re wt, wt * sn, nd / sn⟩) := hid (by rw [hsucc.out, hqe.out]; unfold pstep; simp only [hsq])
            have hws : wt * sn ≤ 65536 := by
              have := Nat.mul_le_mul (show wt ≤ 4096 by omega) (show sn ≤ 16 by omega)
              omega
            have f1 : (wt : Int) * (sn : Int) = ((wt * sn : Nat) : Int) := (Int.natCast_mul wt sn).symm
            have d1j : wj.cell? ⟨wr.heap.size, 1, none⟩ = some (.int .i64 (sn : Int)) := by rw [hbj.cell (World.block_lt_of_cell? _ _ d1z)]; exact d1z
            have hbjj := hid (hb.trans ((hzw.out.trans (hbj.mono hzz)).mono hzr))
            have e4 : (i : Int) - 1 = (ss.length : Int) - 1 - ((k + 1 : Nat) : Int) := by have := hik.out; omega
            replace hom := hid hom
            replace hmn := hid hmn
            replace ht := hid ht
            replace hjn := hid hjn
            replace e4 := hid e4
            have hdw : Hid (wrap64 ((nd : Int) / (sn : Int)) = ((nd / sn : Nat) : Int)) := hid (by
              rw [← Int.natCast_ediv]
              obtain ⟨z, hz⟩ : ∃ z, z = nd / sn := ⟨_, rfl⟩
              have hzl : z ≤ nd := by rw [hz]; exact Nat.div_le_self _ _
              rw [← hz]
              clear hz
              exact IntWalk.wrap64_in _ ⟨by omega, by omega⟩)
            generalize hWS : wt * sn = ws at *
            replace hWS := hid hWS
            go_wp2_with fail
            go_roundw
            case rel => exact ⟨k + 1, Aj, cj, by omega, by first | (rw [← e4.out]) | (rw [← e4.out]; go_num), by rw [hps.out, hdw.out], by first | (rw [hps.out]; done) | (rw [hps.out]; rfl) | (rw [hps.out]; simp; done), by first | (rw [hps.out]; done) | (rw [hps.out]; rfl) | (rw [hps.out]; simp; done), by rw [hps.out]; exact hj1, hj2, by rw [hps.out]; exact hjn.out, by rw [hps.out]; exact hmn.out, hbjj.out⟩
            case measure => (try simp [intOf]) <;> (try omega)
    · have hkn : k = ss.length := by omega
      have hke : Hid ((pst ss l node k).re = nxParts ss node l) := hid (by rw [hkn]; rfl)
      rw [hke.out] at hr1 hre hrn
      obtain ⟨re, hree⟩ : ∃ re, Hid (re = nxParts ss node l) := ⟨_, hid rfl⟩
      rw [← hree.out] at hr1 hre hrn
      rw [hke.out, ← hree.out]
      have hB := hid (hb0.trans (hb.mono hb0.size))
      have hownr := hid (own_keep hown.out (.of_below (K := fun _ => False) hB.out) (fun _ _ h => h))
      have hkp := hid (KeepB.of_below (K := fun b => (Value.slice Av ns.length cv).ownBlock = some b) hB.out)
      have hblk := hid (own_block hown.out)
      have hrl : re.length ≤ 4096 := by
        have h1 : 16 ^ k ≤ 16 ^ 3 := Nat.pow_le_pow_right (by omega) (by omega)
        rw [hke.out, ← hree.out] at o3
        omega
      have hbz : base ≤ wr.heap.size := by have := hB.out.size; omega
      have hnv : (natVals re).length = re.length * 1 := by unfold natVals; simp
      have hcat : Hid (natVals (ns ++ re) = natVals ns ++ natVals re) := hid (by unfold natVals; rw [List.map_append])
      clear o1 o2 o3 o4
      replace hke := hid hke
      by_cases hr0 : re.length = 0
      · have hrv := hrn hr0
        have hree0 : Hid (re = []) := hid (List.eq_nil_of_length_eq_zero hr0)
        rw [hr0] at hrv
        obtain ⟨rfl, rfl⟩ : Ar = none ∧ cr = 0 := by cases hrv; exact ⟨rfl, rfl⟩
        rw [hr0]
        clear hrv hrn hre
        replace hr0 := hid hr0
        go_wp2_with (at_builtin; refine wpList_append_own_none rfl _ _ 72 rfl base 3 i0 1 Tryd.underlying72 hi _ _ _ rfl hownr.out rfl ?_)
        go_ret
        exact ⟨_, rfl, by rw [← hree.out, hree0.out, List.append_nil]; exact hownr.out, hkp.out⟩
      · obtain ⟨br, orr, hAr, hbr, hEr⟩ := hre (by omega)
        subst hAr
        have hnews : Hid (∀ (j : Nat) (u : Value), (natVals re)[j]? = some u → wr.cell? (Addr.add ⟨br, orr, none⟩ j) = some u) := hid (fun j u hj => by
          unfold natVals at hj
          rw [List.getElem?_map] at hj
          cases e : re[j]? with
          | none => rw [e] at hj; cases hj
          | some x =>
            rw [e] at hj
            obtain ⟨hlt', hx'⟩ := List.getElem?_eq_some_iff.1 e
            have := hEr j hlt'
            rw [hx'] at this
            injection hj with hj
            rw [← hj]
            by_cases h0 : j = 0
            · subst h0
              simpa [Addr.add] using this
            · simpa [Addr.add, h0] using this)
        have hone : Hid (∀ u ∈ natVals re, u.oneCell' = true) := hid (fun u hu => by
          unfold natVals at hu
          obtain ⟨x, -, rfl⟩ := List.mem_map.1 hu
          rfl)
        replace hEr := hid hEr
        replace hrn := hid hrn
        go_wp2_with (at_builtin; refine wpList_append_own _ rfl _ _ 72 rfl base 3 i0 (.int .i64 0) 1 8 Tryd.underlying72 hi hz0 hz1 hz2 rfl (by decide) _ _ _ rfl hownr.out ⟨br, orr, none⟩ re.length cr (natVals re) rfl hnv hnews.out hone.out (by unfold maxLen; omega) (by omega) hbz ?_; intro v' w9 hown' hgrow hnil'; replace hown' := hid hown'; replace hgrow := hid hgrow; clear hnil')
        go_ret
        exact ⟨_, rfl, by rw [← hree.out, hcat.out, List.length_append]; exact hown'.out, hkp.out.grown hgrow.out fun g hg _ => hg⟩

end Go.Proofs.YtjhlbeamfngebaaDoor

/- The program's systems that run together: newParts, parts.size. -/
namespace Go.Proofs.YtjhlbeamfngebaaDoor
open Go.RowKit Go.BigFrame AG

theorem infoPtrM : (Tryd.prog.info? 114).map (fun i => (i.zero, i.size, i.bytes)) = some (some (.pointer none), 1, 8) := by kernel_rfl
def ptrV (gs : List Nat) : List Value := gs.map fun (g : Nat) => .pointer (some ⟨g, 0, none⟩)
/-- The list of pointers under way. -/
structure MvsSt (w0 wr : World) (gp : Nat) (A : Option Addr) (n c : Nat) (v : Value) (ss : List Sy) (gs : List Nat) : Prop where
  below : Below w0.heap.size w0 wr
  hgp : w0.heap.size < gp
  res : Blk wr w0.heap.size 98 #[.slice none 0 0, .slice none 0 0]
  blk : Blk wr gp 98 #[.slice A n c, v]
  own : wr.ownsRow w0.heap.size 114 1 v gs.length (ptrV gs)
  nil : gs.length = 0 → v = .slice none 0 0
  mv : ∀ i (h : i < gs.length), ∃ h' : i < ss.length, MvAt wr wr.heap.size gs[i] (AG.mv ss[i])
theorem MvsSt.later {w0 wr w1 : World} {gp : Nat} {A : Option Addr} {n c : Nat} {v : Value} {ss : List Sy} {gs : List Nat} (h : MvsSt w0 wr gp A n c v ss gs) (hb : Below wr.heap.size wr w1) : MvsSt w0 w1 gp A n c v ss gs :=
  ⟨h.below.trans (hb.mono h.below.size), h.hgp, h.res.below hb h.res.lt, h.blk.below hb h.blk.lt, own_keep h.own (.of_below (K := fun _ => False) hb) (fun _ _ h => h), h.nil, fun i hi => by
    obtain ⟨h', h2⟩ := h.mv i hi
    exact ⟨h', h2.later hb⟩⟩
theorem MvsSt.ne {w0 wr : World} {gp : Nat} {A : Option Addr} {n c : Nat} {v : Value} {ss : List Sy} {gs : List Nat} (h : MvsSt w0 wr gp A n c v ss gs) : v.ownBlock ≠ some gp := fun e => own_ne h.own h.blk (by decide) gp e rfl
theorem MvsSt.apart {w0 wr : World} {gp : Nat} {A : Option Addr} {n c : Nat} {v : Value} {ss : List Sy} {gs : List Nat} (h : MvsSt w0 wr gp A n c v ss gs) {B g : Nat} {m : Nat → Nat → Nat} (hm : MvAt wr B g m) : v.ownBlock ≠ some g ∧ g ≠ gp := by
  have h0 := hm.2 0 0 (by omega) (by omega)
  constructor
  · intro e
    by_cases hl : gs.length = 0
    · rw [h.nil hl] at e
      cases e
    · obtain ⟨g', cap, hve, -, -, -, -, hcell⟩ := own_shape h.own (by omega)
      rw [hve] at e
      injection e with e
      subst e
      have hz : (ptrV gs)[0]? = some (.pointer (some ⟨gs[0]'(by omega), 0, none⟩)) := by
        unfold ptrV
        rw [List.getElem?_map, List.getElem?_eq_getElem (by omega)]
        rfl
      have := hcell 0 _ hz
      simp at this h0
      rw [this] at h0
      cases h0
  · intro e
    subst e
    have h1 := h.blk.cell 0
    simp at h0 h1
    rw [h1] at h0
    cases h0
theorem MvsSt.add {w0 wr w1 : World} {gp : Nat} {A : Option Addr} {n c : Nat} {v v' : Value} {ss : List Sy} {gs : List Nat} {g : Nat} (h : MvsSt w0 wr gp A n c v ss gs) (hl : gs.length < ss.length) (hm : MvAt wr wr.heap.size g (AG.mv ss[gs.length]))
    (hown : w1.ownsRow w0.heap.size 114 1 v' (gs.length + 1) (ptrV gs ++ [.pointer (some ⟨g, 0, none⟩)])) (hg : wr.grownBy w1 v.ownBlock) (hat : v'.ownBlock = v.ownBlock ∨ v'.ownBlock = some wr.heap.size) :
    MvsSt w0 (w1.setCell ⟨gp, 1, none⟩ v') gp A n c v' ss (gs ++ [g]) := by
  have h2 := h.hgp
  have hb := h.blk.lt
  have k1 : KeepB (fun b => v.ownBlock = some b) wr w1 := (KeepB.refl _ wr).grown hg fun k hk _ => hk
  have hne' : v'.ownBlock ≠ some gp := fun e => by
    rcases hat with h3 | h3
    · exact h.ne (by rw [← h3, e])
    · rw [h3] at e; injection e with e; omega
  have k2 : KeepB (fun b => v.ownBlock = some b ∨ b = gp) wr (w1.setCell ⟨gp, 1, none⟩ v') := (k1.mono fun _ h => .inl h).setCell _ _ fun _ => .inr rfl
  have hmk : ∀ {x : Nat} {m : Nat → Nat → Nat}, MvAt wr wr.heap.size x m → MvAt (w1.setCell ⟨gp, 1, none⟩ v') (w1.setCell ⟨gp, 1, none⟩ v').heap.size x m := fun {x m} hx => by
    obtain ⟨a1, a2⟩ := h.apart hx
    refine ⟨Nat.lt_of_lt_of_le hx.1 k2.size, fun q l hq hl => ?_⟩
    rw [World.cell?_of_block (w := wr) (k2.block x hx.1 fun e => e.elim a1 a2)]
    exact hx.2 q l hq hl
  refine ⟨?_, h2, (Below.heap_setCell _ _ _ _ (show w0.heap.size ≠ gp by omega)).trans (h.res.keep k1 fun hk => own_ne h.own h.res (by decide) _ hk rfl), ?_, ?_, fun e => by simp at e, fun i hi => ?_⟩
  · refine k2.below h.below h.below.size fun k hk => ?_
    rcases hk with hk | rfl
    · exact own_block h.own k hk
    · omega
  · have := (h.blk.keep k1 (fun hk => h.ne hk)).set_ 1 v'
    simpa using this
  · have e : (gs ++ [g]).length = gs.length + 1 := by simp
    rw [e]
    have := ownsRow_setCell_other (a := ⟨gp, 1, none⟩) hown hne' v'
    unfold ptrV at this ⊢
    rw [List.map_append]
    exact this
  · by_cases hlt : i < gs.length
    · obtain ⟨h', h3⟩ := h.mv i hlt
      refine ⟨h', ?_⟩
      rw [List.getElem_append_left hlt]
      exact hmk h3
    · obtain rfl : i = gs.length := by simp at hi; omega
      refine ⟨hl, ?_⟩
      rw [List.getElem_append_right (Nat.le_refl _)]
      simp only [Nat.sub_self, List.getElem_cons_zero]
      exact hmk hm
theorem MvAt.kp {K : Nat → Prop} {w w' : World} {g : Nat} {m : Nat → Nat → Nat} (h : MvAt w w.heap.size g m) (hk : KeepB K w w') (hg : ¬ K g) : MvAt w' w'.heap.size g m :=
  ⟨Nat.lt_of_lt_of_le h.1 hk.size, fun q l hq hl => by rw [World.cell?_of_block (w := w) (hk.block g h.1 hg)]; exact h.2 q l hq hl⟩
/-- What is left at the end: the moves, behind the store of the result. -/
theorem MvsSt.fin {w0 wr w' : World} {gp : Nat} {A : Option Addr} {n c : Nat} {v : Value} {ss : List Sy} {gs : List Nat} (h : MvsSt w0 wr gp A n c v ss gs) (hl : gs.length = ss.length) (hk : KeepB (fun b => b = w0.heap.size) wr w') : ∃ M cm, v = .slice M ss.length cm ∧ ss.length ≤ cm ∧ cm ≤ 9223372036854775807 ∧ MovesAt w' w'.heap.size M ss ∧ Below w0.heap.size w0 w' := by
  have hown := own_keep h.own hk fun g hg e => own_ne h.own h.res (by decide) g hg e
  obtain ⟨M, cm, hv, h1, h2⟩ := own_slice hown
  refine ⟨M, cm, by rw [hv, hl], by omega, h2, fun h0 => ?_, hk.below h.below h.below.size fun k e => by omega⟩
  obtain ⟨g', cap, hve, -, hlt, -, -, hcell⟩ := own_shape hown (by omega)
  rw [hv] at hve
  cases hve
  refine ⟨g', 0, rfl, hlt, fun i hi => ?_⟩
  obtain ⟨_, h4⟩ := h.mv i (by omega)
  refine ⟨gs[i]'(by omega), ?_, MvAt.kp h4 hk fun e => ?_⟩
  · rw [Nat.zero_add]
    have hz : (ptrV gs)[i]? = some (.pointer (some ⟨gs[i]'(by omega), 0, none⟩)) := by
      unfold ptrV
      rw [List.getElem?_map, List.getElem?_eq_getElem (by omega)]
      rfl
    have := hcell i _ hz
    simpa using this
  · have h5 := h4.2 0 0 (by omega) (by omega)
    have h6 := h.res.cell 0
    rw [e] at h5
    simp at h5 h6
    simp [h6] at h5

set_option maxRecDepth 100000 in
set_option maxHeartbeats 8000000 in
theorem newParts_any (ss : List Sy) (A : Option Addr) (c : Nat) (w : World) (hall : ss.all sysOk = true) (h3 : ss.length ≤ 3) (hl : ss.length ≤ c) (hc : c ≤ 9223372036854775807) (hr : SysAt w w.heap.size A ss) :
    Calls Tryd.prog 77 #[.slice A ss.length c] w fun e w' => ∃ (M : Option Addr) (cm : Nat), e = .returned (partsV A ss.length c M cm) ∧ ss.length ≤ cm ∧ cm ≤ 9223372036854775807 ∧ MovesAt w' w'.heap.size M ss ∧ Below w.heap.size w w' := by
  obtain ⟨i0, hi, hz0, hz1, hz2⟩ := info_parts infoPtrM
  replace hr := hid hr
  replace hall := hid hall
  obtain ⟨W0, hW0⟩ : ∃ W0, (w.alloc (.cells #[.slice none 0 0, .slice none 0 0] 98)).alloc (.cells #[.slice A ss.length c, .slice none 0 0] 98) = W0 := ⟨_, rfl⟩
  have hst0 : Hid (MvsSt w W0 (w.heap.size + 1) A ss.length c (.slice none 0 0) ss []) := hid (by
    rw [← hW0]
    refine ⟨((Below.refl _ _).alloc (Nat.le_refl _) _).alloc (by simp) _, by omega, (Blk.new _ _ _).alloc _, ?_, World.ownsRow_nil _ _ _ _, fun _ => rfl, fun i hi => absurd hi (by simp)⟩
    have := Blk.new (w.alloc (.cells #[.slice none 0 0, .slice none 0 0] 98)) 98 #[.slice A ss.length c, .slice none 0 0]
    simpa using this)
  replace hW0 := hid hW0
  go_enter Tryd.func77, Tryd.ntmps77
  go_wp2_with fail
  rw [hW0.out]
  clear hW0
  go_loopw [10] (fun iv wr => ∃ (v : Value) (gs : List Nat), iv = .int .i64 (gs.length : Nat) ∧ gs.length ≤ ss.length ∧ MvsSt w wr (w.heap.size + 1) A ss.length c v ss gs) (fun iv _ => ss.length - (intOf iv).toNat)
  case atStart => exact ⟨.slice none 0 0, [], rfl, Nat.zero_le _, hst0.out⟩
  case round =>
    clear hst0
    obtain ⟨v, gs, rfl, hi1, hst⟩ := hrel
    obtain ⟨Av, cv, rfl, hcv1, hcv2⟩ := own_slice hst.own
    by_cases hil : gs.length < ss.length
    · obtain ⟨b, o, Ai, ci, hAe, hbb, c0, c1, c2, hAl, hAc, hEd⟩ := (hr.out.later hst.below).get hil
      subst hAe
      have c0 := c0 wr (Below.refl _ _)
      have c1 := c1 wr (Below.refl _ _)
      have c2 := c2 wr (Below.refl _ _)
      have hin := hid (sysOk_in (List.all_eq_true.1 hall.out _ (List.getElem_mem hil)))
      obtain ⟨s, hs⟩ : ∃ s, Hid (s = ss[gs.length]) := ⟨_, hid rfl⟩
      rw [← hs.out] at c0 c1 c2 hAl hEd hin
      have k1 : (0 : Int) ≤ (gs.length : Int) ∧ (gs.length : Int) < (ss.length : Int) := by omega
      replace hEd := hid hEd
      replace hst := hid hst
      go_upto_region 5 with fail
      obtain ⟨w1, hw1, hz1', hB1, hS1⟩ := boxed wr #[.int .i64 s.al, .int .i64 s.st, .slice Ai s.es.length ci] 37
      rw [hw1]
      clear hw1
      have hst1 := hid (hst.out.later hB1)
      have hE1 := hid (EdsAt.later hEd.out hB1)
      have q0 := GK.BI.cell (hS1 0 _ rfl w1 (Below.refl _ _))
      have q1 := GK.BI.cell (hS1 1 _ rfl w1 (Below.refl _ _))
      have q2 := GK.BI.cell (hS1 2 _ rfl w1 (Below.refl _ _))
      have q3 := GK.BI.cell (show w1.cell? ⟨w.heap.size + 1, 1, none⟩ = some (.slice Av gs.length cv) from by have := hst1.out.blk.cell 1; simpa using this)
      clear hS1 c0 c1 c2
      refine GK.wp_region 5 [5, 6, 7] 200 (KeepB fun _ => False) (GK.BI w1) (fun _ u w' => ∃ g, u = .pointer (some ⟨g, 0, none⟩) ∧ MvAt w' w'.heap.size g (AG.mv s)) (by kernel_rfl) (by kernel_rfl) (GK.BI.way w1) (by decide) (Below.refl _ _).drew ?_
      simp only [List.take_succ_cons, List.take_zero]
      (repeat (refine GK.grow_quiet w1 (by rfl) (by rfl) ?_; intro K hK; go_big_quiet_op; go_big_quiet_on))
      refine GK.grow_call (by rfl) (fun u v v' hb h => ?_) (fun m wq hm hbq _ => ?_) fun u hu => ?_
      · obtain ⟨g, e, h⟩ := h
        exact ⟨g, e, MvAt.kp h hb fun h => h⟩
      · go_simp
        have hbq' : Below w1.heap.size w1 wq := hbq
        refine ⟨rfl, (movesOf_any s Ai ci wq hin.out hAl hAc (hE1.out.later hbq')).mono ?_⟩
        rintro e w3 ⟨g, rfl, hg, hb3⟩
        exact ⟨_, rfl, GK.BI.after hbq hb3, g, rfl, hg⟩
      obtain ⟨mx, wx, -, g, rfl, -⟩ := hu
      simp only [Act.put, List.setIfInBounds_toArray, List.set_cons_zero, List.set_cons_succ]
      refine GK.grow_new (K := fun _ => False) (by rfl) _ (fun b => .slice (some ⟨b, 0, none⟩) 1 1) 114 #[.pointer (some ⟨g, 0, none⟩)] (fun _ => by go_simp) rfl (fun _ _ o h => GK.BI.alloc o h) (fun _ _ h => GK.BI.size h) (fun _ h => h.elim) (fun b hb => ?_)
      simp only [Act.put, List.setIfInBounds_toArray, List.set_cons_zero, List.set_cons_succ]
      refine GK.grow_nil ?_
      intro w4 hw4 hf
      obtain ⟨g', hge, hge2, hblk⟩ := hf _ List.mem_cons_self
      cases hge
      obtain ⟨g2, e2, hmv⟩ := hf _ (List.mem_cons_of_mem _ List.mem_cons_self)
      cases e2
      clear hf q0 q1 q2 q3
      replace hw4 : Below w1.heap.size w1 w4 := hw4
      simp only [List.filterMap_cons, List.filterMap_nil, List.getElem?_cons_zero, List.getElem?_cons_succ]
      have hst4 := hid (hst1.out.later hw4)
      have z4 := hw4.size
      have hmv' := hid (show MvAt w4 w4.heap.size g (AG.mv ss[gs.length]) from by rw [← hs.out]; exact hmv)
      have hzz := hst4.out.below.size
      refine wpList_append_own_at _ (by rfl) _ _ 96 (by rfl) w.heap.size 114 i0 (.pointer none) 1 8 Tryd.underlying96 hi hz0 hz1 hz2 rfl (by decide) _ gs.length (ptrV gs) (by rfl) hst4.out.own ⟨b, 0, none⟩ 1 1 [.pointer (some ⟨g, 0, none⟩)] (by rfl) (by rfl) (World.news_of_block hblk) ?c1 ?c3 ?c4 ?c5 ?_
      case c1 => intro u hu; simp at hu; subst hu; rfl
      case c3 => unfold maxLen; omega
      case c4 => omega
      case c5 => omega
      intro v5 w5 hown5 hgrow hnil5 hat5
      obtain ⟨A5, c5, rfl, -, -⟩ := own_slice hown5
      have ag : (Value.slice Av gs.length cv).ownBlock ≠ some (w.heap.size + 1) := hst4.out.ne
      have hlt4 := hst4.out.blk.lt
      have c1' : w5.cell? ⟨w.heap.size + 1, 1, none⟩ = some (.slice Av gs.length cv) := by rw [hgrow.cell_far _ (by simpa using hlt4) (Ne.symm ag)]; have := hst4.out.blk.cell 1; simpa using this
      have f1' : w5.frozen? ⟨w.heap.size + 1, 1, none⟩ = false := by rw [hgrow.frozen_far _ (by simpa using hlt4) (Ne.symm ag)]; exact hst4.out.blk.frozen 1
      have h6 := hid (hst4.out.add hil hmv'.out hown5 hgrow hat5)
      replace hown5 := hid hown5
      replace hgrow := hid hgrow
      clear hnil5 hat5 hmv hblk
      go_wp2_with fail
      go_roundw
      case rel => exact ⟨_, gs ++ [g], by rw [List.length_append]; go_num, by rw [List.length_append]; simp; omega, h6.out⟩
      case measure => simp [intOf]; omega
    · have hle : gs.length = ss.length := by omega
      have r0 := hst.res.cell 0
      have r1 := hst.res.cell 1
      have f0 := hst.res.frozen 0
      have f1 := hst.res.frozen 1
      have p0 := hst.blk.cell 0
      have p1 := hst.blk.cell 1
      simp only [List.getElem?_toArray, List.getElem?_cons_zero, List.getElem?_cons_succ] at r0 r1 p0 p1
      replace hst := hid hst
      go_wp2_with fail
      obtain ⟨M, cm, hv, m1, m2, m3, m4⟩ := hst.out.fin hle (w' := (wr.setCell ⟨w.heap.size, 0, none⟩ (.slice A ss.length c)).setCell ⟨w.heap.size, 1, none⟩ (.slice Av ss.length cv)) (KeepB.setCell (K := fun b => b = w.heap.size) (KeepB.setCell (K := fun b => b = w.heap.size) (KeepB.refl _ wr) _ _ fun _ => rfl) _ _ fun _ => rfl)
      injection hv with hv1 hv2 hv3
      subst hv1
      subst hv3
      refine bodyPost_ret (v := partsV A ss.length c Av cv) (by simp [partsV, results, Tryd.results77, go_sem, r0, r1]) rfl ?_
      exact ⟨Av, cv, rfl, m1, m2, m3, m4⟩

set_option maxRecDepth 100000 in
set_option maxHeartbeats 8000000 in
theorem partsSize_any (ss : List Sy) (A M : Option Addr) (c cm : Nat) (w : World) (hall : ss.all sysOk = true) (h3 : ss.length ≤ 3) (hl : ss.length ≤ c) (hc : c ≤ 9223372036854775807) (hr : SysAt w w.heap.size A ss) :
    Calls Tryd.prog 83 #[partsV A ss.length c M cm] w fun e w' => e = .returned (.int .i64 (prodL (szP ss) : Nat)) ∧ Below w.heap.size w w' := by
  unfold partsV
  obtain ⟨w0, hw0, hzz0, hB0, hSb⟩ := boxed w #[.slice A ss.length c, .slice M ss.length cm] 98
  have hr0 := hid (hr.later hB0)
  have hSp := hid (fun w' (hb : Below w0.heap.size w0 w') => hSb 0 _ rfl w' (hb.mono hzz0))
  have p0 := hSp.out w0 (Below.refl _ _)
  replace hr := hid hr
  replace hall := hid hall
  clear hSb
  go_enter Tryd.func83, Tryd.ntmps83
  go_wp2_with fail
  clear hw0 p0
  go_loopw [3, 9] (fun sv iv wr => ∃ (i m : Nat), sv = .int .i64 (m : Nat) ∧ iv = .int .i64 (i : Nat) ∧ i ≤ ss.length ∧ m = prodT (szP ss) i ∧ Below w0.heap.size w0 wr) (fun _ iv _ => ss.length - (intOf iv).toNat)
  case atStart => exact ⟨0, 1, rfl, rfl, Nat.zero_le _, rfl, Below.refl _ _⟩
  case round =>
    obtain ⟨i, m, rfl, rfl, hi1, hm, hb⟩ := hrel
    have p0 := hSp.out wr hb
    by_cases hil : i < ss.length
    · obtain ⟨b, o, Ai, ci, hAe, hbb, c0, c1, c2, hAl, hAc, hEd⟩ := (hr0.out.later hb).get hil
      subst hAe
      have c0 := c0 wr (Below.refl _ _)
      have c1 := c1 wr (Below.refl _ _)
      have c2 := c2 wr (Below.refl _ _)
      have hst := sysOk_st (List.all_eq_true.1 hall.out _ (List.getElem_mem hil))
      obtain ⟨n, hn⟩ := Int.eq_ofNat_of_zero_le (show 0 ≤ ss[i].st by omega)
      rw [hn] at c1 hst
      have hn16 : n ≤ 16 := by omega
      have hml : m ≤ 4096 := by
        have h1 := prodT_le (ss := szP ss) (b := 16) (fun a ha => (szP_ok hall.out a ha).2) (by decide) i
        have h2 : 16 ^ i ≤ 16 ^ 3 := Nat.pow_le_pow_right (by decide) (by omega)
        omega
      have hmn : m * n ≤ 65536 := by
        have := Nat.mul_le_mul hml hn16
        omega
      obtain ⟨P, hP⟩ : ∃ P, Hid (P = m * n) := ⟨_, hid rfl⟩
      rw [← hP.out] at hmn
      have f1 : (m : Int) * (n : Int) = (P : Int) := by rw [hP.out, Int.natCast_mul]
      have f2 : IntKind.i64.wrap ((m : Int) * (n : Int)) = (P : Int) := by rw [f1]; exact IntWalk.i64_in _ (by omega)
      have f3 : wrap64 ((m : Int) * (n : Int)) = (P : Int) := by rw [f1]; exact IntWalk.wrap64_in _ ⟨by omega, by omega⟩
      have hwP : Hid (wrap64 (P : Int) = (P : Int)) := hid (IntWalk.wrap64_in _ ⟨by clear f1 f2 f3; omega, by clear f1 f2 f3; omega⟩)
      have hnx : Hid (P = prodT (szP ss) (i + 1)) := hid (by
        rw [hP.out, prodT, ← hm]
        unfold szP
        rw [List.getD_eq_getElem?_getD, List.getElem?_map, List.getElem?_eq_getElem hil]
        simp [hn])
      have k1 : (0 : Int) ≤ (i : Int) ∧ (i : Int) < (ss.length : Int) := by omega
      have hba : Below w0.heap.size w0 (wr.alloc (.cells #[.int .i64 ss[i].al, .int .i64 (n : Int), .slice Ai ss[i].es.length ci] 37)) := hb.alloc hb.size _
      have hbb' := hid hba
      replace hm := hid hm
      replace hn := hid hn
      replace hEd := hid hEd
      clear hst hba
      go_wp2_with fail
      go_roundw
      case rel => exact ⟨i + 1, P, by rw [hwP.out], by go_num, by omega, hnx.out, by first | exact hbb'.out | (simp; done)⟩
      case measure => simp [intOf]; omega
    · obtain rfl : i = ss.length := by omega
      have hfin : Hid (m = prodL (szP ss)) := hid (by rw [hm, ← prodT_all]; unfold szP; rw [List.length_map])
      have hB := hB0.trans (hb.mono hB0.size)
      replace hm := hid hm
      go_wp2_with fail
      go_ret
      exact ⟨by rw [← hfin.out]; rfl, hB⟩

end Go.Proofs.YtjhlbeamfngebaaDoor

/- The program's search: firstPath, its steps a method value. Printed by tools/gen_w57.py. -/
namespace Go.Proofs.YtjhlbeamfngebaaDoor
open Go.RowKit Go.BigFrame AG

/-- The steps of a search, as a function value: it appends to a list the nodes to which a letter leads. -/
structure NextOkB (w : World) (size : Nat) (L : List Nat) (nx : Nat → Nat → List Nat) (fN : FuncId) (bndN capN : Array Value) : Prop where
  run : ∀ args w', (callFunc fN args).run Tryd.prog w' = .ok (.enter fN args) w'
  lt : ∀ q, q < size → ∀ l ∈ L, ∀ n ∈ nx q l, n < size
  len : ∀ q, q < size → ∀ l ∈ L, (nx q l).length ≤ 4096
  call : ∀ w' (q l : Nat) (v : Value) (ns : List Nat) (base : Nat), Below w.heap.size w w' → q < size → l ∈ L → ns.length ≤ 4294967296 → w.heap.size ≤ base → base ≤ w'.heap.size → w'.ownsRow base 3 1 v ns.length (natVals ns) →
    Calls Tryd.prog fN (bndN ++ (#[.int .i64 (q : Nat), .int .i64 (l : Nat), v] ++ capN)) w' fun e w'' => ∃ v', e = .returned v' ∧ w''.ownsRow base 3 1 v' (ns ++ nx q l).length (natVals (ns ++ nx q l)) ∧ KeepB (fun b => v.ownBlock = some b) w' w''


set_option maxRecDepth 100000 in
set_option maxHeartbeats 8000000 in
theorem firstPathB_any (w : World) (size : Nat) (G : Nat → Bool) (fG : FuncId) (capG : Array Value) (hG : GoalOk w size G fG capG) (L : List Nat) (hL : L.Pairwise (· < ·)) (hL6 : ∀ l ∈ L, l < 6) (nx : Nat → Nat → List Nat) (fN : FuncId) (bndN capN : Array Value) (hN : NextOkB w size L nx fN bndN capN)
    (I0 : List Nat) (h0 : I0 ≠ []) (hI : ∀ n ∈ I0, n < size) (hIl : I0.length ≤ 4294967296) (sv lv : Value) (hsv : w.ownsRow 0 3 1 sv I0.length (natVals I0)) (hlv : w.ownsRow 0 3 1 lv L.length (natVals L)) (hsz : size ≤ 1048576) :
    Calls Tryd.prog 82 #[.int .i64 (size : Nat), sv, lv, .func (.func fN) bndN capN, .func (.func fG) #[] capG] w fun e w' => ∃ o, e = .returned (pathV o) ∧ PathPost (fun n => n ∈ I0) L nx (fun n => G n = true) o ∧ Below w.heap.size w w' := by
  obtain ⟨i0, hi, hz0, hz1, hz2⟩ := info_parts infoBoolF
  have hmk := fun W => run_make_rowN (P := Tryd.prog) 24 4 i0 _ Tryd.underlying24 hi hz0 .i64 .i64 size size (Nat.le_refl _) (by rw [hz2]; omega) (by omega) W
  obtain ⟨lA, lc, rfl, hlc, hlc'⟩ := own_slice hlv
  have hLlen : L.length ≤ 6 := by
    have := nodup_bound 6 L (hL.imp fun h => Nat.ne_of_lt h) hL6
    exact this
  replace hsv := hid hsv
  replace hlv := hid hlv
  replace hI := hid hI
  go_enter Tryd.func82, Tryd.ntmps82
  go_wp2_with fail
  obtain ⟨w4, hw4, hb4, hst4⟩ := fp_start w size (.func (.func fG) #[] capG)
  rw [hw4]
  have hz4 : w.heap.size + 1 + 1 + 1 < w4.heap.size := by rw [← hw4]; simp
  clear hw4 hmk
  generalize hbS : w.heap.size + 1 + 1 = bS at *
  generalize hbP : bS + 1 = bP at *
  generalize hgS : w.heap.size + 1 = gS at *
  replace hbS := hid hbS
  replace hbP := hid hbP
  replace hgS := hid hgS
  clear hz4
  have hz4 := hb4.size
  have hsv4 := hid (own_keep hsv.out (.of_below (K := fun _ => False) hb4) fun _ _ h => h)
  replace hst4 := hid hst4
  refine (visit_any w size G fG capG hG bS w.heap.size bP gS (.slice none 0 0) [] (fun _ => false) (-1) 0 sv I0 w4 hst4.out hsv4.out hI.out hIl (by simp)).mono ?_
  rintro e w5 ⟨rfl, sv5, ss5, hst5, hss5, hkp5⟩
  have hb5 : Below w.heap.size w w5 := hst5.below
  obtain ⟨fr0, hfr0⟩ : ∃ fr, fr = frs (fun _ => false) I0 := ⟨_, rfl⟩
  rw [← hfr0] at hst5 hss5 ⊢
  have hf0ne : fr0 ≠ [] := by
    intro e
    obtain ⟨a, ha⟩ := List.exists_mem_of_ne_nil _ h0
    have := (frs_mem (fun _ => false) I0 a).2 ⟨ha, rfl⟩
    rw [← hfr0, e] at this
    cases this
  cases hg0 : fr0.any G
  · obtain ⟨A0, c0, rfl⟩ : ∃ A c, ss5 = [⟨⟨-1, 0, fr0⟩, A, c⟩] := by
      rcases hss5 with ⟨e, _⟩ | ⟨_, A, c, e⟩
      · exact absurd e hf0ne
      · exact ⟨A, c, by simpa using e⟩
    have hSB0 : Hid (SB (fun n => n ∈ I0) L nx G size [⟨-1, 0, fr0⟩] [[]] (fun n => fr0.contains n) 0 0) := hid (by
      rw [hfr0]
      exact SB.begin h0 hI.out (by rw [← hfr0]; exact hg0))
    have hst5' : Hid (FPst w w5 size (.func (.func fG) #[] capG) bS w.heap.size bP gS sv5 [⟨⟨-1, 0, fr0⟩, A0, c0⟩] (fun n => fr0.contains n)) := hid (by simpa using hst5)
    replace hfr0 := hid hfr0
    replace hss5 := hid hss5
    replace hst5 := hid hst5
    replace hf0ne := hid hf0ne
    replace h0 := hid h0
    replace hg0 := hid hg0
    replace hkp5 := hid hkp5
    go_wp2_with (rw [hg0.out])
    go_loopw [15] (fun iv wr => ∃ (i : Nat) (sv : Value) (ss : List StV) (ws : List (List Nat)) (S : Nat → Bool), iv = .int .i64 i ∧ i ≤ ss.length ∧ SrchAt w size G L nx I0 (.func (.func fG) #[] capG) bS w.heap.size bP gS wr i 0 sv ss ws S) (fun iv _ => size + 1 - (intOf iv).toNat)
    case atStart => exact ⟨0, sv5, _, _, _, rfl, by simp, hst5'.out, hSB0.out⟩
    case round =>
      obtain ⟨i, sv, ss, ws, S, rfl, hi, hst, hSB⟩ := hrel
      have hbd := hSB.bound
      have hpos := hSB.bfs.pos
      have hwl := hSB.bfs.len
      simp only [List.length_map] at hbd hpos hwl
      have p0 := hst.blkP.cell 0
      simp only [List.getElem?_toArray, List.getElem?_cons_zero] at p0
      obtain ⟨gv, cv, rfl, hgv, hgv', hcv, hcv', hcell⟩ := own_steps hst.own hpos
      replace hst := hid hst
      replace hSB := hid hSB
      replace hcell := hid hcell
      by_cases hlt : i < ss.length
      · go_wp2_with fail
        go_loopw [35] (fun kv wr => ∃ (k : Nat) (sv : Value) (ss : List StV) (ws : List (List Nat)) (S : Nat → Bool), kv = .int .i64 k ∧ k ≤ L.length ∧ i < ss.length ∧ SrchAt w size G L nx I0 (.func (.func fG) #[] capG) bS w.heap.size bP gS wr i k sv ss ws S) (fun kv _ => L.length - (intOf kv).toNat)
        case atStart => exact ⟨0, _, _, _, _, rfl, by omega, hlt, hst.out, hSB.out⟩
        case round =>
          clear hcell hst hSB p0 hgv hgv' hcv hcv' hbd hpos hwl
          obtain ⟨k, sv, ss, ws, S, rfl, hk, hi', hst, hSB⟩ := hrel
          have hbd := hSB.bound
          have hpos := hSB.bfs.pos
          have hwl := hSB.bfs.len
          simp only [List.length_map] at hbd hpos hwl
          by_cases hkl : k < L.length
          · have hlw := own_keep hlv.out (.of_below (K := fun _ => False) hst.below) fun _ _ h => h
            obtain ⟨gl, cl, hve, -, -, -, -, hlcell⟩ := own_shape hlw (by omega)
            injection hve with hv1 hv2 hv3
            subst hv1
            subst hv3
            have l0 := hlcell k _ (show (natVals L)[k]? = some (.int .i64 (L[k] : Nat)) from by unfold natVals; simp [hkl])
            have hlL : L[k] ∈ L := List.getElem_mem hkl
            obtain ⟨l, hll⟩ : ∃ l, l = L[k] := ⟨_, rfl⟩
            rw [← hll] at l0 hlL
            have p0 := hst.blkP.cell 0
            simp only [List.getElem?_toArray, List.getElem?_cons_zero] at p0
            obtain ⟨gv, cv, rfl, hgv, hgv', hcv, hcv', hcell⟩ := own_steps hst.own hpos
            obtain ⟨-, -, c2⟩ := hcell i hi'
            have hnodes := hst.nodes ss[i] (List.getElem_mem hi')
            have hnsz : ss[i].st.nodes.length ≤ size := hSB.nodesLen (x := ss[i].st) (List.mem_map.2 ⟨_, List.getElem_mem hi', rfl⟩)
            have hnlt : ∀ n ∈ ss[i].st.nodes, n < size := hSB.small ss[i].st (List.mem_map.2 ⟨_, List.getElem_mem hi', rfl⟩)
            obtain ⟨ns, hnse⟩ : ∃ ns, ns = ss[i].st.nodes := ⟨_, rfl⟩
            obtain ⟨nA, hnA⟩ : ∃ nA, nA = ss[i].A := ⟨_, rfl⟩
            obtain ⟨nc, hnc⟩ : ∃ nc, nc = ss[i].c := ⟨_, rfl⟩
            rw [← hnse, ← hnA, ← hnc] at c2 hnodes
            rw [← hnse] at hnsz hnlt
            replace hll := hid hll
            replace hnse := hid hnse
            replace hnA := hid hnA
            replace hnc := hid hnc
            replace hst := hid hst
            replace hSB := hid hSB
            replace hcell := hid hcell
            replace hlcell := hid hlcell
            replace hlw := hid hlw
            replace hnodes := hid hnodes
            replace hnlt := hid hnlt
            have i1 : (0 : Int) ≤ (i : Int) := by omega
            have i2 : (i : Int) < (ss.length : Int) := by omega
            have hrun := hN.run
            obtain ⟨wo, rfl⟩ : ∃ wo : World, wo = wr := ⟨_, rfl⟩
            go_wp2_with fail
            go_loopw [18, 45] (fun rv jv wr2 => ∃ j : Nat, jv = .int .i64 j ∧ j ≤ ns.length ∧ wr2.ownsRow wo.heap.size 3 1 rv (reachedL nx l (ns.take j)).length (natVals (reachedL nx l (ns.take j))) ∧ Below wo.heap.size wo wr2) (fun _ jv _ => ns.length - (intOf jv).toNat)
            case atStart => exact ⟨0, rfl, by omega, World.ownsRow_nil _ _ _ _, Below.refl _ _⟩
            case round =>
              obtain ⟨j, rfl, hj, hown, hbo⟩ := hrel
              by_cases hjl : j < ns.length
              · have hnr := own_keep hnodes.out (.of_below (K := fun _ => False) hbo) fun _ _ h => h
                obtain ⟨gn, cn, hve, -, -, -, -, hncell⟩ := own_shape hnr (by omega)
                injection hve with hv1 hv2 hv3
                subst hv1
                subst hv3
                have n0 := hncell j _ (show (natVals ns)[j]? = some (.int .i64 (ns[j] : Nat)) from by unfold natVals; simp [hjl])
                have hql := hnlt.out ns[j] (List.getElem_mem hjl)
                have htk := reachedL_snoc (nx := nx) l (ns.take j) ns[j]
                rw [← List.take_succ_eq_append_getElem hjl] at htk
                obtain ⟨q, hq⟩ : ∃ q, q = ns[j] := ⟨_, rfl⟩
                rw [← hq] at n0 hql htk
                have hrl : (reachedL nx l (ns.take j)).length ≤ 4294967296 := by
                  refine Nat.le_trans (reachedL_len (size := size) fun x hx => hN.len x (hnlt.out x (List.mem_of_mem_take hx)) l hlL) ?_
                  have : (ns.take j).length ≤ 1048576 := by simp; omega
                  omega
                have hbw := hst.out.below.trans (hbo.mono hst.out.below.size)
                have hz1 := hst.out.below.size
                have hz2 := hbo.size
                replace hnr := hid hnr
                replace hncell := hid hncell
                replace hq := hid hq
                replace htk := hid htk
                replace hown := hid hown
                replace hrl := hid hrl
                go_wp2_with fail
                refine (hN.call _ q l _ _ wo.heap.size hbw hql hlL hrl.out hz1 hz2 hown.out).mono ?_
                rintro e w6 ⟨v6, rfl, hown6, hkp6⟩
                have hb6 : Hid (Below wo.heap.size wo w6) := hid (hkp6.below hbo hz2 fun b hb => own_block hown.out b hb)
                replace hown6 := hid hown6
                replace hkp6 := hid hkp6
                go_wp2_with fail
                go_roundw
                case rel => exact ⟨j + 1, by go_num, by omega, by rw [htk.out]; exact hown6.out, hb6.out⟩
                case measure => simp [intOf]; omega
              · have htk : ns.take j = ns := List.take_of_length_le (by omega)
                rw [htk] at hown
                have hbw := hst.out.below.trans (hbo.mono hst.out.below.size)
                have hst2 := hid (hst.out.later hbo)
                obtain ⟨R, hR⟩ : ∃ R, R = reachedL nx l ns := ⟨_, rfl⟩
                rw [← hR] at hown
                have hRl : R.length ≤ 4294967296 := by
                  rw [hR]
                  refine Nat.le_trans (reachedL_len (size := size) fun x hx => hN.len x (hnlt.out x hx) l hlL) ?_
                  omega
                have hRs : Hid (∀ n ∈ R, n < size) := hid fun n hn => by
                  rw [hR] at hn
                  obtain ⟨q, hq, hnq⟩ := reachedL_mem.1 hn
                  exact hN.lt q (hnlt.out q hq) l hlL n hnq
                replace htk := hid htk
                replace hR := hid hR
                have hown0 := hid (own_base hown (Nat.zero_le _))
                replace hown := hid hown
                go_wp2_with fail
                refine (visit_any w size G fG capG hG bS w.heap.size bP gS _ ss S (i : Int) l _ R wr hst2.out hown0.out hRs.out hRl (by omega)).mono ?_
                rintro e w7 ⟨rfl, sv7, ss7, hst7, hss7, hkp7⟩
                have hwi : i < ws.length := by omega
                obtain ⟨fr, hfr⟩ : ∃ fr, fr = frs S R := ⟨_, rfl⟩
                rw [← hfr] at hst7 hss7 ⊢
                have hil : i < (ss.map (fun x : StV => x.st)).length := by simpa using hi'
                have hfr' : Hid (fr = frs S (reachedL nx (L[k]'hkl) ((ss.map (fun x : StV => x.st))[i]'hil).nodes)) := hid (by
                  rw [hfr, hR.out, hnse.out, hll.out, List.getElem_map])
                replace hil := hid hil
                replace hfr := hid hfr
                replace hkp7 := hid hkp7
                cases hg : fr.any G
                · have hnx : Hid (∃ ws' , SrchAt w size G L nx I0 (.func (.func fG) #[] capG) bS w.heap.size bP gS w7 i (k + 1) sv7 ss7 ws' (fun n => S n || fr.contains n) ∧ i < ss7.length) := hid (by
                    rcases hss7 with ⟨e, rfl⟩ | ⟨hne, A7, c7, rfl⟩
                    · refine ⟨ws, ⟨hst7, ?_⟩, hi'⟩
                      have := hSB.out.old hL hil.out hkl (by rw [← hfr'.out]; exact e)
                      have hS : (fun n => S n || fr.contains n) = S := by funext n; rw [e]; simp
                      rw [hS]
                      exact this
                    · have := hSB.out.add hL hil.out hwi hkl (fun q hq n hn => hN.lt q hq _ (List.getElem_mem hkl) n hn) hfr'.out hne hg
                      refine ⟨ws ++ [l :: ws[i]], ⟨hst7, ?_⟩, by simp; omega⟩
                      rw [List.map_append, hll.out]
                      exact this)
                  replace hst7 := hid hst7
                  replace hss7 := hid hss7
                  replace hg := hid hg
                  go_wp2_with (rw [hg.out])
                  go_roundw
                  case rel =>
                    obtain ⟨ws', h1, h2⟩ := hnx.out
                    exact ⟨k + 1, sv7, ss7, ws', _, by go_num, by omega, h2, h1⟩
                  case measure => simp [intOf]; omega
                · have hF := hid (hSB.out.found hL hil.out hwi hkl (by rw [← hfr'.out]; exact hg))
                  obtain ⟨A7, c7, rfl⟩ : ∃ A c, ss7 = ss ++ [⟨⟨i, l, fr⟩, A, c⟩] := by
                    rcases hss7 with ⟨e, _⟩ | ⟨_, A, c, e⟩
                    · rw [e] at hg; cases hg
                    · exact ⟨A, c, e⟩
                  have hpath := hid (PathOk.add (PathOk.of hSB.out.bfs hL6) hwi (hL6 l hlL) ⟨⟨i, l, fr⟩, A7, c7⟩ rfl rfl)
                  obtain ⟨n, hn⟩ : ∃ n, ss.length = n + 1 := ⟨ss.length - 1, by omega⟩
                  have p7 := hst7.blkP.cell 0
                  simp only [List.getElem?_toArray, List.getElem?_cons_zero] at p7
                  obtain ⟨g7, d7, rfl, hg7, hg7', hd7, hd7', hcell7⟩ := own_steps hst7.own (by simp)
                  have hb7 := hst7.below
                  have hlast : Hid ((ws ++ [l :: ws[i]])[n + 1]'(by simp; omega) = l :: ws[i]) := hid (by
                    have : n + 1 = ws.length := by omega
                    simp [this])
                  have hword : Hid (L[k] :: ws[i] = l :: ws[i]) := hid (by rw [hll.out])
                  replace hst7 := hid hst7
                  replace hss7 := hid hss7
                  replace hg := hid hg
                  have hn' := hid (show (ss ++ [(⟨⟨i, l, fr⟩, A7, c7⟩ : StV)]).length = n + 2 by simp; omega)
                  have hc7 := hid (show ∀ j (hj : j < (ss ++ [(⟨⟨i, l, fr⟩, A7, c7⟩ : StV)]).length), w7.cell? ⟨g7, j * 3, none⟩ = some (.int .i64 (ss ++ [(⟨⟨i, l, fr⟩, A7, c7⟩ : StV)])[j].st.par) ∧ w7.cell? ⟨g7, j * 3 + 1, none⟩ = some (.int .i64 ((ss ++ [(⟨⟨i, l, fr⟩, A7, c7⟩ : StV)])[j].st.let_ : Nat)) from fun j hj => ⟨(hcell7 j hj).1, (hcell7 j hj).2.1⟩)
                  have hls := hid (show (ss ++ [(⟨⟨i, l, fr⟩, A7, c7⟩ : StV)]).length ≤ 4294967296 by simp; omega)
                  have hwl' := hid (show n + 1 < (ws ++ [l :: ws[i]]).length by simp; omega)
                  replace hcell7 := hid hcell7
                  replace hn := hid hn
                  replace hd7 := hid hd7
                  go_wp2_with (rw [hg.out])
                  refine (pathWord_any (ss ++ [⟨⟨i, l, fr⟩, A7, c7⟩]) (ws ++ [l :: ws[i]]) g7 d7 n _ w7 hn'.out hn'.out hls.out hpath.out hwl'.out hd7.out hd7' hg7' hc7.out).mono ?_
                  rintro e w8 ⟨he, hb8⟩
                  rw [hlast.out] at he
                  subst he
                  have hb9 := hb7.trans (hb8.mono hb7.size)
                  go_wp2_with fail
                  go_ret2
                  exact ⟨some (l :: ws[i]), rfl, by rw [← hword.out]; exact hF.out, hb9⟩
          · have hov := hid (show SrchAt w size G L nx I0 (.func (.func fG) #[] capG) bS w.heap.size bP gS wr (i + 1) 0 sv ss ws S from ⟨hst, hSB.over (by omega)⟩)
            replace hst := hid hst
            replace hSB := hid hSB
            go_wp2_with fail
            go_roundw
            case rel => exact ⟨i + 1, sv, ss, ws, S, by go_num, by omega, hov.out⟩
            case measure => simp [intOf]; omega
      · have hN := hid (show ∀ q n, RW (fun n => n ∈ I0) L nx q n → ¬ G n = true from by
          have := hSB.out
          obtain rfl : i = (ss.map (·.st)).length := by simp; omega
          exact this.none)
        have hbf := hst.out.below
        go_wp2
        go_ret2
        exact ⟨none, rfl, hN.out, hbf⟩
  · have hfin := hid (first_now (L := L) (nx := nx) (G := G) (I0 := I0) (by rw [← hfr0]; exact hg0))
    replace hfr0 := hid hfr0
    replace hss5 := hid hss5
    replace hst5 := hid hst5
    replace hf0ne := hid hf0ne
    replace h0 := hid h0
    replace hkp5 := hid hkp5
    go_wp2_with fail
    go_ret2
    exact ⟨some [], rfl, hfin.out, hb5⟩

end Go.Proofs.YtjhlbeamfngebaaDoor

/- The program's DeadlockOf. -/
namespace Go.Proofs.YtjhlbeamfngebaaDoor
open Go.RowKit Go.BigFrame AG

/-- Systems that run together, as the program keeps them: in a block, with their moves. -/
structure PartsAt (w : World) (bP : Nat) (ss : List Sy) (A M : Option Addr) (c cm : Nat) : Prop where
  tab : Tab w
  all : ss.all sysOk = true
  len3 : ss.length ≤ 3
  lc : ss.length ≤ c
  hc : c ≤ 9223372036854775807
  lm : ss.length ≤ cm
  hcm : cm ≤ 9223372036854775807
  sys : SysAt w w.heap.size A ss
  mvs : MovesAt w w.heap.size M ss
  c0 : w.cell? ⟨bP, 0, none⟩ = some (.slice A ss.length c)
  c1 : w.cell? ⟨bP, 1, none⟩ = some (.slice M ss.length cm)
theorem PartsAt.later {w w' : World} {bP : Nat} {ss : List Sy} {A M : Option Addr} {c cm : Nat} (h : PartsAt w bP ss A M c cm) (hb : Below w.heap.size w w') : PartsAt w' bP ss A M c cm :=
  ⟨h.tab.later hb, h.all, h.len3, h.lc, h.hc, h.lm, h.hcm, h.sys.later hb, h.mvs.later hb, (hb.cell (World.block_lt_of_cell? _ _ h.c0)).trans h.c0, (hb.cell (World.block_lt_of_cell? _ _ h.c1)).trans h.c1⟩

set_option maxRecDepth 100000 in
set_option maxHeartbeats 4000000 in
theorem stuckL_any (ss : List Sy) (A M : Option Addr) (c cm node l bP bN : Nat) (w : World) (hP : PartsAt w bP ss A M c cm) (hl6 : l < 6) (hnode : node < 4096) (hN : w.cell? ⟨bN, 0, none⟩ = some (.int .i64 (node : Nat))) :
    Calls Tryd.prog 80 #[.int .i64 (l : Nat), .pointer (some ⟨bP, 0, none⟩), .pointer (some ⟨bN, 0, none⟩)] w fun e w' => e = .returned (.bool (!(nxParts ss node l).isEmpty)) ∧ Below w.heap.size w w' := by
  have c0 := hP.c0
  have c1 := hP.c1
  replace hP := hid hP
  go_enter Tryd.func80, Tryd.ntmps80
  go_wp2_with fail
  refine (partsNext_any ss A M c cm node l w.heap.size (.slice none 0 0) [] w hP.out.all hP.out.len3 hl6 hnode hP.out.lc hP.out.hc hP.out.lm hP.out.hcm (by simp) hP.out.tab hP.out.sys hP.out.mvs (Nat.le_refl _) (World.ownsRow_nil _ _ _ _)).mono ?_
  rintro e w1 ⟨v', rfl, hown, hk⟩
  rw [List.nil_append] at hown
  have hb1 : Below w.heap.size w w1 := hk.below (Below.refl _ _) (Nat.le_refl _) fun k h => by cases h
  obtain ⟨A1, cx, rfl, -, -⟩ := own_slice hown
  obtain ⟨n, hn⟩ : ∃ n, Hid (n = (nxParts ss node l).length) := ⟨_, hid rfl⟩
  have hfin : Hid (decide ((0 : Int) < (n : Int)) = !(nxParts ss node l).isEmpty) := hid (by
    rw [hn.out]
    cases nxParts ss node l with
    | nil => rfl
    | cons a b => simp)
  rw [← hn.out]
  clear hown hk
  go_wp2_with fail
  go_ret
  exact ⟨ret_bool (by rw [← hfin.out]; simp), hb1⟩

set_option maxRecDepth 100000 in
set_option maxHeartbeats 4000000 in
theorem indexStuck_any (ss : List Sy) (A M : Option Addr) (c cm node bP bN : Nat) (L : List Nat) (AL : Option Addr) (cL : Nat) (w : World) (hP : PartsAt w bP ss A M c cm) (hL : ∀ l ∈ L, l < 6) (hnode : node < 4096) (hN : w.cell? ⟨bN, 0, none⟩ = some (.int .i64 (node : Nat))) (hlc : L.length ≤ cL) (hcL : cL ≤ 9223372036854775807) (hr : NatsAt w w.heap.size AL L) :
    Calls Tryd.prog 140 #[.slice AL L.length cL, .func (.func 80) #[] #[.pointer (some ⟨bP, 0, none⟩), .pointer (some ⟨bN, 0, none⟩)]] w (IdxPost (!stuckP ss L node) w) := by
  replace hP := hid hP
  replace hN := hid hN
  replace hr := hid hr
  replace hL := hid hL
  go_enter Tryd.func140, Tryd.ntmps140
  go_wp2_with fail
  go_loopw [8] (fun i wr => ∃ k : Nat, i = .int .i64 k ∧ k ≤ L.length ∧ stuckP ss (L.take k) node = true ∧ Below w.heap.size w wr) (fun i _ => L.length - (intOf i).toNat)
  case atStart => exact ⟨0, rfl, by omega, by simp [stuckP], Below.refl _ _⟩
  case round =>
    obtain ⟨k, rfl, hk, hok, hb⟩ := hrel
    by_cases hlt : k < L.length
    · obtain ⟨b, o, hA, hB, hE⟩ := hr.out (by omega)
      subst hA
      have e0 := hE k hlt
      rw [← hb.cell (by simpa using hB)] at e0
      have hts := hid (show stuckP ss (L.take (k + 1)) node = (nxParts ss node L[k]).isEmpty from by
        unfold stuckP at hok ⊢
        rw [List.take_succ_eq_append_getElem hlt, List.all_append, hok]
        simp)
      have hl6 := hL.out _ (List.getElem_mem hlt)
      have hPr := hid (hP.out.later hb)
      have hNr := hid ((hb.cell (World.block_lt_of_cell? _ _ hN.out)).trans hN.out)
      have k1 : (0 : Int) ≤ (k : Int) ∧ (k : Int) < (L.length : Int) := by omega
      have hfalse := hid (fun (h : (nxParts ss node L[k]).isEmpty = false) => (show stuckP ss L node = false from by
        unfold stuckP
        rw [List.all_eq_false]
        exact ⟨L[k], List.getElem_mem _, by rw [h]; simp⟩))
      obtain ⟨l, hl⟩ : ∃ l, Hid (l = L[k]) := ⟨_, hid rfl⟩
      rw [← hl.out] at e0 hts hl6 hfalse
      replace hok := hid hok
      replace hE := hid hE
      obtain ⟨t, ht⟩ : ∃ t, Hid (t = (nxParts ss node l).isEmpty) := ⟨_, hid rfl⟩
      rw [← ht.out] at hts hfalse
      have hcall := hid (stuckL_any ss A M c cm node l bP bN wr hPr.out hl6 hnode hNr.out)
      rw [← ht.out] at hcall
      cases t
      · go_wp2_with (go_at_call 80; refine hcall.out.mono ?_; rintro e w' ⟨rfl, hb'⟩)
        go_ret
        refine ⟨k, rfl, ?_, hb.trans (hb'.mono hb.size)⟩
        rw [hfalse.out trivial]
        simp
      · go_wp2_with (go_at_call 80; refine hcall.out.mono ?_; rintro e w' ⟨rfl, hb'⟩)
        go_roundw
        case rel => exact ⟨k + 1, by go_num, by omega, hts.out, hb.trans (hb'.mono hb.size)⟩
        case measure => simp [intOf]; omega
    · replace hok := hid hok
      go_wp2
      go_ret
      refine ⟨-1, rfl, ?_, hb⟩
      have : stuckP ss L node = true := by have := hok.out; rwa [List.take_of_length_le (by omega)] at this
      rw [this]
      simp

set_option maxRecDepth 100000 in
set_option maxHeartbeats 4000000 in
theorem containsStuck_any (ss : List Sy) (A M : Option Addr) (c cm node bP bN : Nat) (L : List Nat) (AL : Option Addr) (cL : Nat) (w : World) (hP : PartsAt w bP ss A M c cm) (hL : ∀ l ∈ L, l < 6) (hnode : node < 4096) (hN : w.cell? ⟨bN, 0, none⟩ = some (.int .i64 (node : Nat))) (hlc : L.length ≤ cL) (hcL : cL ≤ 9223372036854775807) (hr : NatsAt w w.heap.size AL L) :
    Calls Tryd.prog 79 #[.slice AL L.length cL, .func (.func 80) #[] #[.pointer (some ⟨bP, 0, none⟩), .pointer (some ⟨bN, 0, none⟩)]] w fun e w' => e = .returned (.bool (!stuckP ss L node)) ∧ Below w.heap.size w w' := by
  have hcall := hid (indexStuck_any ss A M c cm node bP bN L AL cL w hP hL hnode hN hlc hcL hr)
  replace hP := hid hP
  replace hN := hid hN
  replace hr := hid hr
  go_enter Tryd.func79, Tryd.ntmps79
  go_wp2_with fail
  refine hcall.out.mono ?_
  rintro e w' ⟨r, rfl, hr', hb⟩
  replace hr' := hid hr'
  go_wp2
  go_ret
  exact ⟨by rw [← hr'.out]; rfl, hb⟩

set_option maxRecDepth 100000 in
set_option maxHeartbeats 4000000 in
theorem stuckG_any (ss : List Sy) (A M : Option Addr) (c cm node bP bL : Nat) (L : List Nat) (AL : Option Addr) (cL : Nat) (w : World) (hP : PartsAt w bP ss A M c cm) (hL : ∀ l ∈ L, l < 6) (hnode : node < 4096) (hbL : w.cell? ⟨bL, 0, none⟩ = some (.slice AL L.length cL)) (hlc : L.length ≤ cL) (hcL : cL ≤ 9223372036854775807) (hr : NatsAt w w.heap.size AL L) :
    Calls Tryd.prog 78 #[.int .i64 (node : Nat), .pointer (some ⟨bL, 0, none⟩), .pointer (some ⟨bP, 0, none⟩)] w fun e w' => e = .returned (.bool (stuckP ss L node)) ∧ Below w.heap.size w w' := by
  obtain ⟨w0, hw0, hzz0, hB0, hSb⟩ := boxed w #[.int .i64 (node : Nat)] 3
  have hN0 := hid (hSb 0 _ rfl w0 (Below.refl _ _))
  have hcall := hid (containsStuck_any ss A M c cm node bP w.heap.size L AL cL w0 (hP.later hB0) hL hnode hN0.out hlc hcL (hr.later hB0))
  have c0 := (hB0.cell (World.block_lt_of_cell? _ _ hbL)).trans hbL
  replace hP := hid hP
  replace hr := hid hr
  replace hbL := hid hbL
  clear hSb
  go_enter Tryd.func78, Tryd.ntmps78
  go_wp2_with fail
  clear hw0
  refine hcall.out.mono ?_
  rintro e w1 ⟨rfl, hb1⟩
  obtain ⟨t, ht⟩ : ∃ t, Hid (t = stuckP ss L node) := ⟨_, hid rfl⟩
  rw [← ht.out]
  have hB1 := hB0.trans (hb1.mono hB0.size)
  clear c0
  go_wp2_with fail
  go_ret
  exact ⟨ret_bool ht.out, hB1⟩

theorem goalStuck_ok {ss : List Sy} {A M : Option Addr} {c cm bP bL : Nat} {L : List Nat} {AL : Option Addr} {cL size : Nat} {w : World} (hP : PartsAt w bP ss A M c cm) (hL : ∀ l ∈ L, l < 6) (hsz : size ≤ 4096) (hbL : w.cell? ⟨bL, 0, none⟩ = some (.slice AL L.length cL)) (hlc : L.length ≤ cL) (hcL : cL ≤ 9223372036854775807) (hr : NatsAt w w.heap.size AL L) :
    GoalOk w size (stuckP ss L) 78 #[.pointer (some ⟨bL, 0, none⟩), .pointer (some ⟨bP, 0, none⟩)] :=
  ⟨fun args w' => by go_simp, fun w' q hb hq => stuckG_any ss A M c cm q bP bL L AL cL w' (hP.later hb) hL (by omega) ((hb.cell (World.block_lt_of_cell? _ _ hbL)).trans hbL) hlc hcL (hr.later hb)⟩
theorem nxParts_len {ss : List Sy} (hall : ss.all sysOk = true) (h3 : ss.length ≤ 3) (n l : Nat) : (nxParts ss n l).length ≤ 4096 := by
  obtain ⟨-, -, h, -⟩ := pst_ok hall l n ss.length (Nat.le_refl _)
  have h2 : 16 ^ ss.length ≤ 16 ^ 3 := Nat.pow_le_pow_right (by decide) h3
  unfold nxParts
  omega
theorem nextParts_ok {ss : List Sy} {A M : Option Addr} {c cm bP : Nat} {L : List Nat} {w : World} (hP : PartsAt w bP ss A M c cm) (hL : ∀ l ∈ L, l < 6) :
    NextOkB w (prodL (szP ss)) L (nxParts ss) 81 #[partsV A ss.length c M cm] #[] := by
  have h4 := (prodP_4096 hP.all hP.len3).2
  refine ⟨fun args w' => by go_simp, fun q _ l _ n hn => nxParts_lt hP.all q l n hn, fun q _ l _ => nxParts_len hP.all hP.len3 q l, fun w' q l v ns base hb hq hl hns hB hB' hown => ?_⟩
  have hP' := hP.later hb
  exact partsNext_any ss A M c cm q l base v ns w' hP'.all hP'.len3 (hL l hl) (by omega) hP'.lc hP'.hc hP'.lm hP'.hcm hns hP'.tab hP'.sys hP'.mvs hB' hown

set_option maxRecDepth 100000 in
set_option maxHeartbeats 8000000 in
theorem implDeadlockOf_any (ss : List Sy) (A : Option Addr) (c : Nat) (w : World) (hl : ss.length ≤ c) (hc : c ≤ 9223372036854775807) (hT : Tab w) (hr : SysAt w w.heap.size A ss) :
    Calls Tryd.prog 29 #[.slice A ss.length c] w (DeadPost ss w) := by
  replace hr := hid hr
  replace hT := hid hT
  cases hp : partsOk ss
  · have hp' := hid hp
    clear hp
    go_enter Tryd.func29, Tryd.ntmps29
    go_wp2_with fail
    refine (areParts_any ss A c w hl hc hr.out).mono ?_
    rintro e w1 ⟨rfl, hb1⟩
    rw [hp'.out]
    go_wp2_with fail
    go_ret2
    exact ⟨none, rfl, fun h => (by rw [hp'.out] at h; cases h), fun _ => rfl, hb1⟩
  · have hpa : Hid (partsAl ss = allAl ss) := hid (by unfold partsAl; rw [hp]; rfl)
    have hall := partsOk_all hp
    have h3 : ss.length ≤ 3 := by
      unfold partsOk at hp
      rw [Bool.and_eq_true, decide_eq_true_iff] at hp
      exact hp.1.2
    have hp' := hid hp
    have hall' := hid hall
    clear hp hall
    go_enter Tryd.func29, Tryd.ntmps29
    go_wp2_with fail
    refine (areParts_any ss A c w hl hc hr.out).mono ?_
    rintro e w1 ⟨rfl, hb1⟩
    rw [hp'.out]
    have hr1 := hid (hr.out.later hb1)
    go_wp2_with fail
    refine (newParts_any ss A c w1 hall'.out h3 hl hc hr1.out).mono ?_
    rintro e w2 ⟨M, cm, rfl, hcm1, hcm2, hM2, hb2⟩
    replace hM2 := hid hM2
    have hr2 := hid (hr1.out.later hb2)
    have hB2 := hb1.trans (hb2.mono hb1.size)
    unfold partsV
    go_upto_region 4 with fail
    obtain ⟨w3, hw3, hz3, hB3, hS3⟩ := boxed w2 #[.slice A ss.length c, .slice M ss.length cm] 98
    rw [hw3]
    clear hw3
    have hr3 := hid (hr2.out.later hB3)
    have hBB3 := hB2.trans (hB3.mono hB2.size)
    have hP3 : Hid (PartsAt w3 w2.heap.size ss A M c cm) := hid ⟨hT.out.later hBB3, hall'.out, h3, hl, hc, hcm1, hcm2, hr3.out, hM2.out.later hB3, hS3 0 _ rfl w3 (Below.refl _ _), hS3 1 _ rfl w3 (Below.refl _ _)⟩
    clear hS3
    go_wp2_with fail
    refine (implPartsAlphabet_any ss A c w3 hl hc hr3.out).mono ?_
    rintro e w4 ⟨rfl, hb4⟩
    rw [hpa.out]
    have hBB4 := hBB3.trans (hb4.mono hBB3.size)
    have hP4 := hid (hP3.out.later hb4)
    go_wp2_with fail
    refine (lettersOf_any (allAl ss) w4).mono ?_
    rintro e w5 ⟨vL, rfl, hoL, hb5⟩
    obtain ⟨AL, cL, rfl, hlL, hcL, hnL⟩ := OwnNats.read hoL
    have hBB5 := hBB4.trans (hb5.mono hBB4.size)
    have hP5 := hid (hP4.out.later hb5)
    obtain ⟨L, hL⟩ : ∃ L, Hid (L = letters (allAl ss)) := ⟨_, hid rfl⟩
    rw [← hL.out] at hoL hlL hnL ⊢
    replace hoL := hid hoL
    replace hnL := hid hnL
    go_upto_region 5 with fail
    obtain ⟨w6, hw6, hz6, hB6, hS6⟩ := boxed w5 #[.slice AL L.length cL] 72
    rw [hw6]
    clear hw6
    have hBB6 := hBB5.trans (hB6.mono hBB5.size)
    have hP6 := hid (hP5.out.later hB6)
    have hbL6 := hid (hS6 0 _ rfl w6 (Below.refl _ _))
    have hnL6 := hid (hnL.out.later hB6)
    have hoL6 := hid (own_keep hoL.out (.of_below (K := fun _ => False) hB6) fun _ _ h => h)
    clear hS6
    go_upto_region 6 with fail
    have hl6 : Hid (∀ l ∈ L, l < 6) := hid fun l hl => by rw [hL.out] at hl; exact (letters_lt hl).1
    have hLs : Hid (L.Pairwise (· < ·)) := hid (by rw [hL.out]; exact letters_sorted _)
    have hsz := (prodP_4096 hall'.out h3)
    obtain ⟨size, hsize⟩ : ∃ size, Hid (size = prodL (szP ss)) := ⟨_, hid rfl⟩
    rw [← hsize.out] at hsz
    have y0 : ∀ x, (Fam w6.heap.size w6 x).cell? ⟨w2.heap.size, 0, none⟩ = some (.slice A ss.length c) := fun x => ((Fam.below _ _ x).cell (World.block_lt_of_cell? _ _ hP6.out.c0)).trans hP6.out.c0
    have y1 : ∀ x, (Fam w6.heap.size w6 x).cell? ⟨w2.heap.size, 1, none⟩ = some (.slice M ss.length cm) := fun x => ((Fam.below _ _ x).cell (World.block_lt_of_cell? _ _ hP6.out.c1)).trans hP6.out.c1
    have y2 : ∀ x, (Fam w6.heap.size w6 x).cell? ⟨w5.heap.size, 0, none⟩ = some (.slice AL L.length cL) := fun x => ((Fam.below _ _ x).cell (World.block_lt_of_cell? _ _ hbL6.out)).trans hbL6.out
    refine wp_region_grow 10 w6.heap.size w6 (fun i u w' => if i = 1 then u = .int .i64 (size : Nat) else ∃ o, u = pathV o ∧ DeadP ss o) (by kernel_rfl) (by kernel_rfl) (Nat.le_refl _) (Below.refl _ _) ?_
    simp only [List.take_succ_cons, List.take_zero, List.drop_succ_cons, List.drop_zero]
    (repeat (refine grow_quiet (by rfl) (by rfl) (by rfl) ?_; intro K hK; go_big_quiet_op; go_big_quiet_on))
    refine grow_val (.int .i64 (size : Nat)) (by rfl) (by rfl) rfl (fun wq hbq _ => ?_) ?_
    · go_simp
      have hPq := hP6.out.later hbq
      refine ⟨rfl, (partsSize_any ss A M c cm wq hPq.all hPq.len3 hPq.lc hPq.hc hPq.sys).mono ?_⟩
      rintro e w7 ⟨rfl, hb7⟩
      exact ⟨by rw [hsize.out], hb7⟩
    simp only [Act.put, List.setIfInBounds_toArray, List.set_cons_zero, List.set_cons_succ]
    (repeat (refine grow_quiet (by rfl) (by rfl) (by rfl) ?_; intro K hK; go_big_quiet_op; go_big_quiet_on))
    refine grow_new (by rfl) (fun b => .slice (some ⟨b, 0, none⟩) 1 1) 3 #[.int .i64 0] (fun _ => by go_simp) (fun _ => rfl) (Nat.le_refl _) fun bI hbI => ?_
    simp only [Act.put, List.setIfInBounds_toArray, List.set_cons_zero, List.set_cons_succ]
    (repeat (refine grow_quiet (by rfl) (by rfl) (by rfl) ?_; intro K hK; go_big_quiet_op; go_big_quiet_on))
    refine grow_call (by rfl) (by rfl) (fun v x x' hb h => h) (fun wq hbq hfx => ?_) fun u2 hu2 => ?_
    · obtain ⟨bI', eI, -, hI⟩ := hfx _ List.mem_cons_self (by kernel_rfl)
      cases eI
      have hPq := hid (hP6.out.later hbq)
      have hbLq := hid ((hbq.cell (World.block_lt_of_cell? _ _ hbL6.out)).trans hbL6.out)
      have hnLq := hid (hnL6.out.later hbq)
      have hoLq := hid (own_keep hoL6.out (.of_below (K := fun _ => False) hbq) fun _ _ h => h)
      clear y0 y1 y2
      go_simp
      refine ⟨rfl, ?_⟩
      have hIo : wq.ownsRow 0 3 1 (.slice (some ⟨bI, 0, none⟩) 1 1) [0].length (natVals [0]) := ⟨rfl, .inr ⟨bI, 1, #[.int .i64 0], rfl, Nat.zero_le _, hI, Nat.le_refl _, by decide, rfl, rfl⟩⟩
      refine (firstPathB_any wq size (stuckP ss L) 78 _ (goalStuck_ok hPq.out hl6.out hsz.2 hbLq.out hlL hcL hnLq.out) L hLs.out hl6.out (nxParts ss) 81 _ _ (by rw [hsize.out]; exact nextParts_ok hPq.out hl6.out) [0] (by simp) (fun n hn => by rw [List.mem_singleton] at hn; omega) (by simp) _ _ hIo (own_base hoLq.out (Nat.zero_le _)) (by omega)).mono ?_
      rintro e w8 ⟨o, rfl, hpo, hb8⟩
      exact ⟨_, rfl, hb8, o, rfl, by unfold DeadP; rw [← hL.out]; exact hpo⟩
    obtain ⟨wx, -, o, rfl, hdead⟩ := hu2
    replace hdead := hid hdead
    obtain ⟨Sv, Fv, hpv⟩ : ∃ Sv Fv, pathV o = .tuple #[.string Sv, .bool Fv] := ⟨_, _, rfl⟩
    rw [hpv]
    have hpv' := hid hpv
    clear hpv
    simp only [Act.put, List.setIfInBounds_toArray, List.set_cons_zero, List.set_cons_succ]
    (repeat (refine grow_quiet (by rfl) (by rfl) (by rfl) ?_; intro K hK; go_big_quiet_op; go_big_quiet_on))
    refine grow_nil ?_
    intro w9 hb9 hf
    clear hf y0 y1 y2
    have hB9 := hBB6.trans (hb9.mono hBB6.size)
    go_wp2_with fail
    go_ret2
    exact ⟨o, by rw [hpv'.out]; rfl, fun _ => hdead.out, fun h => (by rw [hp'.out] at h; cases h), hB9⟩

end Go.Proofs.YtjhlbeamfngebaaDoor

/- The law FnExactDeadlockOf returns true. -/
namespace Go.Proofs.YtjhlbeamfngebaaDoor
open Go.RowKit Go.BigFrame AG

theorem dead_same {ss : List Sy} {o o' : Option (List Nat)} (h : partsOk ss = true → DeadP ss o) (h0 : partsOk ss = false → o = none) (k : partsOk ss = true → DeadP ss o') (k0 : partsOk ss = false → o' = none) : o = o' := by
  cases hp : partsOk ss
  · rw [h0 hp, k0 hp]
  · exact PathPost_unique (h hp) (k hp)

end Go.Proofs.YtjhlbeamfngebaaDoor

/- Words with one letter more; DrawDeadlockOf. -/
namespace Go.Proofs.YtjhlbeamfngebaaDoor
open Go.RowKit Go.BigFrame AG

set_option maxHeartbeats 1000000 in
theorem agLetter_any (l : Nat) (h : l < 6) (w : World) :
    Calls Tryd.prog 35 #[.int .i64 l] w fun e w' => e = .returned (.string ⟨#[letB l]⟩) ∧ Below w.heap.size w w' := by
  have hb : ((letB l).toNat : Int) = 97 + (l : Int) := by
    unfold letB
    rw [UInt8.toNat_ofNat']
    omega
  have kc : (convert 22 9 (.slice (some ⟨w.heap.size, 0, none⟩) 1 1)).run Tryd.prog (w.alloc (Obj.cells #[Value.int IntKind.u8 (97 + (l : Int))] 5)) = .ok (.string ⟨#[letB l]⟩) (w.alloc (Obj.cells #[Value.int IntKind.u8 (97 + (l : Int))] 5)) :=
    run_convert_bytes_back (P := Tryd.prog) _ 22 9 5 ⟨w.heap.size, 0, none⟩ 1 [letB l] Tryd.underlying22 Tryd.underlying5 Tryd.underlying9 (fun j hj => by
      obtain rfl : j = 0 := by simpa using hj
      rw [List.getElem_cons_zero, hb]
      simp [Addr.add])
  replace hb := hid hb
  go_enter Tryd.func35, Tryd.ntmps35
  go_wp2_with fail
  go_ret
  exact ⟨rfl, by (repeat (first | exact Below.refl _ _ | assumption | refine Below.drew ?_ | refine Below.alloc ?_ (by first | omega | (simp; done) | (simp; omega)) _ | refine Below.setCell ?_ (by first | omega | (simp; done) | (simp; omega)) _))⟩

set_option maxHeartbeats 1000000 in
theorem drawDeadlockOf_any (A : Option Addr) (n c : Nat) (w : World) (hn : n ≤ c) (hc : c ≤ 9223372036854775807) (hx : CodeAt w A n) :
    Calls Tryd.prog 31 #[.slice A n c] w (DrawSys w) := by
  replace hx := hid hx
  go_enter Tryd.func31, Tryd.ntmps31
  go_wp2_with fail
  refine (drawPartsAlphabet_any A n c w hn hc hx.out).mono ?_
  rintro e w1 ⟨ss, As, cs, rfl, a1, a2, a3, a4, hb1⟩
  replace a4 := hid a4
  go_wp2_with fail
  go_ret
  exact ⟨ss, As, cs, rfl, a1, a2, a3, a4.out, hb1⟩

/-- A word and a letter more. -/
def andL (v : ByteArray) (c : Nat) : ByteArray := v ++ ⟨#[letB c]⟩
end Go.Proofs.YtjhlbeamfngebaaDoor

/- The law FnDeadlockOf. Printed by tools/gen_w62.py. -/
namespace Go.Proofs.YtjhlbeamfngebaaDoor
open Go.RowKit Go.BigFrame AG

theorem wAt_mem0 {L : List Nat} {i : Nat} (h : 0 < L.length ∨ i = 0) : ∀ l ∈ wAt L i, l ∈ L := by
  rcases h with h | rfl
  · exact wAt_mem h i
  · rw [wAt_zero]; exact fun l hl => by cases hl

end Go.Proofs.YtjhlbeamfngebaaDoor

/- The program's WordBefore. -/
namespace Go.Proofs.YtjhlbeamfngebaaDoor
open Go.RowKit Go.BigFrame AG

/- Words in the order of bytes. -/
theorem bytesLess_asymm : ∀ {x y : List UInt8}, Op.bytesLess x y = true → Op.bytesLess y x = true → False
  | _, [], h, _ => by simp [Op.bytesLess] at h
  | [], _ :: _, _, h => by simp [Op.bytesLess] at h
  | a :: x, b :: y, h, k => by
    simp only [Op.bytesLess, Bool.or_eq_true, Bool.and_eq_true, decide_eq_true_eq, beq_iff_eq] at h k
    rcases h with h | ⟨rfl, h⟩
    · rcases k with k | ⟨rfl, k⟩
      · have h1 : a.toNat < b.toNat := h
        have k1 : b.toNat < a.toNat := k
        omega
      · have h1 : b.toNat < b.toNat := h
        omega
    · rcases k with k | ⟨_, k⟩
      · have k1 : a.toNat < a.toNat := k
        omega
      · exact bytesLess_asymm h k
theorem bytesLess_app : ∀ {x y : List UInt8} (u v : List UInt8), x.length = y.length → Op.bytesLess x y = true → Op.bytesLess (x ++ u) (y ++ v) = true
  | _, [], _, _, _, h => by simp [Op.bytesLess] at h
  | [], _ :: _, _, _, e, _ => by simp at e
  | a :: x, b :: y, u, v, e, h => by
    simp only [List.cons_append, Op.bytesLess, Bool.or_eq_true, Bool.and_eq_true, decide_eq_true_eq, beq_iff_eq] at h ⊢
    rcases h with h | ⟨e1, h⟩
    · exact .inl h
    · exact .inr ⟨e1, bytesLess_app u v (by simpa using e) h⟩
theorem bytesLess_pre : ∀ (x : List UInt8) {u v : List UInt8}, Op.bytesLess u v = true → Op.bytesLess (x ++ u) (x ++ v) = true
  | [], _, _, h => h
  | a :: x, u, v, h => by
    simp only [List.cons_append, Op.bytesLess, Bool.or_eq_true, Bool.and_eq_true, decide_eq_true_eq, beq_iff_eq]
    exact .inr ⟨trivial, bytesLess_pre x h⟩
theorem rlt_bytes : ∀ {r q : List Nat}, (∀ l ∈ r, l < 6) → (∀ l ∈ q, l < 6) → r.length = q.length → rlt r q → Op.bytesLess (r.reverse.map letB) (q.reverse.map letB) = true
  | _, [], _, _, _, h => by simp [rlt] at h
  | [], _ :: _, _, _, e, _ => by simp at e
  | a :: r, b :: q, hr, hq, e, h => by
    rw [List.reverse_cons, List.reverse_cons, List.map_append, List.map_append]
    have e' : r.length = q.length := by simpa using e
    rcases h with h | ⟨rfl, h⟩
    · exact bytesLess_app _ _ (by simp [e']) (rlt_bytes (fun l hl => hr l (List.mem_cons_of_mem _ hl)) (fun l hl => hq l (List.mem_cons_of_mem _ hl)) e' h)
    · refine bytesLess_pre _ ?_
      have h1 := letB_num (hr a List.mem_cons_self)
      have h2 := letB_num (hq b List.mem_cons_self)
      show (decide (letB a < letB b) || _) = true
      rw [Bool.or_eq_true, decide_eq_true_iff]
      left
      show (letB a).toNat < (letB b).toNat
      omega
def cmpS (a b : ByteArray) : Int := if Op.bytesLess a.toList b.toList = true then -1 else if (a.toList == b.toList) = true then 0 else 1
def slI (a b : ByteArray) : Int := if cmpI (a.size : Int) (b.size : Int) ≠ 0 then cmpI (a.size : Int) (b.size : Int) else cmpS a b
/-- What comes before a word is not behind it. -/
theorem sl_before {q r : List Nat} (hq : ∀ l ∈ q, l < 6) (hr : ∀ l ∈ r, l < 6) (h : slI (wordS q) (wordS r) < 0) : ¬ rle r q := by
  intro hle
  have hlen := rle_len hle
  unfold slI cmpI at h
  rw [wordS_size, wordS_size] at h
  by_cases he : q.length = r.length
  · rw [he] at h
    simp only [Int.lt_irrefl, if_false, ne_eq, not_true_eq_false] at h
    unfold cmpS at h
    rw [ByteArray.toList_eq, ByteArray.toList_eq, wordS_list, wordS_list] at h
    rcases hle with hlt | rfl
    · have h1 := rlt_bytes hr hq he.symm hlt
      by_cases h2 : Op.bytesLess (q.reverse.map letB) (r.reverse.map letB) = true
      · exact bytesLess_asymm h1 h2
      · rw [if_neg h2] at h
        split at h <;> omega
    · by_cases h2 : Op.bytesLess (r.reverse.map letB) (r.reverse.map letB) = true
      · exact bytesLess_asymm h2 h2
      · rw [if_neg h2] at h
        split at h <;> omega
  · have h1 : ¬ ((q.length : Int) < (r.length : Int)) := by omega
    have h2 : (r.length : Int) < (q.length : Int) := by omega
    rw [if_neg h1, if_pos h2] at h
    simp at h

set_option maxHeartbeats 1000000 in
theorem compareStr_any (a b : ByteArray) (w : World) :
    Calls Tryd.prog 148 #[.string a, .string b] w fun e w' => e = .returned (.int .i64 (cmpS a b)) ∧ w' = w := by
  go_enter Tryd.func148, Tryd.ntmps148
  go_wp2
  all_goals go_ret
  all_goals refine ⟨ret_int ?_, rfl⟩
  all_goals unfold cmpS
  all_goals simp_all

set_option maxHeartbeats 400000 in
theorem or2_any (x y : Int) (g : Nat) (w : World) (h0 : w.cell? ⟨g, 0, none⟩ = some (.int .i64 x)) (h1 : w.cell? ⟨g, 1, none⟩ = some (.int .i64 y)) :
    Calls Tryd.prog 146 #[.slice (some ⟨g, 0, none⟩) 2 2] w fun e w' => e = .returned (.int .i64 (if x ≠ 0 then x else y)) ∧ w = w' := by
  go_enter Tryd.func146, Tryd.ntmps146
  go_wp2
  go_loop [8] (fun i => ∃ k : Nat, k ≤ 2 ∧ i = .int .i64 k ∧ (1 ≤ k → x = 0) ∧ (2 ≤ k → y = 0)) (fun i => 2 - (intOf i).toNat)
  case atStart => exact ⟨0, by omega, rfl, by omega, by omega⟩
  case round =>
    obtain ⟨k, hk, rfl, e0, e1⟩ := hrel
    rcases (show k = 0 ∨ k = 1 ∨ k = 2 by omega) with rfl | rfl | rfl
    · clear e0 e1
      by_cases hx : x = 0
      · subst hx
        go_wp2
        go_round
        case rel => exact ⟨1, by omega, by go_num, by simp, by omega⟩
        case measure => simp [intOf]
      · go_wp2
        go_ret
        exact ⟨ret_int (by simp [hx]), rfl⟩
    · obtain rfl := e0 (by omega)
      clear e0 e1
      by_cases hx : y = 0
      · subst hx
        go_wp2
        go_round
        case rel => exact ⟨2, by omega, by go_num, by simp, by simp⟩
        case measure => simp [intOf]
      · go_wp2
        go_ret
        exact ⟨ret_int (by simp), rfl⟩
    · obtain rfl := e0 (by omega)
      obtain rfl := e1 (by omega)
      clear e0 e1
      go_wp2
      go_ret
      exact ⟨ret_int (by simp), rfl⟩

set_option maxHeartbeats 1000000 in
theorem shortlex_any (a b : ByteArray) (w : World) (ha : a.size ≤ 60000) (hb : b.size ≤ 60000) :
    Calls Tryd.prog 91 #[.string a, .string b] w fun e w' => e = .returned (.int .i64 (slI a b)) ∧ Below w.heap.size w w' := by
  go_enter Tryd.func91, Tryd.ntmps91
  go_wp2_with fail
  refine (compareInt_any (a.size : Int) (b.size : Int) w).mono ?_
  rintro e w1 ⟨rfl, rfl⟩
  obtain ⟨x, hx⟩ : ∃ x, Hid (x = cmpI (a.size : Int) (b.size : Int)) := ⟨_, hid rfl⟩
  rw [← hx.out]
  go_wp2_with fail
  refine (compareStr_any a b w1).mono ?_
  rintro e w2 ⟨rfl, rfl⟩
  obtain ⟨y, hy⟩ : ∃ y, Hid (y = cmpS a b) := ⟨_, hid rfl⟩
  rw [← hy.out]
  go_wp2_with fail
  have hn := Blk.new w2 3 #[.int .i64 x, .int .i64 y]
  have n0 := hn.cell 0
  have n1 := hn.cell 1
  simp only [List.getElem?_toArray, List.getElem?_cons_zero, List.getElem?_cons_succ] at n0 n1
  refine (or2_any x y w2.heap.size _ n0 n1).mono ?_
  rintro e w3 ⟨rfl, rfl⟩
  clear hn n0 n1
  obtain ⟨z, hz⟩ : ∃ z, Hid (z = if x ≠ 0 then x else y) := ⟨_, hid rfl⟩
  rw [← hz.out]
  go_wp2_with fail
  go_ret
  exact ⟨ret_int (by rw [hz.out, hx.out, hy.out]; rfl), (Below.refl _ _).alloc (Nat.le_refl _) _⟩

set_option maxHeartbeats 1000000 in
theorem wordBefore_any (a b : ByteArray) (w : World) (ha : a.size ≤ 50000) (hb : b.size ≤ 50000) (hva : wordOk a = true) (hvb : wordOk b = true) :
    Calls Tryd.prog 36 #[.string a, .string b] w fun e w' => e = .returned (.bool (decide (slI a b < 0))) ∧ Below w.heap.size w w' := by
  replace hva := hid hva
  replace hvb := hid hvb
  go_enter Tryd.func36, Tryd.ntmps36
  go_wp2_with fail
  refine (implWordValid_any a w (by omega)).mono ?_
  rintro e w1 ⟨rfl, rfl⟩
  rw [hva.out]
  go_wp2_with fail
  refine (implWordValid_any b w (by omega)).mono ?_
  rintro e w1 ⟨rfl, rfl⟩
  rw [hvb.out]
  go_wp2_with fail
  refine (shortlex_any a b w (by omega) (by omega)).mono ?_
  rintro e w1 ⟨rfl, hb1⟩
  obtain ⟨z, hz⟩ : ∃ z, Hid (z = slI a b) := ⟨_, hid rfl⟩
  rw [← hz.out]
  go_wp2_with fail
  go_ret
  exact ⟨ret_bool (by rw [hz.out]), hb1⟩

end Go.Proofs.YtjhlbeamfngebaaDoor

/- The law FnDeadlockLeast. Printed by tools/gen_w62.py. -/
namespace Go.Proofs.YtjhlbeamfngebaaDoor
open Go.RowKit Go.BigFrame AG

set_option maxRecDepth 100000 in
set_option maxHeartbeats 16000000 in
theorem FnDeadlockLeast_any (A : Option Addr) (n c : Nat) (w : World) (hn : n ≤ c) (hc : c ≤ 9223372036854775807) (hT : Tab w) (hx : CodeAt w A n) :
    Calls Tryd.prog 8 #[.slice A n c] w fun e w' => e = .returned (.bool true) ∧ Below w.heap.size w w' := by
  replace hx := hid hx
  replace hT := hid hT
  by_cases hbig : 1048576 < n
  · go_enter Tryd.func8, Tryd.ntmps8
    go_wp2
    go_ret
    exact ⟨rfl, Below.refl _ _⟩
  · go_enter Tryd.func8, Tryd.ntmps8
    go_wp2_with fail
    refine (drawDeadlockOf_any A n c w hn hc hx.out).mono ?_
    rintro e w1 ⟨ss, As, cs, rfl, a1, a2, a3, a4, hb1⟩
    have hT1 := hid (hT.out.later hb1)
    replace a4 := hid a4
    go_wp2_with fail
    refine (implDeadlockOf_any ss As cs w1 a1 a2 hT1.out a4.out).mono ?_
    rintro e w2 ⟨o, rfl, ho1, ho2, hb2⟩
    have hB2 := hb1.trans (hb2.mono hb1.size)
    have r2 := hid (a4.out.later hb2)
    have hT2 := hid (hT1.out.later hb2)
    obtain ⟨Sv, Fv, hpv, hFv, hSv, hS0⟩ : ∃ Sv Fv, pathV o = .tuple #[.string Sv, .bool Fv] ∧ Fv = o.isSome ∧ (∀ r, o = some r → Sv = wordS r) ∧ (o = none → Sv = ⟨#[]⟩) := ⟨_, _, rfl, rfl, fun r h => by subst h; rfl, fun h => by subst h; rfl⟩
    rw [hpv]
    replace hpv := hid hpv
    replace ho1 := hid ho1
    replace ho2 := hid ho2
    replace hSv := hid hSv
    replace hS0 := hid hS0
    go_wp2_with fail
    refine (specDeadlockOf_any ss As cs w2 a1 a2 r2.out).mono ?_
    rintro e w3 ⟨o', rfl, ho3, ho4, hb3⟩
    obtain rfl : o = o' := dead_same ho1.out ho2.out ho3 ho4
    rw [hpv.out]
    clear ho3 ho4
    have hB3 := hB2.trans (hb3.mono hB2.size)
    have r3 := hid (r2.out.later hb3)
    have hT3 := hid (hT2.out.later hb3)
    have hz3 := hB3.size
    cases o with
    | none =>
      obtain rfl : Fv = false := hFv
      go_wp2_with fail
      go_ret
      exact ⟨rfl, hB3⟩
    | some r =>
      obtain rfl : Fv = true := hFv
      have hp : partsOk ss = true := by
        cases hp : partsOk ss
        · have := ho2.out hp; cases this
        · rfl
      obtain ⟨al, hal0⟩ : ∃ al, Hid (al = allAl ss) := ⟨_, hid rfl⟩
      have hpa : Hid (partsAl ss = al) := hid (by unfold partsAl; rw [hp, hal0.out]; rfl)
      have hal : Hid (alphaOk al = true) := hid (by rw [hal0.out]; exact allAl_ok (partsOk_all hp))
      have hdead := hid (ho1.out hp)
      have hlen : Sv.size ≤ 4096 := by rw [hSv.out r rfl, wordS_size]; have := (dead_trace hp hdead.out).2.1; omega
      have hrm : Hid (∀ l ∈ r, l ∈ letters al) := hid (by rw [hal0.out]; exact (dead_trace hp hdead.out).2.2)
      have hwS : Hid (wordOk Sv = true) := hid (by rw [hSv.out r rfl]; exact within_word (wordS_within hal.out hrm.out (by have := (dead_trace hp hdead.out).2.1; omega)))
      replace hp := hid hp
      go_wp2_with fail
      go_loopw [8] (fun iv wr => ∃ i : Nat, iv = .int .i64 (i : Nat) ∧ i ≤ 40 ∧ Below w3.heap.size w3 wr) (fun iv _ => 40 - (intOf iv).toNat)
      case atStart => exact ⟨0, rfl, by omega, Below.refl _ _⟩
      case round =>
        obtain ⟨i, rfl, hi, hb⟩ := hrel
        obtain ⟨wo, rfl⟩ : ∃ wo : World, wo = wr := ⟨_, rfl⟩
        have hBr := hB3.trans (hb.mono hB3.size)
        by_cases hlt : i < 40
        · have rr := hid (r3.out.later hb)
          have hTr := hid (hT3.out.later hb)
          replace hb := hid hb
          go_wp2_with fail
          refine (implPartsAlphabet_any ss As cs wo a1 a2 rr.out).mono ?_
          rintro e w4 ⟨rfl, hb4⟩
          rw [hpa.out]
          have hB4 := hBr.trans (hb4.mono hBr.size)
          have hb34 := hid (hb.out.trans (hb4.mono hb.out.size))
          have r4 := hid (rr.out.later hb4)
          have hT4 := hid (hTr.out.later hb4)
          go_wp2_with fail
          refine (implWordAt_any i al w4 hal.out (by omega)).mono ?_
          rintro e w5 ⟨hwa, hb5⟩
          have hB5 := hB4.trans (hb5.mono hB4.size)
          have hb35 := hid (hb34.out.trans (hb5.mono hb34.out.size))
          have r5 := hid (r4.out.later hb5)
          have hT5 := hid (hT4.out.later hb5)
          rcases hwa with ⟨rfl, hl0, hl7⟩ | rfl
          · obtain ⟨q, hq⟩ : ∃ q, Hid (q = wAt (letters al) i) := ⟨_, hid rfl⟩
            have hqm : Hid (∀ l ∈ q, l ∈ letters al) := hid (by rw [hq.out]; exact wAt_mem0 hl0)
            rw [← hq.out] at hl7 ⊢
            replace hl0 := hid hl0
            obtain ⟨v, hv⟩ : ∃ v, Hid (v = wordS q) := ⟨_, hid rfl⟩
            have hvz : v.size ≤ 7 := by rw [hv.out, wordS_size]; exact hl7
            rw [← hv.out]
            have hwq : Hid (wordOk v = true) := hid (by rw [hv.out]; exact within_word (wordS_within hal.out hqm.out (by omega)))
            go_wp2_with fail
            refine (wordBefore_any v Sv w5 (by omega) (by omega) hwq.out hwS.out).mono ?_
            rintro e w6 ⟨rfl, hb6⟩
            have hB6 := hB5.trans (hb6.mono hB5.size)
            have hb36 := hid (hb35.out.trans (hb6.mono hb35.out.size))
            have r6 := hid (r5.out.later hb6)
            have hT6 := hid (hT5.out.later hb6)
            obtain ⟨tb, htb⟩ : ∃ tb, Hid (tb = decide (slI v Sv < 0)) := ⟨_, hid rfl⟩
            rw [← htb.out]
            cases tb
            · go_wp2_with fail
              go_roundw
              case rel => exact ⟨i + 1, by go_num, by omega, hb36.out⟩
              case measure => simp [intOf]; omega
            · go_wp2_with fail
              refine (implTraceOfParts_any ss As cs v w6 (by omega) a1 a2 hT6.out r6.out).mono ?_
              rintro e w7 ⟨rfl, hb7⟩
              have hB7 := hB6.trans (hb7.mono hB6.size)
              have hb37 := hid (hb36.out.trans (hb7.mono hb36.out.size))
              have r7 := hid (r6.out.later hb7)
              have hT7 := hid (hT6.out.later hb7)
              obtain ⟨t, ht⟩ : ∃ t, Hid (t = trParts ss v) := ⟨_, hid rfl⟩
              rw [← ht.out]
              cases t
              · go_wp2_with fail
                go_roundw
                case rel => exact ⟨i + 1, by go_num, by omega, hb37.out⟩
                case measure => simp [intOf]; omega
              · have hgo : Hid (∃ c, c < 6 ∧ trParts ss (andL v c) = true) := hid (by
                  have hnr : ¬ rle r q := by
                    refine sl_before (fun l hl => (letters_lt (hqm.out l hl)).1) (fun l hl => (letters_lt (hrm.out l hl)).1) ?_
                    rw [← hv.out, ← hSv.out r rfl]
                    exact of_decide_eq_true htb.out.symm
                  obtain ⟨c6, h1, h2⟩ := before_goes_on hdead.out (by rw [← hv.out]; exact ht.out.symm) (by rw [← hal0.out]; exact hqm.out) (by omega) hnr
                  exact ⟨c6, h1, by rw [hv.out]; exact h2⟩
                )
                go_wp2_with fail
                go_loopw [11, 12] (fun sv cv wt => ∃ p : Nat, cv = .int .i64 (p : Nat) ∧ p ≤ 6 ∧ sv = .bool ((List.range p).any fun c => trParts ss (andL v c)) ∧ Below w7.heap.size w7 wt) (fun _ cv _ => 6 - (intOf cv).toNat)
                case atStart => exact ⟨0, rfl, by omega, rfl, Below.refl _ _⟩
                case round =>
                  obtain ⟨p, rfl, hp6, rfl, hbt⟩ := hrel
                  have hBt := hB7.trans (hbt.mono hB7.size)
                  have hb3t := hid (hb37.out.trans (hbt.mono hb37.out.size))
                  have hrg : Hid ((List.range (p + 1)).any (fun c => trParts ss (andL v c)) = ((List.range p).any (fun c => trParts ss (andL v c)) || trParts ss (andL v p))) := hid (by rw [List.range_succ, List.any_append]; simp)
                  obtain ⟨sm, hsm⟩ : ∃ sm, Hid (sm = (List.range p).any fun c => trParts ss (andL v c)) := ⟨_, hid rfl⟩
                  rw [← hsm.out] at hrg ⊢
                  by_cases hpl : p < 6
                  · cases sm
                    · have rt := hid (r7.out.later hbt)
                      have hTt := hid (hT7.out.later hbt)
                      replace hbt := hid hbt
                      go_wp2_with fail
                      refine (agLetter_any p hpl _).mono ?_
                      rintro e w8 ⟨rfl, hb8⟩
                      have hB8 := hBt.trans (hb8.mono hBt.size)
                      have r8 := hid (rt.out.later hb8)
                      have hT8 := hid (hTt.out.later hb8)
                      have hbt8 := hid (hbt.out.trans (hb8.mono hbt.out.size))
                      have hsz1 : ¬ (9223372036854775807 < v.size + 1) := by omega
                      go_wp2_with fail
                      refine (implTraceOfParts_any ss _ cs _ _ (by rw [ByteArray.size_append]; show v.size + 1 ≤ _; omega) a1 a2 hT8.out r8.out).mono ?_
                      rintro e w9 ⟨rfl, hb9⟩
                      have hbt9 := hid (hbt8.out.trans (hb9.mono hbt8.out.size))
                      obtain ⟨t2, ht2⟩ : ∃ t2, Hid (t2 = trParts ss (andL v p)) := ⟨_, hid rfl⟩
                      have ht2' : trParts ss (v ++ ⟨#[letB p]⟩) = t2 := ht2.out.symm
                      rw [ht2']
                      rw [← ht2.out, Bool.false_or] at hrg
                      clear ht2'
                      go_wp2_with fail
                      go_roundw
                      case rel => exact ⟨p + 1, by go_num, by omega, by rw [hrg.out], hbt9.out⟩
                      case measure => simp [intOf]; omega
                    · rw [Bool.true_or] at hrg
                      go_wp2_with fail
                      go_roundw
                      case rel => exact ⟨p + 1, by go_num, by omega, by rw [hrg.out], hbt⟩
                      case measure => simp [intOf]; omega
                  · obtain rfl : sm = true := by
                      obtain ⟨c6, hc6, htr⟩ := hgo.out
                      rw [hsm.out, List.any_eq_true]
                      exact ⟨c6, List.mem_range.2 (by omega), htr⟩
                    go_wp2_with fail
                    go_roundw
                    case rel => exact ⟨i + 1, by go_num, by omega, hb3t.out⟩
                    case measure => simp [intOf]; omega
          · go_wp2_with fail
            go_roundw
            case rel => exact ⟨i + 1, by go_num, by omega, hb35.out⟩
            case measure => simp [intOf]; omega
        · go_wp2_with fail
          go_ret
          exact ⟨rfl, hBr⟩

end Go.Proofs.YtjhlbeamfngebaaDoor

/- Closed facts on the whole program, each a lemma of its own: the rows of all laws of the seat use them. -/
namespace Go.Proofs.YtjhlbeamfngebaaDoor
open Go.ChangeShapes Go.WideShapes Go.ChangeAt Go.RowKit AG
theorem and2 {a b : Bool} (h : a = true) (k : b = true) : (a && b) = true := by rw [h, k]; rfl
theorem whLaid : laidOutB Tryd.prog = true := by kernel_rfl
theorem whRowed : mapsRowed Tryd.prog = true := by kernel_rfl
theorem whHeard : Tryd.prog.stopsHeard = true := by kernel_rfl
theorem whMay : Tryd.prog.mayEnter = true := by kernel_rfl
theorem whLift : Tryd.prog.liftsFinal = false := by kernel_rfl
theorem whMake : (Tryd.prog.make == some Rows.fnDeadlockLeastRow.make) = true := by kernel_rfl
theorem whMain : Tryd.prog.mainIs = some (Rows.fnDeadlockLeastCard.stood.harness.1, Rows.fnDeadlockLeastCard.stood.harness.2.toList) := by kernel_rfl
theorem whLooks : false = Tryd.prog.looks [] := by kernel_rfl
end Go.Proofs.YtjhlbeamfngebaaDoor
