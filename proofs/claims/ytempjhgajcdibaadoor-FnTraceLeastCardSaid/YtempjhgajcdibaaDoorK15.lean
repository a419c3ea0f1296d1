/- Lemmas, part 15: several texts in one. -/
import Derived.Test.YtempjhgajcdibaaDoorK11
import Derived.Test.YtempjhgajcdibaaDoorK7
import Derived.Test.YtempjhgajcdibaaDoorK6
import Derived.Test.YtempjhgajcdibaaDoorK10
import Derived.Test.YtempjhgajcdibaaDoorK5
import Derived.Test.YtempjhgajcdibaaDoorK8
set_option linter.unusedSimpArgs false
set_option linter.unusedVariables false

/- Plain: the words over some letters in their order, and the first trace outside among them. -/
namespace Go.Proofs.YtempjhgajcdibaaDoor
open AG

/-- The n-th word over the letters L, its last letter first. -/
def wAt (L : List Nat) : Nat → List Nat
  | 0 => []
  | n + 1 => L.getD (n % L.length) 0 :: wAt L (n / L.length)
termination_by n => n
decreasing_by exact Nat.lt_succ_of_le (Nat.div_le_self _ _)
theorem wAt_zero (L : List Nat) : wAt L 0 = [] := by rw [wAt]
theorem wAt_succ (L : List Nat) (n : Nat) : wAt L (n + 1) = L.getD (n % L.length) 0 :: wAt L (n / L.length) := by rw [wAt]
theorem wAt_mem {L : List Nat} (hL : 0 < L.length) (n : Nat) : ∀ l ∈ wAt L n, l ∈ L := by
  induction n using Nat.strongRecOn with
  | ind n ih =>
    intro l hl
    cases n with
    | zero => rw [wAt_zero] at hl; cases hl
    | succ n =>
      rw [wAt_succ] at hl
      rcases List.mem_cons.1 hl with rfl | hl
      · have := Nat.mod_lt n hL
        rw [List.getD_eq_getElem?_getD, List.getElem?_eq_getElem this]
        exact List.getElem_mem _
      · exact ih _ (Nat.lt_succ_of_le (Nat.div_le_self _ _)) l hl
theorem wAt_all {L : List Nat} : ∀ r : List Nat, (∀ l ∈ r, l ∈ L) → ∃ j, wAt L j = r
  | [], _ => ⟨0, wAt_zero L⟩
  | l :: r, h => by
    obtain ⟨j, hj⟩ := wAt_all r fun x hx => h x (List.mem_cons_of_mem _ hx)
    obtain ⟨p, hp, rfl⟩ := List.getElem_of_mem (h l List.mem_cons_self)
    refine ⟨L.length * j + p + 1, ?_⟩
    rw [wAt_succ, Nat.mul_add_mod, Nat.mod_eq_of_lt hp, Nat.mul_add_div (by omega), Nat.div_eq_of_lt hp, Nat.add_zero, hj, List.getD_eq_getElem?_getD, List.getElem?_eq_getElem hp]
    rfl
theorem wAt_lt {L : List Nat} (hL : 0 < L.length) (hs : L.Pairwise (· < ·)) (j : Nat) : ∀ i, i < j → rlt (wAt L i) (wAt L j) := by
  induction j using Nat.strongRecOn with
  | ind j ih =>
    intro i hij
    obtain ⟨j, rfl⟩ : ∃ j', j = j' + 1 := ⟨j - 1, by omega⟩
    rw [wAt_succ]
    cases i with
    | zero => rw [wAt_zero]; exact rlt_nil _ _
    | succ i =>
      rw [wAt_succ]
      have hle : i / L.length ≤ j / L.length := Nat.div_le_div_right (by omega)
      by_cases he : i / L.length = j / L.length
      · refine .inr ⟨by rw [he], ?_⟩
        have m1 := Nat.mod_lt i hL
        have m2 := Nat.mod_lt j hL
        have d1 := Nat.div_add_mod i L.length
        have d2 := Nat.div_add_mod j L.length
        rw [he] at d1
        rw [List.getD_eq_getElem?_getD, List.getElem?_eq_getElem m1, List.getD_eq_getElem?_getD, List.getElem?_eq_getElem m2]
        exact List.pairwise_iff_getElem.1 hs _ _ m1 m2 (by omega)
      · exact .inl (ih _ (Nat.lt_succ_of_le (Nat.div_le_self _ _)) _ (by omega))

theorem letters_ok {A : Int} {l : Nat} : l ∈ letters A ↔ l < 6 ∧ Has A l = true := by
  unfold letters lettersTo
  rw [List.mem_filter, List.mem_range]
theorem letB_num {l : Nat} (h : l < 6) : ((letB l).toNat : Int) - 97 = l := by
  unfold letB
  rw [UInt8.toNat_ofNat', Nat.mod_eq_of_lt (by omega)]
  omega
theorem bl_letB {l : Nat} (h : l < 6) : bl (letB l) = l := by
  unfold bl
  rw [letB_num h]
  have : lOk (l : Int) = true := by unfold lOk; exact decide_eq_true (by omega)
  rw [if_pos this]
theorem wordS_list (r : List Nat) : (wordS r).data.toList = r.reverse.map letB := rfl
theorem runL_setW (s : Sy) : ∀ r : List Nat, (∀ l ∈ r, l < 6) → runL s (r.reverse.map letB) = setW s r
  | [], _ => rfl
  | l :: r, h => by
    have ih := runL_setW s r fun x hx => h x (List.mem_cons_of_mem _ hx)
    rw [List.reverse_cons, List.map_append]
    unfold runL at ih ⊢
    rw [List.foldl_append, ih]
    show stepSet s (setW s r) _ = stepSet s (setW s r) _
    rw [letB_num (h l List.mem_cons_self)]
theorem wordS_within {A : Int} {r : List Nat} (hA : alphaOk A = true) (hr : ∀ l ∈ r, l ∈ letters A) (hl : r.length ≤ 50000) : within (wordS r) A = true := by
  rw [within_list]
  refine ⟨hA, by rw [wordS_size]; exact hl, fun b hb => ?_⟩
  rw [wordS_list] at hb
  obtain ⟨l, hl', rfl⟩ := List.mem_map.1 hb
  obtain ⟨h1, h2⟩ := letters_ok.1 (hr l (List.mem_reverse.1 hl'))
  unfold pk HasZ
  rw [bl_letB h1]
  simpa using h2
theorem hasTr_wordS {s : Sy} {r : List Nat} (hs : sysOk s = true) (hr : ∀ l ∈ r, l ∈ letters s.al) (hl : r.length ≤ 50000) : hasTr s (wordS r) = decide (setW s r ≠ 0) := by
  have hA : alphaOk s.al = true := alphaOk_range.2 (sysOk_alpha hs)
  have e := runL_setW s r fun l h => (letters_ok.1 (hr l h)).1
  rw [Bool.eq_iff_iff, hasTr_list, decide_eq_true_iff, wordS_list, e]
  exact ⟨fun h => h.2.2, fun h => ⟨hs, wordS_within hA hr hl, h⟩⟩

/-- The first of the words in order that is a trace outside is the first trace outside. -/
theorem first_at {s t : Sy} {o : Option (List Nat)} (hc : cmpOk s t = true) (ho : IsOut s t o) {i : Nat} (hL : 0 < (letters s.al).length ∨ i = 0) (hi : AG.Outside s t (wAt (letters s.al) i)) (hn : ∀ j, j < i → ¬ AG.Outside s t (wAt (letters s.al) j)) :
    o = some (wAt (letters s.al) i) := by
  unfold IsOut at ho
  rw [if_pos hc] at ho
  cases o with
  | none => exact absurd hi (ho _)
  | some r =>
    obtain ⟨h1, h2⟩ := ho
    have h3 := h2 _ hi
    obtain ⟨j, rfl⟩ := wAt_all r h1.1
    by_cases hlt : j < i
    · exact absurd h1 (hn j hlt)
    · by_cases he : j = i
      · rw [he]
      · by_cases hL0 : 0 < (letters s.al).length
        · have := wAt_lt hL0 (letters_sorted s.al) j i (by omega)
          exact absurd (rlt_of_rlt_rle this h3) (rlt_irrefl _)
        · obtain rfl : i = 0 := by omega
          exfalso
          have : setW t (wAt (letters s.al) 0) = 0 := hi.2.2
          rw [wAt_zero] at this
          exact absurd this (by show (1 : Nat) ≠ 0; decide)
theorem outside_iff {s t : Sy} {r : List Nat} (hc : cmpOk s t = true) (hr : ∀ l ∈ r, l ∈ letters s.al) (hl : r.length ≤ 50000) : AG.Outside s t r ↔ hasTr s (wordS r) = true ∧ hasTr t (wordS r) = false := by
  unfold cmpOk at hc
  simp only [Bool.and_eq_true, decide_eq_true_eq] at hc
  rw [hasTr_wordS hc.1 hr hl, hasTr_wordS hc.2.1 (by rw [← hc.2.2]; exact hr) hl]
  unfold AG.Outside
  simp only [decide_eq_true_eq, decide_eq_false_iff_not]
  constructor
  · rintro ⟨_, h2, h3⟩; exact ⟨h2, fun h => h h3⟩
  · rintro ⟨h2, h3⟩; exact ⟨hr, h2, by omega⟩

end Go.Proofs.YtempjhgajcdibaaDoor

/- The program's WordAt. -/
namespace Go.Proofs.YtempjhgajcdibaaDoor
open Go.RowKit Go.BigFrame AG

set_option maxRecDepth 100000 in
set_option maxHeartbeats 1000000 in
theorem reverseNone_any (w : World) :
    Calls Tryd.prog 90 #[.slice none 0 0] w fun e w' => e = .returned (.tuple #[]) ∧ Below w.heap.size w w' := by
  go_enter Tryd.func90, Tryd.ntmps90
  go_wp2_with fail
  go_loopw [2, 3] (fun iv jv wr => iv = .int .i64 0 ∧ jv = .int .i64 (-1) ∧ Below w.heap.size w wr) (fun _ _ _ => 0)
  case atStart => exact ⟨rfl, rfl, Below.refl _ _⟩
  case round =>
    obtain ⟨rfl, rfl, hb⟩ := hrel
    go_wp2
    go_end0
    exact ⟨rfl, hb⟩

/-- WordAt: the word at a place, or no answer. -/
def WordAtPost (n : Nat) (L : List Nat) (w : World) (e : Ending) (w' : World) : Prop :=
  (e = .returned (.tuple #[.string (wordS (wAt L n)), .bool true]) ∧ (0 < L.length ∨ n = 0) ∧ (wAt L n).length ≤ 7 ∨ e = .returned (.tuple #[.string ⟨#[]⟩, .bool false])) ∧ Below w.heap.size w w'

set_option maxRecDepth 100000 in
set_option maxHeartbeats 4000000 in
theorem implWordAt_any (n : Nat) (al : Int) (w : World) (hal : alphaOk al = true) (hn : n ≤ 100000) :
    Calls Tryd.prog 33 #[.int .i64 n, .int .i64 al] w (WordAtPost n (letters al) w) := by
  obtain ⟨i0, hi, hz0, hz1, hz2⟩ := info_parts infoByte
  replace hal := hid hal
  go_enter Tryd.func33, Tryd.ntmps33
  go_wp2_with (go_at_call 56; refine (isAlphabet_any al _).mono ?_; rintro e w' ⟨rfl, rfl⟩; rw [hal.out])
  refine (lettersOf_any al w).mono ?_
  rintro e w1 ⟨lv, rfl, hown, hb1⟩
  obtain ⟨ls, hls⟩ : ∃ ls, Hid (ls = letters al) := ⟨_, hid rfl⟩
  rw [← hls.out] at hown
  have hl6 : ls.length ≤ 6 := by rw [hls.out]; exact lettersTo_len al 6
  obtain ⟨Al, cl, hvl, hcl, hcl'⟩ := own_slice hown
  subst hvl
  replace hown := hid hown
  have hz1' := hb1.size
  go_wp2_with fail
  go_loopw [0, 7] (fun nv v wr => ∃ (k : Nat) (o : List Nat), nv = .int .i64 k ∧ k ≤ n ∧ o.length ≤ 7 ∧ o ++ wAt ls k = wAt ls n ∧ (∀ l ∈ o, l < 6) ∧ (0 < ls.length ∨ k = n) ∧ (o = [] → v = .slice none 0 0) ∧ wr.ownsRow w1.heap.size 5 1 v o.length (bytesOf o) ∧ Below w1.heap.size w1 wr) (fun nv _ _ => (intOf nv).toNat)
  case atStart => exact ⟨n, [], rfl, Nat.le_refl _, by simp, rfl, (fun l hl => by cases hl), .inr rfl, fun _ => rfl, World.ownsRow_nil _ _ _ _, Below.refl _ _⟩
  case round =>
    obtain ⟨k, o, rfl, hkn, ho7, hoo, ho6, hL, hnil, hob, hb⟩ := hrel
    have hbb := hid (hb1.trans (hb.mono hz1'))
    have hown2 := hid (own_later hown.out hb)
    have hzr := hb.size
    replace ho6 := hid ho6
    replace hL := hid hL
    by_cases hk : 0 < k
    · obtain ⟨p, rfl⟩ : ∃ p, k = p + 1 := ⟨k - 1, by omega⟩
      have hk' : (0 : Int) < ((p + 1 : Nat) : Int) := by omega
      obtain ⟨Ao, co, hvo, hco, hco'⟩ := own_slice hob
      subst hvo
      by_cases hl0 : ls.length = 0
      · have hl0' : ((ls.length : Int) == 0) = true := by simpa using hl0
        replace hob := hid hob
        replace hoo := hid hoo
        replace hnil := hid hnil
        replace hl0 := hid hl0
        go_wp2_with fail
        go_ret2
        exact ⟨.inr rfl, hbb.out⟩
      · have hl0' : ((ls.length : Int) == 0) = false := by rw [beq_eq_false_iff_ne]; omega
        by_cases ho : o.length = 7
        · have ho' : ((o.length : Int) == 7) = true := by rw [beq_iff_eq]; omega
          replace hob := hid hob
          replace hoo := hid hoo
          replace hnil := hid hnil
          replace ho := hid ho
          go_wp2_with fail
          go_ret2
          exact ⟨.inr rfl, hbb.out⟩
        · have ho' : ((o.length : Int) == 7) = false := by rw [beq_eq_false_iff_ne]; omega
          have hlp : 0 < ls.length := by omega
          obtain ⟨d, hd⟩ : ∃ d, d = p % ls.length := ⟨_, rfl⟩
          obtain ⟨q, hq⟩ : ∃ q, q = p / ls.length := ⟨_, rfl⟩
          have hdl : d < ls.length := by rw [hd]; exact Nat.mod_lt _ hlp
          have hqp : q ≤ p := by rw [hq]; exact Nat.div_le_self _ _
          have e1 : (((p + 1 : Nat) : Int) - 1) = (p : Int) := by omega
          have e2 : Int.tmod (p : Int) (ls.length : Int) = (d : Int) := by rw [hd]; exact tmod_nat p ls.length
          have e3 : Int.tdiv (p : Int) (ls.length : Int) = (q : Int) := by rw [hq]; exact tdiv_nat p ls.length
          obtain ⟨g, cap, hve, hg1, hg2, -, -, hLs⟩ := own_nats hown2.out (by omega)
          cases hve
          have l0 := hLs d hdl
          obtain ⟨l, hl⟩ : ∃ l : Nat, l = ls[d] := ⟨_, rfl⟩
          have hlt6 : l < 6 := by
            have := letters_lt (A := al) (l := l) (by rw [← hls.out, hl]; exact List.getElem_mem _)
            exact this.1
          rw [← hl] at l0
          have i1 : (0 : Int) ≤ (d : Int) ∧ (d : Int) < (ls.length : Int) := by omega
          have hoo2 : Hid ((o ++ [l]) ++ wAt ls q = wAt ls n) := hid (by
            rw [← hoo, wAt_succ, ← hd, ← hq, List.getD_eq_getElem?_getD, List.getElem?_eq_getElem hdl, hl]
            simp)
          have hlen : o.length < 7 := by omega
          replace hl := hid hl
          replace hLs := hid hLs
          replace hd := hid hd
          replace hq := hid hq
          replace hoo := hid hoo
          replace hnil := hid hnil
          replace ho := hid ho
          replace hl0 := hid hl0
          go_wp2_with (first
            | (go_at_call 89; refine (letterByte_any l hlt6 _).mono ?_; rintro e w' ⟨rfl, rfl⟩)
            | (at_builtin; refine wpList_append_own _ rfl _ _ 22 rfl w1.heap.size 5 i0 (.int .u8 0) 1 1 Tryd.underlying22 hi hz0 hz1 hz2 rfl (by decide) _ _ _ rfl (hob.alloc _) ⟨wr.heap.size, 0, none⟩ 1 1 [.int .u8 (97 + l : Nat)] rfl rfl (cell_one_new _ _ _) (by intro u hu; simp at hu; subst hu; rfl) (by unfold maxLen; omega) (by omega) (by simp; omega) ?_; intro v' w9 hown' hgrow hnil'; have hB9 := hid (Below.grown (hb.alloc hzr _) hgrow (by simp; omega) (own_block hob))))
          have hO9 : Hid (w9.ownsRow w1.heap.size 5 1 v' (o ++ [l]).length (bytesOf (o ++ [l]))) := hid (by
            unfold bytesOf at hown' ⊢
            rw [List.length_append, List.map_append]
            exact hown')
          clear hown' hgrow hob hb hnil'
          go_roundw
          case rel => exact ⟨q, o ++ [l], rfl, by omega, by rw [List.length_append]; simp; omega, hoo2.out, (fun x hx => by rcases List.mem_append.1 hx with h | h; exact ho6.out x h; rw [List.mem_singleton.1 h]; exact hlt6), .inl hlp, (fun e => by simp at e), hO9.out, hB9.out⟩
          case measure => simp [intOf]; omega
    · obtain rfl : k = 0 := by omega
      rw [wAt_zero, List.append_nil] at hoo
      have hLL : 0 < (letters al).length ∨ n = 0 := by
        rw [← hls.out]
        rcases hL.out with h | h
        · exact .inl h
        · exact .inr h.symm
      have hfin : Hid ((wAt (letters al) n).length ≤ 7) := hid (by rw [← hls.out, ← hoo]; exact ho7)
      have hww : Hid (wordS (wAt (letters al) n) = wordS o) := hid (by rw [← hls.out, ← hoo])
      replace hLL := hid hLL
      replace hk := hid hk
      replace hoo := hid hoo
      by_cases hoe : o = []
      · have hv := hnil hoe
        subst hv
        subst hoe
        replace hob := hid hob
        replace hnil := hid hnil
        go_wp2_with fail
        refine (reverseNone_any wr).mono ?_
        rintro e w2 ⟨rfl, hb2⟩
        have hB2 := hid (hbb.out.trans (hb2.mono hbb.out.size))
        have kc : (convert 22 9 (.slice none 0 0)).run Tryd.prog w2 = .ok (.string ⟨#[]⟩) w2 := conv_own (l := []) (World.ownsRow_nil w2 0 _ _)
        go_wp2
        go_ret2
        exact ⟨.inl ⟨by rw [hww.out]; rfl, hLL.out, hfin.out⟩, hB2.out⟩
      · have hpos : 0 < o.length := List.length_pos_iff.2 hoe
        obtain ⟨gb, cap, cur, rfl, hgb, hcap, hcap', hblk, hsz, hcur⟩ := own_blk hob hpos
        have hblk' := hid hblk
        have hcs : Hid (∀ i (h : i < (o.map (97 + ·)).length), cur[i]? = some (.int .u8 ((o.map (97 + ·))[i] : Nat))) := hid fun i h => by
          have hi : i < o.length := by simpa using h
          rw [hcur i (by unfold bytesOf; simpa using hi)]
          unfold bytesOf
          simp
        replace hcur := hid hcur
        replace hblk := hid hblk
        replace hob := hid hob
        replace hnil := hid hnil
        replace hoe := hid hoe
        go_wp2_with fail
        refine (reverseBytes_any gb o.length cap (o.map (97 + ·)) cur wr (by simp) hcap hcap' hblk'.out hsz hcs.out).mono ?_
        rintro e w2 ⟨rfl, hg2, cs2, hblk2, hsz2, hcs2⟩
        have hBr : Below w1.heap.size w1 w2 := hb.grown hg2 hb.size (fun k hk => by cases hk; exact hgb)
        have hB2 := hid (hb1.trans (hBr.mono hz1'))
        have kc : (convert 22 9 (.slice (some ⟨gb, 0, none⟩) o.length cap)).run Tryd.prog w2 = .ok (.string (wordS o)) w2 := by
          have := run_convert_bytes_back (P := Tryd.prog) w2 22 9 5 ⟨gb, 0, none⟩ cap (o.reverse.map letB) Tryd.underlying22 Tryd.underlying5 Tryd.underlying9 (fun j hj => by
            have hj' : j < o.length := by simpa using hj
            have e1 := hcs2 j (by simpa using hj')
            have hadd : (⟨gb, 0, none⟩ : Addr).add j = ⟨gb, j, none⟩ := by unfold Addr.add; split <;> simp_all
            rw [hadd, hblk2.cell, e1]
            have h6' : o.reverse[j]'(by simpa using hj') < 6 := ho6.out _ (List.mem_reverse.1 (List.getElem_mem _))
            simp only [List.getElem_map, List.map_reverse, List.getElem_reverse] at h6' ⊢
            unfold letB
            rw [UInt8.toNat_ofNat']
            have := h6'
            simp only [List.length_map] at *
            rw [Nat.mod_eq_of_lt (by omega)])
          simpa [wordS] using this
        replace hcs2 := hid hcs2
        replace hblk2 := hid hblk2
        replace hg2 := hid hg2
        clear hb hBr
        go_wp2
        go_ret2
        exact ⟨.inl ⟨by rw [hww.out]; rfl, hLL.out, hfin.out⟩, hB2.out⟩

end Go.Proofs.YtempjhgajcdibaaDoor

/- The law FnTraceLeast. -/
namespace Go.Proofs.YtempjhgajcdibaaDoor
open Go.RowKit Go.BigFrame AG

set_option maxHeartbeats 1000000 in
theorem agComparable_any (s t : Sy) (A B : Option Addr) (c d : Nat) (w : World) (hl : s.es.length ≤ c) (hc : c ≤ 9223372036854775807) (hm : t.es.length ≤ d) (hd : d ≤ 9223372036854775807) (hr : EdsAt w w.heap.size A s.es) (hs : EdsAt w w.heap.size B t.es) :
    Calls Tryd.prog 32 #[s.val A c, t.val B d] w fun e w' => e = .returned (.bool (cmpOk s t)) ∧ Below w.heap.size w w' := by
  unfold Sy.val
  replace hr := hid hr
  replace hs := hid hs
  have hval : Hid (cmpOk s t = (sysOk s && (sysOk t && decide (s.al = t.al)))) := hid rfl
  go_enter Tryd.func32, Tryd.ntmps32
  go_wp2_with fail
  obtain ⟨w0, hw0, hz0, hB0, hS, hT⟩ := boxed2 w #[Value.int IntKind.i64 s.al, Value.int IntKind.i64 s.st, Value.slice A s.es.length c] 25 #[Value.int IntKind.i64 t.al, Value.int IntKind.i64 t.st, Value.slice B t.es.length d] 25
  rw [hw0]
  clear hw0
  have p0 := hS 0 _ rfl _ (Below.refl _ _)
  have p1 := hS 1 _ rfl _ (Below.refl _ _)
  have p2 := hS 2 _ rfl _ (Below.refl _ _)
  have hr0 := hid (hr.out.later hB0)
  go_wp2_with fail
  refine (implSystemValid_any s A c w0 hl hc hr0.out).mono ?_
  rintro e w1 ⟨rfl, hb1⟩
  have b1 := hb1.mono hz0
  clear p0 p1 p2
  have p0 := hS 0 _ rfl _ b1
  have q0 := hT 0 _ rfl _ b1
  have q1 := hT 1 _ rfl _ b1
  have q2 := hT 2 _ rfl _ b1
  have B1 : Below w.heap.size w w1 := hB0.trans (b1.mono (by omega))
  cases hA : sysOk s
  · replace hA := hid hA
    go_wp2_with fail
    go_ret
    exact ⟨ret_bool (by rw [hval.out, hA.out]; rfl), B1⟩
  · replace hA := hid hA
    have hs1 := hid (hs.out.later B1)
    go_wp2_with fail
    refine (implSystemValid_any t B d w1 hm hd hs1.out).mono ?_
    rintro e w2 ⟨rfl, hb2⟩
    have b2 := b1.trans (hb2.mono (Nat.le_trans hz0 hb1.size))
    clear p0 q0 q1 q2
    have p0 := hS 0 _ rfl _ b2
    have q0 := hT 0 _ rfl _ b2
    have B2 : Below w.heap.size w w2 := hB0.trans (b2.mono (by omega))
    cases hB : sysOk t
    · replace hB := hid hB
      go_wp2_with fail
      go_ret
      exact ⟨ret_bool (by rw [hval.out, hA.out, hB.out]; rfl), B2⟩
    · replace hB := hid hB
      go_wp2_with fail
      go_ret
      exact ⟨ret_bool (by rw [hval.out, hA.out, hB.out, Bool.eq_iff_iff]; simp), B2⟩


theorem pathV_two (o : Option (List Nat)) : ∃ (S : ByteArray) (F : Bool), pathV o = .tuple #[.string S, .bool F] := ⟨_, _, rfl⟩
theorem IsOut.off {s t : Sy} {o : Option (List Nat)} (h : IsOut s t o) (hc : cmpOk s t = false) : o = none := by
  unfold IsOut at h
  rw [hc] at h
  exact h

set_option maxRecDepth 100000 in
set_option maxHeartbeats 8000000 in
theorem FnTraceLeast_any (A : Option Addr) (n c : Nat) (w : World) (hn : n ≤ c) (hc : c ≤ 9223372036854775807) (hT : Tab w) (hx : CodeAt w A n) :
    Calls Tryd.prog 8 #[.slice A n c] w fun e w' => e = .returned (.bool true) ∧ Below w.heap.size w w' := by
  replace hx := hid hx
  replace hT := hid hT
  by_cases hbig : 1048576 < n
  · go_enter Tryd.func8, Tryd.ntmps8
    go_wp2
    go_ret
    exact ⟨rfl, Below.refl _ _⟩
  · go_enter Tryd.func8, Tryd.ntmps8
    go_wp2_with fail
    refine (drawFirstTraceOutside_any A n c w hn hc hx.out).mono ?_
    rintro e w1 ⟨s, t, As, Bs, cs, ds, rfl, a1, a2, b1, b2, ea, eb, hb1⟩
    unfold Sy.val
    obtain ⟨w0, hw0, hz0, hB0, hS, hU⟩ := boxed2 w1 #[Value.int IntKind.i64 s.al, Value.int IntKind.i64 s.st, Value.slice As s.es.length cs] 25 #[Value.int IntKind.i64 t.al, Value.int IntKind.i64 t.st, Value.slice Bs t.es.length ds] 25
    have p0 := hS 0 _ rfl _ (Below.refl _ _)
    have p1 := hS 1 _ rfl _ (Below.refl _ _)
    have p2 := hS 2 _ rfl _ (Below.refl _ _)
    have q0 := hU 0 _ rfl _ (Below.refl _ _)
    have q1 := hU 1 _ rfl _ (Below.refl _ _)
    have q2 := hU 2 _ rfl _ (Below.refl _ _)
    have hr0 := hid (ea.later hB0)
    have hs0 := hid (eb.later hB0)
    have hBB0 := hb1.trans (hB0.mono hb1.size)
    have hT0 := hid (hT.out.later hBB0)
    have hC0 : Hid (Below (w1.heap.size + 2) w0 w0) := hid (Below.refl _ _)
    clear ea eb
    go_wp2_with fail
    refine (implFirstTraceOutside_any s t As Bs cs ds w0 a1 a2 b1 b2 hT0.out hr0.out hs0.out).mono ?_
    rintro e w2 ⟨o, rfl, ho, hb2⟩
    obtain ⟨S, F, hp⟩ := pathV_two o
    rw [hp]
    clear hw0
    have hCC2 := hC0.out.trans (hb2.mono (by have := hC0.out.size; omega))
    have hr2 := hid (hr0.out.later hb2)
    have hs2 := hid (hs0.out.later hb2)
    have hBB2 := hBB0.trans (hb2.mono hBB0.size)
    have hT2 := hid (hT0.out.later hb2)
    clear p0 p1 p2 q0 q1 q2
    have p0 := hS 0 _ rfl _ hCC2
    have p1 := hS 1 _ rfl _ hCC2
    have p2 := hS 2 _ rfl _ hCC2
    have q0 := hU 0 _ rfl _ hCC2
    have q1 := hU 1 _ rfl _ hCC2
    have q2 := hU 2 _ rfl _ hCC2
    have hC2 := hid hCC2
    clear hCC2
    go_wp2_with fail
    refine (specFTO_any s t As Bs cs ds w2 a1 a2 b1 b2 hr2.out hs2.out).mono ?_
    rintro e w3 ⟨o', rfl, ho', hb3⟩
    obtain rfl : o' = o := ho'.unique ho
    rw [hp]
    replace hp := hid hp
    replace ho := hid ho
    clear ho'
    have hCC3 := hC2.out.trans (hb3.mono (by have := hC2.out.size; omega))
    have hr3 := hid (hr2.out.later hb3)
    have hs3 := hid (hs2.out.later hb3)
    have hBB3 := hBB2.trans (hb3.mono hBB2.size)
    have hT3 := hid (hT2.out.later hb3)
    clear p0 p1 p2 q0 q1 q2
    have p0 := hS 0 _ rfl _ hCC3
    have p1 := hS 1 _ rfl _ hCC3
    have p2 := hS 2 _ rfl _ hCC3
    have q0 := hU 0 _ rfl _ hCC3
    have q1 := hU 1 _ rfl _ hCC3
    have q2 := hU 2 _ rfl _ hCC3
    have hC3 := hid hCC3
    clear hCC3
    have hFF : (F == F) = true := by cases F <;> rfl
    go_wp2_with fail
    refine (agComparable_any s t As Bs cs ds w3 a1 a2 b1 b2 hr3.out hs3.out).mono ?_
    rintro e w4 ⟨rfl, hb4⟩
    have hCC4 := hC3.out.trans (hb4.mono (by have := hC3.out.size; omega))
    have hr4 := hid (hr3.out.later hb4)
    have hs4 := hid (hs3.out.later hb4)
    have hBB4 := hBB3.trans (hb4.mono hBB3.size)
    have hT4 := hid (hT3.out.later hb4)
    clear p0 p1 p2 q0 q1 q2
    have p0 := hS 0 _ rfl _ hCC4
    have p1 := hS 1 _ rfl _ hCC4
    have p2 := hS 2 _ rfl _ hCC4
    have q0 := hU 0 _ rfl _ hCC4
    have q1 := hU 1 _ rfl _ hCC4
    have q2 := hU 2 _ rfl _ hCC4
    have hC4 := hid hCC4
    clear hCC4
    cases hcm : cmpOk s t
    · replace hcm := hid hcm
      clear p0 p1 p2 q0 q1 q2
      go_wp2_with fail
      go_ret
      exact ⟨rfl, hBB4⟩
    · have hsy : alphaOk s.al = true := by
        have h := hcm
        unfold cmpOk at h
        rw [Bool.and_eq_true] at h
        exact alphaOk_range.2 (sysOk_alpha h.1)
      have hal : Hid (s.al = t.al) := hid (by
        have h := hcm
        unfold cmpOk at h
        simp only [Bool.and_eq_true, decide_eq_true_eq] at h
        exact h.2.2)
      replace hcm := hid hcm
      replace hsy := hid hsy
      obtain ⟨L, hL⟩ : ∃ L, Hid (L = letters s.al) := ⟨_, hid rfl⟩
      go_wp2_with fail
      go_loopw [9] (fun iv wr => ∃ i : Nat, iv = .int .i64 i ∧ i ≤ 60 ∧ (∀ j, j < i → ¬ AG.Outside s t (wAt L j)) ∧ Below w4.heap.size w4 wr) (fun iv _ => 60 - (intOf iv).toNat)
      case atStart => exact ⟨0, rfl, by omega, (fun j hj => by omega), Below.refl _ _⟩
      case round =>
        obtain ⟨i, rfl, hi, hno, hb5⟩ := hrel
        have hCC5 := hC4.out.trans (hb5.mono (by have := hC4.out.size; omega))
        have hr5 := hid (hr4.out.later hb5)
        have hs5 := hid (hs4.out.later hb5)
        have hBB5 := hBB4.trans (hb5.mono hBB4.size)
        have hT5 := hid (hT4.out.later hb5)
        clear p0 p1 p2 q0 q1 q2
        have p0 := hS 0 _ rfl _ hCC5
        have p1 := hS 1 _ rfl _ hCC5
        have p2 := hS 2 _ rfl _ hCC5
        have q0 := hU 0 _ rfl _ hCC5
        have q1 := hU 1 _ rfl _ hCC5
        have q2 := hU 2 _ rfl _ hCC5
        have hC5 := hid hCC5
        clear hCC5
        replace hno := hid hno
        by_cases hlt : i < 60
        · have hlt' : ((i : Int) < 60) := by omega
          go_wp2_with fail
          refine (implWordAt_any i s.al wr hsy.out (by omega)).mono ?_
          rintro e w6 ⟨hres, hb6⟩
          have hb56 := hid (hb5.trans (hb6.mono hb5.size))
          have hCC6 := hC5.out.trans (hb6.mono (by have := hC5.out.size; omega))
          have hr6 := hid (hr5.out.later hb6)
          have hs6 := hid (hs5.out.later hb6)
          have hBB6 := hBB5.trans (hb6.mono hBB5.size)
          have hT6 := hid (hT5.out.later hb6)
          clear p0 p1 p2 q0 q1 q2
          have p0 := hS 0 _ rfl _ hCC6
          have p1 := hS 1 _ rfl _ hCC6
          have p2 := hS 2 _ rfl _ hCC6
          have q0 := hU 0 _ rfl _ hCC6
          have q1 := hU 1 _ rfl _ hCC6
          have q2 := hU 2 _ rfl _ hCC6
          have hC6 := hid hCC6
          clear hCC6
          rw [← hL.out] at hres
          rcases hres with ⟨rfl, hLL, hlen⟩ | rfl
          · obtain ⟨r, hr⟩ : ∃ r, Hid (r = wAt L i) := ⟨_, hid rfl⟩
            rw [← hr.out] at hlen
            rw [← hr.out]
            have hrl : Hid (∀ l ∈ r, l ∈ letters s.al) := hid (by
              rw [hr.out, ← hL.out]
              rcases hLL with h | h
              · exact wAt_mem h i
              · rw [h, wAt_zero]
                intro l hl
                cases hl)
            have hiff := hid (outside_iff hcm.out hrl.out (by omega))
            have hzr : (wordS r).size ≤ 9223372036854775807 := by rw [wordS_size]; omega
            replace hLL := hid hLL
            replace hlen := hid hlen
            go_wp2_with fail
            refine (implHasTrace_any s As cs (wordS r) w6 hzr a1 a2 hT6.out hr6.out).mono ?_
            rintro e w7 ⟨rfl, hb7⟩
            have hb57 := hid (hb56.out.trans (hb7.mono hb56.out.size))
            have hCC7 := hC6.out.trans (hb7.mono (by have := hC6.out.size; omega))
            have hr7 := hid (hr6.out.later hb7)
            have hs7 := hid (hs6.out.later hb7)
            have hBB7 := hBB6.trans (hb7.mono hBB6.size)
            have hT7 := hid (hT6.out.later hb7)
            clear p0 p1 p2 q0 q1 q2
            have p0 := hS 0 _ rfl _ hCC7
            have p1 := hS 1 _ rfl _ hCC7
            have p2 := hS 2 _ rfl _ hCC7
            have q0 := hU 0 _ rfl _ hCC7
            have q1 := hU 1 _ rfl _ hCC7
            have q2 := hU 2 _ rfl _ hCC7
            have hC7 := hid hCC7
            clear hCC7
            cases h1 : hasTr s (wordS r)
            · have hnn : Hid (¬ AG.Outside s t r) := hid (fun h => by have := hiff.out.1 h; rw [h1] at this; cases this.1)
              replace h1 := hid h1
              go_wp2_with fail
              go_roundw
              case rel => exact ⟨i + 1, by go_num, by omega, (fun j hj => by by_cases e : j = i; (rw [e, ← hr.out]; exact hnn.out); exact hno.out j (by omega)), hb57.out⟩
              case measure => simp [intOf]; omega
            · replace h1 := hid h1
              go_wp2_with fail
              refine (implHasTrace_any t Bs ds (wordS r) w7 hzr b1 b2 hT7.out hs7.out).mono ?_
              rintro e w8 ⟨rfl, hb8⟩
              have hb58 := hid (hb57.out.trans (hb8.mono hb57.out.size))
              have hCC8 := hC7.out.trans (hb8.mono (by have := hC7.out.size; omega))
              have hr8 := hid (hr7.out.later hb8)
              have hs8 := hid (hs7.out.later hb8)
              have hBB8 := hBB7.trans (hb8.mono hBB7.size)
              have hT8 := hid (hT7.out.later hb8)
              clear p0 p1 p2 q0 q1 q2
              have p0 := hS 0 _ rfl _ hCC8
              have p1 := hS 1 _ rfl _ hCC8
              have p2 := hS 2 _ rfl _ hCC8
              have q0 := hU 0 _ rfl _ hCC8
              have q1 := hU 1 _ rfl _ hCC8
              have q2 := hU 2 _ rfl _ hCC8
              have hC8 := hid hCC8
              clear hCC8
              cases h2 : hasTr t (wordS r)
              · have hout := hiff.out.2 ⟨h1.out, h2⟩
                have hfa := first_at hcm.out ho.out (i := i) (by rw [← hL.out]; exact hLL.out) (by rw [← hL.out, ← hr.out]; exact hout) (by rw [← hL.out]; exact hno.out)
                rw [← hL.out, ← hr.out] at hfa
                have hp2 := hp.out
                rw [hfa] at hp2
                have e1 : S = wordS r ∧ F = true := by
                  unfold pathV at hp2
                  simp at hp2
                  exact ⟨hp2.1.symm, hp2.2⟩
                obtain ⟨rfl, rfl⟩ := e1
                replace h2 := hid h2
                clear hfa hout hp2 p0 p1 p2 q0 q1 q2
                go_wp2_with fail
                go_ret
                exact ⟨rfl, hBB8⟩
              · have hnn : Hid (¬ AG.Outside s t r) := hid (fun h => by have := hiff.out.1 h; rw [h2] at this; cases this.2)
                replace h2 := hid h2
                go_wp2_with fail
                go_roundw
                case rel => exact ⟨i + 1, by go_num, by omega, (fun j hj => by by_cases e : j = i; (rw [e, ← hr.out]; exact hnn.out); exact hno.out j (by omega)), hb58.out⟩
                case measure => simp [intOf]; omega
          · clear p0 p1 p2 q0 q1 q2
            go_wp2_with fail
            go_ret
            exact ⟨rfl, hBB6⟩
        · clear p0 p1 p2 q0 q1 q2
          go_wp2_with fail
          go_ret
          exact ⟨rfl, hBB5⟩

end Go.Proofs.YtempjhgajcdibaaDoor
