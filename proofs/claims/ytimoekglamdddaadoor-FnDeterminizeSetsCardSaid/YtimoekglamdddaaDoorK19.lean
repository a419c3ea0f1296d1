/- Lemmas, part 19: several texts in one. -/
import Derived.Test.YtimoekglamdddaaDoorK14
import Derived.Test.YtimoekglamdddaaDoorK18
import Derived.Test.YtimoekglamdddaaDoorK6
import Derived.Test.YtimoekglamdddaaDoorK7
import Derived.Test.YtimoekglamdddaaDoorK12
set_option linter.unusedSimpArgs false
set_option linter.unusedVariables false

/- Plain: the states of an automaton of sets, and the words that lead there. -/
namespace Go.Proofs.YtimoekglamdddaaDoor
open AG

theorem rowN_in {nx : Nat → Nat → Nat} {a y : Nat} : ∀ (L ns : List Nat), y ∈ rowN nx a ns L → y ∈ ns ∨ ∃ l ∈ L, y = nx a l
  | [], ns, h => .inl h
  | l :: L, ns, h => by
    rcases rowN_in L (addN ns (nx a l)) h with h | ⟨k, hk, e⟩
    · unfold addN at h
      split at h
      · exact .inl h
      · rcases List.mem_append.1 h with h | h
        · exact .inl h
        · exact .inr ⟨l, List.mem_cons_self, List.mem_singleton.1 h⟩
    · exact .inr ⟨k, List.mem_cons_of_mem _ hk, e⟩
theorem nsAt_word {nx : Nat → Nat → Nat} {L : List Nat} {n0 : Nat} : ∀ i y, y ∈ nsAt nx L n0 i → ∃ r, (∀ l ∈ r, l ∈ L) ∧ r.length ≤ i ∧ dW nx n0 r = y
  | 0, y, h => ⟨[], by simp, Nat.le_refl _, (List.mem_singleton.1 h).symm⟩
  | i + 1, y, h => by
    by_cases hi : i < (nsAt nx L n0 i).length
    · rw [nsAt_succ hi] at h
      rcases rowN_in L _ h with h | ⟨l, hl, rfl⟩
      · obtain ⟨r, h1, h2, h3⟩ := nsAt_word i y h
        exact ⟨r, h1, by omega, h3⟩
      · obtain ⟨r, h1, h2, h3⟩ := nsAt_word i _ (List.getElem_mem hi)
        refine ⟨l :: r, fun k hk => ?_, by simpa using h2, ?_⟩
        · rcases List.mem_cons.1 hk with rfl | hk
          · exact hl
          · exact h1 k hk
        · show nx (dW nx n0 r) l = _
          rw [h3]
    · rw [nsAt_stop (by omega) 1] at h
      obtain ⟨r, h1, h2, h3⟩ := nsAt_word i y h
      exact ⟨r, h1, by omega, h3⟩
theorem rlt_len : ∀ {r q : List Nat}, rlt r q → r.length ≤ q.length
  | [], _, _ => Nat.zero_le _
  | _ :: _, [], h => h.elim
  | _ :: r, _ :: q, h => by
    rcases h with h | ⟨rfl, _⟩
    · have := rlt_len h
      simpa using this
    · simp
theorem rle_len {r q : List Nat} (h : rle r q) : r.length ≤ q.length := by
  rcases h with h | rfl
  · exact rlt_len h
  · exact Nat.le_refl _

theorem aft_wordS {s : Sy} {r : List Nat} (hs : sysOk s = true) (hr : ∀ l ∈ r, l ∈ letters s.al) (hl : r.length ≤ 50000) : aft s (wordS r) = setW s r := by
  have hA : alphaOk s.al = true := alphaOk_range.2 (sysOk_alpha hs)
  have hw := wordS_within hA hr hl
  have e := runL_setW s r fun l h => (letters_ok.1 (hr l h)).1
  unfold aft
  rw [hs, hw, runTo_all, wordS_list, e]
  simp

/-- The set that a state stands for. -/
noncomputable def setAt (s : Sy) (i : Nat) : Nat := (nsAt (prNx s (hidA s.al s.al)) (letters s.al) (reachSet s (hidA s.al s.al) 1) 12).getD i 0
theorem setAt_pr {s : Sy} {x : List Nat × List (List Nat)} (h : prNum s s.al = some x) {i : Nat} (hi : i < x.1.length) : setAt s i = x.1[i] := by
  have e := (numRes_spec h).1
  unfold setAt
  rw [← e, List.getD_eq_getElem?_getD, List.getElem?_eq_getElem hi]
  rfl
theorem prA_len {s : Sy} {al : Int} {x : List Nat × List (List Nat)} (h : prNum s al = some x) : (prAu al x).nx.length = x.1.length := by
  show (toRows x.2).length = _
  rw [toRows_len, (numRes_len h).2.1]
theorem setAt_inj {s : Sy} (h : prK s s.al = true) {i k : Nat} (hi : i < (prA s s.al).nx.length) (hk : k < (prA s s.al).nx.length) (e : setAt s i = setAt s k) : i = k := by
  obtain ⟨_, x, hx, ea⟩ := prK_true h
  rw [ea, prA_len hx] at hi hk
  rw [setAt_pr hx hi, setAt_pr hx hk] at e
  have hnd := (numRes_spec hx).2.2.1
  have h1 := hnd.idxOf_getElem i hi
  have h2 := hnd.idxOf_getElem k hk
  rw [e, h2] at h1
  exact h1.symm
/-- The first word that leads to a state. -/
theorem accWord_pr {s : Sy} (h : prK s s.al = true) {i : Nat} (hi : i < (prA s s.al).nx.length) {o : Option (List Nat)}
    (hp : PathPost (fun n => n ∈ [0]) (letters (prA s s.al).al) (fun q l => [goA (prA s s.al) q l]) (fun n => decide (n = i) = true) o)
    (hrw : ∀ r n, RW (fun n => n ∈ [0]) (letters (prA s s.al).al) (fun q l => [goA (prA s s.al) q l]) r n ↔ (∀ l ∈ r, l ∈ letters (prA s s.al).al) ∧ n = runA (prA s s.al) 0 r) :
    ∃ r, o = some r ∧ r.length ≤ 12 ∧ aft s (wordS r) = setAt s i ∧ (prA s s.al).ac.getD i false = decide (setAt s i ≠ 0) := by
  obtain ⟨hk, x, hx, ea⟩ := prK_true h
  obtain ⟨hs, hal, _⟩ := prOk_parts hk
  have hA : alphaOk s.al = true := alphaOk_range.2 hal
  rw [ea] at hi hp hrw ⊢
  have hpal : (prAu s.al x).al = s.al := rfl
  rw [hpal] at hp hrw
  rw [prA_len hx] at hi
  have hmem := List.getElem_mem hi
  have hnd := (numRes_spec hx).2.2.1
  obtain ⟨q, hq1, hq2, hq3⟩ := nsAt_word 12 x.1[i] (by rw [← (numRes_spec hx).1]; exact hmem)
  have hqr : runA (prAu s.al x) 0 q = i := by
    rw [runA_pr hx q hq1]
    show x.1.idxOf (dW _ _ q) = i
    rw [hq3]
    exact hnd.idxOf_getElem i hi
  have hqw := (hrw q i).2 ⟨hq1, hqr.symm⟩
  cases o with
  | none => exact absurd (by simp) (hp q i hqw)
  | some r =>
    obtain ⟨⟨n, hn, hg⟩, hf⟩ := hp
    obtain ⟨h1, h2⟩ := (hrw r n).1 hn
    have hni : n = i := by simpa using hg
    have hlen := Nat.le_trans (rle_len (hf q i hqw (by simp))) hq2
    have hset : setW s r = x.1[i] := by
      rw [← prW_self hal.1 r]
      have h3 := runA_pr hx r h1
      have h4 : prW s s.al r ∈ x.1 := dW_mem hx r h1
      generalize prW s s.al r = P at h3 h4 ⊢
      have h5 := List.idxOf_lt_length_iff.2 h4
      have h6 : x.1.idxOf P = i := by rw [← h3, ← h2, hni]
      have h7 : x.1[x.1.idxOf P]? = some P := by
        rw [List.getElem?_eq_getElem h5, List.getElem_idxOf h5]
      rw [h6, List.getElem?_eq_getElem hi] at h7
      exact (Option.some.inj h7).symm
    refine ⟨r, rfl, hlen, ?_, ?_⟩
    · rw [setAt_pr hx hi, ← hset]
      exact aft_wordS hs h1 (Nat.le_trans hlen (by decide))
    · rw [setAt_pr hx hi]
      show (x.1.map fun S => decide (S ≠ 0)).getD i false = _
      rw [getD_map_of_lt _ _ _ _ hi]

end Go.Proofs.YtimoekglamdddaaDoor

/- The program's firstFrom and AccessWord. -/
namespace Go.Proofs.YtimoekglamdddaaDoor
open Go.RowKit Go.BigFrame AG

def FromP (a : Au) (G : Nat → Bool) (o : Option (List Nat)) : Prop := PathPost (fun n => n ∈ [0]) (letters a.al) (fun q l => [goA a q l]) (fun n => G n = true) o
def FromPost (a : Au) (G : Nat → Bool) (w : World) (e : Ending) (w' : World) : Prop :=
  ∃ o, e = .returned (pathV o) ∧ FromP a G o ∧ Below w.heap.size w w'

set_option maxRecDepth 100000 in
set_option maxHeartbeats 4000000 in
theorem firstFrom_any (a : Au) (A B : Option Addr) (c d : Nat) (G : Nat → Bool) (fG : FuncId) (capG : Array Value) (w : World) (hok : auOk a = true) (hG : GoalOk w a.nx.length G fG capG) (ha : AuAt w A c B d a) :
    Calls Tryd.prog 94 #[a.val A c B d, .func (.func fG) #[] capG] w (FromPost a G w) := by
  obtain ⟨halp, hn1, hn12, hn3, -⟩ := (auOk_iff a).1 hok
  obtain ⟨w0, hw0, hz0, hB0, hS⟩ := boxed w #[Value.int IntKind.i64 a.al, Value.slice A a.nx.length c, Value.slice B a.ac.length d] 29
  have ha0 := hid (ha.later hB0)
  have p0 := hS 0 _ rfl _ (Below.refl _ _)
  have p1 := hS 1 _ rfl _ (Below.refl _ _)
  have p2 := hS 2 _ rfl _ (Below.refl _ _)
  replace ha := hid ha
  have hok' := hid hok
  have hn3' := hid hn3
  clear hok hn3
  replace halp := hid halp
  replace hG := hid hG
  unfold AG.Au.val
  go_enter Tryd.func94, Tryd.ntmps94
  go_wp2_with fail
  refine (tableOf_any a A B c d w0 (by omega) (tabOk_of hok'.out) ha0.out).mono ?_
  rintro e w1 ⟨g, rfl, hg, hb1⟩
  have hB1 := hB0.trans (hb1.mono hB0.size)
  clear p0 p1 p2
  replace hg := hid hg
  have hz1 := hb1.size
  go_upto_region 2 with fail
  obtain ⟨w2, hw2, hz2, hB2', hU⟩ := boxed w1 #[.slice (some ⟨g, 0, none⟩) a.nx.length a.nx.length] 141
  rw [hw2]
  clear hw2
  have hB2 := hB1.trans (hB2'.mono hB1.size)
  have hb02 := hb1.trans (hB2'.mono hz1)
  have hg2 := hid (hg.out.later hB2')
  have hU' := hid (fun w' (hb : Below w2.heap.size w2 w') => hU 0 _ rfl w' (hb.mono hz2))
  have hS0 := hid (fun w' (hb : Below w2.heap.size w2 w') => hS 0 _ rfl w' ((hb02.trans (hb.mono hb02.size)).mono hz0))
  have y0 := fun x => hU'.out _ (Fam.below w2.heap.size w2 x)
  have y1 := fun x => hS0.out _ (Fam.below w2.heap.size w2 x)
  clear hU
  refine wp_region_grow 13 w2.heap.size w2 (fun i u w' => if i = 5 then OwnNats w' w2.heap.size u (letters a.al) else ∃ o, u = pathV o ∧ FromP a G o) (by kernel_rfl) (by kernel_rfl) (Nat.le_refl _) (Below.refl _ _) ?_
  simp only [List.take_succ_cons, List.take_zero, List.drop_succ_cons, List.drop_zero]
  (repeat (refine grow_quiet (by rfl) (by rfl) (by rfl) ?_; intro K hK; go_big_quiet_op; go_big_quiet_on))
  refine grow_new (by rfl) (fun b => .slice (some ⟨b, 0, none⟩) 1 1) 3 #[.int .i64 0] (fun _ => by go_simp) (fun _ => rfl) (Nat.le_refl _) fun bI hbI => ?_
  simp only [Act.put, List.setIfInBounds_toArray, List.set_cons_zero, List.set_cons_succ]
  (repeat (refine grow_quiet (by rfl) (by rfl) (by rfl) ?_; intro K hK; go_big_quiet_op; go_big_quiet_on))
  refine grow_call (by rfl) (by rfl) (fun u v v' hb h => ?_) (fun wq hbq _ => ?_) fun u hu => ?_
  · exact own_keep h (.of_below (K := fun _ => False) hb) fun _ _ h => h
  · go_simp
    refine ⟨rfl, (lettersOf_any a.al wq).mono ?_⟩
    rintro e w5 ⟨v, rfl, ho, hb5⟩
    exact ⟨v, rfl, hb5, own_base ho hbq.size⟩
  simp only [Act.put, List.setIfInBounds_toArray, List.set_cons_zero, List.set_cons_succ]
  (repeat (refine grow_quiet (by rfl) (by rfl) (by rfl) ?_; intro K hK; go_big_quiet_op; go_big_quiet_on))
  refine grow_call (by rfl) (by rfl) (fun v x x' hb h => h) (fun wq hbq hfx => ?_) fun u2 hu2 => ?_
  · have hlet : OwnNats wq w2.heap.size u (letters a.al) := hfx _ List.mem_cons_self (by kernel_rfl)
    obtain ⟨bI', eI, -, hI⟩ := hfx _ (List.mem_cons_of_mem _ List.mem_cons_self) (by kernel_rfl)
    cases eI
    have hcT := hid (hU'.out wq hbq)
    have hgq := hid (hg2.out.later hbq)
    have hBq := hB2.trans (hbq.mono hB2.size)
    go_simp
    refine ⟨rfl, ?_⟩
    have hIo : wq.ownsRow 0 3 1 (.slice (some ⟨bI, 0, none⟩) 1 1) [0].length (natVals [0]) := ⟨rfl, .inr ⟨bI, 1, #[.int .i64 0], rfl, Nat.zero_le _, hI, Nat.le_refl _, by decide, rfl, rfl⟩⟩
    refine (firstPath_any wq a.nx.length G fG capG ⟨hG.out.run, fun w' q hb hq => hG.out.call w' q (hBq.trans (hb.mono hBq.size)) hq⟩ (letters a.al) (letters_sorted _) (fun l h => (letters_lt h).1) (fun q l => [goA a q l]) 142 _
      (fromNext_ok hok'.out rfl hgq.out hcT.out) [0] (by simp) (fun n hn => by rw [List.mem_singleton] at hn; omega) (by simp) _ u hIo (own_base hlet (Nat.zero_le _)) (by omega)).mono ?_
    rintro e w6 ⟨o, rfl, hp, hb6⟩
    exact ⟨_, rfl, hb6, o, rfl, hp⟩
  obtain ⟨w6', -, o, rfl, hout⟩ := hu2
  obtain ⟨Sv, Fv, hpv⟩ : ∃ Sv Fv, pathV o = .tuple #[.string Sv, .bool Fv] := ⟨_, _, rfl⟩
  rw [hpv]
  have hpv' := hid hpv
  replace hout := hid hout
  clear hpv
  simp only [Act.put, List.setIfInBounds_toArray, List.set_cons_zero, List.set_cons_succ]
  (repeat (refine grow_quiet (by rfl) (by rfl) (by rfl) ?_; intro K hK; go_big_quiet_op; go_big_quiet_on))
  refine grow_nil ?_
  intro w7 hb7 hf
  clear hf y0 y1
  have hB7 := hB2.trans (hb7.mono hB2.size)
  go_wp2_with fail
  go_ret2
  exact ⟨o, by rw [hpv'.out]; rfl, hout.out, hB7⟩

set_option maxRecDepth 100000 in
set_option maxHeartbeats 1000000 in
theorem accGoal2_any (bQ i q : Nat) (w : World) (hc : w.cell? ⟨bQ, 0, none⟩ = some (.int .i64 (i : Nat))) :
    Calls Tryd.prog 95 #[.int .i64 (q : Nat), .pointer (some ⟨bQ, 0, none⟩)] w fun e w' => e = .returned (.bool (decide (q = i))) ∧ Below w.heap.size w w' := by
  go_enter Tryd.func95, Tryd.ntmps95
  go_wp2
  go_ret
  exact ⟨ret_bool (by rw [Bool.eq_iff_iff]; simp; omega), Below.refl _ _⟩

set_option maxRecDepth 100000 in
set_option maxHeartbeats 4000000 in
theorem implAccessWord_any (a : Au) (A B : Option Addr) (c d i : Nat) (w : World) (hok : auOk a = true) (ha : AuAt w A c B d a) :
    Calls Tryd.prog 40 #[a.val A c B d, .int .i64 (i : Nat)] w (FromPost a (fun q => decide (q = i)) w) := by
  obtain ⟨w0, hw0, hz0, hB0, hS, hU⟩ := boxed2 w #[Value.int IntKind.i64 a.al, Value.slice A a.nx.length c, Value.slice B a.ac.length d] 29 #[Value.int IntKind.i64 (i : Nat)] 3
  have ha0 := hid (ha.later hB0)
  have p0 := hS 0 _ rfl _ (Below.refl _ _)
  have p1 := hS 1 _ rfl _ (Below.refl _ _)
  have p2 := hS 2 _ rfl _ (Below.refl _ _)
  replace ha := hid ha
  have hok' := hid hok
  clear hok
  unfold AG.Au.val
  go_enter Tryd.func40, Tryd.ntmps40
  go_wp2_with fail
  refine (implAutomatonValid_any a A B c d w0 ha0.out).mono ?_
  rintro e w1 ⟨rfl, hb1⟩
  rw [hok'.out]
  have hB1 := hB0.trans (hb1.mono hB0.size)
  have hC1 := hb1.mono hz0
  have ha1 := hid (ha0.out.later hb1)
  have hz1 := hb1.size
  clear p0 p1 p2
  have p0 := hS 0 _ rfl _ hC1
  have p1 := hS 1 _ rfl _ hC1
  have p2 := hS 2 _ rfl _ hC1
  have hgoal := hid (show GoalOk w1 a.nx.length (fun q => decide (q = i)) 95 #[.pointer (some ⟨w.heap.size + 1, 0, none⟩)] from
    ⟨fun args w' => by go_simp, fun w' q hb _ => accGoal2_any (w.heap.size + 1) i q w' (hU 0 _ rfl w' (hC1.trans (hb.mono (by omega))))⟩)
  clear hU
  go_wp2_with fail
  refine (firstFrom_any a A B c d _ 95 _ w1 hok'.out hgoal.out ha1.out).mono ?_
  rintro e w2 ⟨o, rfl, hout, hb2⟩
  obtain ⟨Sv, Fv, hpv⟩ : ∃ Sv Fv, pathV o = .tuple #[.string Sv, .bool Fv] := ⟨_, _, rfl⟩
  rw [hpv]
  have hpv' := hid hpv
  replace hout := hid hout
  have hB2 := hB1.trans (hb2.mono hB1.size)
  clear hpv p0 p1 p2
  go_wp2_with fail
  go_ret2
  exact ⟨o, by rw [hpv'.out]; rfl, hout.out, hB2⟩

end Go.Proofs.YtimoekglamdddaaDoor

/- The law FnDeterminizeSets. -/
namespace Go.Proofs.YtimoekglamdddaaDoor
open Go.RowKit Go.BigFrame Go.Maps AG

noncomputable def setsTo (s : Sy) (i : Nat) : List Nat := (List.range i).map (setAt s)
theorem setsTo_len (s : Sy) (i : Nat) : (setsTo s i).length = i := by unfold setsTo; simp
theorem setsTo_get (s : Sy) (i k : Nat) (h : k < (setsTo s i).length) : (setsTo s i)[k] = setAt s k := by
  have : ∀ (l : List Nat) (_ : l = (List.range i).map (setAt s)) (h : k < l.length), l[k] = setAt s k := by
    rintro _ rfl h
    simp
  exact this _ rfl h
theorem aft_small (s : Sy) (w : ByteArray) : aft s w < 65536 := by
  unfold aft
  split
  · exact runTo_lt s w _
  · omega
theorem setsTo_succ (s : Sy) (i : Nat) : setsTo s (i + 1) = setsTo s i ++ [setAt s i] := by
  unfold setsTo
  rw [List.range_succ, List.map_append]
  rfl

set_option maxRecDepth 100000 in
set_option maxHeartbeats 16000000 in
theorem FnDeterminizeSets_any (A : Option Addr) (n c : Nat) (w : World) (hn : n ≤ c) (hc : c ≤ 9223372036854775807) (hT : Tab w) (hx : CodeAt w A n) :
    Calls Tryd.prog 13 #[.slice A n c] w fun e w' => e = .returned (.bool true) ∧ Below w.heap.size w w' := by
  replace hT := hid hT
  replace hx := hid hx
  by_cases hlen : 1048576 < n
  · have hgt : (1048576 : Int) < (n : Int) := by omega
    go_enter Tryd.func13, Tryd.ntmps13
    go_wp2
    go_ret
    exact ⟨rfl, Below.refl _ _⟩
  have hgt : ¬ ((1048576 : Int) < (n : Int)) := by omega
  go_enter Tryd.func13, Tryd.ntmps13
  go_wp2_with fail
  have BW_w : Below w.heap.size w w := Below.refl _ _
  refine (drawDeterminize_any A n c w hn hc hx.out).mono ?_
  rintro e w1 ⟨s, As, cs, rfl, a1, a2, a3, a4, -, hb_w1⟩
  unfold Sy.val
  have BW_w1 := BW_w.trans (hb_w1.mono BW_w.size)
  have es := hid a4
  have BEs_w1 : Below w1.heap.size w1 w1 := Below.refl _ _
  clear a4
  obtain ⟨a, ha⟩ : ∃ a, Hid (a = prA s s.al) := ⟨_, hid rfl⟩
  obtain ⟨ok, hok⟩ : ∃ ok, Hid (ok = prK s s.al) := ⟨_, hid rfl⟩
  go_upto_region 4 with fail
  obtain ⟨w2, hw_w2, hz_w2, hb_w2, hS_w2⟩ := boxed w1 #[.int .i64 s.al, .int .i64 s.st, .slice As s.es.length cs] 34
  rw [hw_w2]
  clear hw_w2
  have hs0 := fun w' (hb : Below w2.heap.size w2 w') => hS_w2 0 _ rfl w' (hb.mono hz_w2)
  have hs1 := fun w' (hb : Below w2.heap.size w2 w') => hS_w2 1 _ rfl w' (hb.mono hz_w2)
  have hs2 := fun w' (hb : Below w2.heap.size w2 w') => hS_w2 2 _ rfl w' (hb.mono hz_w2)
  replace hs0 := hid hs0
  replace hs1 := hid hs1
  replace hs2 := hid hs2
  clear hS_w2
  have BW_w2 := BW_w1.trans (hb_w2.mono BW_w1.size)
  have BEs_w2 := BEs_w1.trans (hb_w2.mono BEs_w1.size)
  have Bs_w2 : Below w2.heap.size w2 w2 := Below.refl _ _
  have ps0 := hs0.out _ Bs_w2
  have ps1 := hs1.out _ Bs_w2
  have ps2 := hs2.out _ Bs_w2
  go_wp2_with fail
  have hc_a := hid (implDeterminize_any s As cs w2 a1 a2 (hT.out.later BW_w2) (es.out.later BEs_w2))
  rw [← ha.out, ← hok.out] at hc_a
  refine hc_a.out.mono ?_
  clear hc_a
  clear ps0 ps1 ps2
  rintro e w3 ⟨hb_w3, v1, v2, xs, rfl, hau⟩
  obtain ⟨Aa, ca, Ba, da, rfl, rfl, ta⟩ := hau.at_
  replace ta := hid ta
  clear hau
  have BW_w3 := BW_w2.trans (hb_w3.mono BW_w2.size)
  have BEs_w3 := BEs_w2.trans (hb_w3.mono BEs_w2.size)
  have Bs_w3 := Bs_w2.trans (hb_w3.mono Bs_w2.size)
  have BTa_w3 : Below w3.heap.size w3 w3 := Below.refl _ _
  go_upto_region 5 with fail
  obtain ⟨w4, hw_w4, hz_w4, hb_w4, hS_w4⟩ := boxed w3 #[.int .i64 a.al, .slice Aa a.nx.length ca, .slice Ba a.ac.length da] 29
  rw [hw_w4]
  clear hw_w4
  have ha0 := fun w' (hb : Below w4.heap.size w4 w') => hS_w4 0 _ rfl w' (hb.mono hz_w4)
  have ha1 := fun w' (hb : Below w4.heap.size w4 w') => hS_w4 1 _ rfl w' (hb.mono hz_w4)
  have ha2 := fun w' (hb : Below w4.heap.size w4 w') => hS_w4 2 _ rfl w' (hb.mono hz_w4)
  replace ha0 := hid ha0
  replace ha1 := hid ha1
  replace ha2 := hid ha2
  clear hS_w4
  have BW_w4 := BW_w3.trans (hb_w4.mono BW_w3.size)
  have BEs_w4 := BEs_w3.trans (hb_w4.mono BEs_w3.size)
  have Bs_w4 := Bs_w3.trans (hb_w4.mono Bs_w3.size)
  have BTa_w4 := BTa_w3.trans (hb_w4.mono BTa_w3.size)
  have Ba_w4 : Below w4.heap.size w4 w4 := Below.refl _ _
  have ps0 := hs0.out _ Bs_w4
  have ps1 := hs1.out _ Bs_w4
  have ps2 := hs2.out _ Bs_w4
  go_wp2_with fail
  have hc_x := hid (specDeterminize_any s As cs w4 a1 a2 (es.out.later BEs_w4))
  rw [← ha.out, ← hok.out] at hc_x
  refine hc_x.out.mono ?_
  clear hc_x
  clear ps0 ps1 ps2
  rintro e w5 ⟨hb_w5, v1, v2, xs, rfl, hau⟩
  obtain ⟨Ax, cx, Bx, dx, rfl, rfl, tx⟩ := hau.at_
  replace tx := hid tx
  clear hau
  have BW_w5 := BW_w4.trans (hb_w5.mono BW_w4.size)
  have BEs_w5 := BEs_w4.trans (hb_w5.mono BEs_w4.size)
  have Bs_w5 := Bs_w4.trans (hb_w5.mono Bs_w4.size)
  have BTa_w5 := BTa_w4.trans (hb_w5.mono BTa_w4.size)
  have Ba_w5 := Ba_w4.trans (hb_w5.mono Ba_w4.size)
  have BTx_w5 : Below w5.heap.size w5 w5 := Below.refl _ _
  go_upto_region 6 with fail
  obtain ⟨w6, hw_w6, hz_w6, hb_w6, hS_w6⟩ := boxed w5 #[.int .i64 a.al, .slice Ax a.nx.length cx, .slice Bx a.ac.length dx] 29
  rw [hw_w6]
  clear hw_w6
  have hx0 := fun w' (hb : Below w6.heap.size w6 w') => hS_w6 0 _ rfl w' (hb.mono hz_w6)
  have hx1 := fun w' (hb : Below w6.heap.size w6 w') => hS_w6 1 _ rfl w' (hb.mono hz_w6)
  have hx2 := fun w' (hb : Below w6.heap.size w6 w') => hS_w6 2 _ rfl w' (hb.mono hz_w6)
  replace hx0 := hid hx0
  replace hx1 := hid hx1
  replace hx2 := hid hx2
  clear hS_w6
  have BW_w6 := BW_w5.trans (hb_w6.mono BW_w5.size)
  have BEs_w6 := BEs_w5.trans (hb_w6.mono BEs_w5.size)
  have Bs_w6 := Bs_w5.trans (hb_w6.mono Bs_w5.size)
  have BTa_w6 := BTa_w5.trans (hb_w6.mono BTa_w5.size)
  have Ba_w6 := Ba_w5.trans (hb_w6.mono Ba_w5.size)
  have BTx_w6 := BTx_w5.trans (hb_w6.mono BTx_w5.size)
  have Bx_w6 : Below w6.heap.size w6 w6 := Below.refl _ _
  have pa0 := ha0.out _ Ba_w6
  have pa1 := ha1.out _ Ba_w6
  have pa2 := ha2.out _ Ba_w6
  have px0 := hx0.out _ Bx_w6
  have px1 := hx1.out _ Bx_w6
  have px2 := hx2.out _ Bx_w6
  go_wp2_with fail
  refine (agAutomata_any a a Aa Ba Ax Bx ca da cx dx w6 (ta.out.later BTa_w6) (tx.out.later BTx_w6)).mono ?_
  clear pa0 pa1 pa2 px0 px1 px2
  rintro e w7 ⟨rfl, hb_w7⟩
  have BW_w7 := BW_w6.trans (hb_w7.mono BW_w6.size)
  have BEs_w7 := BEs_w6.trans (hb_w7.mono BEs_w6.size)
  have Bs_w7 := Bs_w6.trans (hb_w7.mono Bs_w6.size)
  have BTa_w7 := BTa_w6.trans (hb_w7.mono BTa_w6.size)
  have Ba_w7 := Ba_w6.trans (hb_w7.mono Ba_w6.size)
  have BTx_w7 := BTx_w6.trans (hb_w7.mono BTx_w6.size)
  have Bx_w7 := Bx_w6.trans (hb_w7.mono Bx_w6.size)
  rw [decide_eq_true rfl]
  obtain ⟨i0, hi, hz0, hz1, hz2⟩ := info_parts infoInt
  cases hokc : ok
  case false =>
    rw [hokc] at hok
    have pa0 := ha0.out _ Ba_w7
    have pa1 := ha1.out _ Ba_w7
    have pa2 := ha2.out _ Ba_w7
    have px0 := hx0.out _ Bx_w7
    have px1 := hx1.out _ Bx_w7
    have px2 := hx2.out _ Bx_w7
    go_wp2_with fail
    refine (agAutomata_any a a Aa Ba Ax Bx ca da cx dx w7 (ta.out.later BTa_w7) (tx.out.later BTx_w7)).mono ?_
    clear pa0 pa1 pa2 px0 px1 px2
    rintro e w8 ⟨rfl, hb_w8⟩
    have BW_w8 := BW_w7.trans (hb_w8.mono BW_w7.size)
    have BEs_w8 := BEs_w7.trans (hb_w8.mono BEs_w7.size)
    have Bs_w8 := Bs_w7.trans (hb_w8.mono Bs_w7.size)
    have BTa_w8 := BTa_w7.trans (hb_w8.mono BTa_w7.size)
    have Ba_w8 := Ba_w7.trans (hb_w8.mono Ba_w7.size)
    have BTx_w8 := BTx_w7.trans (hb_w8.mono BTx_w7.size)
    have Bx_w8 := Bx_w7.trans (hb_w8.mono Bx_w7.size)
    rw [decide_eq_true rfl]
    go_wp2_with fail
    go_ret
    exact ⟨rfl, BW_w8⟩
  case true =>
  have hpk : Hid (prK s s.al = true) := hid (by rw [← hok.out, hokc])
  have haok : Hid (auOk a = true) := hid (by rw [ha.out]; exact auOk_prA hpk.out)
  have hn12 : a.nx.length ≤ 12 := ((auOk_iff a).1 haok.out).2.2.1
  have hn3 := hid ((auOk_iff a).1 haok.out).2.2.2.1
  have hlen0 : Hid (∀ i, i < a.nx.length → i < (prA s s.al).nx.length) := hid (fun i hi => by rw [← ha.out]; exact hi)
  subst hokc
  go_wp2_with fail
  go_loopw [8, 9] (fun sv iv wr => ∃ (i : Nat), iv = .int .i64 (i : Nat) ∧ i ≤ a.nx.length ∧ Below w7.heap.size w7 wr ∧ wr.ownsRow w7.heap.size 3 1 sv (setsTo s i).length (natVals (setsTo s i))) (fun _ iv _ => a.nx.length - (intOf iv).toNat)
  case atStart => exact ⟨0, rfl, Nat.zero_le _, (Below.refl _ _).alloc (Nat.le_refl _) _, rfl, .inr ⟨w7.heap.size, 0, #[], rfl, Nat.le_refl _, heap_alloc_self _ _, Nat.le_refl _, by unfold maxLen; omega, rfl, rfl⟩⟩
  case round =>
    obtain ⟨i, rfl, hi', hb_wo, hsets⟩ := hrel
    obtain ⟨wo, rfl⟩ : ∃ wo : World, wo = wr := ⟨_, rfl⟩
    have BW_wo := BW_w7.trans (hb_wo.mono BW_w7.size)
    have BEs_wo := BEs_w7.trans (hb_wo.mono BEs_w7.size)
    have Bs_wo := Bs_w7.trans (hb_wo.mono Bs_w7.size)
    have BTa_wo := BTa_w7.trans (hb_wo.mono BTa_w7.size)
    have Ba_wo := Ba_w7.trans (hb_wo.mono Ba_w7.size)
    have BTx_wo := BTx_w7.trans (hb_wo.mono BTx_w7.size)
    have Bx_wo := Bx_w7.trans (hb_wo.mono Bx_w7.size)
    by_cases hlt : i < a.nx.length
    case neg =>
      obtain rfl : i = a.nx.length := by omega
      have pa0 := ha0.out _ Ba_wo
      have pa1 := ha1.out _ Ba_wo
      have pa2 := ha2.out _ Ba_wo
      go_wp2
      go_ret
      exact ⟨rfl, BW_wo⟩
    obtain ⟨ns, hns⟩ : ∃ ns, Hid (ns = setsTo s i) := ⟨_, hid rfl⟩
    rw [← hns.out] at hsets
    have hnl : ns.length ≤ 12 := by rw [hns.out, setsTo_len]; omega
    obtain ⟨A8, c8, rfl, hc8, hc8'⟩ := own_slice hsets
    have hsets' := hid hsets
    clear hsets
    have pa0 := ha0.out _ Ba_wo
    have pa1 := ha1.out _ Ba_wo
    have pa2 := ha2.out _ Ba_wo
    go_wp2_with fail
    refine (implAccessWord_any a Aa Ba ca da i wo haok.out (ta.out.later BTa_wo)).mono ?_
    clear pa0 pa1 pa2
    rintro e w30 ⟨o, rfl, hP, hb_w30⟩
    have BW_w30 := BW_wo.trans (hb_w30.mono BW_wo.size)
    have BEs_w30 := BEs_wo.trans (hb_w30.mono BEs_wo.size)
    have Bs_w30 := Bs_wo.trans (hb_w30.mono Bs_wo.size)
    have BTa_w30 := BTa_wo.trans (hb_w30.mono BTa_wo.size)
    have Ba_w30 := Ba_wo.trans (hb_w30.mono Ba_wo.size)
    have BTx_w30 := BTx_wo.trans (hb_w30.mono BTx_wo.size)
    have Bx_w30 := Bx_wo.trans (hb_w30.mono Bx_wo.size)
    obtain ⟨r, hor, hrl, haft, hacb⟩ := accWord_pr hpk.out (hlen0.out i hlt) (o := o) (by rw [← ha.out]; exact hP) (fun r n => RW_run r n)
    subst hor
    rw [show pathV (some r) = .tuple #[.string (wordS r), .bool true] from rfl]
    obtain ⟨S, hS⟩ : ∃ S, Hid (S = setAt s i) := ⟨_, hid rfl⟩
    rw [← ha.out] at hacb
    rw [← hS.out] at haft hacb
    have hzr : (wordS r).size ≤ 9223372036854775807 := by rw [wordS_size]; omega
    replace hP := hid hP
    replace haft := hid haft
    replace hacb := hid hacb
    have ps0 := hs0.out _ Bs_w30
    have ps1 := hs1.out _ Bs_w30
    have ps2 := hs2.out _ Bs_w30
    go_wp2_with fail
    refine (implStatesAfter_any s As cs (wordS r) w30 hzr a1 a2 (hT.out.later BW_w30) (es.out.later BEs_w30)).mono ?_
    clear ps0 ps1 ps2
    rintro e w31 ⟨rfl, hb_w31⟩
    have BW_w31 := BW_w30.trans (hb_w31.mono BW_w30.size)
    have BEs_w31 := BEs_w30.trans (hb_w31.mono BEs_w30.size)
    have Bs_w31 := Bs_w30.trans (hb_w31.mono Bs_w30.size)
    have BTa_w31 := BTa_w30.trans (hb_w31.mono BTa_w30.size)
    have Ba_w31 := Ba_w30.trans (hb_w31.mono Ba_w30.size)
    have BTx_w31 := BTx_w30.trans (hb_w31.mono BTx_w30.size)
    have Bx_w31 := Bx_w30.trans (hb_w31.mono Bx_w30.size)
    rw [haft.out]
    have hSl : S < 65536 := by rw [← haft.out]; exact aft_small s _
    have hia : i < a.ac.length := by have := hn3.out; omega
    obtain ⟨bB, oB, hBa, hbB, hEB⟩ := (ta.out.later BTa_w31).acc (by omega)
    subst hBa
    have c0 := hEB i hia
    obtain ⟨t, ht⟩ : ∃ t, ((S : Int) != 0) = t := ⟨_, rfl⟩
    have hat : a.ac[i] = t := by
      have h1 := hacb.out
      rw [List.getD_eq_getElem?_getD, List.getElem?_eq_getElem hia, Option.getD_some] at h1
      rw [h1, ← ht, Bool.eq_iff_iff]
      simp
    rw [hat] at c0
    have htt : (t != t) = false := by simp
    have k1 : (0 : Int) ≤ (i : Int) ∧ (i : Int) < (a.ac.length : Int) := by omega
    replace hat := hid hat
    replace hEB := hid hEB
    have hb31 := hid (hb_wo.trans ((hb_w30.trans (hb_w31.mono hb_w30.size)).mono hb_wo.size))
    have hown31 := hid (own_later_ (own_later_ hsets'.out hb_w30) hb_w31)
    have pa0 := ha0.out _ Ba_w31
    have pa1 := ha1.out _ Ba_w31
    have pa2 := ha2.out _ Ba_w31
    go_wp2_with fail
    go_loopw [13] (fun kv wr => ∃ k : Nat, kv = .int .i64 (k : Nat) ∧ k ≤ ns.length ∧ Below w31.heap.size w31 wr) (fun kv _ => ns.length - (intOf kv).toNat)
    case atStart => exact ⟨0, rfl, Nat.zero_le _, Below.refl _ _⟩
    case round =>
      clear pa0 pa1 pa2
      clear c0 ht htt
      obtain ⟨k, rfl, hk, hb_wr⟩ := hrel
      have hownr := own_later_ hown31.out hb_wr
      obtain ⟨A9, c9, e9, -, -, hN⟩ := OwnNats.read hownr
      injection e9 with e91 e92 e93
      subst e91
      clear e92
      have hownr' := hid hownr
      clear hownr
      by_cases hkl : k < ns.length
      · obtain ⟨bN, oN, hA8, hbN, hEN⟩ := hN (by omega)
        subst hA8
        have b0 := hEN k hkl
        obtain ⟨T, hT⟩ : ∃ T, Hid (T = ns[k]) := ⟨_, hid rfl⟩
        rw [← hT.out] at b0
        have hTS : ((T : Int) == (S : Int)) = false := by
          have hki : k < i := by have := hkl; rw [hns.out, setsTo_len] at this; exact this
          have h1 : T = setAt s k := by
            rw [hT.out]
            simp only [hns.out]
            exact setsTo_get s i k _
          have h2 : T ≠ S := fun e => by
            rw [h1, hS.out] at e
            have := setAt_inj hpk.out (hlen0.out k (by omega)) (hlen0.out i hlt) e
            omega
          simp
          omega
        have k2 : (0 : Int) ≤ (k : Int) ∧ (k : Int) < (ns.length : Int) := by omega
        replace hEN := hid hEN
        replace hN := hid hN
        go_wp2_with fail
        go_roundw
        case rel => exact ⟨k + 1, by go_num, by omega, hb_wr⟩
        case measure => simp [intOf]; omega
      · obtain rfl : k = ns.length := by omega
        replace hN := hid hN
        have hbr := hid (hb31.out.trans (hb_wr.mono hb31.out.size))
        have hszz := hbr.out.size
        go_wp2_with (at_builtin; refine wpList_append_own_at _ rfl _ _ 61 rfl w7.heap.size 3 i0 (.int .i64 0) 1 8 Tryd.underlying61 hi hz0 hz1 hz2 rfl (by decide) _ _ _ rfl (hownr'.out.alloc _) ⟨wr.heap.size, 0, none⟩ 1 1 [.int .i64 (S : Nat)] rfl rfl (cell_one_new _ _ _) (by intro u hu; simp at hu; subst hu; rfl) (by unfold maxLen; omega) (by omega) (by simp; omega) ?_; intro v5 w5 hO5 hg5 _ hat5; obtain ⟨A5, c5, ev5, -, -⟩ := own_slice hO5; subst ev5; replace hO5 := hid hO5; replace hg5 := hid hg5; replace hat5 := hid hat5)
        have hb5 : Hid (Below w7.heap.size w7 w5) := hid ((((KeepB.refl _ wr).alloc _).grown hg5.out (fun k hk _ => hk)).below hbr.out hbr.out.size fun b e => own_block hownr'.out b e)
        have hn5 : Hid (ns ++ [S] = setsTo s (i + 1)) := hid (by rw [setsTo_succ, ← hns.out, ← hS.out])
        have ho5 : Hid (w5.ownsRow w7.heap.size 3 1 (.slice A5 (ns.length + 1) c5) (ns ++ [S]).length (natVals (ns ++ [S]))) := hid (by
          have := hO5.out
          rw [List.length_append]
          unfold natVals at this ⊢
          rw [List.map_append]
          exact this)
        go_roundw
        case rel =>
          have h := ho5.out
          rw [hn5.out] at h
          exact ⟨i + 1, by go_num, by omega, hb5.out, h⟩
        case measure => simp [intOf]; omega

end Go.Proofs.YtimoekglamdddaaDoor
