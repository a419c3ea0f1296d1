/- Lemmas, part 17: several texts in one. -/
import Derived.Test.YtimoekglamdddaaDoorK14
import Derived.Test.YtimoekglamdddaaDoorK4
import Derived.Test.YtimoekglamdddaaDoorK6
import Derived.Test.YtimoekglamdddaaDoorK7
import Derived.Test.YtimoekglamdddaaDoorK12
set_option linter.unusedSimpArgs false
set_option linter.unusedVariables false

/- Plain: how many words an automaton accepts. -/
namespace Go.Proofs.YtimoekglamdddaaDoor
open AG

def cntA (a : Au) (L : List Nat) (k q : Nat) : Nat := (wordsOf L k).countP fun r => decide (runA a 0 r = q)
def accN (a : Au) (L : List Nat) (k : Nat) : Nat := (wordsOf L k).countP fun r => accA a r
def totA (a : Au) (L : List Nat) : Nat → Nat
  | 0 => accN a L 0
  | n + 1 => totA a L n + accN a L (n + 1)
def hitT (a : Au) (M : List Nat) (p T : Nat) : Nat := M.countP fun l => decide (goA a p l = T)
def addA (a : Au) (L : List Nat) (k q T : Nat) : Nat := ((List.range q).map fun p => cntA a L k p * hitT a L p T).sum
def accTo (a : Au) (L : List Nat) (k q : Nat) : Nat := ((List.range q).map fun p => cntA a L k p * (if a.ac.getD p false = true then 1 else 0)).sum
theorem addA_succ (a : Au) (L : List Nat) (k q T : Nat) : addA a L k (q + 1) T = addA a L k q T + cntA a L k q * hitT a L q T := by
  unfold addA
  rw [List.range_succ, List.map_append, List.sum_append]
  simp
theorem accTo_succ (a : Au) (L : List Nat) (k q : Nat) : accTo a L k (q + 1) = accTo a L k q + cntA a L k q * (if a.ac.getD q false = true then 1 else 0) := by
  unfold accTo
  rw [List.range_succ, List.map_append, List.sum_append]
  simp
theorem cntA_le (a : Au) {L : List Nat} (hL : L.length ≤ 6) {k : Nat} (hk : k ≤ 8) (q : Nat) : cntA a L k q ≤ 1679616 := by
  have h1 : cntA a L k q ≤ (wordsOf L k).length := List.countP_le_length
  rw [wordsOf_len] at h1
  exact Nat.le_trans h1 (pow_le6 hL hk)
theorem hitT_le (a : Au) {M : List Nat} (hM : M.length ≤ 6) (p T : Nat) : hitT a M p T ≤ 6 := Nat.le_trans List.countP_le_length hM
theorem addA_le (a : Au) {L : List Nat} (hL : L.length ≤ 6) {k : Nat} (hk : k ≤ 8) (T : Nat) : ∀ q, addA a L k q T ≤ q * 10077696
  | 0 => by simp [addA]
  | q + 1 => by
    have h1 := addA_le a hL hk T q
    have h2 := Nat.mul_le_mul (cntA_le a hL hk q) (hitT_le a hL q T)
    rw [addA_succ, Nat.add_mul]
    omega
theorem accTo_le (a : Au) {L : List Nat} (hL : L.length ≤ 6) {k : Nat} (hk : k ≤ 8) : ∀ q, accTo a L k q ≤ q * 1679616
  | 0 => by simp [accTo]
  | q + 1 => by
    have h1 := accTo_le a hL hk q
    have h2 := cntA_le a hL hk q
    rw [accTo_succ, Nat.add_mul]
    have h3 : (if a.ac.getD q false = true then 1 else 0) ≤ 1 := by split <;> omega
    have h4 := Nat.mul_le_mul (Nat.le_refl (cntA a L k q)) h3
    rw [Nat.mul_one] at h4
    omega
theorem runA_lt {a : Au} (h : auOk a = true) : ∀ r : List Nat, runA a 0 r < a.nx.length
  | [] => by have := ((auOk_iff a).1 h).2.1; show 0 < _; omega
  | l :: r => goA_lt h (runA_lt h r)
theorem cntA_succ {a : Au} (h : auOk a = true) (L : List Nat) (k T : Nat) : cntA a L (k + 1) T = addA a L k a.nx.length T := by
  have h1 : cntA a L (k + 1) T = ((wordsOf L k).map fun r => hitT a L (runA a 0 r) T).sum := by
    unfold cntA
    rw [wordsOf, countP_flat]
    congr 1
    refine List.map_congr_left fun r _ => ?_
    unfold hitT
    rw [List.countP_map]
    rfl
  rw [h1]
  have := sum_groups (runA a 0) (fun p => hitT a L p T) (ps := List.range a.nx.length) List.nodup_range (wordsOf L k) (fun r _ hn => absurd (List.mem_range.2 (runA_lt h r)) hn)
  rw [this]
  rfl
theorem accN_groups {a : Au} (h : auOk a = true) (L : List Nat) (k : Nat) : accN a L k = accTo a L k a.nx.length := by
  have h1 : accN a L k = ((wordsOf L k).map fun r => if a.ac.getD (runA a 0 r) false = true then 1 else 0).sum := by
    unfold accN
    generalize wordsOf L k = W
    induction W with
    | nil => rfl
    | cons r W ih =>
      rw [List.countP_cons, List.map_cons, List.sum_cons, ih]
      show _ + (if accA a r = true then 1 else 0) = _
      unfold accA
      omega
  rw [h1]
  have := sum_groups (runA a 0) (fun p => if a.ac.getD p false = true then 1 else 0) (ps := List.range a.nx.length) List.nodup_range (wordsOf L k) (fun r _ hn => absurd (List.mem_range.2 (runA_lt h r)) hn)
  rw [this]
  rfl
theorem hitT_take {a : Au} {L : List Nat} {j : Nat} (hj : j < L.length) (p T : Nat) : hitT a (L.take (j + 1)) p T = hitT a (L.take j) p T + if goA a p L[j] = T then 1 else 0 := by
  unfold hitT
  rw [List.take_succ_eq_append_getElem hj, List.countP_append, List.countP_singleton]
  simp
theorem cntA_zero (a : Au) (L : List Nat) (q : Nat) : cntA a L 0 q = if 0 = q then 1 else 0 := by
  unfold cntA
  show List.countP _ [[]] = _
  rw [List.countP_singleton]
  show (if decide (0 = q) = true then 1 else 0) = _
  simp
theorem totA_le (a : Au) {L : List Nat} (hL : L.length ≤ 6) : ∀ n, n ≤ 8 → totA a L n ≤ (n + 1) * 1679616
  | 0, _ => by
    have h1 : accN a L 0 ≤ (wordsOf L 0).length := List.countP_le_length
    rw [wordsOf_len] at h1
    show accN a L 0 ≤ _
    simp at h1
    omega
  | n + 1, h => by
    have h0 := totA_le a hL n (by omega)
    have h1 : accN a L (n + 1) ≤ (wordsOf L (n + 1)).length := List.countP_le_length
    rw [wordsOf_len] at h1
    have h2 := pow_le6 hL h
    show totA a L n + accN a L (n + 1) ≤ _
    rw [Nat.add_mul (n + 1)]
    omega
/-- The automaton of a system accepts as many words as the system has traces. -/
theorem totA_pr {s : Sy} (h : prK s s.al = true) : ∀ n, totA (prA s s.al) (letters s.al) n = totW s (letters s.al) n := by
  obtain ⟨hk, x, hn, e⟩ := prK_true h
  have hal := sysOk_alpha (prOk_parts hk).1
  have hacc : ∀ k, accN (prA s s.al) (letters s.al) k = trW s (letters s.al) k := fun k => by
    unfold accN trW
    refine List.countP_congr fun r hr => ?_
    rw [e, accA_pr hn (wordsOf_mem hr), prW_self hal.1]
  intro n
  induction n with
  | zero =>
    show accN (prA s s.al) (letters s.al) 0 = 1
    rw [hacc]
    rfl
  | succ n ih =>
    show totA (prA s s.al) (letters s.al) n + accN (prA s s.al) (letters s.al) (n + 1) = totW s (letters s.al) n + trW s (letters s.al) (n + 1)
    rw [ih, hacc]

end Go.Proofs.YtimoekglamdddaaDoor

/- The program's CountAccepted. -/
namespace Go.Proofs.YtimoekglamdddaaDoor
open Go.RowKit Go.BigFrame AG

/-- A list of n numbers in a block: those below q are what f says. -/
structure NumsIn (cs : Array Value) (n : Nat) (f : Nat → Nat) : Prop where
  size : cs.size = n
  at_ : ∀ p, p < n → cs[p]? = some (.int .i64 (f p : Nat))
theorem NumsIn.set_ {cs : Array Value} {n : Nat} {f f' : Nat → Nat} {p : Nat} {v : Int} (h : NumsIn cs n f) (hp : p < n) (hv : v = ((f' p : Nat) : Int)) (ho : ∀ q, q ≠ p → f' q = f q) : NumsIn (cs.setIfInBounds p (.int .i64 v)) n f' := by
  refine ⟨by simpa using h.size, fun q hq => ?_⟩
  by_cases e : q = p
  · subst e
    rw [Array.getElem?_setIfInBounds_self_of_lt (by rw [h.size]; exact hq), hv]
  · rw [Array.getElem?_setIfInBounds_ne (Ne.symm e), h.at_ q hq, ho q e]

theorem NumsIn.congr {cs : Array Value} {n : Nat} {f f' : Nat → Nat} (h : NumsIn cs n f) (e : ∀ p, f p = f' p) : NumsIn cs n f' := by
  have : f = f' := funext e
  rw [← this]
  exact h
theorem totA_step (a : Au) (L : List Nat) (k : Nat) : (if k = 0 then 0 else totA a L (k - 1)) + accN a L k = totA a L k := by
  cases k with
  | zero => simp [totA]
  | succ k => simp [totA]

set_option maxRecDepth 100000 in
set_option maxHeartbeats 8000000 in
theorem implCountAccepted_any (a : Au) (A B : Option Addr) (c d n : Nat) (w : World) (hok : auOk a = true) (hn : n ≤ 7) (ha : AuAt w A c B d a) :
    Calls Tryd.prog 37 #[a.val A c B d, .int .i64 (n : Nat)] w fun e w' => e = .returned (.int .i64 (totA a (letters a.al) n : Nat)) ∧ Below w.heap.size w w' := by
  obtain ⟨halp, hn1, hn12, hn3, hrs⟩ := (auOk_iff a).1 hok
  obtain ⟨i0, hi, hz0', hz1, hz2⟩ := info_parts infoInt
  have hmk := fun W => run_make_rowN (P := Tryd.prog) 61 3 i0 _ Tryd.underlying61 hi hz0' .i64 .i64 a.nx.length a.nx.length (Nat.le_refl _) (by rw [hz2]; omega) (by omega) W
  rw [hz1] at hmk
  clear hz1 hz0' hz2 hi
  obtain ⟨L, hL⟩ : ∃ L, Hid (L = letters a.al) := ⟨_, hid rfl⟩
  have hL6 : L.length ≤ 6 := by rw [hL.out]; exact lettersTo_len a.al 6
  obtain ⟨w0, hw0, hz0, hB0, hS⟩ := boxed w #[Value.int IntKind.i64 a.al, Value.slice A a.nx.length c, Value.slice B a.ac.length d] 29
  have ha0 := hid (ha.later hB0)
  have p0 := hS 0 _ rfl _ (Below.refl _ _)
  have p1 := hS 1 _ rfl _ (Below.refl _ _)
  have p2 := hS 2 _ rfl _ (Below.refl _ _)
  have hp1 := hid (fun w' (hb : Below w0.heap.size w0 w') => hS 1 _ rfl w' (hb.mono hz0))
  have hp2 := hid (fun w' (hb : Below w0.heap.size w0 w') => hS 2 _ rfl w' (hb.mono hz0))
  replace ha := hid ha
  have hok' := hid hok
  have hzero : ∀ k, NumsIn (madeCells #[Value.int IntKind.i64 0] (a.nx.length * 1)) a.nx.length (fun T => addA a L k 0 T) := fun k => by
    refine ⟨by rw [size_madeCells]; omega, fun p hp => ?_⟩
    have h0 : addA a L k 0 p = 0 := by simp [addA]
    rw [h0]
    rw [Nat.mul_one]
    have h1 := toList_madeCells_one (Value.int IntKind.i64 0) a.nx.length
    rw [← Array.getElem?_toList, h1, List.getElem?_replicate, if_pos hp]
    rfl
  replace hzero := hid hzero
  replace hrs := hid hrs
  replace hn3 := hid hn3
  replace halp := hid halp
  rw [← hL.out]
  clear hok
  unfold AG.Au.val
  go_enter Tryd.func37, Tryd.ntmps37
  go_wp2_with fail
  refine (implAutomatonValid_any a A B c d w0 ha0.out).mono ?_
  rintro e w1 ⟨rfl, hb1⟩
  rw [hok'.out]
  have hB1 := hB0.trans (hb1.mono hB0.size)
  clear p0 p1 p2
  have p1 := hp1.out _ hb1
  have ha1 := hid (ha0.out.later hb1)
  have hz1 := hb1.size
  have ht1 : ¬ ((n : Int) < 0) := by omega
  have ht2 : ¬ ((7 : Int) < (n : Int)) := by omega
  go_upto_region 4 with fail
  have hmul : a.nx.length * 1 = a.nx.length := Nat.mul_one _
  rw [hmul] at hzero
  obtain ⟨w2, hw2⟩ : ∃ w2, w1.alloc (.cells (madeCells #[Value.int IntKind.i64 0] a.nx.length) 3) = w2 := ⟨_, rfl⟩
  have hblk2 : Blk w2 w1.heap.size 3 (madeCells #[Value.int IntKind.i64 0] a.nx.length) := by rw [← hw2]; exact Blk.new _ _ _
  have hB2' : Below w1.heap.size w1 w2 := by rw [← hw2]; exact (Below.refl _ _).alloc (Nat.le_refl _) _
  rw [hw2]
  clear hw2 p1 hmul
  have hin0 : Hid (NumsIn ((madeCells #[Value.int IntKind.i64 0] a.nx.length).setIfInBounds 0 (.int .i64 1)) a.nx.length (cntA a L 0)) := hid ((hzero.out 0).set_ (by omega) (by rw [cntA_zero]; rfl) fun q hq => by
    rw [cntA_zero, if_neg (Ne.symm hq)]
    simp [addA])
  obtain ⟨v0, d0⟩ := hblk2.some_ (i := 0) (by rw [(hzero.out 0).size]; omega)
  have z0 := hblk2.frozen 0
  have hbl3 := hid (hblk2.set_ 0 (.int .i64 1))
  have hB3 : Below w1.heap.size w1 (w2.setCell ⟨w1.heap.size, 0, none⟩ (.int .i64 1)) := hB2'.setCell (Nat.le_refl _) _
  have k0 : (0 : Int) < (a.nx.length : Int) := by omega
  replace hblk2 := hid hblk2
  go_wp2_with fail
  go_loopw [5, 6, 7] (fun cv tv kv wr => ∃ (k g : Nat) (cs : Array Value), cv = .slice (some ⟨g, 0, none⟩) a.nx.length a.nx.length ∧ tv = .int .i64 ((if k = 0 then 0 else totA a L (k - 1) : Nat) : Int) ∧ kv = .int .i64 (k : Nat) ∧ k ≤ n ∧ Blk wr g 3 cs ∧ NumsIn cs a.nx.length (cntA a L k) ∧ Below w1.heap.size w1 wr) (fun _ _ kv _ => n - (intOf kv).toNat)
  case atStart => exact ⟨0, _, _, rfl, by simp, rfl, by omega, hbl3.out, hin0.out, hB3⟩
  case round =>
    clear hbl3 hin0 d0 z0 hB3
    obtain ⟨wo, rfl⟩ : ∃ wo : World, wo = wr := ⟨_, rfl⟩
    obtain ⟨k, g, cs, rfl, rfl, rfl, hk, hblk, hin, hb⟩ := hrel
    obtain ⟨t0, ht0⟩ : ∃ t0, Hid (t0 = if k = 0 then 0 else totA a L (k - 1)) := ⟨_, hid rfl⟩
    have ht0l : t0 ≤ 100000000 := by
      rw [ht0.out]
      split
      · omega
      · have h1 := totA_le a hL6 (k - 1) (by omega)
        have h2 : (k - 1 + 1) * 1679616 ≤ 8 * 1679616 := Nat.mul_le_mul_right _ (by omega)
        omega
    rw [← ht0.out]
    have hzr := hb.size
    have p1 := hp1.out _ (hb1.trans (hb.mono hz1))
    have har := hid (ha1.out.later hb)
    have hblk0 := hid hblk
    have hin' := hid hin
    clear hblk hin
    go_upto_region 9 with fail
    obtain ⟨w5, hw5⟩ : ∃ w5, wo.alloc (.cells (madeCells #[Value.int IntKind.i64 0] a.nx.length) 3) = w5 := ⟨_, rfl⟩
    have hblk5 : Blk w5 wo.heap.size 3 (madeCells #[Value.int IntKind.i64 0] a.nx.length) := by rw [← hw5]; exact Blk.new _ _ _
    have hB5 : Below wo.heap.size wo w5 := by rw [← hw5]; exact (Below.refl _ _).alloc (Nat.le_refl _) _
    rw [hw5]
    clear hw5 p1
    have hgl := hblk0.out.lt
    have hcnt5 := hid (hblk0.out.below hB5 hgl)
    have ha5 := hid (har.out.later hB5)
    have hb5 := hb.trans (hB5.mono hzr)
    have hz5 := hblk5.lt
    have hbk5 := hid hblk5
    clear hblk5
    go_wp2_with fail
    go_loopw [6, 38] (fun tv qv wr => ∃ (q : Nat) (ds : Array Value), tv = .int .i64 ((t0 + accTo a L k q : Nat) : Int) ∧ qv = .int .i64 (q : Nat) ∧ q ≤ a.nx.length ∧ Blk wr wo.heap.size 3 ds ∧ NumsIn ds a.nx.length (fun T => addA a L k q T) ∧ KeepB (fun b => b = wo.heap.size) w5 wr) (fun _ qv _ => a.nx.length - (intOf qv).toNat)
    case atStart => exact ⟨0, _, by simp [accTo], rfl, by omega, hbk5.out, hzero.out k, KeepB.refl _ _⟩
    case round =>
      clear hbk5
      obtain ⟨q, ds, rfl, rfl, hq, hdk, hdi, hkp⟩ := hrel
      obtain ⟨wp, rfl⟩ : ∃ wp : World, wp = wr := ⟨_, rfl⟩
      have hBq : Below wo.heap.size wo wp := KeepB.below hB5 hkp hB5.size fun b e => by omega
      have hacl := accTo_le a hL6 (show k ≤ 8 by omega) q
      have hacl2 : q * 1679616 ≤ 12 * 1679616 := Nat.mul_le_mul_right _ (by omega)
      by_cases hql : q < a.nx.length
      · have hcq := hcnt5.out.keep hkp (by omega)
        have x0 := hcq.cell q
        rw [hin'.out.at_ q hql] at x0
        obtain ⟨v, hv⟩ : ∃ v, Hid (v = cntA a L k q) := ⟨_, hid rfl⟩
        have hvl : v ≤ 1679616 := by rw [hv.out]; exact cntA_le a hL6 (by omega) q
        rw [← hv.out] at x0
        obtain ⟨bA, oA, hAe, hbA, hEA⟩ := har.out.rows (by omega)
        subst hAe
        obtain ⟨Ai, ci, e0, h1, h2, h3⟩ := hEA q hql
        rw [← hBq.cell (by simpa using hbA)] at e0
        have hqc : q < a.ac.length := by have := hn3.out; omega
        obtain ⟨bB, oB, hBe, hbB, hEB⟩ := har.out.acc (by omega)
        subst hBe
        have b0 := hEB q hqc
        rw [← hBq.cell (by simpa using hbB)] at b0
        obtain ⟨r, hr⟩ : ∃ r, Hid (r = a.nx[q]) := ⟨_, hid rfl⟩
        rw [← hr.out] at e0 h1 h3
        have hrok := hrs.out r (by rw [hr.out]; exact List.getElem_mem _)
        have hrl : Hid (r.length = L.length) := hid (by rw [hL.out]; exact hrok.1)
        have hrj : Hid (∀ j (h : j < L.length), ∃ h' : j < r.length, r[j] = ((goA a q L[j] : Nat) : Int)) := hid (fun j h => by
          have h' : j < r.length := by have := hrl.out; omega
          refine ⟨h', ?_⟩
          have hg := goK_done (tabOk_of hok'.out) (q := q) (l := L[j]) hql
          rw [← hg]
          unfold goK
          have hm : L[j] ∈ letters a.al := by rw [← hL.out]; exact List.getElem_mem _
          rw [List.take_length, if_pos hm]
          have hx : (letters a.al).idxOf L[j] = j := by
            have hnd : (letters a.al).Nodup := (letters_sorted a.al).imp fun h => Nat.ne_of_lt h
            have := hnd.idxOf_getElem j (by rw [← hL.out]; exact h)
            have e : L[j] = (letters a.al)[j]'(by rw [← hL.out]; exact h) := by simp only [hL.out]
            rw [e]; exact this
          rw [hx, List.getD_eq_getElem?_getD (l := a.nx), List.getElem?_eq_getElem hql]
          show r[j] = (a.nx[q]).getD j 0
          rw [← hr.out, List.getD_eq_getElem?_getD, List.getElem?_eq_getElem h']
          rfl)
        obtain ⟨tb, htb⟩ : ∃ tb, Hid (tb = a.ac[q]) := ⟨_, hid rfl⟩
        rw [← htb.out] at b0
        have hacs : Hid (accTo a L k (q + 1) = accTo a L k q + v * (if tb = true then 1 else 0)) := hid (by
          rw [accTo_succ, ← hv.out, List.getD_eq_getElem?_getD, List.getElem?_eq_getElem hqc, ← htb.out]
          rfl)
        have k1 : (0 : Int) ≤ (q : Int) ∧ (q : Int) < (a.nx.length : Int) ∧ (q : Int) < (a.ac.length : Int) := by omega
        have p1 := hp1.out _ (hb1.trans ((hb.trans (hBq.mono hzr)).mono hz1))
        have p2 := hp2.out _ (hb1.trans ((hb.trans (hBq.mono hzr)).mono hz1))
        have hst0 : Hid (NumsIn ds a.nx.length (fun T => addA a L k q T + v * hitT a (L.take 0) q T)) := hid (by simpa [hitT] using hdi)
        have hadds : Hid (∀ T, addA a L k q T + v * hitT a L q T = addA a L k (q + 1) T) := hid fun T => by rw [addA_succ, ← hv.out]
        have h3' := hid h3
        have hdk' := hid hdk
        have hkp' := hid hkp
        replace hEA := hid hEA
        replace hEB := hid hEB
        replace hcq := hid hcq
        obtain ⟨t1, ht1e⟩ : ∃ t1, Hid (t1 = t0 + accTo a L k q) := ⟨_, hid rfl⟩
        have ht1l : t1 ≤ 130000000 := by rw [ht1e.out]; omega
        rw [← ht1e.out]
        clear h3 hdk hkp hdi
        have hfin : Hid (∀ t2 : Int, t2 = (t1 : Int) + (v : Int) * (if tb = true then 1 else 0) → t2 = ((t0 + accTo a L k (q + 1) : Nat) : Int)) := hid fun t2 e => by
          rw [e, hacs.out, ht1e.out]
          cases tb
          · simp
          · simp
            omega
        replace hacs := hid hacs
        cases tb
        all_goals
          go_wp2_with fail
          clear x0 e0 b0 p1 p2
          go_loopw [57] (fun jv wz => ∃ (j : Nat) (ds : Array Value), jv = .int .i64 (j : Nat) ∧ j ≤ r.length ∧ Blk wz wo.heap.size 3 ds ∧ NumsIn ds a.nx.length (fun T => addA a L k q T + v * hitT a (L.take j) q T) ∧ KeepB (fun b => b = wo.heap.size) w5 wz) (fun jv _ => r.length - (intOf jv).toNat)
          case atStart => exact ⟨0, ds, rfl, by omega, hdk'.out, hst0.out, hkp'.out⟩
          case round =>
            clear hdk' hst0
            obtain ⟨j, ds, rfl, hj, hdk, hdi, hkp⟩ := hrel
            have hBr : Below wo.heap.size wo wr := KeepB.below hB5 hkp hB5.size fun b e => by omega
            by_cases hjl : j < r.length
            · have hjL : j < L.length := by have := hrl.out; omega
              obtain ⟨bi, oi, hAi, hbi, hci⟩ := h3'.out (by omega)
              subst hAi
              have r0 := hci j hjl
              obtain ⟨_, hrv⟩ := hrj.out j hjL
              obtain ⟨T0, hT0⟩ : ∃ T0, Hid (T0 = goA a q L[j]) := ⟨_, hid rfl⟩
              have hTl : T0 < a.nx.length := by rw [hT0.out]; exact goA_lt hok'.out hql
              rw [hrv, ← hT0.out, ← hBr.cell (by simpa using hbi)] at r0
              have c0 := hdk.cell T0
              rw [hdi.at_ T0 hTl] at c0
              have z0 := hdk.frozen T0
              obtain ⟨u, hu⟩ : ∃ u, Hid (u = addA a L k q T0 + v * hitT a (L.take j) q T0) := ⟨_, hid rfl⟩
              have hul : u ≤ 140000000 := by
                have h1 := addA_le a hL6 (show k ≤ 8 by omega) T0 q
                have h2 := Nat.mul_le_mul hvl (hitT_le a (M := L.take j) (by rw [List.length_take]; omega) q T0)
                rw [hu.out]
                omega
              have hset := hid (hdi.set_ (p := T0) (v := ((u : Int) + (v : Int))) (f' := fun T => addA a L k q T + v * hitT a (L.take (j + 1)) q T) hTl (by
                rw [hitT_take hjL, if_pos hT0.out.symm, Nat.mul_add, hu.out]
                omega) fun T hT => by
                rw [hitT_take hjL, if_neg (fun e => hT (by rw [← e, hT0.out]))]
                simp)
              rw [← hu.out] at c0
              have k2 : (0 : Int) ≤ (j : Int) ∧ (j : Int) < (r.length : Int) ∧ (0 : Int) ≤ (T0 : Int) ∧ (T0 : Int) < (a.nx.length : Int) := by omega
              have hb2' := hid (hdk.set_ T0 (.int .i64 ((u : Int) + (v : Int))))
              have hk2 := hid (hkp.setCell ⟨wo.heap.size, T0, none⟩ (.int .i64 ((u : Int) + (v : Int))) fun _ => rfl)
              replace hdk := hid hdk
              replace hdi := hid hdi
              replace hci := hid hci
              replace hrv := hid hrv
              go_wp2
              go_roundw
              case rel => exact ⟨j + 1, _, by go_num, by omega, hb2'.out, hset.out, hk2.out⟩
              case measure => simp [intOf]; omega
            · have hjL : L.take j = L := List.take_of_length_le (by have := hrl.out; omega)
              rw [hjL] at hdi
              have hdi' := hid (hdi.congr hadds.out)
              replace hdk := hid hdk
              replace hdi := hid hdi
              replace hjL := hid hjL
              go_wp2
              go_roundw
              case rel => exact ⟨q + 1, ds, congrArg (Value.int .i64) (hfin.out _ (by simp)), by go_num, by omega, hdk.out, hdi'.out, hkp⟩
              case measure => simp [intOf]; omega
      · obtain rfl : q = a.nx.length := by omega
        have hacc : Hid (t0 + accTo a L k a.nx.length = totA a L k) := hid (by rw [← accN_groups hok'.out, ht0.out]; exact totA_step a L k)
        have hcn : Hid (NumsIn ds a.nx.length (cntA a L (k + 1))) := hid (hdi.congr fun p => (cntA_succ hok'.out L k p).symm)
        have hfb := hid (hb.trans (hBq.mono hzr))
        rw [hacc.out]
        replace hdk := hid hdk
        replace hdi := hid hdi
        by_cases hkn : k = n
        · have hq1 : ((k : Int) == (n : Int)) = true := by simp; omega
          have hkn' := hid hkn
          clear hkn
          go_wp2
          go_ret
          exact ⟨by rw [hkn'.out]; rfl, hB1.trans (hfb.out.mono hB1.size)⟩
        · have hq1 : ((k : Int) == (n : Int)) = false := by simp; omega
          have hkl : k < n := by omega
          replace hkn := hid hkn
          go_wp2
          go_roundw
          case rel => exact ⟨k + 1, wo.heap.size, ds, rfl, by simp, by go_num, by omega, hdk.out, hcn.out, hfb.out⟩
          case measure => simp [intOf]; omega

end Go.Proofs.YtimoekglamdddaaDoor

/- The law FnDeterminizeCount. -/
namespace Go.Proofs.YtimoekglamdddaaDoor
open Go.RowKit Go.BigFrame Go.Maps AG

set_option maxRecDepth 100000 in
set_option maxHeartbeats 16000000 in
theorem FnDeterminizeCount_any (A : Option Addr) (n c : Nat) (w : World) (hn : n ≤ c) (hc : c ≤ 9223372036854775807) (hT : Tab w) (hx : CodeAt w A n) :
    Calls Tryd.prog 11 #[.slice A n c] w fun e w' => e = .returned (.bool true) ∧ Below w.heap.size w w' := by
  replace hT := hid hT
  replace hx := hid hx
  by_cases hlen : 1048576 < n
  · have hgt : (1048576 : Int) < (n : Int) := by omega
    go_enter Tryd.func11, Tryd.ntmps11
    go_wp2
    go_ret
    exact ⟨rfl, Below.refl _ _⟩
  have hgt : ¬ ((1048576 : Int) < (n : Int)) := by omega
  go_enter Tryd.func11, Tryd.ntmps11
  go_wp2_with fail
  have BW_w : Below w.heap.size w w := Below.refl _ _
  refine (drawDeterminize_any A n c w hn hc hx.out).mono ?_
  rintro e w1 ⟨s, As, cs, rfl, a1, a2, a3, a4, -, hb_w1⟩
  unfold Sy.val
  have BW_w1 := BW_w.trans (hb_w1.mono BW_w.size)
  have es := hid a4
  have BEs_w1 : Below w1.heap.size w1 w1 := Below.refl _ _
  clear a4
  obtain ⟨a, ha⟩ : ∃ a, Hid (a = prA s s.al) := ⟨_, hid rfl⟩
  obtain ⟨ok, hok⟩ : ∃ ok, Hid (ok = prK s s.al) := ⟨_, hid rfl⟩
  go_upto_region 4 with fail
  obtain ⟨w2, hw_w2, hz_w2, hb_w2, hS_w2⟩ := boxed w1 #[.int .i64 s.al, .int .i64 s.st, .slice As s.es.length cs] 34
  rw [hw_w2]
  clear hw_w2
  have hs0 := fun w' (hb : Below w2.heap.size w2 w') => hS_w2 0 _ rfl w' (hb.mono hz_w2)
  have hs1 := fun w' (hb : Below w2.heap.size w2 w') => hS_w2 1 _ rfl w' (hb.mono hz_w2)
  have hs2 := fun w' (hb : Below w2.heap.size w2 w') => hS_w2 2 _ rfl w' (hb.mono hz_w2)
  replace hs0 := hid hs0
  replace hs1 := hid hs1
  replace hs2 := hid hs2
  clear hS_w2
  have BW_w2 := BW_w1.trans (hb_w2.mono BW_w1.size)
  have BEs_w2 := BEs_w1.trans (hb_w2.mono BEs_w1.size)
  have Bs_w2 : Below w2.heap.size w2 w2 := Below.refl _ _
  have ps0 := hs0.out _ Bs_w2
  have ps1 := hs1.out _ Bs_w2
  have ps2 := hs2.out _ Bs_w2
  go_wp2_with fail
  have hc_a := hid (implDeterminize_any s As cs w2 a1 a2 (hT.out.later BW_w2) (es.out.later BEs_w2))
  rw [← ha.out, ← hok.out] at hc_a
  refine hc_a.out.mono ?_
  clear hc_a
  clear ps0 ps1 ps2
  rintro e w3 ⟨hb_w3, v1, v2, xs, rfl, hau⟩
  obtain ⟨Aa, ca, Ba, da, rfl, rfl, ta⟩ := hau.at_
  replace ta := hid ta
  clear hau
  have BW_w3 := BW_w2.trans (hb_w3.mono BW_w2.size)
  have BEs_w3 := BEs_w2.trans (hb_w3.mono BEs_w2.size)
  have Bs_w3 := Bs_w2.trans (hb_w3.mono Bs_w2.size)
  have BTa_w3 : Below w3.heap.size w3 w3 := Below.refl _ _
  go_upto_region 5 with fail
  obtain ⟨w4, hw_w4, hz_w4, hb_w4, hS_w4⟩ := boxed w3 #[.int .i64 a.al, .slice Aa a.nx.length ca, .slice Ba a.ac.length da] 29
  rw [hw_w4]
  clear hw_w4
  have ha0 := fun w' (hb : Below w4.heap.size w4 w') => hS_w4 0 _ rfl w' (hb.mono hz_w4)
  have ha1 := fun w' (hb : Below w4.heap.size w4 w') => hS_w4 1 _ rfl w' (hb.mono hz_w4)
  have ha2 := fun w' (hb : Below w4.heap.size w4 w') => hS_w4 2 _ rfl w' (hb.mono hz_w4)
  replace ha0 := hid ha0
  replace ha1 := hid ha1
  replace ha2 := hid ha2
  clear hS_w4
  have BW_w4 := BW_w3.trans (hb_w4.mono BW_w3.size)
  have BEs_w4 := BEs_w3.trans (hb_w4.mono BEs_w3.size)
  have Bs_w4 := Bs_w3.trans (hb_w4.mono Bs_w3.size)
  have BTa_w4 := BTa_w3.trans (hb_w4.mono BTa_w3.size)
  have Ba_w4 : Below w4.heap.size w4 w4 := Below.refl _ _
  have ps0 := hs0.out _ Bs_w4
  have ps1 := hs1.out _ Bs_w4
  have ps2 := hs2.out _ Bs_w4
  go_wp2_with fail
  have hc_x := hid (specDeterminize_any s As cs w4 a1 a2 (es.out.later BEs_w4))
  rw [← ha.out, ← hok.out] at hc_x
  refine hc_x.out.mono ?_
  clear hc_x
  clear ps0 ps1 ps2
  rintro e w5 ⟨hb_w5, v1, v2, xs, rfl, hau⟩
  obtain ⟨Ax, cx, Bx, dx, rfl, rfl, tx⟩ := hau.at_
  replace tx := hid tx
  clear hau
  have BW_w5 := BW_w4.trans (hb_w5.mono BW_w4.size)
  have BEs_w5 := BEs_w4.trans (hb_w5.mono BEs_w4.size)
  have Bs_w5 := Bs_w4.trans (hb_w5.mono Bs_w4.size)
  have BTa_w5 := BTa_w4.trans (hb_w5.mono BTa_w4.size)
  have Ba_w5 := Ba_w4.trans (hb_w5.mono Ba_w4.size)
  have BTx_w5 : Below w5.heap.size w5 w5 := Below.refl _ _
  go_upto_region 6 with fail
  obtain ⟨w6, hw_w6, hz_w6, hb_w6, hS_w6⟩ := boxed w5 #[.int .i64 a.al, .slice Ax a.nx.length cx, .slice Bx a.ac.length dx] 29
  rw [hw_w6]
  clear hw_w6
  have hx0 := fun w' (hb : Below w6.heap.size w6 w') => hS_w6 0 _ rfl w' (hb.mono hz_w6)
  have hx1 := fun w' (hb : Below w6.heap.size w6 w') => hS_w6 1 _ rfl w' (hb.mono hz_w6)
  have hx2 := fun w' (hb : Below w6.heap.size w6 w') => hS_w6 2 _ rfl w' (hb.mono hz_w6)
  replace hx0 := hid hx0
  replace hx1 := hid hx1
  replace hx2 := hid hx2
  clear hS_w6
  have BW_w6 := BW_w5.trans (hb_w6.mono BW_w5.size)
  have BEs_w6 := BEs_w5.trans (hb_w6.mono BEs_w5.size)
  have Bs_w6 := Bs_w5.trans (hb_w6.mono Bs_w5.size)
  have BTa_w6 := BTa_w5.trans (hb_w6.mono BTa_w5.size)
  have Ba_w6 := Ba_w5.trans (hb_w6.mono Ba_w5.size)
  have BTx_w6 := BTx_w5.trans (hb_w6.mono BTx_w5.size)
  have Bx_w6 : Below w6.heap.size w6 w6 := Below.refl _ _
  have pa0 := ha0.out _ Ba_w6
  have pa1 := ha1.out _ Ba_w6
  have pa2 := ha2.out _ Ba_w6
  have px0 := hx0.out _ Bx_w6
  have px1 := hx1.out _ Bx_w6
  have px2 := hx2.out _ Bx_w6
  go_wp2_with fail
  refine (agAutomata_any a a Aa Ba Ax Bx ca da cx dx w6 (ta.out.later BTa_w6) (tx.out.later BTx_w6)).mono ?_
  clear pa0 pa1 pa2 px0 px1 px2
  rintro e w7 ⟨rfl, hb_w7⟩
  have BW_w7 := BW_w6.trans (hb_w7.mono BW_w6.size)
  have BEs_w7 := BEs_w6.trans (hb_w7.mono BEs_w6.size)
  have Bs_w7 := Bs_w6.trans (hb_w7.mono Bs_w6.size)
  have BTa_w7 := BTa_w6.trans (hb_w7.mono BTa_w6.size)
  have Ba_w7 := Ba_w6.trans (hb_w7.mono Ba_w6.size)
  have BTx_w7 := BTx_w6.trans (hb_w7.mono BTx_w6.size)
  have Bx_w7 := Bx_w6.trans (hb_w7.mono Bx_w6.size)
  rw [decide_eq_true rfl]
  cases hokc : ok
  case false =>
    rw [hokc] at hok
    have pa0 := ha0.out _ Ba_w7
    have pa1 := ha1.out _ Ba_w7
    have pa2 := ha2.out _ Ba_w7
    have px0 := hx0.out _ Bx_w7
    have px1 := hx1.out _ Bx_w7
    have px2 := hx2.out _ Bx_w7
    go_wp2_with fail
    refine (agAutomata_any a a Aa Ba Ax Bx ca da cx dx w7 (ta.out.later BTa_w7) (tx.out.later BTx_w7)).mono ?_
    clear pa0 pa1 pa2 px0 px1 px2
    rintro e w8 ⟨rfl, hb_w8⟩
    have BW_w8 := BW_w7.trans (hb_w8.mono BW_w7.size)
    have BEs_w8 := BEs_w7.trans (hb_w8.mono BEs_w7.size)
    have Bs_w8 := Bs_w7.trans (hb_w8.mono Bs_w7.size)
    have BTa_w8 := BTa_w7.trans (hb_w8.mono BTa_w7.size)
    have Ba_w8 := Ba_w7.trans (hb_w8.mono Ba_w7.size)
    have BTx_w8 := BTx_w7.trans (hb_w8.mono BTx_w7.size)
    have Bx_w8 := Bx_w7.trans (hb_w8.mono Bx_w7.size)
    rw [decide_eq_true rfl]
    go_wp2_with fail
    go_ret
    exact ⟨rfl, BW_w8⟩
  case true =>
  have hpk : Hid (prK s s.al = true) := hid (by rw [← hok.out, hokc])
  have hsok : Hid (sysOk s = true) := hid (prOk_parts (prK_true hpk.out).1).1
  have haok : Hid (auOk a = true) := hid (by rw [ha.out]; exact auOk_prA hpk.out)
  have haal : Hid (a.al = s.al) := hid (by rw [ha.out]; exact prA_al hpk.out)
  subst hokc
  go_wp2_with fail
  go_loopw [8] (fun iv wr => ∃ i : Nat, iv = .int .i64 (i : Nat) ∧ i ≤ 5 ∧ Below w7.heap.size w7 wr) (fun iv _ => 5 - (intOf iv).toNat)
  case atStart => exact ⟨0, rfl, by omega, Below.refl _ _⟩
  case round =>
    obtain ⟨i, rfl, hi, hb_wr⟩ := hrel
    have BW_wr := BW_w7.trans (hb_wr.mono BW_w7.size)
    have BEs_wr := BEs_w7.trans (hb_wr.mono BEs_w7.size)
    have Bs_wr := Bs_w7.trans (hb_wr.mono Bs_w7.size)
    have BTa_wr := BTa_w7.trans (hb_wr.mono BTa_w7.size)
    have Ba_wr := Ba_w7.trans (hb_wr.mono Ba_w7.size)
    have BTx_wr := BTx_w7.trans (hb_wr.mono BTx_w7.size)
    have Bx_wr := Bx_w7.trans (hb_wr.mono Bx_w7.size)
    by_cases hlt : i ≤ 4
    case neg =>
      have hle : ¬ ((i : Int) ≤ 4) := by omega
      go_wp2
      go_ret
      exact ⟨rfl, BW_wr⟩
    have hle : ((i : Int) ≤ 4) := by omega
    obtain ⟨v, hv⟩ : ∃ v, Hid (v = totW s (letters s.al) i) := ⟨_, hid rfl⟩
    have hcn := hid (totA_pr hpk.out i)
    rw [← hv.out, ← ha.out] at hcn
    have hvv : ((v : Int) != (v : Int)) = false := by simp
    have ya0 := fun x => ha0.out _ (Ba_wr.trans ((Fam.below wr.heap.size wr x).mono Ba_wr.size))
    have ya1 := fun x => ha1.out _ (Ba_wr.trans ((Fam.below wr.heap.size wr x).mono Ba_wr.size))
    have ya2 := fun x => ha2.out _ (Ba_wr.trans ((Fam.below wr.heap.size wr x).mono Ba_wr.size))
    have ys0 := fun x => hs0.out _ (Bs_wr.trans ((Fam.below wr.heap.size wr x).mono Bs_wr.size))
    have ys1 := fun x => hs1.out _ (Bs_wr.trans ((Fam.below wr.heap.size wr x).mono Bs_wr.size))
    have ys2 := fun x => hs2.out _ (Bs_wr.trans ((Fam.below wr.heap.size wr x).mono Bs_wr.size))
    have hTc := hid (hT.out.later BW_wr)
    have hac2 := hid (ta.out.later BTa_wr)
    have hes := hid (es.out.later BEs_wr)
    go_wp2_with fail
    refine wp_region_grow 7 wr.heap.size wr (fun _ u _ => u = .int .i64 (v : Nat)) (by kernel_rfl) (by kernel_rfl) (Nat.le_refl _) (Below.refl _ _) ?_
    simp only [List.take_succ_cons, List.take_zero, List.drop_succ_cons, List.drop_zero]
    (repeat (refine grow_quiet (by rfl) (by rfl) (by rfl) ?_; intro K hK; go_big_quiet_op; go_big_quiet_on))
    refine grow_val (.int .i64 (v : Nat)) (by rfl) (by rfl) rfl (fun wq hbq _ => ?_) ?_
    · go_simp
      refine ⟨rfl, (implCountAccepted_any a Aa Ba ca da i wq haok.out (by omega) (hac2.out.later hbq)).mono ?_⟩
      rintro e w3 ⟨rfl, hb3⟩
      exact ⟨by rw [haal.out, hcn.out], hb3⟩
    simp only [Act.put, List.setIfInBounds_toArray, List.set_cons_zero, List.set_cons_succ]
    (repeat (refine grow_quiet (by rfl) (by rfl) (by rfl) ?_; intro K hK; go_big_quiet_op; go_big_quiet_on))
    refine grow_val (.int .i64 (v : Nat)) (by rfl) (by rfl) rfl (fun wq hbq _ => ?_) ?_
    · go_simp
      refine ⟨rfl, (implTracesUpTo_any s As cs i wq hsok.out (by omega) a1 a2 (hTc.out.later hbq) (hes.out.later hbq)).mono ?_⟩
      rintro e w3 ⟨rfl, hb3⟩
      exact ⟨by rw [hv.out], hb3⟩
    simp only [Act.put, List.setIfInBounds_toArray, List.set_cons_zero, List.set_cons_succ]
    (repeat (refine grow_quiet (by rfl) (by rfl) (by rfl) ?_; intro K hK; go_big_quiet_op; go_big_quiet_on))
    refine grow_nil ?_
    intro w40 hb_w40 hf
    clear hf ya0 ya1 ya2 ys0 ys1 ys2
    have BW_w40 := BW_wr.trans (hb_w40.mono BW_wr.size)
    have BEs_w40 := BEs_wr.trans (hb_w40.mono BEs_wr.size)
    have Bs_w40 := Bs_wr.trans (hb_w40.mono Bs_wr.size)
    have BTa_w40 := BTa_wr.trans (hb_w40.mono BTa_wr.size)
    have Ba_w40 := Ba_wr.trans (hb_w40.mono Ba_wr.size)
    have BTx_w40 := BTx_wr.trans (hb_w40.mono BTx_wr.size)
    have Bx_w40 := Bx_wr.trans (hb_w40.mono Bx_wr.size)
    have hfin := hid (hb_wr.trans (hb_w40.mono hb_wr.size))
    go_wp2_with fail
    go_roundw
    case rel => exact ⟨i + 1, by go_num, by omega, hfin.out⟩
    case measure => simp [intOf]; omega

end Go.Proofs.YtimoekglamdddaaDoor
