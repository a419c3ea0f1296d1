/- Lemmas, part 8: several texts in one. -/
import Derived.Test.YtdkjnemakkppfaaDoorV4
import Derived.Test.YtdkjnemakkppfaaDoorV3
import Derived.Test.YtdkjnemakkppfaaDoorV5
import Derived.Test.YtdkjnemakkppfaaDoorV2
import Derived.Laws.AppendOwnNone
import Derived.Deep.DeepCutAuto
import Derived.Deep.AppendLies
import Derived.Test.YtdkjnemakkppfaaDoorV7
import Derived.Sort.OwnSortedInts
import Derived.Shelf.SlGeneric
import Derived.Shelf.Sort.Plain
import Derived.Shelf.SlSortCmp.NoneTotal
import Derived.Shelf.SlSortCmp.WholeK
import Derived.Ground.NamesProg
import Derived.Ground.SlsfProg
import Derived.Test.YtdkjnemakkppfaaDoorProg
set_option linter.unusedSimpArgs false
set_option linter.unusedVariables false

/- The exact laws' functions on systems that are handed back and on automata: marks, what is held, sizes, copies. -/
namespace Go.Proofs.YtdkjnemakkppfaaDoor
open Go.RowKit Go.BigFrame AG

def marksE (n : Nat) (k : Int) : List Ed := (List.range n).map fun (i : Nat) => ⟨k + 3 * (i : Int), k + 3 * (i : Int) + 1, k + 3 * (i : Int) + 2⟩
theorem marksE_len (n : Nat) (k : Int) : (marksE n k).length = n := by simp [marksE]
theorem marksE_at {n : Nat} {k : Int} {i : Nat} (h : i < (marksE n k).length) : (marksE n k)[i] = ⟨k + 3 * (i : Int), k + 3 * (i : Int) + 1, k + 3 * (i : Int) + 2⟩ := by simp [marksE]
def MkIn (cs : Array Value) (k : Int) (j : Nat) : Prop := ∀ i, i < j → cs[i * 3]? = some (.int .i64 (k + 3 * (i : Int))) ∧ cs[i * 3 + 1]? = some (.int .i64 (k + 3 * (i : Int) + 1)) ∧ cs[i * 3 + 2]? = some (.int .i64 (k + 3 * (i : Int) + 2))
theorem MkIn.next {cs : Array Value} {k : Int} {j : Nat} (h : MkIn cs k j) (hs : j * 3 + 2 < cs.size) : MkIn (((cs.setIfInBounds (j * 3) (.int .i64 (k + 3 * (j : Int)))).setIfInBounds (j * 3 + 1) (.int .i64 (k + 3 * (j : Int) + 1))).setIfInBounds (j * 3 + 2) (.int .i64 (k + 3 * (j : Int) + 2))) k (j + 1) := by
  intro i hi
  by_cases e : i = j
  · subst e
    refine ⟨?_, ?_, ?_⟩ <;> simp [Array.getElem?_setIfInBounds] <;> omega
  · obtain ⟨h1, h2, h3⟩ := h i (by omega)
    refine ⟨?_, ?_, ?_⟩
    · rw [Array.getElem?_setIfInBounds, if_neg (by omega), Array.getElem?_setIfInBounds, if_neg (by omega), Array.getElem?_setIfInBounds, if_neg (by omega), h1]
    · rw [Array.getElem?_setIfInBounds, if_neg (by omega), Array.getElem?_setIfInBounds, if_neg (by omega), Array.getElem?_setIfInBounds, if_neg (by omega), h2]
    · rw [Array.getElem?_setIfInBounds, if_neg (by omega), Array.getElem?_setIfInBounds, if_neg (by omega), Array.getElem?_setIfInBounds, if_neg (by omega), h3]

set_option maxRecDepth 100000 in
set_option maxHeartbeats 2000000 in
theorem markEdgeSM_any (A : Option Addr) (n c : Nat) (es : List Ed) (k : Int) (w : World) (hn : es.length = n) (h0 : 0 ≤ k) (h1 : k + 3 * n ≤ 1152921504606846976) (hcn : n ≤ c) (hcm : c ≤ 9223372036854775807) (hr : EdsAt w w.heap.size A es) (hw : WrB w A n) :
    Calls Tryd.prog 43 #[.slice A n c, .int .i64 k] w fun e w' => e = .returned (.int .i64 (k + 3 * n)) ∧ EdsAt w' w'.heap.size A (marksE n k) ∧ KeepB (fun b => 0 < n ∧ ∃ o, A = some ⟨b, o, none⟩) w w' := by
  by_cases hn0 : n = 0
  · replace hr := hid hr
    replace hw := hid hw
    subst hn0
    go_enter Tryd.func43, Tryd.ntmps43
    go_wp2
    go_loopw [1, 5] (fun kv i wr => kv = .int .i64 k ∧ i = .int .i64 0 ∧ wr = w) (fun _ _ _ => 0)
    case atStart => exact ⟨rfl, rfl, rfl⟩
    case round =>
      obtain ⟨rfl, rfl, rfl⟩ := hrel
      go_wp2
      go_ret
      exact ⟨ret_int (by omega), fun h => by rw [marksE_len] at h; omega, KeepB.refl _ _⟩
  · obtain ⟨b, o, rfl, hblt, -⟩ := hr (by omega)
    obtain ⟨rfl, cur, hblk, hsz⟩ := hw b o rfl
    clear hr hw
    replace hblk := hid hblk
    go_enter Tryd.func43, Tryd.ntmps43
    go_wp2
    go_loopw [1, 5] (fun kv i wr => ∃ (j : Nat) (cs : Array Value), kv = .int .i64 (k + 3 * j) ∧ i = .int .i64 (j : Nat) ∧ j ≤ n ∧ Blk wr b 59 cs ∧ MkIn cs k j ∧ cs.size = cur.size ∧ KeepB (fun x => x = b) w wr) (fun _ i _ => n - (intOf i).toNat)
    case atStart => exact ⟨0, cur, by simp, rfl, by omega, hblk.out, fun i hi => by omega, rfl, KeepB.refl _ _⟩
    case round =>
      obtain ⟨j, cs, rfl, rfl, hj, hbr, hmk, hs, hkp⟩ := hrel
      by_cases hlt : j < n
      · obtain ⟨v0, d0⟩ := hbr.some_ (i := j * 3) (by omega)
        obtain ⟨v1, d1⟩ := hbr.some_ (i := j * 3 + 1) (by omega)
        obtain ⟨v2, d2⟩ := hbr.some_ (i := j * 3 + 2) (by omega)
        have z0 := hbr.frozen (j * 3)
        have z1 := hbr.frozen (j * 3 + 1)
        have z2 := hbr.frozen (j * 3 + 2)
        have k1 : (0 : Int) ≤ (j : Int) ∧ (j : Int) < (n : Int) := by omega
        have hnx := hid (hmk.next (by omega))
        replace hbr := hid hbr
        replace hmk := hid hmk
        have e2 : k + 3 * (j : Int) + 1 + 1 = k + 3 * (j : Int) + 2 := by omega
        have hfin := hid ((((hbr.out.set_ (j * 3) (.int .i64 (k + 3 * (j : Int)))).set_ (j * 3 + 1) (.int .i64 (k + 3 * (j : Int) + 1))).set_ (j * 3 + 2) (.int .i64 (k + 3 * (j : Int) + 2))))
        go_wp2
        go_roundw
        case rel => exact ⟨j + 1, _, by go_num, by go_num, by omega, by first | exact hfin.out | (rw [← e2] at hfin; exact hfin.out) | (have h := hfin.out; simpa using h), hnx.out, by simpa using hs, ((hkp.setCell _ _ fun _ => rfl).setCell _ _ fun _ => rfl).setCell _ _ fun _ => rfl⟩
        case measure => simp [intOf]; omega
      · obtain rfl : j = n := by omega
        have hat : Hid (EdsAt wr wr.heap.size (some ⟨b, 0, none⟩) (marksE j k)) := hid (fun _ => ⟨b, 0, rfl, hbr.lt, fun i hi => by
          obtain ⟨m1, m2, m3⟩ := hmk i (by rw [marksE_len] at hi; exact hi)
          rw [marksE_at hi, Nat.zero_add, hbr.cell, hbr.cell, hbr.cell]
          exact ⟨m1, m2, m3⟩⟩)
        replace hbr := hid hbr
        replace hmk := hid hmk
        go_wp2
        go_ret
        exact ⟨rfl, hat.out, hkp.mono fun x e => ⟨by omega, 0, by rw [e]⟩⟩

set_option maxRecDepth 100000 in
set_option maxHeartbeats 1000000 in
theorem markSystemM_any (s : Sy) (A : Option Addr) (c : Nat) (k : Int) (w : World) (h0 : 0 ≤ k) (h1 : k + 3 * s.es.length ≤ 1152921504606846976) (hcn : s.es.length ≤ c) (hcm : c ≤ 9223372036854775807) (hr : EdsAt w w.heap.size A s.es) (hw : WrB w A s.es.length) :
    Calls Tryd.prog 14 #[s.val A c, .int .i64 k] w fun e w' => e = .returned (.int .i64 (k + 3 * s.es.length)) ∧ EdsAt w' w'.heap.size A (marksE s.es.length k) ∧ KeepB (fun b => 0 < s.es.length ∧ ∃ o, A = some ⟨b, o, none⟩) w w' := by
  unfold Sy.val
  obtain ⟨w0, hw0, hz0, hB0, hS0, hS1, hS2⟩ := boxed3 w (Value.int IntKind.i64 s.al) (Value.int IntKind.i64 s.st) (Value.slice A s.es.length c) 28
  have p2 := hS2 _ (Below.refl _ _)
  have hr0 := hid (hr.later hB0)
  have hw0' := hid (hw.later hB0)
  replace hr := hid hr
  replace hw := hid hw
  go_enter Tryd.func14, Tryd.ntmps14
  go_wp2_with fail
  refine (markEdgeSM_any A s.es.length c s.es k w0 rfl h0 h1 hcn hcm hr0.out hw0'.out).mono ?_
  rintro e w1 ⟨rfl, hm1, hk1⟩
  replace hm1 := hid hm1
  have hk := (KeepB.of_below (K := fun b => 0 < s.es.length ∧ ∃ o, A = some ⟨b, o, none⟩) hB0).trans hk1
  go_wp2
  go_ret
  exact ⟨rfl, hm1.out, hk⟩

set_option maxRecDepth 100000 in
set_option maxHeartbeats 1000000 in
theorem heldEdgeS_any (A : Option Addr) (n c : Nat) (k : Int) (w : World) (h0 : 0 ≤ k) (h1 : k + 3 * n ≤ 1152921504606846976) (hnc : n ≤ c) (hcm : c ≤ 9223372036854775807) (hr : EdsAt w w.heap.size A (marksE n k)) :
    Calls Tryd.prog 44 #[.slice A n c, .int .i64 k] w fun e w' => e = .returned (.int .i64 (k + 3 * n)) ∧ Below w.heap.size w w' := by
  replace hr := hid hr
  go_enter Tryd.func44, Tryd.ntmps44
  go_wp2
  go_loopw [1, 5] (fun kv i wr => ∃ j : Nat, kv = .int .i64 (k + 3 * j) ∧ i = .int .i64 (j : Nat) ∧ j ≤ n ∧ Below w.heap.size w wr) (fun _ i _ => n - (intOf i).toNat)
  case atStart => exact ⟨0, by simp, rfl, by omega, Below.refl _ _⟩
  case round =>
    obtain ⟨j, rfl, rfl, hj, hb⟩ := hrel
    by_cases hlt : j < n
    · obtain ⟨b, o, hA, hB, hE⟩ := hr.out (by rw [marksE_len]; omega)
      subst hA
      obtain ⟨e0, e1, e2⟩ := hE j (by rw [marksE_len]; exact hlt)
      rw [marksE_at] at e0 e1 e2
      simp only at e0 e1 e2
      rw [← hb.cell (by simpa using hB)] at e0 e1 e2
      obtain ⟨x, hx⟩ : ∃ x, x = k + 3 * (j : Int) := ⟨_, rfl⟩
      rw [← hx] at e0 e1 e2 ⊢
      have e2' : wr.cell? ⟨b, o + j * 3 + 2, none⟩ = some (.int .i64 (x + 1 + 1)) := by rw [e2]; congr 2; omega
      have hxb : 0 ≤ x ∧ x + 3 ≤ 1152921504606846976 := by omega
      have k1 : (0 : Int) ≤ (j : Int) ∧ (j : Int) < (n : Int) := by omega
      have q0 : (x != x) = false := by simp
      have q1 : ((x + 1) != (x + 1)) = false := by simp
      have q2 : ((x + 1 + 1) != (x + 1 + 1)) = false := by simp
      have hx3 : Hid (x + 1 + 1 + 1 = k + 3 * ((j + 1 : Nat) : Int)) := hid (by omega)
      replace hx := hid hx
      replace hE := hid hE
      clear e2
      go_wp2
      go_roundw
      case rel => exact ⟨j + 1, by first | (rw [← hx3.out]) | (have := hx3.out; go_num), by go_num, by omega, hb⟩
      case measure => simp [intOf]; omega
    · obtain rfl : j = n := by omega
      go_wp2
      go_ret
      exact ⟨rfl, hb⟩

set_option maxRecDepth 100000 in
set_option maxHeartbeats 1000000 in
theorem heldSystem_any (s : Sy) (A : Option Addr) (n c : Nat) (k : Int) (w : World) (hn : s.es.length = n) (h0 : 0 ≤ k) (h1 : k + 3 * n ≤ 1152921504606846976) (hnc : n ≤ c) (hcm : c ≤ 9223372036854775807) (hr : EdsAt w w.heap.size A (marksE n k)) :
    Calls Tryd.prog 15 #[.agg #[.int .i64 s.al, .int .i64 s.st, .slice A n c], .int .i64 k] w fun e w' => e = .returned (.int .i64 (k + 3 * n)) ∧ Below w.heap.size w w' := by
  obtain ⟨w0, hw0, hz0, hB0, hS0, hS1, hS2⟩ := boxed3 w (Value.int IntKind.i64 s.al) (Value.int IntKind.i64 s.st) (Value.slice A n c) 28
  have p2 := hS2 _ (Below.refl _ _)
  have hr0 := hid (hr.later hB0)
  replace hr := hid hr
  obtain ⟨m, hm⟩ : ∃ m, Hid (m = k + 3 * (n : Int)) := ⟨_, hid rfl⟩
  have hm0 : 0 ≤ m := by rw [hm.out]; omega
  have hcall := hid (heldEdgeS_any A n c k w0 h0 h1 hnc hcm hr0.out)
  rw [← hm.out] at hcall ⊢
  go_enter Tryd.func15, Tryd.ntmps15
  go_wp2_with fail
  refine hcall.out.mono ?_
  rintro e w1 ⟨rfl, hb1⟩
  have hB1 := hB0.trans (hb1.mono hB0.size)
  go_wp2
  go_ret
  exact ⟨rfl, hB1⟩

end Go.Proofs.YtdkjnemakkppfaaDoor

/- Systems that run together: the program's parts.next. -/
namespace Go.Proofs.YtdkjnemakkppfaaDoor
open Go.RowKit Go.BigFrame AG

/-- The moves of some systems lie in memory. -/
def MovesAt (w : World) (B : Nat) (M : Option Addr) (ss : List Sy) : Prop := 0 < ss.length → ∃ b o, M = some ⟨b, o, none⟩ ∧ b < B ∧ ∀ i (h : i < ss.length), ∃ g, w.cell? ⟨b, o + i, none⟩ = some (.pointer (some ⟨g, 0, none⟩)) ∧ MvAt w B g (mv ss[i])
theorem MovesAt.later {w w' : World} {M : Option Addr} {ss : List Sy} (h : MovesAt w w.heap.size M ss) (hb : Below w.heap.size w w') : MovesAt w' w'.heap.size M ss := fun hl => by
  obtain ⟨b, o, h1, h2, h3⟩ := h hl
  refine ⟨b, o, h1, Nat.lt_of_lt_of_le h2 hb.size, fun i hi => ?_⟩
  obtain ⟨g, h4, h5⟩ := h3 i hi
  exact ⟨g, by rw [hb.cell (by simpa using h2)]; exact h4, h5.later hb⟩
def partsV (A : Option Addr) (n c : Nat) (M : Option Addr) (cm : Nat) : Value := .agg #[.slice A n c, .slice M n cm]

set_option maxRecDepth 100000 in
set_option maxHeartbeats 8000000 in
theorem partsNext_any (ss : List Sy) (A M : Option Addr) (c cm node l base : Nat) (v : Value) (ns : List Nat) (w : World) (hall : ss.all sysOk = true) (hn3 : ss.length ≤ 3) (hl6 : l < 6) (hnode : node < 4096) (hlc : ss.length ≤ c) (hc : c ≤ 9223372036854775807) (hlm : ss.length ≤ cm) (hcm : cm ≤ 9223372036854775807)
    (hns : ns.length ≤ 4294967296) (hT : Tab w) (hS : SysAt w w.heap.size A ss) (hM : MovesAt w w.heap.size M ss) (hbase : base ≤ w.heap.size) (hown : w.ownsRow base 3 1 v ns.length (natVals ns)) :
    Calls Tryd.prog 38 #[partsV A ss.length c M cm, .int .i64 (node : Nat), .int .i64 (l : Nat), v] w fun e w' => ∃ v', e = .returned v' ∧ w'.ownsRow base 3 1 v' (ns ++ nxParts ss node l).length (natVals (ns ++ nxParts ss node l)) ∧ KeepB (fun b => v.ownBlock = some b) w w' := by
  obtain ⟨i0, hi, hz0, hz1, hz2⟩ := info_parts infoInt
  unfold partsV
  obtain ⟨Av, cv, hve, hcv1, hcv2⟩ := own_slice hown
  subst hve
  have hpar := Blk.new w 63 #[.slice A ss.length c, .slice M ss.length cm]
  have hb0 : Below w.heap.size w (w.alloc (.cells #[.slice A ss.length c, .slice M ss.length cm] 63)) := (Below.refl _ _).alloc (Nat.le_refl _) _
  have hz0' : (w.alloc (.cells #[.slice A ss.length c, .slice M ss.length cm] 63)).heap.size = w.heap.size + 1 := by simp
  generalize hw0 : w.alloc (.cells #[.slice A ss.length c, .slice M ss.length cm] 63) = w0 at hpar hb0 hz0'
  have p0 := hpar.cell 0
  have p1 := hpar.cell 1
  simp only [List.getElem?_toArray, List.getElem?_cons_zero, List.getElem?_cons_succ] at p0 p1
  have hS0 := hid (hS.later hb0)
  have hM0 := hid (hM.later hb0)
  have hT0 := hid (hT.later hb0)
  have hpar' := hid hpar
  have hok := hid (pst_ok hall l node)
  replace hall := hid hall
  replace hown := hid hown
  replace hS := hid hS
  replace hM := hid hM
  clear hpar
  go_enter Tryd.func38, Tryd.ntmps38
  go_wp2_with fail
  go_loopw [1, 9, 10, 11] (fun nd rv wt iv wr => ∃ (k : Nat) (Ar : Option Addr) (cr : Nat), k ≤ ss.length ∧ iv = .int .i64 ((ss.length : Int) - 1 - k) ∧ nd = .int .i64 ((pst ss l node k).nd : Nat) ∧ wt = .int .i64 ((pst ss l node k).wt : Nat) ∧ rv = .slice Ar (pst ss l node k).re.length cr ∧ (pst ss l node k).re.length ≤ cr ∧ cr ≤ 9223372036854775807 ∧ NatsAt wr wr.heap.size Ar (pst ss l node k).re ∧ ((pst ss l node k).re.length = 0 → rv = .slice none 0 0) ∧ Below w0.heap.size w0 wr) (fun _ _ _ iv _ => (intOf iv + 1).toNat)
  case atStart =>
    refine ⟨0, some ⟨w.heap.size + 1, 0, none⟩, 1, by omega, by first | rfl | (simp; done) | go_num, rfl, rfl, rfl, Nat.le_refl _, by omega, fun _ => ⟨w.heap.size + 1, 0, rfl, by simp; omega, fun i hi => ?_⟩, fun h => by simp [pst] at h, (Below.refl _ _).alloc (Nat.le_refl _) _⟩
    obtain rfl : i = 0 := by simpa [pst] using hi
    rw [Nat.add_zero, ← hz0', World.cell?_alloc_at _ _ _ _ rfl]
    rfl
  case round =>
    clear p0 p1
    obtain ⟨k, Ar, cr, hk, rfl, rfl, rfl, rfl, hr1, hr2, hre, hrn, hb⟩ := hrel
    have hpb := hpar'.out.below hb hpar'.out.lt
    have p0 := hpb.cell 0
    have p1 := hpb.cell 1
    simp only [List.getElem?_toArray, List.getElem?_cons_zero, List.getElem?_cons_succ] at p0 p1
    obtain ⟨o1, o2, o3, o4⟩ := hok.out k hk
    have hzr := hb.size
    by_cases hlt : k < ss.length
    · obtain ⟨i, hik⟩ : ∃ i, i + k + 1 = ss.length := ⟨ss.length - 1 - k, by omega⟩
      obtain ⟨hil, hsucc⟩ := pst_succ (ss := ss) (l := l) (node := node) hlt hik
      obtain ⟨s, hse⟩ : ∃ s, s = ss[i] := ⟨_, rfl⟩
      have hso : sysOk s = true := by rw [hse]; exact List.all_eq_true.1 hall.out _ (List.getElem_mem _)
      have hst := sysOk_st hso
      obtain ⟨sn, hsn⟩ := Int.eq_ofNat_of_zero_le (show 0 ≤ s.st by omega)
      obtain ⟨b, o, hA, hbb, hE⟩ := hS0.out (by omega)
      subst hA
      obtain ⟨c0, c1, Ai, ci, c2, s1, s2, -⟩ := hE i hil
      rw [← hb.cell (by simpa using hbb)] at c0 c1 c2
      rw [← hse] at c0 c1 c2 hsucc
      rw [hsn] at c1
      obtain ⟨b2, o2', hM', hbb2, hEM⟩ := hM0.out (by omega)
      subst hM'
      obtain ⟨g, m0, hmv⟩ := hEM i hil
      rw [← hb.cell (by simpa using hbb2)] at m0
      rw [← hse] at hmv
      have hmvr := hid (MvAt.later hmv hb)
      obtain ⟨x, hx⟩ : ∃ x, x = pst ss l node k := ⟨_, rfl⟩
      rw [← hx] at hr1 hre hrn o1 o2 o3 o4 hsucc ⊢
      obtain ⟨re, wt, nd⟩ := x
      simp only at hr1 hre hrn o1 o2 o3 o4
      have hnd4 : nd < 4096 := by omega
      have hpw : 16 ^ k ≤ 16 ^ 2 := Nat.pow_le_pow_right (by omega) (by omega)
      have hsn1 : 1 ≤ sn ∧ sn ≤ 16 := by omega
      have e1 : ((ss.length : Int) - 1 - (k : Int)) = (i : Int) := by omega
      rw [e1]
      obtain ⟨d, hd⟩ : ∃ d, d = nd % sn := ⟨_, rfl⟩
      have hds : d < sn := by rw [hd]; exact Nat.mod_lt _ (by omega)
      have e2 : Int.tmod (nd : Int) (sn : Int) = (d : Int) := by rw [hd]; exact tmod_nat nd sn
      have e3 : Int.tdiv (nd : Int) (sn : Int) = ((nd / sn : Nat) : Int) := tdiv_nat nd sn
      have hsq : s.st.toNat = sn := by omega
      have k1 : (0 : Int) ≤ (i : Int) ∧ (i : Int) < (ss.length : Int) := by omega
      have hnb := Blk.new wr 28 #[.int .i64 s.al, .int .i64 (sn : Int), .slice Ai s.es.length ci]
      have hba : Below wr.heap.size wr (wr.alloc (.cells #[.int .i64 s.al, .int .i64 (sn : Int), .slice Ai s.es.length ci] 28)) := (Below.refl _ _).alloc (Nat.le_refl _) _
      have hbs : wr.heap.size < (wr.alloc (.cells #[.int .i64 s.al, .int .i64 (sn : Int), .slice Ai s.es.length ci] 28)).heap.size := by simp
      generalize hwa : wr.alloc (.cells #[.int .i64 s.al, .int .i64 (sn : Int), .slice Ai s.es.length ci] 28) = wa at hnb hba hbs
      have d0 := hnb.cell 0
      have d1 := hnb.cell 1
      simp only [List.getElem?_toArray, List.getElem?_cons_zero, List.getElem?_cons_succ] at d0 d1
      have hstq : Hid (stepQ s nd l = if HasZ s.al (l : Int) = true then memL (mv s d l) else [d]) := hid (by unfold stepQ; rw [hsq, ← hd])
      replace hre := hid hre
      replace hE := hid hE
      replace hEM := hid hEM
      replace hse := hid hse
      replace hx := hid hx
      replace hd := hid hd
      replace hsn := hid hsn
      replace hsucc := hid hsucc
      replace hso := hid hso
      replace hik := hid hik
      have hdb := Blk.new wa 3 #[.int .i64 (d : Int)]
      have hba2 : Below wa.heap.size wa (wa.alloc (.cells #[.int .i64 (d : Int)] 3)) := (Below.refl _ _).alloc (Nat.le_refl _) _
      generalize hwb : wa.alloc (.cells #[.int .i64 (d : Int)] 3) = wb at hdb hba2
      have hdc := hdb.cell 0
      simp only [List.getElem?_toArray, List.getElem?_cons_zero, List.getElem?_cons_succ] at hdc
      have hdl := hdb.lt
      have hrb := hba.trans (hba2.mono hba.size)
      have hHle : (l : Int) ≤ 63 := by omega
      have hbb2' := hba2.size
      have d1b : wb.cell? ⟨wr.heap.size, 1, none⟩ = some (.int .i64 (sn : Int)) := by rw [hba2.cell (World.block_lt_of_cell? _ _ d1)]; exact d1
      have d0b : wb.cell? ⟨wr.heap.size, 0, none⟩ = some (.int .i64 s.al) := by rw [hba2.cell (World.block_lt_of_cell? _ _ d0)]; exact d0
      replace hdb := hid hdb
      go_wp2_with fail
      refine (has_any s.al (l : Int) _ hHle).mono ?_
      rintro e w' ⟨rfl, rfl⟩
      clear p0 c0 c1 c2
      go_upto_if 41 with fail
      go_cut [13] from 24 to 87 (fun tv wx => ∃ (qs : List Nat) (At : Option Addr) (cq : Nat), tv = .slice At qs.length cq ∧ qs.length ≤ cq ∧ cq ≤ 9223372036854775807 ∧ Hid (qs = stepQ s nd l) ∧ NatsAt wx wx.heap.size At qs ∧ Below wb.heap.size wb wx)
      case first =>
        cases hH : HasZ s.al (l : Int)
        · have hq1 : Hid ([d] = stepQ s nd l) := hid (by rw [hstq.out, hH]; rfl)
          have hq : Hid (NatsAt wb wb.heap.size (some ⟨wa.heap.size, 0, none⟩) [d]) := hid (fun _ => ⟨wa.heap.size, 0, rfl, hdl, fun i hi => by
            obtain rfl : i = 0 := by simpa using hi
            rw [Nat.add_zero]
            exact hdc⟩)
          replace hH := hid hH
          clear hdc
          go_wp2_with fail
          go_meet
          exact ⟨[d], _, 1, rfl, Nat.le_refl _, by omega, hq1, hq.out, Below.refl _ _⟩
        · obtain ⟨S, hS'⟩ : ∃ S, S = mv s d l := ⟨_, rfl⟩
          have hSl : S < 65536 := by rw [hS']; exact mv_lt _ _ _
          have hq1 : Hid (memL S = stepQ s nd l) := hid (by rw [hstq.out, hH, if_pos rfl, hS'])
          have p1b : ∀ x, (Fam wb.heap.size wb x).cell? ⟨w.heap.size, 1, none⟩ = some (.slice (some ⟨b2, o2', none⟩) ss.length cm) := fun x => by rw [(hrb.trans ((Fam.below wb.heap.size wb x).mono hrb.size)).cell (World.block_lt_of_cell? _ _ p1)]; exact p1
          have m0b : ∀ x, (Fam wb.heap.size wb x).cell? ⟨b2, o2' + i, none⟩ = some (.pointer (some ⟨g, 0, none⟩)) := fun x => by rw [(hrb.trans ((Fam.below wb.heap.size wb x).mono hrb.size)).cell (World.block_lt_of_cell? _ _ m0)]; exact m0
          have d1x : ∀ x, (Fam wb.heap.size wb x).cell? ⟨wr.heap.size, 1, none⟩ = some (.int .i64 (sn : Int)) := fun x => by rw [(Fam.below wb.heap.size wb x).cell (World.block_lt_of_cell? _ _ d1b)]; exact d1b
          have h16 : d < 16 := by omega
          have y3 : ∀ x, (Fam wb.heap.size wb x).cell? ⟨g, d * 6 + l, none⟩ = some (.int .i64 (S : Nat)) := fun x => by
            rw [hS']
            exact (hmvr.out.keep (hrb.trans ((Fam.below wb.heap.size wb x).mono hrb.size))).2 _ _ h16 hl6
          have hd0 : (0 : Int) ≤ (d : Int) ∧ (d : Int) < 16 ∧ (0 : Int) ≤ (l : Int) ∧ (l : Int) < 6 := by omega
          obtain ⟨hd0, hd1, hl0, hl1⟩ := hd0
          have e2' : ((nd : Int) % (sn : Int)) = (d : Int) := by rw [← e2]; exact (Int.tmod_eq_emod_of_nonneg (by omega)).symm
          replace hS' := hid hS'
          replace hH := hid hH
          clear hdc p1 m0 d1 d0 d1b d0b
          go_wp2_with fail
          refine wp_region_grow 15 wb.heap.size wb (fun _ u w' => OwnNats w' wb.heap.size u (memL S)) (by kernel_rfl) (by kernel_rfl) (Nat.le_refl _) (Below.refl _ _) ?_
          simp only [List.take_succ_cons, List.take_zero, List.drop_succ_cons, List.drop_zero]
          (repeat (refine grow_quiet (by rfl) (by rfl) (by rfl) ?_; intro K hK; go_big_quiet_op; go_big_quiet_on))
          refine grow_call (by rfl) (by rfl) (fun u w w' hb h => ?_) (fun wq hbq _ => ?_) fun u hu => ?_
          · exact own_keep h (.of_below (K := fun _ => False) hb) fun _ _ h => h
          · go_simp
            refine ⟨rfl, (members_any S hSl wq (hT0.out.later ((hb.trans (hrb.mono hb.size)).trans (hbq.mono (by have := hb.size; have := hrb.size; omega))))).mono ?_⟩
            rintro e w3 ⟨v, rfl, ho, hb3⟩
            exact ⟨v, rfl, hb3, own_base ho hbq.size⟩
          obtain ⟨w3', -, ho3'⟩ := hu
          obtain ⟨A3, c3, rfl, hc3, hc3'⟩ := own_slice ho3'
          clear ho3'
          simp only [Act.put, List.setIfInBounds_toArray, List.set_cons_zero, List.set_cons_succ]
          (repeat (refine grow_quiet (by rfl) (by rfl) (by rfl) ?_; intro K hK; go_big_quiet_op; go_big_quiet_on))
          refine grow_nil ?_
          intro w3 hb3 hf
          have ho3 := hf _ List.mem_cons_self
          clear hf p1b m0b d1x y3
          obtain ⟨A4, c4, hv4, hc4, hc4', hn4⟩ := OwnNats.read ho3
          replace hn4 := hid hn4
          replace hv4 := hid hv4
          clear ho3
          go_wp2_with fail
          go_meet
          exact ⟨memL S, A4, c4, hv4.out, hc4, hc4', hq1, hn4.out, hb3⟩
      case rest =>
        obtain ⟨qs, At, cq, rfl, hqc, hqc2, hqe, hq, hbx⟩ := hcut
        have hzw : Below wr.heap.size wr wc := hrb.trans (hbx.mono hrb.size)
        have d1z : wc.cell? ⟨wr.heap.size, 1, none⟩ = some (.int .i64 (sn : Int)) := by rw [hbx.cell (World.block_lt_of_cell? _ _ d1b)]; exact d1b
        clear hdc p1 m0 d1 d0 d1b d0b
        have hql : qs.length ≤ 16 := by rw [hqe.out]; exact stepQ_len _ _
        have hqlt : Hid (∀ q ∈ qs, q < sn) := hid (fun q hq => by have := stepQ_lt hso.out nd l q (by rw [← hqe.out]; exact hq); omega)
        have hreZ := hid (hre.out.later hzw)
        replace hq := hid hq
        have hzz := hzw.size
        replace hzw := hid hzw
        go_wp2_with fail
        go_loopw [14, 59] (fun mv jv wq => ∃ (j : Nat), jv = .int .i64 (j : Nat) ∧ j ≤ qs.length ∧ wq.ownsRow wc.heap.size 3 1 mv (joinN (qs.take j) re wt).length (natVals (joinN (qs.take j) re wt)) ∧ ((joinN (qs.take j) re wt).length = 0 → mv = .slice none 0 0) ∧ Below wc.heap.size wc wq) (fun _ jv _ => qs.length - (intOf jv).toNat)
        case atStart => exact ⟨0, rfl, Nat.zero_le _, World.ownsRow_nil _ _ _ _, fun _ => rfl, Below.refl _ _⟩
        case round =>
          obtain ⟨wj, rfl⟩ : ∃ wj : World, wj = wr := ⟨_, rfl⟩
          obtain ⟨j, rfl, hj, hom, hmn, hbj⟩ := hrel
          by_cases hjL : j < qs.length
          · have hjl : j < qs.length := by omega
            obtain ⟨bq, oq, hAq, hbq, hEq⟩ := hq.out (by omega)
            subst hAq
            have l0 := hEq j hjl
            rw [← hbj.cell (by simpa using hbq)] at l0
            try simp only [Nat.zero_add] at l0
            obtain ⟨q, hqj⟩ : ∃ q, q = qs[j] := ⟨_, rfl⟩
            rw [← hqj] at l0
            have hq16 : q < 16 := by have := hqlt.out q (by rw [hqj]; exact List.getElem_mem _); omega
            have k2 : (0 : Int) ≤ (j : Int) ∧ (j : Int) < (qs.length : Int) := by omega
            have hjt := joinN_take (re := re) (wt := wt) hjl
            rw [← hqj] at hjt
            have hjl2 := joinN_len (qs.take j) re wt
            have hjl3 : (joinN (qs.take j) re wt).length ≤ 65536 := by
              rw [hjl2]
              have h1 : (qs.take j).length ≤ 16 := by rw [List.length_take]; omega
              have := Nat.mul_le_mul h1 (show re.length ≤ 4096 by omega)
              omega
            obtain ⟨js, hjs⟩ : ∃ js, js = joinN (qs.take j) re wt := ⟨_, rfl⟩
            rw [← hjs] at hom hmn hjt hjl3
            replace hjs := hid hjs
            replace hqj := hid hqj
            replace hEq := hid hEq
            replace hjt := hid hjt
            go_wp2_with fail
            go_loopw [14, 65] (fun mv pv wq => ∃ (p : Nat), pv = .int .i64 (p : Nat) ∧ p ≤ re.length ∧ wq.ownsRow wc.heap.size 3 1 mv (js ++ (re.take p).map fun r => q * wt + r).length (natVals (js ++ (re.take p).map fun r => q * wt + r)) ∧ ((js ++ (re.take p).map fun r => q * wt + r).length = 0 → mv = .slice none 0 0) ∧ Below wc.heap.size wc wq) (fun _ pv _ => re.length - (intOf pv).toNat)
            case atStart => exact ⟨0, rfl, by omega, by simpa using hom, by simpa using hmn, hbj⟩
            case round =>
              clear hom hmn hbj
              obtain ⟨p, rfl, hp, hop, hpn, hbp⟩ := hrel
              have hpm : (js ++ (re.take p).map fun r => q * wt + r).length ≤ 70000 := by
                rw [List.length_append, List.length_map, List.length_take]
                omega
              by_cases hpl : p < re.length
              · obtain ⟨br, orr, hAr, hbr, hEr⟩ := hreZ.out (by omega)
                subst hAr
                have r0 := hEr p hpl
                rw [← hbp.cell (by simpa using hbr)] at r0
                obtain ⟨r, hrj⟩ : ∃ r, r = re[p] := ⟨_, rfl⟩
                rw [← hrj] at r0
                have hrw : r < wt := o4 r (by rw [hrj]; exact List.getElem_mem _)
                obtain ⟨m, hm⟩ : ∃ m, m = q * wt := ⟨_, rfl⟩
                have hml : m ≤ 65536 := by
                  have := Nat.mul_le_mul (show q ≤ 16 by omega) (show wt ≤ 4096 by omega)
                  omega
                have f1 : (q : Int) * (wt : Int) = (m : Int) := by rw [hm, Int.natCast_mul]
                have f2 : IntKind.i64.wrap ((q : Int) * (wt : Int)) = (m : Int) := by rw [f1]; exact IntWalk.i64_in _ (by omega)
                have k3 : (0 : Int) ≤ (p : Int) ∧ (p : Int) < (re.length : Int) := by omega
                have hmt := map_take (f := fun r => q * wt + r) hpl
                rw [← hrj] at hmt
                have hnx : Hid (js ++ (re.take (p + 1)).map (fun r => q * wt + r) = (js ++ (re.take p).map fun r => q * wt + r) ++ [m + r]) := hid (by rw [hmt, hm, List.append_assoc])
                obtain ⟨cs, hcs⟩ : ∃ cs, cs = js ++ (re.take p).map fun r => q * wt + r := ⟨_, rfl⟩
                rw [← hcs] at hop hpn hpm hnx
                have hzq := hbp.size
                replace hcs := hid hcs
                replace hEr := hid hEr
                replace hrj := hid hrj
                replace hm := hid hm
                replace hpn := hid hpn
                clear hmt
                go_wp2_with (at_builtin; refine wpList_append_own _ rfl _ _ 48 rfl wc.heap.size 3 i0 (.int .i64 0) 1 8 Tryd.underlying48 hi hz0 hz1 hz2 rfl (by decide) _ _ _ rfl (hop.alloc _) ⟨wr.heap.size, 0, none⟩ 1 1 [.int .i64 ((m : Int) + (r : Int))] rfl rfl (cell_one_new _ _ _) (by intro u hu; simp at hu; subst hu; rfl) (by unfold maxLen; omega) (by omega) (by simp; omega) ?_; intro v' w9 hown' hgrow hnil'; have hB9 := hid (Below.grown (hbp.alloc hzq _) hgrow (by simp; omega) (own_block hop)))
                have hO9 : Hid (w9.ownsRow wc.heap.size 3 1 v' (cs ++ [m + r]).length (natVals (cs ++ [m + r]))) := hid (by
                  unfold natVals at hown' ⊢
                  rw [List.length_append, List.map_append]
                  exact hown')
                clear hown' hgrow hnil' hop hbp
                go_roundw
                case rel => exact ⟨p + 1, by go_num, by omega, by rw [hnx.out]; exact hO9.out, (fun h => by rw [hnx.out] at h; simp at h), hB9.out⟩
                case measure => simp [intOf]; omega
              · obtain rfl : p = re.length := by omega
                rw [List.take_length] at hop hpn
                have hj2 : Hid (joinN (qs.take (j + 1)) re wt = js ++ re.map fun r => q * wt + r) := hid (by rw [hjt.out, hjs.out])
                replace hop := hid hop
                replace hpn := hid hpn
                go_wp2_with fail
                go_roundw
                case rel => exact ⟨j + 1, by go_num, by omega, by rw [hj2.out]; exact hop.out, by rw [hj2.out]; exact hpn.out, hbp⟩
                case measure => simp [intOf]; omega
          · have hje : Hid (j = qs.length) := hid (by omega)
            have ht : qs.take j = qs := by rw [hje.out]; exact List.take_length
            rw [ht] at hom hmn
            obtain ⟨Aj, cj, hvj, hj1, hj2, hjn⟩ := OwnNats.read (show OwnNats wj wc.heap.size _ (joinN qs re wt) from hom)
            subst hvj
            have hps : Hid (pst ss l node (k + 1) = ⟨joinN qs re wt, wt * sn, nd / sn⟩) := hid (by rw [hsucc.out, hqe.out]; unfold pstep; simp only [hsq])
            have hws : wt * sn ≤ 65536 := by
              have := Nat.mul_le_mul (show wt ≤ 4096 by omega) (show sn ≤ 16 by omega)
              omega
            have f1 : (wt : Int) * (sn : Int) = ((wt * sn : Nat) : Int) := (Int.natCast_mul wt sn).symm
            have d1j : wj.cell? ⟨wr.heap.size, 1, none⟩ = some (.int .i64 (sn : Int)) := by rw [hbj.cell (World.block_lt_of_cell? _ _ d1z)]; exact d1z
            have hbjj := hid (hb.trans ((hzw.out.trans (hbj.mono hzz)).mono hzr))
            have e4 : (i : Int) - 1 = (ss.length : Int) - 1 - ((k + 1 : Nat) : Int) := by have := hik.out; omega
            replace hom := hid hom
            replace hmn := hid hmn
            replace ht := hid ht
            replace hjn := hid hjn
            replace e4 := hid e4
            have hdw : Hid (wrap64 ((nd : Int) / (sn : Int)) = ((nd / sn : Nat) : Int)) := hid (by
              rw [← Int.natCast_ediv]
              obtain ⟨z, hz⟩ : ∃ z, z = nd / sn := ⟨_, rfl⟩
              have hzl : z ≤ nd := by rw [hz]; exact Nat.div_le_self _ _
              rw [← hz]
              clear hz
              exact IntWalk.wrap64_in _ ⟨by omega, by omega⟩)
            generalize hWS : wt * sn = ws at *
            replace hWS := hid hWS
            go_wp2_with fail
            go_roundw
            case rel => exact ⟨k + 1, Aj, cj, by omega, by first | (rw [← e4.out]) | (rw [← e4.out]; go_num), by rw [hps.out, hdw.out], by first | (rw [hps.out]; done) | (rw [hps.out]; rfl) | (rw [hps.out]; simp; done), by first | (rw [hps.out]; done) | (rw [hps.out]; rfl) | (rw [hps.out]; simp; done), by rw [hps.out]; exact hj1, hj2, by rw [hps.out]; exact hjn.out, by rw [hps.out]; exact hmn.out, hbjj.out⟩
            case measure => (try simp [intOf]) <;> (try omega)
    · have hkn : k = ss.length := by omega
      have hke : Hid ((pst ss l node k).re = nxParts ss node l) := hid (by rw [hkn]; rfl)
      rw [hke.out] at hr1 hre hrn
      obtain ⟨re, hree⟩ : ∃ re, Hid (re = nxParts ss node l) := ⟨_, hid rfl⟩
      rw [← hree.out] at hr1 hre hrn
      rw [hke.out, ← hree.out]
      have hB := hid (hb0.trans (hb.mono hb0.size))
      have hownr := hid (own_keep hown.out (.of_below (K := fun _ => False) hB.out) (fun _ _ h => h))
      have hkp := hid (KeepB.of_below (K := fun b => (Value.slice Av ns.length cv).ownBlock = some b) hB.out)
      have hblk := hid (own_block hown.out)
      have hrl : re.length ≤ 4096 := by
        have h1 : 16 ^ k ≤ 16 ^ 3 := Nat.pow_le_pow_right (by omega) (by omega)
        rw [hke.out, ← hree.out] at o3
        omega
      have hbz : base ≤ wr.heap.size := by have := hB.out.size; omega
      have hnv : (natVals re).length = re.length * 1 := by unfold natVals; simp
      have hcat : Hid (natVals (ns ++ re) = natVals ns ++ natVals re) := hid (by unfold natVals; rw [List.map_append])
      clear o1 o2 o3 o4
      replace hke := hid hke
      by_cases hr0 : re.length = 0
      · have hrv := hrn hr0
        have hree0 : Hid (re = []) := hid (List.eq_nil_of_length_eq_zero hr0)
        rw [hr0] at hrv
        obtain ⟨rfl, rfl⟩ : Ar = none ∧ cr = 0 := by cases hrv; exact ⟨rfl, rfl⟩
        rw [hr0]
        clear hrv hrn hre
        replace hr0 := hid hr0
        go_wp2_with (at_builtin; refine wpList_append_own_none rfl _ _ 48 rfl base 3 i0 1 Tryd.underlying48 hi _ _ _ rfl hownr.out rfl ?_)
        go_ret
        exact ⟨_, rfl, by rw [← hree.out, hree0.out, List.append_nil]; exact hownr.out, hkp.out⟩
      · obtain ⟨br, orr, hAr, hbr, hEr⟩ := hre (by omega)
        subst hAr
        have hnews : Hid (∀ (j : Nat) (u : Value), (natVals re)[j]? = some u → wr.cell? (Addr.add ⟨br, orr, none⟩ j) = some u) := hid (fun j u hj => by
          unfold natVals at hj
          rw [List.getElem?_map] at hj
          cases e : re[j]? with
          | none => rw [e] at hj; cases hj
          | some x =>
            rw [e] at hj
            obtain ⟨hlt', hx'⟩ := List.getElem?_eq_some_iff.1 e
            have := hEr j hlt'
            rw [hx'] at this
            injection hj with hj
            rw [← hj]
            by_cases h0 : j = 0
            · subst h0
              simpa [Addr.add] using this
            · simpa [Addr.add, h0] using this)
        have hone : Hid (∀ u ∈ natVals re, u.oneCell' = true) := hid (fun u hu => by
          unfold natVals at hu
          obtain ⟨x, -, rfl⟩ := List.mem_map.1 hu
          rfl)
        replace hEr := hid hEr
        replace hrn := hid hrn
        go_wp2_with (at_builtin; refine wpList_append_own _ rfl _ _ 48 rfl base 3 i0 (.int .i64 0) 1 8 Tryd.underlying48 hi hz0 hz1 hz2 rfl (by decide) _ _ _ rfl hownr.out ⟨br, orr, none⟩ re.length cr (natVals re) rfl hnv hnews.out hone.out (by unfold maxLen; omega) (by omega) hbz ?_; intro v' w9 hown' hgrow hnil'; replace hown' := hid hown'; replace hgrow := hid hgrow; clear hnil')
        go_ret
        exact ⟨_, rfl, by rw [← hree.out, hcat.out, List.length_append]; exact hown'.out, hkp.out.grown hgrow.out fun g hg _ => hg⟩

end Go.Proofs.YtdkjnemakkppfaaDoor

/- The program's systems that run together: newParts, parts.size. -/
namespace Go.Proofs.YtdkjnemakkppfaaDoor
open Go.RowKit Go.BigFrame AG

theorem infoPtrM : (Tryd.prog.info? 84).map (fun i => (i.zero, i.size, i.bytes)) = some (some (.pointer none), 1, 8) := by kernel_rfl
def ptrV (gs : List Nat) : List Value := gs.map fun (g : Nat) => .pointer (some ⟨g, 0, none⟩)
/-- The list of pointers under way. -/
structure MvsSt (w0 wr : World) (gp : Nat) (A : Option Addr) (n c : Nat) (v : Value) (ss : List Sy) (gs : List Nat) : Prop where
  below : Below w0.heap.size w0 wr
  hgp : w0.heap.size < gp
  res : Blk wr w0.heap.size 63 #[.slice none 0 0, .slice none 0 0]
  blk : Blk wr gp 63 #[.slice A n c, v]
  own : wr.ownsRow w0.heap.size 84 1 v gs.length (ptrV gs)
  nil : gs.length = 0 → v = .slice none 0 0
  mv : ∀ i (h : i < gs.length), ∃ h' : i < ss.length, MvAt wr wr.heap.size gs[i] (AG.mv ss[i])
theorem MvsSt.later {w0 wr w1 : World} {gp : Nat} {A : Option Addr} {n c : Nat} {v : Value} {ss : List Sy} {gs : List Nat} (h : MvsSt w0 wr gp A n c v ss gs) (hb : Below wr.heap.size wr w1) : MvsSt w0 w1 gp A n c v ss gs :=
  ⟨h.below.trans (hb.mono h.below.size), h.hgp, h.res.below hb h.res.lt, h.blk.below hb h.blk.lt, own_keep h.own (.of_below (K := fun _ => False) hb) (fun _ _ h => h), h.nil, fun i hi => by
    obtain ⟨h', h2⟩ := h.mv i hi
    exact ⟨h', h2.later hb⟩⟩
theorem MvsSt.ne {w0 wr : World} {gp : Nat} {A : Option Addr} {n c : Nat} {v : Value} {ss : List Sy} {gs : List Nat} (h : MvsSt w0 wr gp A n c v ss gs) : v.ownBlock ≠ some gp := fun e => own_ne h.own h.blk (by decide) gp e rfl
theorem MvsSt.apart {w0 wr : World} {gp : Nat} {A : Option Addr} {n c : Nat} {v : Value} {ss : List Sy} {gs : List Nat} (h : MvsSt w0 wr gp A n c v ss gs) {B g : Nat} {m : Nat → Nat → Nat} (hm : MvAt wr B g m) : v.ownBlock ≠ some g ∧ g ≠ gp := by
  have h0 := hm.2 0 0 (by omega) (by omega)
  constructor
  · intro e
    by_cases hl : gs.length = 0
    · rw [h.nil hl] at e
      cases e
    · obtain ⟨g', cap, hve, -, -, -, -, hcell⟩ := own_shape h.own (by omega)
      rw [hve] at e
      injection e with e
      subst e
      have hz : (ptrV gs)[0]? = some (.pointer (some ⟨gs[0]'(by omega), 0, none⟩)) := by
        unfold ptrV
        rw [List.getElem?_map, List.getElem?_eq_getElem (by omega)]
        rfl
      have := hcell 0 _ hz
      simp at this h0
      rw [this] at h0
      cases h0
  · intro e
    subst e
    have h1 := h.blk.cell 0
    simp at h0 h1
    rw [h1] at h0
    cases h0
theorem MvsSt.add {w0 wr w1 : World} {gp : Nat} {A : Option Addr} {n c : Nat} {v v' : Value} {ss : List Sy} {gs : List Nat} {g : Nat} (h : MvsSt w0 wr gp A n c v ss gs) (hl : gs.length < ss.length) (hm : MvAt wr wr.heap.size g (AG.mv ss[gs.length]))
    (hown : w1.ownsRow w0.heap.size 84 1 v' (gs.length + 1) (ptrV gs ++ [.pointer (some ⟨g, 0, none⟩)])) (hg : wr.grownBy w1 v.ownBlock) (hat : v'.ownBlock = v.ownBlock ∨ v'.ownBlock = some wr.heap.size) :
    MvsSt w0 (w1.setCell ⟨gp, 1, none⟩ v') gp A n c v' ss (gs ++ [g]) := by
  have h2 := h.hgp
  have hb := h.blk.lt
  have k1 : KeepB (fun b => v.ownBlock = some b) wr w1 := (KeepB.refl _ wr).grown hg fun k hk _ => hk
  have hne' : v'.ownBlock ≠ some gp := fun e => by
    rcases hat with h3 | h3
    · exact h.ne (by rw [← h3, e])
    · rw [h3] at e; injection e with e; omega
  have k2 : KeepB (fun b => v.ownBlock = some b ∨ b = gp) wr (w1.setCell ⟨gp, 1, none⟩ v') := (k1.mono fun _ h => .inl h).setCell _ _ fun _ => .inr rfl
  have hmk : ∀ {x : Nat} {m : Nat → Nat → Nat}, MvAt wr wr.heap.size x m → MvAt (w1.setCell ⟨gp, 1, none⟩ v') (w1.setCell ⟨gp, 1, none⟩ v').heap.size x m := fun {x m} hx => by
    obtain ⟨a1, a2⟩ := h.apart hx
    refine ⟨Nat.lt_of_lt_of_le hx.1 k2.size, fun q l hq hl => ?_⟩
    rw [World.cell?_of_block (w := wr) (k2.block x hx.1 fun e => e.elim a1 a2)]
    exact hx.2 q l hq hl
  refine ⟨?_, h2, (Below.heap_setCell _ _ _ _ (show w0.heap.size ≠ gp by omega)).trans (h.res.keep k1 fun hk => own_ne h.own h.res (by decide) _ hk rfl), ?_, ?_, fun e => by simp at e, fun i hi => ?_⟩
  · refine k2.below h.below h.below.size fun k hk => ?_
    rcases hk with hk | rfl
    · exact own_block h.own k hk
    · omega
  · have := (h.blk.keep k1 (fun hk => h.ne hk)).set_ 1 v'
    simpa using this
  · have e : (gs ++ [g]).length = gs.length + 1 := by simp
    rw [e]
    have := ownsRow_setCell_other (a := ⟨gp, 1, none⟩) hown hne' v'
    unfold ptrV at this ⊢
    rw [List.map_append]
    exact this
  · by_cases hlt : i < gs.length
    · obtain ⟨h', h3⟩ := h.mv i hlt
      refine ⟨h', ?_⟩
      rw [List.getElem_append_left hlt]
      exact hmk h3
    · obtain rfl : i = gs.length := by simp at hi; omega
      refine ⟨hl, ?_⟩
      rw [List.getElem_append_right (Nat.le_refl _)]
      simp only [Nat.sub_self, List.getElem_cons_zero]
      exact hmk hm
theorem MvAt.kp {K : Nat → Prop} {w w' : World} {g : Nat} {m : Nat → Nat → Nat} (h : MvAt w w.heap.size g m) (hk : KeepB K w w') (hg : ¬ K g) : MvAt w' w'.heap.size g m :=
  ⟨Nat.lt_of_lt_of_le h.1 hk.size, fun q l hq hl => by rw [World.cell?_of_block (w := w) (hk.block g h.1 hg)]; exact h.2 q l hq hl⟩
/-- What is left at the end: the moves, behind the store of the result. -/
theorem MvsSt.fin {w0 wr w' : World} {gp : Nat} {A : Option Addr} {n c : Nat} {v : Value} {ss : List Sy} {gs : List Nat} (h : MvsSt w0 wr gp A n c v ss gs) (hl : gs.length = ss.length) (hk : KeepB (fun b => b = w0.heap.size) wr w') : ∃ M cm, v = .slice M ss.length cm ∧ ss.length ≤ cm ∧ cm ≤ 9223372036854775807 ∧ MovesAt w' w'.heap.size M ss ∧ Below w0.heap.size w0 w' := by
  have hown := own_keep h.own hk fun g hg e => own_ne h.own h.res (by decide) g hg e
  obtain ⟨M, cm, hv, h1, h2⟩ := own_slice hown
  refine ⟨M, cm, by rw [hv, hl], by omega, h2, fun h0 => ?_, hk.below h.below h.below.size fun k e => by omega⟩
  obtain ⟨g', cap, hve, -, hlt, -, -, hcell⟩ := own_shape hown (by omega)
  rw [hv] at hve
  cases hve
  refine ⟨g', 0, rfl, hlt, fun i hi => ?_⟩
  obtain ⟨_, h4⟩ := h.mv i (by omega)
  refine ⟨gs[i]'(by omega), ?_, MvAt.kp h4 hk fun e => ?_⟩
  · rw [Nat.zero_add]
    have hz : (ptrV gs)[i]? = some (.pointer (some ⟨gs[i]'(by omega), 0, none⟩)) := by
      unfold ptrV
      rw [List.getElem?_map, List.getElem?_eq_getElem (by omega)]
      rfl
    have := hcell i _ hz
    simpa using this
  · have h5 := h4.2 0 0 (by omega) (by omega)
    have h6 := h.res.cell 0
    rw [e] at h5
    simp at h5 h6
    simp [h6] at h5

set_option maxRecDepth 100000 in
set_option maxHeartbeats 8000000 in
theorem newParts_any (ss : List Sy) (A : Option Addr) (c : Nat) (w : World) (hall : ss.all sysOk = true) (h3 : ss.length ≤ 3) (hl : ss.length ≤ c) (hc : c ≤ 9223372036854775807) (hr : SysAt w w.heap.size A ss) :
    Calls Tryd.prog 36 #[.slice A ss.length c] w fun e w' => ∃ (M : Option Addr) (cm : Nat), e = .returned (partsV A ss.length c M cm) ∧ ss.length ≤ cm ∧ cm ≤ 9223372036854775807 ∧ MovesAt w' w'.heap.size M ss ∧ Below w.heap.size w w' := by
  obtain ⟨i0, hi, hz0, hz1, hz2⟩ := info_parts infoPtrM
  replace hr := hid hr
  replace hall := hid hall
  obtain ⟨W0, hW0⟩ : ∃ W0, (w.alloc (.cells #[.slice none 0 0, .slice none 0 0] 63)).alloc (.cells #[.slice A ss.length c, .slice none 0 0] 63) = W0 := ⟨_, rfl⟩
  have hst0 : Hid (MvsSt w W0 (w.heap.size + 1) A ss.length c (.slice none 0 0) ss []) := hid (by
    rw [← hW0]
    refine ⟨((Below.refl _ _).alloc (Nat.le_refl _) _).alloc (by simp) _, by omega, (Blk.new _ _ _).alloc _, ?_, World.ownsRow_nil _ _ _ _, fun _ => rfl, fun i hi => absurd hi (by simp)⟩
    have := Blk.new (w.alloc (.cells #[.slice none 0 0, .slice none 0 0] 63)) 63 #[.slice A ss.length c, .slice none 0 0]
    simpa using this)
  replace hW0 := hid hW0
  go_enter Tryd.func36, Tryd.ntmps36
  go_wp2_with fail
  rw [hW0.out]
  clear hW0
  go_loopw [10] (fun iv wr => ∃ (v : Value) (gs : List Nat), iv = .int .i64 (gs.length : Nat) ∧ gs.length ≤ ss.length ∧ MvsSt w wr (w.heap.size + 1) A ss.length c v ss gs) (fun iv _ => ss.length - (intOf iv).toNat)
  case atStart => exact ⟨.slice none 0 0, [], rfl, Nat.zero_le _, hst0.out⟩
  case round =>
    clear hst0
    obtain ⟨v, gs, rfl, hi1, hst⟩ := hrel
    obtain ⟨Av, cv, rfl, hcv1, hcv2⟩ := own_slice hst.own
    by_cases hil : gs.length < ss.length
    · obtain ⟨b, o, Ai, ci, hAe, hbb, c0, c1, c2, hAl, hAc, hEd⟩ := (hr.out.later hst.below).get hil
      subst hAe
      have c0 := c0 wr (Below.refl _ _)
      have c1 := c1 wr (Below.refl _ _)
      have c2 := c2 wr (Below.refl _ _)
      have hin := hid (sysOk_in (List.all_eq_true.1 hall.out _ (List.getElem_mem hil)))
      obtain ⟨s, hs⟩ : ∃ s, Hid (s = ss[gs.length]) := ⟨_, hid rfl⟩
      rw [← hs.out] at c0 c1 c2 hAl hEd hin
      have k1 : (0 : Int) ≤ (gs.length : Int) ∧ (gs.length : Int) < (ss.length : Int) := by omega
      replace hEd := hid hEd
      replace hst := hid hst
      go_upto_region 5 with fail
      obtain ⟨w1, hw1, hz1', hB1, hS1⟩ := boxed wr #[.int .i64 s.al, .int .i64 s.st, .slice Ai s.es.length ci] 28
      rw [hw1]
      clear hw1
      have hst1 := hid (hst.out.later hB1)
      have hE1 := hid (EdsAt.later hEd.out hB1)
      have q0 := GK.BI.cell (hS1 0 _ rfl w1 (Below.refl _ _))
      have q1 := GK.BI.cell (hS1 1 _ rfl w1 (Below.refl _ _))
      have q2 := GK.BI.cell (hS1 2 _ rfl w1 (Below.refl _ _))
      have q3 := GK.BI.cell (show w1.cell? ⟨w.heap.size + 1, 1, none⟩ = some (.slice Av gs.length cv) from by have := hst1.out.blk.cell 1; simpa using this)
      clear hS1 c0 c1 c2
      refine GK.wp_region 5 [5, 6, 7] 200 (KeepB fun _ => False) (GK.BI w1) (fun _ u w' => ∃ g, u = .pointer (some ⟨g, 0, none⟩) ∧ MvAt w' w'.heap.size g (AG.mv s)) (by kernel_rfl) (by kernel_rfl) (GK.BI.way w1) (by decide) (Below.refl _ _).drew ?_
      simp only [List.take_succ_cons, List.take_zero]
      (repeat (refine GK.grow_quiet w1 (by rfl) (by rfl) ?_; intro K hK; go_big_quiet_op; go_big_quiet_on))
      refine GK.grow_call (by rfl) (fun u v v' hb h => ?_) (fun m wq hm hbq _ => ?_) fun u hu => ?_
      · obtain ⟨g, e, h⟩ := h
        exact ⟨g, e, MvAt.kp h hb fun h => h⟩
      · go_simp
        have hbq' : Below w1.heap.size w1 wq := hbq
        refine ⟨rfl, (movesOf_any s Ai ci wq hin.out hAl hAc (hE1.out.later hbq')).mono ?_⟩
        rintro e w3 ⟨g, rfl, hg, hb3⟩
        exact ⟨_, rfl, GK.BI.after hbq hb3, g, rfl, hg⟩
      obtain ⟨mx, wx, -, g, rfl, -⟩ := hu
      simp only [Act.put, List.setIfInBounds_toArray, List.set_cons_zero, List.set_cons_succ]
      refine GK.grow_new (K := fun _ => False) (by rfl) _ (fun b => .slice (some ⟨b, 0, none⟩) 1 1) 84 #[.pointer (some ⟨g, 0, none⟩)] (fun _ => by go_simp) rfl (fun _ _ o h => GK.BI.alloc o h) (fun _ _ h => GK.BI.size h) (fun _ h => h.elim) (fun b hb => ?_)
      simp only [Act.put, List.setIfInBounds_toArray, List.set_cons_zero, List.set_cons_succ]
      refine GK.grow_nil ?_
      intro w4 hw4 hf
      obtain ⟨g', hge, hge2, hblk⟩ := hf _ List.mem_cons_self
      cases hge
      obtain ⟨g2, e2, hmv⟩ := hf _ (List.mem_cons_of_mem _ List.mem_cons_self)
      cases e2
      clear hf q0 q1 q2 q3
      replace hw4 : Below w1.heap.size w1 w4 := hw4
      simp only [List.filterMap_cons, List.filterMap_nil, List.getElem?_cons_zero, List.getElem?_cons_succ]
      have hst4 := hid (hst1.out.later hw4)
      have z4 := hw4.size
      have hmv' := hid (show MvAt w4 w4.heap.size g (AG.mv ss[gs.length]) from by rw [← hs.out]; exact hmv)
      have hzz := hst4.out.below.size
      refine wpList_append_own_at _ (by rfl) _ _ 61 (by rfl) w.heap.size 84 i0 (.pointer none) 1 8 Tryd.underlying61 hi hz0 hz1 hz2 rfl (by decide) _ gs.length (ptrV gs) (by rfl) hst4.out.own ⟨b, 0, none⟩ 1 1 [.pointer (some ⟨g, 0, none⟩)] (by rfl) (by rfl) (World.news_of_block hblk) ?c1 ?c3 ?c4 ?c5 ?_
      case c1 => intro u hu; simp at hu; subst hu; rfl
      case c3 => unfold maxLen; omega
      case c4 => omega
      case c5 => omega
      intro v5 w5 hown5 hgrow hnil5 hat5
      obtain ⟨A5, c5, rfl, -, -⟩ := own_slice hown5
      have ag : (Value.slice Av gs.length cv).ownBlock ≠ some (w.heap.size + 1) := hst4.out.ne
      have hlt4 := hst4.out.blk.lt
      have c1' : w5.cell? ⟨w.heap.size + 1, 1, none⟩ = some (.slice Av gs.length cv) := by rw [hgrow.cell_far _ (by simpa using hlt4) (Ne.symm ag)]; have := hst4.out.blk.cell 1; simpa using this
      have f1' : w5.frozen? ⟨w.heap.size + 1, 1, none⟩ = false := by rw [hgrow.frozen_far _ (by simpa using hlt4) (Ne.symm ag)]; exact hst4.out.blk.frozen 1
      have h6 := hid (hst4.out.add hil hmv'.out hown5 hgrow hat5)
      replace hown5 := hid hown5
      replace hgrow := hid hgrow
      clear hnil5 hat5 hmv hblk
      go_wp2_with fail
      go_roundw
      case rel => exact ⟨_, gs ++ [g], by rw [List.length_append]; go_num, by rw [List.length_append]; simp; omega, h6.out⟩
      case measure => simp [intOf]; omega
    · have hle : gs.length = ss.length := by omega
      have r0 := hst.res.cell 0
      have r1 := hst.res.cell 1
      have f0 := hst.res.frozen 0
      have f1 := hst.res.frozen 1
      have p0 := hst.blk.cell 0
      have p1 := hst.blk.cell 1
      simp only [List.getElem?_toArray, List.getElem?_cons_zero, List.getElem?_cons_succ] at r0 r1 p0 p1
      replace hst := hid hst
      go_wp2_with fail
      obtain ⟨M, cm, hv, m1, m2, m3, m4⟩ := hst.out.fin hle (w' := (wr.setCell ⟨w.heap.size, 0, none⟩ (.slice A ss.length c)).setCell ⟨w.heap.size, 1, none⟩ (.slice Av ss.length cv)) (KeepB.setCell (K := fun b => b = w.heap.size) (KeepB.setCell (K := fun b => b = w.heap.size) (KeepB.refl _ wr) _ _ fun _ => rfl) _ _ fun _ => rfl)
      injection hv with hv1 hv2 hv3
      subst hv1
      subst hv3
      refine bodyPost_ret (v := partsV A ss.length c Av cv) (by simp [partsV, results, Tryd.results36, go_sem, r0, r1]) rfl ?_
      exact ⟨Av, cv, rfl, m1, m2, m3, m4⟩


end Go.Proofs.YtdkjnemakkppfaaDoor

/- The program's DeadlockOf. -/
namespace Go.Proofs.YtdkjnemakkppfaaDoor
open Go.RowKit Go.BigFrame AG

/-- Systems that run together, as the program keeps them: in a block, with their moves. -/
structure PartsAt (w : World) (bP : Nat) (ss : List Sy) (A M : Option Addr) (c cm : Nat) : Prop where
  tab : Tab w
  all : ss.all sysOk = true
  len3 : ss.length ≤ 3
  lc : ss.length ≤ c
  hc : c ≤ 9223372036854775807
  lm : ss.length ≤ cm
  hcm : cm ≤ 9223372036854775807
  sys : SysAt w w.heap.size A ss
  mvs : MovesAt w w.heap.size M ss
  c0 : w.cell? ⟨bP, 0, none⟩ = some (.slice A ss.length c)
  c1 : w.cell? ⟨bP, 1, none⟩ = some (.slice M ss.length cm)
theorem PartsAt.later {w w' : World} {bP : Nat} {ss : List Sy} {A M : Option Addr} {c cm : Nat} (h : PartsAt w bP ss A M c cm) (hb : Below w.heap.size w w') : PartsAt w' bP ss A M c cm :=
  ⟨h.tab.later hb, h.all, h.len3, h.lc, h.hc, h.lm, h.hcm, h.sys.later hb, h.mvs.later hb, (hb.cell (World.block_lt_of_cell? _ _ h.c0)).trans h.c0, (hb.cell (World.block_lt_of_cell? _ _ h.c1)).trans h.c1⟩



end Go.Proofs.YtdkjnemakkppfaaDoor

/- The program's ComposeSystems: its memory. -/
namespace Go.Proofs.YtdkjnemakkppfaaDoor
open Go.RowKit Go.BigFrame Go.Maps AG

/-- A list of nodes, other lists of numbers and a map of numbers, under way. -/
structure MaF (w0 wr : World) (B : Nat) (v : Value) (ps : List Nat) (m : Nat) (D : DataW Unit) (f : Nat → Option Nat) (fs : List NLeaf) : Prop where
  below : Below w0.heap.size w0 wr
  fam : FamG wr w0.heap.size (leafT (v, ps) :: fs.map leafT)
  map_ : wr.ownsMap Tryd.prog 3 (plainElem Tryd.prog 3) B m D
  ix : MapF D f
  geB : w0.heap.size ≤ B
section
variable {w0 wr w' w1 : World} {B m T q : Nat} {v v' vM : Value} {ps M : List Nat} {x : Nat} {o : Obj} {fs : List NLeaf} {D : DataW Unit} {f : Nat → Option Nat}
theorem MaF.later (h : MaF w0 wr B v ps m D f fs) (hb : Below wr.heap.size wr w') : MaF w0 w' B v ps m D f fs :=
  ⟨h.below.trans (hb.mono h.below.size), h.fam.later hb, h.map_.kept (grown_of_below hb) (by simp), h.ix, h.geB⟩
theorem MaF.own (h : MaF w0 wr B v ps m D f fs) : OwnNats wr w0.heap.size v ps := by
  have := h.fam.rows (leafT (v, ps)) List.mem_cons_self
  unfold leafT at this
  simp only [natVals_length] at this
  exact this
theorem MaF.ne (h : MaF w0 wr B v ps m D f fs) : v.ownBlock ≠ some B := fun e => own_ne_map (show wr.ownsRow w0.heap.size 3 1 v ps.length (natVals ps) from h.own) h.map_ B e rfl
theorem MaF.get (h : MaF w0 wr B v ps m D f fs) (hm : (vM, M) ∈ fs) : OwnNats wr w0.heap.size vM M := by
  have := h.fam.rows (leafT (vM, M)) (List.mem_cons_of_mem _ (List.mem_map.2 ⟨_, hm, rfl⟩))
  unfold leafT at this
  simp only [natVals_length] at this
  exact this
theorem MaF.app (h : MaF w0 wr B v ps m D f fs) (hg : (wr.alloc o).grownBy w1 v.ownBlock) (ho : w1.ownsRow w0.heap.size 3 1 v' (ps.length + 1) (natVals ps ++ [.int .i64 (x : Nat)])) (hat : v'.ownBlock = v.ownBlock ∨ v'.ownBlock = some (wr.alloc o).heap.size) : MaF w0 w1 B v' (ps ++ [x]) m D f fs := by
  have hkA : KeepB (fun b => v.ownBlock = some b) wr w1 := ((KeepB.refl _ wr).alloc o).grown hg fun k hk _ => hk
  have hb1 : Below wr.heap.size wr (wr.alloc o) := (Below.refl _ _).alloc (Nat.le_refl _) _
  have hF := (h.fam.later hb1).app0 (l1 := []) (f := leafT (v, ps)) (l2 := fs.map leafT) (v' := v') (ys' := natVals (ps ++ [x])) hg (by
    rw [natVals_length, List.length_append]
    unfold natVals at ho ⊢
    rw [List.map_append]
    exact ho) hat
  exact ⟨hkA.below h.below h.below.size fun b e => own_block h.own b e, hF, (h.map_.alloc o).kept hg fun e => h.ne e.symm, h.ix, h.geB⟩
theorem MaF.put (h : MaF w0 wr B v ps m D f fs) (hm : w1.ownsMap Tryd.prog 3 (plainElem Tryd.prog 3) B (m + 1) (D.put (.int .i64 (T : Int)) (.lit (.int .i64 ((q : Nat) : Int))))) (hg : wr.grownBy w1 (some B)) :
    MaF w0 w1 B v ps (m + 1) (D.put (.int .i64 (T : Int)) (.lit (.int .i64 ((q : Nat) : Int)))) (fun x => if x = T then some q else f x) fs := by
  have hkA : KeepB (fun b => b = B) wr w1 := (KeepB.refl _ wr).grown hg fun k hk _ => by injection hk with hk; exact hk.symm
  exact ⟨hkA.below h.below h.below.size fun b e => by rw [e]; exact h.geB, h.fam.keep hkA fun y hy g hg e => own_ne_map (h.fam.rows y hy) h.map_ g hg e, hm, h.ix.put T q, h.geB⟩
theorem MaF.add (h : MaF w0 wr B v ps m D f fs) (hb : Below wr.heap.size wr w') (ho : OwnNats w' wr.heap.size vM M) : MaF w0 w' B v ps m D f ((vM, M) :: fs) := by
  have hl := h.later hb
  refine ⟨hl.below, ?_, hl.map_, hl.ix, hl.geB⟩
  have := h.fam.add (t := 3) (v := vM) (ys := natVals M) hb h.below.size (by rw [natVals_length]; exact ho)
  exact this.perm (List.Perm.swap _ _ _)
theorem MaF.drop (h : MaF w0 wr B v ps m D f ((vM, M) :: fs)) : MaF w0 wr B v ps m D f fs := by
  refine ⟨h.below, ⟨fun y hy => h.fam.rows y ?_, ?_⟩, h.map_, h.ix, h.geB⟩
  · rcases List.mem_cons.1 hy with rfl | hy
    · exact List.mem_cons_self
    · exact List.mem_cons_of_mem _ (List.mem_cons_of_mem _ hy)
  · exact h.fam.apart.sublist (List.Sublist.cons_cons _ (List.Sublist.cons _ (List.Sublist.refl _)))
theorem MaF.fn (h : MaF w0 wr B v ps m D f fs) {g : Nat → Option Nat} (e : ∀ x, f x = g x) : MaF w0 wr B v ps m D g fs := ⟨h.below, h.fam, h.map_, h.ix.congr e, h.geB⟩
end

/-- The nodes to which a letter leads, asked of two systems that are kept as parts. -/
theorem nextTwo_any (ss : List Sy) (A M : Option Addr) (cm node l bP : Nat) (w : World) (hP : PartsAt w bP ss A M 2 cm) (h2 : ss.length = 2) (hl6 : l < 6) (hnode : node < 4096) :
    Calls Tryd.prog 38 #[.agg #[.slice A 2 2, .slice M 2 cm], .int .i64 (node : Nat), .int .i64 (l : Nat), .slice none 0 0] w fun e w' => ∃ v', e = .returned v' ∧ OwnNats w' w.heap.size v' (nxParts ss node l) ∧ Below w.heap.size w w' := by
  have h := partsNext_any ss A M 2 cm node l w.heap.size (.slice none 0 0) [] w hP.all hP.len3 hl6 hnode hP.lc hP.hc hP.lm hP.hcm (by simp) hP.tab hP.sys hP.mvs (Nat.le_refl _) (World.ownsRow_nil _ _ _ _)
  have e : partsV A ss.length 2 M cm = .agg #[.slice A 2 2, .slice M 2 cm] := by unfold partsV; rw [h2]
  rw [e] at h
  refine h.mono ?_
  rintro e w' ⟨v', h1, h3, hk⟩
  rw [List.nil_append] at h3
  exact ⟨v', h1, h3, hk.below (Below.refl _ _) (Nat.le_refl _) fun k h => by cases h⟩

end Go.Proofs.YtdkjnemakkppfaaDoor

/- What the program's ComposeSystems does behind its search: memory, and sorting. -/
namespace Go.Proofs.YtdkjnemakkppfaaDoor
open Go.RowKit Go.BigFrame Go.Maps AG

theorem sort_nats {ps qs : List Nat} (hp : ps.Perm qs) (hq : qs.Pairwise (· < ·)) : ((ps.map fun n : Nat => (n : Int)).mergeSort fun x y => decide (x ≤ y)) = qs.map fun n : Nat => (n : Int) := by
  refine List.Perm.eq_of_pairwise (le := fun a b : Int => a ≤ b) (fun a b _ _ h1 h2 => Int.le_antisymm h1 h2) ?_ ?_ ((List.mergeSort_perm _ _).trans (hp.map _))
  · have h := List.pairwise_mergeSort (le := fun x y : Int => decide (x ≤ y)) (fun a b c h1 h2 => by simp only [decide_eq_true_eq] at *; omega) (fun a b => by simp; omega) (ps.map fun n : Nat => (n : Int))
    exact h.imp fun h => of_decide_eq_true h
  · rw [List.pairwise_map]
    exact hq.imp fun h => by omega
theorem natVals_ints (ps : List Nat) : natVals ps = (ps.map fun n : Nat => (n : Int)).map (Value.int .i64) := by unfold natVals; rw [List.map_map]; rfl

section
open Go.Sort
/-- Behind the sort the list is sorted. -/
theorem MaF.sorted {w0 wr : World} {B m n g cap : Nat} {ps qs : List Nat} {D : DataW Unit} {f : Nat → Option Nat} {fs : List NLeaf} {os : Array Obj} (h : MaF w0 wr B (.slice (some ⟨g, 0, none⟩) ps.length cap) ps m D f fs) (hp : ps.Perm qs) :
    MaF w0 (grow (putRow (Value.int .i64) (Sort.ahead wr n) g 0 (qs.map fun n : Nat => (n : Int)).toArray) os) B (.slice (some ⟨g, 0, none⟩) qs.length cap) qs m D f fs := by
  have hg : wr.grownBy (grow (putRow (Value.int .i64) (Sort.ahead wr n) g 0 (qs.map fun n : Nat => (n : Int)).toArray) os) (some g) := grownBy_sortedI _
  have hk : KeepB (fun b => b = g) wr (grow (putRow (Value.int .i64) (Sort.ahead wr n) g 0 (qs.map fun n : Nat => (n : Int)).toArray) os) := (KeepB.refl _ wr).grown hg fun k hk _ => by injection hk with hk; exact hk.symm
  have ho := h.own
  have hlg : w0.heap.size ≤ g := (ho.lt g rfl).1
  have hown : (grow (putRow (Value.int .i64) (Sort.ahead wr n) g 0 (qs.map fun n : Nat => (n : Int)).toArray) os).ownsRow w0.heap.size 3 1 (.slice (some ⟨g, 0, none⟩) qs.length cap) (natVals qs).length (natVals qs) := by
    rcases ho.2 with ⟨h0, _⟩ | ⟨g', cap', cur, hv, hb, hh, h1, h2, h3, h4⟩
    · cases h0
    · cases hv
      have := ownsRow_sortedI (n := n) (os := os) (ss := ps.map fun n : Nat => (n : Int)) (ts := qs.map fun n : Nat => (n : Int)) (by simp [hp.length_eq]) hb hh (by simpa using h1) h2 h3
      rw [natVals_len, natVals_ints]
      simpa [hp.length_eq] using this
  have hF := h.fam.app0 (l1 := []) (f := leafT (.slice (some ⟨g, 0, none⟩) ps.length cap, ps)) (l2 := fs.map leafT) (v' := .slice (some ⟨g, 0, none⟩) qs.length cap) (ys' := natVals qs) hg hown (.inl rfl)
  exact ⟨hk.below h.below h.below.size fun b e => by rw [e]; exact hlg, hF, h.map_.kept hg fun e => h.ne e.symm, h.ix, h.geB⟩

/-- A slice of nodes that the call owns, as the sort reads it. -/
theorem MaF.holds {w0 wr : World} {B m : Nat} {v : Value} {ps : List Nat} {D : DataW Unit} {f : Nat → Option Nat} {fs : List NLeaf} (h : MaF w0 wr B v ps m D f fs) (hne : 0 < ps.length) :
    ∃ g cap, v = .slice (some ⟨g, 0, none⟩) ps.length cap ∧ g < wr.heap.size ∧ Holds (Value.int .i64) wr g 0 (ps.map fun n : Nat => (n : Int)).toArray := by
  rcases h.own.2 with ⟨_, h0⟩ | ⟨g, cap, cur, hv, hb, hh, h1, h2, h3, h4⟩
  · omega
  · exact ⟨g, cap, hv, (Array.getElem?_eq_some_iff.1 hh).1, holds_of_blockI hh (by rw [List.length_map, ← natVals_ints]; rw [Nat.mul_one] at h4; exact h4)⟩
end

/- Worlds that have only grown. -/
def Grew (w w' : World) : Prop := ∃ q os, w' = Go.Sort.grow (w.drewN q) os
theorem Grew.refl (w : World) : Grew w w := ⟨0, #[], by rw [Go.Sort.grow_empty]; rfl⟩
theorem Grew.trans {a b c : World} (h : Grew a b) (k : Grew b c) : Grew a c := by
  obtain ⟨q, os, rfl⟩ := h
  obtain ⟨q', os', rfl⟩ := k
  refine ⟨q + q', os ++ os', ?_⟩
  unfold Go.Sort.grow World.drewN
  simp [Array.append_assoc, Nat.add_assoc]
theorem Grew.alloc {a b : World} (h : Grew a b) (o : Obj) : Grew a (b.alloc o) := h.trans ⟨0, #[o], by rw [Go.Sort.alloc_eq_grow]; rfl⟩
theorem Grew.drew {a b : World} (h : Grew a b) : Grew a b.drew := h.trans ⟨1, #[], by rw [Go.Sort.grow_empty]; rfl⟩
theorem Grew.below {a b : World} (h : Grew a b) : Below a.heap.size a b := by
  obtain ⟨q, os, rfl⟩ := h
  refine ⟨rfl, rfl, rfl, by simp [Go.Sort.grow, World.drewN], fun k hk => ?_⟩
  unfold Go.Sort.grow World.drewN
  simp [Array.getElem?_append, hk]
def GwI (w0 : World) : Nat → World → Prop := fun _ w => Grew w0 w
theorem GwI.way (w0 : World) : AG.Way (KeepB fun _ => False) (GwI w0) := ⟨fun w => KeepB.refl _ w, fun _ _ _ h k => h.trans k, fun _ _ h => h⟩

/-- A map stays if its block stays. -/
theorem map_keep {K : Nat → Prop} {w w' : World} {R : Value → Option (DataW Unit × List MemPlace)} {k : TypeId} {b n : Nat} {D : DataW Unit} (h : w.ownsMap Tryd.prog k R b n D) (hk : KeepB K w w') (hb : ¬ K b) : w'.ownsMap Tryd.prog k R b n D := by
  have hlt := h.lt
  obtain ⟨es, clock, hh, F, hs, hD⟩ := h
  exact ⟨es, clock, (hk.block b hlt hb).trans hh, F, hs, hD⟩
theorem cell_keep {K : Nat → Prop} {w w' : World} {b o : Nat} {v : Value} (hk : KeepB K w w') (hb : ¬ K b) (h : w.cell? ⟨b, o, none⟩ = some v) : w'.cell? ⟨b, o, none⟩ = some v := by
  have hlt := World.block_lt_of_cell? _ _ h
  have e := hk.block b hlt hb
  rw [← h]
  simp only [World.cell?, e]
/-- The moves lie elsewhere than the system under way. -/
theorem MovesAt.kept {w w' : World} {gs : Nat} {T : TypeId} {x y : Int} {M : Option Addr} {ss : List Sy} (h : MovesAt w w.heap.size M ss) (hk : KeepB (fun b => b = gs) w w') (hB : Blk w gs T #[.int .i64 x, .int .i64 y, .slice none 0 0]) : MovesAt w' w'.heap.size M ss := fun hl => by
  obtain ⟨b, o, h1, h2, h3⟩ := h hl
  refine ⟨b, o, h1, Nat.lt_of_lt_of_le h2 hk.size, fun i hi => ?_⟩
  obtain ⟨g, h4, h5⟩ := h3 i hi
  have hbn : b ≠ gs := by
    rintro rfl
    rw [hB.cell] at h4
    rcases (show o + i = 0 ∨ o + i = 1 ∨ o + i = 2 ∨ 3 ≤ o + i by omega) with e | e | e | e
    · rw [e] at h4; simp at h4
    · rw [e] at h4; simp at h4
    · rw [e] at h4; simp at h4
    · rw [Array.getElem?_eq_none (by simpa using e)] at h4; cases h4
  have hgn : g ≠ gs := by
    rintro rfl
    have := h5.2 1 0 (by decide) (by decide)
    rw [hB.cell] at this
    simp at this
  exact ⟨g, cell_keep hk hbn h4, Nat.lt_of_lt_of_le h5.1 hk.size, fun q l hq hl => cell_keep hk hgn (h5.2 q l hq hl)⟩

/-- The edges under way: a block gs that was there, all else of what was there stays. -/
structure KSt (wK wr : World) (gs : Nat) (al st : Int) (v : Value) (es : List Ed) : Prop where
  blk : Blk wr gs 28 #[.int .i64 al, .int .i64 st, v]
  own : wr.ownsRow wK.heap.size 59 3 v es.length (edCells es)
  keep : KeepB (fun b => b = gs) wK wr
  low : gs < wK.heap.size
theorem KSt.later {wK wr w1 : World} {gs : Nat} {al st : Int} {v : Value} {es : List Ed} (h : KSt wK wr gs al st v es) (hb : Below wr.heap.size wr w1) : KSt wK w1 gs al st v es :=
  ⟨h.blk.below hb h.blk.lt, own_later h.own hb, h.keep.trans (.of_below hb), h.low⟩
theorem KSt.add {wK wr w1 : World} {gs gg cap : Nat} {al st : Int} {v : Value} {es : List Ed} {x : Ed} (h : KSt wK wr gs al st v es)
    (hown : w1.ownsRow wK.heap.size 59 3 (.slice (some ⟨gg, 0, none⟩) (es.length + 1) cap) (es.length + 1) (edCells es ++ [.int .i64 x.f, .int .i64 x.l, .int .i64 x.t])) (hg : wr.grownBy w1 v.ownBlock) :
    KSt wK (w1.setCell ⟨gs, 2, none⟩ (.slice (some ⟨gg, 0, none⟩) (es.length + 1) cap)) gs al st (.slice (some ⟨gg, 0, none⟩) (es.length + 1) cap) (es ++ [x]) := by
  have hne : v.ownBlock ≠ some gs := fun e => own_ne h.own h.blk (by decide) gs e rfl
  have hb1 : Blk w1 gs 28 #[.int .i64 al, .int .i64 st, v] := by
    have := hg.block gs h.blk.lt (Ne.symm hne)
    exact this.trans h.blk
  have hne2 : (Value.slice (some ⟨gg, 0, none⟩) (es.length + 1) cap).ownBlock ≠ some gs := fun e => own_ne hown hb1 (by decide) gs e rfl
  refine ⟨by simpa using hb1.set_ 2 (.slice (some ⟨gg, 0, none⟩) (es.length + 1) cap), ?_, ?_, h.low⟩
  · have e : (es ++ [x]).length = es.length + 1 := by simp
    rw [e, edCells_append]
    exact ownsRow_setCell_other hown hne2 _
  · refine KeepB.setCell (h.keep.grown hg fun k hk hlt => ?_) _ _ fun _ => rfl
    have := (h.own.lt k hk).1
    omega
/-- .. and a list of nodes that is gone through. -/
structure KSt2 (wK wr : World) (gs : Nat) (al st : Int) (v : Value) (es : List Ed) (mv : Value) (M : List Nat) : Prop where
  so : KSt wK wr gs al st v es
  mem : OwnNats wr wK.heap.size mv M
theorem KSt2.later {wK wr w1 : World} {gs : Nat} {al st : Int} {v mv : Value} {es : List Ed} {M : List Nat} (h : KSt2 wK wr gs al st v es mv M) (hb : Below wr.heap.size wr w1) : KSt2 wK w1 gs al st v es mv M := ⟨h.so.later hb, own_later h.mem hb⟩
theorem KSt2.add {wK wr w1 : World} {gs gg cap : Nat} {al st : Int} {v mv : Value} {es : List Ed} {M : List Nat} {x : Ed} (h : KSt2 wK wr gs al st v es mv M)
    (hown : w1.ownsRow wK.heap.size 59 3 (.slice (some ⟨gg, 0, none⟩) (es.length + 1) cap) (es.length + 1) (edCells es ++ [.int .i64 x.f, .int .i64 x.l, .int .i64 x.t])) (hg : wr.grownBy w1 v.ownBlock) :
    KSt2 wK (w1.setCell ⟨gs, 2, none⟩ (.slice (some ⟨gg, 0, none⟩) (es.length + 1) cap)) gs al st (.slice (some ⟨gg, 0, none⟩) (es.length + 1) cap) (es ++ [x]) mv M := by
  refine ⟨h.so.add hown hg, ?_⟩
  have k2 : KeepB (fun b => v.ownBlock = some b ∨ b = gs) wr (w1.setCell ⟨gs, 2, none⟩ (.slice (some ⟨gg, 0, none⟩) (es.length + 1) cap)) := ((((KeepB.refl _ wr).grown hg (fun k hk _ => hk)).mono fun _ h => .inl h).setCell _ _ fun _ => .inr rfl)
  exact own_keep h.mem k2 fun g hg hk => by
    rcases hk with hk | hk
    · exact own_ne_own h.mem h.so.own (by decide) g g hg hk rfl
    · exact own_ne h.mem h.so.blk (by decide) g hg hk

end Go.Proofs.YtdkjnemakkppfaaDoor

/-
  DERIVED: THE SHELF's CONTRACTS AT THIS DUMP, IN PLAIN WORDS (tools/lay-plain.mjs out of 'YtdkjnemakkppfaaDoorShelfRaw.lean', which tools/lay-shelf.mjs wrote): THE SAME DECLARATIONS UNDER THE SAME NAMES: 'import', 'namespace', 'open', 'def', 'theorem' AND NOTHING ELSE: no command of the shelf's: FOR A HAND-IN. Each laying: the table of numbers ('.._ren') and one theorem, a field a fact of the dump's own or the kernel's comparison; each contract: ONE APPLICATION.
-/
namespace Go.Proofs
open Go.Shelf
def Tryd.laysSort_ren : Go.Shelf.Ren := ⟨fun | 189 => 39 | 125 => 77 | 257 => 76 | 128 => 105 | 129 => 106 | 294 => 96 | 295 => 97 | 296 => 98 | 297 => 99 | 298 => 100 | 299 => 101 | 216 => 102 | 300 => 103 | 301 => 104 | 328 => 128 | 329 => 129 | 330 => 130 | 331 => 131 | 332 => 132 | 215 => 115 | 343 => 139 | n => n, fun | 28 => 48 | 3 => 3 | 46 => 107 | 0 => 0 | 51 => 135 | 53 => 137 | 4 => 4 | 183 => 129 | 182 => 128 | 131 => 67 | 5 => 5 | 9 => 9 | 218 => 150 | 222 => 154 | 228 => 160 | 229 => 161 | n => n, fun | n => n⟩
theorem Tryd.laysSort : Go.Proofs.Lays.n189 Tryd.prog Tryd.laysSort_ren := {
  mixed := by kernel_rfl
  f125 := Tryd.func77.trans (congrArg some (by kernel_rfl))
  f128 := Tryd.func105.trans (congrArg some (by kernel_rfl))
  f129 := Tryd.func106.trans (congrArg some (by kernel_rfl))
  f189 := Tryd.func39.trans (congrArg some (by kernel_rfl))
  f215 := Tryd.func115.trans (congrArg some (by kernel_rfl))
  f216 := Tryd.func102.trans (congrArg some (by kernel_rfl))
  f257 := Tryd.func76.trans (congrArg some (by kernel_rfl))
  f294 := Tryd.func96.trans (congrArg some (by kernel_rfl))
  f295 := Tryd.func97.trans (congrArg some (by kernel_rfl))
  f296 := Tryd.func98.trans (congrArg some (by kernel_rfl))
  f297 := Tryd.func99.trans (congrArg some (by kernel_rfl))
  f298 := Tryd.func100.trans (congrArg some (by kernel_rfl))
  f299 := Tryd.func101.trans (congrArg some (by kernel_rfl))
  f300 := Tryd.func103.trans (congrArg some (by kernel_rfl))
  f301 := Tryd.func104.trans (congrArg some (by kernel_rfl))
  f328 := Tryd.func128.trans (congrArg some (by kernel_rfl))
  f329 := Tryd.func129.trans (congrArg some (by kernel_rfl))
  f330 := Tryd.func130.trans (congrArg some (by kernel_rfl))
  f331 := Tryd.func131.trans (congrArg some (by kernel_rfl))
  f332 := Tryd.func132.trans (congrArg some (by kernel_rfl))
  f343 := Tryd.func139.trans (congrArg some (by kernel_rfl))
  t0 := Tryd.underlying0
  a0 := Tryd.isAgg0
  z0 := Tryd.sizeOf0
  v0 := Tryd.zeroValue0
  t3 := Tryd.underlying3
  a3 := Tryd.isAgg3
  z3 := Tryd.sizeOf3
  v3 := Tryd.zeroValue3
  t4 := Tryd.underlying4
  a4 := Tryd.isAgg4
  z4 := Tryd.sizeOf4
  v4 := Tryd.zeroValue4
  t5 := Tryd.underlying5
  a5 := Tryd.isAgg5
  z5 := Tryd.sizeOf5
  v5 := Tryd.zeroValue5
  t9 := Tryd.underlying9
  a9 := Tryd.isAgg9
  z9 := Tryd.sizeOf9
  v9 := Tryd.zeroValue9
  t28 := Tryd.underlying48
  a28 := Tryd.isAgg48
  z28 := Tryd.sizeOf48
  v28 := Tryd.zeroValue48
  t46 := Tryd.underlying107
  a46 := Tryd.isAgg107
  z46 := Tryd.sizeOf107
  v46 := Tryd.zeroValue107
  t51 := Tryd.underlying135
  a51 := Tryd.isAgg135
  z51 := Tryd.sizeOf135
  v51 := Tryd.zeroValue135
  t53 := Tryd.underlying137
  a53 := Tryd.isAgg137
  z53 := Tryd.sizeOf137
  v53 := Tryd.zeroValue137
  t131 := Tryd.underlying67
  a131 := Tryd.isAgg67
  z131 := Tryd.sizeOf67
  v131 := Tryd.zeroValue67
  t182 := Tryd.underlying128
  a182 := Tryd.isAgg128
  z182 := Tryd.sizeOf128
  v182 := Tryd.zeroValue128
  t183 := Tryd.underlying129
  a183 := Tryd.isAgg129
  z183 := Tryd.sizeOf129
  v183 := Tryd.zeroValue129
  t218 := Tryd.underlying150
  a218 := Tryd.isAgg150
  z218 := Tryd.sizeOf150
  v218 := Tryd.zeroValue150
  t222 := Tryd.underlying154
  a222 := Tryd.isAgg154
  z222 := Tryd.sizeOf154
  v222 := Tryd.zeroValue154
  t228 := Tryd.underlying160
  a228 := Tryd.isAgg160
  z228 := Tryd.sizeOf160
  v228 := Tryd.zeroValue160
  t229 := Tryd.underlying161
  a229 := Tryd.isAgg161
  z229 := Tryd.sizeOf161
  v229 := Tryd.zeroValue161 }
def Tryd.laysSortF_ren : Go.Shelf.Ren := ⟨fun | 6 => 40 | 15 => 77 | 14 => 78 | 28 => 105 | 29 => 106 | 20 => 107 | 21 => 108 | 22 => 109 | 23 => 110 | 24 => 111 | 25 => 112 | 26 => 113 | 27 => 114 | 46 => 133 | 47 => 129 | 48 => 130 | 49 => 134 | 50 => 135 | 57 => 140 | n => n, fun | 22 => 26 | 24 => 59 | 25 => 70 | 3 => 3 | 39 => 107 | 0 => 0 | 53 => 135 | 55 => 137 | 4 => 4 | 46 => 129 | 45 => 128 | 50 => 67 | 5 => 5 | 9 => 9 | 66 => 150 | 70 => 154 | 76 => 160 | 77 => 161 | n => n, fun | n => n⟩
theorem Tryd.laysSortF : Go.Proofs.SlLaysF0.n6 Tryd.prog Tryd.laysSortF_ren := {
  mixed := by kernel_rfl
  f6 := ⟨Tryd.f40.name, by decide, Tryd.func40.trans (congrArg some (by kernel_rfl))⟩
  f14 := ⟨Tryd.f78.name, by decide, Tryd.func78.trans (congrArg some (by kernel_rfl))⟩
  f15 := Tryd.func77.trans (congrArg some (by kernel_rfl))
  f20 := ⟨Tryd.f107.name, by decide, Tryd.func107.trans (congrArg some (by kernel_rfl))⟩
  f21 := ⟨Tryd.f108.name, by decide, Tryd.func108.trans (congrArg some (by kernel_rfl))⟩
  f22 := ⟨Tryd.f109.name, by decide, Tryd.func109.trans (congrArg some (by kernel_rfl))⟩
  f23 := ⟨Tryd.f110.name, by decide, Tryd.func110.trans (congrArg some (by kernel_rfl))⟩
  f24 := ⟨Tryd.f111.name, by decide, Tryd.func111.trans (congrArg some (by kernel_rfl))⟩
  f25 := ⟨Tryd.f112.name, by decide, Tryd.func112.trans (congrArg some (by kernel_rfl))⟩
  f26 := ⟨Tryd.f113.name, by decide, Tryd.func113.trans (congrArg some (by kernel_rfl))⟩
  f27 := ⟨Tryd.f114.name, by decide, Tryd.func114.trans (congrArg some (by kernel_rfl))⟩
  f28 := Tryd.func105.trans (congrArg some (by kernel_rfl))
  f29 := Tryd.func106.trans (congrArg some (by kernel_rfl))
  f46 := ⟨Tryd.f133.name, by decide, Tryd.func133.trans (congrArg some (by kernel_rfl))⟩
  f47 := Tryd.func129.trans (congrArg some (by kernel_rfl))
  f48 := Tryd.func130.trans (congrArg some (by kernel_rfl))
  f49 := ⟨Tryd.f134.name, by decide, Tryd.func134.trans (congrArg some (by kernel_rfl))⟩
  f50 := ⟨Tryd.f135.name, by decide, Tryd.func135.trans (congrArg some (by kernel_rfl))⟩
  f57 := ⟨Tryd.f140.name, by decide, Tryd.func140.trans (congrArg some (by kernel_rfl))⟩
  t0 := Tryd.underlying0
  a0 := Tryd.isAgg0
  z0 := Tryd.sizeOf0
  v0 := Tryd.zeroValue0
  t3 := Tryd.underlying3
  a3 := Tryd.isAgg3
  z3 := Tryd.sizeOf3
  v3 := Tryd.zeroValue3
  t4 := Tryd.underlying4
  a4 := Tryd.isAgg4
  z4 := Tryd.sizeOf4
  v4 := Tryd.zeroValue4
  t5 := Tryd.underlying5
  a5 := Tryd.isAgg5
  z5 := Tryd.sizeOf5
  v5 := Tryd.zeroValue5
  t9 := Tryd.underlying9
  a9 := Tryd.isAgg9
  z9 := Tryd.sizeOf9
  v9 := Tryd.zeroValue9
  t22 := Tryd.underlying26
  a22 := Tryd.isAgg26
  z22 := Tryd.sizeOf26
  v22 := Tryd.zeroValue26
  t25 := Tryd.underlying70
  a25 := Tryd.isAgg70
  z25 := Tryd.sizeOf70
  v25 := Tryd.zeroValue70
  t39 := Tryd.underlying107
  a39 := Tryd.isAgg107
  z39 := Tryd.sizeOf107
  v39 := Tryd.zeroValue107
  t45 := Tryd.underlying128
  a45 := Tryd.isAgg128
  z45 := Tryd.sizeOf128
  v45 := Tryd.zeroValue128
  t46 := Tryd.underlying129
  a46 := Tryd.isAgg129
  z46 := Tryd.sizeOf129
  v46 := Tryd.zeroValue129
  t50 := Tryd.underlying67
  a50 := Tryd.isAgg67
  z50 := Tryd.sizeOf67
  v50 := Tryd.zeroValue67
  t53 := Tryd.underlying135
  a53 := Tryd.isAgg135
  z53 := Tryd.sizeOf135
  v53 := Tryd.zeroValue135
  t55 := Tryd.underlying137
  a55 := Tryd.isAgg137
  z55 := Tryd.sizeOf137
  v55 := Tryd.zeroValue137
  t66 := Tryd.underlying150
  a66 := Tryd.isAgg150
  z66 := Tryd.sizeOf150
  v66 := Tryd.zeroValue150
  t70 := Tryd.underlying154
  a70 := Tryd.isAgg154
  z70 := Tryd.sizeOf154
  v70 := Tryd.zeroValue154
  t76 := Tryd.underlying160
  a76 := Tryd.isAgg160
  z76 := Tryd.sizeOf160
  v76 := Tryd.zeroValue160
  t77 := Tryd.underlying161
  a77 := Tryd.isAgg161
  z77 := Tryd.sizeOf161
  v77 := Tryd.zeroValue161 }
end Go.Proofs

/- The comparison of edges; a list of edges that lies in order is sorted in place. -/
namespace Go.Proofs.YtdkjnemakkppfaaDoor
open Go.RowKit Go.BigFrame Go.Maps AG

theorem GwI.fam (w0 x : World) : Grew w0 (GK.FamI (GK.Upto (GwI w0) 200) w0 x) := by
  obtain ⟨_, _, h⟩ := GK.FamI.is (J := GK.Upto (GwI w0) 200) (w1 := w0) ⟨0, by omega, Grew.refl _⟩ x
  exact h
theorem GwI.cell {w0 : World} {b o : Nat} {v : Value} (h : w0.cell? ⟨b, o, none⟩ = some v) (x : World) : (GK.FamI (GK.Upto (GwI w0) 200) w0 x).cell? ⟨b, o, none⟩ = some v := by
  rw [((GwI.fam w0 x).below).cell (World.block_lt_of_cell? _ _ h)]
  exact h

/-- The nodes are sorted. -/
theorem MaF.sort_any {w0 wr : World} {B m : Nat} {v : Value} {ps qs : List Nat} {D : DataW Unit} {fs : List NLeaf} (h : MaF w0 wr B v ps m D (memF ps) fs) (h0 : 0 < ps.length) (h1 : ps.length ≤ 4096) (hp : ps.Perm qs) (hq : qs.Pairwise (· < ·)) :
    Calls Tryd.prog 39 #[v] wr fun e w' => e = .returned (.tuple #[]) ∧ MaF w0 w' B v qs m D (memF qs) fs := by
  obtain ⟨g, cap, rfl, hg, hH⟩ := h.holds h0
  have hs : Calls Tryd.prog 39 #[.slice (some ⟨g, 0, none⟩) (ps.map fun n : Nat => (n : Int)).length cap] wr _ := Any.slices_Sort_int Tryd.laysSort g 0 cap (ps.map fun n : Nat => (n : Int)) wr hH hg (by simp; omega)
  rw [List.length_map, sort_nats hp hq] at hs
  refine hs.mono ?_
  rintro e w' ⟨rfl, n, os, rfl⟩
  refine ⟨rfl, ?_⟩
  have h2 := (h.sorted (n := n) (os := os) hp).fn (g := memF qs) fun x => by unfold memF; simp only [hp.mem_iff]
  rw [← hp.length_eq] at h2
  exact h2

set_option maxHeartbeats 1000000 in
theorem compareEdges_grew (a b : Ed) (w : World) :
    Calls Tryd.prog 41 #[a.val, b.val] w fun e w' => e = .returned (.int .i64 (cmpE a b)) ∧ Grew w w' := by
  unfold Ed.val
  go_enter Tryd.func41, Tryd.ntmps41
  go_wp2_with fail
  obtain ⟨w0, hw0, hz0, hB0, hx, hy⟩ := boxed2 w #[Value.int IntKind.i64 a.f, Value.int IntKind.i64 a.l, Value.int IntKind.i64 a.t] 59 #[Value.int IntKind.i64 b.f, Value.int IntKind.i64 b.l, Value.int IntKind.i64 b.t] 59
  have hG0 : Grew w w0 := by rw [← hw0]; exact ((Grew.refl w).alloc _).alloc _
  have x0 := GwI.cell (hx 0 _ rfl _ (Below.refl _ _))
  have x1 := GwI.cell (hx 1 _ rfl _ (Below.refl _ _))
  have x2 := GwI.cell (hx 2 _ rfl _ (Below.refl _ _))
  have y0 := GwI.cell (hy 0 _ rfl _ (Below.refl _ _))
  have y1 := GwI.cell (hy 1 _ rfl _ (Below.refl _ _))
  have y2 := GwI.cell (hy 2 _ rfl _ (Below.refl _ _))
  clear hx hy
  rw [hw0]
  clear hw0 hB0
  refine GK.wp_region 15 [15, 16, 17] 200 (KeepB fun _ => False) (GwI w0) (fun i u _ => if i = 4 then u = .int .i64 (cmpI a.f b.f) else if i = 9 then u = .int .i64 (cmpI a.l b.l) else u = .int .i64 (cmpI a.t b.t)) (by kernel_rfl) (by kernel_rfl) (GwI.way w0) (by decide) (Grew.refl _).drew ?_
  simp only [List.take_succ_cons, List.take_zero]
  (repeat (refine GK.grow_quiet w0 (by rfl) (by rfl) ?_; intro K hK; go_big_quiet_op; go_big_quiet_on))
  refine GK.grow_val (.int .i64 (cmpI a.f b.f)) (by rfl) rfl (fun m wq hm hbq _ => ?_) ?_
  · go_simp
    exact ⟨rfl, (compareInt_any _ _ _).mono fun e w' ⟨h1, h2⟩ => ⟨h1, by subst h2; exact ⟨KeepB.refl _ _, hbq⟩⟩⟩
  simp only [Act.put, List.setIfInBounds_toArray, List.set_cons_zero, List.set_cons_succ]
  (repeat (refine GK.grow_quiet w0 (by rfl) (by rfl) ?_; intro K hK; go_big_quiet_op; go_big_quiet_on))
  refine GK.grow_val (.int .i64 (cmpI a.l b.l)) (by rfl) rfl (fun m wq hm hbq _ => ?_) ?_
  · go_simp
    exact ⟨rfl, (compareInt_any _ _ _).mono fun e w' ⟨h1, h2⟩ => ⟨h1, by subst h2; exact ⟨KeepB.refl _ _, hbq⟩⟩⟩
  simp only [Act.put, List.setIfInBounds_toArray, List.set_cons_zero, List.set_cons_succ]
  (repeat (refine GK.grow_quiet w0 (by rfl) (by rfl) ?_; intro K hK; go_big_quiet_op; go_big_quiet_on))
  refine GK.grow_val (.int .i64 (cmpI a.t b.t)) (by rfl) rfl (fun m wq hm hbq _ => ?_) ?_
  · go_simp
    exact ⟨rfl, (compareInt_any _ _ _).mono fun e w' ⟨h1, h2⟩ => ⟨h1, by subst h2; exact ⟨KeepB.refl _ _, hbq⟩⟩⟩
  simp only [Act.put, List.setIfInBounds_toArray, List.set_cons_zero, List.set_cons_succ]
  refine GK.grow_nil ?_
  intro w2 hw2 hf
  clear hf x0 x1 x2 y0 y1 y2
  simp only [List.filterMap_cons, List.filterMap_nil, List.getElem?_cons_zero, List.getElem?_cons_succ]
  replace hw2 : Grew w0 w2 := hw2
  go_wp2_with (go_at_call 79; refine (orInt_any (cmpI a.f b.f) (cmpI a.l b.l) (cmpI a.t b.t) _ _ (by simp) (by simp) (by simp)).mono ?_; rintro e w1 ⟨rfl, rfl⟩)
  go_ret
  exact ⟨rfl, hG0.trans (hw2.alloc _)⟩

instance : Inhabited Ed := ⟨⟨0, 0, 0⟩⟩
def encE (e : Ed) : List Value := [.int .i64 e.f, .int .i64 e.l, .int .i64 e.t]
theorem ltOf_cmpE (x y : Ed) : ltOf cmpE x y = edgeLt x y := by
  unfold ltOf
  have := cmpE_ge x y
  cases h : edgeLt x y
  · rw [h] at this; simp at this; simp; omega
  · rw [h] at this; simp at this; simp; omega
theorem edgeLt_iff (a b : Ed) : edgeLt a b = true ↔ a.f < b.f ∨ a.f = b.f ∧ (a.l < b.l ∨ a.l = b.l ∧ a.t < b.t) := by
  unfold edgeLt
  split
  · rw [decide_eq_true_iff]; omega
  · split
    · rw [decide_eq_true_iff]; omega
    · rw [decide_eq_true_iff]; omega
theorem edgeLt_no (a b : Ed) : edgeLt a b = false ↔ ¬ (a.f < b.f ∨ a.f = b.f ∧ (a.l < b.l ∨ a.l = b.l ∧ a.t < b.t)) := by
  rw [← edgeLt_iff]; simp
theorem swoE : Go.Sort.SWO (ltOf cmpE) where
  irrefl x := by rw [ltOf_cmpE, edgeLt_no]; omega
  trans x y z h1 h2 := by rw [ltOf_cmpE, edgeLt_iff] at *; omega
  ntrans x y z h1 h2 := by rw [ltOf_cmpE, edgeLt_no] at *; omega
theorem totE (x y : Ed) (h1 : ltOf cmpE x y = false) (h2 : ltOf cmpE y x = false) : x = y := by
  rw [ltOf_cmpE, edgeLt_no] at h1 h2
  obtain ⟨a, b, c⟩ := x
  obtain ⟨a', b', c'⟩ := y
  simp only at h1 h2
  have e1 : a = a' := by omega
  have e2 : b = b' := by omega
  have e3 : c = c' := by omega
  rw [e1, e2, e3]

section
open Go.Sort Go.Shelf
theorem frozen_zero {w : World} {g : Nat} {cur : Array Value} {e : TypeId} (h : w.heap[g]? = some (.cells cur e (0, 0))) (i : Nat) : w.frozen? ⟨g, i, none⟩ = false := by simp [World.frozen?, h]
theorem holdsE {w : World} {B g cap : Nat} {es : List Ed} (h : OwnEds w B (.slice (some ⟨g, 0, none⟩) es.length cap) es) (h0 : 0 < es.length) : g < w.heap.size ∧ HoldsK encE 3 w g 0 es.toArray := by
  obtain ⟨A, c, e, -, -, hE, -⟩ := h.read
  cases e
  obtain ⟨b, o, e, hb, hc⟩ := hE h0
  cases e
  refine ⟨hb, fun j hj => ?_⟩
  rw [size_flatK] at hj
  have hsz : es.toArray.size = es.length := by simp
  rw [hsz] at hj
  have hq : j / 3 < es.length := by omega
  have hr : j % 3 = 0 ∨ j % 3 = 1 ∨ j % 3 = 2 := by omega
  have hje : j = 0 + j / 3 * 3 + j % 3 := by omega
  obtain ⟨h1, h2, h3⟩ := hc (j / 3) hq
  have hget : (es.toArray)[j / 3]! = es[j / 3] := by rw [getElem!_pos _ _ (by simpa using hq)]; simp
  constructor
  · rw [get_flatK _ _ _ _ (by rw [hsz]; exact hj), hget, Nat.zero_add]
    rcases hr with e | e | e
    · rw [e]
      have : w.cell? ⟨g, j, none⟩ = w.cell? ⟨g, 0 + j / 3 * 3, none⟩ := by congr 2; omega
      rw [this, h1]; rfl
    · rw [e]
      have : w.cell? ⟨g, j, none⟩ = w.cell? ⟨g, 0 + j / 3 * 3 + 1, none⟩ := by congr 2; omega
      rw [this, h2]; rfl
    · rw [e]
      have : w.cell? ⟨g, j, none⟩ = w.cell? ⟨g, 0 + j / 3 * 3 + 2, none⟩ := by congr 2; omega
      rw [this, h3]; rfl
  · rcases h.2 with ⟨h4, _⟩ | ⟨g', cap', cur, hv, _, hh, _⟩
    · cases h4
    · cases hv
      exact frozen_zero hh _
theorem cmpLaysE (blk off size : Nat) (w : World) : CmpLays Tryd.prog 41 #[] encE 3 cmpE blk off size w := fun m os dk _ x y => by
  have h := compareEdges_grew x y (sortWorldK encE 3 w blk off m dk os)
  exact h.mono fun e w' ⟨h1, q, os', h2⟩ => ⟨h1, q, os', h2⟩

set_option maxHeartbeats 1000000 in
/-- Edges that lie in order stay. -/
theorem sortEdges_any (es : List Ed) (v : Value) (B : Nat) (w : World) (h : OwnEds w B v es) (hn : es.length ≤ 1000000) (hs : es.Pairwise fun a b => edgeLt a b = true) :
    Calls Tryd.prog 40 #[v, .func (.func 41) #[] #[]] w fun e w' => e = .returned (.tuple #[]) ∧ Below w.heap.size w w' := by
  by_cases h0 : 0 < es.length
  · rcases h.2 with ⟨_, h4⟩ | ⟨g, cap, cur, rfl, hb, hh, h1, h2, h3, h4⟩
    · omega
    · obtain ⟨hg, hH⟩ := holdsE h h0
      have hsz : es.toArray.size = es.length := by simp
      have eg : ∀ args w, (callFunc 41 args).run Tryd.prog w = .ok (.enter 41 args) w := enters_of Tryd.func41 (by kernel_rfl) rfl
      have hc : Calls Tryd.prog 40 #[.slice (some ⟨g, 0, none⟩) es.toArray.size cap, .func (.func 41) #[] #[]] w _ := AnyQ.slices_SortFunc_total Tryd.laysSortF 3 Tryd.isAgg59 Tryd.sizeOf59 encE (fun _ => rfl) (fun x v hv => by simp [encE] at hv; rcases hv with rfl | rfl | rfl <;> rfl) cmpE swoE 41 #[] g 0 cap es.toArray w eg (cmpLaysE g 0 _ w) hH hg (by rw [hsz]; omega) totE
      rw [hsz] at hc
      refine hc.mono ?_
      rintro e w' ⟨rfl, n, os, rfl⟩
      refine ⟨rfl, ?_⟩
      have e1 : (es.toArray.toList.mergeSort fun x y => !(ltOf cmpE) y x) = es := by
        refine List.mergeSort_of_pairwise (hs.imp fun {a b} h => ?_)
        rw [ltOf_cmpE]
        cases hba : edgeLt b a
        · rfl
        · exact (edgeLt_asymm h hba).elim
      rw [e1]
      unfold sortWorldK
      rw [putRowK_self _ _ _ _ _ _ (holdsK_ahead encE 3 w n g 0 es.toArray hH)]
      exact Grew.below ⟨n, os, rfl⟩
  · obtain ⟨A, c, rfl, -, -⟩ := own_slice h
    have e0 : es.length = 0 := by omega
    rw [e0]
    have hc : Calls Tryd.prog 40 #[.slice A 0 c, .func (.func 41) #[] #[]] w _ := AnyF.slices_SortFunc_none Tryd.laysSortF A c _ w
    refine hc.mono ?_
    rintro e w' ⟨rfl, rfl⟩
    exact ⟨rfl, Below.refl _ _⟩
end

end Go.Proofs.YtdkjnemakkppfaaDoor
