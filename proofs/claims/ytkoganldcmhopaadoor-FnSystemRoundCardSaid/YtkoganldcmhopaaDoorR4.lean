/- Lemmas, part 4: several texts in one. -/
import Derived.Test.YtkoganldcmhopaaDoorR3
import Derived.BigRegion
import Derived.RegionTactic
import Derived.Test.YtkoganldcmhopaaDoorR1
import Derived.Test.YtkoganldcmhopaaDoorR2
import Derived.Maps.Own
import Derived.Maps.OwnOps
import Derived.Maps.Range
import Derived.Maps.RangeWalk
import Derived.Maps.Views
import Derived.Deep.DeepCutAuto
set_option linter.unusedSimpArgs false
set_option linter.unusedVariables false

/- The library's slices.Reverse at bytes; the program's pathWord. -/
namespace Go.Proofs.YtkoganldcmhopaaDoor
open Go.RowKit Go.BigFrame AG

/-- xs with its first k and its last k elements exchanged. -/
def revTo (xs : List Nat) (k p : Nat) : Option Value := (if p < k ∨ xs.length ≤ p + k then xs[xs.length - 1 - p]? else xs[p]?).map fun b => Value.int .u8 (b : Nat)
theorem revTo_at {xs : List Nat} {k p : Nat} (h : ¬ (p < k ∨ xs.length ≤ p + k)) (hp : p < xs.length) : revTo xs k p = some (.int .u8 (xs[p] : Nat)) := by unfold revTo; rw [if_neg h]; simp [hp]
theorem revTo_swap {xs : List Nat} {k p : Nat} (h : p < k ∨ xs.length ≤ p + k) (q : Nat) (hq : q < xs.length) (e : xs.length - 1 - p = q) : revTo xs k p = some (.int .u8 (xs[q] : Nat)) := by unfold revTo; rw [if_pos h, e]; simp [hq]

theorem grown_two {w : World} {g : Nat} (i j : Nat) (u v : Value) : w.grownBy ((w.setCell ⟨g, i, none⟩ u).setCell ⟨g, j, none⟩ v).drew (some g) :=
  ⟨rfl, rfl, rfl, by simp, fun k _ hne => by
    have hk : k ≠ g := fun e => hne (by rw [e])
    show ((w.setCell ⟨g, i, none⟩ u).setCell ⟨g, j, none⟩ v).heap[k]? = _
    rw [Below.heap_setCell _ _ _ _ hk, Below.heap_setCell _ _ _ _ hk]⟩

set_option maxRecDepth 100000 in
set_option maxHeartbeats 2000000 in
theorem reverseBytes_any (g n c : Nat) (xs : List Nat) (cs : Array Value) (w : World) (hx : xs.length = n) (hn : n ≤ c) (hc : c ≤ 9223372036854775807) (hb : Blk w g 5 cs) (hs : n ≤ cs.size) (hcs : ∀ i (h : i < xs.length), cs[i]? = some (.int .u8 (xs[i] : Nat))) :
    Calls Tryd.prog 73 #[.slice (some ⟨g, 0, none⟩) n c] w fun e w' => e = .returned (.tuple #[]) ∧ w.grownBy w' (some g) ∧ ∃ cs', Blk w' g 5 cs' ∧ cs'.size = cs.size ∧ ∀ i (h : i < xs.length), cs'[i]? = some (.int .u8 (xs.reverse[i]'(by simpa using h) : Nat)) := by
  subst hx
  have hstart : Hid (∀ p, p < xs.length → cs[p]? = revTo xs 0 p) := hid fun p hp => by
    rw [revTo_at (by omega) hp, hcs p hp]
  replace hb := hid hb
  replace hcs := hid hcs
  go_enter Tryd.func73, Tryd.ntmps73
  go_wp2_with fail
  go_loopw [2, 3] (fun iv jv wr => ∃ (k : Nat) (cs' : Array Value), iv = .int .i64 k ∧ jv = .int .i64 ((xs.length : Int) - 1 - k) ∧ 2 * k ≤ xs.length + 1 ∧ Blk wr g 5 cs' ∧ cs'.size = cs.size ∧ (∀ p, p < xs.length → cs'[p]? = revTo xs k p) ∧ w.grownBy wr (some g)) (fun iv _ _ => xs.length - (intOf iv).toNat)
  case atStart => exact ⟨0, cs, rfl, by simp, by omega, hb.out, rfl, hstart.out, ⟨rfl, rfl, rfl, Nat.le_refl _, fun _ _ _ => rfl⟩⟩
  case round =>
    obtain ⟨k, cs', rfl, rfl, hk, hblk, hsz, hrev, hgr⟩ := hrel
    by_cases hlt : 2 * k + 1 < xs.length
    · obtain ⟨j, hj⟩ : ∃ j, j + k + 1 = xs.length := ⟨xs.length - 1 - k, by omega⟩
      have e1 : ((xs.length : Int) - 1 - k) = (j : Int) := by omega
      rw [e1]
      have hkj : k < j := by omega
      have hk1 : k < xs.length := by omega
      have hj1 : j < xs.length := by omega
      have ck := hblk.cell k
      have cj := hblk.cell j
      rw [hrev k hk1, revTo_at (by omega) hk1] at ck
      rw [hrev j hj1, revTo_at (by omega) hj1] at cj
      have zk := hblk.frozen k
      have zj := hblk.frozen j
      have hnx : Hid (∀ p, p < xs.length → ((cs'.setIfInBounds k (.int .u8 (xs[j] : Nat))).setIfInBounds j (.int .u8 (xs[k] : Nat)))[p]? = revTo xs (k + 1) p) := hid fun p hp => by
        have hrp := hrev p hp
        by_cases h1 : p = j
        · subst h1
          rw [Array.getElem?_setIfInBounds_self_of_lt (by simp; omega), revTo_swap (by omega) k hk1 (by omega)]
        · rw [Array.getElem?_setIfInBounds_ne (Ne.symm h1)]
          by_cases h2 : p = k
          · subst h2
            rw [Array.getElem?_setIfInBounds_self_of_lt (by omega), revTo_swap (by omega) j hj1 (by omega)]
          · rw [Array.getElem?_setIfInBounds_ne (Ne.symm h2), hrp]
            by_cases h3 : p < k ∨ xs.length ≤ p + k
            · rw [revTo_swap h3 (xs.length - 1 - p) (by omega) rfl, revTo_swap (by omega) (xs.length - 1 - p) (by omega) rfl]
            · rw [revTo_at h3 hp, revTo_at (by omega) hp]
      obtain ⟨a, ha⟩ : ∃ a, a = xs[k] := ⟨_, rfl⟩
      obtain ⟨b, hb'⟩ : ∃ b, b = xs[j] := ⟨_, rfl⟩
      rw [← ha] at ck
      rw [← hb'] at cj
      replace ha := hid ha
      replace hb' := hid hb'
      replace hrev := hid hrev
      replace hblk := hid hblk
      replace hsz := hid hsz
      have i1 : (0 : Int) ≤ (k : Int) := by omega
      have i2 : (k : Int) < (xs.length : Int) := by omega
      have i3 : (0 : Int) ≤ (j : Int) := by omega
      have i4 : (j : Int) < (xs.length : Int) := by omega
      have i5 : (k : Int) < (j : Int) := by omega
      clear e1
      go_wp2_with fail
      go_region
      go_wp2
      go_roundw
      case rel =>
        refine ⟨k + 1, _, by go_num, ?_, by omega, (hblk.out.set_ _ _).set_ _ _, by simp; exact hsz.out, by rw [ha.out, hb'.out]; exact hnx.out, hgr.trans (grown_two _ _ _ _)⟩
        rw [show ((xs.length : Int) - 1 - ((k + 1 : Nat) : Int)) = (j : Int) - 1 from by omega]
      case measure => simp [intOf]; omega
    · have hfin : Hid (∀ i (h : i < xs.length), cs'[i]? = some (.int .u8 (xs.reverse[i]'(by simpa using h) : Nat))) := hid fun i hi => by
        rw [hrev i hi, List.getElem_reverse]
        by_cases h3 : i < k ∨ xs.length ≤ i + k
        · rw [revTo_swap h3 (xs.length - 1 - i) (by omega) rfl]
        · rw [revTo_at h3 hi]
          simp only [show xs.length - 1 - i = i from by omega]
      replace hrev := hid hrev
      replace hblk := hid hblk
      replace hsz := hid hsz
      have hge : ¬ ((k : Int) < (xs.length : Int) - 1 - k) := by omega
      go_wp2
      go_end0
      exact ⟨rfl, hgr, cs', hblk.out, hsz.out, fun i hi => by have := hfin.out i hi; simpa using this⟩

/-- A step of the search as it lies in memory: where its list of nodes lies. -/
structure StV where
  st : Stp
  A : Option Addr
  c : Nat
def stCells : List StV → List Value
  | [] => []
  | x :: xs => .int .i64 x.st.par :: .int .i64 (x.st.let_ : Nat) :: .slice x.A x.st.nodes.length x.c :: stCells xs
theorem stCells_append : ∀ xs ys : List StV, stCells (xs ++ ys) = stCells xs ++ stCells ys
  | [], _ => rfl
  | x :: xs, ys => by rw [List.cons_append, stCells, stCells_append xs ys]; rfl
theorem stCells_at : ∀ (xs : List StV) (i : Nat) (h : i < xs.length), (stCells xs)[i * 3]? = some (.int .i64 xs[i].st.par) ∧ (stCells xs)[i * 3 + 1]? = some (.int .i64 (xs[i].st.let_ : Nat)) ∧ (stCells xs)[i * 3 + 2]? = some (.slice xs[i].A xs[i].st.nodes.length xs[i].c)
  | x :: xs, 0, _ => ⟨rfl, rfl, rfl⟩
  | x :: xs, i + 1, h => by
    have := stCells_at xs i (by simpa using h)
    rw [show (i + 1) * 3 = i * 3 + 1 + 1 + 1 from by omega]
    exact this

theorem own_blk {w : World} {B : Nat} {e : TypeId} {v : Value} {n : Nat} {xs : List Value} (h : w.ownsRow B e 1 v n xs) (hn : 0 < n) :
    ∃ g cap cur, v = .slice (some ⟨g, 0, none⟩) n cap ∧ B ≤ g ∧ n ≤ cap ∧ cap ≤ 9223372036854775807 ∧ Blk w g e cur ∧ n ≤ cur.size ∧ ∀ j (hj : j < xs.length), cur[j]? = some xs[j] := by
  have hl := h.1
  obtain ⟨g, cap, hv, hg, hlt, h1, h2, h3⟩ := own_shape h hn
  obtain ⟨_, ⟨rfl, h0⟩ | ⟨g', cap', cur, hv', hg', hw, h1', h2', h3', h4'⟩⟩ := h
  · omega
  · rw [hv'] at hv
    cases hv
    have hb : Blk w g e cur := hw
    refine ⟨g, cap, cur, hv', hg, h1, h2, hb, ?_, fun j hj => ?_⟩
    · rw [h3']; omega
    · have := h3 j xs[j] (by simp)
      rwa [hb.cell] at this

/-- Every step but the first hangs on an earlier one, by a letter. -/
structure PathOk (ss : List StV) (ws : List (List Nat)) : Prop where
  len : ws.length = ss.length
  zero : ∀ (h : 0 < ws.length), ws[0] = []
  root : ∀ (h : 0 < ss.length), ss[0].st.par = -1
  link : ∀ j (h : j < ss.length) (h' : j < ws.length), 0 < j → ∃ p, p < j ∧ ss[j].st.par = (p : Int) ∧ ss[j].st.let_ < 6 ∧ ∃ (hp : p < ws.length), ws[j] = ss[j].st.let_ :: ws[p]
theorem PathOk.wlen {ss : List StV} {ws : List (List Nat)} (h : PathOk ss ws) : ∀ j (hj : j < ws.length), ws[j].length ≤ j := by
  intro j
  induction j using Nat.strongRecOn with
  | _ j ih =>
    intro hj
    by_cases e : j = 0
    · subst e
      rw [h.zero hj]
      exact Nat.le_refl _
    · obtain ⟨p, hpj, _, _, hp, hw⟩ := h.link j (by rw [← h.len]; exact hj) hj (by omega)
      have := ih p hpj hp
      rw [hw, List.length_cons]
      omega
theorem PathOk.lt6 {ss : List StV} {ws : List (List Nat)} (h : PathOk ss ws) : ∀ j (hj : j < ws.length), ∀ l ∈ ws[j], l < 6 := by
  intro j
  induction j using Nat.strongRecOn with
  | _ j ih =>
    intro hj l hl
    by_cases e : j = 0
    · subst e
      rw [h.zero hj] at hl
      cases hl
    · obtain ⟨p, hpj, _, h6, hp, hw⟩ := h.link j (by rw [← h.len]; exact hj) hj (by omega)
      rw [hw] at hl
      rcases List.mem_cons.1 hl with rfl | hl
      · exact h6
      · exact ih p hpj hp l hl

def bytesOf (r : List Nat) : List Value := r.map fun l => Value.int .u8 (97 + l : Nat)
theorem infoByte : (Tryd.prog.info? 5).map (fun i => (i.zero, i.size, i.bytes)) = some (some (.int .u8 0), 1, 1) := by kernel_rfl

theorem own_steps {w : World} {B : Nat} {v : Value} {ss : List StV} (h : w.ownsRow B 157 3 v ss.length (stCells ss)) (hn : 0 < ss.length) :
    ∃ g cap, v = .slice (some ⟨g, 0, none⟩) ss.length cap ∧ B ≤ g ∧ g < w.heap.size ∧ ss.length ≤ cap ∧ cap ≤ 9223372036854775807 ∧
      ∀ i (hi : i < ss.length), w.cell? ⟨g, i * 3, none⟩ = some (.int .i64 ss[i].st.par) ∧ w.cell? ⟨g, i * 3 + 1, none⟩ = some (.int .i64 (ss[i].st.let_ : Nat)) ∧ w.cell? ⟨g, i * 3 + 2, none⟩ = some (.slice ss[i].A ss[i].st.nodes.length ss[i].c) := by
  obtain ⟨g, cap, hv, h1, h2, h3, h4, h5⟩ := own_shape h hn
  exact ⟨g, cap, hv, h1, h2, h3, h4, fun i hi => ⟨h5 _ _ (stCells_at ss i hi).1, h5 _ _ (stCells_at ss i hi).2.1, h5 _ _ (stCells_at ss i hi).2.2⟩⟩

set_option maxRecDepth 100000 in
set_option maxHeartbeats 2000000 in
theorem pathWord_core (ss : List StV) (ws : List (List Nat)) (g c n : Nat) (w : World) (hn : ss.length = n + 2) (hs : ss.length ≤ 4294967296) (hw : PathOk ss ws) (hw' : n + 1 < ws.length)
    (hl : ss.length ≤ c) (hc : c ≤ 9223372036854775807) (hg : g < w.heap.size) (hr : ∀ i (hi : i < ss.length), w.cell? ⟨g, i * 3, none⟩ = some (.int .i64 ss[i].st.par) ∧ w.cell? ⟨g, i * 3 + 1, none⟩ = some (.int .i64 (ss[i].st.let_ : Nat))) :
    Calls Tryd.prog 189 #[.slice (some ⟨g, 0, none⟩) ss.length c] w fun e w' => e = .returned (.string (wordS ws[n + 1])) ∧ Below w.heap.size w w' := by
  obtain ⟨i0, hi, hz0, hz1, hz2⟩ := info_parts infoByte
  have hlen := hw.len
  have hwl := hw.wlen (n + 1) hw'
  have hlast : Hid (((n + 1 : Nat) : Int) = (ss.length : Int) - 1) := hid (by omega)
  replace hw := hid hw
  replace hr := hid hr
  replace hn := hid hn
  go_enter Tryd.func189, Tryd.ntmps189
  go_wp2_with fail
  go_loopw [3, 4] (fun v iv wr => ∃ (j : Nat) (done : List Nat), iv = .int .i64 j ∧ j < ss.length ∧ (∀ h : j < ws.length, done ++ ws[j] = ws[n + 1]) ∧ wr.ownsRow w.heap.size 5 1 v done.length (bytesOf done) ∧ Below w.heap.size w wr) (fun _ iv _ => (intOf iv).toNat)
  case atStart => exact ⟨n + 1, [], by rw [hlast.out], by have := hn.out; omega, fun _ => rfl, World.ownsRow_nil _ _ _ _, by (repeat (first | exact Below.refl _ _ | assumption | refine Below.drew ?_ | refine Below.alloc ?_ (by first | omega | (simp; done) | (simp; omega)) _ | refine Below.setCell ?_ (by first | omega | (simp; done) | (simp; omega)) _))⟩
  case round =>
    obtain ⟨j, done, rfl, hj, hdone, hown, hb⟩ := hrel
    have hd := hdone (by omega)
    have hdl : done.length ≤ n + 1 := by
      have := congrArg List.length hd
      rw [List.length_append] at this
      omega
    have hjw : j < ws.length := by omega
    obtain ⟨e0, e1⟩ := hr.out j hj
    rw [← hb.cell (by simpa using hg)] at e0 e1
    have i1 : (0 : Int) ≤ (j : Int) := by omega
    have i2 : (j : Int) < (ss.length : Int) := by omega
    by_cases h0 : j = 0
    · have hz : ws[j]'hjw = [] := by subst h0; exact hw.out.zero (by omega)
      rw [hz, List.append_nil] at hd
      subst hd
      have hroot : ss[j].st.par = -1 := by subst h0; exact hw.out.root (by omega)
      rw [hroot] at e0
      replace h0 := hid h0
      have hpos : 0 < ws[n + 1].length := by
        obtain ⟨p, -, -, -, hp, hq⟩ := hw.out.link (n + 1) (by omega) hw' (by omega)
        rw [hq]
        simp
      have h6 := hw.out.lt6 (n + 1) hw'
      obtain ⟨gb, cap, cur, rfl, hgb, hcap, hcap', hblk, hsz, hcur⟩ := own_blk hown hpos
      generalize hR : ws[n + 1] = r at *
      replace hR := hid hR
      have hblk' := hid hblk
      have hcs : Hid (∀ i (h : i < (r.map (97 + ·)).length), cur[i]? = some (.int .u8 ((r.map (97 + ·))[i] : Nat))) := hid fun i h => by
        have hi : i < r.length := by simpa using h
        rw [hcur i (by unfold bytesOf; simpa using hi)]
        unfold bytesOf
        simp
      replace hdone := hid hdone
      replace hcur := hid hcur
      replace hblk := hid hblk
      replace hown := hid hown
      replace hwl := hid hwl
      replace h6 := hid h6
      go_wp2_with fail
      refine (reverseBytes_any gb r.length cap (r.map (97 + ·)) cur wr (by simp) hcap hcap' hblk'.out hsz hcs.out).mono ?_
      rintro e w2 ⟨rfl, hg2, cs2, hblk2, hsz2, hcs2⟩
      have hB2 : Hid (Below w.heap.size w w2) := hid (hb.grown hg2 hb.size (fun k hk => by cases hk; exact hgb))
      have kc : (convert 22 9 (.slice (some ⟨gb, 0, none⟩) r.length cap)).run Tryd.prog w2 = .ok (.string (wordS r)) w2 := by
        have := run_convert_bytes_back (P := Tryd.prog) w2 22 9 5 ⟨gb, 0, none⟩ cap (r.reverse.map letB) Tryd.underlying22 Tryd.underlying5 Tryd.underlying9 (fun j hj => by
          have hj' : j < r.length := by simpa using hj
          have e1 := hcs2 j (by simpa using hj')
          have hadd : (⟨gb, 0, none⟩ : Addr).add j = ⟨gb, j, none⟩ := by unfold Addr.add; split <;> simp_all
          rw [hadd, hblk2.cell, e1]
          have h6' : r.reverse[j]'(by simpa using hj') < 6 := h6.out _ (List.mem_reverse.1 (List.getElem_mem _))
          simp only [List.getElem_map, List.map_reverse, List.getElem_reverse] at h6' ⊢
          unfold letB
          rw [UInt8.toNat_ofNat']
          have := h6'
          simp only [List.length_map] at *
          rw [Nat.mod_eq_of_lt (by omega)])
        simpa [wordS] using this
      replace hcs2 := hid hcs2
      replace hblk2 := hid hblk2
      replace hg2 := hid hg2
      clear e0 e1
      go_wp2
      go_ret
      exact ⟨by rw [hR.out]; rfl, hB2.out⟩
    · obtain ⟨p, hpj, hpar, h6, hp, hq⟩ := hw.out.link j hj hjw (by omega)
      rw [hpar] at e0
      rw [hq] at hd
      obtain ⟨l, hll⟩ : ∃ l, l = ss[j].st.let_ := ⟨_, rfl⟩
      rw [← hll] at e1 hd h6
      have hps : p < ss.length := by omega
      have hge : (0 : Int) ≤ (p : Int) := by omega
      have hd2 : Hid ((done ++ [l]) ++ ws[p] = ws[n + 1]) := hid (by rw [List.append_assoc]; exact hd)
      replace hd := hid hd
      replace hll := hid hll
      replace hq := hid hq
      replace hpar := hid hpar
      replace hdone := hid hdone
      replace hown := hid hown
      have hzr := hb.size
      go_wp2_with (first
        | (go_at_call 72; refine (letterByte_any l h6 _).mono ?_; rintro e w' ⟨rfl, rfl⟩)
        | (at_builtin; refine wpList_append_own _ rfl _ _ 22 rfl w.heap.size 5 i0 (.int .u8 0) 1 1 Tryd.underlying22 hi hz0 hz1 hz2 rfl (by decide) _ _ _ rfl (hown.out.alloc _) ⟨wr.heap.size, 0, none⟩ 1 1 [.int .u8 (97 + l : Nat)] rfl rfl (cell_one_new _ _ _) (by intro u hu; simp at hu; subst hu; rfl) (by unfold maxLen; omega) (by omega) (by simp; omega) ?_; intro v' w1 hown' hgrow _; have hB1 : Below w.heap.size w w1 := Below.grown (hb.alloc hzr _) hgrow (by simp; omega) (own_block hown.out); have e2 := e0; rw [hb.cell (by simpa using hg), ← hB1.cell (by simpa using hg)] at e2))
      go_roundw
      case rel =>
        refine ⟨p, done ++ [l], rfl, hps, fun _ => hd2.out, ?_, hB1⟩
        unfold bytesOf at hown' ⊢
        rw [List.length_append, List.map_append]
        exact hown'
      case measure => simp [intOf]; omega

theorem pathWord_any (ss : List StV) (ws : List (List Nat)) (g c n m : Nat) (w : World) (hm : ss.length = m) (hn : ss.length = n + 2) (hs : ss.length ≤ 4294967296) (hw : PathOk ss ws) (hw' : n + 1 < ws.length)
    (hl : ss.length ≤ c) (hc : c ≤ 9223372036854775807) (hg : g < w.heap.size) (hr : ∀ i (hi : i < ss.length), w.cell? ⟨g, i * 3, none⟩ = some (.int .i64 ss[i].st.par) ∧ w.cell? ⟨g, i * 3 + 1, none⟩ = some (.int .i64 (ss[i].st.let_ : Nat))) :
    Calls Tryd.prog 189 #[.slice (some ⟨g, 0, none⟩) m c] w fun e w' => e = .returned (.string (wordS ws[n + 1])) ∧ Below w.heap.size w w' := by
  subst hm
  exact pathWord_core ss ws g c n w hn hs hw hw' hl hc hg hr

end Go.Proofs.YtkoganldcmhopaaDoor

/- The program's search: the closure that takes up a word's nodes. -/
namespace Go.Proofs.YtkoganldcmhopaaDoor
open Go.RowKit Go.BigFrame AG

/-- The marks of the nodes that have been seen. -/
def SeenAt (cs : Array Value) (size : Nat) (S : Nat → Bool) : Prop := cs.size = size ∧ ∀ n, n < size → cs[n]? = some (.bool (S n))
theorem SeenAt.set_ {cs : Array Value} {size : Nat} {S S' : Nat → Bool} {n : Nat} (h : SeenAt cs size S) (hn : n < size) (hS : ∀ x, S' x = (S x || decide (x = n))) : SeenAt (cs.setIfInBounds n (.bool true)) size S' := by
  refine ⟨by simpa using h.1, fun x hx => ?_⟩
  rw [hS]
  by_cases e : x = n
  · subst e
    rw [Array.getElem?_setIfInBounds_self_of_lt (by rw [h.1]; exact hx)]
    simp
  · rw [Array.getElem?_setIfInBounds_ne (Ne.symm e), h.2 x hx]
    simp [e]

def natVals (ns : List Nat) : List Value := ns.map fun (n : Nat) => Value.int .i64 (n : Int)

/-- What the search holds in memory. -/
structure FPst (w wr : World) (size : Nat) (gv : Value) (bS bG bP gS : Nat) (sv : Value) (ss : List StV) (S : Nat → Bool) : Prop where
  below : Below w.heap.size w wr
  blkS : Blk wr bS 24 #[.slice (some ⟨gS, 0, none⟩) size size]
  blkG : Blk wr bG 75 #[gv]
  blkP : Blk wr bP 155 #[sv]
  seen : ∃ cs, Blk wr gS 4 cs ∧ SeenAt cs size S
  geS : w.heap.size ≤ gS
  geP : w.heap.size ≤ bP
  own : wr.ownsRow w.heap.size 157 3 sv ss.length (stCells ss)
  nodes : ∀ x ∈ ss, wr.ownsRow w.heap.size 3 1 (.slice x.A x.st.nodes.length x.c) x.st.nodes.length (natVals x.st.nodes)

/-- A goal of the search, as a function value. -/
structure GoalOk (w : World) (size : Nat) (G : Nat → Bool) (fG : FuncId) (capG : Array Value) : Prop where
  run : ∀ args w', (callFunc fG args).run Tryd.prog w' = .ok (.enter fG args) w'
  call : ∀ w' q, Below w.heap.size w w' → q < size → Calls Tryd.prog fG (#[.int .i64 (q : Nat)] ++ capG) w' fun e w'' => e = .returned (.bool (G q)) ∧ Below w'.heap.size w' w''

/-- What the closure leaves. -/
def VisPost (w w1 : World) (size : Nat) (gv : Value) (bS bG bP gS : Nat) (sv : Value) (ss : List StV) (S : Nat → Bool) (par : Int) (l : Nat) (fr : List Nat) (w2 : World) : Prop :=
  ∃ sv' ss', FPst w w2 size gv bS bG bP gS sv' ss' (fun n => S n || fr.contains n) ∧ ((fr = [] ∧ ss' = ss) ∨ (fr ≠ [] ∧ ∃ A c, ss' = ss ++ [⟨⟨par, l, fr⟩, A, c⟩])) ∧ KeepB (fun b => b = gS ∨ b = bP ∨ sv.ownBlock = some b) w1 w2

theorem FPst.keep {w w1 wr : World} {size : Nat} {gv : Value} {bS bG bP gS : Nat} {sv : Value} {ss : List StV} {S S' : Nat → Bool} {cs : Array Value} (h : FPst w w1 size gv bS bG bP gS sv ss S) (hk : KeepB (fun b => b = gS) w1 wr)
    (hb : Blk wr gS 4 cs) (hs : SeenAt cs size S') : FPst w wr size gv bS bG bP gS sv ss S' := by
  obtain ⟨cs0, hb0, -⟩ := h.seen
  exact ⟨hk.below h.below h.below.size (fun b hb => by rw [hb]; exact h.geS), h.blkS.keep hk (fun e => h.blkS.ne hb0 (by decide) e), h.blkG.keep hk (fun e => h.blkG.ne hb0 (by decide) e), h.blkP.keep hk (fun e => h.blkP.ne hb0 (by decide) e), ⟨cs, hb, hs⟩, h.geS, h.geP,
    own_keep h.own hk (own_ne h.own hb0 (by decide)), fun x hx => own_keep (h.nodes x hx) hk (own_ne (h.nodes x hx) hb0 (by decide))⟩

theorem cell_three_new (w : World) (x y z : Value) (t : TypeId) : ∀ j u, [x, y, z][j]? = some u → (w.alloc (.cells #[x, y, z] t)).cell? ((⟨w.heap.size, 0, none⟩ : Addr).add j) = some u := by
  intro j u hj
  match j, hj with
  | 0, hj =>
    simp at hj
    subst hj
    simp [Addr.add]
  | 1, hj =>
    simp at hj
    subst hj
    simp [Addr.add]
  | 2, hj =>
    simp at hj
    subst hj
    simp [Addr.add]
theorem infoStep : (Tryd.prog.info? 157).map (fun i => (i.zero, i.size, i.bytes)) = some (some (.agg #[.int .i64 0, .int .i64 0, .slice none 0 0]), 3, 40) := by kernel_rfl

theorem VisPost.mk {w w1 wr w6 : World} {size : Nat} {gv : Value} {bS bG bP gS : Nat} {sv v6 : Value} {ss : List StV} {S : Nat → Bool} {cs : Array Value} {par : Int} {l : Nat} {fr : List Nat} {A : Option Addr} {c : Nat} {o : Obj} (h : FPst w w1 size gv bS bG bP gS sv ss S) (hk : KeepB (fun b => b = gS) w1 wr)
    (hb : Blk wr gS 4 cs) (hs : SeenAt cs size (fun n => S n || fr.contains n)) (hfr : fr ≠ []) (hfv : wr.ownsRow w1.heap.size 3 1 (.slice A fr.length c) fr.length (natVals fr))
    (hO6 : w6.ownsRow w.heap.size 157 3 v6 (ss.length + 1) (stCells ss ++ [.int .i64 par, .int .i64 (l : Nat), .slice A fr.length c])) (hg6 : (wr.alloc o).grownBy w6 sv.ownBlock) :
    VisPost w w1 size gv bS bG bP gS sv ss S par l fr (w6.setCell ⟨bP, 0, none⟩ v6) := by
  have hr := h.keep hk hb hs
  have hkA : KeepB (fun b => sv.ownBlock = some b) wr w6 := ((KeepB.refl _ wr).alloc o).grown hg6 fun k hk _ => hk
  have hP6 : Blk w6 bP 155 #[sv] := hr.blkP.keep hkA fun e => own_ne hr.own hr.blkP (by decide) bP e rfl
  have hk7 : KeepB (fun b => b = bP) w6 (w6.setCell ⟨bP, 0, none⟩ v6) := (KeepB.refl _ w6).setCell _ _ fun _ => rfl
  have hkB : KeepB (fun b => b = bP ∨ sv.ownBlock = some b) wr (w6.setCell ⟨bP, 0, none⟩ v6) := (hkA.mono fun k h => .inr h).trans (hk7.mono fun k h => .inl h)
  have nB : ∀ {g t cs}, Blk wr g t cs → t ≠ 155 → t ≠ 157 → ¬ (g = bP ∨ sv.ownBlock = some g) := fun hg h1 h2 e => by
    rcases e with e | e
    · exact hg.ne hr.blkP h1 e
    · exact own_ne hr.own hg (Ne.symm h2) _ e rfl
  have nO : ∀ {base e size v n xs}, wr.ownsRow base e size v n xs → e ≠ 155 → e ≠ 157 → ∀ g, v.ownBlock = some g → ¬ (g = bP ∨ sv.ownBlock = some g) := fun ho h1 h2 g hg e => by
    rcases e with e | e
    · exact own_ne ho hr.blkP h1 g hg e
    · exact own_ne_own ho hr.own h2 g g hg e rfl
  obtain ⟨cs', hb', hs'⟩ := hr.seen
  refine ⟨v6, ss ++ [⟨⟨par, l, fr⟩, A, c⟩], ⟨?_, hr.blkS.keep hkB (nB hr.blkS (by decide) (by decide)), hr.blkG.keep hkB (nB hr.blkG (by decide) (by decide)), ?_, ⟨cs', hb'.keep hkB (nB hb' (by decide) (by decide)), hs'⟩, hr.geS, hr.geP, ?_, ?_⟩, .inr ⟨hfr, A, c, rfl⟩, ?_⟩
  · refine hkB.below hr.below hr.below.size fun b e => ?_
    rcases e with e | e
    · rw [e]; exact hr.geP
    · exact own_block hr.own b e
  · have := hP6.set_ 0 v6
    simpa using this
  · rw [List.length_append, stCells_append]
    exact own_keep hO6 hk7 (own_ne hO6 hP6 (by decide))
  · intro x hx
    rcases List.mem_append.1 hx with hx | hx
    · exact own_keep (hr.nodes x hx) hkB (nO (hr.nodes x hx) (by decide) (by decide))
    · rw [List.mem_singleton] at hx
      subst hx
      exact own_base (own_keep hfv hkB (nO hfv (by decide) (by decide))) h.below.size
  · refine (hk.mono fun k h => .inl h).trans ⟨hkB.os, hkB.tape, hkB.output, hkB.size, fun k hk' hne => hkB.block k hk' fun e => hne (.inr e)⟩

set_option maxRecDepth 100000 in
set_option maxHeartbeats 4000000 in
theorem visit_any (w : World) (size : Nat) (G : Nat → Bool) (fG : FuncId) (capG : Array Value) (hG : GoalOk w size G fG capG) (bS bG bP gS : Nat) (sv : Value) (ss : List StV) (S : Nat → Bool) (par : Int) (l : Nat) (nv : Value) (ns : List Nat) (w1 : World)
    (hst : FPst w w1 size (.func (.func fG) #[] capG) bS bG bP gS sv ss S) (hnv : w1.ownsRow 0 3 1 nv ns.length (natVals ns)) (hns : ∀ n ∈ ns, n < size) (hnl : ns.length ≤ 4294967296) (hsl : ss.length ≤ 4294967296) :
    Calls Tryd.prog 188 #[.int .i64 par, .int .i64 (l : Nat), nv, .pointer (some ⟨bS, 0, none⟩), .pointer (some ⟨bG, 0, none⟩), .pointer (some ⟨bP, 0, none⟩)] w1 fun e w2 => e = .returned (.bool ((frs S ns).any G)) ∧ VisPost w w1 size (.func (.func fG) #[] capG) bS bG bP gS sv ss S par l (frs S ns) w2 := by
  have hcf := hG.run
  obtain ⟨A, c, rfl, hnc, hnc'⟩ := own_slice hnv
  obtain ⟨i0, hi, hz0, hz1, hz2⟩ := info_parts infoInt
  have hneS := hst.blkS
  obtain ⟨cs0, hblk0, hseen0⟩ := hst.seen
  replace hst := hid hst
  replace hnv := hid hnv
  replace hns := hid hns
  replace hblk0 := hid hblk0
  replace hseen0 := hid hseen0
  replace hneS := hid hneS
  go_enter Tryd.func188, Tryd.ntmps188
  go_wp2_with fail
  go_loopw [10, 11, 16] (fun fv found iv wr => ∃ (k : Nat) (cs : Array Value), iv = .int .i64 k ∧ k ≤ ns.length ∧ found = .bool ((frs S (ns.take k)).any G) ∧ wr.ownsRow w1.heap.size 3 1 fv (frs S (ns.take k)).length (natVals (frs S (ns.take k))) ∧
      Blk wr gS 4 cs ∧ SeenAt cs size (fun n => S n || (frs S (ns.take k)).contains n) ∧ KeepB (fun b => b = gS) w1 wr) (fun _ _ iv _ => ns.length - (intOf iv).toNat)
  case atStart => exact ⟨0, cs0, rfl, by omega, rfl, World.ownsRow_nil _ _ _ _, hblk0.out, by simpa [frs_nil] using hseen0.out, KeepB.refl _ _⟩
  case round =>
    obtain ⟨k, cs, rfl, hk, rfl, hown, hblk, hseen, hkp⟩ := hrel
    by_cases hlt : k < ns.length
    · have hnvr := own_keep hnv.out hkp (fun g hg e => own_ne hnv.out hblk0.out (by decide) g hg e)
      obtain ⟨gn, cn, hve, -, -, -, -, hcell⟩ := own_shape hnvr (by omega)
      injection hve with hv1 hv2 hv3
      subst hv1
      subst hv3
      have n0 := hcell k _ (show (natVals ns)[k]? = some (.int .i64 (ns[k] : Nat)) from by unfold natVals; simp [hlt])
      have hns1 := hns.out ns[k] (List.getElem_mem hlt)
      have hstep := frs_take S ns hlt
      obtain ⟨n, hnn⟩ : ∃ n, n = ns[k] := ⟨_, rfl⟩
      rw [← hnn] at n0 hns1 hstep
      have hSr := hneS.out.keep hkp (fun e => hneS.out.ne hblk0.out (by decide) e)
      have s0 := hSr.cell 0
      simp only [List.getElem?_toArray, List.getElem?_cons_zero] at s0
      have m0 := hblk.cell n
      rw [hseen.2 n hns1] at m0
      dsimp only at m0
      have z0 := hblk.frozen n
      obtain ⟨fr, hfr⟩ : ∃ fr, fr = frs S (ns.take k) := ⟨_, rfl⟩
      rw [← hfr] at hown hseen m0 hstep ⊢
      have hfl : fr.length ≤ k := by
        have := frs_len S (ns.take k)
        rw [← hfr] at this
        simp at this
        omega
      have i1 : (0 : Int) ≤ (k : Int) := by omega
      have i2 : (k : Int) < (ns.length : Int) := by omega
      have i3 : (0 : Int) ≤ (n : Int) := by omega
      have i4 : (n : Int) < (size : Int) := by omega
      replace hnvr := hid hnvr
      replace hSr := hid hSr
      replace hcell := hid hcell
      replace hnn := hid hnn
      replace hfr := hid hfr
      replace hown := hid hown
      replace hseen := hid hseen
      replace hblk := hid hblk
      replace hstep := hid hstep
      cases hm : (S n || fr.contains n)
      · rw [hm] at m0
        have hst2 : Hid (frs S (ns.take (k + 1)) = fr ++ [n]) := hid (by rw [hstep.out]; unfold frsStep; rw [if_neg (by rw [hm]; simp)])
        have hany : Hid ((fr ++ [n]).any G = (fr.any G || G n)) := hid (by simp)
        replace hm := hid hm
        have hb1 := hst.out.below
        have hseen2 : Hid (SeenAt (cs.setIfInBounds n (.bool true)) size (fun x => S x || (fr ++ [n]).contains x)) := hid (hseen.out.set_ hns1 fun x => by
          simp only [List.contains_eq_mem, List.mem_append, List.mem_singleton, Bool.or_assoc]
          congr 1
          rw [Bool.eq_iff_iff]
          simp)
        have hzr := hkp.size
        have hkp2 : Hid (KeepB (fun b => b = gS) w1 (wr.setCell ⟨gS, n, none⟩ (.bool true))) := hid (hkp.setCell _ _ fun _ => rfl)
        have hblk2 : Hid (Blk (wr.setCell ⟨gS, n, none⟩ (.bool true)) gS 4 (cs.setIfInBounds n (.bool true))) := hid (hblk.out.set_ _ _)
        have hown2 : Hid ((wr.setCell ⟨gS, n, none⟩ (.bool true)).ownsRow w1.heap.size 3 1 _ fr.length (natVals fr)) := hid (ownsRow_setCell_below hown.out (by have := hblk0.out.lt; simpa using this) _)
        cases hg : fr.any G
        · go_wp2_with (at_builtin; refine wpList_append_own_at _ rfl _ _ 52 rfl w1.heap.size 3 i0 (.int .i64 0) 1 8 Tryd.underlying52 hi hz0 hz1 hz2 rfl (by decide) _ _ _ rfl (hown2.out.alloc _) ⟨wr.heap.size, 0, none⟩ 1 1 [.int .i64 (n : Int)] rfl rfl (by have := cell_one_new (wr.setCell ⟨gS, n, none⟩ (.bool true)) (.int .i64 (n : Int)) 3; simpa using this) (by intro u hu; simp at hu; subst hu; rfl) (by unfold maxLen; omega) (by omega) (by simp; omega) ?_; intro v4 w4 hown4 hgr4 _ hat4; have hkp4 : Hid (KeepB (fun b => b = gS) w1 w4) := hid ((hkp2.out.alloc _).grown hgr4 fun b hb hlt => absurd (own_block hown.out b hb) (by omega)); have hblk4 : Hid (Blk w4 gS 4 (cs.setIfInBounds n (.bool true))) := hid ((hgr4.block gS (hblk2.out.alloc _).lt (fun e => own_ne hown2.out hblk2.out (by decide) gS e.symm rfl)).trans (hblk2.out.alloc _)); have hG4 := hst.out.blkG.keep hkp4.out (fun e => hst.out.blkG.ne hblk0.out (by decide) e); have g0 := hG4.cell 0; simp only [List.getElem?_toArray, List.getElem?_cons_zero] at g0; replace hG4 := hid hG4; replace hown4 := hid hown4; replace hgr4 := hid hgr4; replace hat4 := hid hat4)
          have hb4 := hid (hkp4.out.below hb1 hb1.size fun b hb => by rw [hb]; exact hst.out.geS)
          refine (hG.call w4 n hb4.out hns1).mono ?_
          rintro e w5 ⟨rfl, hb5⟩
          replace hg := hid hg
          have hk5 : Hid (KeepB (fun b => b = gS) w1 w5) := hid (hkp4.out.trans (.of_below hb5))
          have hown5 := hid (own_keep hown4.out (.of_below (K := fun _ => False) hb5) fun _ _ h => h)
          have hblk5 := hid (hblk4.out.below hb5 hblk4.out.lt)
          go_wp2_with fail
          go_roundw
          case rel => exact ⟨k + 1, _, by go_num, by omega, by rw [hst2.out, hany.out, hg.out]; rfl, by rw [hst2.out, List.length_append]; unfold natVals; rw [List.map_append]; exact hown5.out, hblk5.out, by rw [hst2.out]; exact hseen2.out, hk5.out⟩
          case measure => simp [intOf]; omega
        · go_wp2_with (at_builtin; refine wpList_append_own_at _ rfl _ _ 52 rfl w1.heap.size 3 i0 (.int .i64 0) 1 8 Tryd.underlying52 hi hz0 hz1 hz2 rfl (by decide) _ _ _ rfl (hown2.out.alloc _) ⟨wr.heap.size, 0, none⟩ 1 1 [.int .i64 (n : Int)] rfl rfl (by have := cell_one_new (wr.setCell ⟨gS, n, none⟩ (.bool true)) (.int .i64 (n : Int)) 3; simpa using this) (by intro u hu; simp at hu; subst hu; rfl) (by unfold maxLen; omega) (by omega) (by simp; omega) ?_; intro v4 w4 hown4 hgr4 _ hat4; have hkp4 : Hid (KeepB (fun b => b = gS) w1 w4) := hid ((hkp2.out.alloc _).grown hgr4 fun b hb hlt => absurd (own_block hown.out b hb) (by omega)); have hblk4 : Hid (Blk w4 gS 4 (cs.setIfInBounds n (.bool true))) := hid ((hgr4.block gS (hblk2.out.alloc _).lt (fun e => own_ne hown2.out hblk2.out (by decide) gS e.symm rfl)).trans (hblk2.out.alloc _)); have hG4 := hst.out.blkG.keep hkp4.out (fun e => hst.out.blkG.ne hblk0.out (by decide) e); have g0 := hG4.cell 0; simp only [List.getElem?_toArray, List.getElem?_cons_zero] at g0; replace hG4 := hid hG4; replace hown4 := hid hown4; replace hgr4 := hid hgr4; replace hat4 := hid hat4)
          replace hg := hid hg
          go_roundw
          case rel => exact ⟨k + 1, _, by go_num, by omega, by rw [hst2.out, hany.out, hg.out]; rfl, by rw [hst2.out, List.length_append]; unfold natVals; rw [List.map_append]; exact hown4.out, hblk4.out, by rw [hst2.out]; exact hseen2.out, hkp4.out⟩
          case measure => simp [intOf]; omega
      · rw [hm] at m0
        have hst2 : Hid (frs S (ns.take (k + 1)) = fr) := hid (by rw [hstep.out]; unfold frsStep; rw [if_pos hm])
        replace hm := hid hm
        go_wp2_with fail
        go_roundw
        case rel => exact ⟨k + 1, cs, by go_num, by omega, by rw [hst2.out], by rw [hst2.out]; exact hown.out, hblk.out, by rw [hst2.out]; exact hseen.out, hkp⟩
        case measure => simp [intOf]; omega
    · have hkn : ns.take k = ns := List.take_of_length_le (by omega)
      rw [hkn] at hown hseen ⊢
      obtain ⟨fr, hfr⟩ : ∃ fr, fr = frs S ns := ⟨_, rfl⟩
      rw [← hfr] at hown hseen ⊢
      have hfl : fr.length ≤ ns.length := by rw [hfr]; exact frs_len S ns
      have hPr := hst.out.blkP.keep hkp (fun e => hst.out.blkP.ne hblk0.out (by decide) e)
      have p0 := hPr.cell 0
      simp only [List.getElem?_toArray, List.getElem?_cons_zero] at p0
      have hsr := hid (hst.out.keep hkp hblk hseen)
      replace hkn := hid hkn
      replace hfr := hid hfr
      replace hPr := hid hPr
      obtain ⟨fA, fc, rfl, hfc, hfc'⟩ := own_slice hown
      by_cases hf0 : fr.length = 0
      · have hfe : Hid (fr = []) := hid (by simpa using hf0)
        replace hown := hid hown
        have hn0 : ¬ (0 < fr.length) := by omega
        go_wp2_with fail
        go_ret
        exact ⟨by rw [← hfr.out]; rfl, by rw [← hfr.out]; exact ⟨_, ss, hsr.out, .inl ⟨hfe.out, rfl⟩, hkp.mono fun b h => .inl h⟩⟩
      · have hn0 : 0 < fr.length := by omega
        replace hown := hid hown
        have hzr := hkp.size
        have hbs := hst.out.below.size
        have hfne : Hid (fr ≠ []) := hid fun e => hf0 (by rw [e]; rfl)
        obtain ⟨j0, hj, hj0, hj1, hj2⟩ := info_parts infoStep
        go_wp2_with (at_builtin; refine wpList_append_own_at _ rfl _ _ 155 rfl w.heap.size 157 j0 (.agg #[.int .i64 0, .int .i64 0, .slice none 0 0]) 3 40 Tryd.underlying155 hj hj0 hj1 hj2 rfl (by decide) _ _ _ rfl (hsr.out.own.alloc _) ⟨wr.heap.size, 0, none⟩ 1 1 [.int .i64 par, .int .i64 (l : Nat), .slice fA fr.length fc] rfl rfl (cell_three_new _ _ _ _ _) (by intro u hu; simp at hu; rcases hu with rfl | rfl | rfl <;> rfl) (by unfold maxLen; omega) (by omega) (by simp; omega) ?_; intro v6 w6 hO6 hgr6 _ _; obtain ⟨A6, c6, rfl, -, -⟩ := own_slice hO6; have hkA : KeepB (fun b => sv.ownBlock = some b) wr w6 := ((KeepB.refl _ wr).alloc _).grown hgr6 fun k hk _ => hk; have hP6 : Blk w6 bP 155 #[sv] := hPr.out.keep hkA fun e => own_ne hsr.out.own hPr.out (by decide) bP e rfl; have q0 := hP6.cell 0; simp only [List.getElem?_toArray, List.getElem?_cons_zero] at q0; have zq := hP6.frozen 0; replace hP6 := hid hP6; replace hkA := hid hkA; replace hO6 := hid hO6; replace hgr6 := hid hgr6)
        go_ret
        exact ⟨by rw [← hfr.out]; rfl, by rw [← hfr.out]; exact VisPost.mk hst.out hkp hblk hseen hfne.out hown.out hO6.out hgr6.out⟩

end Go.Proofs.YtkoganldcmhopaaDoor

/- The program's closure: the states that words of hidden letters reach. -/
namespace Go.Proofs.YtkoganldcmhopaaDoor
open Go.RowKit Go.BigFrame AG

/-- A list of numbers lies in memory below a block. -/
def NatsAt (w : World) (B : Nat) (A : Option Addr) (ns : List Nat) : Prop := 0 < ns.length → ∃ b o, A = some ⟨b, o, none⟩ ∧ b < B ∧ ∀ i (h : i < ns.length), w.cell? ⟨b, o + i, none⟩ = some (.int .i64 (ns[i] : Nat))
theorem NatsAt.later {w w' : World} {A : Option Addr} {ns : List Nat} (h : NatsAt w w.heap.size A ns) (hb : Below w.heap.size w w') : NatsAt w' w'.heap.size A ns := fun hl => by
  obtain ⟨b, o, h1, h2, h3⟩ := h hl
  exact ⟨b, o, h1, Nat.lt_of_lt_of_le h2 hb.size, fun i hi => by rw [hb.cell (by simpa using h2)]; exact h3 i hi⟩
theorem OwnNats.read {w : World} {B : Nat} {v : Value} {ns : List Nat} (h : OwnNats w B v ns) : ∃ A c, v = .slice A ns.length c ∧ ns.length ≤ c ∧ c ≤ 9223372036854775807 ∧ NatsAt w w.heap.size A ns := by
  by_cases hn : 0 < ns.length
  · obtain ⟨g, cap, hv, h1, h2, h3, h4, h5⟩ := own_nats h hn
    exact ⟨_, cap, hv, h3, h4, fun _ => ⟨g, 0, rfl, h2, fun i hi => by rw [Nat.zero_add]; exact h5 i hi⟩⟩
  · obtain ⟨A, c, hv, h1, h2⟩ := own_slice h
    exact ⟨A, c, hv, h1, h2, fun hl => absurd hl hn⟩

set_option maxRecDepth 100000 in
set_option maxHeartbeats 4000000 in
theorem closure_any (s : Sy) (h : Int) (g S : Nat) (A : Option Addr) (c : Nat) (w : World) (hs : edgesIn s) (hS : S < 65536) (hl : (letters h).length ≤ c) (hc : c ≤ 9223372036854775807) (hT : Tab w) (hg : MvAt w w.heap.size g (mv s)) (hL : NatsAt w w.heap.size A (letters h)) :
    Calls Tryd.prog 122 #[.pointer (some ⟨g, 0, none⟩), .int .i64 (S : Nat), .slice A (letters h).length c] w fun e w' => e = .returned (.int .i64 (reachSet s h S : Nat)) ∧ Below w.heap.size w w' := by
  have hls1 : ∀ e ∈ s.es, e.l.toNat ∈ letters h → Has h e.l.toNat = true := fun e he hm => (letters_lt hm).2
  have hls2 : ∀ e ∈ s.es, Has h e.l.toNat = true → e.l.toNat ∈ letters h := fun e he hm => letters_of_six (by have := hs e he; omega) hm
  have h6 : ∀ l ∈ letters h, l < 6 := fun l hl => (letters_lt hl).1
  have hn6 : (letters h).length ≤ 6 := lettersTo_len h 6
  generalize letters h = ls at *
  replace hls1 := hid hls1
  replace hls2 := hid hls2
  replace h6 := hid h6
  replace hs := hid hs
  replace hT := hid hT
  replace hg := hid hg
  replace hL := hid hL
  go_enter Tryd.func122, Tryd.ntmps122
  go_wp2_with fail
  go_loopw [1] (fun st wr => ∃ T : Nat, st = .int .i64 (T : Nat) ∧ T < 65536 ∧ (∀ x, S.testBit x = true → T.testBit x = true) ∧ (∀ x, T.testBit x = true → Rch s h S x) ∧ Below w.heap.size w wr) (fun st _ => 65536 - (intOf st).toNat)
  case atStart => exact ⟨S, rfl, hS, fun _ h => h, fun _ h => Rch.start h, Below.refl _ _⟩
  case round =>
    obtain ⟨T, rfl, hTl, hbase, hins, hb⟩ := hrel
    replace hbase := hid hbase
    replace hins := hid hins
    go_wp2_with fail
    go_loopw [7, 13] (fun mo i wr => ∃ k : Nat, i = .int .i64 (k : Nat) ∧ k ≤ ls.length ∧ mo = .int .i64 (closeL (mv s) T (ls.take k) : Nat) ∧ Below w.heap.size w wr) (fun _ i _ => ls.length - (intOf i).toNat)
    case atStart => exact ⟨0, rfl, by omega, by rfl, hb⟩
    case round =>
      obtain ⟨k, rfl, hk, rfl, hb1⟩ := hrel
      have hcl : closeL (mv s) T (ls.take k) < 65536 := closeL_lt (mv s) hTl _
      by_cases hlt : k < ls.length
      · obtain ⟨b, o, hA, hbb, hE⟩ := hL.out (by omega)
        subst hA
        have c0 := hE k hlt
        rw [← hb1.cell (by simpa using hbb)] at c0
        obtain ⟨l, hl'⟩ : ∃ l, l = ls[k] := ⟨_, rfl⟩
        rw [← hl'] at c0
        have hl6 : l < 6 := h6.out l (by rw [hl']; exact List.getElem_mem _)
        have hcs : Hid (closeL (mv s) T (ls.take (k + 1)) = closeL (mv s) T (ls.take k) ||| unionOf (mv s) T l) := hid (by rw [List.take_succ_eq_append_getElem hlt, closeL_snoc, hl'])
        have hor := hid (bits_orN (closeL (mv s) T (ls.take k)) (unionOf (mv s) T l) hcl (unionOf_lt _ _ _))
        have hzr := hb1.size
        have hgr := hid (hg.out.later hb1)
        have hTr := hid (hT.out.later hb1)
        have k1 : (0 : Int) ≤ (k : Int) ∧ (k : Int) < (ls.length : Int) := by omega
        replace hE := hid hE
        replace hl' := hid hl'
        go_wp2_with (refine (step_any (mv s) g T l _ hl6 (fun q => mv_lt s q l) hTl hTr.out hgr.out).mono ?_; rintro e w3 ⟨rfl, hb3⟩)
        have hb4 := hb1.trans (hb3.mono hzr)
        go_roundw
        case rel => exact ⟨k + 1, by go_num, by omega, by rw [hor.out, hcs.out], hb4⟩
        case measure => simp [intOf]; omega
      · obtain rfl : k = ls.length := by omega
        rw [List.take_length] at hcl ⊢
        have hge : T ≤ closeL (mv s) T ls := closeL_ge (mv s) T ls
        by_cases hfix : closeL (mv s) T ls = T
        · have hfin := hid (closeL_fix hs.out hTl hfix hbase.out hins.out hls2.out)
          have hd : ((closeL (mv s) T ls : Nat) == (T : Int)) = true := by rw [hfix]; simp
          replace hfix := hid hfix
          go_wp2
          go_ret
          exact ⟨ret_int (by rw [← hfin.out]), hb1⟩
        · have hd : (((closeL (mv s) T ls : Nat) : Int) == (T : Int)) = false := by simp; omega
          have hins2 := hid (closeL_inside hs.out hins.out hls1.out)
          have hbase2 : Hid (∀ x, S.testBit x = true → (closeL (mv s) T ls).testBit x = true) := hid fun x hx => (closeL_testBit _ _ _ _).2 (.inl (hbase.out x hx))
          have hlt' : T < closeL (mv s) T ls := by omega
          replace hfix := hid hfix
          go_wp2
          go_roundw
          case rel => exact ⟨_, rfl, hcl, hbase2.out, hins2.out, hb1⟩
          case measure => simp [intOf]; omega

end Go.Proofs.YtkoganldcmhopaaDoor

/- The program's TracesUpTo. -/
namespace Go.Proofs.YtkoganldcmhopaaDoor
open Go.RowKit Go.BigFrame Go.Maps AG

theorem zeroInt (w : World) : (zeroValue 3).run Tryd.prog w = .ok (.int .i64 0) w := by kernel_rfl

/-- An entry of a map that is written out: as a store. -/
theorem wpList_insert_own {H : Type} {P : Program} (w : World) {ops : Array Oper} {rest : List Oper} {o : Oper} {a : Act} {Q : Exit → Act → World → Prop}
    (hg : o.guard = none) (m x v : Operand) (t : TypeId) (hop : o.op = Op.insert t m x v)
    (k e : TypeId) (K : Keyed P k) (ht : P.underlying t = some (.map k e)) (R : Value → Option (DataW H × List MemPlace)) (b n : Nat) (D : DataW H)
    (hm : a.eval m = .map (some b)) (hown : w.ownsMap P k R b n D) (hn : n < maxLen) (key val : Value) (kl : Lit) (hx : a.eval x = key) (hv : a.eval v = val) (hkey : keyOf P k key = some kl)
    (d : DataW H) (ps : List MemPlace) (hval : R val = some (d, ps))
    (hK : ∀ w', w'.ownsMap P k R b (n + 1) (D.put kl d) → w.grownBy w' (some b) → wpList P ops Q rest (a.put o.dst undef) w') :
    wpList P ops Q (o :: rest) a w := by
  refine wpList_plain hg fun K' hK' => ?_
  obtain ⟨w', hrun, r1, r2⟩ := hown.update K ht hn hkey hval
  unfold Oper.wp
  simp [execOp, hop, hm, hx, hv, hrun, Result.andThen]
  exact hK' _ _ (hK w' r1 r2)

/-- A map reads as a function: no entry, no number. -/
structure MapFn (D : DataW Unit) (v : Nat → Nat) : Prop where
  isMap : Maps.IsMap D
  at_ : ∀ T : Nat, D.atKey (.int .i64 (T : Int)) (.lit (.int .i64 0)) = .lit (.int .i64 ((v T : Nat) : Int))
  has : ∀ kl, Maps.has D kl = true → ∃ T : Nat, kl = .int .i64 (T : Int) ∧ 0 < v T ∧ T ≠ 0 ∧ T < 65536
  pos : ∀ T : Nat, 0 < v T → Maps.has D (.int .i64 (T : Int)) = true
theorem MapFn.empty : MapFn (.map []) (fun _ => 0) :=
  ⟨Maps.isMap_empty, fun T => Maps.atKey_of_not_has rfl _, fun kl h => (by cases h), fun T h => (by cases h)⟩
theorem key_ne {x T : Nat} (h : x ≠ T) : Lit.int .i64 (x : Int) ≠ Lit.int .i64 (T : Int) := fun e => by
  injection e with _ e
  exact h (by omega)
theorem MapFn.put {D : DataW Unit} {v : Nat → Nat} (h : MapFn D v) {T c : Nat} (hT : T ≠ 0) (hT2 : T < 65536) (hc : 0 < c) :
    MapFn (D.put (.int .i64 (T : Int)) (.lit (.int .i64 ((v T + c : Nat) : Int)))) (fun x => if x = T then v T + c else v x) := by
  refine ⟨h.isMap.put _ _, fun x => ?_, fun kl hk => ?_, fun x hx => ?_⟩
  · by_cases e : x = T
    · subst e
      rw [Maps.atKey_put_same h.isMap (show WideAt.IsKeyLit (Lit.int .i64 (x : Int)) from trivial), if_pos rfl]
    · rw [Maps.atKey_put_other (key_ne e), h.at_ x, if_neg e]
  · by_cases e : kl = .int .i64 (T : Int)
    · exact ⟨T, e, by rw [if_pos rfl]; omega, hT, hT2⟩
    · rw [Maps.has_put_other e] at hk
      obtain ⟨x, h1, h2, h3, h4⟩ := h.has kl hk
      have : x ≠ T := fun e' => e (by rw [h1, e'])
      exact ⟨x, h1, by rw [if_neg this]; exact h2, h3, h4⟩
  · by_cases e : x = T
    · subst e
      exact Maps.has_put_same h.isMap (show WideAt.IsKeyLit (Lit.int .i64 (x : Int)) from trivial) _
    · rw [if_neg e] at hx
      rw [Maps.has_put_other (key_ne e)]
      exact h.pos x hx
theorem MapFn.congr {D : DataW Unit} {v v' : Nat → Nat} (h : MapFn D v) (e : ∀ T, v T = v' T) : MapFn D v' := by
  have : v = v' := funext e
  rw [← this]
  exact h
theorem grown_of_below {w w' : World} (hb : Below w.heap.size w w') : w.grownBy w' none := ⟨hb.os, hb.tape, hb.output, hb.size, fun i hi _ => hb.block i hi⟩

theorem wf64 {a : Int} (h1 : -9223372036854775808 ≤ a) (h2 : a ≤ 9223372036854775807) : (Lit.int .i64 a).wf = true := by
  unfold Lit.wf
  simp [IntKind.min, IntKind.max, IntKind.signed, IntKind.bits]
  omega

end Go.Proofs.YtkoganldcmhopaaDoor

/- The program's numbered: what is reached is numbered in the order in which it is met. -/
namespace Go.Proofs.YtkoganldcmhopaaDoor
open Go.RowKit Go.BigFrame Go.Maps AG

/-- Rows of numbers that are owned, each in a block of its own. -/
structure Fam3 (w : World) (base : Nat) (fs : List (Value × List Value)) : Prop where
  rows : ∀ f ∈ fs, w.ownsRow base 3 1 f.1 f.2.length f.2
  apart : fs.Pairwise fun f g => ∀ k, f.1.ownBlock = some k → g.1.ownBlock ≠ some k
theorem Fam3.keep {K : Nat → Prop} {w w' : World} {base : Nat} {fs : List (Value × List Value)} (h : Fam3 w base fs) (hk : KeepB K w w') (h2 : ∀ f ∈ fs, ∀ g, f.1.ownBlock = some g → ¬ K g) : Fam3 w' base fs :=
  ⟨fun f hf => own_keep (h.rows f hf) hk (h2 f hf), h.apart⟩
theorem Fam3.later {w w' : World} {base : Nat} {fs : List (Value × List Value)} (h : Fam3 w base fs) (hb : Below w.heap.size w w') : Fam3 w' base fs := h.keep (.of_below (K := fun _ => False) hb) fun _ _ _ _ h => h
theorem Fam3.app {w w1 : World} {base : Nat} {l1 l2 : List (Value × List Value)} {f : Value × List Value} {v' : Value} {ys' : List Value} {o : Obj} (h : Fam3 w base (l1 ++ f :: l2)) (hg : (w.alloc o).grownBy w1 f.1.ownBlock)
    (ho : w1.ownsRow base 3 1 v' ys'.length ys') (hat : v'.ownBlock = f.1.ownBlock ∨ v'.ownBlock = some (w.alloc o).heap.size) : Fam3 w1 base (l1 ++ (v', ys') :: l2) := by
  obtain ⟨h2, h3⟩ := h
  rw [List.pairwise_append, List.pairwise_cons] at h3
  have hkA : KeepB (fun b => f.1.ownBlock = some b) w w1 := ((KeepB.refl _ w).alloc o).grown hg fun k hk _ => hk
  have hlt : ∀ y ∈ l1 ++ f :: l2, ∀ g, y.1.ownBlock = some g → g < w.heap.size := fun y hy g e => ((h2 y hy).lt g e).2
  have hsz : w.heap.size < (w.alloc o).heap.size := by simp
  refine ⟨fun y hy => ?_, ?_⟩
  · rw [List.mem_append, List.mem_cons] at hy
    rcases hy with hy | rfl | hy
    · exact own_keep (h2 y (by simp [hy])) hkA fun g hg e => h3.2.2 y hy f List.mem_cons_self g hg e
    · exact ho
    · exact own_keep (h2 y (by simp [hy])) hkA fun g hg e => h3.2.1.1 y hy g e hg
  · rw [List.pairwise_append, List.pairwise_cons]
    refine ⟨h3.1, ⟨fun y hy k e e' => ?_, h3.2.1.2⟩, fun a ha b hb k e e' => ?_⟩
    · have := hlt y (by simp [hy]) k e'
      rcases hat with h | h
      · exact h3.2.1.1 y hy k (by rw [← h]; exact e) e'
      · rw [h] at e; injection e with e; omega
    · have := hlt a (by simp [ha]) k e
      rcases List.mem_cons.1 hb with rfl | hb
      · rcases hat with h | h
        · exact h3.2.2 a ha f List.mem_cons_self k e (by rw [← h]; exact e')
        · rw [h] at e'; injection e' with e'; omega
      · exact h3.2.2 a ha b (List.mem_cons_of_mem _ hb) k e e'
theorem Fam3.perm {w : World} {base : Nat} {fs gs : List (Value × List Value)} (h : Fam3 w base fs) (hp : fs.Perm gs) : Fam3 w base gs :=
  ⟨fun f hf => h.rows f (hp.mem_iff.2 hf), (hp.pairwise_iff (fun {a b} h k e e' => h k e' e)).1 h.apart⟩
theorem Fam3.nil_ {w : World} {base : Nat} {f : Value × List Value} {fs : List (Value × List Value)} (h : Fam3 w base (f :: fs)) : Fam3 w base (f :: (.slice none 0 0, []) :: fs) := by
  obtain ⟨h2, h3⟩ := h
  rw [List.pairwise_cons] at h3
  refine ⟨fun y hy => ?_, ?_⟩
  · rw [List.mem_cons, List.mem_cons] at hy
    rcases hy with rfl | rfl | hy
    · exact h2 _ List.mem_cons_self
    · exact World.ownsRow_nil _ _ _ _
    · exact h2 y (List.mem_cons_of_mem _ hy)
  · rw [List.pairwise_cons, List.pairwise_cons]
    refine ⟨fun y hy k e e' => ?_, ⟨fun y hy k e => (by cases e), h3.2⟩⟩
    rcases List.mem_cons.1 hy with rfl | hy
    · cases e'
    · exact h3.1 y hy k e e'
def famOf (xs : List RowV) : List (Value × List Value) := xs.map fun x => (x.v, intVals x.r)
theorem intVals_len (xs : List Int) : (intVals xs).length = xs.length := by unfold intVals; simp
theorem natVals_len (ns : List Nat) : (natVals ns).length = ns.length := by unfold natVals; simp
theorem natVals_int (ns : List Nat) : intVals (ns.map fun (n : Nat) => (n : Int)) = natVals ns := by unfold intVals natVals; simp
/-- The current row becomes a row of the table. -/
theorem Fam3.into {w : World} {base : Nat} {f : Value × List Value} {A : Option Addr} {c : Nat} {row : List Nat} {xs : List RowV} (h : Fam3 w base (f :: (.slice A row.length c, natVals row) :: famOf xs)) : Fam3 w base (f :: famOf (xs ++ [⟨row.map fun (n : Nat) => (n : Int), A, c⟩])) := by
  refine h.perm ?_
  unfold famOf
  rw [List.map_append]
  refine List.Perm.cons _ ?_
  have e : ((.slice A row.length c, natVals row) : Value × List Value) = (RowV.v ⟨row.map fun (n : Nat) => (n : Int), A, c⟩, intVals (row.map fun (n : Nat) => (n : Int))) := by
    unfold RowV.v
    rw [natVals_int]
    simp
  rw [e]
  exact (List.perm_append_singleton _ _).symm
theorem Fam3.rowsOwn {w : World} {base : Nat} {f : Value × List Value} {xs : List RowV} {v : Value} (h : Fam3 w base (f :: famOf xs)) (ho : w.ownsRow base 52 1 v xs.length (rowVals xs)) : RowsOwn w base v xs := by
  refine ⟨ho, fun x hx => ?_, ?_⟩
  · have := h.rows (x.v, intVals x.r) (List.mem_cons_of_mem _ (List.mem_map.2 ⟨x, hx, rfl⟩))
    rwa [intVals_len] at this
  · have := h.apart
    rw [List.pairwise_cons] at this
    unfold famOf at this
    exact (List.pairwise_map.1 this.2)

theorem own_ne_map {w : World} {base : Nat} {e : TypeId} {size : Nat} {v : Value} {n m B : Nat} {xs : List Value} {k : TypeId} {R : Value → Option (DataW Unit × List MemPlace)} {D : DataW Unit} (h : w.ownsRow base e size v n xs) (hm : w.ownsMap Tryd.prog k R B m D) : ∀ g, v.ownBlock = some g → g ≠ B := by
  intro g hg hB
  rcases h.2 with ⟨rfl, _⟩ | ⟨g', cap, cur, rfl, _, hgg, _⟩
  · cases hg
  · cases hg
    obtain ⟨es, clock, hb, _⟩ := hm
    subst hB
    rw [hb] at hgg
    cases hgg

/-- A map that has the numbers of the nodes. -/
structure MapIx (D : DataW Unit) (ns : List Nat) : Prop where
  isMap : Maps.IsMap D
  has : ∀ T : Nat, Maps.has D (.int .i64 (T : Int)) = decide (T ∈ ns)
  at_ : ∀ T ∈ ns, D.atKey (.int .i64 (T : Int)) (.lit (.int .i64 0)) = .lit (.int .i64 ((ns.idxOf T : Nat) : Int))
theorem MapIx.empty : MapIx (.map []) [] := ⟨Maps.isMap_empty, fun T => by simp; rfl, fun T h => (by cases h)⟩
theorem MapIx.put {D : DataW Unit} {ns : List Nat} (h : MapIx D ns) {T : Nat} (hT : T ∉ ns) : MapIx (D.put (.int .i64 (T : Int)) (.lit (.int .i64 ((ns.length : Nat) : Int)))) (ns ++ [T]) := by
  refine ⟨h.isMap.put _ _, fun x => ?_, fun x hx => ?_⟩
  · by_cases e : x = T
    · subst e
      rw [Maps.has_put_same h.isMap (show WideAt.IsKeyLit (Lit.int .i64 (x : Int)) from trivial)]
      simp
    · rw [Maps.has_put_other (key_ne e), h.has x]
      simp [e]
  · by_cases e : x = T
    · subst e
      rw [Maps.atKey_put_same h.isMap (show WideAt.IsKeyLit (Lit.int .i64 (x : Int)) from trivial), List.idxOf_append, if_neg hT]
      simp
    · have hx' : x ∈ ns := by
        rcases List.mem_append.1 hx with h | h
        · exact h
        · exact absurd (List.mem_singleton.1 h) e
      rw [Maps.atKey_put_other (key_ne e), h.at_ x hx', idxOf_pre hx']

/-- A step of the numbering, as a function value. -/
structure NumOk (w : World) (P : Nat → Prop) (L : List Nat) (nx : Nat → Nat → Nat) (fN : FuncId) (capN : Array Value) : Prop where
  run : ∀ args w', (callFunc fN args).run Tryd.prog w' = .ok (.enter fN args) w'
  call : ∀ w' q l, Below w.heap.size w w' → P q → l ∈ L → Calls Tryd.prog fN (#[.int .i64 (q : Nat), .int .i64 (l : Nat)] ++ capN) w' fun e w'' => e = .returned (.int .i64 (nx q l : Nat)) ∧ Below w'.heap.size w' w''
  next : ∀ q l, P q → l ∈ L → P (nx q l)
  small : ∀ q, P q → q ≤ 4294967296

def numV (v1 v2 : Value) (b : Bool) : Value := .tuple #[v1, v2, .bool b]
def NumPost (w : World) (o : Option (List Nat × List (List Nat))) (e : Ending) (w' : World) : Prop :=
  Below w.heap.size w w' ∧ match o with
    | some x => ∃ v1 v2 xs, e = .returned (numV v1 v2 true) ∧ OwnNats w' w.heap.size v1 x.1 ∧ RowsOwn w' w.heap.size v2 xs ∧ xs.map (·.r) = toRows x.2
    | none => e = .returned (numV (.slice none 0 0) (.slice none 0 0) false)
theorem infoInts : (Tryd.prog.info? 52).map (fun i => (i.zero, i.size, i.bytes)) = some (some (.slice none 0 0), 1, 24) := by kernel_rfl
theorem mapLaw2 : Keyed Tryd.prog 3 := int_keyed Tryd.underlying3

/-- What the numbering holds in memory. -/
structure NumMem (w wr : World) (B : Nat) (ns : List Nat) (vR : Value) (xs : List RowV) (fs : List (Value × List Value)) (m : Nat) (D : DataW Unit) : Prop where
  below : Below w.heap.size w wr
  fam : Fam3 wr w.heap.size fs
  tab : wr.ownsRow w.heap.size 52 1 vR xs.length (rowVals xs)
  map_ : wr.ownsMap Tryd.prog 3 (plainElem Tryd.prog 3) B m D
  ix : MapIx D ns
  num : m ≤ ns.length
  geB : w.heap.size ≤ B
theorem NumMem.later {w wr w' : World} {B : Nat} {ns : List Nat} {vR : Value} {xs : List RowV} {fs : List (Value × List Value)} {m : Nat} {D : DataW Unit} (h : NumMem w wr B ns vR xs fs m D) (hb : Below wr.heap.size wr w') : NumMem w w' B ns vR xs fs m D :=
  ⟨h.below.trans (hb.mono h.below.size), h.fam.later hb, own_later_ h.tab hb, h.map_.kept (grown_of_below hb) (by simp), h.ix, h.num, h.geB⟩
/-- A row of numbers is appended to. -/
theorem NumMem.app {w wr w1 : World} {B : Nat} {ns : List Nat} {vR : Value} {xs : List RowV} {l1 l2 : List (Value × List Value)} {f : Value × List Value} {v' : Value} {ys' : List Value} {o : Obj} {m : Nat} {D : DataW Unit} (h : NumMem w wr B ns vR xs (l1 ++ f :: l2) m D) (hg : (wr.alloc o).grownBy w1 f.1.ownBlock)
    (ho : w1.ownsRow w.heap.size 3 1 v' ys'.length ys') (hat : v'.ownBlock = f.1.ownBlock ∨ v'.ownBlock = some (wr.alloc o).heap.size) : NumMem w w1 B ns vR xs (l1 ++ (v', ys') :: l2) m D := by
  have hf := h.fam.rows f (by simp)
  have hkA : KeepB (fun b => f.1.ownBlock = some b) wr w1 := ((KeepB.refl _ wr).alloc o).grown hg fun k hk _ => hk
  refine ⟨hkA.below h.below h.below.size fun b e => own_block hf b e, h.fam.app hg ho hat, own_keep h.tab hkA fun g hg e => own_ne_own h.tab hf (by decide) g g hg e rfl, (h.map_.alloc o).kept hg fun e => own_ne_map hf h.map_ B e.symm rfl, h.ix, h.num, h.geB⟩
/-- A node gets its number. -/
theorem NumMem.put {w wr w1 : World} {B : Nat} {ns : List Nat} {vR : Value} {xs : List RowV} {fs : List (Value × List Value)} {m : Nat} {D : DataW Unit} {T : Nat} (h : NumMem w wr B ns vR xs fs m D) (hT : T ∉ ns) (hm : w1.ownsMap Tryd.prog 3 (plainElem Tryd.prog 3) B (m + 1) (D.put (.int .i64 (T : Int)) (.lit (.int .i64 ((ns.length : Nat) : Int))))) (hg : wr.grownBy w1 (some B)) :
    NumMem w w1 B (ns ++ [T]) vR xs fs (m + 1) (D.put (.int .i64 (T : Int)) (.lit (.int .i64 ((ns.length : Nat) : Int)))) := by
  have hkA : KeepB (fun b => b = B) wr w1 := (KeepB.refl _ wr).grown hg fun k hk _ => by injection hk with hk; exact hk.symm
  refine ⟨hkA.below h.below h.below.size fun b e => by rw [e]; exact h.geB, h.fam.keep hkA fun f hf g hg e => own_ne_map (h.fam.rows f hf) h.map_ g hg e, own_keep h.tab hkA fun g hg e => own_ne_map h.tab h.map_ g hg e, hm, h.ix.put hT, ?_, h.geB⟩
  have := h.num
  rw [List.length_append, List.length_singleton]
  omega
/-- The row goes into the table. -/
theorem NumMem.row {w wr w1 : World} {B : Nat} {ns row : List Nat} {vR vR' : Value} {xs : List RowV} {f : Value × List Value} {A : Option Addr} {c m : Nat} {D : DataW Unit} {o : Obj} (h : NumMem w wr B ns vR xs (f :: (.slice A row.length c, natVals row) :: famOf xs) m D) (hg : (wr.alloc o).grownBy w1 vR.ownBlock)
    (ho : w1.ownsRow w.heap.size 52 1 vR' (xs.length + 1) (rowVals xs ++ [.slice A row.length c])) : NumMem w w1 B ns vR' (xs ++ [⟨row.map fun (n : Nat) => (n : Int), A, c⟩]) (f :: famOf (xs ++ [⟨row.map fun (n : Nat) => (n : Int), A, c⟩])) m D := by
  have hkA : KeepB (fun b => vR.ownBlock = some b) wr w1 := ((KeepB.refl _ wr).alloc o).grown hg fun k hk _ => hk
  refine ⟨hkA.below h.below h.below.size fun b e => own_block h.tab b e, ?_, ?_, (h.map_.alloc o).kept hg fun e => own_ne_map h.tab h.map_ B e.symm rfl, h.ix, h.num, h.geB⟩
  · exact (h.fam.keep hkA fun f hf g hg e => own_ne_own h.tab (h.fam.rows f hf) (by decide) g g e hg rfl).into
  · unfold rowVals at ho ⊢
    rw [List.length_append, List.map_append]
    unfold RowV.v at ho ⊢
    simpa using ho

end Go.Proofs.YtkoganldcmhopaaDoor

/- The program's numbered: the walk. -/
namespace Go.Proofs.YtkoganldcmhopaaDoor
open Go.RowKit Go.BigFrame Go.Maps AG

theorem NumMem.fs {w wr : World} {B : Nat} {ns : List Nat} {vR : Value} {xs : List RowV} {fs fs' : List (Value × List Value)} {m : Nat} {D : DataW Unit} (h : NumMem w wr B ns vR xs fs m D) (hf : Fam3 wr w.heap.size fs → Fam3 wr w.heap.size fs')   : NumMem w wr B ns vR xs fs' m D :=
  ⟨h.below, hf h.fam, h.tab, h.map_, h.ix, h.num, h.geB⟩
theorem NumMem.own {w wr : World} {B : Nat} {ns : List Nat} {vR : Value} {xs : List RowV} {fs : List (Value × List Value)} {m : Nat} {D : DataW Unit} {v : Value} {row : List Nat} (h : NumMem w wr B ns vR xs fs m D) (hf : (v, natVals row) ∈ fs) : wr.ownsRow w.heap.size 3 1 v row.length (natVals row) := by
  have := h.fam.rows _ hf
  rwa [natVals_len] at this
theorem numRes_ends {nx : Nat → Nat → Nat} {L : List Nat} {n0 i lim : Nat} (hj : ∀ j, j < i → j < (nsAt nx L n0 j).length) (hle : (nsAt nx L n0 i).length ≤ i) (hlim : (nsAt nx L n0 i).length ≤ lim) : numRes nx L n0 lim = some (nsAt nx L n0 i, rowsTo nx L n0 i) := by
  have h1 : (nsAt nx L n0 i).length = i := by
    rcases Nat.lt_or_ge (nsAt nx L n0 i).length i with h | h
    · have h2 := hj (nsAt nx L n0 i).length h
      obtain ⟨mm, hm⟩ := nsAt_pre nx L n0 (nsAt nx L n0 i).length (i - (nsAt nx L n0 i).length)
      rw [show (nsAt nx L n0 i).length + (i - (nsAt nx L n0 i).length) = i from by omega] at hm
      have := congrArg List.length hm
      rw [List.length_append] at this
      omega
    · omega
  rw [numRes_done h1 (by omega), rowsTo_all i hj, List.take_of_length_le (by omega)]

set_option maxRecDepth 100000 in
set_option maxHeartbeats 16000000 in
theorem numbered_any (w : World) (P : Nat → Prop) (L : List Nat) (nx : Nat → Nat → Nat) (fN : FuncId) (capN : Array Value) (n0 lim : Nat) (A : Option Addr) (c : Nat) (hN : NumOk w P L nx fN capN) (h0 : P n0) (hlim : 1 ≤ lim) (hlim' : lim ≤ 4096) (hL6 : L.length ≤ 6) (hlc : L.length ≤ c) (hcm : c ≤ 9223372036854775807) (hA : NatsAt w w.heap.size A L) :
    Calls Tryd.prog 121 #[.int .i64 (n0 : Nat), .slice A L.length c, .int .i64 (lim : Nat), .func (.func fN) #[] capN] w (NumPost w (numRes nx L n0 lim)) := by
  have hcf := hN.run
  have hmm := @run_makeMap Tryd.prog
  obtain ⟨i0, hi, hz0, hz1, hz2⟩ := info_parts infoInt
  obtain ⟨j0, hj0, hy0, hy1, hy2⟩ := info_parts infoInts
  have hn0 := hN.small n0 h0
  have hPall : Hid (∀ i, ∀ a ∈ nsAt nx L n0 i, P a) := hid (nsAt_all h0 fun a ha l hl => hN.next a l ha hl)
  replace hA := hid hA
  replace h0 := hid h0
  go_enter Tryd.func121, Tryd.ntmps121
  go_upto_region 2 with fail
  have hmade := World.ownsMap_made (H := Unit) (w.alloc (.cells #[.int .i64 (n0 : Nat)] 3)) Tryd.prog 3 (plainElem Tryd.prog 3)
  go_wp2_with (refine wpList_insert_own _ rfl _ _ _ 153 rfl 3 3 mapLaw2 Tryd.underlying153 (plainElem Tryd.prog 3) (w.heap.size + 1) 0 _ rfl (by simpa using hmade) (by unfold maxLen; omega) _ _ (.int .i64 (n0 : Int)) rfl rfl (keyOf_int_mk Tryd.underlying3 (wf64 (by omega) (by omega))) (.lit (.int .i64 0)) [] (plainElem_int Tryd.underlying3 (by decide)) ?_)
  intro w3 hown3 hgrow3
  obtain ⟨B, hB⟩ : ∃ B, B = w.heap.size + 1 := ⟨_, rfl⟩
  rw [← hB] at hown3 hgrow3
  have hst3 : Hid (NumMem w w3 B [n0] (.slice none 0 0) [] ((.slice (some ⟨w.heap.size, 0, none⟩) 1 1, natVals [n0]) :: famOf []) 1 ((DataW.map []).put (Lit.int IntKind.i64 (n0 : Int)) (DataW.lit (Lit.int IntKind.i64 0)))) := hid (by
    have hbl : Below w.heap.size w ((w.alloc (.cells #[.int .i64 (n0 : Nat)] 3)).alloc (.map #[] 0)) := ((Below.refl _ _).alloc (Nat.le_refl _) _).alloc (by simp) _
    have hk : KeepB (fun b => b = B) ((w.alloc (.cells #[.int .i64 (n0 : Nat)] 3)).alloc (.map #[] 0)) w3 := (KeepB.refl _ _).grown hgrow3 fun k hk _ => by injection hk with hk; exact hk.symm
    have ho1 : ((w.alloc (.cells #[.int .i64 (n0 : Nat)] 3)).alloc (.map #[] 0)).ownsRow w.heap.size 3 1 (.slice (some ⟨w.heap.size, 0, none⟩) 1 1) 1 (natVals [n0]) := by
      refine World.ownsRow.alloc ?_ _
      exact ⟨rfl, .inr ⟨w.heap.size, 1, #[.int .i64 (n0 : Nat)], rfl, Nat.le_refl _, heap_alloc_self _ _, Nat.le_refl _, by unfold maxLen; omega, rfl, rfl⟩⟩
    have ho3 := own_keep ho1 hk fun g hg e => by injection hg with hg; simp at hg; omega
    refine ⟨hk.below hbl (by simp; omega) fun b e => by omega, ⟨fun f hf => ?_, ?_⟩, World.ownsRow_nil _ _ _ _, hown3, MapIx.empty.put (T := n0) (by simp), by simp, by omega⟩
    · rw [show famOf [] = [] from rfl, List.mem_singleton] at hf
      subst hf
      exact ho3
    · rw [show famOf [] = [] from rfl]
      exact List.pairwise_singleton _ _)
  clear hown3 hgrow3 hmade
  subst hB
  go_wp2_with fail
  go_loopw [11, 13, 14] (fun vN vR iv wr => ∃ (i : Nat) (AN : Option Addr) (cN : Nat) (xs : List RowV) (m : Nat) (D : DataW Unit), vN = .slice AN (nsAt nx L n0 i).length cN ∧ iv = .int .i64 (i : Nat) ∧ NumMem w wr (w.heap.size + 1) (nsAt nx L n0 i) vR xs ((.slice AN (nsAt nx L n0 i).length cN, natVals (nsAt nx L n0 i)) :: famOf xs) m D ∧ xs.map (·.r) = toRows (rowsTo nx L n0 i) ∧ (∀ j, j < i → j < (nsAt nx L n0 j).length) ∧ (nsAt nx L n0 i).length ≤ lim) (fun _ _ iv _ => lim - (intOf iv).toNat)
  case atStart => exact ⟨0, _, _, [], 1, _, rfl, rfl, hst3.out, rfl, fun j hj => by omega, hlim⟩
  case round =>
    clear hst3
    obtain ⟨i, AN, cN, xs, m, D, rfl, rfl, hst, hxs, hjs, hle⟩ := hrel
    have hxl : xs.length = i := by
      have := congrArg List.length hxs
      rw [List.length_map, toRows_len, rowsTo_len] at this
      exact this
    have hil : i ≤ lim := by
      rcases Nat.eq_zero_or_pos i with h | h
      · omega
      · have h1 := hjs (i - 1) (by omega)
        obtain ⟨mm, hm⟩ := nsAt_pre nx L n0 (i - 1) 1
        rw [show i - 1 + 1 = i from by omega] at hm
        have := congrArg List.length hm
        rw [List.length_append] at this
        omega
    have hxl4 : xs.length ≤ 4096 := by omega
    replace hxl := hid hxl
    replace hjs := hid hjs
    replace hxs := hid hxs
    by_cases hlt : i < (nsAt nx L n0 i).length
    · obtain ⟨a, ha⟩ : ∃ a, Hid ((nsAt nx L n0 i)[i]? = some a) := ⟨_, hid (List.getElem?_eq_getElem hlt)⟩
      have hns := hid (NumSt.start hlt ha.out)
      have hPa : Hid (P a) := hid (hPall.out i a (List.mem_of_getElem? ha.out))
      have ha32 := hN.small a hPa.out
      obtain ⟨AR, cR, hvR, -, -⟩ := own_slice hst.tab
      subst hvR
      have hst0 := hid (hst.fs Fam3.nil_)
      replace hst := hid hst
      obtain ⟨n1, hn1⟩ : ∃ n1, Hid (n1 = nsAt nx L n0 i) := ⟨_, hid rfl⟩
      rw [← hn1.out] at hlt hle hns hst0 ⊢
      go_wp2_with fail
      go_loopw [11, 15, 34] (fun vN vW kv wr => ∃ (k : Nat) (ns row : List Nat) (AN : Option Addr) (cN : Nat) (AW : Option Addr) (cW m : Nat) (D : DataW Unit), vN = .slice AN ns.length cN ∧ vW = .slice AW row.length cW ∧ kv = .int .i64 (k : Nat) ∧ NumSt nx L n0 i k ns row a ∧ NumMem w wr (w.heap.size + 1) ns (.slice AR xs.length cR) xs ((.slice AN ns.length cN, natVals ns) :: (.slice AW row.length cW, natVals row) :: famOf xs) m D ∧ ns.length ≤ lim) (fun _ _ kv _ => L.length - (intOf kv).toNat)
      case atStart => exact ⟨0, n1, [], AN, cN, none, 0, m, D, rfl, rfl, rfl, hns.out, hst0.out, hle⟩
      case round =>
        clear hst0 hns
        obtain ⟨k, ns, row, AN2, cN2, AW, cW, m2, D2, rfl, rfl, rfl, hns, hst2, hle2⟩ := hrel
        have hk := hns.hk
        have hrl : row.length = k := by
          rw [hns.hrow, List.length_map, List.length_take]
          omega
        have hrl6 : row.length ≤ 6 := by omega
        replace hrl := hid hrl
        have hBm := hst2.below
        have hnum := hst2.num
        have hszm := hBm.size
        have hmap := hst2.map_
        by_cases hkl : k < L.length
        · have hLr := hA.out.later hBm
          obtain ⟨bL, oL, hAe, hbL, hcL⟩ := hLr (by omega)
          subst hAe
          have l0 := hcL k hkl
          have hail : i < ns.length := by
            have h1 := hlt
            rw [hn1.out] at h1
            obtain ⟨mm, hm⟩ := rowN_pre nx a (L.take k) (nsAt nx L n0 i)
            rw [hns.hns, hm, List.length_append]
            omega
          have hani : ns[i]'hail = a := by
            obtain ⟨mm, hm⟩ := rowN_pre nx a (L.take k) (nsAt nx L n0 i)
            have h1 : ns[i]? = some a := by
              rw [hns.hns, hm, List.getElem?_append_left hns.hi]
              exact hns.ha
            rw [List.getElem?_eq_getElem hail] at h1
            injection h1
          have hoN := hst2.own (v := .slice AN2 ns.length cN2) (row := ns) List.mem_cons_self
          obtain ⟨gN, capN', hve, -, -, -, -, hcN⟩ := own_shape hoN (by omega)
          injection hve with e1 e2 e3
          subst e1
          subst e3
          clear e2
          have a0 := hcN i _ (show (natVals ns)[i]? = some (.int .i64 (a : Nat)) from by unfold natVals; simp [hail, hani])
          obtain ⟨l, hl⟩ : ∃ l, Hid (l = L[k]) := ⟨_, hid rfl⟩
          have hlL : Hid (l ∈ L) := hid (by rw [hl.out]; exact List.getElem_mem _)
          rw [← hl.out] at l0
          have hnx := hns.next hkl
          have hfull := fun hx hlm => hns.full (lim := lim) hkl hx hlm (by omega)
          rw [← hl.out] at hnx hfull
          have hx32 := hN.small _ (hN.next a l hPa.out hlL.out)
          obtain ⟨x, hx⟩ : ∃ x, Hid (x = nx a l) := ⟨_, hid rfl⟩
          rw [← hx.out] at hnx hfull hx32
          have k1 : (0 : Int) ≤ (k : Int) ∧ (k : Int) < (L.length : Int) ∧ (0 : Int) ≤ (i : Int) ∧ (i : Int) < (ns.length : Int) := by omega
          have hkey : keyOf Tryd.prog 3 (.int .i64 (x : Int)) = some (.int .i64 (x : Int)) := keyOf_int_mk Tryd.underlying3 (wf64 (by omega) (by omega))
          replace hfull := hid hfull
          replace hnx := hid hnx
          replace hani := hid hani
          replace hcL := hid hcL
          replace hLr := hid hLr
          replace hcN := hid hcN
          replace hns := hid hns
          replace hoN := hid hoN
          replace hBm := hid hBm
          replace hst2 := hid hst2
          replace hmap := hid hmap
          go_wp2_with fail
          refine (hN.call wr a l hBm.out hPa.out hlL.out).mono ?_
          rintro e w4 ⟨rfl, hb4⟩
          rw [← hx.out]
          have hst4 := hst2.out.later hb4
          have hmap4 := hst4.map_
          have hz4 := hst4.below.size
          clear l0 a0 hb4
          by_cases hmem : x ∈ ns
          · have hhas : Maps.has D2 (.int .i64 (x : Int)) = true := by rw [hst4.ix.has x]; exact decide_eq_true hmem
            have hix := hid (hst4.ix.at_ x hmem)
            have hadd : Hid (addN ns x = ns) := hid (by unfold addN; rw [if_pos hmem])
            obtain ⟨q, hq⟩ : ∃ q, Hid (q = ns.idxOf x) := ⟨_, hid rfl⟩
            have hql : q < ns.length := by rw [hq.out]; exact List.idxOf_lt_length_iff.2 hmem
            rw [← hq.out] at hix
            rw [hadd.out, ← hq.out] at hnx
            have hoW := hid (hst4.own (v := .slice AW row.length cW) (row := row) (List.mem_cons_of_mem _ List.mem_cons_self))
            replace hmem := hid hmem
            replace hst4 := hid hst4
            go_wp2_with (first
              | (at_lookup; refine wpList_lookup_own_ok_int _ rfl _ _ 153 rfl 3 3 .i64 mapLaw2 Tryd.underlying153 Tryd.underlying3 (zeroInt _) (w.heap.size + 1) m2 D2 rfl hmap4 _ _ rfl hkey ?_; intro c' hat' hwc'; obtain rfl : c' = (q : Int) := (by have e := hat'.symm.trans hix.out; injection e with e; injection e); rw [hhas])
              | (at_builtin; refine wpList_append_own_at _ rfl _ _ 52 rfl w.heap.size 3 i0 (.int .i64 0) 1 8 Tryd.underlying52 hi hz0 hz1 hz2 rfl (by decide) _ _ _ rfl (hoW.out.alloc _) ⟨w4.heap.size, 0, none⟩ 1 1 [.int .i64 (q : Nat)] rfl rfl (cell_one_new _ _ _) (by intro u hu; simp at hu; subst hu; rfl) (by unfold maxLen; omega) (by omega) (by simp; omega) ?_; intro v5 w5 hO5 hg5 _ hat5; obtain ⟨Av5, cv5, ev5, -, -⟩ := own_slice hO5; subst ev5; replace hO5 := hid hO5; replace hg5 := hid hg5; replace hat5 := hid hat5))
            have hst5 := hid (hst4.out.app (l1 := [(.slice (some ⟨gN, 0, none⟩) ns.length cN2, natVals ns)]) (ys' := natVals (row ++ [q])) hg5.out (by rw [natVals_len, List.length_append]; have := hO5.out; unfold natVals at this ⊢; simpa using this) hat5.out)
            clear hmap4
            go_roundw
            case rel => exact ⟨k + 1, ns, row ++ [q], _, _, _, _, m2, D2, rfl, by rw [List.length_append]; rfl, by go_num, hnx.out, by have := hst5.out; rw [List.length_append]; exact this, hle2⟩
            case measure => simp [intOf]; omega
          · have hhas : Maps.has D2 (.int .i64 (x : Int)) = false := by rw [hst4.ix.has x]; exact decide_eq_false hmem
            by_cases hfl : ns.length = lim
            · have hres := hid (hfull.out hmem (by omega))
              have hfb : ((ns.length : Int) == (lim : Int)) = true := by simp; omega
              have hBf := hst4.below
              replace hmem := hid hmem
              replace hfl := hid hfl
              replace hst4 := hid hst4
              go_wp2_with (at_lookup; refine wpList_lookup_own_ok_int _ rfl _ _ 153 rfl 3 3 .i64 mapLaw2 Tryd.underlying153 Tryd.underlying3 (zeroInt _) (w.heap.size + 1) m2 D2 rfl hmap4 _ _ rfl hkey ?_; intro c' hat' hwc'; rw [hhas])
              refine bodyPost_ret (v := numV (.slice none 0 0) (.slice none 0 0) false) (by simp [results, Tryd.results121, go_sem, numV]) rfl ⟨hBf, ?_⟩
              rw [hres.out]
            · have hfb : ((ns.length : Int) == (lim : Int)) = false := by simp; omega
              have hadd : Hid (addN ns x = ns ++ [x]) := hid (by unfold addN; rw [if_neg hmem])
              have hidx : Hid ((ns ++ [x]).idxOf x = ns.length) := hid (by rw [List.idxOf_append, if_neg hmem]; simp)
              rw [hadd.out, hidx.out] at hnx
              replace hfl := hid hfl
              have hst4' := hid hst4
              have hmem' := hid hmem
              clear hst4 hmem
              go_wp2_with (first
                | (at_lookup; refine wpList_lookup_own_ok_int _ rfl _ _ 153 rfl 3 3 .i64 mapLaw2 Tryd.underlying153 Tryd.underlying3 (zeroInt _) (w.heap.size + 1) m2 D2 rfl hmap4 _ _ rfl hkey ?_; intro c' hat' hwc'; rw [hhas])
                | (at_mapUpdate; refine wpList_mapUpdate_own _ rfl _ _ _ 153 rfl 3 3 mapLaw2 Tryd.underlying153 _ (w.heap.size + 1) m2 D2 rfl hmap4 (by unfold maxLen; omega) _ _ _ rfl rfl hkey _ [] (plainElem_int Tryd.underlying3 (wf64 (by omega) (by omega))) ?_; intro w9 hown9 hgrow9; have hst9 := hst4'.out.put hmem'.out hown9 hgrow9; have hoN9 := hid (hst9.own (v := .slice (some ⟨gN, 0, none⟩) ns.length cN2) (row := ns) List.mem_cons_self); have hz9 := hst9.below.size; replace hst9 := hid hst9; clear hown9 hgrow9 hmap4)
                | (at_builtin; refine wpList_append_own_at _ rfl _ _ 52 rfl w.heap.size 3 i0 (.int .i64 0) 1 8 Tryd.underlying52 hi hz0 hz1 hz2 rfl (by decide) _ _ _ rfl (hoW.out.alloc _) ⟨w5.heap.size, 0, none⟩ 1 1 [.int .i64 (ns.length : Nat)] rfl rfl (cell_one_new _ _ _) (by intro u hu; simp at hu; subst hu; rfl) (by unfold maxLen; omega) (by omega) (by simp; omega) ?_; intro v6 w6 hO6 hg6 _ hat6; obtain ⟨Av6, cv6, ev6, -, -⟩ := own_slice hO6; subst ev6; replace hO6 := hid hO6; replace hg6 := hid hg6; replace hat6 := hid hat6)
                | (at_builtin; refine wpList_append_own_at _ rfl _ _ 52 rfl w.heap.size 3 i0 (.int .i64 0) 1 8 Tryd.underlying52 hi hz0 hz1 hz2 rfl (by decide) _ _ _ rfl (hoN9.out.alloc _) ⟨w9.heap.size, 0, none⟩ 1 1 [.int .i64 (x : Nat)] rfl rfl (cell_one_new _ _ _) (by intro u hu; simp at hu; subst hu; rfl) (by unfold maxLen; omega) (by omega) (by simp; omega) ?_; intro v5 w5 hO5 hg5 _ hat5; obtain ⟨Av5, cv5, ev5, -, -⟩ := own_slice hO5; subst ev5; replace hO5 := hid hO5; replace hg5 := hid hg5; replace hat5 := hid hat5; have hst5 := hst9.out.app (l1 := []) (ys' := natVals (ns ++ [x])) hg5.out (by rw [natVals_len, List.length_append]; have := hO5.out; unfold natVals at this ⊢; simpa using this) hat5.out; have hoW := hid (hst5.own (v := .slice AW row.length cW) (row := row) (List.mem_cons_of_mem _ List.mem_cons_self)); have hz5 := hst5.below.size; replace hst5 := hid hst5))
              have hst6 := hid (hst5.out.app (l1 := [(.slice Av5 (ns.length + 1) cv5, natVals (ns ++ [x]))]) (ys' := natVals (row ++ [ns.length])) hg6.out (by rw [natVals_len, List.length_append]; have := hO6.out; unfold natVals at this ⊢; simpa using this) hat6.out)
              go_roundw
              case rel => exact ⟨k + 1, ns ++ [x], row ++ [ns.length], _, _, _, _, m2 + 1, _, by rw [List.length_append]; rfl, by rw [List.length_append]; rfl, by go_num, hnx.out, by have := hst6.out; rw [List.length_append, List.length_append]; exact this, by rw [List.length_append, List.length_singleton]; have := hfl.out; omega⟩
              case measure => simp [intOf]; omega
        · obtain rfl : k = L.length := by omega
          obtain ⟨hd1, hd2⟩ := hns.done
          have hoR := hid hst2.tab
          have hgi : (nsAt nx L n0 i).getD i 0 = a := by rw [List.getD_eq_getElem?_getD, ha.out]; rfl
          have hxs2 : Hid ((xs ++ [(⟨row.map fun (n : Nat) => (n : Int), AW, cW⟩ : RowV)]).map (·.r) = toRows (rowsTo nx L n0 (i + 1))) := hid (by
            rw [List.map_append, hxs.out]
            unfold toRows
            rw [rowsTo, List.map_append, hgi, ← hd2]
            rfl)
          have hjs2 : Hid (∀ j, j < i + 1 → j < (nsAt nx L n0 j).length) := hid fun j hj => by
            by_cases e : j = i
            · subst e; exact hns.hi
            · exact hjs.out j (by omega)
          replace hd1 := hid hd1
          replace hd2 := hid hd2
          replace hgi := hid hgi
          replace hns := hid hns
          replace hBm := hid hBm
          replace hst2 := hid hst2
          replace hmap := hid hmap
          go_wp2_with (at_builtin; refine wpList_append_own_at _ rfl _ _ 23 rfl w.heap.size 52 j0 (.slice none 0 0) 1 24 Tryd.underlying23 hj0 hy0 hy1 hy2 rfl (by decide) _ _ _ rfl (hoR.out.alloc _) ⟨wr.heap.size, 0, none⟩ 1 1 [.slice AW row.length cW] rfl rfl (cell_one_new _ _ _) (by intro u hu; simp at hu; subst hu; rfl) (by unfold maxLen; omega) (by omega) (by simp; omega) ?_; intro v5 w5 hO5 hg5 _ hat5; obtain ⟨Av5, cv5, ev5, -, -⟩ := own_slice hO5; subst ev5; replace hO5 := hid hO5; replace hg5 := hid hg5; replace hat5 := hid hat5)
          have hst5 := hid (hst2.out.row hg5.out (by have := hO5.out; simpa using this))
          go_roundw
          case rel =>
            have h5 := hst5.out
            rw [hd1.out] at h5
            exact ⟨i + 1, _, _, _, _, _, by rw [hd1.out], by go_num, h5, hxs2.out, hjs2.out, by rw [← hd1.out]; exact hle2⟩
          case measure => simp [intOf]; omega
    · have hres := hid (numRes_ends hjs.out (by omega) hle)
      have hoN := hid (hst.own (v := .slice AN (nsAt nx L n0 i).length cN) (row := nsAt nx L n0 i) List.mem_cons_self)
      have hro := hid (hst.fam.rowsOwn hst.tab)
      have hBf := hst.below
      replace hst := hid hst
      go_wp2_with fail
      refine bodyPost_ret (v := numV _ _ true) (by simp [results, Tryd.results121, go_sem, numV]; exact ⟨rfl, rfl⟩) rfl ⟨hBf, ?_⟩
      rw [hres.out]
      exact ⟨_, _, xs, rfl, hoN.out, hro.out, hxs.out⟩

end Go.Proofs.YtkoganldcmhopaaDoor

/- The program's ProjectSystem: its closure. -/
namespace Go.Proofs.YtkoganldcmhopaaDoor
open Go.RowKit Go.BigFrame Go.Maps AG

theorem andNot_all : ∀ a b : Fin 64, bits .andNot .i64 (a.val : Int) (b.val : Int) = (a.val : Int) - ((a.val &&& b.val : Nat) : Int) := by decide +kernel
theorem bits_andNot {a b : Int} (ha : 0 ≤ a ∧ a ≤ 63) (hb : 0 ≤ b ∧ b ≤ 63) : bits .andNot .i64 a b = hidA a b := by
  have := andNot_all ⟨a.toNat, by omega⟩ ⟨b.toNat, by omega⟩
  dsimp only at this
  rw [Int.toNat_of_nonneg ha.1, Int.toNat_of_nonneg hb.1] at this
  exact this
theorem hid_range {a b : Int} (ha : 0 ≤ a ∧ a ≤ 63) : 0 ≤ hidA a b ∧ hidA a b ≤ 63 := by
  have : a.toNat &&& b.toNat ≤ a.toNat := Nat.and_le_left
  unfold hidA andB
  omega
theorem hid_zero {a b : Int} : (hidA a b != 0) = !decide (andB b a = a) := by
  unfold hidA
  rw [andB_comm a b, Bool.eq_iff_iff]
  simp
  omega

set_option maxRecDepth 100000 in
set_option maxHeartbeats 4000000 in
theorem projStep_any (s : Sy) (h : Int) (g bM bH S l : Nat) (A : Option Addr) (c : Nat) (w : World) (hs : edgesIn s) (hS : S < 65536) (hl : l < 6) (hlc : (letters h).length ≤ c) (hcm : c ≤ 9223372036854775807) (hT : Tab w) (hg : MvAt w w.heap.size g (mv s)) (hL : NatsAt w w.heap.size A (letters h))
    (hM : w.cell? ⟨bM, 0, none⟩ = some (.pointer (some ⟨g, 0, none⟩))) (hH : w.cell? ⟨bH, 0, none⟩ = some (.slice A (letters h).length c)) :
    Calls Tryd.prog 123 #[.int .i64 (S : Nat), .int .i64 (l : Nat), .pointer (some ⟨bM, 0, none⟩), .pointer (some ⟨bH, 0, none⟩)] w fun e w' => e = .returned (.int .i64 (prNx s h S l : Nat)) ∧ Below w.heap.size w w' := by
  obtain ⟨X, hX⟩ : ∃ X, Hid (X = unionOf (mv s) S l) := ⟨_, hid rfl⟩
  obtain ⟨Y, hY⟩ : ∃ Y, Hid (Y = reachSet s h X) := ⟨_, hid rfl⟩
  have hXl : X < 65536 := by rw [hX.out]; exact unionOf_lt _ _ _
  have hXY : Hid (prNx s h S l = Y) := hid (by rw [hY.out, hX.out, unionOf_mv s hs]; rfl)
  have y0 : ∀ x, (Fam w.heap.size w x).cell? ⟨bM, 0, none⟩ = some (.pointer (some ⟨g, 0, none⟩)) := fun x => by rw [(Fam.below _ _ x).cell (World.block_lt_of_cell? _ _ hM)]; exact hM
  have y1 : ∀ x, (Fam w.heap.size w x).cell? ⟨bH, 0, none⟩ = some (.slice A (letters h).length c) := fun x => by rw [(Fam.below _ _ x).cell (World.block_lt_of_cell? _ _ hH)]; exact hH
  replace hT := hid hT
  replace hg := hid hg
  replace hL := hid hL
  replace hs := hid hs
  clear hM hH
  go_enter Tryd.func123, Tryd.ntmps123
  go_wp2_with fail
  refine wp_region_grow 8 w.heap.size w (fun i u _ => if i = 4 then u = .int .i64 (X : Nat) else u = .int .i64 (Y : Nat)) (by kernel_rfl) (by kernel_rfl) (Nat.le_refl _) (Below.refl _ _) ?_
  simp only [List.take_succ_cons, List.take_zero, List.drop_succ_cons, List.drop_zero]
  (repeat (refine grow_quiet (by rfl) (by rfl) (by rfl) ?_; intro K hK; go_big_quiet_op; go_big_quiet_on))
  refine grow_val (.int .i64 (X : Nat)) (by rfl) (by rfl) rfl (fun wq hbq _ => ?_) ?_
  · go_simp
    refine ⟨rfl, ?_⟩
    rw [hX.out]
    exact step_any (mv s) g S l wq hl (fun p => mv_lt s p l) hS (hT.out.later hbq) (hg.out.later hbq)
  simp only [Act.put, List.setIfInBounds_toArray, List.set_cons_zero, List.set_cons_succ]
  (repeat (refine grow_quiet (by rfl) (by rfl) (by rfl) ?_; intro K hK; go_big_quiet_op; go_big_quiet_on))
  refine grow_val (.int .i64 (Y : Nat)) (by rfl) (by rfl) rfl (fun wq hbq _ => ?_) ?_
  · go_simp
    refine ⟨rfl, ?_⟩
    rw [hY.out]
    exact closure_any s h g X A c wq hs.out hXl hlc hcm (hT.out.later hbq) (hg.out.later hbq) (hL.out.later hbq)
  simp only [Act.put, List.setIfInBounds_toArray, List.set_cons_zero, List.set_cons_succ]
  (repeat (refine grow_quiet (by rfl) (by rfl) (by rfl) ?_; intro K hK; go_big_quiet_op; go_big_quiet_on))
  refine grow_nil ?_
  intro w1 hb1 hf
  clear hf y0 y1
  go_wp2
  go_ret
  exact ⟨by rw [hXY.out]; rfl, hb1⟩

/-- What is behind a projection. -/
def PrPost (w : World) (a : Au) (ok : Bool) (e : Ending) (w' : World) : Prop :=
  Below w.heap.size w w' ∧ ∃ v1 v2 xs, e = .returned (.tuple #[.agg #[.int .i64 a.al, v1, v2], .bool ok]) ∧ AuOwn w' w.heap.size v1 v2 a xs
theorem AuOwn.nil (w : World) (base : Nat) : AuOwn w base (.slice none 0 0) (.slice none 0 0) auNil [] :=
  ⟨⟨World.ownsRow_nil _ _ _ _, fun x hx => (by cases hx), List.Pairwise.nil⟩, rfl, World.ownsRow_nil _ _ _ _⟩
theorem AuOwn.setFar {w : World} {base : Nat} {v1 v2 : Value} {a : Au} {xs : List RowV} (h : AuOwn w base v1 v2 a xs) {g i : Nat} (hg : g < base) (v : Value) : AuOwn (w.setCell ⟨g, i, none⟩ v) base v1 v2 a xs := by
  have hk : KeepB (fun b => b = g) w (w.setCell ⟨g, i, none⟩ v) := (KeepB.refl _ w).setCell _ _ fun _ => rfl
  exact ⟨h.rows.keep hk (fun b hb e => by have := own_block h.rows.own b hb; omega) (fun x hx b hb e => by have := own_block (h.rows.rows x hx) b hb; omega), h.eq, own_keep h.acc hk fun b hb e => by have := own_block h.acc b hb; omega⟩

end Go.Proofs.YtkoganldcmhopaaDoor

/- The program's ProjectSystem and Determinize. -/
namespace Go.Proofs.YtkoganldcmhopaaDoor
open Go.RowKit Go.BigFrame Go.Maps AG

theorem infoBool : (Tryd.prog.info? 4).map (fun i => (i.zero, i.size, i.bytes)) = some (some (.bool false), 1, 1) := by kernel_rfl
set_option maxRecDepth 100000 in
set_option maxHeartbeats 8000000 in
theorem implProjectSystem_any (s : Sy) (A : Option Addr) (c : Nat) (al : Int) (w : World) (hl : s.es.length ≤ c) (hc : c ≤ 9223372036854775807) (hT : Tab w) (hr : EdsAt w w.heap.size A s.es) :
    Calls Tryd.prog 64 #[s.val A c, .int .i64 al] w (PrPost w (prA s al) (prK s al)) := by
  unfold Sy.val
  obtain ⟨b0, hbi, hb0, hb1', hb2⟩ := info_parts infoBool
  obtain ⟨w0, hw0, hz0, hB0, hS, hU⟩ := boxed2 w #[Value.int IntKind.i64 s.al, Value.int IntKind.i64 s.st, Value.slice A s.es.length c] 30 #[Value.int IntKind.i64 0, Value.slice none 0 0, Value.slice none 0 0] 26
  have hres : Blk w0 (w.heap.size + 1) 26 #[Value.int IntKind.i64 0, Value.slice none 0 0, Value.slice none 0 0] := by
    rw [← hw0]
    have := Blk.new (w.alloc (.cells #[Value.int IntKind.i64 s.al, Value.int IntKind.i64 s.st, Value.slice A s.es.length c] 30)) 26 #[Value.int IntKind.i64 0, Value.slice none 0 0, Value.slice none 0 0]
    simpa using this
  have hr0 := hid (hr.later hB0)
  have hT0 := hid (hT.later hB0)
  have p0 := hS 0 _ rfl _ (Below.refl _ _)
  have p1 := hS 1 _ rfl _ (Below.refl _ _)
  have p2 := hS 2 _ rfl _ (Below.refl _ _)
  replace hr := hid hr
  replace hT := hid hT
  replace hres := hid hres
  go_enter Tryd.func64, Tryd.ntmps64
  go_wp2_with fail
  refine (implSystemValid_any s A c w0 hl hc hr0.out).mono ?_
  rintro e w1 ⟨rfl, hb1⟩
  have hC1 := hb1.mono hz0
  have hB1 := hB0.trans (hb1.mono hB0.size)
  have hz1 := hb1.size
  clear p0 p1 p2
  have q0 := (hres.out.below hb1 hres.out.lt).cell 0
  have q1 := (hres.out.below hb1 hres.out.lt).cell 1
  have q2 := (hres.out.below hb1 hres.out.lt).cell 2
  have f0 := (hres.out.below hb1 hres.out.lt).frozen 0
  have f1 := (hres.out.below hb1 hres.out.lt).frozen 1
  have f2 := (hres.out.below hb1 hres.out.lt).frozen 2
  simp only [List.getElem?_toArray, List.getElem?_cons_zero, List.getElem?_cons_succ] at q0 q1 q2
  cases hok : sysOk s
  case false =>
    have hbad := hid (prA_bad (s := s) (al := al) (by unfold prOk; rw [hok]; rfl))
    replace hok := hid hok
    go_wp2
    refine bodyPost_ret (v := .tuple #[.agg #[.int .i64 0, .slice none 0 0, .slice none 0 0], .bool false]) (by simp [results, Tryd.results64, go_sem, q0, q1, q2]) rfl ?_
    rw [hbad.out.1, hbad.out.2]
    exact ⟨by (repeat (first | exact Below.refl _ _ | assumption | refine Below.drew ?_ | refine Below.alloc ?_ (by first | omega | (simp; done) | (simp; omega)) _ | refine Below.setCell ?_ (by first | omega | (simp; done) | (simp; omega)) _)), _, _, _, rfl, AuOwn.nil _ _⟩
  case true =>
  have hin := hid (sysOk_in hok)
  have hal := sysOk_alpha hok
  have hok' := hid hok
  clear hok
  go_wp2_with fail
  refine (isAlphabet_any al w1).mono ?_
  rintro e w2 ⟨rfl, rfl⟩
  have p0 := hS 0 _ rfl _ hC1
  have p1 := hS 1 _ rfl _ hC1
  have p2 := hS 2 _ rfl _ hC1
  by_cases haa : 0 ≤ al ∧ al ≤ 63
  case neg =>
    have ha' : alphaOk al = false := decide_eq_false haa
    have hbad := hid (prA_bad (s := s) (al := al) (by unfold prOk; rw [ha']; simp))
    replace haa := hid haa
    rw [ha']
    go_wp2
    refine bodyPost_ret (v := .tuple #[.agg #[.int .i64 0, .slice none 0 0, .slice none 0 0], .bool false]) (by simp [results, Tryd.results64, go_sem, q0, q1, q2]) rfl ?_
    rw [hbad.out.1, hbad.out.2]
    exact ⟨by (repeat (first | exact Below.refl _ _ | assumption | refine Below.drew ?_ | refine Below.alloc ?_ (by first | omega | (simp; done) | (simp; omega)) _ | refine Below.setCell ?_ (by first | omega | (simp; done) | (simp; omega)) _)), _, _, _, rfl, AuOwn.nil _ _⟩
  have haT : alphaOk al = true := decide_eq_true haa
  rw [haT]
  have hbn := bits_andNot haa hal
  have hzz := hid_zero (a := al) (b := s.al)
  by_cases han : andB s.al al = al
  case neg =>
    have ha' : decide (andB s.al al = al) = false := decide_eq_false han
    rw [ha'] at hzz
    have hbad := hid (prA_bad (s := s) (al := al) (by unfold prOk; rw [ha']; simp))
    replace han := hid han
    replace hbn := hid hbn
    go_wp2_with (rw [hbn.out])
    refine bodyPost_ret (v := .tuple #[.agg #[.int .i64 0, .slice none 0 0, .slice none 0 0], .bool false]) (by simp [results, Tryd.results64, go_sem, q0, q1, q2]) rfl ?_
    rw [hbad.out.1, hbad.out.2]
    exact ⟨by (repeat (first | exact Below.refl _ _ | assumption | refine Below.drew ?_ | refine Below.alloc ?_ (by first | omega | (simp; done) | (simp; omega)) _ | refine Below.setCell ?_ (by first | omega | (simp; done) | (simp; omega)) _)), _, _, _, rfl, AuOwn.nil _ _⟩
  rw [decide_eq_true han] at hzz
  have hpk : Hid (prOk s al = true) := hid (by unfold prOk; rw [hok'.out, haT, decide_eq_true han]; rfl)
  replace han := hid han
  go_wp2_with fail
  have hr1 := hid (hr0.out.later hb1)
  refine (movesOf_any s A c w1 hin.out hl hc hr1.out).mono ?_
  rintro e w3 ⟨g, rfl, hg3, hb3⟩
  have hB3 := hB1.trans (hb3.mono hB1.size)
  have hC3 := hC1.trans (hb3.mono (by omega))
  have hz3 := hb3.size
  have hbn2 := bits_andNot hal haa
  clear p0 p1 p2 q0 q1 q2 f0 f1 f2
  have p0 := hS 0 _ rfl _ hC3
  replace hg3 := hid hg3
  go_upto_region 4 with fail
  obtain ⟨w4, hw4, hz4, hB4, hC4⟩ := boxed w3 #[.pointer (some ⟨g, 0, none⟩)] 104
  rw [hw4]
  clear p0
  have p0 := hS 0 _ rfl _ (hC3.trans (hB4.mono (by omega)))
  have hB4' := hB3.trans (hB4.mono hB3.size)
  have hT4 := hid (hT.out.later hB4')
  clear hw4
  go_wp2_with fail
  refine (lettersOf_any (hidA s.al al) w4).mono ?_
  rintro e w5 ⟨lv, rfl, hown5, hb5⟩
  obtain ⟨AH, cH, rfl, hcH, hcH', hLH⟩ := OwnNats.read hown5
  have hB5 := hB4'.trans (hb5.mono hB4'.size)
  have hz5 := hb5.size
  replace hLH := hid hLH
  clear hown5 p0
  go_upto_region 5 with fail
  obtain ⟨w6, hw6, hz6, hB6, hC6⟩ := boxed w5 #[.slice AH (letters (hidA s.al al)).length cH] 52
  rw [hw6]
  clear hw6
  have hB6' := hB5.trans (hB6.mono hB5.size)
  have m0 : w6.cell? ⟨w3.heap.size, 0, none⟩ = some (.pointer (some ⟨g, 0, none⟩)) := hC4 0 _ rfl _ ((hb5.mono hz4).trans (hB6.mono (by omega)))
  have m1 : w6.cell? ⟨w5.heap.size, 0, none⟩ = some (.slice AH (letters (hidA s.al al)).length cH) := hC6 0 _ rfl _ (Below.refl _ _)
  have hT6 := hid (hT.out.later hB6')
  have hg6 := hid (((hg3.out.later hB4).later hb5).later hB6)
  have hL6 := hid (hLH.out.later hB6)
  go_wp2_with fail
  refine (closure_any s (hidA s.al al) g 1 AH cH w6 hin.out (by omega) hcH hcH' hT6.out hg6.out hL6.out).mono ?_
  rintro e w7 ⟨rfl, hb7⟩
  have hB7 := hB6'.trans (hb7.mono hB6'.size)
  have hz7 := hb7.size
  obtain ⟨n0, hn0⟩ : ∃ n0, Hid (n0 = reachSet s (hidA s.al al) 1) := ⟨_, hid rfl⟩
  rw [← hn0.out]
  go_wp2_with fail
  refine (lettersOf_any al w7).mono ?_
  rintro e w8 ⟨lv, rfl, hown8, hb8⟩
  obtain ⟨AL, cL, rfl, hcL, hcL', hLL⟩ := OwnNats.read hown8
  have hB8 := hB7.trans (hb8.mono hB7.size)
  have hz8 := hb8.size
  have hb68 := hb7.trans (hb8.mono hz7)
  have hNum : Hid (NumOk w8 (fun q => q < 65536) (letters al) (prNx s (hidA s.al al)) 123 #[.pointer (some ⟨w3.heap.size, 0, none⟩), .pointer (some ⟨w5.heap.size, 0, none⟩)]) := hid
    ⟨fun args w' => by go_simp, fun w' q l hb hq hl => projStep_any s (hidA s.al al) g w3.heap.size w5.heap.size q l AH cH w' hin.out hq (letters_lt hl).1 hcH hcH' (hT6.out.later (hb68.trans (hb.mono hb68.size))) (hg6.out.later (hb68.trans (hb.mono hb68.size))) (hL6.out.later (hb68.trans (hb.mono hb68.size)))
      (((hb68.trans (hb.mono hb68.size)).cell (World.block_lt_of_cell? _ _ m0)).trans m0) (((hb68.trans (hb.mono hb68.size)).cell (World.block_lt_of_cell? _ _ m1)).trans m1), fun q l _ _ => reachSet_lt _ _ _, fun q hq => by omega⟩
  have hLL' := hid hLL
  clear hown8 hLL m0 m1
  go_wp2_with fail
  refine (numbered_any w8 (fun q => q < 65536) (letters al) (prNx s (hidA s.al al)) 123 _ n0 12 AL cL hNum.out (by rw [hn0.out]; exact reachSet_lt _ _ _) (by omega) (by omega) (lettersTo_len al 6) hcL hcL' hLL'.out).mono ?_
  rintro e w9 ⟨hb9, hpost⟩
  have hB9 := hB8.trans (hb9.mono hB8.size)
  have hz9 := hb9.size
  have hres9 := hres.out.below (hb1.trans ((hb3.trans ((hB4.trans ((hb5.trans ((hB6.trans (hb68.mono hB6.size |>.trans (hb9.mono (by omega)))).mono hz5)).mono hB4.size)).mono hz3)).mono hz1)) hres.out.lt
  have q0 := hres9.cell 0
  have q1 := hres9.cell 1
  have q2 := hres9.cell 2
  have f0 := hres9.frozen 0
  have f1 := hres9.frozen 1
  have f2 := hres9.frozen 2
  simp only [List.getElem?_toArray, List.getElem?_cons_zero, List.getElem?_cons_succ] at q0 q1 q2
  replace hres9 := hid hres9
  have hnum : Hid (prNum s al = numRes (prNx s (hidA s.al al)) (letters al) n0 12) := hid (by rw [hn0.out]; rfl)
  rw [← hnum.out] at hpost
  cases hpn : prNum s al with
  | none =>
    rw [hpn] at hpost
    subst hpost
    have hbad := hid (prA_none (s := s) (al := al) hpn)
    replace hpn := hid hpn
    unfold numV
    go_wp2
    refine bodyPost_ret (v := .tuple #[.agg #[.int .i64 0, .slice none 0 0, .slice none 0 0], .bool false]) (by simp [results, Tryd.results64, go_sem, q0, q1, q2]) rfl ?_
    rw [hbad.out.1, hbad.out.2]
    exact ⟨by (repeat (first | exact Below.refl _ _ | assumption | refine Below.drew ?_ | refine Below.alloc ?_ (by first | omega | (simp; done) | (simp; omega)) _ | refine Below.setCell ?_ (by first | omega | (simp; done) | (simp; omega)) _)), _, _, _, rfl, AuOwn.nil _ _⟩
  | some x =>
    rw [hpn] at hpost
    obtain ⟨v1, v2, xs, rfl, hv1, hv2, hxs⟩ := hpost
    have hgood := hid (prA_some (s := s) (al := al) hpk.out hpn)
    replace hpn := hid hpn
    obtain ⟨AS, cS, rfl, hcS, hcS', hLS⟩ := OwnNats.read hv1
    obtain ⟨AR, cR, rfl, hcR, hcR'⟩ := own_slice hv2.own
    unfold numV
    replace hv1 := hid hv1
    replace hv2 := hid hv2
    replace hLS := hid hLS
    go_wp2_with fail
    have hblk0 := hid (Blk.new w9 26 #[.int .i64 al, .slice AR xs.length cR, .slice none 0 0])
    have hxl : x.1.length ≤ 12 := (numRes_len (hpn.out)).1
    go_loopw [56] (fun iv wr => ∃ (k : Nat) (vA : Value), iv = .int .i64 (k : Nat) ∧ k ≤ x.1.length ∧ Blk wr w9.heap.size 26 #[.int .i64 al, .slice AR xs.length cR, vA] ∧ wr.ownsRow w9.heap.size 4 1 vA k (boolVals ((x.1.take k).map fun S => decide (S ≠ 0))) ∧ Below w9.heap.size w9 wr) (fun iv _ => x.1.length - (intOf iv).toNat)
    case atStart => exact ⟨0, _, rfl, by omega, hblk0.out, World.ownsRow_nil _ _ _ _, (Below.refl _ _).alloc (Nat.le_refl _) _⟩
    case round =>
      clear hblk0 q0 q1 q2 f0 f1 f2
      obtain ⟨k, vA, rfl, hk, hblk, hown, hb⟩ := hrel
      have hzr := hb.size
      obtain ⟨AA, cA, rfl, hcA, hcA'⟩ := own_slice hown
      by_cases hlt : k < x.1.length
      · obtain ⟨bS, oS, hAS, hbS, hcell⟩ := hLS.out.later hb (by omega)
        subst hAS
        have s0 := hcell k hlt
        obtain ⟨S, hS'⟩ : ∃ S, Hid (S = x.1[k]) := ⟨_, hid rfl⟩
        rw [← hS'.out] at s0
        obtain ⟨tb, htb⟩ : ∃ tb, ((S : Int) != 0) = tb := ⟨_, rfl⟩
        have d2 := hblk.cell 2
        simp only [List.getElem?_toArray, List.getElem?_cons_zero, List.getElem?_cons_succ] at d2
        have k1 : (0 : Int) ≤ (k : Int) ∧ (k : Int) < (x.1.length : Int) := by omega
        replace hcell := hid hcell
        have hblk' := hid hblk
        have hown' := hid hown
        clear hblk hown
        go_wp2_with (at_builtin; refine wpList_append_own_at _ rfl _ _ 24 rfl w9.heap.size 4 b0 (.bool false) 1 1 Tryd.underlying24 hbi hb0 hb1' hb2 rfl (by decide) _ _ _ rfl (hown'.out.alloc _) ⟨wr.heap.size, 0, none⟩ 1 1 [.bool tb] rfl rfl (cell_one_new _ _ _) (by intro u hu; simp at hu; subst hu; rfl) (by unfold maxLen; omega) (by omega) (by simp; omega) ?_; intro v5 w5 hO5 hg5 _ hat5; obtain ⟨A5, c5, ev5, -, -⟩ := own_slice hO5; subst ev5; have hk5 := (hb.alloc hzr _).grown hg5 (by simp; omega) (own_block hown'.out); have hbk5 : Blk w5 w9.heap.size 26 #[.int .i64 al, .slice AR xs.length cR, .slice AA k cA] := (hblk'.out.alloc _).keep ((KeepB.refl (fun b => (Value.slice AA k cA).ownBlock = some b) _).grown hg5 (fun k hk _ => hk)) (fun e => own_ne hown'.out hblk'.out (by decide) _ e rfl); have e2 := hbk5.cell 2; have g2 := hbk5.frozen 2; simp only [List.getElem?_toArray, List.getElem?_cons_zero, List.getElem?_cons_succ] at e2; replace hbk5 := hid hbk5; replace hO5 := hid hO5; replace hg5 := hid hg5)
        have hbk6 := hid (hbk5.out.set_ 2 (.slice A5 (k + 1) c5))
        have hO6 := hid (own_keep hO5.out ((KeepB.refl (fun b => b = w9.heap.size) w5).setCell ⟨w9.heap.size, 2, none⟩ (.slice A5 (k + 1) c5) fun _ => rfl) (own_ne hO5.out hbk5.out (by decide)))
        have hb6 := hid (hk5.setCell (p := ⟨w9.heap.size, 2, none⟩) (Nat.le_refl _) (.slice A5 (k + 1) c5))
        go_roundw
        case rel =>
          refine ⟨k + 1, _, by go_num, by omega, by simpa using hbk6.out, ?_, hb6.out⟩
          have := hO6.out
          rw [List.take_succ_eq_append_getElem hlt, List.map_append, ← hS'.out]
          unfold boolVals at this ⊢
          rw [List.map_append]
          have hSb : ((S : Int) != 0) = decide (S ≠ 0) := by rw [Bool.eq_iff_iff]; simp
          rw [← htb, hSb] at this
          exact this
        case measure => simp [intOf]; omega
      · obtain rfl : k = x.1.length := by omega
        rw [List.take_length] at hown
        have d0 := hblk.cell 0
        have d1 := hblk.cell 1
        have d2 := hblk.cell 2
        simp only [List.getElem?_toArray, List.getElem?_cons_zero, List.getElem?_cons_succ] at d0 d1 d2
        have hresr := hres9.out.below hb hres9.out.lt
        have q0 := hresr.cell 0
        have q1 := hresr.cell 1
        have q2 := hresr.cell 2
        have f0 := hresr.frozen 0
        have f1 := hresr.frozen 1
        have f2 := hresr.frozen 2
        simp only [List.getElem?_toArray, List.getElem?_cons_zero, List.getElem?_cons_succ] at q0 q1 q2
        have hsz := hb.size
        have hz1' : w.heap.size + 1 < w8.heap.size := by omega
        have hau : Hid (AuOwn wr w8.heap.size (.slice AR xs.length cR) (.slice AA x.1.length cA) (prAu al x) xs) := hid ⟨hv2.out.later hb, by rw [hxs]; rfl, by
          unfold prAu
          dsimp only
          rw [List.length_map]
          exact own_base hown (by omega)⟩
        have hBr := hB9.trans (hb.mono hB9.size)
        replace hblk := hid hblk
        replace hown := hid hown
        replace hresr := hid hresr
        go_wp2
        refine bodyPost_ret (v := .tuple #[.agg #[.int .i64 al, .slice AR xs.length cR, .slice AA x.1.length cA], .bool true]) (by simp [results, Tryd.results64, go_sem, q0, q1, q2]) rfl ?_
        rw [hgood.out.1, hgood.out.2]
        exact ⟨by (repeat (first | exact Below.refl _ _ | assumption | refine Below.drew ?_ | refine Below.alloc ?_ (by first | omega | (simp; done) | (simp; omega)) _ | refine Below.setCell ?_ (by first | omega | (simp; done) | (simp; omega)) _)), _, _, xs, rfl, (((hau.out.setFar hz1' _).setFar hz1' _).setFar hz1' _).base (by omega)⟩

end Go.Proofs.YtkoganldcmhopaaDoor

/- The reference's SystemValid returns sysOk. -/
namespace Go.Proofs.YtkoganldcmhopaaDoor
open Go.RowKit Go.BigFrame AG

attribute [local go_sem] Fam.below

set_option maxHeartbeats 1000000 in
theorem specSystemValid_any (s : Sy) (A : Option Addr) (c : Nat) (w : World) (hl : s.es.length ≤ c) (hc : c ≤ 9223372036854775807) (hr : EdsAt w w.heap.size A s.es) :
    Calls Tryd.prog 91 #[s.val A c] w fun e w' => e = .returned (.bool (sysOk s)) ∧ Below w.heap.size w w' := by
  unfold Sy.val
  by_cases ha : alphaOk s.al = true
  · by_cases h1 : 1 ≤ s.st ∧ s.st ≤ 16
    · obtain ⟨h1, h2⟩ := h1
      go_enter Tryd.func91, Tryd.ntmps91
      go_wp2_with (go_at_call 115; refine (l1Alphabet_any _ _).mono ?_; rintro e w' ⟨rfl, rfl⟩)
      obtain ⟨w0, hw0, hz0, hB0, hS0, hS1, hS2⟩ := boxed3 w (Value.int IntKind.i64 s.al) (Value.int IntKind.i64 s.st) (Value.slice A s.es.length c) 30
      rw [hw0]
      replace hw0 := hid hw0
      go_loopw [3] (fun i wr => ∃ k : Nat, i = .int .i64 k ∧ k ≤ s.es.length ∧ edgesOkTo s.al s.st s.es k ∧ Below (w.heap.size + 1) w0 wr) (fun i _ => s.es.length - (intOf i).toNat)
      case atStart => exact ⟨0, rfl, by omega, by intro i _ h; omega, Below.refl _ _⟩
      case round =>
        obtain ⟨k, rfl, hk, hok, hb⟩ := hrel
        by_cases hlt : k < s.es.length
        · obtain ⟨b, o, rfl, hB, hE⟩ := hr.get hB0 (Nat.le_succ w.heap.size) hlt
          obtain ⟨e0, e1, e2⟩ := hE k hlt
          have hnot : ¬ edgesOkTo s.al s.st s.es (k + 1) → sysOk s = false := fun h => by
            unfold sysOk
            rw [decide_eq_false_iff_not]
            rintro ⟨_, _, _, h'⟩
            exact h fun i hi _ => h' i hi hi
          by_cases hek : edgeOk s.al s.st s.es[k] = true
          · by_cases hk0 : k = 0
            · subst hk0
              simp only [Nat.zero_mul, Nat.add_zero] at e0 e1 e2
              have hok' : edgesOkTo s.al s.st s.es (0 + 1) := fun i hi hi' => by
                obtain rfl : i = 0 := by omega
                exact ⟨hek, fun j _ h => by omega⟩
              replace hE := hid hE
              replace hr := hid hr
              replace hok := hid hok
              replace hok' := hid hok'
              replace hnot := hid hnot
              replace hek := hid hek
              go_wp2_with fail
              refine wp_region_fam _ _ (by kernel_rfl) (by kernel_rfl) hb ?_
              repeat (go_big_quiet_step ((refine (l2Edge_any _ _ s.es[0] _).mono ?_; rintro e w1 ⟨rfl, hb1⟩; exact ⟨by rw [hek.out], Fam.next hz0 hb1⟩)))
              refine wpQuiet_nil ?_
              intro w2 hw2
              replace hw2 := Fam.out hw2
              go_wp2
              go_roundw
              case rel => exact ⟨1, by go_num, by omega, hok'.out, hw2⟩
              case measure => simp [intOf]; omega
            · obtain ⟨j, rfl⟩ : ∃ j, k = j + 1 := ⟨k - 1, by omega⟩
              obtain ⟨p0, p1, p2⟩ := hE j (by omega)
              replace hE := hid hE
              replace hr := hid hr
              have hyes : edgeLt s.es[j] s.es[j + 1] = true → edgesOkTo s.al s.st s.es (j + 1 + 1) := fun h i hi hi' => by
                by_cases e : i = j + 1
                · subst e
                  exact ⟨hek, fun m hm e => by obtain rfl : m = j := by omega
                                               exact h⟩
                · exact hok i hi (by omega)
              cases hlt' : edgeLt s.es[j] s.es[j + 1]
              all_goals
                replace hok := hid hok
                replace hnot := hid hnot
                replace hyes := hid hyes
                replace hek := hid hek
                replace hlt' := hid hlt'
                go_wp2_with fail
                refine wp_region_fam _ _ (by kernel_rfl) (by kernel_rfl) hb ?_
                repeat (go_big_quiet_step (first | (go_at_call 146; refine (l2Edge_any _ _ s.es[j + 1] _).mono ?_; rintro e w1 ⟨rfl, hb1⟩; exact ⟨by rw [hek.out], Fam.next hz0 hb1⟩) | (go_at_call 147; refine (l2Before_any s.es[j] s.es[j + 1] _).mono ?_; rintro e w1 ⟨rfl, hb1⟩; exact ⟨by rw [hlt'.out], Fam.next hz0 hb1⟩)))
                refine wpQuiet_nil ?_
                intro w2 hw2
                replace hw2 := Fam.out hw2
                go_wp2
              · go_ret
                have hfin := hnot.out fun h => by have := (h (j + 1) hlt (by omega)).2 j (by omega) rfl; rw [hlt'.out] at this; cases this
                exact ⟨by rw [hfin]; rfl, hB0.trans (hw2.mono (by omega))⟩
              · go_roundw
                case rel => exact ⟨j + 1 + 1, by go_num, by omega, hyes.out hlt'.out, hw2⟩
                case measure => simp [intOf]; omega
          · replace hE := hid hE
            replace hr := hid hr
            replace hok := hid hok
            replace hek : edgeOk s.al s.st s.es[k] = false := by simpa using hek
            have hfin := hid (hnot fun h => by have := (h k hlt (by omega)).1; rw [this] at hek; cases hek)
            clear hnot
            replace hek := hid hek
            go_wp2_with fail
            refine wp_region_fam _ _ (by kernel_rfl) (by kernel_rfl) hb ?_
            repeat (go_big_quiet_step ((refine (l2Edge_any _ _ s.es[k] _).mono ?_; rintro e w1 ⟨rfl, hb1⟩; exact ⟨by rw [hek.out], Fam.next hz0 hb1⟩)))
            refine wpQuiet_nil ?_
            intro w2 hw2
            replace hw2 := Fam.out hw2
            go_wp2
            go_ret
            exact ⟨by rw [hfin.out]; rfl, hB0.trans (hw2.mono (by omega))⟩
        · have hfin : Hid (sysOk s = true) := hid (by
            unfold sysOk
            rw [decide_eq_true_iff]
            exact ⟨ha, h1, h2, fun i hi hi' => hok i hi (by omega)⟩)
          replace hok := hid hok
          go_wp2
          go_ret
          exact ⟨by rw [hfin.out]; rfl, hB0.trans (hb.mono (by omega))⟩
    · have hfin : Hid (sysOk s = false) := hid (by
        unfold sysOk
        rw [decide_eq_false_iff_not]
        rintro ⟨_, h2, h3, _⟩
        omega)
      go_enter Tryd.func91, Tryd.ntmps91
      go_wp2_with (go_at_call 115; refine (l1Alphabet_any _ _).mono ?_; rintro e w' ⟨rfl, rfl⟩)
      all_goals
        go_ret
        exact ⟨by rw [hfin.out]; rfl, by (repeat (first | exact Below.refl _ _ | assumption | refine Below.drew ?_ | refine Below.alloc ?_ (by first | omega | (simp; done) | (simp; omega)) _ | refine Below.setCell ?_ (by first | omega | (simp; done) | (simp; omega)) _))⟩
  · have hfin : Hid (sysOk s = false) := hid (by
      unfold sysOk
      rw [decide_eq_false_iff_not]
      rintro ⟨h, _⟩
      exact ha h)
    go_enter Tryd.func91, Tryd.ntmps91
    go_wp2_with (go_at_call 115; refine (l1Alphabet_any _ _).mono ?_; rintro e w' ⟨rfl, rfl⟩)
    all_goals
      go_ret
      exact ⟨by rw [hfin.out]; rfl, by (repeat (first | exact Below.refl _ _ | assumption | refine Below.drew ?_ | refine Below.alloc ?_ (by first | omega | (simp; done) | (simp; omega)) _ | refine Below.setCell ?_ (by first | omega | (simp; done) | (simp; omega)) _))⟩

end Go.Proofs.YtkoganldcmhopaaDoor

/- The reference's reached states. -/
namespace Go.Proofs.YtkoganldcmhopaaDoor
open Go.RowKit Go.BigFrame AG

def boolOf : Value → Nat | .bool true => 1 | _ => 0

set_option maxHeartbeats 400000 in
theorem l1Bit_any (n : Nat) (w : World) (h : n ≤ 61) :
    Calls Tryd.prog 119 #[.int .i64 n] w fun e w' => e = .returned (.int .i64 ((2 ^ n : Nat) : Int)) ∧ w = w' := by
  go_enter Tryd.func119, Tryd.ntmps119
  go_wp2
  go_ret
  exact ⟨ret_int (wrap_pow h), rfl⟩

theorem l1Bit_int (n : Int) (w : World) (h0 : 0 ≤ n) (h : n ≤ 61) :
    Calls Tryd.prog 119 #[.int .i64 n] w fun e w' => e = .returned (.int .i64 ((2 ^ n.toNat : Nat) : Int)) ∧ w = w' := by
  obtain ⟨m, rfl⟩ := Int.eq_ofNat_of_zero_le h0
  exact l1Bit_any m w (by omega)

set_option maxHeartbeats 1000000 in
theorem l2Reach_any (s : Sy) (A : Option Addr) (c : Nat) (S : Nat) (al : Int) (w : World) (hs : edgesIn s) (hS : S < 65536) (hl : s.es.length ≤ c) (hc : c ≤ 9223372036854775807) (hr : EdsAt w w.heap.size A s.es) :
    Calls Tryd.prog 148 #[s.val A c, .int .i64 S, .int .i64 al] w fun e w' => e = .returned (.int .i64 (reachSet s al S : Nat)) ∧ Below w.heap.size w w' := by
  unfold Sy.val
  replace hr := hid hr
  replace hs := hid hs
  go_enter Tryd.func148, Tryd.ntmps148
  go_wp2_with fail
  obtain ⟨w0, hw0, hz0, hB0, hS0, hS1, hS2⟩ := boxed3 w (Value.int IntKind.i64 s.al) (Value.int IntKind.i64 s.st) (Value.slice A s.es.length c) 30
  rw [hw0]
  clear hw0
  go_loopw [1, 7] (fun st m wr => ∃ (T : Nat) (T0 : Nat) (more : Bool), st = .int .i64 T ∧ m = .bool more ∧ (more = true → T < 65536 ∧ (∀ x, S.testBit x = true → T.testBit x = true) ∧ ∀ x, T.testBit x = true → Rch s al S x) ∧ (more = false → Pass s al S T0 T s.es.length false) ∧ Below (w.heap.size + 1) w0 wr) (fun st m _ => 65536 - (intOf st).toNat + boolOf m)
  case atStart => exact ⟨S, 0, true, rfl, rfl, fun _ => ⟨hS, fun _ h => h, fun _ h => Rch.start h⟩, fun h => (by cases h), Below.refl _ _⟩
  case round =>
    obtain ⟨T, T0, more, rfl, rfl, h1, h2, hb⟩ := hrel
    cases more with
    | false =>
      have hfin := hid (h2 rfl).done
      clear h1 h2
      go_wp2
      go_ret
      exact ⟨by rw [← hfin.out]; rfl, hB0.trans (hb.mono (by omega))⟩
    | true =>
      obtain ⟨hT, h3, h4⟩ := h1 rfl
      have hp := hid (Pass.start (A := al) hT h3 h4)
      clear h1 h2 h3 h4
      go_wp2
      obtain ⟨wo, rfl⟩ : ∃ wo : World, wo = wr := ⟨_, rfl⟩
      go_loopw [1, 7, 8] (fun st m i wr => ∃ (U k : Nat) (more : Bool), st = .int .i64 U ∧ m = .bool more ∧ i = .int .i64 k ∧ k ≤ s.es.length ∧ Pass s al S T U k more ∧ Below (w.heap.size + 1) w0 wr) (fun _ _ i _ => s.es.length - (intOf i).toNat)
      case atStart => exact ⟨T, 0, false, rfl, rfl, rfl, by omega, hp.out, hb⟩
      case round =>
        obtain ⟨U, k, more, rfl, rfl, rfl, hk, hps, hb1⟩ := hrel
        by_cases hlt : k < s.es.length
        · obtain ⟨b, o, rfl, hB, hE⟩ := hr.out.get hB0 (Nat.le_succ w.heap.size) hlt
          obtain ⟨e0, e1, e2⟩ := hE k hlt
          obtain ⟨f1, f2, f3, f4, f5, f6, f7, _⟩ := hs.out s.es[k] (List.getElem_mem _)
          have hU := hps.lt
          have hzr : w.heap.size + 1 ≤ wr.heap.size := Nat.le_trans hz0 hb1.size
          have hw3 := hid (bits_orN U (2 ^ s.es[k].t.toNat) (by omega) (by have := Nat.pow_lt_pow_right (a := 2) (by omega) (show s.es[k].t.toNat < 16 by omega); omega))
          replace hE := hid hE
          replace hps := hid hps
          go_wp2_with (first | (go_at_call 117; refine (l1Has_any _ _ _ (by omega) (by omega)).mono ?_; rintro e w' ⟨rfl, rfl⟩) | (go_at_call 119; refine (l1Bit_int _ _ (by omega) (by omega)).mono ?_; rintro e w' ⟨rfl, rfl⟩))
          · go_roundw
            case rel =>
              refine ⟨U ||| 2 ^ s.es[k].t.toNat, k + 1, true, ?_, rfl, by go_num, by omega, hps.out.add hs.out hlt (by assumption) (by rw [← Has_nat]; assumption) (by rw [← Has_nat]; simp_all), by (repeat (first | exact Below.refl _ _ | assumption | refine Below.drew ?_ | refine Below.alloc ?_ (by first | omega | (simp; done) | (simp; omega)) _ | refine Below.setCell ?_ (by first | omega | (simp; done) | (simp; omega)) _))⟩
              rw [← hw3.out, Int.natCast_pow]
              rfl
            case measure => simp [intOf]; omega
          all_goals
            go_roundw
            case rel => exact ⟨U, k + 1, more, rfl, rfl, by go_num, by omega, hps.out.skip hlt (by rw [← Has_nat, ← Has_nat]; simp_all), by (repeat (first | exact Below.refl _ _ | assumption | refine Below.drew ?_ | refine Below.alloc ?_ (by first | omega | (simp; done) | (simp; omega)) _ | refine Below.setCell ?_ (by first | omega | (simp; done) | (simp; omega)) _))⟩
            case measure => simp [intOf]; omega
        · obtain rfl : k = s.es.length := by omega
          replace hps := hid hps
          go_wp2
          go_roundw
          case rel =>
            refine ⟨U, T, more, rfl, rfl, fun hm => ⟨hps.out.lt, hps.out.base, hps.out.inside⟩, fun hm => ?_, hb1⟩
            subst hm
            exact hps.out
          case measure =>
            have h1 := hps.out.moved
            have h2 := hps.out.lt
            cases more with
            | true => have := h1 rfl; simp [intOf, boolOf]; omega
            | false => have := (hps.out.unmoved rfl).1; subst this; simp [intOf, boolOf]


end Go.Proofs.YtkoganldcmhopaaDoor

/- The reference's l2Step, l6Comparable. -/
namespace Go.Proofs.YtkoganldcmhopaaDoor
open Go.RowKit Go.BigFrame AG

set_option maxHeartbeats 1000000 in
theorem l2Step_any (s : Sy) (A : Option Addr) (c : Nat) (S : Nat) (l : Int) (w : World) (hs : edgesIn s) (hl : s.es.length ≤ c) (hc : c ≤ 9223372036854775807) (hr : EdsAt w w.heap.size A s.es) :
    Calls Tryd.prog 149 #[s.val A c, .int .i64 S, .int .i64 l] w fun e w' => e = .returned (.int .i64 (stepSet s S l : Nat)) ∧ Below w.heap.size w w' := by
  unfold Sy.val
  replace hr := hid hr
  replace hs := hid hs
  go_enter Tryd.func149, Tryd.ntmps149
  go_wp2_with fail
  obtain ⟨w0, hw0, hz0, hB0, hS0, hS1, hS2⟩ := boxed3 w (Value.int IntKind.i64 s.al) (Value.int IntKind.i64 s.st) (Value.slice A s.es.length c) 30
  rw [hw0]
  clear hw0
  go_loopw [7, 8] (fun st i wr => ∃ (U k : Nat), st = .int .i64 U ∧ i = .int .i64 k ∧ k ≤ s.es.length ∧ U = stTo s S l k ∧ Below (w.heap.size + 1) w0 wr) (fun _ i _ => s.es.length - (intOf i).toNat)
  case atStart => exact ⟨0, 0, rfl, rfl, by omega, (stTo_zero s S l).symm, Below.refl _ _⟩
  case round =>
    obtain ⟨U, k, rfl, rfl, hk, hU, hb1⟩ := hrel
    have hUl := stTo_lt s S l k
    rw [← hU] at hUl
    replace hU := hid hU
    have q0 := hS0 _ hb1
    have q1 := hS1 _ hb1
    have q2 := hS2 _ hb1
    by_cases hlt : k < s.es.length
    · obtain ⟨b, o, rfl, hB, hE⟩ := hr.out.get hB0 (Nat.le_succ w.heap.size) hlt
      obtain ⟨e0, e1, e2⟩ := hE k hlt
      replace e0 := e0 _ hb1
      replace e1 := e1 _ hb1
      replace e2 := e2 _ hb1
      obtain ⟨f1, f2, f3, f4, f5, f6, f7, _⟩ := hs.out s.es[k] (List.getElem_mem _)
      have hw3 := hid (bits_orN U (2 ^ s.es[k].t.toNat) (by omega) (by have := Nat.pow_lt_pow_right (a := 2) (by omega) (show s.es[k].t.toNat < 16 by omega); omega))
      replace hE := hid hE
      go_wp2_with (first | (go_at_call 117; refine (l1Has_any _ _ _ (by omega) (by omega)).mono ?_; rintro e w' ⟨rfl, rfl⟩) | (go_at_call 119; refine (l1Bit_int _ _ (by omega) (by omega)).mono ?_; rintro e w' ⟨rfl, rfl⟩))
      · go_roundw
        case rel =>
          refine ⟨U ||| 2 ^ s.es[k].t.toNat, k + 1, ?_, by go_num, by omega, ?_, by (repeat (first | exact Below.refl _ _ | assumption | refine Below.drew ?_ | refine Below.alloc ?_ (by first | omega | (simp; done) | (simp; omega)) _ | refine Below.setCell ?_ (by first | omega | (simp; done) | (simp; omega)) _))⟩
          · rw [← hw3.out, Int.natCast_pow]
            rfl
          · rw [stTo_hit hs.out hlt (by assumption) (by rw [← Has_nat]; assumption), hU.out]
        case measure => simp [intOf]; omega
      all_goals
        go_roundw
        case rel => exact ⟨U, k + 1, rfl, by go_num, by omega, by rw [stTo_miss hlt (by rw [← Has_nat]; simp_all), hU.out], by (repeat (first | exact Below.refl _ _ | assumption | refine Below.drew ?_ | refine Below.alloc ?_ (by first | omega | (simp; done) | (simp; omega)) _ | refine Below.setCell ?_ (by first | omega | (simp; done) | (simp; omega)) _))⟩
        case measure => simp [intOf]; omega
    · obtain rfl : k = s.es.length := by omega
      rw [stTo_all] at hU
      go_wp2
      go_ret
      exact ⟨by rw [← hU.out]; rfl, hB0.trans (hb1.mono (by omega))⟩

end Go.Proofs.YtkoganldcmhopaaDoor
