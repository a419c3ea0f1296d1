/- The library's slices.Reverse at bytes; the program's pathWord. -/
import Derived.Test.YtnchoiljcdicdaaDoorW20
import Derived.Test.YtnchoiljcdicdaaDoorOwn
import Derived.BigRegion
import Derived.RegionTactic
import Derived.Test.YtnchoiljcdicdaaDoorMathC
namespace Go.Proofs.YtnchoiljcdicdaaDoor
open Go.RowKit Go.BigFrame AG

/-- xs with its first k and its last k elements exchanged. -/
def revTo (xs : List Nat) (k p : Nat) : Option Value := (if p < k ∨ xs.length ≤ p + k then xs[xs.length - 1 - p]? else xs[p]?).map fun b => Value.int .u8 (b : Nat)
theorem revTo_at {xs : List Nat} {k p : Nat} (h : ¬ (p < k ∨ xs.length ≤ p + k)) (hp : p < xs.length) : revTo xs k p = some (.int .u8 (xs[p] : Nat)) := by unfold revTo; rw [if_neg h]; simp [hp]
theorem revTo_swap {xs : List Nat} {k p : Nat} (h : p < k ∨ xs.length ≤ p + k) (q : Nat) (hq : q < xs.length) (e : xs.length - 1 - p = q) : revTo xs k p = some (.int .u8 (xs[q] : Nat)) := by unfold revTo; rw [if_pos h, e]; simp [hq]

theorem grown_two {w : World} {g : Nat} (i j : Nat) (u v : Value) : w.grownBy ((w.setCell ⟨g, i, none⟩ u).setCell ⟨g, j, none⟩ v).drew (some g) :=
  ⟨rfl, rfl, rfl, by simp, fun k _ hne => by
    have hk : k ≠ g := fun e => hne (by rw [e])
    show ((w.setCell ⟨g, i, none⟩ u).setCell ⟨g, j, none⟩ v).heap[k]? = _
    rw [Below.heap_setCell _ _ _ _ hk, Below.heap_setCell _ _ _ _ hk]⟩

set_option maxHeartbeats 2000000 in
theorem reverseBytes_any (g n c : Nat) (xs : List Nat) (cs : Array Value) (w : World) (hx : xs.length = n) (hn : n ≤ c) (hc : c ≤ 9223372036854775807) (hb : Blk w g 5 cs) (hs : n ≤ cs.size) (hcs : ∀ i (h : i < xs.length), cs[i]? = some (.int .u8 (xs[i] : Nat))) :
    Calls Tryd.prog 58 #[.slice (some ⟨g, 0, none⟩) n c] w fun e w' => e = .returned (.tuple #[]) ∧ w.grownBy w' (some g) ∧ ∃ cs', Blk w' g 5 cs' ∧ cs'.size = cs.size ∧ ∀ i (h : i < xs.length), cs'[i]? = some (.int .u8 (xs.reverse[i]'(by simpa using h) : Nat)) := by
  subst hx
  have hstart : Hid (∀ p, p < xs.length → cs[p]? = revTo xs 0 p) := hid fun p hp => by
    rw [revTo_at (by omega) hp, hcs p hp]
  replace hb := hid hb
  replace hcs := hid hcs
  go_enter Tryd.func58, Tryd.ntmps58
  go_wp2_with fail
  go_loopw [2, 3] (fun iv jv wr => ∃ (k : Nat) (cs' : Array Value), iv = .int .i64 k ∧ jv = .int .i64 ((xs.length : Int) - 1 - k) ∧ 2 * k ≤ xs.length + 1 ∧ Blk wr g 5 cs' ∧ cs'.size = cs.size ∧ (∀ p, p < xs.length → cs'[p]? = revTo xs k p) ∧ w.grownBy wr (some g)) (fun iv _ _ => xs.length - (intOf iv).toNat)
  case atStart => exact ⟨0, cs, rfl, by simp, by omega, hb.out, rfl, hstart.out, ⟨rfl, rfl, rfl, Nat.le_refl _, fun _ _ _ => rfl⟩⟩
  case round =>
    obtain ⟨k, cs', rfl, rfl, hk, hblk, hsz, hrev, hgr⟩ := hrel
    by_cases hlt : 2 * k + 1 < xs.length
    · obtain ⟨j, hj⟩ : ∃ j, j + k + 1 = xs.length := ⟨xs.length - 1 - k, by omega⟩
      have e1 : ((xs.length : Int) - 1 - k) = (j : Int) := by omega
      rw [e1]
      have hkj : k < j := by omega
      have hk1 : k < xs.length := by omega
      have hj1 : j < xs.length := by omega
      have ck := hblk.cell k
      have cj := hblk.cell j
      rw [hrev k hk1, revTo_at (by omega) hk1] at ck
      rw [hrev j hj1, revTo_at (by omega) hj1] at cj
      have zk := hblk.frozen k
      have zj := hblk.frozen j
      have hnx : Hid (∀ p, p < xs.length → ((cs'.setIfInBounds k (.int .u8 (xs[j] : Nat))).setIfInBounds j (.int .u8 (xs[k] : Nat)))[p]? = revTo xs (k + 1) p) := hid fun p hp => by
        have hrp := hrev p hp
        by_cases h1 : p = j
        · subst h1
          rw [Array.getElem?_setIfInBounds_self_of_lt (by simp; omega), revTo_swap (by omega) k hk1 (by omega)]
        · rw [Array.getElem?_setIfInBounds_ne (Ne.symm h1)]
          by_cases h2 : p = k
          · subst h2
            rw [Array.getElem?_setIfInBounds_self_of_lt (by omega), revTo_swap (by omega) j hj1 (by omega)]
          · rw [Array.getElem?_setIfInBounds_ne (Ne.symm h2), hrp]
            by_cases h3 : p < k ∨ xs.length ≤ p + k
            · rw [revTo_swap h3 (xs.length - 1 - p) (by omega) rfl, revTo_swap (by omega) (xs.length - 1 - p) (by omega) rfl]
            · rw [revTo_at h3 hp, revTo_at (by omega) hp]
      obtain ⟨a, ha⟩ : ∃ a, a = xs[k] := ⟨_, rfl⟩
      obtain ⟨b, hb'⟩ : ∃ b, b = xs[j] := ⟨_, rfl⟩
      rw [← ha] at ck
      rw [← hb'] at cj
      replace ha := hid ha
      replace hb' := hid hb'
      replace hrev := hid hrev
      replace hblk := hid hblk
      replace hsz := hid hsz
      have i1 : (0 : Int) ≤ (k : Int) := by omega
      have i2 : (k : Int) < (xs.length : Int) := by omega
      have i3 : (0 : Int) ≤ (j : Int) := by omega
      have i4 : (j : Int) < (xs.length : Int) := by omega
      have i5 : (k : Int) < (j : Int) := by omega
      clear e1
      go_wp2_with fail
      go_region
      go_wp2
      go_roundw
      case rel =>
        refine ⟨k + 1, _, by go_num, ?_, by omega, (hblk.out.set_ _ _).set_ _ _, by simp; exact hsz.out, by rw [ha.out, hb'.out]; exact hnx.out, hgr.trans (grown_two _ _ _ _)⟩
        rw [show ((xs.length : Int) - 1 - ((k + 1 : Nat) : Int)) = (j : Int) - 1 from by omega]
      case measure => simp [intOf]; omega
    · have hfin : Hid (∀ i (h : i < xs.length), cs'[i]? = some (.int .u8 (xs.reverse[i]'(by simpa using h) : Nat))) := hid fun i hi => by
        rw [hrev i hi, List.getElem_reverse]
        by_cases h3 : i < k ∨ xs.length ≤ i + k
        · rw [revTo_swap h3 (xs.length - 1 - i) (by omega) rfl]
        · rw [revTo_at h3 hi]
          simp only [show xs.length - 1 - i = i from by omega]
      replace hrev := hid hrev
      replace hblk := hid hblk
      replace hsz := hid hsz
      have hge : ¬ ((k : Int) < (xs.length : Int) - 1 - k) := by omega
      go_wp2
      go_end0
      exact ⟨rfl, hgr, cs', hblk.out, hsz.out, fun i hi => by have := hfin.out i hi; simpa using this⟩

/-- A step of the search as it lies in memory: where its list of nodes lies. -/
structure StV where
  st : Stp
  A : Option Addr
  c : Nat
def stCells : List StV → List Value
  | [] => []
  | x :: xs => .int .i64 x.st.par :: .int .i64 (x.st.let_ : Nat) :: .slice x.A x.st.nodes.length x.c :: stCells xs
theorem stCells_append : ∀ xs ys : List StV, stCells (xs ++ ys) = stCells xs ++ stCells ys
  | [], _ => rfl
  | x :: xs, ys => by rw [List.cons_append, stCells, stCells_append xs ys]; rfl
theorem stCells_at : ∀ (xs : List StV) (i : Nat) (h : i < xs.length), (stCells xs)[i * 3]? = some (.int .i64 xs[i].st.par) ∧ (stCells xs)[i * 3 + 1]? = some (.int .i64 (xs[i].st.let_ : Nat)) ∧ (stCells xs)[i * 3 + 2]? = some (.slice xs[i].A xs[i].st.nodes.length xs[i].c)
  | x :: xs, 0, _ => ⟨rfl, rfl, rfl⟩
  | x :: xs, i + 1, h => by
    have := stCells_at xs i (by simpa using h)
    rw [show (i + 1) * 3 = i * 3 + 1 + 1 + 1 from by omega]
    exact this

theorem own_blk {w : World} {B : Nat} {e : TypeId} {v : Value} {n : Nat} {xs : List Value} (h : w.ownsRow B e 1 v n xs) (hn : 0 < n) :
    ∃ g cap cur, v = .slice (some ⟨g, 0, none⟩) n cap ∧ B ≤ g ∧ n ≤ cap ∧ cap ≤ 9223372036854775807 ∧ Blk w g e cur ∧ n ≤ cur.size ∧ ∀ j (hj : j < xs.length), cur[j]? = some xs[j] := by
  have hl := h.1
  obtain ⟨g, cap, hv, hg, hlt, h1, h2, h3⟩ := own_shape h hn
  obtain ⟨_, ⟨rfl, h0⟩ | ⟨g', cap', cur, hv', hg', hw, h1', h2', h3', h4'⟩⟩ := h
  · omega
  · rw [hv'] at hv
    cases hv
    have hb : Blk w g e cur := hw
    refine ⟨g, cap, cur, hv', hg, h1, h2, hb, ?_, fun j hj => ?_⟩
    · rw [h3']; omega
    · have := h3 j xs[j] (by simp)
      rwa [hb.cell] at this

/-- Every step but the first hangs on an earlier one, by a letter. -/
structure PathOk (ss : List StV) (ws : List (List Nat)) : Prop where
  len : ws.length = ss.length
  zero : ∀ (h : 0 < ws.length), ws[0] = []
  root : ∀ (h : 0 < ss.length), ss[0].st.par = -1
  link : ∀ j (h : j < ss.length) (h' : j < ws.length), 0 < j → ∃ p, p < j ∧ ss[j].st.par = (p : Int) ∧ ss[j].st.let_ < 6 ∧ ∃ (hp : p < ws.length), ws[j] = ss[j].st.let_ :: ws[p]
theorem PathOk.wlen {ss : List StV} {ws : List (List Nat)} (h : PathOk ss ws) : ∀ j (hj : j < ws.length), ws[j].length ≤ j := by
  intro j
  induction j using Nat.strongRecOn with
  | _ j ih =>
    intro hj
    by_cases e : j = 0
    · subst e
      rw [h.zero hj]
      exact Nat.le_refl _
    · obtain ⟨p, hpj, _, _, hp, hw⟩ := h.link j (by rw [← h.len]; exact hj) hj (by omega)
      have := ih p hpj hp
      rw [hw, List.length_cons]
      omega
theorem PathOk.lt6 {ss : List StV} {ws : List (List Nat)} (h : PathOk ss ws) : ∀ j (hj : j < ws.length), ∀ l ∈ ws[j], l < 6 := by
  intro j
  induction j using Nat.strongRecOn with
  | _ j ih =>
    intro hj l hl
    by_cases e : j = 0
    · subst e
      rw [h.zero hj] at hl
      cases hl
    · obtain ⟨p, hpj, _, h6, hp, hw⟩ := h.link j (by rw [← h.len]; exact hj) hj (by omega)
      rw [hw] at hl
      rcases List.mem_cons.1 hl with rfl | hl
      · exact h6
      · exact ih p hpj hp l hl

def bytesOf (r : List Nat) : List Value := r.map fun l => Value.int .u8 (97 + l : Nat)
theorem infoByte : (Tryd.prog.info? 5).map (fun i => (i.zero, i.size, i.bytes)) = some (some (.int .u8 0), 1, 1) := by kernel_rfl

theorem own_steps {w : World} {B : Nat} {v : Value} {ss : List StV} (h : w.ownsRow B 74 3 v ss.length (stCells ss)) (hn : 0 < ss.length) :
    ∃ g cap, v = .slice (some ⟨g, 0, none⟩) ss.length cap ∧ B ≤ g ∧ g < w.heap.size ∧ ss.length ≤ cap ∧ cap ≤ 9223372036854775807 ∧
      ∀ i (hi : i < ss.length), w.cell? ⟨g, i * 3, none⟩ = some (.int .i64 ss[i].st.par) ∧ w.cell? ⟨g, i * 3 + 1, none⟩ = some (.int .i64 (ss[i].st.let_ : Nat)) ∧ w.cell? ⟨g, i * 3 + 2, none⟩ = some (.slice ss[i].A ss[i].st.nodes.length ss[i].c) := by
  obtain ⟨g, cap, hv, h1, h2, h3, h4, h5⟩ := own_shape h hn
  exact ⟨g, cap, hv, h1, h2, h3, h4, fun i hi => ⟨h5 _ _ (stCells_at ss i hi).1, h5 _ _ (stCells_at ss i hi).2.1, h5 _ _ (stCells_at ss i hi).2.2⟩⟩

set_option maxHeartbeats 2000000 in
theorem pathWord_core (ss : List StV) (ws : List (List Nat)) (g c n : Nat) (w : World) (hn : ss.length = n + 2) (hs : ss.length ≤ 4294967296) (hw : PathOk ss ws) (hw' : n + 1 < ws.length)
    (hl : ss.length ≤ c) (hc : c ≤ 9223372036854775807) (hg : g < w.heap.size) (hr : ∀ i (hi : i < ss.length), w.cell? ⟨g, i * 3, none⟩ = some (.int .i64 ss[i].st.par) ∧ w.cell? ⟨g, i * 3 + 1, none⟩ = some (.int .i64 (ss[i].st.let_ : Nat))) :
    Calls Tryd.prog 52 #[.slice (some ⟨g, 0, none⟩) ss.length c] w fun e w' => e = .returned (.string (wordS ws[n + 1])) ∧ Below w.heap.size w w' := by
  obtain ⟨i0, hi, hz0, hz1, hz2⟩ := info_parts infoByte
  have hlen := hw.len
  have hwl := hw.wlen (n + 1) hw'
  have hlast : Hid (((n + 1 : Nat) : Int) = (ss.length : Int) - 1) := hid (by omega)
  replace hw := hid hw
  replace hr := hid hr
  replace hn := hid hn
  go_enter Tryd.func52, Tryd.ntmps52
  go_wp2_with fail
  go_loopw [3, 4] (fun v iv wr => ∃ (j : Nat) (done : List Nat), iv = .int .i64 j ∧ j < ss.length ∧ (∀ h : j < ws.length, done ++ ws[j] = ws[n + 1]) ∧ wr.ownsRow w.heap.size 5 1 v done.length (bytesOf done) ∧ Below w.heap.size w wr) (fun _ iv _ => (intOf iv).toNat)
  case atStart => exact ⟨n + 1, [], by rw [hlast.out], by have := hn.out; omega, fun _ => rfl, World.ownsRow_nil _ _ _ _, by (repeat (first | exact Below.refl _ _ | assumption | refine Below.drew ?_ | refine Below.alloc ?_ (by first | omega | (simp; done) | (simp; omega)) _ | refine Below.setCell ?_ (by first | omega | (simp; done) | (simp; omega)) _))⟩
  case round =>
    obtain ⟨j, done, rfl, hj, hdone, hown, hb⟩ := hrel
    have hd := hdone (by omega)
    have hdl : done.length ≤ n + 1 := by
      have := congrArg List.length hd
      rw [List.length_append] at this
      omega
    have hjw : j < ws.length := by omega
    obtain ⟨e0, e1⟩ := hr.out j hj
    rw [← hb.cell (by simpa using hg)] at e0 e1
    have i1 : (0 : Int) ≤ (j : Int) := by omega
    have i2 : (j : Int) < (ss.length : Int) := by omega
    by_cases h0 : j = 0
    · have hz : ws[j]'hjw = [] := by subst h0; exact hw.out.zero (by omega)
      rw [hz, List.append_nil] at hd
      subst hd
      have hroot : ss[j].st.par = -1 := by subst h0; exact hw.out.root (by omega)
      rw [hroot] at e0
      replace h0 := hid h0
      have hpos : 0 < ws[n + 1].length := by
        obtain ⟨p, -, -, -, hp, hq⟩ := hw.out.link (n + 1) (by omega) hw' (by omega)
        rw [hq]
        simp
      have h6 := hw.out.lt6 (n + 1) hw'
      obtain ⟨gb, cap, cur, rfl, hgb, hcap, hcap', hblk, hsz, hcur⟩ := own_blk hown hpos
      generalize hR : ws[n + 1] = r at *
      replace hR := hid hR
      have hblk' := hid hblk
      have hcs : Hid (∀ i (h : i < (r.map (97 + ·)).length), cur[i]? = some (.int .u8 ((r.map (97 + ·))[i] : Nat))) := hid fun i h => by
        have hi : i < r.length := by simpa using h
        rw [hcur i (by unfold bytesOf; simpa using hi)]
        unfold bytesOf
        simp
      replace hdone := hid hdone
      replace hcur := hid hcur
      replace hblk := hid hblk
      replace hown := hid hown
      replace hwl := hid hwl
      replace h6 := hid h6
      go_wp2_with fail
      refine (reverseBytes_any gb r.length cap (r.map (97 + ·)) cur wr (by simp) hcap hcap' hblk'.out hsz hcs.out).mono ?_
      rintro e w2 ⟨rfl, hg2, cs2, hblk2, hsz2, hcs2⟩
      have hB2 : Hid (Below w.heap.size w w2) := hid (hb.grown hg2 hb.size (fun k hk => by cases hk; exact hgb))
      have kc : (convert 67 9 (.slice (some ⟨gb, 0, none⟩) r.length cap)).run Tryd.prog w2 = .ok (.string (wordS r)) w2 := by
        have := run_convert_bytes_back (P := Tryd.prog) w2 67 9 5 ⟨gb, 0, none⟩ cap (r.reverse.map letB) Tryd.underlying67 Tryd.underlying5 Tryd.underlying9 (fun j hj => by
          have hj' : j < r.length := by simpa using hj
          have e1 := hcs2 j (by simpa using hj')
          have hadd : (⟨gb, 0, none⟩ : Addr).add j = ⟨gb, j, none⟩ := by unfold Addr.add; split <;> simp_all
          rw [hadd, hblk2.cell, e1]
          have h6' : r.reverse[j]'(by simpa using hj') < 6 := h6.out _ (List.mem_reverse.1 (List.getElem_mem _))
          simp only [List.getElem_map, List.map_reverse, List.getElem_reverse] at h6' ⊢
          unfold letB
          rw [UInt8.toNat_ofNat']
          have := h6'
          simp only [List.length_map] at *
          rw [Nat.mod_eq_of_lt (by omega)])
        simpa [wordS] using this
      replace hcs2 := hid hcs2
      replace hblk2 := hid hblk2
      replace hg2 := hid hg2
      clear e0 e1
      go_wp2
      go_ret
      exact ⟨by rw [hR.out]; rfl, hB2.out⟩
    · obtain ⟨p, hpj, hpar, h6, hp, hq⟩ := hw.out.link j hj hjw (by omega)
      rw [hpar] at e0
      rw [hq] at hd
      obtain ⟨l, hll⟩ : ∃ l, l = ss[j].st.let_ := ⟨_, rfl⟩
      rw [← hll] at e1 hd h6
      have hps : p < ss.length := by omega
      have hge : (0 : Int) ≤ (p : Int) := by omega
      have hd2 : Hid ((done ++ [l]) ++ ws[p] = ws[n + 1]) := hid (by rw [List.append_assoc]; exact hd)
      replace hd := hid hd
      replace hll := hid hll
      replace hq := hid hq
      replace hpar := hid hpar
      replace hdone := hid hdone
      replace hown := hid hown
      have hzr := hb.size
      go_wp2_with (first
        | (go_at_call 57; refine (letterByte_any l h6 _).mono ?_; rintro e w' ⟨rfl, rfl⟩)
        | (at_builtin; refine wpList_append_own _ rfl _ _ 67 rfl w.heap.size 5 i0 (.int .u8 0) 1 1 Tryd.underlying67 hi hz0 hz1 hz2 rfl (by decide) _ _ _ rfl (hown.out.alloc _) ⟨wr.heap.size, 0, none⟩ 1 1 [.int .u8 (97 + l : Nat)] rfl rfl (cell_one_new _ _ _) (by intro u hu; simp at hu; subst hu; rfl) (by unfold maxLen; omega) (by omega) (by simp; omega) ?_; intro v' w1 hown' hgrow _; have hB1 : Below w.heap.size w w1 := Below.grown (hb.alloc hzr _) hgrow (by simp; omega) (own_block hown.out); have e2 := e0; rw [hb.cell (by simpa using hg), ← hB1.cell (by simpa using hg)] at e2))
      go_roundw
      case rel =>
        refine ⟨p, done ++ [l], rfl, hps, fun _ => hd2.out, ?_, hB1⟩
        unfold bytesOf at hown' ⊢
        rw [List.length_append, List.map_append]
        exact hown'
      case measure => simp [intOf]; omega

theorem pathWord_any (ss : List StV) (ws : List (List Nat)) (g c n m : Nat) (w : World) (hm : ss.length = m) (hn : ss.length = n + 2) (hs : ss.length ≤ 4294967296) (hw : PathOk ss ws) (hw' : n + 1 < ws.length)
    (hl : ss.length ≤ c) (hc : c ≤ 9223372036854775807) (hg : g < w.heap.size) (hr : ∀ i (hi : i < ss.length), w.cell? ⟨g, i * 3, none⟩ = some (.int .i64 ss[i].st.par) ∧ w.cell? ⟨g, i * 3 + 1, none⟩ = some (.int .i64 (ss[i].st.let_ : Nat))) :
    Calls Tryd.prog 52 #[.slice (some ⟨g, 0, none⟩) m c] w fun e w' => e = .returned (.string (wordS ws[n + 1])) ∧ Below w.heap.size w w' := by
  subst hm
  exact pathWord_core ss ws g c n w hn hs hw hw' hl hc hg hr

end Go.Proofs.YtnchoiljcdicdaaDoor
