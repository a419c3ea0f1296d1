/- Lemmas, part 5: several texts in one. -/
import Derived.Test.YtkoganldcmhopaaDoorK4
import Derived.Test.YtkoganldcmhopaaDoorK2
import Derived.Deep.DeepCutAuto
import Derived.WalkKit
import Derived.Test.YtkoganldcmhopaaDoorK1
import Derived.Test.YtkoganldcmhopaaDoorK3
set_option linter.unusedSimpArgs false
set_option linter.unusedVariables false

/- The program's tableOf. -/
namespace Go.Proofs.YtkoganldcmhopaaDoor
open Go.RowKit Go.BigFrame AG

/-- The table of an automaton: where each letter leads from each of n states. -/
def TabA (w : World) (g n : Nat) (a : Au) : Prop := g < w.heap.size ∧ ∀ q l, q < n → l < 6 → w.cell? ⟨g, q * 6 + l, none⟩ = some (.int .i64 (goA a q l : Nat))
theorem TabA.later {w w' : World} {g n : Nat} {a : Au} (h : TabA w g n a) (hb : Below w.heap.size w w') : TabA w' g n a := ⟨Nat.lt_of_lt_of_le h.1 hb.size, fun q l h1 h2 => by rw [hb.cell (by simpa using h.1)]; exact h.2 q l h1 h2⟩
/-- Every row has as many entries as there are letters, and they are no negative numbers. -/
def tabOk (a : Au) : Prop := ∀ r ∈ a.nx, r.length = (letters a.al).length ∧ ∀ q ∈ r, 0 ≤ q
theorem tabOk_of {a : Au} (h : auOk a = true) : tabOk a := fun r hr => by
  have := ((auOk_iff a).1 h).2.2.2.2 r hr
  exact ⟨this.1, fun q hq => (this.2 q hq).1⟩
/-- .. when i letters of the row have been entered. -/
def goK (a : Au) (q i l : Nat) : Int := if l ∈ (letters a.al).take i then (a.nx.getD q []).getD ((letters a.al).idxOf l) 0 else (q : Int)
theorem goK_done {a : Au} (h : tabOk a) {q l : Nat} (hq : q < a.nx.length) : goK a q (letters a.al).length l = ((goA a q l : Nat) : Int) := by
  unfold goK goA
  rw [List.take_length]
  split
  · rename_i hl
    have hg : a.nx.getD q [] = a.nx[q] := by rw [List.getD_eq_getElem?_getD, List.getElem?_eq_getElem hq]; rfl
    obtain ⟨h1, h2⟩ := h a.nx[q] (List.getElem_mem _)
    have hk : (letters a.al).idxOf l < (a.nx[q]).length := by rw [h1]; exact List.idxOf_lt_length_iff.2 hl
    rw [hg]
    have : (a.nx[q]).getD ((letters a.al).idxOf l) 0 = (a.nx[q])[(letters a.al).idxOf l] := by rw [List.getD_eq_getElem?_getD, List.getElem?_eq_getElem hk]; rfl
    rw [this, Int.toNat_of_nonneg (h2 _ (List.getElem_mem _))]
  · rfl
theorem goK_next {a : Au} {q i l : Nat} (hi : i < (letters a.al).length) : goK a q (i + 1) l = if l = (letters a.al)[i] then (a.nx.getD q []).getD i 0 else goK a q i l := by
  unfold goK
  rw [List.take_succ_eq_append_getElem hi]
  by_cases e : l = (letters a.al)[i]
  · have hx : (letters a.al).idxOf l = i := by
      rw [e]
      exact (show (letters a.al).Nodup from (letters_sorted a.al).imp fun h => Nat.ne_of_lt h).idxOf_getElem i hi
    rw [if_pos e, if_pos (by rw [e]; exact List.mem_append_right _ (List.mem_singleton.2 rfl)), hx]
  · rw [if_neg e]
    by_cases hm : l ∈ (letters a.al).take i
    · rw [if_pos hm, if_pos (List.mem_append_left _ hm)]
    · rw [if_neg hm, if_neg]
      rw [List.mem_append, List.mem_singleton]
      rintro (h | h)
      · exact hm h
      · exact e h
/-- The cells of the table: q rows are done, of the next one those that f says. -/
structure TabSt (cs : Array Value) (n : Nat) (a : Au) (q : Nat) (f : Nat → Option Int) : Prop where
  size : cs.size = n * 6
  rows : ∀ p l, p < q → l < 6 → cs[p * 6 + l]? = some (.int .i64 (goA a p l : Nat))
  row : ∀ l v, l < 6 → f l = some v → cs[q * 6 + l]? = some (.int .i64 v)
theorem TabSt.set_ {cs : Array Value} {n : Nat} {a : Au} {q l : Nat} {f f' : Nat → Option Int} {v : Int} (h : TabSt cs n a q f) (hq : q < n) (hl : l < 6) (hf : ∀ k, k ≠ l → f' k = f k) (hv : f' l = some v) : TabSt (cs.setIfInBounds (q * 6 + l) (.int .i64 v)) n a q f' := by
  refine ⟨by simpa using h.size, fun p k hp hk => ?_, fun k u hk hu => ?_⟩
  · rw [Array.getElem?_setIfInBounds_ne (by omega)]
    exact h.rows p k hp hk
  · by_cases e : k = l
    · subst e
      rw [hv] at hu
      injection hu with hu
      subst hu
      rw [Array.getElem?_setIfInBounds_self_of_lt (by rw [h.size]; omega)]
    · rw [Array.getElem?_setIfInBounds_ne (by omega)]
      exact h.row k u hk (by rw [← hf k e]; exact hu)
theorem TabSt.over {cs : Array Value} {n : Nat} {a : Au} {q : Nat} (h : TabSt cs n a q (fun l => some (goK a q (letters a.al).length l))) (ht : tabOk a) (hq : q < a.nx.length) : TabSt cs n a (q + 1) (fun _ => none) := by
  refine ⟨h.size, fun p l hp hl => ?_, fun l v _ hv => by cases hv⟩
  by_cases e : p = q
  · subst e
    rw [h.row l _ hl rfl, goK_done ht hq]
  · exact h.rows p l (by omega) hl

theorem infoSix : (Tryd.prog.info? 113).map (fun i => (i.zero, i.size, i.bytes)) = some (some (.agg #[.int .i64 0, .int .i64 0, .int .i64 0, .int .i64 0, .int .i64 0, .int .i64 0]), 6, 48) := by kernel_rfl

set_option maxRecDepth 100000 in
set_option maxHeartbeats 8000000 in
theorem tableOf_any (a : Au) (A B : Option Addr) (c d : Nat) (w : World) (hn : a.nx.length ≤ 4096) (ht : tabOk a) (ha : AuAt w A c B d a) :
    Calls Tryd.prog 129 #[a.val A c B d] w fun e w' => ∃ g, e = .returned (.slice (some ⟨g, 0, none⟩) a.nx.length a.nx.length) ∧ TabA w' g a.nx.length a ∧ Below w.heap.size w w' := by
  obtain ⟨cl, cm, dl, dm, hrows, -⟩ := ha
  unfold AG.Au.val
  obtain ⟨i0, hi, hz0', hz1, hz2⟩ := info_parts infoSix
  have hmk := fun W => run_make_rowN (P := Tryd.prog) 111 113 i0 _ Tryd.underlying111 hi hz0' .i64 .i64 a.nx.length a.nx.length (Nat.le_refl _) (by rw [hz2]; omega) (by omega) W
  rw [hz1] at hmk
  obtain ⟨w0, hw0, hz0, hB0, hS⟩ := boxed w #[Value.int IntKind.i64 a.al, Value.slice A a.nx.length c, Value.slice B a.ac.length d] 26
  have hr0 := hid (hrows.later hB0)
  have p0 := hS 0 _ rfl _ (Below.refl _ _)
  have p1 := hS 1 _ rfl _ (Below.refl _ _)
  replace hrows := hid hrows
  replace ht := hid ht
  clear hz1 hz0' hz2 hi
  go_enter Tryd.func129, Tryd.ntmps129
  go_upto_region 2 with fail
  obtain ⟨w1, hw1⟩ : ∃ w1, w0.alloc (.cells (madeCells #[Value.int IntKind.i64 0, Value.int IntKind.i64 0, Value.int IntKind.i64 0, Value.int IntKind.i64 0, Value.int IntKind.i64 0, Value.int IntKind.i64 0] (a.nx.length * 6)) 113) = w1 := ⟨_, rfl⟩
  have hblk1 : Blk w1 w0.heap.size 113 (madeCells #[Value.int IntKind.i64 0, Value.int IntKind.i64 0, Value.int IntKind.i64 0, Value.int IntKind.i64 0, Value.int IntKind.i64 0, Value.int IntKind.i64 0] (a.nx.length * 6)) := by rw [← hw1]; exact Blk.new _ _ _
  have hB1 : Below w0.heap.size w0 w1 := by rw [← hw1]; exact (Below.refl _ _).alloc (Nat.le_refl _) _
  have hst0 : Hid (TabSt (madeCells #[Value.int IntKind.i64 0, Value.int IntKind.i64 0, Value.int IntKind.i64 0, Value.int IntKind.i64 0, Value.int IntKind.i64 0, Value.int IntKind.i64 0] (a.nx.length * 6)) a.nx.length a 0 fun _ => none) := hid ⟨size_madeCells _ _, fun p l h => by omega, fun l v _ hv => by cases hv⟩
  rw [hw1]
  generalize madeCells #[Value.int IntKind.i64 0, Value.int IntKind.i64 0, Value.int IntKind.i64 0, Value.int IntKind.i64 0, Value.int IntKind.i64 0, Value.int IntKind.i64 0] (a.nx.length * 6) = cs0 at *
  clear p0 p1 hw1 hmk
  have hz1 := hB1.size
  have p0 := hS 0 _ rfl _ (hB1.mono hz0)
  have p1 := hS 1 _ rfl _ (hB1.mono hz0)
  have hw01 := hblk1.lt
  replace hblk1 := hid hblk1
  go_wp2_with fail
  refine (lettersOf_any a.al w1).mono ?_
  rintro e w2 ⟨lv, rfl, hown2, hb2⟩
  obtain ⟨AL, cL, rfl, hcL, hcL'⟩ := own_slice hown2
  have hB2 : Below w0.heap.size w0 w2 := hB1.trans (hb2.mono hz1)
  have hblk2 := hid (hblk1.out.below hb2 hblk1.out.lt)
  have hz2 := hb2.size
  clear p0 p1
  have p0 := hS 0 _ rfl _ (hB2.mono hz0)
  have p1 := hS 1 _ rfl _ (hB2.mono hz0)
  have hr2 := hid (hr0.out.later hB2)
  have hnat := hid hown2
  have hL6 := lettersTo_len a.al 6
  obtain ⟨L, hL⟩ : ∃ L, Hid (L = letters a.al) := ⟨_, hid rfl⟩
  have hL6' : L.length ≤ 6 := by rw [hL.out]; exact hL6
  rw [← hL.out] at hcL hnat ⊢
  clear hown2 hL6
  go_wp2_with fail
  clear p0 p1
  go_loopw [20] (fun iv wr => ∃ (q : Nat) (cs : Array Value), iv = .int .i64 (q : Nat) ∧ q ≤ a.nx.length ∧ Blk wr w0.heap.size 113 cs ∧ TabSt cs a.nx.length a q (fun _ => none) ∧ KeepB (fun b => b = w0.heap.size) w2 wr) (fun iv _ => a.nx.length - (intOf iv).toNat)
  case atStart => exact ⟨0, cs0, rfl, by omega, hblk2.out, hst0.out, KeepB.refl _ _⟩
  case round =>
    obtain ⟨q, cs, rfl, hq, hblk, hst, hkp⟩ := hrel
    by_cases hlt : q < a.nx.length
    · have hBr : Below w0.heap.size w0 wr := KeepB.below hB2 hkp hB2.size fun b e => by omega
      obtain ⟨b, o, hA, hbB, hE⟩ := hr0.out (by omega)
      subst hA
      obtain ⟨Ai, ci, e0, h1, h2, h3⟩ := hE q hlt
      rw [← hBr.cell (by simpa using hbB)] at e0
      obtain ⟨r, hr⟩ : ∃ r, Hid (r = a.nx[q]) := ⟨_, hid rfl⟩
      rw [← hr.out] at e0 h1 h3
      have hrl : Hid (r.length = L.length) := hid (by rw [hr.out, hL.out]; exact (ht.out _ (List.getElem_mem hlt)).1)
      have k1 : (0 : Int) ≤ (q : Int) ∧ (q : Int) < (a.nx.length : Int) := by omega
      have h3' := hid h3
      have hst1 : Hid (TabSt cs a.nx.length a q fun l => if l < 0 then some (q : Int) else none) := hid ⟨hst.size, hst.rows, fun l v _ hv => by simp at hv⟩
      replace hE := hid hE
      replace hst := hid hst
      have hblk' := hid hblk
      have hkp' := hid hkp
      clear h3 hblk hkp
      go_wp2_with fail
      clear e0
      go_loopw [25] (fun jv wq => ∃ (l : Nat) (cs : Array Value), jv = .int .i64 (l : Nat) ∧ l ≤ 6 ∧ Blk wq w0.heap.size 113 cs ∧ TabSt cs a.nx.length a q (fun k => if k < l then some (q : Int) else none) ∧ KeepB (fun b => b = w0.heap.size) w2 wq) (fun jv _ => 6 - (intOf jv).toNat)
      case atStart => exact ⟨0, cs, rfl, by omega, hblk'.out, hst1.out, hkp'.out⟩
      case round =>
        clear hblk' hkp' hst hst1
        obtain ⟨l, cs, rfl, hl, hblk, hst, hkp⟩ := hrel
        have hsz := hst.size
        by_cases hl6 : l < 6
        · obtain ⟨v0, d0⟩ := hblk.some_ (i := q * 6 + l) (by omega)
          have z0 := hblk.frozen (q * 6 + l)
          have k2 : (0 : Int) ≤ (l : Int) ∧ (l : Int) < 6 := by omega
          have hst2 := hid (hst.set_ (l := l) (v := (q : Int)) (f' := fun k => if k < l + 1 then some (q : Int) else none) hlt hl6 (fun k hk => by
            by_cases h : k < l
            · rw [if_pos h, if_pos (by omega)]
            · rw [if_neg h, if_neg (by omega)]) (by rw [if_pos (by omega)]))
          have hb2' := hid (hblk.set_ (q * 6 + l) (.int .i64 (q : Nat)))
          have hk2 := hid (hkp.setCell ⟨w0.heap.size, q * 6 + l, none⟩ (.int .i64 (q : Nat)) fun _ => rfl)
          replace hst := hid hst
          replace hblk := hid hblk
          go_wp2
          go_roundw
          case rel => exact ⟨l + 1, _, by go_num, by omega, hb2'.out, hst2.out, hk2.out⟩
          case measure => simp [intOf]; omega
        · obtain rfl : l = 6 := by omega
          have hst1 : Hid (TabSt cs a.nx.length a q fun l => some (goK a q 0 l)) := hid ⟨hst.size, hst.rows, fun l v hl hv => hst.row l v hl (by rw [if_pos hl]; unfold goK at hv; simpa using hv)⟩
          replace hst := hid hst
          have hblk' := hid hblk
          have hkp' := hid hkp
          clear hblk hkp
          go_wp2_with fail
          go_loopw [37] (fun jv wq => ∃ (j : Nat) (cs : Array Value), jv = .int .i64 (j : Nat) ∧ j ≤ L.length ∧ Blk wq w0.heap.size 113 cs ∧ TabSt cs a.nx.length a q (fun k => some (goK a q j k)) ∧ KeepB (fun b => b = w0.heap.size) w2 wq) (fun jv _ => L.length - (intOf jv).toNat)
          case atStart => exact ⟨0, cs, rfl, by omega, hblk'.out, hst1.out, hkp'.out⟩
          case round =>
            clear hblk' hkp' hst hst1
            obtain ⟨j, cs, rfl, hj, hblk, hst, hkp⟩ := hrel
            have hsz := hst.size
            by_cases hjl : j < L.length
            · have hBq : Below w0.heap.size w0 wr := KeepB.below hB2 hkp hB2.size fun b e => by omega
              have hnr := own_keep hnat.out hkp (fun g hg e => by have := own_block hnat.out g hg; omega)
              obtain ⟨gL, capL, hve, -, hgL, -, -, hcL2⟩ := own_shape hnr (by omega)
              injection hve with e1 e2 e3
              subst e1
              subst e3
              clear e2
              have l0 := hcL2 j _ (show (L.map fun (n : Nat) => Value.int .i64 (n : Int))[j]? = some (.int .i64 (L[j] : Nat)) from by simp [hjl])
              obtain ⟨l, hl⟩ : ∃ l, Hid (l = L[j]) := ⟨_, hid rfl⟩
              rw [← hl.out] at l0
              have hl6 : l < 6 := (letters_lt (A := a.al) (by rw [← hL.out, hl.out]; exact List.getElem_mem _)).1
              obtain ⟨bi, oi, hAi, hbi, hci⟩ := h3'.out (by have := hrl.out; omega)
              subst hAi
              have hjr : j < r.length := by have := hrl.out; omega
              have r0 := hci j hjr
              obtain ⟨x, hx⟩ : ∃ x, Hid (x = r[j]) := ⟨_, hid rfl⟩
              rw [← hx.out, ← hBq.cell (by simpa using hbi)] at r0
              obtain ⟨v0, d0⟩ := hblk.some_ (i := q * 6 + l) (by omega)
              have z0 := hblk.frozen (q * 6 + l)
              have k2 : (0 : Int) ≤ (j : Int) ∧ (j : Int) < (L.length : Int) ∧ (j : Int) < (r.length : Int) := by omega
              have k3 : (0 : Int) ≤ (l : Int) ∧ (l : Int) < 6 := by omega
              have hst2 := hid (hst.set_ (l := l) (v := x) (f' := fun k => some (goK a q (j + 1) k)) hlt hl6 (fun k hk => by
                rw [goK_next (by rw [← hL.out]; exact hjl), if_neg (by
                  have := hl.out
                  simp only [hL.out] at this
                  rw [← this]; exact hk)]) (by
                rw [goK_next (by rw [← hL.out]; exact hjl), if_pos (by
                  have := hl.out
                  simp only [hL.out] at this
                  exact this)]
                rw [List.getD_eq_getElem?_getD (l := a.nx), List.getElem?_eq_getElem hlt]
                show some ((a.nx[q]).getD j 0) = some x
                rw [← hr.out, List.getD_eq_getElem?_getD, List.getElem?_eq_getElem hjr, hx.out]
                rfl))
              have hb2' := hid (hblk.set_ (q * 6 + l) (.int .i64 x))
              have hk2 := hid (hkp.setCell ⟨w0.heap.size, q * 6 + l, none⟩ (.int .i64 x) fun _ => rfl)
              replace hst := hid hst
              replace hblk := hid hblk
              replace hcL2 := hid hcL2
              replace hci := hid hci
              have y0 : ∀ x', (Fam wr.heap.size wr x').cell? ⟨bi, oi + j, none⟩ = some (.int .i64 x) := fun x' => by rw [(Fam.below wr.heap.size wr x').cell (by simp; have := hBq.size; omega)]; exact r0
              have hzq := hBq.size
              have hk3 : Hid (∀ w', Below wr.heap.size wr w' → KeepB (fun b => b = w0.heap.size) w2 w') := hid fun w' hb => hkp.trans (.of_below hb)
              have hblk3 : Hid (∀ w', Below wr.heap.size wr w' → Blk w' w0.heap.size 113 cs) := hid fun w' hb => hblk.out.below hb hblk.out.lt
              clear d0 z0 r0 hb2' hk2
              go_wp2_with fail
              refine wp_region_fam_tail wr.heap.size wr 9 (by kernel_rfl) (by kernel_rfl) (Below.refl _ _) ?_
              simp only [List.take_succ_cons, List.take_zero, List.drop_succ_cons, List.drop_zero]
              (repeat (go_big_quiet_step (fail)))
              refine wpQuiet_nil ?_
              intro w5 hw5
              replace hw5 := Fam.out hw5
              have hblk5 := hblk3.out w5 hw5
              obtain ⟨v5, d5⟩ := hblk5.some_ (i := q * 6 + l) (by omega)
              have z5 := hblk5.frozen (q * 6 + l)
              have hb2' := hid (hblk5.set_ (q * 6 + l) (.int .i64 x))
              have hk2 := hid ((hk3.out w5 hw5).setCell ⟨w0.heap.size, q * 6 + l, none⟩ (.int .i64 x) fun _ => rfl)
              replace hblk5 := hid hblk5
              clear y0
              go_wp2
              go_roundw
              case rel => exact ⟨j + 1, _, by go_num, by omega, hb2'.out, hst2.out, hk2.out⟩
              case measure => simp [intOf]; omega
            · obtain rfl : j = L.length := by omega
              have hst2 : Hid (TabSt cs a.nx.length a (q + 1) fun _ => none) := hid (TabSt.over (by have := hst; rw [hL.out] at this; exact this) ht.out hlt)
              replace hst := hid hst
              replace hblk := hid hblk
              go_wp2
              go_roundw
              case rel => exact ⟨q + 1, cs, by go_num, by omega, hblk.out, hst2.out, hkp⟩
              case measure => simp [intOf]; omega
    · obtain rfl : q = a.nx.length := by omega
      have htab : Hid (TabA wr w0.heap.size a.nx.length a) := hid ⟨hblk.lt, fun p l hp hl => by rw [hblk.cell]; exact hst.rows p l hp hl⟩
      have hBr : Below w.heap.size w wr := hB0.trans ((KeepB.below hB2 hkp hB2.size fun b e => by omega).mono hB0.size)
      replace hst := hid hst
      replace hblk := hid hblk
      go_wp2
      go_ret
      exact ⟨_, rfl, htab.out, hBr⟩

end Go.Proofs.YtkoganldcmhopaaDoor

/- Letters of words: the reference's l1At, the program's letterAt. -/
namespace Go.Proofs.YtkoganldcmhopaaDoor
open Go.RowKit Go.BigFrame AG

theorem byte_at (s : ByteArray) (i : Nat) (h : i < s.size) : ((s[i]'h).toNat : Int) = lz s i + 97 := by
  unfold lz
  have : s.data.getD i 0 = s[i]'h := by
    rw [Array.getD_eq_getD_getElem?, Array.getElem?_eq_getElem (by simpa using h)]
    rfl
  rw [this]
  omega

set_option maxHeartbeats 400000 in
theorem letterAt_any (s : ByteArray) (i : Nat) (w : World) (h : i < s.size) :
    Calls Tryd.prog 130 #[.string s, .int .i64 i] w fun e w' => e = .returned (.int .i64 (ltr s i)) ∧ w = w' := by
  have hb := byte_at s i h
  have hr := lz_range s i
  have h0 : (0 : Int) ≤ (i : Int) ∧ (i : Int) < (s.size : Int) := by omega
  have hfin : Hid (ltr s i = if lz s i < 0 then -1 else if 6 ≤ lz s i then -1 else lz s i) := hid (by
    split
    · exact ltr_bad (by omega)
    · split
      · exact ltr_bad (by omega)
      · exact ltr_ok (by omega))
  by_cases hlo : lz s i < 0
  · go_enter Tryd.func130, Tryd.ntmps130
    go_wp2
    go_ret
    exact ⟨ret_int (by rw [hfin.out]; (repeat split) <;> first | rfl | omega), rfl⟩
  · by_cases hhi : 6 ≤ lz s i
    all_goals
      go_enter Tryd.func130, Tryd.ntmps130
      go_wp2
      go_ret
    · exact ⟨ret_int (by rw [hfin.out]; (repeat split) <;> first | rfl | omega), rfl⟩
    · exact ⟨ret_int (by rw [hfin.out]; (repeat split) <;> first | rfl | omega), rfl⟩

end Go.Proofs.YtkoganldcmhopaaDoor

/- Words: the reference's WordValid, AlphabetOf, WordWithin; the program's WordWithin. -/
namespace Go.Proofs.YtkoganldcmhopaaDoor
open Go.RowKit Go.BigFrame AG

set_option maxRecDepth 100000 in
set_option maxHeartbeats 1000000 in
theorem implWordWithin_any (s : ByteArray) (al : Int) (w : World) (hz : s.size ≤ 9223372036854775807) :
    Calls Tryd.prog 128 #[.string s, .int .i64 al] w fun e w' => e = .returned (.bool (within s al)) ∧ w = w' := by
  cases hal : alphaOk al
  · have hfin : Hid (within s al = false) := hid (by unfold within; exact decide_eq_false (fun h => by rw [hal] at h; cases h.1))
    replace hal := hid hal
    go_enter Tryd.func128, Tryd.ntmps128
    go_wp2_with (go_at_call 71; refine (isAlphabet_any al _).mono ?_; rintro e w' ⟨rfl, rfl⟩; rw [hal.out])
    go_ret
    exact ⟨ret_bool (by rw [hfin.out]), rfl⟩
  · have hal2 := hid hal
    replace hal := hid hal
    by_cases hs : s.size ≤ 50000
    · go_enter Tryd.func128, Tryd.ntmps128
      go_wp2_with (go_at_call 71; refine (isAlphabet_any al _).mono ?_; rintro e w' ⟨rfl, rfl⟩; rw [hal.out])
      go_loopw [16] (fun i wr => ∃ k : Nat, i = .int .i64 k ∧ k ≤ s.size ∧ (∀ j, j < k → HasZ al (ltr s j) = true) ∧ w = wr) (fun i _ => s.size - (intOf i).toNat)
      case atStart => exact ⟨0, rfl, by omega, fun j h => by omega, rfl⟩
      case round =>
        obtain ⟨k, rfl, hk, hall, rfl⟩ := hrel
        replace hall := hid hall
        by_cases hlt : k < s.size
        · have h63 : ltr s k ≤ 63 := by unfold ltr lOk; split; rename_i h; have := of_decide_eq_true h; omega; omega
          cases hh : HasZ al (ltr s k)
          · have hfin : Hid (within s al = false) := hid (by unfold within; exact decide_eq_false (fun h => by have := h.2.2 k hlt; rw [hh] at this; cases this))
            replace hh := hid hh
            go_wp2_with (first
              | (go_at_call 130; refine (letterAt_any s k _ hlt).mono ?_; rintro e w' ⟨rfl, rfl⟩)
              | (go_at_call 67; refine (has_any al _ _ h63).mono ?_; rintro e w' ⟨rfl, rfl⟩; rw [hh.out]))
            go_ret
            exact ⟨ret_bool (by rw [hfin.out]), rfl⟩
          · replace hh := hid hh
            go_wp2_with (first
              | (go_at_call 130; refine (letterAt_any s k _ hlt).mono ?_; rintro e w' ⟨rfl, rfl⟩)
              | (go_at_call 67; refine (has_any al _ _ h63).mono ?_; rintro e w' ⟨rfl, rfl⟩; rw [hh.out]))
            go_roundw
            case rel => exact ⟨k + 1, by go_num, by omega, fun j hj => by by_cases e : j = k; exact e ▸ hh.out; exact hall.out j (by omega), by first | trivial | rfl⟩
            case measure => simp [intOf]; omega
        · go_wp2
          go_ret
          exact ⟨ret_bool (by unfold within; exact (decide_eq_true ⟨hal2.out, hs, fun i hi => hall.out i (by omega)⟩).symm), rfl⟩
    · have hfin : Hid (within s al = false) := hid (by unfold within; exact decide_eq_false (fun h => hs h.2.1))
      go_enter Tryd.func128, Tryd.ntmps128
      go_wp2_with (go_at_call 71; refine (isAlphabet_any al _).mono ?_; rintro e w' ⟨rfl, rfl⟩; rw [hal.out])
      go_ret
      exact ⟨ret_bool (by rw [hfin.out]), rfl⟩

end Go.Proofs.YtkoganldcmhopaaDoor

/- The program's StateAfter and AcceptsWord. -/
namespace AG

/-- The state behind the first k letters of a word. -/
def autTo (a : Au) (x : ByteArray) : Nat → Nat
  | 0 => 0
  | k + 1 => goA a (autTo a x k) (lz x k).toNat
def stA (a : Au) (x : ByteArray) : Int := if (auOk a && within x a.al) = true then (autTo a x x.size : Nat) else -1
def accB (a : Au) (x : ByteArray) : Bool := (auOk a && within x a.al) && a.ac.getD (autTo a x x.size) false

end AG
namespace Go.Proofs.YtkoganldcmhopaaDoor
open Go.RowKit Go.BigFrame AG

theorem goA_lt {a : Au} (h : auOk a = true) {q l : Nat} (hq : q < a.nx.length) : goA a q l < a.nx.length := by
  unfold goA
  split
  · rename_i hl
    have hr := ((auOk_iff a).1 h).2.2.2.2 a.nx[q] (List.getElem_mem _)
    have hg : a.nx.getD q [] = a.nx[q] := by rw [List.getD_eq_getElem?_getD, List.getElem?_eq_getElem hq]; rfl
    have hk : (letters a.al).idxOf l < (a.nx[q]).length := by rw [hr.1]; exact List.idxOf_lt_length_iff.2 hl
    have : (a.nx[q]).getD ((letters a.al).idxOf l) 0 = (a.nx[q])[(letters a.al).idxOf l] := by rw [List.getD_eq_getElem?_getD, List.getElem?_eq_getElem hk]; rfl
    rw [hg, this]
    have := hr.2 _ (List.getElem_mem hk)
    omega
  · exact hq
theorem autTo_lt {a : Au} (h : auOk a = true) (x : ByteArray) : ∀ k, autTo a x k < a.nx.length
  | 0 => by have := ((auOk_iff a).1 h).2.1; show 0 < _; omega
  | k + 1 => goA_lt h (autTo_lt h x k)

set_option maxRecDepth 100000 in
set_option maxHeartbeats 8000000 in
theorem implStateAfter_any (a : Au) (A B : Option Addr) (c d : Nat) (x : ByteArray) (w : World) (hz : x.size ≤ 9223372036854775807) (ha : AuAt w A c B d a) :
    Calls Tryd.prog 70 #[a.val A c B d, .string x] w fun e w' => e = .returned (.int .i64 (stA a x)) ∧ Below w.heap.size w w' := by
  obtain ⟨w0, hw0, hz0, hB0, hS⟩ := boxed w #[Value.int IntKind.i64 a.al, Value.slice A a.nx.length c, Value.slice B a.ac.length d] 26
  have ha0 := hid (ha.later hB0)
  have p0 := hS 0 _ rfl _ (Below.refl _ _)
  have p1 := hS 1 _ rfl _ (Below.refl _ _)
  have p2 := hS 2 _ rfl _ (Below.refl _ _)
  replace ha := hid ha
  unfold AG.Au.val
  go_enter Tryd.func70, Tryd.ntmps70
  go_wp2_with fail
  refine (implAutomatonValid_any a A B c d w0 ha0.out).mono ?_
  rintro e w1 ⟨rfl, hb1⟩
  have hB1 := hB0.trans (hb1.mono hB0.size)
  have hC1 := hb1.mono hz0
  clear p0 p1 p2
  have p0 := hS 0 _ rfl _ hC1
  have p1 := hS 1 _ rfl _ hC1
  have p2 := hS 2 _ rfl _ hC1
  cases hok : auOk a
  case false =>
    have hno : Hid (stA a x = -1) := hid (by unfold stA; rw [hok]; rfl)
    replace hok := hid hok
    go_wp2
    go_ret
    exact ⟨ret_int (by rw [hno.out]), hB1⟩
  case true =>
  have hok' := hid hok
  clear hok
  go_wp2_with fail
  refine (implWordWithin_any x a.al w1 hz).mono ?_
  rintro e w2 ⟨rfl, rfl⟩
  cases hwi : within x a.al
  case false =>
    have hno : Hid (stA a x = -1) := hid (by unfold stA; rw [hwi]; simp)
    replace hwi := hid hwi
    go_wp2
    go_ret
    exact ⟨ret_int (by rw [hno.out]), hB1⟩
  case true =>
  have hyes : Hid (stA a x = (autTo a x x.size : Nat)) := hid (by unfold stA; rw [hwi, hok'.out]; rfl)
  have hwi' := hid hwi
  have h5 := within_size hwi
  clear hwi
  have hn12 := ((auOk_iff a).1 hok'.out).2.2.1
  go_wp2_with fail
  refine (tableOf_any a A B c d w1 (by omega) (tabOk_of hok'.out) (ha0.out.later hb1)).mono ?_
  rintro e w2 ⟨g, rfl, hg, hb2⟩
  have hB2 := hB1.trans (hb2.mono hB1.size)
  clear p0 p1 p2
  replace hg := hid hg
  go_wp2_with fail
  go_loopw [6, 22] (fun qv iv wr => ∃ k : Nat, qv = .int .i64 (autTo a x k : Nat) ∧ iv = .int .i64 (k : Nat) ∧ k ≤ x.size ∧ Below w2.heap.size w2 wr) (fun _ iv _ => x.size - (intOf iv).toNat)
  case atStart => exact ⟨0, rfl, rfl, by omega, Below.refl _ _⟩
  case round =>
    obtain ⟨k, rfl, rfl, hk, hb⟩ := hrel
    have hBr := hB2.trans (hb.mono hB2.size)
    by_cases hlt : k < x.size
    · have hlr := wordOk_at (within_word hwi'.out) hlt
      have hle := ltr_ok hlr
      obtain ⟨l, hll⟩ := Int.eq_ofNat_of_zero_le hlr.1
      have hl6 : l < 6 := by omega
      have hq := autTo_lt hok'.out x k
      obtain ⟨q, hqq⟩ : ∃ q, Hid (q = autTo a x k) := ⟨_, hid rfl⟩
      have hnx : Hid (autTo a x (k + 1) = goA a q l) := hid (by rw [autTo, hll, ← hqq.out]; rfl)
      have hle2 : Hid (ltr x k = (l : Int)) := hid (by rw [hle, hll])
      rw [← hqq.out] at hq ⊢
      obtain ⟨t, ht⟩ : ∃ t, Hid (t = goA a q l) := ⟨_, hid rfl⟩
      have y0 : ∀ x', (Fam w2.heap.size w2 x').cell? ⟨g, q * 6 + l, none⟩ = some (.int .i64 (t : Nat)) := fun x' => by rw [ht.out]; exact (hg.out.later (Fam.below w2.heap.size w2 x')).2 q l hq hl6
      have k1 : (0 : Int) ≤ (q : Int) ∧ (q : Int) < (a.nx.length : Int) ∧ (0 : Int) ≤ (l : Int) ∧ (l : Int) < 6 := by omega
      replace hll := hid hll
      replace hle := hid hle
      go_wp2_with fail
      refine wp_region_fam w2.heap.size w2 (by kernel_rfl) (by kernel_rfl) hb ?_
      (repeat (go_big_quiet_step ((refine (letterAt_any x k _ hlt).mono ?_; rintro e w3 ⟨rfl, rfl⟩; exact ⟨by rw [hle2.out], _, rfl⟩))))
      refine wpQuiet_nil ?_
      intro w3 hw3
      replace hw3 := Fam.out hw3
      clear y0
      go_wp2
      go_roundw
      case rel => exact ⟨k + 1, by rw [hnx.out, ht.out], by go_num, by omega, hw3⟩
      case measure => simp [intOf]; omega
    · obtain rfl : k = x.size := by omega
      go_wp2
      go_ret
      exact ⟨ret_int (by rw [hyes.out]), hBr⟩

set_option maxRecDepth 100000 in
set_option maxHeartbeats 4000000 in
theorem implAcceptsWord_any (a : Au) (A B : Option Addr) (c d : Nat) (x : ByteArray) (w : World) (hz : x.size ≤ 9223372036854775807) (ha : AuAt w A c B d a) :
    Calls Tryd.prog 23 #[a.val A c B d, .string x] w fun e w' => e = .returned (.bool (accB a x)) ∧ Below w.heap.size w w' := by
  obtain ⟨w0, hw0, hz0, hB0, hS⟩ := boxed w #[Value.int IntKind.i64 a.al, Value.slice A a.nx.length c, Value.slice B a.ac.length d] 26
  have ha0 := hid (ha.later hB0)
  have p0 := hS 0 _ rfl _ (Below.refl _ _)
  have p1 := hS 1 _ rfl _ (Below.refl _ _)
  have p2 := hS 2 _ rfl _ (Below.refl _ _)
  replace ha := hid ha
  unfold AG.Au.val
  go_enter Tryd.func23, Tryd.ntmps23
  go_wp2_with fail
  refine (implStateAfter_any a A B c d x w0 hz ha0.out).mono ?_
  rintro e w1 ⟨rfl, hb1⟩
  have hB1 := hB0.trans (hb1.mono hB0.size)
  have hC1 := hb1.mono hz0
  clear p0 p1 p2
  have p2 := hS 2 _ rfl _ hC1
  cases hk : (auOk a && within x a.al)
  case false =>
    have hs : stA a x = -1 := by unfold stA; rw [hk]; rfl
    have hf : Hid (accB a x = false) := hid (by unfold accB; rw [hk]; rfl)
    rw [hs]
    replace hs := hid hs
    replace hk := hid hk
    go_wp2
    go_ret
    exact ⟨ret_bool (by rw [hf.out]), hB1⟩
  case true =>
    have hs : stA a x = (autTo a x x.size : Nat) := by unfold stA; rw [hk]; rfl
    have hok : auOk a = true := by rw [Bool.and_eq_true] at hk; exact hk.1
    have hq := autTo_lt hok x x.size
    have hn3 := ((auOk_iff a).1 hok).2.2.2.1
    obtain ⟨q, hqq⟩ : ∃ q, Hid (q = autTo a x x.size) := ⟨_, hid rfl⟩
    have hf : Hid (accB a x = a.ac.getD q false) := hid (by unfold accB; rw [hk, ← hqq.out]; rfl)
    rw [hs, ← hqq.out]
    rw [← hqq.out] at hq
    have hq' : q < a.ac.length := by omega
    obtain ⟨b, o, hA, hbB, hE⟩ := (ha0.out.later hb1).acc (by omega)
    subst hA
    have c0 := hE q hq'
    obtain ⟨t, ht⟩ : ∃ t, Hid (t = a.ac[q]) := ⟨_, hid rfl⟩
    rw [← ht.out] at c0
    have hg : Hid (a.ac.getD q false = t) := hid (by rw [List.getD_eq_getElem?_getD, List.getElem?_eq_getElem hq', ht.out]; rfl)
    have k1 : (0 : Int) ≤ (q : Int) ∧ (q : Int) < (a.ac.length : Int) := by omega
    replace hE := hid hE
    replace hs := hid hs
    replace hk := hid hk
    replace hok := hid hok
    replace hn3 := hid hn3
    go_wp2
    go_ret
    exact ⟨ret_bool (by rw [hf.out, hg.out]), hB1⟩

end Go.Proofs.YtkoganldcmhopaaDoor

/- Plain: words that the automaton of a projection accepts. -/
namespace Go.Proofs.YtkoganldcmhopaaDoor
open AG

theorem autTo_list (a : Au) (w : ByteArray) : ∀ k, k ≤ w.size → autTo a w k = (w.data.toList.take k).foldl (fun q b => goA a q ((b.toNat : Int) - 97).toNat) 0
  | 0, _ => rfl
  | k + 1, hk => by
    have ih := autTo_list a w k (by omega)
    obtain ⟨h', e⟩ := getD_list (w := w) (i := k) (by omega)
    rw [List.take_succ_eq_append_getElem h', List.foldl_append, ← ih]
    show goA a (autTo a w k) (lz w k).toNat = goA a _ _
    unfold lz
    rw [e]
theorem autTo_fold (a : Au) : ∀ r : List Nat, (∀ l ∈ r, l < 6) → (r.reverse.map letB).foldl (fun q b => goA a q ((b.toNat : Int) - 97).toNat) 0 = runA a 0 r
  | [], _ => rfl
  | l :: r, h => by
    have ih := autTo_fold a r fun x hx => h x (List.mem_cons_of_mem _ hx)
    rw [List.reverse_cons, List.map_append, List.foldl_append, ih]
    show goA a (runA a 0 r) _ = goA a (runA a 0 r) l
    rw [letB_num (h l List.mem_cons_self)]
    rfl
theorem autTo_word (a : Au) {r : List Nat} (h : ∀ l ∈ r, l < 6) : autTo a (wordS r) (wordS r).size = runA a 0 r := by
  rw [autTo_list a _ _ (Nat.le_refl _), List.take_of_length_le (by rw [size_list]; omega), wordS_list]
  exact autTo_fold a r h
theorem prK_true {s : Sy} {al : Int} (h : prK s al = true) : prOk s al = true ∧ ∃ x, prNum s al = some x ∧ prA s al = prAu al x := by
  cases hk : prOk s al with
  | false => rw [(prA_bad hk).2] at h; cases h
  | true =>
    cases hn : prNum s al with
    | none => rw [(prA_none hn).2] at h; cases h
    | some x => exact ⟨rfl, x, rfl, (prA_some hk hn).1⟩
theorem prA_al {s : Sy} {al : Int} (h : prK s al = true) : (prA s al).al = al := by
  obtain ⟨_, x, _, e⟩ := prK_true h
  rw [e]
  rfl
theorem auOk_prA {s : Sy} {al : Int} (h : prK s al = true) : auOk (prA s al) = true := by
  obtain ⟨hk, x, hn, e⟩ := prK_true h
  rw [e]
  exact auOk_pr (prOk_parts hk).2.1 hn
/-- A word over an alphabet, as a list of letters. -/
theorem word_ex {x : ByteArray} {A : Int} (h : within x A = true) : ∃ r, x = wordS r ∧ (∀ l ∈ r, l ∈ letters A) ∧ r.length ≤ 50000 := by
  obtain ⟨hA, hsz, hall⟩ := (within_list x A).1 h
  have hb : ∀ b ∈ x.data.toList, ∃ l, l ∈ letters A ∧ letB l = b := fun b hb => by
    have h1 := hall b hb
    unfold pk HasZ bl at h1
    simp only [Bool.and_eq_true, decide_eq_true_eq] at h1
    by_cases ho : lOk ((b.toNat : Int) - 97) = true
    · rw [if_pos ho] at h1
      have ho' := ho
      unfold lOk at ho'
      simp only [decide_eq_true_eq] at ho'
      refine ⟨((b.toNat : Int) - 97).toNat, letters_ok.2 ⟨by omega, h1.2⟩, ?_⟩
      unfold letB
      have : 97 + ((b.toNat : Int) - 97).toNat = b.toNat := by omega
      first
        | (rw [this]; exact UInt8.ofNat_toNat)
        | (rw [Nat.add_comm, this]; exact UInt8.ofNat_toNat)
    · rw [if_neg ho] at h1
      omega
  have key : ∀ bs : List UInt8, (∀ b ∈ bs, ∃ l, l ∈ letters A ∧ letB l = b) → ∃ r : List Nat, r.map letB = bs ∧ ∀ l ∈ r, l ∈ letters A := by
    intro bs
    induction bs with
    | nil => intro _; exact ⟨[], rfl, fun l h => (by cases h)⟩
    | cons b bs ih =>
      intro h
      obtain ⟨l, hl, e⟩ := h b List.mem_cons_self
      obtain ⟨r, hr, hm⟩ := ih fun c hc => h c (List.mem_cons_of_mem _ hc)
      refine ⟨l :: r, by rw [List.map_cons, e, hr], fun y hy => ?_⟩
      rcases List.mem_cons.1 hy with rfl | hy
      · exact hl
      · exact hm y hy
  obtain ⟨r, hr, hm⟩ := key _ hb
  refine ⟨r.reverse, word_ext ?_, fun l hl => hm l (List.mem_reverse.1 hl), ?_⟩
  · rw [wordS_list, List.reverse_reverse, hr]
  · have := congrArg List.length hr
    rw [List.length_map, size_list] at this
    rw [List.length_reverse]
    omega

end Go.Proofs.YtkoganldcmhopaaDoor

/- Plain: how many words an automaton accepts. -/
namespace Go.Proofs.YtkoganldcmhopaaDoor
open AG

theorem runA_lt {a : Au} (h : auOk a = true) : ∀ r : List Nat, runA a 0 r < a.nx.length
  | [] => by have := ((auOk_iff a).1 h).2.1; show 0 < _; omega
  | l :: r => goA_lt h (runA_lt h r)
end Go.Proofs.YtkoganldcmhopaaDoor

/- The program's search: firstPath. -/
namespace Go.Proofs.YtkoganldcmhopaaDoor
open Go.RowKit Go.BigFrame AG

/-- The steps of a search, as a function value: it appends to a list the nodes to which a letter leads. -/
structure NextOk (w : World) (size : Nat) (L : List Nat) (nx : Nat → Nat → List Nat) (fN : FuncId) (capN : Array Value) : Prop where
  run : ∀ args w', (callFunc fN args).run Tryd.prog w' = .ok (.enter fN args) w'
  lt : ∀ q, q < size → ∀ l ∈ L, ∀ n ∈ nx q l, n < size
  len : ∀ q, q < size → ∀ l ∈ L, (nx q l).length ≤ 4096
  call : ∀ w' (q l : Nat) (v : Value) (ns : List Nat) (base : Nat), Below w.heap.size w w' → q < size → l ∈ L → ns.length ≤ 4294967296 → w.heap.size ≤ base → base ≤ w'.heap.size → w'.ownsRow base 3 1 v ns.length (natVals ns) →
    Calls Tryd.prog fN (#[.int .i64 (q : Nat), .int .i64 (l : Nat), v] ++ capN) w' fun e w'' => ∃ v', e = .returned v' ∧ w''.ownsRow base 3 1 v' (ns ++ nx q l).length (natVals (ns ++ nx q l)) ∧ KeepB (fun b => v.ownBlock = some b) w' w''

theorem infoBoolF : (Tryd.prog.info? 4).map (fun i => (i.zero, i.size, i.bytes)) = some (some (.bool false), 1, 1) := by kernel_rfl

/-- The search in memory and as plain lists. -/
def SrchAt (w : World) (size : Nat) (G : Nat → Bool) (L : List Nat) (nx : Nat → Nat → List Nat) (I0 : List Nat) (gv : Value) (bS bG bP gS : Nat) (wr : World) (i k : Nat) (sv : Value) (ss : List StV) (ws : List (List Nat)) (S : Nat → Bool) : Prop :=
  FPst w wr size gv bS bG bP gS sv ss S ∧ SB (fun n => n ∈ I0) L nx G size (ss.map (·.st)) ws S i k

theorem PathOk.of {I : Nat → Prop} {L : List Nat} {nx : Nat → Nat → List Nat} {G : Nat → Prop} {ss : List StV} {ws : List (List Nat)} {i k : Nat} (h : Bfs I L nx G (ss.map (·.st)) ws i k) (hL6 : ∀ l ∈ L, l < 6) : PathOk ss ws := by
  refine ⟨by rw [h.len]; simp, h.zero, fun h0 => ?_, fun j hj hj' h0 => ?_⟩
  · have := h.root (by simpa using h0)
    simpa using this
  · obtain ⟨p, q, hpj, _, h1, hp, hq, h2, hw⟩ := h.link j (by simpa using hj) hj' h0
    simp only [List.getElem_map] at h1 h2
    exact ⟨p, hpj, h1, by rw [h2]; exact hL6 _ (List.getElem_mem _), hp, by rw [hw, h2]⟩
theorem PathOk.add {ss : List StV} {ws : List (List Nat)} (h : PathOk ss ws) {i l : Nat} (hi : i < ws.length) (hl : l < 6) (x : StV) (hx : x.st.par = (i : Int)) (hx' : x.st.let_ = l) : PathOk (ss ++ [x]) (ws ++ [l :: ws[i]]) := by
  have hlen := h.len
  have hpos : 0 < ws.length := by omega
  refine ⟨by simp [hlen], fun h0 => ?_, fun h0 => ?_, fun j hj hj' h0 => ?_⟩
  · rw [List.getElem_append_left hpos]; exact h.zero hpos
  · rw [List.getElem_append_left (by omega)]; exact h.root (by omega)
  · by_cases e : j < ws.length
    · obtain ⟨p, hpj, h1, h2, hp, hw⟩ := h.link j (by omega) e h0
      refine ⟨p, hpj, ?_, ?_, by simp; omega, ?_⟩
      · rw [List.getElem_append_left (by omega)]; exact h1
      · rw [List.getElem_append_left (by omega)]; exact h2
      · rw [List.getElem_append_left e, List.getElem_append_left hp, List.getElem_append_left (by omega)]; exact hw
    · obtain rfl : j = ws.length := by simp at hj'; omega
      refine ⟨i, hi, ?_, ?_, by simp; omega, ?_⟩
      · simp [hlen, hx]
      · simp [hlen, hx', hl]
      · rw [List.getElem_append_left hi]
        simp [hlen, hx']

theorem FPst.later {w w1 w2 : World} {size : Nat} {gv : Value} {bS bG bP gS : Nat} {sv : Value} {ss : List StV} {S : Nat → Bool} (h : FPst w w1 size gv bS bG bP gS sv ss S) (hb : Below w1.heap.size w1 w2) : FPst w w2 size gv bS bG bP gS sv ss S := by
  obtain ⟨cs, hc, hs⟩ := h.seen
  have hk : KeepB (fun b => b = gS) w1 w2 := .of_below hb
  exact h.keep hk (hc.below hb hc.lt) hs

theorem reachedL_len {nx : Nat → Nat → List Nat} {l size : Nat} : ∀ {ns : List Nat}, (∀ q ∈ ns, (nx q l).length ≤ 4096) → (reachedL nx l ns).length ≤ ns.length * 4096
  | [], _ => by simp [reachedL]
  | q :: ns, h => by
    have h1 := h q List.mem_cons_self
    have h2 := reachedL_len (size := size) (ns := ns) fun x hx => h x (List.mem_cons_of_mem _ hx)
    unfold reachedL at h2 ⊢
    rw [List.flatMap_cons, List.length_append, List.length_cons]
    omega

/-- What the search hands back: the first word to a goal, or none. -/
def PathPost (I : Nat → Prop) (L : List Nat) (nx : Nat → Nat → List Nat) (G : Nat → Prop) (o : Option (List Nat)) : Prop :=
  match o with
  | some r => FirstW I L nx G r
  | none => ∀ q n, RW I L nx q n → ¬ G n
def pathV (o : Option (List Nat)) : Value := .tuple #[.string (match o with | some r => wordS r | none => ⟨#[]⟩), .bool o.isSome]

theorem seen_start (size : Nat) : SeenAt (madeCells #[.bool false] size) size (fun _ => false) := by
  refine ⟨by simp [madeCells], fun n hn => ?_⟩
  have h1 := toList_madeCells_one (Value.bool false) size
  rw [← Array.getElem?_toList, h1, List.getElem?_replicate, if_pos hn]

theorem fp_start (w : World) (size : Nat) (gv : Value) :
    ∃ w4, (((w.alloc (Obj.cells #[gv] 75)).alloc (Obj.cells (madeCells #[Value.bool false] size) 4)).alloc (Obj.cells #[Value.slice (some ⟨w.heap.size + 1, 0, none⟩) size size] 24)).alloc (Obj.cells #[Value.slice none 0 0] 155) = w4 ∧
      Below w.heap.size w w4 ∧ FPst w w4 size gv (w.heap.size + 1 + 1) w.heap.size (w.heap.size + 1 + 1 + 1) (w.heap.size + 1) (.slice none 0 0) [] (fun _ => false) := by
  refine ⟨_, rfl, by (repeat (first | exact Below.refl _ _ | assumption | refine Below.drew ?_ | refine Below.alloc ?_ (by first | omega | (simp; done) | (simp; omega)) _ | refine Below.setCell ?_ (by first | omega | (simp; done) | (simp; omega)) _)), by (repeat (first | exact Below.refl _ _ | assumption | refine Below.drew ?_ | refine Below.alloc ?_ (by first | omega | (simp; done) | (simp; omega)) _ | refine Below.setCell ?_ (by first | omega | (simp; done) | (simp; omega)) _)), ?_, ?_, ?_, ⟨_, ?_, seen_start size⟩, by omega, by omega, World.ownsRow_nil _ _ _ _, fun x hx => by cases hx⟩
  · have := (Blk.new ((w.alloc (Obj.cells #[gv] 75)).alloc (Obj.cells (madeCells #[Value.bool false] size) 4)) 24 #[Value.slice (some ⟨w.heap.size + 1, 0, none⟩) size size]).alloc (Obj.cells #[Value.slice none 0 0] 155)
    simpa using this
  · exact ((Blk.new w 75 #[gv]).alloc _).alloc _ |>.alloc _
  · have := Blk.new (((w.alloc (Obj.cells #[gv] 75)).alloc (Obj.cells (madeCells #[Value.bool false] size) 4)).alloc (Obj.cells #[Value.slice (some ⟨w.heap.size + 1, 0, none⟩) size size] 24)) 155 #[Value.slice none 0 0]
    simpa using this
  · have := ((Blk.new (w.alloc (Obj.cells #[gv] 75)) 4 (madeCells #[Value.bool false] size)).alloc (Obj.cells #[Value.slice (some ⟨w.heap.size + 1, 0, none⟩) size size] 24)).alloc (Obj.cells #[Value.slice none 0 0] 155)
    simpa using this

set_option maxRecDepth 100000 in
set_option maxHeartbeats 8000000 in
theorem firstPath_any (w : World) (size : Nat) (G : Nat → Bool) (fG : FuncId) (capG : Array Value) (hG : GoalOk w size G fG capG) (L : List Nat) (hL : L.Pairwise (· < ·)) (hL6 : ∀ l ∈ L, l < 6) (nx : Nat → Nat → List Nat) (fN : FuncId) (capN : Array Value) (hN : NextOk w size L nx fN capN)
    (I0 : List Nat) (h0 : I0 ≠ []) (hI : ∀ n ∈ I0, n < size) (hIl : I0.length ≤ 4294967296) (sv lv : Value) (hsv : w.ownsRow 0 3 1 sv I0.length (natVals I0)) (hlv : w.ownsRow 0 3 1 lv L.length (natVals L)) (hsz : size ≤ 1048576) :
    Calls Tryd.prog 158 #[.int .i64 (size : Nat), sv, lv, .func (.func fN) #[] capN, .func (.func fG) #[] capG] w fun e w' => ∃ o, e = .returned (pathV o) ∧ PathPost (fun n => n ∈ I0) L nx (fun n => G n = true) o ∧ Below w.heap.size w w' := by
  obtain ⟨i0, hi, hz0, hz1, hz2⟩ := info_parts infoBoolF
  have hmk := fun W => run_make_rowN (P := Tryd.prog) 24 4 i0 _ Tryd.underlying24 hi hz0 .i64 .i64 size size (Nat.le_refl _) (by rw [hz2]; omega) (by omega) W
  obtain ⟨lA, lc, rfl, hlc, hlc'⟩ := own_slice hlv
  have hLlen : L.length ≤ 6 := by
    have := nodup_bound 6 L (hL.imp fun h => Nat.ne_of_lt h) hL6
    exact this
  replace hsv := hid hsv
  replace hlv := hid hlv
  replace hI := hid hI
  go_enter Tryd.func158, Tryd.ntmps158
  go_wp2_with fail
  obtain ⟨w4, hw4, hb4, hst4⟩ := fp_start w size (.func (.func fG) #[] capG)
  rw [hw4]
  have hz4 : w.heap.size + 1 + 1 + 1 < w4.heap.size := by rw [← hw4]; simp
  clear hw4 hmk
  generalize hbS : w.heap.size + 1 + 1 = bS at *
  generalize hbP : bS + 1 = bP at *
  generalize hgS : w.heap.size + 1 = gS at *
  replace hbS := hid hbS
  replace hbP := hid hbP
  replace hgS := hid hgS
  clear hz4
  have hz4 := hb4.size
  have hsv4 := hid (own_keep hsv.out (.of_below (K := fun _ => False) hb4) fun _ _ h => h)
  replace hst4 := hid hst4
  refine (visit_any w size G fG capG hG bS w.heap.size bP gS (.slice none 0 0) [] (fun _ => false) (-1) 0 sv I0 w4 hst4.out hsv4.out hI.out hIl (by simp)).mono ?_
  rintro e w5 ⟨rfl, sv5, ss5, hst5, hss5, hkp5⟩
  have hb5 : Below w.heap.size w w5 := hst5.below
  obtain ⟨fr0, hfr0⟩ : ∃ fr, fr = frs (fun _ => false) I0 := ⟨_, rfl⟩
  rw [← hfr0] at hst5 hss5 ⊢
  have hf0ne : fr0 ≠ [] := by
    intro e
    obtain ⟨a, ha⟩ := List.exists_mem_of_ne_nil _ h0
    have := (frs_mem (fun _ => false) I0 a).2 ⟨ha, rfl⟩
    rw [← hfr0, e] at this
    cases this
  cases hg0 : fr0.any G
  · obtain ⟨A0, c0, rfl⟩ : ∃ A c, ss5 = [⟨⟨-1, 0, fr0⟩, A, c⟩] := by
      rcases hss5 with ⟨e, _⟩ | ⟨_, A, c, e⟩
      · exact absurd e hf0ne
      · exact ⟨A, c, by simpa using e⟩
    have hSB0 : Hid (SB (fun n => n ∈ I0) L nx G size [⟨-1, 0, fr0⟩] [[]] (fun n => fr0.contains n) 0 0) := hid (by
      rw [hfr0]
      exact SB.begin h0 hI.out (by rw [← hfr0]; exact hg0))
    have hst5' : Hid (FPst w w5 size (.func (.func fG) #[] capG) bS w.heap.size bP gS sv5 [⟨⟨-1, 0, fr0⟩, A0, c0⟩] (fun n => fr0.contains n)) := hid (by simpa using hst5)
    replace hfr0 := hid hfr0
    replace hss5 := hid hss5
    replace hst5 := hid hst5
    replace hf0ne := hid hf0ne
    replace h0 := hid h0
    replace hg0 := hid hg0
    replace hkp5 := hid hkp5
    go_wp2_with (rw [hg0.out])
    go_loopw [15] (fun iv wr => ∃ (i : Nat) (sv : Value) (ss : List StV) (ws : List (List Nat)) (S : Nat → Bool), iv = .int .i64 i ∧ i ≤ ss.length ∧ SrchAt w size G L nx I0 (.func (.func fG) #[] capG) bS w.heap.size bP gS wr i 0 sv ss ws S) (fun iv _ => size + 1 - (intOf iv).toNat)
    case atStart => exact ⟨0, sv5, _, _, _, rfl, by simp, hst5'.out, hSB0.out⟩
    case round =>
      obtain ⟨i, sv, ss, ws, S, rfl, hi, hst, hSB⟩ := hrel
      have hbd := hSB.bound
      have hpos := hSB.bfs.pos
      have hwl := hSB.bfs.len
      simp only [List.length_map] at hbd hpos hwl
      have p0 := hst.blkP.cell 0
      simp only [List.getElem?_toArray, List.getElem?_cons_zero] at p0
      obtain ⟨gv, cv, rfl, hgv, hgv', hcv, hcv', hcell⟩ := own_steps hst.own hpos
      replace hst := hid hst
      replace hSB := hid hSB
      replace hcell := hid hcell
      by_cases hlt : i < ss.length
      · go_wp2_with fail
        go_loopw [35] (fun kv wr => ∃ (k : Nat) (sv : Value) (ss : List StV) (ws : List (List Nat)) (S : Nat → Bool), kv = .int .i64 k ∧ k ≤ L.length ∧ i < ss.length ∧ SrchAt w size G L nx I0 (.func (.func fG) #[] capG) bS w.heap.size bP gS wr i k sv ss ws S) (fun kv _ => L.length - (intOf kv).toNat)
        case atStart => exact ⟨0, _, _, _, _, rfl, by omega, hlt, hst.out, hSB.out⟩
        case round =>
          clear hcell hst hSB p0 hgv hgv' hcv hcv' hbd hpos hwl
          obtain ⟨k, sv, ss, ws, S, rfl, hk, hi', hst, hSB⟩ := hrel
          have hbd := hSB.bound
          have hpos := hSB.bfs.pos
          have hwl := hSB.bfs.len
          simp only [List.length_map] at hbd hpos hwl
          by_cases hkl : k < L.length
          · have hlw := own_keep hlv.out (.of_below (K := fun _ => False) hst.below) fun _ _ h => h
            obtain ⟨gl, cl, hve, -, -, -, -, hlcell⟩ := own_shape hlw (by omega)
            injection hve with hv1 hv2 hv3
            subst hv1
            subst hv3
            have l0 := hlcell k _ (show (natVals L)[k]? = some (.int .i64 (L[k] : Nat)) from by unfold natVals; simp [hkl])
            have hlL : L[k] ∈ L := List.getElem_mem hkl
            obtain ⟨l, hll⟩ : ∃ l, l = L[k] := ⟨_, rfl⟩
            rw [← hll] at l0 hlL
            have p0 := hst.blkP.cell 0
            simp only [List.getElem?_toArray, List.getElem?_cons_zero] at p0
            obtain ⟨gv, cv, rfl, hgv, hgv', hcv, hcv', hcell⟩ := own_steps hst.own hpos
            obtain ⟨-, -, c2⟩ := hcell i hi'
            have hnodes := hst.nodes ss[i] (List.getElem_mem hi')
            have hnsz : ss[i].st.nodes.length ≤ size := hSB.nodesLen (x := ss[i].st) (List.mem_map.2 ⟨_, List.getElem_mem hi', rfl⟩)
            have hnlt : ∀ n ∈ ss[i].st.nodes, n < size := hSB.small ss[i].st (List.mem_map.2 ⟨_, List.getElem_mem hi', rfl⟩)
            obtain ⟨ns, hnse⟩ : ∃ ns, ns = ss[i].st.nodes := ⟨_, rfl⟩
            obtain ⟨nA, hnA⟩ : ∃ nA, nA = ss[i].A := ⟨_, rfl⟩
            obtain ⟨nc, hnc⟩ : ∃ nc, nc = ss[i].c := ⟨_, rfl⟩
            rw [← hnse, ← hnA, ← hnc] at c2 hnodes
            rw [← hnse] at hnsz hnlt
            replace hll := hid hll
            replace hnse := hid hnse
            replace hnA := hid hnA
            replace hnc := hid hnc
            replace hst := hid hst
            replace hSB := hid hSB
            replace hcell := hid hcell
            replace hlcell := hid hlcell
            replace hlw := hid hlw
            replace hnodes := hid hnodes
            replace hnlt := hid hnlt
            have i1 : (0 : Int) ≤ (i : Int) := by omega
            have i2 : (i : Int) < (ss.length : Int) := by omega
            have hrun := hN.run
            obtain ⟨wo, rfl⟩ : ∃ wo : World, wo = wr := ⟨_, rfl⟩
            go_wp2_with fail
            go_loopw [18, 45] (fun rv jv wr2 => ∃ j : Nat, jv = .int .i64 j ∧ j ≤ ns.length ∧ wr2.ownsRow wo.heap.size 3 1 rv (reachedL nx l (ns.take j)).length (natVals (reachedL nx l (ns.take j))) ∧ Below wo.heap.size wo wr2) (fun _ jv _ => ns.length - (intOf jv).toNat)
            case atStart => exact ⟨0, rfl, by omega, World.ownsRow_nil _ _ _ _, Below.refl _ _⟩
            case round =>
              obtain ⟨j, rfl, hj, hown, hbo⟩ := hrel
              by_cases hjl : j < ns.length
              · have hnr := own_keep hnodes.out (.of_below (K := fun _ => False) hbo) fun _ _ h => h
                obtain ⟨gn, cn, hve, -, -, -, -, hncell⟩ := own_shape hnr (by omega)
                injection hve with hv1 hv2 hv3
                subst hv1
                subst hv3
                have n0 := hncell j _ (show (natVals ns)[j]? = some (.int .i64 (ns[j] : Nat)) from by unfold natVals; simp [hjl])
                have hql := hnlt.out ns[j] (List.getElem_mem hjl)
                have htk := reachedL_snoc (nx := nx) l (ns.take j) ns[j]
                rw [← List.take_succ_eq_append_getElem hjl] at htk
                obtain ⟨q, hq⟩ : ∃ q, q = ns[j] := ⟨_, rfl⟩
                rw [← hq] at n0 hql htk
                have hrl : (reachedL nx l (ns.take j)).length ≤ 4294967296 := by
                  refine Nat.le_trans (reachedL_len (size := size) fun x hx => hN.len x (hnlt.out x (List.mem_of_mem_take hx)) l hlL) ?_
                  have : (ns.take j).length ≤ 1048576 := by simp; omega
                  omega
                have hbw := hst.out.below.trans (hbo.mono hst.out.below.size)
                have hz1 := hst.out.below.size
                have hz2 := hbo.size
                replace hnr := hid hnr
                replace hncell := hid hncell
                replace hq := hid hq
                replace htk := hid htk
                replace hown := hid hown
                replace hrl := hid hrl
                go_wp2_with fail
                refine (hN.call _ q l _ _ wo.heap.size hbw hql hlL hrl.out hz1 hz2 hown.out).mono ?_
                rintro e w6 ⟨v6, rfl, hown6, hkp6⟩
                have hb6 : Hid (Below wo.heap.size wo w6) := hid (hkp6.below hbo hz2 fun b hb => own_block hown.out b hb)
                replace hown6 := hid hown6
                replace hkp6 := hid hkp6
                go_wp2_with fail
                go_roundw
                case rel => exact ⟨j + 1, by go_num, by omega, by rw [htk.out]; exact hown6.out, hb6.out⟩
                case measure => simp [intOf]; omega
              · have htk : ns.take j = ns := List.take_of_length_le (by omega)
                rw [htk] at hown
                have hbw := hst.out.below.trans (hbo.mono hst.out.below.size)
                have hst2 := hid (hst.out.later hbo)
                obtain ⟨R, hR⟩ : ∃ R, R = reachedL nx l ns := ⟨_, rfl⟩
                rw [← hR] at hown
                have hRl : R.length ≤ 4294967296 := by
                  rw [hR]
                  refine Nat.le_trans (reachedL_len (size := size) fun x hx => hN.len x (hnlt.out x hx) l hlL) ?_
                  omega
                have hRs : Hid (∀ n ∈ R, n < size) := hid fun n hn => by
                  rw [hR] at hn
                  obtain ⟨q, hq, hnq⟩ := reachedL_mem.1 hn
                  exact hN.lt q (hnlt.out q hq) l hlL n hnq
                replace htk := hid htk
                replace hR := hid hR
                have hown0 := hid (own_base hown (Nat.zero_le _))
                replace hown := hid hown
                go_wp2_with fail
                refine (visit_any w size G fG capG hG bS w.heap.size bP gS _ ss S (i : Int) l _ R wr hst2.out hown0.out hRs.out hRl (by omega)).mono ?_
                rintro e w7 ⟨rfl, sv7, ss7, hst7, hss7, hkp7⟩
                have hwi : i < ws.length := by omega
                obtain ⟨fr, hfr⟩ : ∃ fr, fr = frs S R := ⟨_, rfl⟩
                rw [← hfr] at hst7 hss7 ⊢
                have hil : i < (ss.map (fun x : StV => x.st)).length := by simpa using hi'
                have hfr' : Hid (fr = frs S (reachedL nx (L[k]'hkl) ((ss.map (fun x : StV => x.st))[i]'hil).nodes)) := hid (by
                  rw [hfr, hR.out, hnse.out, hll.out, List.getElem_map])
                replace hil := hid hil
                replace hfr := hid hfr
                replace hkp7 := hid hkp7
                cases hg : fr.any G
                · have hnx : Hid (∃ ws' , SrchAt w size G L nx I0 (.func (.func fG) #[] capG) bS w.heap.size bP gS w7 i (k + 1) sv7 ss7 ws' (fun n => S n || fr.contains n) ∧ i < ss7.length) := hid (by
                    rcases hss7 with ⟨e, rfl⟩ | ⟨hne, A7, c7, rfl⟩
                    · refine ⟨ws, ⟨hst7, ?_⟩, hi'⟩
                      have := hSB.out.old hL hil.out hkl (by rw [← hfr'.out]; exact e)
                      have hS : (fun n => S n || fr.contains n) = S := by funext n; rw [e]; simp
                      rw [hS]
                      exact this
                    · have := hSB.out.add hL hil.out hwi hkl (fun q hq n hn => hN.lt q hq _ (List.getElem_mem hkl) n hn) hfr'.out hne hg
                      refine ⟨ws ++ [l :: ws[i]], ⟨hst7, ?_⟩, by simp; omega⟩
                      rw [List.map_append, hll.out]
                      exact this)
                  replace hst7 := hid hst7
                  replace hss7 := hid hss7
                  replace hg := hid hg
                  go_wp2_with (rw [hg.out])
                  go_roundw
                  case rel =>
                    obtain ⟨ws', h1, h2⟩ := hnx.out
                    exact ⟨k + 1, sv7, ss7, ws', _, by go_num, by omega, h2, h1⟩
                  case measure => simp [intOf]; omega
                · have hF := hid (hSB.out.found hL hil.out hwi hkl (by rw [← hfr'.out]; exact hg))
                  obtain ⟨A7, c7, rfl⟩ : ∃ A c, ss7 = ss ++ [⟨⟨i, l, fr⟩, A, c⟩] := by
                    rcases hss7 with ⟨e, _⟩ | ⟨_, A, c, e⟩
                    · rw [e] at hg; cases hg
                    · exact ⟨A, c, e⟩
                  have hpath := hid (PathOk.add (PathOk.of hSB.out.bfs hL6) hwi (hL6 l hlL) ⟨⟨i, l, fr⟩, A7, c7⟩ rfl rfl)
                  obtain ⟨n, hn⟩ : ∃ n, ss.length = n + 1 := ⟨ss.length - 1, by omega⟩
                  have p7 := hst7.blkP.cell 0
                  simp only [List.getElem?_toArray, List.getElem?_cons_zero] at p7
                  obtain ⟨g7, d7, rfl, hg7, hg7', hd7, hd7', hcell7⟩ := own_steps hst7.own (by simp)
                  have hb7 := hst7.below
                  have hlast : Hid ((ws ++ [l :: ws[i]])[n + 1]'(by simp; omega) = l :: ws[i]) := hid (by
                    have : n + 1 = ws.length := by omega
                    simp [this])
                  have hword : Hid (L[k] :: ws[i] = l :: ws[i]) := hid (by rw [hll.out])
                  replace hst7 := hid hst7
                  replace hss7 := hid hss7
                  replace hg := hid hg
                  have hn' := hid (show (ss ++ [(⟨⟨i, l, fr⟩, A7, c7⟩ : StV)]).length = n + 2 by simp; omega)
                  have hc7 := hid (show ∀ j (hj : j < (ss ++ [(⟨⟨i, l, fr⟩, A7, c7⟩ : StV)]).length), w7.cell? ⟨g7, j * 3, none⟩ = some (.int .i64 (ss ++ [(⟨⟨i, l, fr⟩, A7, c7⟩ : StV)])[j].st.par) ∧ w7.cell? ⟨g7, j * 3 + 1, none⟩ = some (.int .i64 ((ss ++ [(⟨⟨i, l, fr⟩, A7, c7⟩ : StV)])[j].st.let_ : Nat)) from fun j hj => ⟨(hcell7 j hj).1, (hcell7 j hj).2.1⟩)
                  have hls := hid (show (ss ++ [(⟨⟨i, l, fr⟩, A7, c7⟩ : StV)]).length ≤ 4294967296 by simp; omega)
                  have hwl' := hid (show n + 1 < (ws ++ [l :: ws[i]]).length by simp; omega)
                  replace hcell7 := hid hcell7
                  replace hn := hid hn
                  replace hd7 := hid hd7
                  go_wp2_with (rw [hg.out])
                  refine (pathWord_any (ss ++ [⟨⟨i, l, fr⟩, A7, c7⟩]) (ws ++ [l :: ws[i]]) g7 d7 n _ w7 hn'.out hn'.out hls.out hpath.out hwl'.out hd7.out hd7' hg7' hc7.out).mono ?_
                  rintro e w8 ⟨he, hb8⟩
                  rw [hlast.out] at he
                  subst he
                  have hb9 := hb7.trans (hb8.mono hb7.size)
                  go_wp2_with fail
                  go_ret2
                  exact ⟨some (l :: ws[i]), rfl, by rw [← hword.out]; exact hF.out, hb9⟩
          · have hov := hid (show SrchAt w size G L nx I0 (.func (.func fG) #[] capG) bS w.heap.size bP gS wr (i + 1) 0 sv ss ws S from ⟨hst, hSB.over (by omega)⟩)
            replace hst := hid hst
            replace hSB := hid hSB
            go_wp2_with fail
            go_roundw
            case rel => exact ⟨i + 1, sv, ss, ws, S, by go_num, by omega, hov.out⟩
            case measure => simp [intOf]; omega
      · have hN := hid (show ∀ q n, RW (fun n => n ∈ I0) L nx q n → ¬ G n = true from by
          have := hSB.out
          obtain rfl : i = (ss.map (·.st)).length := by simp; omega
          exact this.none)
        have hbf := hst.out.below
        go_wp2
        go_ret2
        exact ⟨none, rfl, hN.out, hbf⟩
  · have hfin := hid (first_now (L := L) (nx := nx) (G := G) (I0 := I0) (by rw [← hfr0]; exact hg0))
    replace hfr0 := hid hfr0
    replace hss5 := hid hss5
    replace hst5 := hid hst5
    replace hf0ne := hid hf0ne
    replace h0 := hid h0
    replace hkp5 := hid hkp5
    go_wp2_with fail
    go_ret2
    exact ⟨some [], rfl, hfin.out, hb5⟩

end Go.Proofs.YtkoganldcmhopaaDoor

/- Plain: the search through two automata of sets finds the first trace outside. -/
namespace Go.Proofs.YtkoganldcmhopaaDoor
open AG

/-- A step of two automata, their states as one number. -/
def goB (a b : Au) (q l : Nat) : Nat := goA a (q / b.nx.length) l * b.nx.length + goA b (q % b.nx.length) l
theorem pair_div {n p q : Nat} (h : p < n) : (q * n + p) / n = q ∧ (q * n + p) % n = p := by
  rw [Nat.mul_comm]
  constructor
  · rw [Nat.mul_add_div (by omega), Nat.div_eq_of_lt h, Nat.add_zero]
  · rw [Nat.mul_add_mod, Nat.mod_eq_of_lt h]
theorem RW_both {a b : Au} (hb : auOk b = true) {L : List Nat} : ∀ (r : List Nat) (m : Nat), RW (fun m => m ∈ [0]) L (fun q l => [goB a b q l]) r m ↔ (∀ l ∈ r, l ∈ L) ∧ m = runA a 0 r * b.nx.length + runA b 0 r
  | [], m => by
    show m ∈ [0] ↔ _
    simp [runA]
  | l :: r, m => by
    show (l ∈ L ∧ ∃ k, RW (fun m => m ∈ [0]) L (fun q l => [goB a b q l]) r k ∧ m ∈ [goB a b k l]) ↔ _
    have hlt := runA_lt hb r
    obtain ⟨e1, e2⟩ := pair_div (q := runA a 0 r) hlt
    constructor
    · rintro ⟨hl, k, hk, hm⟩
      obtain ⟨h1, h2⟩ := (RW_both hb r k).1 hk
      refine ⟨fun x hx => ?_, ?_⟩
      · rcases List.mem_cons.1 hx with rfl | hx
        · exact hl
        · exact h1 x hx
      · rw [List.mem_singleton.1 hm, h2]
        unfold goB
        rw [e1, e2]
        rfl
    · rintro ⟨h1, h2⟩
      refine ⟨h1 l List.mem_cons_self, _, (RW_both hb r _).2 ⟨fun x hx => h1 x (List.mem_cons_of_mem _ hx), rfl⟩, ?_⟩
      rw [h2]
      unfold goB
      rw [e1, e2]
      exact List.mem_singleton.2 rfl
end Go.Proofs.YtkoganldcmhopaaDoor

/- Plain: the system of an automaton: its accepting states, and the letters that lead from one to another. -/
namespace Go.Proofs.YtkoganldcmhopaaDoor
open AG

/-- The accepting states below k as a set. -/
def accSet (a : Au) : Nat → Nat
  | 0 => 0
  | k + 1 => if a.ac.getD k false = true then accSet a k ||| 2 ^ k else accSet a k
theorem accSet_lt (a : Au) : ∀ k, accSet a k < 2 ^ k
  | 0 => by simp [accSet]
  | k + 1 => by
    have ih := accSet_lt a k
    have h1 : 2 ^ k < 2 ^ (k + 1) := Nat.pow_lt_pow_right (by omega) (by omega)
    unfold accSet
    split
    · exact or_pow_lt (by omega) (by omega)
    · omega
theorem accSet_bit (a : Au) (j : Nat) : ∀ k, (accSet a k).testBit j = (decide (j < k) && a.ac.getD j false)
  | 0 => by simp [accSet]
  | k + 1 => by
    have ih := accSet_bit a j k
    unfold accSet
    by_cases h : a.ac.getD k false = true
    · rw [if_pos h]
      by_cases e : k = j
      · subst e
        rw [h, decide_eq_true (by omega)]
        exact (testBit_or_pow _ _ _).2 (.inr rfl)
      · rw [Bool.eq_iff_iff, testBit_or_pow, ih]
        simp only [Bool.and_eq_true, decide_eq_true_eq]
        constructor
        · rintro (⟨h1, h2⟩ | h1)
          · exact ⟨by omega, h2⟩
          · exact absurd h1 e
        · rintro ⟨h1, h2⟩
          exact .inl ⟨by omega, h2⟩
    · rw [if_neg h, ih]
      by_cases e : k = j
      · subst e
        rw [Bool.not_eq_true] at h
        rw [h]
        simp
      · have : decide (j < k + 1) = decide (j < k) := by rw [Bool.eq_iff_iff]; simp; omega
        rw [this]
def accS (a : Au) : Nat := accSet a a.nx.length
/-- The edges of a row. -/
def rowEs (L : List Nat) (q : Nat) (row : List Int) : List Ed := (L.zip row).map fun p => ⟨(q : Int), (p.1 : Int), p.2⟩
def fullTo (a : Au) (k : Nat) : List Ed := (List.range k).flatMap fun q => rowEs (letters a.al) q (a.nx.getD q [])
def fullSy (a : Au) : Sy := ⟨a.al, (a.nx.length : Nat), fullTo a a.nx.length⟩
def soOk (a : Au) : Bool := auOk a && a.ac.getD 0 false
def soS (a : Au) : Sy := if soOk a = true then trimSy (fullSy a) (accS a) else ⟨0, 0, []⟩

theorem rowEs_len (L : List Nat) (q : Nat) (row : List Int) : (rowEs L q row).length = min L.length row.length := by unfold rowEs; simp
theorem rowEs_get (L : List Nat) (q : Nat) (row : List Int) {k : Nat} (h1 : k < L.length) (h2 : k < row.length) : (rowEs L q row)[k]'(by rw [rowEs_len]; omega) = ⟨(q : Int), (L[k] : Int), row[k]⟩ := by
  unfold rowEs
  simp
theorem rowEs_take (L : List Nat) (q : Nat) (row : List Int) {k : Nat} (h1 : k < L.length) (h2 : k < row.length) : (rowEs L q row).take (k + 1) = (rowEs L q row).take k ++ [⟨(q : Int), (L[k] : Int), row[k]⟩] := by
  rw [List.take_succ_eq_append_getElem (by rw [rowEs_len]; omega), rowEs_get L q row h1 h2]
theorem fullTo_succ (a : Au) {k : Nat} (h : k < a.nx.length) : fullTo a (k + 1) = fullTo a k ++ rowEs (letters a.al) k a.nx[k] := by
  unfold fullTo
  rw [List.range_succ, List.flatMap_append]
  simp [List.getD_eq_getElem?_getD, List.getElem?_eq_getElem h]
theorem letters_len6 (A : Int) : (letters A).length ≤ 6 := lettersTo_len A 6
theorem fullTo_len (a : Au) : ∀ k, (fullTo a k).length ≤ k * 6
  | 0 => Nat.le_refl _
  | k + 1 => by
    have ih := fullTo_len a k
    have h6 := letters_len6 a.al
    unfold fullTo at ih ⊢
    rw [List.range_succ, List.flatMap_append, List.length_append]
    simp only [List.flatMap_cons, List.flatMap_nil, List.append_nil, rowEs_len]
    omega

theorem row_at {a : Au} (h : auOk a = true) {q : Nat} (hq : q < a.nx.length) : a.nx.getD q [] = a.nx[q] ∧ (a.nx[q]).length = (letters a.al).length ∧ ∀ t ∈ a.nx[q], 0 ≤ t ∧ t < (a.nx.length : Int) := by
  obtain ⟨_, _, _, _, h5⟩ := (auOk_iff a).1 h
  have := h5 _ (List.getElem_mem hq)
  exact ⟨by rw [List.getD_eq_getElem?_getD, List.getElem?_eq_getElem hq]; rfl, this.1, this.2⟩
theorem goA_at {a : Au} (h : auOk a = true) {q i : Nat} (hq : q < a.nx.length) (hi : i < (letters a.al).length) (hi' : i < (a.nx[q]).length) : ((goA a q (letters a.al)[i] : Nat) : Int) = (a.nx[q])[i] := by
  obtain ⟨e1, e2, e3⟩ := row_at h hq
  have hnd : (letters a.al).Nodup := (letters_sorted a.al).imp fun h => by omega
  have hidx : (letters a.al).idxOf (letters a.al)[i] = i := hnd.idxOf_getElem i hi
  unfold goA
  rw [if_pos (List.getElem_mem hi), hidx, e1, List.getD_eq_getElem?_getD, List.getElem?_eq_getElem hi']
  have := (e3 _ (List.getElem_mem hi')).1
  show (((a.nx[q])[i].toNat : Nat) : Int) = _
  omega
/-- The edges of an automaton. -/
theorem fullTo_mem {a : Au} (h : auOk a = true) {e : Ed} : e ∈ fullTo a a.nx.length ↔ ∃ q l, q < a.nx.length ∧ l ∈ letters a.al ∧ e = ⟨(q : Int), (l : Int), (goA a q l : Int)⟩ := by
  unfold fullTo
  rw [List.mem_flatMap]
  constructor
  · rintro ⟨q, hq, he⟩
    rw [List.mem_range] at hq
    obtain ⟨e1, e2, e3⟩ := row_at h hq
    rw [e1] at he
    obtain ⟨i, hi, rfl⟩ := List.getElem_of_mem he
    have hi' := hi
    rw [rowEs_len] at hi'
    refine ⟨q, (letters a.al)[i], hq, List.getElem_mem _, ?_⟩
    rw [rowEs_get _ _ _ (by omega) (by omega), goA_at h hq (by omega) (by omega)]
  · rintro ⟨q, l, hq, hl, rfl⟩
    refine ⟨q, List.mem_range.2 hq, ?_⟩
    obtain ⟨e1, e2, e3⟩ := row_at h hq
    obtain ⟨i, hi, rfl⟩ := List.getElem_of_mem hl
    rw [e1, goA_at h hq hi (by omega), ← rowEs_get (letters a.al) q a.nx[q] hi (by omega)]
    exact List.getElem_mem _
theorem fullSy_in {a : Au} (h : auOk a = true) : edgesIn (fullSy a) := by
  intro e he
  obtain ⟨q, l, hq, hl, rfl⟩ := (fullTo_mem h).1 he
  have h12 := ((auOk_iff a).1 h).2.2.1
  have hg := goA_lt h (q := q) (l := l) hq
  obtain ⟨hl6, hh⟩ := letters_lt hl
  show (0 : Int) ≤ (q : Int) ∧ (q : Int) < 16 ∧ (0 : Int) ≤ ((goA a q l : Nat) : Int) ∧ ((goA a q l : Nat) : Int) < 16 ∧ (0 : Int) ≤ (l : Int) ∧ (l : Int) < 6 ∧ Has a.al (l : Int).toNat = true ∧ (q : Int) < ((a.nx.length : Nat) : Int) ∧ ((goA a q l : Nat) : Int) < ((a.nx.length : Nat) : Int)
  refine ⟨by omega, by omega, by omega, by omega, by omega, by omega, by rw [Int.toNat_natCast]; exact hh, by omega, by omega⟩
theorem fullTo_sorted {a : Au} (h : auOk a = true) : (fullTo a a.nx.length).Pairwise fun x y => edgeLt x y = true := by
  unfold fullTo
  rw [List.pairwise_flatMap]
  constructor
  · intro q hq
    rw [List.mem_range] at hq
    obtain ⟨e1, e2, e3⟩ := row_at h hq
    rw [e1, List.pairwise_iff_getElem]
    intro i j hi hj hij
    have hi' := hi
    have hj' := hj
    rw [rowEs_len] at hi' hj'
    rw [rowEs_get _ _ _ (by omega) (by omega), rowEs_get _ _ _ (by omega) (by omega), edgeLt_iff]
    right
    refine ⟨rfl, .inl ?_⟩
    have := List.pairwise_iff_getElem.1 (letters_sorted a.al) i j (by omega) (by omega) hij
    show ((letters a.al)[i] : Int) < ((letters a.al)[j] : Int)
    omega
  · refine List.pairwise_lt_range.imp fun {p q} hpq x hx y hy => ?_
    unfold rowEs at hx hy
    obtain ⟨u, _, rfl⟩ := List.mem_map.1 hx
    obtain ⟨v, _, rfl⟩ := List.mem_map.1 hy
    rw [edgeLt_iff]
    left
    show (p : Int) < (q : Int)
    omega
theorem trimEs_sorted {R : Nat} {es : List Ed} (hp : es.Pairwise fun x y => edgeLt x y = true) (hin : ∀ e ∈ es, 0 ≤ e.f ∧ 0 ≤ e.t) : (trimEs R es).Pairwise fun x y => edgeLt x y = true := by
  unfold trimEs
  rw [List.pairwise_map]
  refine (hp.filter (keptE R)).imp_of_mem fun {a b} ha hb hlt => ?_
  rw [List.mem_filter] at ha hb
  have ka := ha.2
  have kb := hb.2
  unfold keptE at ka kb
  rw [Bool.and_eq_true] at ka kb
  obtain ⟨a1, a2⟩ := hin a ha.1
  obtain ⟨b1, b2⟩ := hin b hb.1
  rw [edgeLt_iff] at hlt ⊢
  show ((rankN R a.f.toNat : Nat) : Int) < ((rankN R b.f.toNat : Nat) : Int) ∨ (((rankN R a.f.toNat : Nat) : Int) = ((rankN R b.f.toNat : Nat) : Int) ∧ (a.l < b.l ∨ (a.l = b.l ∧ ((rankN R a.t.toNat : Nat) : Int) < ((rankN R b.t.toNat : Nat) : Int))))
  rcases hlt with h | ⟨h, h'⟩
  · left
    have := rank_lt (S := R) (a := a.f.toNat) (b := b.f.toNat) (by omega) ka.1
    omega
  · right
    refine ⟨by rw [h], ?_⟩
    rcases h' with h' | ⟨h', h2⟩
    · exact .inl h'
    · refine .inr ⟨h', ?_⟩
      have := rank_lt (S := R) (a := a.t.toNat) (b := b.t.toNat) (by omega) ka.2
      omega

theorem soOk_iff {a : Au} : soOk a = true ↔ auOk a = true ∧ a.ac.getD 0 false = true := by unfold soOk; rw [Bool.and_eq_true]
theorem soS_eq {a : Au} (h : soOk a = true) : soS a = trimSy (fullSy a) (accS a) := by unfold soS; rw [if_pos h]
theorem soS_al {a : Au} (h : soOk a = true) : (soS a).al = a.al := by rw [soS_eq h]; rfl
theorem accS_bit {a : Au} (h : auOk a = true) (j : Nat) : (accS a).testBit j = true ↔ j < a.nx.length ∧ a.ac.getD j false = true := by
  unfold accS
  rw [accSet_bit, Bool.and_eq_true, decide_eq_true_eq]
theorem accS_lt {a : Au} (h : auOk a = true) : accS a < 65536 := by
  have h1 := accSet_lt a a.nx.length
  have h12 := ((auOk_iff a).1 h).2.2.1
  have : 2 ^ a.nx.length ≤ 2 ^ 12 := Nat.pow_le_pow_right (by omega) h12
  unfold accS
  omega
theorem soS_mem {a : Au} (h : soOk a = true) {e : Ed} : e ∈ (soS a).es ↔ ∃ q l, q < a.nx.length ∧ l ∈ letters a.al ∧ a.ac.getD q false = true ∧ a.ac.getD (goA a q l) false = true ∧ e = ⟨(rankN (accS a) q : Nat), (l : Nat), (rankN (accS a) (goA a q l) : Nat)⟩ := by
  have hok := (soOk_iff.1 h).1
  rw [soS_eq h, trim_mem]
  constructor
  · rintro ⟨e0, he0, h1, h2, rfl⟩
    obtain ⟨q, l, hq, hl, rfl⟩ := (fullTo_mem hok).1 he0
    exact ⟨q, l, hq, hl, ((accS_bit hok _).1 h1).2, ((accS_bit hok _).1 h2).2, rfl⟩
  · rintro ⟨q, l, hq, hl, h1, h2, rfl⟩
    exact ⟨_, (fullTo_mem hok).2 ⟨q, l, hq, hl, rfl⟩, (accS_bit hok _).2 ⟨hq, h1⟩, (accS_bit hok _).2 ⟨goA_lt hok hq, h2⟩, rfl⟩
theorem soS_ok {a : Au} (h : soOk a = true) : sysOk (soS a) = true := by
  have hok := (soOk_iff.1 h).1
  obtain ⟨h1, h2, h3, -⟩ := (auOk_iff a).1 hok
  have hin := fullSy_in hok
  have hz : (accS a).testBit 0 = true := (accS_bit hok 0).2 ⟨by omega, (soOk_iff.1 h).2⟩
  refine sysOk_of (by rw [soS_al h]; exact h1) ?_ (fun e he => ?_) ?_
  · rw [soS_eq h]
    show 1 ≤ ((rankN (accS a) ((a.nx.length : Nat) : Int).toNat : Nat) : Int) ∧ ((rankN (accS a) ((a.nx.length : Nat) : Int).toNat : Nat) : Int) ≤ 16
    rw [Int.toNat_natCast]
    have h4 := rank_lt (S := accS a) (a := 0) (b := a.nx.length) (by omega) hz
    have h5 := rankN_le (accS a) a.nx.length
    omega
  · obtain ⟨q, l, hq, hl, a1, a2, rfl⟩ := (soS_mem h).1 he
    have hg := goA_lt hok (q := q) (l := l) hq
    have r1 := rank_lt (S := accS a) hq ((accS_bit hok _).2 ⟨hq, a1⟩)
    have r2 := rank_lt (S := accS a) hg ((accS_bit hok _).2 ⟨hg, a2⟩)
    obtain ⟨hl6, hh⟩ := letters_lt hl
    rw [soS_al h]
    have est : (soS a).st = ((rankN (accS a) a.nx.length : Nat) : Int) := by rw [soS_eq h]; rfl
    rw [est]
    unfold edgeOk
    rw [Bool.and_eq_true, decide_eq_true_iff]
    dsimp only
    exact ⟨⟨by omega, by omega, by omega, by omega, by omega, by omega⟩, by rw [Int.toNat_natCast]; exact hh⟩
  · rw [soS_eq h]
    exact trimEs_sorted (fullTo_sorted hok) fun e he => ⟨(hin e he).1, (hin e he).2.2.1⟩

/-- All beginnings of a word (its last letter first) are accepted. -/
def safeA (a : Au) : List Nat → Bool
  | [] => a.ac.getD 0 false
  | l :: r => safeA a r && a.ac.getD (runA a 0 (l :: r)) false
theorem safe_acc {a : Au} : ∀ {r : List Nat}, safeA a r = true → a.ac.getD (runA a 0 r) false = true
  | [], h => h
  | _ :: _, h => by unfold safeA at h; exact (Bool.and_eq_true _ _ ▸ h).2
theorem setW_so {a : Au} (h : soOk a = true) : ∀ r : List Nat, (∀ l ∈ r, l ∈ letters a.al) → setW (soS a) r = if safeA a r = true then 2 ^ rankN (accS a) (runA a 0 r) else 0
  | [], _ => by
    have h0 := (soOk_iff.1 h).2
    show 1 = if a.ac.getD 0 false = true then 2 ^ rankN (accS a) 0 else 0
    rw [if_pos h0]
    rfl
  | l :: r, hr => by
    have hok := (soOk_iff.1 h).1
    have ih := setW_so h r fun x hx => hr x (List.mem_cons_of_mem _ hx)
    have hl := hr l List.mem_cons_self
    have hq := runA_lt hok r
    have hq2 := runA_lt hok (l :: r)
    have h12 := ((auOk_iff a).1 hok).2.2.1
    refine Nat.eq_of_testBit_eq fun t => ?_
    show (stepSet (soS a) (setW (soS a) r) (l : Int)).testBit t = _
    rw [ih, Bool.eq_iff_iff]
    unfold stepSet
    rw [bitsOf_testBit]
    constructor
    · rintro ⟨ht, e, he, e1, e2, e3⟩
      obtain ⟨q', l', hq', hl', a1, a2, rfl⟩ := (soS_mem h).1 he
      by_cases hs : safeA a r = true
      · rw [if_pos hs, Int.toNat_natCast, Nat.testBit_two_pow] at e2
        have e2' : rankN (accS a) (runA a 0 r) = rankN (accS a) q' := by simpa using e2
        have e4 := rank_inj ((accS_bit hok _).2 ⟨hq, safe_acc hs⟩) ((accS_bit hok _).2 ⟨hq', a1⟩) e2'
        have e5 : l' = l := by have : (l' : Int) = (l : Int) := e1; omega
        subst e5
        rw [← e4] at a2 e3
        have hs2 : safeA a (l' :: r) = true := by
          unfold safeA
          rw [hs, Bool.true_and]
          exact a2
        rw [if_pos hs2, Nat.testBit_two_pow, decide_eq_true_eq]
        rw [Int.toNat_natCast] at e3
        exact e3
      · rw [if_neg hs, Nat.zero_testBit] at e2
        cases e2
    · intro ht
      by_cases hs2 : safeA a (l :: r) = true
      · rw [if_pos hs2, Nat.testBit_two_pow, decide_eq_true_eq] at ht
        have hs : safeA a r = true := by unfold safeA at hs2; exact (Bool.and_eq_true _ _ ▸ hs2).1
        have hle := rankN_le (accS a) (runA a 0 (l :: r))
        refine ⟨by omega, _, (soS_mem h).2 ⟨runA a 0 r, l, hq, hl, safe_acc hs, safe_acc hs2, rfl⟩, rfl, ?_, ?_⟩
        · rw [if_pos hs, Int.toNat_natCast, Nat.testBit_two_pow]
          simp
        · rw [Int.toNat_natCast]
          exact ht
      · rw [if_neg hs2, Nat.zero_testBit] at ht
        cases ht
theorem setW_so_ne {a : Au} (h : soOk a = true) {r : List Nat} (hr : ∀ l ∈ r, l ∈ letters a.al) : setW (soS a) r ≠ 0 ↔ safeA a r = true := by
  rw [setW_so h r hr]
  by_cases hs : safeA a r = true
  · rw [if_pos hs]
    exact ⟨fun _ => hs, fun _ => by have := Nat.two_pow_pos (rankN (accS a) (runA a 0 r)); omega⟩
  · rw [if_neg hs]
    exact ⟨fun h => absurd rfl h, fun h => absurd h hs⟩

/-- The automaton of the words of which all beginnings are accepted. -/
def safNx (a : Au) (q : Nat) (row : List Int) : List Int := if a.ac.getD q false = true then row else row.map fun _ => (q : Int)
def safA (a : Au) : Au := ⟨a.al, a.nx.mapIdx (safNx a), a.ac⟩
theorem safNx_len (a : Au) (q : Nat) (row : List Int) : (safNx a q row).length = row.length := by unfold safNx; split <;> simp
theorem safA_len (a : Au) : (safA a).nx.length = a.nx.length := by unfold safA; simp
theorem safA_ok {a : Au} (h : auOk a = true) : auOk (safA a) = true := by
  obtain ⟨h1, h2, h3, h4, h5⟩ := (auOk_iff a).1 h
  refine (auOk_iff _).2 ⟨h1, by rw [safA_len]; exact h2, by rw [safA_len]; exact h3, by rw [safA_len]; exact h4, fun r hr => ?_⟩
  rw [safA_len]
  obtain ⟨i, hi, rfl⟩ := List.getElem_of_mem hr
  have hi' : i < a.nx.length := by rw [safA_len] at hi; exact hi
  have e : (safA a).nx[i] = safNx a i a.nx[i] := by
    show (a.nx.mapIdx (safNx a))[i]'(by simpa using hi') = _
    rw [List.getElem_mapIdx]
  rw [e]
  obtain ⟨g1, g2⟩ := h5 _ (List.getElem_mem hi')
  refine ⟨by rw [safNx_len]; exact g1, fun q hq => ?_⟩
  unfold safNx at hq
  split at hq
  · exact g2 q hq
  · obtain ⟨_, _, rfl⟩ := List.mem_map.1 hq
    omega
theorem goA_saf {a : Au} (h : auOk a = true) {q l : Nat} (hq : q < a.nx.length) (hl : l ∈ letters a.al) : goA (safA a) q l = if a.ac.getD q false = true then goA a q l else q := by
  obtain ⟨i, hi, rfl⟩ := List.getElem_of_mem hl
  obtain ⟨e1, e2, e3⟩ := row_at h hq
  have e : (safA a).nx[q]'(by rw [safA_len]; exact hq) = safNx a q a.nx[q] := by
    show (a.nx.mapIdx (safNx a))[q]'(by simpa using hq) = _
    rw [List.getElem_mapIdx]
  have hlen : i < ((safA a).nx[q]'(by rw [safA_len]; exact hq)).length := by rw [e, safNx_len]; omega
  have h1 := goA_at (safA_ok h) (q := q) (i := i) (by rw [safA_len]; exact hq) hi hlen
  have h2 := goA_at h hq hi (by omega)
  have h3 : ((safA a).nx[q]'(by rw [safA_len]; exact hq))[i]'hlen = (safNx a q a.nx[q])[i]'(by rw [safNx_len]; omega) := by simp only [e]
  rw [h3] at h1
  by_cases hc : a.ac.getD q false = true
  · rw [if_pos hc]
    have : (safNx a q a.nx[q])[i]'(by rw [safNx_len]; omega) = (a.nx[q])[i]'(by omega) := by unfold safNx; simp only [if_pos hc]
    rw [this, ← h2] at h1
    exact Int.ofNat.inj h1
  · rw [if_neg hc]
    have : (safNx a q a.nx[q])[i]'(by rw [safNx_len]; omega) = (q : Int) := by unfold safNx; simp only [if_neg hc, List.getElem_map]
    rw [this] at h1
    exact Int.ofNat.inj h1
theorem run_saf {a : Au} (h : auOk a = true) : ∀ r : List Nat, (∀ l ∈ r, l ∈ letters a.al) → (safeA a r = true → runA (safA a) 0 r = runA a 0 r) ∧ (safeA a r = false → a.ac.getD (runA (safA a) 0 r) false = false) ∧ runA (safA a) 0 r < a.nx.length
  | [], _ => ⟨fun _ => rfl, fun h => h, by have := ((auOk_iff a).1 h).2.1; show 0 < _; omega⟩
  | l :: r, hr => by
    obtain ⟨i1, i2, i3⟩ := run_saf h r fun x hx => hr x (List.mem_cons_of_mem _ hx)
    have hgo : runA (safA a) 0 (l :: r) = if a.ac.getD (runA (safA a) 0 r) false = true then goA a (runA (safA a) 0 r) l else runA (safA a) 0 r := goA_saf h i3 (hr l List.mem_cons_self)
    have hlt : runA (safA a) 0 (l :: r) < a.nx.length := by
      rw [hgo]
      split
      · exact goA_lt h i3
      · exact i3
    refine ⟨fun hs => ?_, fun hs => ?_, hlt⟩
    · have hs1 : safeA a r = true := by unfold safeA at hs; exact (Bool.and_eq_true _ _ ▸ hs).1
      rw [hgo, i1 hs1, if_pos (safe_acc hs1)]
      rfl
    · cases hs1 : safeA a r
      · have := i2 hs1
        rw [hgo, this]
        simpa using this
      · rw [hgo, i1 hs1, if_pos (safe_acc hs1)]
        unfold safeA at hs
        rw [hs1, Bool.true_and] at hs
        exact hs
theorem acc_saf {a : Au} (h : auOk a = true) {r : List Nat} (hr : ∀ l ∈ r, l ∈ letters a.al) : accA (safA a) r = safeA a r := by
  obtain ⟨i1, i2, _⟩ := run_saf h r hr
  show a.ac.getD (runA (safA a) 0 r) false = _
  cases hs : safeA a r
  · exact i2 hs
  · rw [i1 hs]
    exact safe_acc hs

/-- The edges that the program gathers: only those between accepting states, row by row. -/
theorem trimEs_append (R : Nat) (xs ys : List Ed) : trimEs R (xs ++ ys) = trimEs R xs ++ trimEs R ys := by unfold trimEs; rw [List.filter_append, List.map_append]
theorem trimEs_none {R : Nat} {es : List Ed} (h : ∀ e ∈ es, keptE R e = false) : trimEs R es = [] := by
  unfold trimEs
  rw [List.filter_eq_nil_iff.2 fun e he => by rw [h e he]; simp]
  rfl
theorem flat_filter {g : Nat → List Ed} {p : Nat → Bool} {R : Nat} : ∀ (l : List Nat), (∀ x ∈ l, p x = false → trimEs R (g x) = []) → trimEs R ((l.filter p).flatMap g) = trimEs R (l.flatMap g)
  | [], _ => rfl
  | x :: l, h => by
    have ih := flat_filter l fun y hy => h y (List.mem_cons_of_mem _ hy)
    rw [List.flatMap_cons, trimEs_append]
    cases hp : p x
    · rw [List.filter_cons_of_neg (by simp [hp]), ih, h x List.mem_cons_self hp, List.nil_append]
    · rw [List.filter_cons_of_pos hp, List.flatMap_cons, trimEs_append, ih]
theorem memL_range {S n : Nat} (h : S < 2 ^ n) (hn : n ≤ 16) : memL S = (List.range n).filter fun q => S.testBit q := by
  refine sorted_ext (memL_sorted S) (List.Pairwise.filter _ List.pairwise_lt_range) fun x => ?_
  rw [memL_mem, List.mem_filter, List.mem_range]
  constructor
  · rintro ⟨_, h2⟩
    exact ⟨testBit_lt h h2, h2⟩
  · rintro ⟨h1, h2⟩
    exact ⟨by omega, h2⟩
def gotTo (a : Au) (i : Nat) : List Ed := ((memL (accS a)).take i).flatMap fun q => rowEs (letters a.al) q (a.nx.getD q [])
theorem gotTo_succ {a : Au} {i : Nat} (hi : i < (memL (accS a)).length) (hq : (memL (accS a))[i] < a.nx.length) : gotTo a (i + 1) = gotTo a i ++ rowEs (letters a.al) (memL (accS a))[i] a.nx[(memL (accS a))[i]] := by
  unfold gotTo
  rw [List.take_succ_eq_append_getElem hi, List.flatMap_append]
  simp [List.getD_eq_getElem?_getD, List.getElem?_eq_getElem hq]
theorem gotTo_all {a : Au} (h : auOk a = true) : trimEs (accS a) (gotTo a (memL (accS a)).length) = trimEs (accS a) (fullTo a a.nx.length) := by
  have h12 := ((auOk_iff a).1 h).2.2.1
  unfold gotTo fullTo
  rw [List.take_length, memL_range (show accS a < 2 ^ a.nx.length from accSet_lt a _) (by omega)]
  refine flat_filter _ fun q _ hq => trimEs_none fun e he => ?_
  unfold rowEs at he
  obtain ⟨p, _, rfl⟩ := List.mem_map.1 he
  unfold keptE
  dsimp only
  rw [Int.toNat_natCast, hq]
  rfl

end Go.Proofs.YtkoganldcmhopaaDoor

/- Plain: systems of automata: their traces, their automata, projections in steps; deterministic systems. -/
namespace Go.Proofs.YtkoganldcmhopaaDoor
open AG

theorem accB_word {a : Au} (h : auOk a = true) {r : List Nat} (hr : ∀ l ∈ r, l ∈ letters a.al) (hl : r.length ≤ 50000) : accB a (wordS r) = accA a r := by
  have hw := wordS_within (A := a.al) ((auOk_iff a).1 h).1 hr hl
  unfold accB accA
  rw [h, hw, autTo_word a fun l hm => (letters_lt (hr l hm)).1]
  rfl
/-- The traces of an automaton's system are the words of which all beginnings are accepted. -/
theorem hasTr_so {a : Au} (h : soOk a = true) (x : ByteArray) : hasTr (soS a) x = accB (safA a) x := by
  have hok := (soOk_iff.1 h).1
  cases hw : within x a.al
  · have h1 : accB (safA a) x = false := by
      unfold accB
      rw [show (safA a).al = a.al from rfl, hw, Bool.and_false, Bool.false_and]
    rw [h1, ← Bool.not_eq_true]
    intro h2
    have := (hasTr_ok h2).2
    rw [soS_al h, hw] at this
    cases this
  · obtain ⟨r, rfl, hr, hl⟩ := word_ex hw
    rw [accB_word (safA_ok hok) hr hl, acc_saf hok hr, hasTr_wordS (soS_ok h) (by rw [soS_al h]; exact hr) hl, Bool.eq_iff_iff, decide_eq_true_eq]
    exact setW_so_ne h hr
theorem soOk_acc {a : Au} : soOk a = accB a ⟨#[]⟩ := by
  cases hok : auOk a
  · unfold soOk accB
    rw [hok]
    rfl
  · have h1 := accB_word hok (r := []) (by simp) (by simp)
    have hw : wordS [] = ⟨#[]⟩ := rfl
    rw [hw] at h1
    rw [h1]
    unfold soOk
    rw [hok]
    rfl

theorem accA_prA {s : Sy} {al : Int} (h : prK s al = true) {r : List Nat} (hr : ∀ l ∈ r, l ∈ letters al) : accA (prA s al) r = decide (prW s al r ≠ 0) := by
  obtain ⟨_, x, hx, e⟩ := prK_true h
  rw [e]
  exact accA_pr hx hr
/-- The automaton of an automaton's system. -/
theorem back_law {a : Au} (h : soOk a = true) (hk : prK (soS a) (soS a).al = true) {r : List Nat} (hr : ∀ l ∈ r, l ∈ letters a.al) : accA (prA (soS a) (soS a).al) r = accA (safA a) r := by
  have hr' : ∀ l ∈ r, l ∈ letters (soS a).al := by rw [soS_al h]; exact hr
  rw [accA_prA hk hr', acc_saf (soOk_iff.1 h).1 hr, Bool.eq_iff_iff, decide_eq_true_eq, prW_self (sysOk_alpha (soS_ok h)).1]
  exact setW_so_ne h hr
theorem detB_iff (s : Sy) : detB s = true ↔ sysOk s = true ∧ detAt s (reachAll s) s.es.length := by unfold detB; simp
theorem det_so {a : Au} (h : soOk a = true) : detB (soS a) = true := by
  have hok := (soOk_iff.1 h).1
  refine (detB_iff _).2 ⟨soS_ok h, ?_⟩
  refine (detAt_iff (soS_ok h)).2 fun x hx y hy _ hf hl => ?_
  obtain ⟨q, l, hq, hll, a1, a2, rfl⟩ := (soS_mem h).1 hx
  obtain ⟨q', l', hq', hll', b1, b2, rfl⟩ := (soS_mem h).1 hy
  have hf' : ((rankN (accS a) q : Nat) : Int) = ((rankN (accS a) q' : Nat) : Int) := hf
  have hl' : (l : Int) = (l' : Int) := hl
  have e1 := rank_inj ((accS_bit hok _).2 ⟨hq, a1⟩) ((accS_bit hok _).2 ⟨hq', b1⟩) (by omega)
  have e2 : l = l' := by omega
  subst e1 e2
  rfl

end Go.Proofs.YtkoganldcmhopaaDoor

/- The reference's FirstTraceOutside. -/
namespace Go.Proofs.YtkoganldcmhopaaDoor
open Go.RowKit Go.BigFrame AG

/-- What the search holds: seen pairs, their words. -/
structure Srch (s t : Sy) (B : Nat) (wr : World) (sv wv : Value) (ps : List (Nat × Nat)) (ws : List (List Nat)) (i k : Nat) : Prop where
  own1 : wr.ownsRow B 161 2 sv ps.length (pairCells ps)
  own2 : wr.ownsRow B 9 1 wv ws.length (ws.map fun r => Value.string (wordS r))
  ne : sv.ownBlock ≠ wv.ownBlock
  pb : PB s t (letters s.al) ps ws i k
  pre : ∀ j (hj : j < ps.length), j < i → ps[j].2 ≠ 0
  pos : 0 < ps.length

theorem PairsAt.later {w w' : World} {A : Option Addr} {ps : List (Nat × Nat)} (h : PairsAt w w.heap.size A ps) (hb : Below w.heap.size w w') : PairsAt w' w'.heap.size A ps := fun hl => by
  obtain ⟨b, o, hA, hb', hE⟩ := h hl
  exact ⟨b, o, hA, Nat.lt_of_lt_of_le hb' hb.size, fun i hi => by rw [hb.cell (by simpa using hb'), hb.cell (by simpa using hb')]; exact hE i hi⟩

theorem Blk.news {w : World} {g : Nat} {T : TypeId} {x : Value} (h : w.heap[g]? = some (.cells #[x] T (0, 0))) : ∀ j u, [x][j]? = some u → w.cell? ((⟨g, 0, none⟩ : Addr).add j) = some u := by
  intro j u hj
  match j, hj with
  | 0, hj =>
    simp at hj
    subst hj
    simp [Addr.add, World.cell?, h]

theorem Srch.later {s t : Sy} {B : Nat} {wr w' : World} {sv wv : Value} {ps : List (Nat × Nat)} {ws : List (List Nat)} {i k k' : Nat} (h : Srch s t B wr sv wv ps ws i k) (hb : Below wr.heap.size wr w') (hp : PB s t (letters s.al) ps ws i k') : Srch s t B w' sv wv ps ws i k' :=
  ⟨own_later h.own1 hb, own_later h.own2 hb, h.ne, hp, h.pre, h.pos⟩

theorem Srch.add {s t : Sy} {B : Nat} {wr w2 w8 w9 w10 w11 : World} {sv wv v9 v11 : Value} {ps : List (Nat × Nat)} {ws : List (List Nat)} {i k Z V l : Nat} {o1 : Obj} {S : ByteArray} (h : Srch s t B wr sv wv ps ws i k) (hB : Below B w2 wr) (hBs : B ≤ w2.heap.size)
    (hi : i < ps.length) (hi' : i < ws.length) (hk : k < (letters s.al).length) (hst : stepP s t ps[i] (letters s.al)[k] = (Z, V)) (hZ : Z ≠ 0) (hnew : (Z, V) ∉ ps) (hl : l = (letters s.al)[k]) (hS : S = wordS (l :: ws[i])) (h8 : Below wr.heap.size wr w8)
    (hO9 : w9.ownsRow B 161 2 v9 (ps.length + 1) (pairCells ps ++ [.int .i64 (Z : Nat), .int .i64 (V : Nat)])) (hg9 : (w8.alloc o1).grownBy w9 sv.ownBlock) (hat9 : v9.ownBlock = sv.ownBlock ∨ v9.ownBlock = some (w8.alloc o1).heap.size) (h10 : Below w9.heap.size w9 w10)
    (hO11 : w11.ownsRow B 9 1 v11 (ws.length + 1) (ws.map (fun r => Value.string (wordS r)) ++ [.string S])) (hg11 : w10.grownBy w11 wv.ownBlock) (hat11 : v11.ownBlock = wv.ownBlock ∨ v11.ownBlock = some w10.heap.size) :
    Srch s t B w11 v9 v11 (ps ++ [(Z, V)]) (ws ++ [l :: ws[i]]) i (k + 1) ∧ Below B w2 w11 := by
  have z8 := h8.size
  have z9 := hg9.size
  have z10 := h10.size
  have z11 := hg11.size
  simp only [World.size_alloc] at z9 hat9
  have hneW : v9.ownBlock ≠ wv.ownBlock := by
    rcases hat9 with e | e
    · rw [e]; exact h.ne
    · rw [e]
      intro e'
      have := (h.own2.lt _ e'.symm).2
      omega
  have hO1 : w11.ownsRow B 161 2 v9 (ps.length + 1) (pairCells ps ++ [.int .i64 (Z : Nat), .int .i64 (V : Nat)]) := (own_later hO9 h10).kept hg11 (.inr hneW)
  have hp := h.pb.add (letters_sorted _) hi hi' hk (by rw [hst]; exact hZ) (by rw [hst]; exact hnew)
  rw [hst, ← hl] at hp
  refine ⟨⟨?_, ?_, ?_, hp, ?_, by simp⟩, ?_⟩
  · have : (ps ++ [(Z, V)]).length = ps.length + 1 := by simp
    rw [this, pairCells_append]
    exact hO1
  · have : (ws ++ [l :: ws[i]]).length = ws.length + 1 := by simp
    rw [this, List.map_append, List.map_cons, List.map_nil, ← hS]
    exact hO11
  · intro e
    rcases hat11 with e' | e'
    · exact hneW (e.trans e')
    · have := (hO9.lt _ (e.trans e')).2
      omega
  · intro j hj hji
    have hj' : j < ps.length := by omega
    rw [List.getElem_append_left hj']
    exact h.pre j hj' hji
  · have b8 : Below B w2 (w8.alloc o1) := (hB.trans (h8.mono (Nat.le_trans hBs hB.size))).alloc (by have := hB.size; omega) _
    have b9 : Below B w2 w9 := b8.grown hg9 (by have := b8.size; omega) (fun k hk => (h.own1.lt k hk).1)
    have b10 : Below B w2 w10 := b9.trans (h10.mono (by have := b9.size; omega))
    exact b10.grown hg11 (by have := b10.size; omega) (fun k hk => (h.own2.lt k hk).1)

end Go.Proofs.YtkoganldcmhopaaDoor

/- The program's search in two automata: firstOfBoth, FirstOutside, LanguageWithin. -/
namespace Go.Proofs.YtkoganldcmhopaaDoor
open Go.RowKit Go.BigFrame AG

def cmpAu (a b : Au) : Bool := auOk a && (auOk b && decide (a.al = b.al))
theorem wrap_addN (a b : Nat) (h : a + b < 9223372036854775807) : wrap64 ((a : Int) + (b : Int)) = ((a + b : Nat) : Int) := by
  rw [← Int.natCast_add]
  exact IntWalk.wrap64_in _ ⟨by omega, by omega⟩
set_option maxRecDepth 100000 in
set_option maxHeartbeats 4000000 in
theorem bothNext_any (a b : Au) (gS gT bS bN bT base m q l : Nat) (v : Value) (ns : List Nat) (w : World) (hq : q < m * b.nx.length) (hm : m = a.nx.length) (hm12 : m ≤ 12) (hn1 : 1 ≤ b.nx.length) (hn12 : b.nx.length ≤ 12) (hl : l < 6) (hx : goA a (q / b.nx.length) l < 12) (hy : goA b (q % b.nx.length) l < 12)
    (hS : TabA w gS m a) (hT : TabA w gT b.nx.length b) (hcS : w.cell? ⟨bS, 0, none⟩ = some (.slice (some ⟨gS, 0, none⟩) m m)) (hcN : w.cell? ⟨bN, 0, none⟩ = some (.int .i64 (b.nx.length : Nat))) (hcT : w.cell? ⟨bT, 0, none⟩ = some (.slice (some ⟨gT, 0, none⟩) b.nx.length b.nx.length))
    (hns : ns.length ≤ 4294967296) (hb : base ≤ w.heap.size) (hown : w.ownsRow base 3 1 v ns.length (natVals ns)) :
    Calls Tryd.prog 160 #[.int .i64 (q : Nat), .int .i64 (l : Nat), v, .pointer (some ⟨bS, 0, none⟩), .pointer (some ⟨bN, 0, none⟩), .pointer (some ⟨bT, 0, none⟩)] w fun e w' =>
      ∃ v', e = .returned v' ∧ w'.ownsRow base 3 1 v' (ns ++ [goB a b q l]).length (natVals (ns ++ [goB a b q l])) ∧ KeepB (fun b => v.ownBlock = some b) w w' := by
  obtain ⟨i0, hi, hz0, hz1, hz2⟩ := info_parts infoInt
  have hqn : q / b.nx.length < m := Nat.div_lt_of_lt_mul (by rw [Nat.mul_comm]; exact hq)
  have hrn : q % b.nx.length < b.nx.length := Nat.mod_lt _ hn1
  have hq144 : q < 144 := Nat.lt_of_lt_of_le hq (Nat.le_trans (Nat.mul_le_mul hm12 hn12) (by decide))
  obtain ⟨X, hX⟩ : ∃ X, Hid (X = goA a (q / b.nx.length) l) := ⟨_, hid rfl⟩
  obtain ⟨Y, hY⟩ : ∃ Y, Hid (Y = goA b (q % b.nx.length) l) := ⟨_, hid rfl⟩
  have c1 := hS.2 _ l hqn hl
  have c2 := hT.2 _ l hrn hl
  rw [← hX.out] at c1 hx
  rw [← hY.out] at c2 hy
  obtain ⟨n, hn⟩ : ∃ n, Hid (n = b.nx.length) := ⟨_, hid rfl⟩
  have hgo : Hid (goB a b q l = X * n + Y) := hid (by unfold goB; rw [hX.out, hY.out, hn.out])
  rw [← hn.out] at hq hn1 hn12 hqn hrn c1 c2 hcN hcT
  rw [hgo.out]
  have hgS := hS.1
  have hgT := hT.1
  obtain ⟨Q, hQ⟩ : ∃ Q, Hid (Q = q / n) := ⟨_, hid rfl⟩
  obtain ⟨R, hR⟩ : ∃ R, Hid (R = q % n) := ⟨_, hid rfl⟩
  rw [← hQ.out] at hqn c1
  rw [← hR.out] at hrn c2
  have e1 : ((q : Nat) : Int) / ((n : Nat) : Int) = (Q : Int) := by rw [hQ.out]; exact (Int.natCast_ediv q n).symm
  have e2 : ((q : Nat) : Int) % ((n : Nat) : Int) = (R : Int) := by rw [hR.out]; exact (Int.natCast_emod q n).symm
  have e3 : Int.tdiv ((q : Nat) : Int) ((n : Nat) : Int) = (Q : Int) := by rw [Int.tdiv_eq_ediv_of_nonneg (by omega), e1]
  have e4 : Int.tmod ((q : Nat) : Int) ((n : Nat) : Int) = (R : Int) := by rw [Int.tmod_eq_emod_of_nonneg (by omega), e2]
  have hz : ((n : Nat) : Int) ≠ 0 := by omega
  have hz' : (((n : Nat) : Int) == 0) = false := by simpa using hz
  obtain ⟨Av, cv, rfl, -, -⟩ := own_slice hown
  have hbS := World.block_lt_of_cell? _ _ hcS
  have hbN := World.block_lt_of_cell? _ _ hcN
  have hbT := World.block_lt_of_cell? _ _ hcT
  have y0 : ∀ x, (Fam w.heap.size w x).cell? ⟨bS, 0, none⟩ = some (.slice (some ⟨gS, 0, none⟩) m m) := fun x => by rw [(Fam.below w.heap.size w x).cell (by simpa using hbS)]; exact hcS
  have y1 : ∀ x, (Fam w.heap.size w x).cell? ⟨bN, 0, none⟩ = some (.int .i64 (n : Nat)) := fun x => by rw [(Fam.below w.heap.size w x).cell (by simpa using hbN)]; exact hcN
  have y2 : ∀ x, (Fam w.heap.size w x).cell? ⟨bT, 0, none⟩ = some (.slice (some ⟨gT, 0, none⟩) n n) := fun x => by rw [(Fam.below w.heap.size w x).cell (by simpa using hbT)]; exact hcT
  have y3 : ∀ x, (Fam w.heap.size w x).cell? ⟨gS, Q * 6 + l, none⟩ = some (.int .i64 (X : Nat)) := fun x => by rw [(Fam.below w.heap.size w x).cell (by simpa using hgS)]; exact c1
  have y4 : ∀ x, (Fam w.heap.size w x).cell? ⟨gT, R * 6 + l, none⟩ = some (.int .i64 (Y : Nat)) := fun x => by rw [(Fam.below w.heap.size w x).cell (by simpa using hgT)]; exact c2
  have k1 : (0 : Int) ≤ (Q : Int) ∧ (Q : Int) < (m : Int) ∧ (0 : Int) ≤ (R : Int) ∧ (R : Int) < (n : Int) ∧ (0 : Int) ≤ (l : Int) ∧ (l : Int) < 6 := by omega
  obtain ⟨P, hP⟩ : ∃ P, Hid (P = X * n) := ⟨_, hid rfl⟩
  have hP144 : P ≤ 144 := by rw [hP.out]; exact Nat.le_trans (Nat.mul_le_mul (Nat.le_of_lt hx) hn12) (by decide)
  have e5 : wrap64 ((X : Int) * (n : Int)) = (P : Int) := by rw [← Int.natCast_mul, ← hP.out]; exact IntWalk.wrap64_in _ ⟨by omega, by omega⟩
  have e6 := wrap_addN P Y (Nat.lt_of_le_of_lt (Nat.add_le_add hP144 (Nat.le_of_lt hy)) (by decide))
  rw [← hP.out]
  obtain ⟨Z, hZ⟩ : ∃ Z, Hid (Z = P + Y) := ⟨_, hid rfl⟩
  rw [← hZ.out] at e6 ⊢
  replace hown := hid hown
  replace hS := hid hS
  replace hT := hid hT
  clear c1 c2 hcS hcN hcT e1 e2 hP144 hbS hbN hbT hq144 hgS hgT
  subst hm
  go_enter Tryd.func160, Tryd.ntmps160
  go_upto_region 1 with fail
  refine wp_region_grow 21 w.heap.size w (fun _ _ _ => True) (by kernel_rfl) (by kernel_rfl) (Nat.le_refl _) (Below.refl _ _) ?_
  simp only [List.take_succ_cons, List.take_zero, List.drop_succ_cons, List.drop_zero]
  (repeat (refine grow_quiet (by rfl) (by rfl) (by rfl) ?_; intro K hK; go_big_quiet_op; go_big_quiet_on))
  rw [e6]
  refine grow_new (by rfl) (fun b => .slice (some ⟨b, 0, none⟩) 1 1) 3 #[.int .i64 (Z : Nat)] (fun _ => by go_simp) (fun _ => rfl) (Nat.le_refl _) fun g3 hg3 => ?_
  simp only [Act.put, List.setIfInBounds_toArray, List.set_cons_zero, List.set_cons_succ]
  refine grow_nil ?_
  intro w7 hb7 hf
  obtain ⟨g3', hge, -, hblk3⟩ := hf _ List.mem_cons_self
  cases hge
  have hnew3 := hid (Blk.news hblk3)
  clear hblk3 hf y0 y1 y2 y3 y4
  have hoA := hid (own_later_ hown.out hb7)
  have hz7 := hb7.size
  go_wp2_with (at_builtin; refine wpList_append_own_at _ rfl _ _ 52 rfl base 3 i0 (.int .i64 0) 1 8 Tryd.underlying52 hi hz0 hz1 hz2 rfl (by decide) _ _ _ rfl (hoA.out) ⟨g3, 0, none⟩ 1 1 [.int .i64 (Z : Nat)] rfl rfl hnew3.out (by intro u hu; simp at hu; subst hu; rfl) (by unfold maxLen; omega) (by omega) (by first | omega | (simp; omega)) ?_; intro v5 w5 hO5 hg5 _ hat5; obtain ⟨A5, c5, ev5, -, -⟩ := own_slice hO5; subst ev5; replace hO5 := hid hO5; replace hg5 := hid hg5)
  go_ret
  refine ⟨_, rfl, ?_, (KeepB.of_below (K := fun b => (Value.slice Av ns.length cv).ownBlock = some b) hb7).grown hg5.out fun k hk _ => hk⟩
  have := hO5.out
  rw [List.length_append]
  unfold natVals at this ⊢
  rw [List.map_append]
  exact this

end Go.Proofs.YtkoganldcmhopaaDoor

/- The program's search in two automata: comparable2, firstOfBoth. -/
namespace Go.Proofs.YtkoganldcmhopaaDoor
open Go.RowKit Go.BigFrame AG

set_option maxRecDepth 100000 in
set_option maxHeartbeats 4000000 in
theorem cmp2_any (a b : Au) (A B A' B' : Option Addr) (c d c' d' : Nat) (w : World) (ha : AuAt w A c B d a) (hb : AuAt w A' c' B' d' b) :
    Calls Tryd.prog 69 #[a.val A c B d, b.val A' c' B' d'] w fun e w' => e = .returned (.bool (cmpAu a b)) ∧ Below w.heap.size w w' := by
  obtain ⟨w0, hw0, hz0, hB0, hS, hU⟩ := boxed2 w #[Value.int IntKind.i64 a.al, Value.slice A a.nx.length c, Value.slice B a.ac.length d] 26 #[Value.int IntKind.i64 b.al, Value.slice A' b.nx.length c', Value.slice B' b.ac.length d'] 26
  have ha0 := hid (ha.later hB0)
  have hb0 := hid (hb.later hB0)
  have p0 := hS 0 _ rfl _ (Below.refl _ _)
  have p1 := hS 1 _ rfl _ (Below.refl _ _)
  have p2 := hS 2 _ rfl _ (Below.refl _ _)
  replace ha := hid ha
  replace hb := hid hb
  unfold AG.Au.val
  go_enter Tryd.func69, Tryd.ntmps69
  go_wp2_with fail
  refine (implAutomatonValid_any a A B c d w0 ha0.out).mono ?_
  rintro e w1 ⟨rfl, hb1⟩
  clear p0 p1 p2
  have hB1 := hB0.trans (hb1.mono hB0.size)
  have hC1 := hb1.mono hz0
  cases hca : auOk a
  · have hfin : Hid (cmpAu a b = false) := hid (by unfold cmpAu; rw [hca]; rfl)
    replace hca := hid hca
    go_wp2_with fail
    go_ret
    exact ⟨ret_bool (by rw [hfin.out]), hB1⟩
  have q0 := hU 0 _ rfl _ hC1
  have q1 := hU 1 _ rfl _ hC1
  have q2 := hU 2 _ rfl _ hC1
  have hfin : Hid (cmpAu a b = (auOk b && decide (a.al = b.al))) := hid (by unfold cmpAu; rw [hca]; rfl)
  replace hca := hid hca
  go_wp2_with fail
  refine (implAutomatonValid_any b A' B' c' d' w1 (hb0.out.later hb1)).mono ?_
  rintro e w2 ⟨rfl, hb2⟩
  clear q0 q1 q2
  have hB2 := hB1.trans (hb2.mono hB1.size)
  have hC2 := hC1.trans (hb2.mono (by have := hC1.size; omega))
  cases hcb : auOk b
  · have hcb' := hid hcb
    go_wp2_with fail
    go_ret
    exact ⟨ret_bool (by rw [hfin.out, hcb]; rfl), hB2⟩
  have p0 := hS 0 _ rfl _ hC2
  have q0 := hU 0 _ rfl _ hC2
  obtain ⟨t, ht⟩ : ∃ t, (a.al == b.al) = t := ⟨_, rfl⟩
  have htt : Hid (decide (a.al = b.al) = t) := hid (by rw [← ht]; rfl)
  replace hcb := hid hcb
  go_wp2_with fail
  go_ret
  exact ⟨ret_bool (by rw [hfin.out, hcb.out, htt.out, Bool.true_and]), hB2⟩

/-- A test of two truth values, as a function value. -/
structure BoolFn (g : Bool → Bool → Bool) (fg : FuncId) (cg : Array Value) : Prop where
  run : ∀ args w', (callFunc fg args).run Tryd.prog w' = .ok (.enter fg args) w'
  call : ∀ w' x y, Calls Tryd.prog fg (#[.bool x, .bool y] ++ cg) w' fun e w'' => e = .returned (.bool (g x y)) ∧ Below w'.heap.size w' w''
def goalB (a b : Au) (g : Bool → Bool → Bool) (m : Nat) : Bool := g (a.ac.getD (m / b.nx.length) false) (b.ac.getD (m % b.nx.length) false)

set_option maxRecDepth 100000 in
set_option maxHeartbeats 4000000 in
theorem bothGoal_any (a b : Au) (g : Bool → Bool → Bool) (fg : FuncId) (cg : Array Value) (hg : BoolFn g fg cg) (B B' : Option Addr) (d d' bG bA bN bB q : Nat) (w : World) (hq : q < a.ac.length * b.nx.length) (hl : b.ac.length = b.nx.length) (hn : 1 ≤ b.nx.length) (hn12 : b.nx.length ≤ 12) (hm12 : a.ac.length ≤ 12)
    (hA : BoolsAt w w.heap.size B a.ac) (hB : BoolsAt w w.heap.size B' b.ac) (hcG : w.cell? ⟨bG, 0, none⟩ = some (.func (.func fg) #[] cg)) (hcA : w.cell? ⟨bA, 2, none⟩ = some (.slice B a.ac.length d)) (hcN : w.cell? ⟨bN, 0, none⟩ = some (.int .i64 (b.nx.length : Nat))) (hcB : w.cell? ⟨bB, 2, none⟩ = some (.slice B' b.ac.length d')) :
    Calls Tryd.prog 161 #[.int .i64 (q : Nat), .pointer (some ⟨bG, 0, none⟩), .pointer (some ⟨bA, 0, none⟩), .pointer (some ⟨bN, 0, none⟩), .pointer (some ⟨bB, 0, none⟩)] w fun e w' => e = .returned (.bool (goalB a b g q)) ∧ Below w.heap.size w w' := by
  have hqm : q / b.nx.length < a.ac.length := Nat.div_lt_of_lt_mul (by rw [Nat.mul_comm]; exact hq)
  have hrn : q % b.nx.length < b.nx.length := Nat.mod_lt _ hn
  obtain ⟨gA, oA, rfl, hltA, hEA⟩ := hA (Nat.lt_of_le_of_lt (Nat.zero_le _) hqm)
  obtain ⟨gB, oB, rfl, hltB, hEB⟩ := hB (by omega)
  have c1 := hEA _ hqm
  have c2 := hEB (q % b.nx.length) (by omega)
  have hfin : Hid (goalB a b g q = g a.ac[q / b.nx.length] (b.ac[q % b.nx.length]'(by omega))) := hid (by
    unfold goalB
    rw [List.getD_eq_getElem?_getD, List.getD_eq_getElem?_getD, List.getElem?_eq_getElem hqm, List.getElem?_eq_getElem (by omega)]
    rfl)
  rw [hfin.out]
  obtain ⟨x, hx⟩ : ∃ x, x = a.ac[q / b.nx.length] := ⟨_, rfl⟩
  obtain ⟨y, hy⟩ : ∃ y, y = b.ac[q % b.nx.length]'(by omega) := ⟨_, rfl⟩
  rw [← hx] at c1 ⊢
  rw [← hy] at c2 ⊢
  clear hx hy hfin
  obtain ⟨n, hnn⟩ : ∃ n, Hid (n = b.nx.length) := ⟨_, hid rfl⟩
  rw [← hnn.out] at hqm hrn c1 c2 hcN hn hl
  obtain ⟨Q, hQ⟩ : ∃ Q, Hid (Q = q / n) := ⟨_, hid rfl⟩
  obtain ⟨R, hR⟩ : ∃ R, Hid (R = q % n) := ⟨_, hid rfl⟩
  rw [← hQ.out] at hqm c1
  rw [← hR.out] at hrn c2
  have e1 : ((q : Nat) : Int) / ((n : Nat) : Int) = (Q : Int) := by rw [hQ.out]; exact (Int.natCast_ediv q n).symm
  have e2 : ((q : Nat) : Int) % ((n : Nat) : Int) = (R : Int) := by rw [hR.out]; exact (Int.natCast_emod q n).symm
  have e3 : Int.tdiv ((q : Nat) : Int) ((n : Nat) : Int) = (Q : Int) := by rw [Int.tdiv_eq_ediv_of_nonneg (by omega), e1]
  have e4 : Int.tmod ((q : Nat) : Int) ((n : Nat) : Int) = (R : Int) := by rw [Int.tmod_eq_emod_of_nonneg (by omega), e2]
  clear e1 e2
  have hz : ((n : Nat) : Int) ≠ 0 := by omega
  have hz' : (((n : Nat) : Int) == 0) = false := by simpa using hz
  have k1 : (0 : Int) ≤ (Q : Int) ∧ (Q : Int) < (a.ac.length : Int) ∧ (0 : Int) ≤ (R : Int) ∧ (R : Int) < (b.ac.length : Int) := by omega
  have y0 := fun x => (Fam.below w.heap.size w x).cell (World.block_lt_of_cell? _ _ hcG) |>.trans hcG
  have y1 := fun x => (Fam.below w.heap.size w x).cell (World.block_lt_of_cell? _ _ hcA) |>.trans hcA
  have y2 := fun x => (Fam.below w.heap.size w x).cell (World.block_lt_of_cell? _ _ hcN) |>.trans hcN
  have y3 := fun x => (Fam.below w.heap.size w x).cell (World.block_lt_of_cell? _ _ hcB) |>.trans hcB
  have y4 := fun x => (Fam.below w.heap.size w x).cell (World.block_lt_of_cell? _ _ c1) |>.trans c1
  have y5 := fun x => (Fam.below w.heap.size w x).cell (World.block_lt_of_cell? _ _ c2) |>.trans c2
  have hrun := hg.run
  have hcall := hid hg.call
  replace hEA := hid hEA
  replace hEB := hid hEB
  replace hA := hid hA
  replace hB := hid hB
  clear c1 c2 hcG hcA hcN hcB hq hnn hg
  go_enter Tryd.func161, Tryd.ntmps161
  go_upto_region 1 with fail
  refine wp_region_grow 15 w.heap.size w (fun _ _ _ => True) (by kernel_rfl) (by kernel_rfl) (Nat.le_refl _) (Below.refl _ _) ?_
  simp only [List.take_succ_cons, List.take_zero, List.drop_succ_cons, List.drop_zero]
  (repeat (refine grow_quiet (by rfl) (by rfl) (by rfl) ?_; intro K hK; go_big_quiet_op; go_big_quiet_on))
  refine grow_nil ?_
  intro w7 hb7 hf
  clear hf y0 y1 y2 y3 y4 y5
  go_wp2_with fail
  refine (hcall.out w7 x y).mono ?_
  rintro e w8 ⟨rfl, hb8⟩
  have hb := hb7.trans (hb8.mono hb7.size)
  go_wp2_with fail
  go_ret
  exact ⟨rfl, hb⟩

end Go.Proofs.YtkoganldcmhopaaDoor

/- The program's FirstTraceOutside: its closures. -/
namespace Go.Proofs.YtkoganldcmhopaaDoor
open Go.RowKit Go.BigFrame AG

theorem tmod_nat (a b : Nat) : Int.tmod (a : Int) (b : Int) = ((a % b : Nat) : Int) := by
  rw [Int.tmod_eq_emod_of_nonneg (by omega)]
  exact (Int.natCast_emod a b).symm
theorem tdiv_nat (a b : Nat) : Int.tdiv (a : Int) (b : Int) = ((a / b : Nat) : Int) := by
  rw [Int.tdiv_eq_ediv_of_nonneg (by omega)]
  exact (Int.natCast_ediv a b).symm

end Go.Proofs.YtkoganldcmhopaaDoor
