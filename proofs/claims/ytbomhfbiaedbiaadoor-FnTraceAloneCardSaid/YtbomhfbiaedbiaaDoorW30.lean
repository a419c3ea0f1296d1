/- Restricted words: the reference's RestrictWord, the program's restrict. -/
import Derived.Test.YtbomhfbiaedbiaaDoorW29
import Derived.Test.YtbomhfbiaedbiaaDoorW16
import Derived.Test.YtbomhfbiaedbiaaDoorOwn
import Derived.Laws.IdiomStrings
import Derived.Laws.BytesString
import Derived.Maps.AppendAt
namespace Go.Proofs.YtbomhfbiaedbiaaDoor
open Go.RowKit Go.BigFrame AG

theorem infoByte8 : (Tryd.prog.info? 5).map (fun i => (i.zero, i.size, i.bytes)) = some (some (.int .u8 0), 1, 1) := by kernel_rfl

def byteVals (l : List UInt8) : List Value := l.map fun b => Value.int .u8 (b.toNat : Int)

/-- string(b) of owned bytes. -/
theorem conv_own {w : World} {B : Nat} {v : Value} {l : List UInt8} (h : w.ownsRow B 5 1 v l.length (byteVals l)) : (convert 56 9 v).run Tryd.prog w = .ok (.string ⟨l.toArray⟩) w := by
  by_cases h0 : 0 < l.length
  · obtain ⟨g, cap, rfl, h1, h2, h3, h4, h5⟩ := own_shape h h0
    refine run_convert_bytes_back (P := Tryd.prog) w 56 9 5 ⟨g, 0, none⟩ cap l Tryd.underlying56 Tryd.underlying5 Tryd.underlying9 (fun j hj => ?_)
    have := h5 j (.int .u8 (l[j].toNat : Int)) (by unfold byteVals; simp [List.getElem?_eq_getElem hj])
    rw [show ((⟨g, 0, none⟩ : Addr).add j) = ⟨g, j, none⟩ from by unfold Addr.add; split <;> simp_all]
    exact this
  · obtain ⟨A, c, rfl, -, -⟩ := own_slice h
    obtain rfl : l = [] := List.length_eq_zero_iff.1 (by omega)
    rw [show ([] : List UInt8).length = 0 from rfl, run_convert_bytes_string w 56 9 5 A 0 c Tryd.underlying56 Tryd.underlying5 Tryd.underlying9]
    cases A <;> simp [Conv.bytesToString, loadCells]
    all_goals rfl

/-- A byte is appended. -/
theorem bytes_next {w wr w1 : World} {l : List UInt8} {b : UInt8} {n : Int} {v v' : Value} {c : Array Value} {t : TypeId} (hn : n = (b.toNat : Int)) (hB : w.heap.size ≤ wr.heap.size) (hown : wr.ownsRow w.heap.size 5 1 v l.length (byteVals l)) (hb : Below w.heap.size w wr)
    (hown' : w1.ownsRow w.heap.size 5 1 v' (l.length + 1) (byteVals l ++ [.int .u8 n])) (hgrow : (wr.alloc (.cells c t)).grownBy w1 v.ownBlock) :
    w1.ownsRow w.heap.size 5 1 v' (l ++ [b]).length (byteVals (l ++ [b])) ∧ Below w.heap.size w w1 := by
  subst hn
  refine ⟨?_, Below.grown (hb.alloc hB _) hgrow (by simp; omega) (own_block hown)⟩
  unfold byteVals at hown' ⊢
  rw [List.length_append, List.map_append]
  exact hown'

theorem keptTo_hit {s : ByteArray} {al : Int} {k : Nat} (h : HasZ al (ltr s k) = true) : keptTo s al (k + 1) = keptTo s al k ++ [s.data.getD k 0] := by rw [keptTo, if_pos h]
theorem keptTo_miss {s : ByteArray} {al : Int} {k : Nat} (h : HasZ al (ltr s k) = false) : keptTo s al (k + 1) = keptTo s al k := by rw [keptTo, if_neg (by rw [h]; simp)]
theorem byte_val (s : ByteArray) (k : Nat) : lz s k + 97 = ((s.data.getD k 0).toNat : Int) := by unfold lz; omega

set_option maxRecDepth 100000 in
set_option maxHeartbeats 2000000 in
theorem restrict_any (s : ByteArray) (al : Int) (w : World) (hz : s.size ≤ 50000) :
    Calls Tryd.prog 48 #[.string s, .int .i64 al] w fun e w' => e = .returned (.string (restr s al)) ∧ Below w.heap.size w w' := by
  obtain ⟨i0, hi, hz0, hz1, hz2⟩ := info_parts infoByte8
  go_enter Tryd.func48, Tryd.ntmps48
  go_wp2_with fail
  go_loopw [5, 9] (fun v i wr => ∃ k : Nat, i = .int .i64 k ∧ k ≤ s.size ∧ wr.ownsRow w.heap.size 5 1 v (keptTo s al k).length (byteVals (keptTo s al k)) ∧ Below w.heap.size w wr) (fun _ i _ => s.size - (intOf i).toNat)
  case atStart => exact ⟨0, rfl, by omega, World.ownsRow_nil _ _ _ _, Below.refl _ _⟩
  case round =>
    obtain ⟨k, rfl, hk, hown, hb⟩ := hrel
    have hzr := hb.size
    have hlen := keptTo_len s al k
    by_cases hlt : k < s.size
    · have h63 : ltr s k ≤ 63 := by unfold ltr lOk; split; rename_i h; have := of_decide_eq_true h; omega; omega
      cases hh : HasZ al (ltr s k)
      · have hnx := hid (keptTo_miss hh)
        replace hh := hid hh
        replace hown := hid hown
        go_wp2_with (first
          | (go_at_call 105; refine (letterAt_any s k _ hlt).mono ?_; rintro e w' ⟨rfl, rfl⟩)
          | (go_at_call 90; refine (has_any al _ _ h63).mono ?_; rintro e w' ⟨rfl, rfl⟩; rw [hh.out]))
        go_roundw
        case rel => exact ⟨k + 1, by go_num, by omega, by rw [hnx.out]; exact hown.out, hb⟩
        case measure => simp [intOf]; omega
      · have hnx := hid (keptTo_hit hh)
        have hbv := byte_at s k hlt
        have h0 : (0 : Int) ≤ (k : Int) ∧ (k : Int) < (s.size : Int) := by omega
        replace hh := hid hh
        go_wp2_with (first
          | (go_at_call 105; refine (letterAt_any s k _ hlt).mono ?_; rintro e w' ⟨rfl, rfl⟩)
          | (go_at_call 90; refine (has_any al _ _ h63).mono ?_; rintro e w' ⟨rfl, rfl⟩; rw [hh.out])
          | (at_builtin; refine wpList_append_own _ rfl _ _ 56 rfl w.heap.size 5 i0 (.int .u8 0) 1 1 Tryd.underlying56 hi hz0 hz1 hz2 rfl (by decide) _ _ _ rfl (hown.alloc _) ⟨wr.heap.size, 0, none⟩ 1 1 [.int .u8 (lz s k + 97)] rfl rfl (cell_one_new _ _ _) (by intro u hu; simp at hu; subst hu; rfl) (by unfold maxLen; omega) (by omega) (by simp; omega) ?_; intro v' w1 hown' hgrow _))
        have R := bytes_next (byte_val s k) hzr hown hb hown' hgrow
        clear hown' hgrow hown hb
        go_roundw
        case rel => exact ⟨k + 1, by go_num, by omega, by rw [hnx.out]; exact R.1, R.2⟩
        case measure => simp [intOf]; omega
    · obtain rfl : k = s.size := by omega
      have kc := conv_own hown
      replace hown := hid hown
      go_wp2
      go_ret
      exact ⟨rfl, hb⟩

set_option maxRecDepth 100000 in
set_option maxHeartbeats 2000000 in
theorem specRestrictWord_any (s : ByteArray) (al : Int) (w : World) (hok : wordOk s = true) (ha : 0 ≤ al ∧ al ≤ 63) :
    Calls Tryd.prog 44 #[.string s, .int .i64 al] w fun e w' => e = .returned (.string (restr s al)) ∧ Below w.heap.size w w' := by
  obtain ⟨i0, hi, hz0, hz1, hz2⟩ := info_parts infoByte8
  have hz : s.size ≤ 50000 := by unfold wordOk at hok; exact (of_decide_eq_true hok).1
  have haok : Hid (alphaOk al = true) := hid (by unfold alphaOk; exact decide_eq_true ha)
  replace hok := hid hok
  go_enter Tryd.func44, Tryd.ntmps44
  go_wp2_with (first
    | (go_at_call 100; refine (specWordValid_any s _ (by omega)).mono ?_; rintro e w' ⟨rfl, rfl⟩; rw [hok.out])
    | (go_at_call 70; refine (l1Alphabet_any al _).mono ?_; rintro e w' ⟨rfl, rfl⟩; rw [haok.out]))
  go_loopw [5, 6] (fun v i wr => ∃ k : Nat, i = .int .i64 k ∧ k ≤ s.size ∧ wr.ownsRow w.heap.size 5 1 v (keptTo s al k).length (byteVals (keptTo s al k)) ∧ Below w.heap.size w wr) (fun _ i _ => s.size - (intOf i).toNat)
  case atStart =>
    refine ⟨0, rfl, by omega, ?_, by (repeat (first | exact Below.refl _ _ | assumption | refine Below.drew ?_ | refine Below.alloc ?_ (by first | omega | (simp; done) | (simp; omega)) _ | refine Below.setCell ?_ (by first | omega | (simp; done) | (simp; omega)) _))⟩
    exact ⟨rfl, .inr ⟨w.heap.size, 0, #[], rfl, Nat.le_refl _, heap_alloc_self _ _, Nat.le_refl _, Nat.zero_le _, rfl, rfl⟩⟩
  case round =>
    obtain ⟨k, rfl, hk, hown, hb⟩ := hrel
    have hzr := hb.size
    have hlen := keptTo_len s al k
    by_cases hlt : k < s.size
    · have hr := wordOk_at hok.out hlt
      have hHZ : Hid (Has al (lz s k).toNat = HasZ al (ltr s k)) := hid (by rw [ltr_ok hr]; unfold HasZ; rw [decide_eq_true hr.1]; rfl)
      cases hh : HasZ al (ltr s k)
      · have hnx := hid (keptTo_miss hh)
        replace hh := hid hh
        replace hown := hid hown
        go_wp2_with (first
          | (go_at_call 102; refine (l1At_any s k _ hlt).mono ?_; rintro e w' ⟨rfl, rfl⟩)
          | (go_at_call 101; refine (l1Has_any al _ _ hr.1 (by omega)).mono ?_; rintro e w' ⟨rfl, rfl⟩; rw [hHZ.out, hh.out]))
        go_roundw
        case rel => exact ⟨k + 1, by go_num, by omega, by rw [hnx.out]; exact hown.out, hb⟩
        case measure => simp [intOf]; omega
      · have hnx := hid (keptTo_hit hh)
        have hbv := byte_at s k hlt
        have h0 : (0 : Int) ≤ (k : Int) ∧ (k : Int) < (s.size : Int) := by omega
        replace hh := hid hh
        go_wp2_with (first
          | (go_at_call 102; refine (l1At_any s k _ hlt).mono ?_; rintro e w' ⟨rfl, rfl⟩)
          | (go_at_call 101; refine (l1Has_any al _ _ hr.1 (by omega)).mono ?_; rintro e w' ⟨rfl, rfl⟩; rw [hHZ.out, hh.out])
          | (at_builtin; refine wpList_append_own _ rfl _ _ 56 rfl w.heap.size 5 i0 (.int .u8 0) 1 1 Tryd.underlying56 hi hz0 hz1 hz2 rfl (by decide) _ _ _ rfl (hown.alloc _) ⟨wr.heap.size, 0, none⟩ 1 1 [.int .u8 (lz s k + 97)] rfl rfl (cell_one_new _ _ _) (by intro u hu; simp at hu; subst hu; rfl) (by unfold maxLen; omega) (by omega) (by simp; omega) ?_; intro v' w1 hown' hgrow _))
        have R := bytes_next (byte_val s k) hzr hown hb hown' hgrow
        clear hown' hgrow hown hb
        go_roundw
        case rel => exact ⟨k + 1, by go_num, by omega, by rw [hnx.out]; exact R.1, R.2⟩
        case measure => simp [intOf]; omega
    · obtain rfl : k = s.size := by omega
      have kc := conv_own hown
      replace hown := hid hown
      go_wp2
      go_ret
      exact ⟨rfl, hb⟩

end Go.Proofs.YtbomhfbiaedbiaaDoor
