/- Lemmas, part 10: several texts in one. -/
import Derived.Test.YtempjhgajcdibaaDoorK3
import Derived.Test.YtempjhgajcdibaaDoorK8
import Derived.Test.YtempjhgajcdibaaDoorK2
import Derived.Test.YtempjhgajcdibaaDoorK6
import Derived.Laws.IdiomStrings
import Derived.Laws.BytesString
import Derived.Maps.AppendAt
import Derived.Deep.Quiet
import Derived.Test.YtempjhgajcdibaaDoorK5
import Derived.Test.YtempjhgajcdibaaDoorK4
set_option linter.unusedSimpArgs false
set_option linter.unusedVariables false

/- Words: the reference's WordValid, AlphabetOf, WordWithin; the program's WordWithin. -/
namespace Go.Proofs.YtempjhgajcdibaaDoor
open Go.RowKit Go.BigFrame AG

set_option maxRecDepth 100000 in
set_option maxHeartbeats 1000000 in
theorem specWordValid_any (s : ByteArray) (w : World) (hz : s.size ≤ 9223372036854775807) :
    Calls Tryd.prog 127 #[.string s] w fun e w' => e = .returned (.bool (wordOk s)) ∧ w = w' := by
  by_cases hs : s.size ≤ 50000
  · go_enter Tryd.func127, Tryd.ntmps127
    go_wp2_with fail
    go_loopw [3] (fun i wr => ∃ k : Nat, i = .int .i64 k ∧ k ≤ s.size ∧ (∀ j, j < k → lOk (lz s j) = true) ∧ w = wr) (fun i _ => s.size - (intOf i).toNat)
    case atStart => exact ⟨0, rfl, by omega, fun j h => by omega, rfl⟩
    case round =>
      obtain ⟨k, rfl, hk, hall, rfl⟩ := hrel
      replace hall := hid hall
      by_cases hlt : k < s.size
      · have hrg := lz_range s k
        by_cases hlo : lz s k < 0
        · have hfin : Hid (wordOk s = false) := hid (by
            cases h : wordOk s with
            | false => rfl
            | true => have := wordOk_at h hlt; omega)
          go_wp2_with (go_at_call 128; refine (l1At_any s k _ hlt).mono ?_; rintro e w' ⟨rfl, rfl⟩)
          go_ret
          exact ⟨ret_bool (by rw [hfin.out]), rfl⟩
        · by_cases hhi : 6 ≤ lz s k
          · have hfin : Hid (wordOk s = false) := hid (by
              cases h : wordOk s with
              | false => rfl
              | true => have := wordOk_at h hlt; omega)
            go_wp2_with (go_at_call 128; refine (l1At_any s k _ hlt).mono ?_; rintro e w' ⟨rfl, rfl⟩)
            go_ret
            exact ⟨ret_bool (by rw [hfin.out]), rfl⟩
          · have hok : Hid (lOk (lz s k) = true) := hid (by unfold lOk; exact decide_eq_true (by omega))
            go_wp2_with (go_at_call 128; refine (l1At_any s k _ hlt).mono ?_; rintro e w' ⟨rfl, rfl⟩)
            go_roundw
            case rel => exact ⟨k + 1, by go_num, by omega, fun j hj => by by_cases e : j = k; exact e ▸ hok.out; exact hall.out j (by omega), by first | trivial | rfl⟩
            case measure => simp [intOf]; omega
      · go_wp2
        go_ret
        exact ⟨ret_bool (by unfold wordOk; exact (decide_eq_true ⟨hs, fun i hi => hall.out i (by omega)⟩).symm), rfl⟩
  · have hfin : Hid (wordOk s = false) := hid (by unfold wordOk; exact decide_eq_false (fun h => hs h.1))
    go_enter Tryd.func127, Tryd.ntmps127
    go_wp2
    go_ret
    exact ⟨ret_bool (by rw [hfin.out]), rfl⟩

set_option maxRecDepth 100000 in
set_option maxHeartbeats 1000000 in
theorem specAlphabetOf_any (s : ByteArray) (w : World) (hz : s.size ≤ 9223372036854775807) :
    Calls Tryd.prog 125 #[.string s] w fun e w' => e = .returned (.tuple #[.int .i64 (if wordOk s = true then setTo s s.size else 0), .bool (wordOk s)]) ∧ w = w' := by
  cases hok : wordOk s
  · replace hok := hid hok
    go_enter Tryd.func125, Tryd.ntmps125
    go_wp2_with (go_at_call 127; refine (specWordValid_any s _ hz).mono ?_; rintro e w' ⟨rfl, rfl⟩; rw [hok.out])
    go_ret2
    exact ⟨rfl, rfl⟩
  · have hok2 := hid hok
    replace hok := hid hok
    go_enter Tryd.func125, Tryd.ntmps125
    go_wp2_with (go_at_call 127; refine (specWordValid_any s _ hz).mono ?_; rintro e w' ⟨rfl, rfl⟩; rw [hok.out])
    go_loopw [4, 5] (fun st i wr => ∃ k : Nat, i = .int .i64 k ∧ k ≤ s.size ∧ st = .int .i64 (setTo s k) ∧ w = wr) (fun _ i _ => s.size - (intOf i).toNat)
    case atStart => exact ⟨0, rfl, by omega, rfl, rfl⟩
    case round =>
      obtain ⟨k, rfl, hk, rfl, rfl⟩ := hrel
      by_cases hlt : k < s.size
      · have hrg := wordOk_at hok2.out hlt
        have hrs := setTo_range hok2.out k (by omega)
        have hpw := pow6_range hrg
        have hor := hid (bits_or (a := setTo s k) (b := ((2 ^ (lz s k).toNat : Nat) : Int)) (by omega) (by omega))
        replace hpw := hid hpw
        go_wp2_with (first
          | (go_at_call 128; refine (l1At_any s k _ hlt).mono ?_; rintro e w' ⟨rfl, rfl⟩)
          | (go_at_call 134; refine (l1Bit_int _ _ (by omega) (by omega)).mono ?_; rintro e w' ⟨rfl, rfl⟩))
        go_roundw
        case rel => exact ⟨k + 1, by go_num, by omega, by rw [setTo, ← hor.out, Int.natCast_pow]; rfl, by first | trivial | rfl⟩
        case measure => simp [intOf]; omega
      · obtain rfl : k = s.size := by omega
        go_wp2
        go_ret2
        exact ⟨rfl, rfl⟩

set_option maxRecDepth 100000 in
set_option maxHeartbeats 1000000 in
theorem specWordWithin_any (s : ByteArray) (al : Int) (w : World) (hz : s.size ≤ 9223372036854775807) :
    Calls Tryd.prog 70 #[.string s, .int .i64 al] w fun e w' => e = .returned (.bool (within s al)) ∧ w = w' := by
  cases hok : wordOk s
  · have hfin := hid (within_bad al hok)
    replace hok := hid hok
    go_enter Tryd.func70, Tryd.ntmps70
    go_wp2_with (go_at_call 125; refine (specAlphabetOf_any s _ hz).mono ?_; rintro e w' ⟨rfl, rfl⟩; rw [hok.out])
    go_ret
    exact ⟨ret_bool (by rw [hfin.out]), rfl⟩
  · cases hal : alphaOk al
    · have hfin : Hid (within s al = false) := hid (by unfold within; exact decide_eq_false (fun h => by rw [hal] at h; cases h.1))
      replace hok := hid hok
      replace hal := hid hal
      go_enter Tryd.func70, Tryd.ntmps70
      go_wp2_with (first
        | (go_at_call 125; refine (specAlphabetOf_any s _ hz).mono ?_; rintro e w' ⟨rfl, rfl⟩; rw [hok.out])
        | (go_at_call 126; refine (l1Alphabet_any al _).mono ?_; rintro e w' ⟨rfl, rfl⟩; rw [hal.out]))
      go_ret
      exact ⟨ret_bool (by rw [hfin.out]), rfl⟩
    · have ha : 0 ≤ al ∧ al ≤ 63 := by unfold alphaOk at hal; exact of_decide_eq_true hal
      have hfin := hid (within_spec hok ha)
      have hrs := setTo_range hok s.size (Nat.le_refl _)
      have han := hid (bits_and (a := setTo s s.size) (b := al) (by omega) (by omega))
      replace hok := hid hok
      replace hal := hid hal
      go_enter Tryd.func70, Tryd.ntmps70
      go_wp2_with (first
        | (go_at_call 125; refine (specAlphabetOf_any s _ hz).mono ?_; rintro e w' ⟨rfl, rfl⟩; rw [hok.out])
        | (go_at_call 126; refine (l1Alphabet_any al _).mono ?_; rintro e w' ⟨rfl, rfl⟩; rw [hal.out]))
      go_ret
      exact ⟨ret_bool (by rw [hfin.out, ← han.out]), rfl⟩

set_option maxRecDepth 100000 in
set_option maxHeartbeats 1000000 in
theorem implWordWithin_any (s : ByteArray) (al : Int) (w : World) (hz : s.size ≤ 9223372036854775807) :
    Calls Tryd.prog 67 #[.string s, .int .i64 al] w fun e w' => e = .returned (.bool (within s al)) ∧ w = w' := by
  cases hal : alphaOk al
  · have hfin : Hid (within s al = false) := hid (by unfold within; exact decide_eq_false (fun h => by rw [hal] at h; cases h.1))
    replace hal := hid hal
    go_enter Tryd.func67, Tryd.ntmps67
    go_wp2_with (go_at_call 56; refine (isAlphabet_any al _).mono ?_; rintro e w' ⟨rfl, rfl⟩; rw [hal.out])
    go_ret
    exact ⟨ret_bool (by rw [hfin.out]), rfl⟩
  · have hal2 := hid hal
    replace hal := hid hal
    by_cases hs : s.size ≤ 50000
    · go_enter Tryd.func67, Tryd.ntmps67
      go_wp2_with (go_at_call 56; refine (isAlphabet_any al _).mono ?_; rintro e w' ⟨rfl, rfl⟩; rw [hal.out])
      go_loopw [16] (fun i wr => ∃ k : Nat, i = .int .i64 k ∧ k ≤ s.size ∧ (∀ j, j < k → HasZ al (ltr s j) = true) ∧ w = wr) (fun i _ => s.size - (intOf i).toNat)
      case atStart => exact ⟨0, rfl, by omega, fun j h => by omega, rfl⟩
      case round =>
        obtain ⟨k, rfl, hk, hall, rfl⟩ := hrel
        replace hall := hid hall
        by_cases hlt : k < s.size
        · have h63 : ltr s k ≤ 63 := by unfold ltr lOk; split; rename_i h; have := of_decide_eq_true h; omega; omega
          cases hh : HasZ al (ltr s k)
          · have hfin : Hid (within s al = false) := hid (by unfold within; exact decide_eq_false (fun h => by have := h.2.2 k hlt; rw [hh] at this; cases this))
            replace hh := hid hh
            go_wp2_with (first
              | (go_at_call 76; refine (letterAt_any s k _ hlt).mono ?_; rintro e w' ⟨rfl, rfl⟩)
              | (go_at_call 58; refine (has_any al _ _ h63).mono ?_; rintro e w' ⟨rfl, rfl⟩; rw [hh.out]))
            go_ret
            exact ⟨ret_bool (by rw [hfin.out]), rfl⟩
          · replace hh := hid hh
            go_wp2_with (first
              | (go_at_call 76; refine (letterAt_any s k _ hlt).mono ?_; rintro e w' ⟨rfl, rfl⟩)
              | (go_at_call 58; refine (has_any al _ _ h63).mono ?_; rintro e w' ⟨rfl, rfl⟩; rw [hh.out]))
            go_roundw
            case rel => exact ⟨k + 1, by go_num, by omega, fun j hj => by by_cases e : j = k; exact e ▸ hh.out; exact hall.out j (by omega), by first | trivial | rfl⟩
            case measure => simp [intOf]; omega
        · go_wp2
          go_ret
          exact ⟨ret_bool (by unfold within; exact (decide_eq_true ⟨hal2.out, hs, fun i hi => hall.out i (by omega)⟩).symm), rfl⟩
    · have hfin : Hid (within s al = false) := hid (by unfold within; exact decide_eq_false (fun h => hs h.2.1))
      go_enter Tryd.func67, Tryd.ntmps67
      go_wp2_with (go_at_call 56; refine (isAlphabet_any al _).mono ?_; rintro e w' ⟨rfl, rfl⟩; rw [hal.out])
      go_ret
      exact ⟨ret_bool (by rw [hfin.out]), rfl⟩

end Go.Proofs.YtempjhgajcdibaaDoor

/- Restricted words: the reference's RestrictWord, the program's restrict. -/
namespace Go.Proofs.YtempjhgajcdibaaDoor
open Go.RowKit Go.BigFrame AG

theorem infoByte8 : (Tryd.prog.info? 5).map (fun i => (i.zero, i.size, i.bytes)) = some (some (.int .u8 0), 1, 1) := by kernel_rfl

def byteVals (l : List UInt8) : List Value := l.map fun b => Value.int .u8 (b.toNat : Int)

/-- string(b) of owned bytes. -/
theorem conv_own {w : World} {B : Nat} {v : Value} {l : List UInt8} (h : w.ownsRow B 5 1 v l.length (byteVals l)) : (convert 22 9 v).run Tryd.prog w = .ok (.string ⟨l.toArray⟩) w := by
  by_cases h0 : 0 < l.length
  · obtain ⟨g, cap, rfl, h1, h2, h3, h4, h5⟩ := own_shape h h0
    refine run_convert_bytes_back (P := Tryd.prog) w 22 9 5 ⟨g, 0, none⟩ cap l Tryd.underlying22 Tryd.underlying5 Tryd.underlying9 (fun j hj => ?_)
    have := h5 j (.int .u8 (l[j].toNat : Int)) (by unfold byteVals; simp [List.getElem?_eq_getElem hj])
    rw [show ((⟨g, 0, none⟩ : Addr).add j) = ⟨g, j, none⟩ from by unfold Addr.add; split <;> simp_all]
    exact this
  · obtain ⟨A, c, rfl, -, -⟩ := own_slice h
    obtain rfl : l = [] := List.length_eq_zero_iff.1 (by omega)
    rw [show ([] : List UInt8).length = 0 from rfl, run_convert_bytes_string w 22 9 5 A 0 c Tryd.underlying22 Tryd.underlying5 Tryd.underlying9]
    cases A <;> simp [Conv.bytesToString, loadCells]
    all_goals rfl

/-- A byte is appended. -/
theorem bytes_next {w wr w1 : World} {l : List UInt8} {b : UInt8} {n : Int} {v v' : Value} {c : Array Value} {t : TypeId} (hn : n = (b.toNat : Int)) (hB : w.heap.size ≤ wr.heap.size) (hown : wr.ownsRow w.heap.size 5 1 v l.length (byteVals l)) (hb : Below w.heap.size w wr)
    (hown' : w1.ownsRow w.heap.size 5 1 v' (l.length + 1) (byteVals l ++ [.int .u8 n])) (hgrow : (wr.alloc (.cells c t)).grownBy w1 v.ownBlock) :
    w1.ownsRow w.heap.size 5 1 v' (l ++ [b]).length (byteVals (l ++ [b])) ∧ Below w.heap.size w w1 := by
  subst hn
  refine ⟨?_, Below.grown (hb.alloc hB _) hgrow (by simp; omega) (own_block hown)⟩
  unfold byteVals at hown' ⊢
  rw [List.length_append, List.map_append]
  exact hown'

theorem keptTo_hit {s : ByteArray} {al : Int} {k : Nat} (h : HasZ al (ltr s k) = true) : keptTo s al (k + 1) = keptTo s al k ++ [s.data.getD k 0] := by rw [keptTo, if_pos h]
theorem keptTo_miss {s : ByteArray} {al : Int} {k : Nat} (h : HasZ al (ltr s k) = false) : keptTo s al (k + 1) = keptTo s al k := by rw [keptTo, if_neg (by rw [h]; simp)]
theorem byte_val (s : ByteArray) (k : Nat) : lz s k + 97 = ((s.data.getD k 0).toNat : Int) := by unfold lz; omega

set_option maxRecDepth 100000 in
set_option maxHeartbeats 2000000 in
theorem restrict_any (s : ByteArray) (al : Int) (w : World) (hz : s.size ≤ 50000) :
    Calls Tryd.prog 68 #[.string s, .int .i64 al] w fun e w' => e = .returned (.string (restr s al)) ∧ Below w.heap.size w w' := by
  obtain ⟨i0, hi, hz0, hz1, hz2⟩ := info_parts infoByte8
  go_enter Tryd.func68, Tryd.ntmps68
  go_wp2_with fail
  go_loopw [5, 9] (fun v i wr => ∃ k : Nat, i = .int .i64 k ∧ k ≤ s.size ∧ wr.ownsRow w.heap.size 5 1 v (keptTo s al k).length (byteVals (keptTo s al k)) ∧ Below w.heap.size w wr) (fun _ i _ => s.size - (intOf i).toNat)
  case atStart => exact ⟨0, rfl, by omega, World.ownsRow_nil _ _ _ _, Below.refl _ _⟩
  case round =>
    obtain ⟨k, rfl, hk, hown, hb⟩ := hrel
    have hzr := hb.size
    have hlen := keptTo_len s al k
    by_cases hlt : k < s.size
    · have h63 : ltr s k ≤ 63 := by unfold ltr lOk; split; rename_i h; have := of_decide_eq_true h; omega; omega
      cases hh : HasZ al (ltr s k)
      · have hnx := hid (keptTo_miss hh)
        replace hh := hid hh
        replace hown := hid hown
        go_wp2_with (first
          | (go_at_call 76; refine (letterAt_any s k _ hlt).mono ?_; rintro e w' ⟨rfl, rfl⟩)
          | (go_at_call 58; refine (has_any al _ _ h63).mono ?_; rintro e w' ⟨rfl, rfl⟩; rw [hh.out]))
        go_roundw
        case rel => exact ⟨k + 1, by go_num, by omega, by rw [hnx.out]; exact hown.out, hb⟩
        case measure => simp [intOf]; omega
      · have hnx := hid (keptTo_hit hh)
        have hbv := byte_at s k hlt
        have h0 : (0 : Int) ≤ (k : Int) ∧ (k : Int) < (s.size : Int) := by omega
        replace hh := hid hh
        go_wp2_with (first
          | (go_at_call 76; refine (letterAt_any s k _ hlt).mono ?_; rintro e w' ⟨rfl, rfl⟩)
          | (go_at_call 58; refine (has_any al _ _ h63).mono ?_; rintro e w' ⟨rfl, rfl⟩; rw [hh.out])
          | (at_builtin; refine wpList_append_own _ rfl _ _ 22 rfl w.heap.size 5 i0 (.int .u8 0) 1 1 Tryd.underlying22 hi hz0 hz1 hz2 rfl (by decide) _ _ _ rfl (hown.alloc _) ⟨wr.heap.size, 0, none⟩ 1 1 [.int .u8 (lz s k + 97)] rfl rfl (cell_one_new _ _ _) (by intro u hu; simp at hu; subst hu; rfl) (by unfold maxLen; omega) (by omega) (by simp; omega) ?_; intro v' w1 hown' hgrow _))
        have R := bytes_next (byte_val s k) hzr hown hb hown' hgrow
        clear hown' hgrow hown hb
        go_roundw
        case rel => exact ⟨k + 1, by go_num, by omega, by rw [hnx.out]; exact R.1, R.2⟩
        case measure => simp [intOf]; omega
    · obtain rfl : k = s.size := by omega
      have kc := conv_own hown
      replace hown := hid hown
      go_wp2
      go_ret
      exact ⟨rfl, hb⟩

set_option maxRecDepth 100000 in
set_option maxHeartbeats 2000000 in
theorem specRestrictWord_any (s : ByteArray) (al : Int) (w : World) (hok : wordOk s = true) (ha : 0 ≤ al ∧ al ≤ 63) :
    Calls Tryd.prog 71 #[.string s, .int .i64 al] w fun e w' => e = .returned (.string (restr s al)) ∧ Below w.heap.size w w' := by
  obtain ⟨i0, hi, hz0, hz1, hz2⟩ := info_parts infoByte8
  have hz : s.size ≤ 50000 := by unfold wordOk at hok; exact (of_decide_eq_true hok).1
  have haok : Hid (alphaOk al = true) := hid (by unfold alphaOk; exact decide_eq_true ha)
  replace hok := hid hok
  go_enter Tryd.func71, Tryd.ntmps71
  go_wp2_with (first
    | (go_at_call 127; refine (specWordValid_any s _ (by omega)).mono ?_; rintro e w' ⟨rfl, rfl⟩; rw [hok.out])
    | (go_at_call 126; refine (l1Alphabet_any al _).mono ?_; rintro e w' ⟨rfl, rfl⟩; rw [haok.out]))
  go_loopw [5, 6] (fun v i wr => ∃ k : Nat, i = .int .i64 k ∧ k ≤ s.size ∧ wr.ownsRow w.heap.size 5 1 v (keptTo s al k).length (byteVals (keptTo s al k)) ∧ Below w.heap.size w wr) (fun _ i _ => s.size - (intOf i).toNat)
  case atStart =>
    refine ⟨0, rfl, by omega, ?_, by (repeat (first | exact Below.refl _ _ | assumption | refine Below.drew ?_ | refine Below.alloc ?_ (by first | omega | (simp; done) | (simp; omega)) _ | refine Below.setCell ?_ (by first | omega | (simp; done) | (simp; omega)) _))⟩
    exact ⟨rfl, .inr ⟨w.heap.size, 0, #[], rfl, Nat.le_refl _, heap_alloc_self _ _, Nat.le_refl _, Nat.zero_le _, rfl, rfl⟩⟩
  case round =>
    obtain ⟨k, rfl, hk, hown, hb⟩ := hrel
    have hzr := hb.size
    have hlen := keptTo_len s al k
    by_cases hlt : k < s.size
    · have hr := wordOk_at hok.out hlt
      have hHZ : Hid (Has al (lz s k).toNat = HasZ al (ltr s k)) := hid (by rw [ltr_ok hr]; unfold HasZ; rw [decide_eq_true hr.1]; rfl)
      cases hh : HasZ al (ltr s k)
      · have hnx := hid (keptTo_miss hh)
        replace hh := hid hh
        replace hown := hid hown
        go_wp2_with (first
          | (go_at_call 128; refine (l1At_any s k _ hlt).mono ?_; rintro e w' ⟨rfl, rfl⟩)
          | (go_at_call 95; refine (l1Has_any al _ _ hr.1 (by omega)).mono ?_; rintro e w' ⟨rfl, rfl⟩; rw [hHZ.out, hh.out]))
        go_roundw
        case rel => exact ⟨k + 1, by go_num, by omega, by rw [hnx.out]; exact hown.out, hb⟩
        case measure => simp [intOf]; omega
      · have hnx := hid (keptTo_hit hh)
        have hbv := byte_at s k hlt
        have h0 : (0 : Int) ≤ (k : Int) ∧ (k : Int) < (s.size : Int) := by omega
        replace hh := hid hh
        go_wp2_with (first
          | (go_at_call 128; refine (l1At_any s k _ hlt).mono ?_; rintro e w' ⟨rfl, rfl⟩)
          | (go_at_call 95; refine (l1Has_any al _ _ hr.1 (by omega)).mono ?_; rintro e w' ⟨rfl, rfl⟩; rw [hHZ.out, hh.out])
          | (at_builtin; refine wpList_append_own _ rfl _ _ 22 rfl w.heap.size 5 i0 (.int .u8 0) 1 1 Tryd.underlying22 hi hz0 hz1 hz2 rfl (by decide) _ _ _ rfl (hown.alloc _) ⟨wr.heap.size, 0, none⟩ 1 1 [.int .u8 (lz s k + 97)] rfl rfl (cell_one_new _ _ _) (by intro u hu; simp at hu; subst hu; rfl) (by unfold maxLen; omega) (by omega) (by simp; omega) ?_; intro v' w1 hown' hgrow _))
        have R := bytes_next (byte_val s k) hzr hown hb hown' hgrow
        clear hown' hgrow hown hb
        go_roundw
        case rel => exact ⟨k + 1, by go_num, by omega, by rw [hnx.out]; exact R.1, R.2⟩
        case measure => simp [intOf]; omega
    · obtain rfl : k = s.size := by omega
      have kc := conv_own hown
      replace hown := hid hown
      go_wp2
      go_ret
      exact ⟨rfl, hb⟩

end Go.Proofs.YtempjhgajcdibaaDoor

/- The states behind a word: both StatesAfter and HasTrace. -/
namespace Go.Proofs.YtempjhgajcdibaaDoor
open Go.RowKit Go.BigFrame AG

set_option maxRecDepth 100000 in
set_option maxHeartbeats 1000000 in
theorem l2Run_any (s : Sy) (A : Option Addr) (c : Nat) (x : ByteArray) (w : World) (hs : edgesIn s) (hx : x.size ≤ 50000) (hl : s.es.length ≤ c) (hc : c ≤ 9223372036854775807) (hr : EdsAt w w.heap.size A s.es) :
    Calls Tryd.prog 130 #[s.val A c, .int .i64 1, .string x] w fun e w' => e = .returned (.int .i64 (runTo s x x.size : Nat)) ∧ Below w.heap.size w w' := by
  unfold Sy.val
  replace hr := hid hr
  replace hs := hid hs
  go_enter Tryd.func130, Tryd.ntmps130
  go_wp2_with fail
  obtain ⟨w0, hw0, hz0, hB0, hS0, hS1, hS2⟩ := boxed3 w (Value.int IntKind.i64 s.al) (Value.int IntKind.i64 s.st) (Value.slice A s.es.length c) 25
  rw [hw0]
  clear hw0
  have hr0 := hid ((hr.out.keep hB0).more (show w.heap.size ≤ w0.heap.size by omega))
  go_loopw [1, 7] (fun st i wr => ∃ (T k : Nat), st = .int .i64 T ∧ i = .int .i64 k ∧ k ≤ x.size ∧ T = runTo s x k ∧ Below w0.heap.size w0 wr) (fun _ i _ => x.size - (intOf i).toNat)
  case atStart => exact ⟨1, 0, rfl, rfl, by omega, rfl, Below.refl _ _⟩
  case round =>
    obtain ⟨T, k, rfl, rfl, hk, hT, hb⟩ := hrel
    have hTl : T < 65536 := by rw [hT]; exact runTo_lt s x k
    replace hT := hid hT
    have hB1 : Below w.heap.size w wr := hB0.trans (hb.mono (by omega))
    by_cases hlt : k < x.size
    · by_cases hT0 : T = 0
      · have hd : ((T : Int) != 0) = false := by subst hT0; rfl
        have hfin := hid (runTo_done (s := s) (w := x) (k := k) (by rw [← hT.out]; exact hT0) hk)
        replace hT0 := hid hT0
        go_wp2
        go_ret
        exact ⟨ret_int (by rw [hfin.out, hT0.out]), hB1⟩
      · have hd : ((T : Int) != 0) = true := by simpa using hT0
        replace hT0 := hid hT0
        have q0 : ∀ y, (Fam w0.heap.size w0 y).cell? ⟨w.heap.size, 0, none⟩ = some (.int .i64 s.al) := fun y => hS0 _ ((Fam.below _ _ y).mono hz0)
        have q1 : ∀ y, (Fam w0.heap.size w0 y).cell? ⟨w.heap.size, 1, none⟩ = some (.int .i64 s.st) := fun y => hS1 _ ((Fam.below _ _ y).mono hz0)
        have q2 : ∀ y, (Fam w0.heap.size w0 y).cell? ⟨w.heap.size, 2, none⟩ = some (.slice A s.es.length c) := fun y => hS2 _ ((Fam.below _ _ y).mono hz0)
        have hrF : ∀ y, Hid (EdsAt (Fam w0.heap.size w0 y) (Fam w0.heap.size w0 y).heap.size A s.es) := fun y => hid (hr0.out.later (Fam.below _ _ y))
        have hnx : Hid (stepSet s T (lz x k) = runTo s x (k + 1)) := hid (by rw [runTo, hT.out])
        go_wp2_with fail
        refine wp_region_fam w0.heap.size w0 (by kernel_rfl) (by kernel_rfl) hb ?_
        (repeat (go_big_quiet_step ((first
          | (refine (l1At_any x k _ hlt).mono ?_; rintro e w1 ⟨rfl, rfl⟩; exact ⟨rfl, _, rfl⟩)
          | (refine (l2Step_any s A c T (lz x k) _ hs.out hl hc (hrF _).out).mono ?_; rintro e w1 ⟨rfl, hb1⟩; exact ⟨rfl, Fam.next (Nat.le_refl _) hb1⟩)))))
        refine wpQuiet_nil ?_
        intro w2 hw2
        replace hw2 := Fam.out hw2
        go_wp2
        go_roundw
        case rel => exact ⟨_, k + 1, rfl, by go_num, by omega, hnx.out, hw2⟩
        case measure => simp [intOf]; omega
    · obtain rfl : k = x.size := by omega
      go_wp2
      go_ret
      exact ⟨ret_int (by rw [hT.out]), hB1⟩

set_option maxRecDepth 100000 in
set_option maxHeartbeats 1000000 in
theorem specStatesAfter_any (s : Sy) (A : Option Addr) (c : Nat) (x : ByteArray) (w : World) (hz : x.size ≤ 9223372036854775807) (hl : s.es.length ≤ c) (hc : c ≤ 9223372036854775807) (hr : EdsAt w w.heap.size A s.es) :
    Calls Tryd.prog 75 #[s.val A c, .string x] w fun e w' => e = .returned (.int .i64 (aft s x : Nat)) ∧ Below w.heap.size w w' := by
  unfold Sy.val
  replace hr := hid hr
  cases hok : sysOk s
  · have hfin : Hid (aft s x = 0) := hid (by unfold aft; rw [hok]; rfl)
    replace hok := hid hok
    go_enter Tryd.func75, Tryd.ntmps75
    go_wp2_with fail
    obtain ⟨w0, hw0, hz0, hB0, hS0, hS1, hS2⟩ := boxed3 w (Value.int IntKind.i64 s.al) (Value.int IntKind.i64 s.st) (Value.slice A s.es.length c) 25
    rw [hw0]
    clear hw0
    have hr0 := hid ((hr.out.keep hB0).more (show w.heap.size ≤ w0.heap.size by omega))
    refine (specSystemValid_any s A c w0 hl hc hr0.out).mono ?_
    rintro e w1 ⟨rfl, hb1⟩
    rw [hok.out]
    have hB1 : Below w.heap.size w w1 := hB0.trans (hb1.mono (by omega))
    have hb1' := hb1.mono hz0
    go_wp2
    go_ret
    exact ⟨ret_int (by rw [hfin.out]; rfl), hB1⟩
  · cases hwi : within x s.al
    all_goals
      have hok2 := hid hok
      have hwi2 := hid hwi
      replace hok := hid hok
      replace hwi := hid hwi
      go_enter Tryd.func75, Tryd.ntmps75
      go_wp2_with fail
      obtain ⟨w0, hw0, hz0, hB0, hS0, hS1, hS2⟩ := boxed3 w (Value.int IntKind.i64 s.al) (Value.int IntKind.i64 s.st) (Value.slice A s.es.length c) 25
      rw [hw0]
      clear hw0
      have hr0 := hid ((hr.out.keep hB0).more (show w.heap.size ≤ w0.heap.size by omega))
      refine (specSystemValid_any s A c w0 hl hc hr0.out).mono ?_
      rintro e w1 ⟨rfl, hb1⟩
      rw [hok.out]
      have hB1 : Below w.heap.size w w1 := hB0.trans (hb1.mono (by omega))
      have hb1' := hb1.mono hz0
      have hr1 := hid (hr0.out.later hb1)
      have q0 := hS0 _ hb1'
      have q1 := hS1 _ hb1'
      have q2 := hS2 _ hb1'
    · have hfin : Hid (aft s x = 0) := hid (by unfold aft; rw [hok2.out, hwi2.out]; rfl)
      go_wp2_with (go_at_call 70; refine (specWordWithin_any x s.al _ hz).mono ?_; rintro e w' ⟨rfl, rfl⟩; rw [hwi.out])
      go_ret
      exact ⟨ret_int (by rw [hfin.out]; rfl), hB1⟩
    · have hfin : Hid (aft s x = runTo s x x.size) := hid (by unfold aft; rw [hok2.out, hwi2.out]; rfl)
      have h5 := within_size hwi2.out
      go_wp2_with (first
        | (go_at_call 70; refine (specWordWithin_any x s.al _ hz).mono ?_; rintro e w' ⟨rfl, rfl⟩; rw [hwi.out])
        | (go_at_call 130; refine (l2Run_any s A c x _ (sysOk_in hok2.out) h5 hl hc hr1.out).mono ?_; rintro e w2 ⟨rfl, hb2⟩))
      go_ret
      exact ⟨ret_int (by rw [hfin.out]), hB1.trans (hb2.mono hB1.size)⟩

set_option maxRecDepth 100000 in
set_option maxHeartbeats 1000000 in
theorem specHasTrace_any (s : Sy) (A : Option Addr) (c : Nat) (x : ByteArray) (w : World) (hz : x.size ≤ 9223372036854775807) (hl : s.es.length ≤ c) (hc : c ≤ 9223372036854775807) (hr : EdsAt w w.heap.size A s.es) :
    Calls Tryd.prog 27 #[s.val A c, .string x] w fun e w' => e = .returned (.bool (hasTr s x)) ∧ Below w.heap.size w w' := by
  unfold Sy.val
  replace hr := hid hr
  have hfin : Hid (hasTr s x = ((aft s x : Int) != 0)) := hid (by unfold hasTr; rw [Bool.eq_iff_iff]; simp)
  go_enter Tryd.func27, Tryd.ntmps27
  go_wp2_with fail
  obtain ⟨w0, hw0, hz0, hB0, hS0, hS1, hS2⟩ := boxed3 w (Value.int IntKind.i64 s.al) (Value.int IntKind.i64 s.st) (Value.slice A s.es.length c) 25
  rw [hw0]
  clear hw0
  have hr0 := hid ((hr.out.keep hB0).more (show w.heap.size ≤ w0.heap.size by omega))
  refine (specStatesAfter_any s A c x w0 hz hl hc hr0.out).mono ?_
  rintro e w1 ⟨rfl, hb1⟩
  have hB1 : Below w.heap.size w w1 := hB0.trans (hb1.mono (by omega))
  go_wp2
  go_ret
  exact ⟨ret_bool (by rw [hfin.out]), hB1⟩

set_option maxRecDepth 100000 in
set_option maxHeartbeats 1000000 in
theorem implStatesAfter_any (s : Sy) (A : Option Addr) (c : Nat) (x : ByteArray) (w : World) (hz : x.size ≤ 9223372036854775807) (hl : s.es.length ≤ c) (hc : c ≤ 9223372036854775807) (hT : Tab w) (hr : EdsAt w w.heap.size A s.es) :
    Calls Tryd.prog 41 #[s.val A c, .string x] w fun e w' => e = .returned (.int .i64 (aft s x : Nat)) ∧ Below w.heap.size w w' := by
  unfold Sy.val
  replace hr := hid hr
  replace hT := hid hT
  cases hok : sysOk s
  · have hfin : Hid (aft s x = 0) := hid (by unfold aft; rw [hok]; rfl)
    replace hok := hid hok
    go_enter Tryd.func41, Tryd.ntmps41
    go_wp2_with fail
    obtain ⟨w0, hw0, hz0, hB0, hS0, hS1, hS2⟩ := boxed3 w (Value.int IntKind.i64 s.al) (Value.int IntKind.i64 s.st) (Value.slice A s.es.length c) 25
    rw [hw0]
    clear hw0
    have hr0 := hid ((hr.out.keep hB0).more (show w.heap.size ≤ w0.heap.size by omega))
    refine (implSystemValid_any s A c w0 hl hc hr0.out).mono ?_
    rintro e w1 ⟨rfl, hb1⟩
    rw [hok.out]
    have hB1 : Below w.heap.size w w1 := hB0.trans (hb1.mono (by omega))
    have hb1' := hb1.mono hz0
    go_wp2
    go_ret
    exact ⟨ret_int (by rw [hfin.out]; rfl), hB1⟩
  · cases hwi : within x s.al
    all_goals
      have hok2 := hid hok
      have hwi2 := hid hwi
      replace hok := hid hok
      replace hwi := hid hwi
      go_enter Tryd.func41, Tryd.ntmps41
      go_wp2_with fail
      obtain ⟨w0, hw0, hz0, hB0, hS0, hS1, hS2⟩ := boxed3 w (Value.int IntKind.i64 s.al) (Value.int IntKind.i64 s.st) (Value.slice A s.es.length c) 25
      rw [hw0]
      clear hw0
      have hr0 := hid ((hr.out.keep hB0).more (show w.heap.size ≤ w0.heap.size by omega))
      refine (implSystemValid_any s A c w0 hl hc hr0.out).mono ?_
      rintro e w1 ⟨rfl, hb1⟩
      rw [hok.out]
      have hB1 : Below w.heap.size w w1 := hB0.trans (hb1.mono (by omega))
      have hb1' := hb1.mono hz0
      have hr1 := hid (hr0.out.later hb1)
      have q0 := hS0 _ hb1'
      have q1 := hS1 _ hb1'
      have q2 := hS2 _ hb1'
    · have hfin : Hid (aft s x = 0) := hid (by unfold aft; rw [hok2.out, hwi2.out]; rfl)
      go_wp2_with (go_at_call 67; refine (implWordWithin_any x s.al _ hz).mono ?_; rintro e w' ⟨rfl, rfl⟩; rw [hwi.out])
      go_ret
      exact ⟨ret_int (by rw [hfin.out]; rfl), hB1⟩
    · have hfin : Hid (aft s x = runTo s x x.size) := hid (by unfold aft; rw [hok2.out, hwi2.out]; rfl)
      have h5 := within_size hwi2.out
      go_wp2_with (first
        | (go_at_call 67; refine (implWordWithin_any x s.al _ hz).mono ?_; rintro e w' ⟨rfl, rfl⟩; rw [hwi.out])
        | (go_at_call 77; refine (movesOf_any s A c _ (sysOk_in hok2.out) hl hc hr1.out).mono ?_; rintro e w2 ⟨g, rfl, hg, hb2⟩))
      have hB2 : Below w.heap.size w w2 := hB1.trans (hb2.mono hB1.size)
      have hT2 := hid (hT.out.later hB2)
      replace hg := hid hg
      go_loopw [6, 7] (fun st i wr => ∃ (T k : Nat), st = .int .i64 T ∧ i = .int .i64 k ∧ k ≤ x.size ∧ T = runTo s x k ∧ Below w2.heap.size w2 wr) (fun _ i _ => x.size - (intOf i).toNat)
      case atStart => exact ⟨1, 0, rfl, rfl, by omega, rfl, Below.refl _ _⟩
      case round =>
        obtain ⟨T, k, rfl, rfl, hk, hT', hb⟩ := hrel
        have hTl : T < 65536 := by rw [hT']; exact runTo_lt s x k
        replace hT' := hid hT'
        have hB3 : Below w.heap.size w wr := hB2.trans (hb.mono hB2.size)
        by_cases hlt : k < x.size
        · by_cases hT0 : T = 0
          · have hd : ((T : Int) != 0) = false := by subst hT0; rfl
            have hfin2 := hid (runTo_done (s := s) (w := x) (k := k) (by rw [← hT'.out]; exact hT0) hk)
            replace hT0 := hid hT0
            go_wp2
            go_ret
            exact ⟨ret_int (by rw [hfin.out, hfin2.out, hT0.out]), hB3⟩
          · have hd : ((T : Int) != 0) = true := by simpa using hT0
            replace hT0 := hid hT0
            have hlr := wordOk_at (within_word hwi2.out) hlt
            have hle := ltr_ok hlr
            obtain ⟨l, hll⟩ := Int.eq_ofNat_of_zero_le hlr.1
            have hl6 : l < 6 := by omega
            have hnx : Hid (unionOf (mv s) T l = runTo s x (k + 1)) := hid (by rw [runTo, unionOf_mv s (sysOk_in hok2.out), ← hll, hT'.out])
            have hle2 : Hid (ltr x k = (l : Int)) := hid (by rw [hle, hll])
            have hgr := hid (hg.out.later hb)
            have hTr := hid (hT2.out.later hb)
            have hzr := hb.size
            replace hll := hid hll
            replace hle := hid hle
            go_wp2_with (first
              | (go_at_call 76; refine (letterAt_any x k _ hlt).mono ?_; rintro e w' ⟨rfl, rfl⟩; rw [hle2.out])
              | (go_at_call 79; refine (step_any (mv s) g T l _ hl6 (fun q => mv_lt s q l) hTl hTr.out hgr.out).mono ?_; rintro e w3 ⟨rfl, hb3⟩))
            have hb4 := hb.trans (hb3.mono hzr)
            go_roundw
            case rel => exact ⟨_, k + 1, rfl, by go_num, by omega, hnx.out, hb4⟩
            case measure => simp [intOf]; omega
        · obtain rfl : k = x.size := by omega
          go_wp2
          go_ret
          exact ⟨ret_int (by rw [hfin.out, hT'.out]), hB3⟩

set_option maxRecDepth 100000 in
set_option maxHeartbeats 1000000 in
theorem implHasTrace_any (s : Sy) (A : Option Addr) (c : Nat) (x : ByteArray) (w : World) (hz : x.size ≤ 9223372036854775807) (hl : s.es.length ≤ c) (hc : c ≤ 9223372036854775807) (hT : Tab w) (hr : EdsAt w w.heap.size A s.es) :
    Calls Tryd.prog 25 #[s.val A c, .string x] w fun e w' => e = .returned (.bool (hasTr s x)) ∧ Below w.heap.size w w' := by
  unfold Sy.val
  replace hr := hid hr
  replace hT := hid hT
  have hfin : Hid (hasTr s x = ((aft s x : Int) != 0)) := hid (by unfold hasTr; rw [Bool.eq_iff_iff]; simp)
  go_enter Tryd.func25, Tryd.ntmps25
  go_wp2_with fail
  obtain ⟨w0, hw0, hz0, hB0, hS0, hS1, hS2⟩ := boxed3 w (Value.int IntKind.i64 s.al) (Value.int IntKind.i64 s.st) (Value.slice A s.es.length c) 25
  rw [hw0]
  clear hw0
  have hr0 := hid ((hr.out.keep hB0).more (show w.heap.size ≤ w0.heap.size by omega))
  have hT0 := hid (hT.out.later hB0)
  refine (implStatesAfter_any s A c x w0 hz hl hc hT0.out hr0.out).mono ?_
  rintro e w1 ⟨rfl, hb1⟩
  have hB1 : Below w.heap.size w w1 := hB0.trans (hb1.mono (by omega))
  go_wp2
  go_ret
  exact ⟨ret_bool (by rw [hfin.out]), hB1⟩

end Go.Proofs.YtempjhgajcdibaaDoor

/- The drawing kit: l2Any, words. -/
namespace Go.Proofs.YtempjhgajcdibaaDoor
open Go.RowKit Go.BigFrame AG

set_option maxRecDepth 100000 in
set_option maxHeartbeats 4000000 in
theorem l2Any_up (R P : Nat) (w : World) (hP : P + 9000000 ≤ 1125899906842624) (hr : RdUp w R P) :
    Calls Tryd.prog 73 #[.pointer (some ⟨R, 0, none⟩)] w (SyUp R (P + 3000000) 2000 w) := by
  have hR := hr.lt
  have hres := Blk.new w 25 #[.int .i64 0, .int .i64 0, .slice none 0 0]
  have hb0 : Below w.heap.size w (w.alloc (.cells #[.int .i64 0, .int .i64 0, .slice none 0 0] 25)) := (Below.refl _ _).alloc (Nat.le_refl _) _
  generalize hw0 : w.alloc (.cells #[.int .i64 0, .int .i64 0, .slice none 0 0] 25) = w0 at hres hb0
  have hz0 : w0.heap.size = w.heap.size + 1 := by rw [← hw0]; simp
  have hr0 := hid (hr.later hb0)
  replace hr := hid hr
  replace hres := hid hres
  replace hz0 := hid hz0
  go_enter Tryd.func73, Tryd.ntmps73
  go_wp2_with fail
  refine (pick_up R P 12 w0 (by omega) (by omega) hr0.out).mono ?_
  rintro e w1 ⟨j, rfl, hj0, hj1, hr1, hk1⟩
  replace hr1 := hid hr1
  replace hk1 := hid hk1
  clear hw0 hj1
  by_cases hj : j = 0
  · subst hj
    go_wp2_with fail
    refine (l2Big_up R (P + 1) w1 (by omega) hr1.out).mono ?_
    rintro e w4 ⟨s, A, c, rfl, h1, h2, h3, h4, h5, h6, h7, -⟩
    unfold Sy.val
    have K2 : KeepB (fun b => b = R) w0 w4 := hk1.out.trans h7
    have hbl := hres.out.keep K2 (by omega)
    have d0 := hbl.cell 0
    have d1 := hbl.cell 1
    have d2 := hbl.cell 2
    have f0 := hbl.frozen 0
    have f1 := hbl.frozen 1
    have f2 := hbl.frozen 2
    simp only [List.getElem?_toArray, List.getElem?_cons_zero, List.getElem?_cons_succ] at d0 d1 d2
    have hfin := hid (SyUp.ret (w := w) (L := 2000) h1 h2 (by omega) h4 (fun b o hA => by have := h5 b o hA; have := hk1.out.size; have := hz0.out; omega) (h6.more (by omega : P + 1 + 2000000 ≤ P + 3000000)) ((KeepB.of_below hb0).trans K2) hR (.int .i64 s.al) (.int .i64 s.st) (.slice A s.es.length c))
    have hlt := hbl.lt
    clear h4 h5 h6 h7 hbl K2
    go_wp2
    refine bodyPost_ret (v := .agg #[.int .i64 s.al, .int .i64 s.st, .slice A s.es.length c]) (by simp [results, Tryd.results73, go_sem, d0, d1, d2]) rfl ?_
    exact hfin.out
  · have hjb : ((j : Int) == 0) = false := by simpa using hj
    replace hj := hid hj
    go_wp2_with fail
    refine (l2Draw_up R (P + 1) w1 (by omega) hr1.out).mono ?_
    rintro e w2 ⟨s', A', c', rfl, a1, a2, a3, a4, a5, a6, a7⟩
    replace a4 := hid a4
    replace a6 := hid a6
    replace a7 := hid a7
    clear a5
    go_wp2_with fail
    refine (l2Wrong_up R (P + 1 + 2000) 1536 s' A' c' w2 (by omega) a1 a2 a3 (by omega) a4.out a6.out).mono ?_
    rintro e w4 ⟨s, A, c, rfl, h1, h2, h3, h4, h5, h6, h7⟩
    unfold Sy.val
    have K1 : KeepB (fun b => b = R) w0 w2 := hk1.out.trans a7.out
    have K2 : KeepB (fun b => b = R) w0 w4 := K1.trans h7
    have hbl := hres.out.keep K2 (by omega)
    have d0 := hbl.cell 0
    have d1 := hbl.cell 1
    have d2 := hbl.cell 2
    have f0 := hbl.frozen 0
    have f1 := hbl.frozen 1
    have f2 := hbl.frozen 2
    simp only [List.getElem?_toArray, List.getElem?_cons_zero, List.getElem?_cons_succ] at d0 d1 d2
    have hfin := hid (SyUp.ret (w := w) (L := 2000) h1 h2 (by omega) h4 (fun b o hA => by have := h5 b o hA; have := K1.size; have := hz0.out; omega) (h6.more (by omega : P + 1 + 2000 + 400000 ≤ P + 3000000)) ((KeepB.of_below hb0).trans K2) hR (.int .i64 s.al) (.int .i64 s.st) (.slice A s.es.length c))
    have hlt := hbl.lt
    clear h4 h5 h6 h7 hbl K2 K1
    go_wp2
    refine bodyPost_ret (v := .agg #[.int .i64 s.al, .int .i64 s.st, .slice A s.es.length c]) (by simp [results, Tryd.results73, go_sem, d0, d1, d2]) rfl ?_
    exact hfin.out

def ManyPost (N : Nat) (w : World) (e : Ending) (w' : World) : Prop := ∃ x : ByteArray, e = .returned (.string x) ∧ x.size ≤ N ∧ w = w'

set_option maxRecDepth 100000 in
set_option maxHeartbeats 2000000 in
theorem l19Many_any (s : ByteArray) (n : Nat) (w : World) (hs : s.size = 1) (hn : n ≤ 100000) : Calls Tryd.prog 122 #[.string s, .int .i64 n] w (ManyPost 200000 w) := by
  replace hs := hid hs
  go_enter Tryd.func122, Tryd.ntmps122
  go_wp2_with fail
  go_loopw [0, 1, 5] (fun a i o wr => ∃ (x y : ByteArray) (m : Nat), a = .string x ∧ i = .int .i64 m ∧ o = .string y ∧ y.size + x.size * m ≤ 100000 ∧ x.size ≤ 200000 ∧ m ≤ 100000 ∧ w = wr) (fun _ i _ _ => (intOf i).toNat)
  case atStart => exact ⟨s, ⟨#[]⟩, n, rfl, rfl, rfl, by rw [hs.out]; show 0 + 1 * n ≤ 100000; omega, by rw [hs.out]; omega, by omega, rfl⟩
  case round =>
    obtain ⟨x, y, m, rfl, rfl, rfl, h1, h2, hmb, rfl⟩ := hrel
    by_cases hm : 0 < m
    · have hm' : (0 : Int) < (m : Int) := by omega
      obtain ⟨q, hq⟩ : ∃ q : Nat, q = m / 2 := ⟨_, rfl⟩
      have e2 : (m : Int) / 2 = (q : Int) := by omega
      have hqb : q ≤ 100000 := by omega
      have hxm : x.size ≤ x.size * m := Nat.le_mul_of_pos_right _ hm
      have hy1 : y.size ≤ 100000 := by omega
      have hx1 : x.size ≤ 100000 := by omega
      by_cases hodd : m % 2 = 1
      · have e1 : (m : Int) % 2 = 1 := by omega
        have hqm : m = 2 * q + 1 := by omega
        have h3 : Hid (y.size + x.size + (x.size + x.size) * q ≤ 100000) := hid (by
          rw [hqm] at h1
          have : x.size * (2 * q + 1) = x.size + (x.size + x.size) * q := by rw [Nat.mul_add, Nat.add_mul, Nat.mul_one]; rw [Nat.two_mul, Nat.mul_add]; omega
          omega)
        replace h1 := hid h1
        replace hq := hid hq
        replace hqm := hid hqm
        replace hxm := hid hxm
        go_wp2_with fail
        go_roundw
        case rel => exact ⟨_, _, q, rfl, rfl, rfl, by rw [ByteArray.size_append, ByteArray.size_append]; exact h3.out, by rw [ByteArray.size_append]; omega, hqb, by first | trivial | rfl⟩
        case measure => have := hqm.out; simp [intOf]; omega
      · have e1 : (m : Int) % 2 = 0 := by omega
        have hqm : m = 2 * q := by omega
        have h3 : Hid (y.size + (x.size + x.size) * q ≤ 100000) := hid (by
          rw [hqm] at h1
          have : x.size * (2 * q) = (x.size + x.size) * q := by rw [Nat.add_mul, Nat.two_mul, Nat.mul_add]
          omega)
        replace h1 := hid h1
        replace hq := hid hq
        replace hqm := hid hqm
        replace hxm := hid hxm
        go_wp2_with fail
        go_roundw
        case rel => exact ⟨_, _, q, rfl, rfl, rfl, by rw [ByteArray.size_append]; exact h3.out, by rw [ByteArray.size_append]; omega, hqb, by first | trivial | rfl⟩
        case measure => have := hqm.out; simp [intOf]; omega
    · go_wp2_with fail
      go_ret
      exact ⟨y, rfl, by omega, rfl⟩

def StrUp (R P N : Nat) (w : World) (e : Ending) (w' : World) : Prop := ∃ x : ByteArray, e = .returned (.string x) ∧ x.size ≤ N ∧ RdUp w' R P ∧ KeepB (fun b => b = R) w w'
def IntUp (R P : Nat) (w : World) (e : Ending) (w' : World) : Prop := ∃ x : Int, e = .returned (.int .i64 x) ∧ RdUp w' R P ∧ KeepB (fun b => b = R) w w'


set_option maxRecDepth 100000 in
set_option maxHeartbeats 4000000 in
theorem l1Word_up (R P : Nat) (A : Int) (n : Nat) (w : World) (hP : P + 1000 ≤ 1125899906842624) (hn : n ≤ 100) (hr : RdUp w R P) :
    Calls Tryd.prog 63 #[.pointer (some ⟨R, 0, none⟩), .int .i64 A, .int .i64 n] w (StrUp R (P + 200) 200 w) := by
  have hR := hr.lt
  replace hr := hid hr
  go_enter Tryd.func63, Tryd.ntmps63
  go_wp2_with fail
  refine (l1Letters_any A w).mono ?_
  rintro e w1 ⟨lv, rfl, hown, hb1⟩
  obtain ⟨ls, hls⟩ : ∃ ls, Hid (ls = letters A) := ⟨_, hid rfl⟩
  rw [← hls.out] at hown
  have hl6 : ls.length ≤ 6 := by rw [hls.out]; exact lettersTo_len A 6
  obtain ⟨Al, cl, hvl, hcl, hcl'⟩ := own_slice hown
  subst hvl
  have hr1 := hid (hr.out.later hb1)
  replace hown := hid hown
  have hz1 := hb1.size
  go_wp2_with fail
  refine (pick_up R P (n + 1) w1 (by omega) (by omega) hr1.out).mono ?_
  rintro e w2 ⟨j, rfl, hj0, hj1, hr2, hk2⟩
  obtain ⟨m, rfl⟩ := Int.eq_ofNat_of_zero_le hj0
  have hmn : m ≤ n := by omega
  have hown2 := hid (own_keep hown.out hk2 (fun g hg => by have := (World.ownsRow.lt hown.out g hg).1; omega))
  have hkw : KeepB (fun b => b = R) w w2 := (KeepB.of_below hb1).trans hk2
  replace hr2 := hid hr2
  clear hk2 hj0 hj1 hown
  go_wp2_with fail
  go_loopw [8, 9] (fun o i wr => ∃ (x : ByteArray) (k : Nat), o = .string x ∧ i = .int .i64 k ∧ x.size + k ≤ n ∧ RdUp wr R (P + 1 + x.size) ∧ OwnNats wr w.heap.size (.slice Al ls.length cl) ls ∧ KeepB (fun b => b = R) w wr) (fun _ i _ => (intOf i).toNat)
  case atStart => exact ⟨⟨#[]⟩, m, rfl, rfl, by show 0 + m ≤ n; omega, hr2.out, hown2.out, hkw⟩
  case round =>
    clear hown2 hr2 hkw
    obtain ⟨x, k, rfl, rfl, hx, hrr, hown, hkw⟩ := hrel
    replace hrr := hid hrr
    replace hkw := hid hkw
    replace hown := hid hown
    by_cases hk : 0 < k
    · have hk' : (0 : Int) < (k : Int) := by omega
      by_cases hl0 : ls.length = 0
      · go_wp2_with fail
        go_ret
        exact ⟨x, rfl, by omega, hrr.out.more (by omega), hkw.out⟩
      · have e0 : (0 : Int) < (ls.length : Int) := by omega
        go_wp2_with fail
        refine (pick_up R (P + 1 + x.size) ls.length wr (by omega) (by omega) hrr.out).mono ?_
        rintro e w3 ⟨q, rfl, hq0, hq1, hr3, hk3⟩
        obtain ⟨q, rfl⟩ := Int.eq_ofNat_of_zero_le hq0
        have hql : q < ls.length := by omega
        have hown3 := hid (own_keep hown.out hk3 (fun g hg => by have := (World.ownsRow.lt hown.out g hg).1; omega))
        have hkw3 := hid (hkw.out.trans hk3)
        obtain ⟨g, cap, hve, hg1, hg2, -, -, hL⟩ := own_nats hown3.out (by omega)
        cases hve
        have l0 := hL q hql
        obtain ⟨l, hl⟩ : ∃ l : Nat, l = ls[q] := ⟨_, rfl⟩
        have hlt6 : l < 6 := by
          have := letters_lt (A := A) (l := l) (by rw [← hls.out, hl]; exact List.getElem_mem _)
          exact this.1
        rw [← hl] at l0
        have i1 : (0 : Int) ≤ (q : Int) ∧ (q : Int) < (ls.length : Int) := by omega
        replace hr3 := hid hr3
        replace hl := hid hl
        replace hL := hid hL
        replace hl0 := hid hl0
        clear hk3 hq0 hq1
        go_wp2_with (go_at_call 88; refine (l1Text_any l hlt6 _).mono ?_; rintro e w4 ⟨rfl, hb4⟩)
        have hr4 := hid (hr3.out.later hb4)
        have hown4 := hid (own_later hown3.out hb4)
        have hkw4 := hid (hkw3.out.trans (KeepB.of_below hb4))
        go_roundw
        case rel => exact ⟨_, k - 1, rfl, by go_num, by rw [ByteArray.size_append]; show x.size + 1 + (k - 1) ≤ n; omega, hr4.out.more (by rw [ByteArray.size_append]; show _ ≤ P + 1 + (x.size + 1); omega), hown4.out, hkw4.out⟩
        case measure => simp [intOf]; omega
    · go_wp2_with fail
      go_ret
      exact ⟨x, rfl, by omega, hrr.out.more (by omega), hkw.out⟩

end Go.Proofs.YtempjhgajcdibaaDoor

/- The drawing kit: words that are traces; a system and a word. -/
namespace Go.Proofs.YtempjhgajcdibaaDoor
open Go.RowKit Go.BigFrame AG

def OfUp (R P : Nat) (xs : List ByteArray) (w : World) (e : Ending) (w' : World) : Prop := ∃ x, x ∈ xs ∧ e = .returned (.string x) ∧ RdUp w' R (P + 1) ∧ KeepB (fun b => b = R) w w'
/-- A text out of a list that has just been made. -/
theorem of_lit (R P : Nat) (xs : List ByteArray) (w : World) (T : TypeId) (hk : 0 < xs.length) (hk2 : xs.length ≤ 1000) (hP : P < 1125899906842624) (hr : RdUp w R P) :
    Calls Tryd.prog 121 #[.pointer (some ⟨R, 0, none⟩), .slice (some ⟨w.heap.size, 0, none⟩) xs.length xs.length] (w.alloc (.cells (xs.map Value.string).toArray T)) (OfUp R P xs w) := by
  have hR := hr.lt
  have hb : Below w.heap.size w (w.alloc (.cells (xs.map Value.string).toArray T)) := (Below.refl _ _).alloc (Nat.le_refl _) _
  refine (of_up R P w.heap.size 0 xs.length xs.length xs _ rfl hk (by omega) hP (by omega) (by simp) (fun i h => ?_) (hr.later hb)).mono fun e w' ⟨x, h1, h2, h3, h4⟩ => ⟨x, h1, h2, h3, (KeepB.of_below hb).trans h4⟩
  rw [Nat.zero_add, World.cell?_alloc_at _ _ _ _ rfl]
  simp [h]

set_option maxRecDepth 100000 in
set_option maxHeartbeats 4000000 in
theorem l1Bad_up (R P : Nat) (s : ByteArray) (w : World) (hP : P + 1000 ≤ 1125899906842624) (hs : s.size ≤ 1000000) (hr : RdUp w R P) :
    Calls Tryd.prog 65 #[.pointer (some ⟨R, 0, none⟩), .string s] w (StrUp R (P + 10) 2000000 w) := by
  replace hr := hid hr
  go_enter Tryd.func65, Tryd.ntmps65
  go_wp2_with fail
  refine (pick_up R P 24 w (by omega) (by omega) hr.out).mono ?_
  rintro e w1 ⟨j, rfl, hj0, hj1, hr1, hk1⟩
  replace hr1 := hid hr1
  replace hk1 := hid hk1
  clear hj1
  by_cases hj0 : j = 0
  · subst hj0
    go_wp2_with fail
    refine (of_lit R (P + 1) [⟨#[103]⟩, ⟨#[65]⟩, ⟨#[96]⟩, ⟨#[32]⟩, ⟨#[97]⟩, ⟨#[0]⟩] w1 _ (by decide) (by decide) (by omega) hr1.out).mono ?_
    rintro e w2 ⟨x, hx, rfl, hr2, hk2⟩
    have hxz : x.size ≤ 10 := by
      simp only [List.mem_cons, List.not_mem_nil, or_false] at hx
      rcases hx with rfl | rfl | rfl | rfl | rfl | rfl <;> decide
    replace hr2 := hid hr2
    replace hk2 := hid hk2
    clear hx
    go_wp2_with fail
    go_ret
    exact ⟨_, rfl, by rw [ByteArray.size_append]; omega, hr2.out.more (by omega), hk1.out.trans hk2.out⟩
  · have hjb0 : ((j : Int) == 0) = false := by simpa using hj0
    replace hj0 := hid hj0
    by_cases hj1 : j = 1
    · subst hj1
      go_wp2_with fail
      refine (of_lit R (P + 1) [⟨#[98]⟩, ⟨#[120]⟩, ⟨#[45]⟩, ⟨#[102]⟩] w1 _ (by decide) (by decide) (by omega) hr1.out).mono ?_
      rintro e w2 ⟨x, hx, rfl, hr2, hk2⟩
      have hxz : x.size ≤ 10 := by
        simp only [List.mem_cons, List.not_mem_nil, or_false] at hx
        rcases hx with rfl | rfl | rfl | rfl <;> decide
      replace hr2 := hid hr2
      replace hk2 := hid hk2
      clear hx
      go_wp2_with fail
      go_ret
      exact ⟨_, rfl, by rw [ByteArray.size_append]; omega, hr2.out.more (by omega), hk1.out.trans hk2.out⟩
    · have hjb1 : ((j : Int) == 1) = false := by simpa using hj1
      replace hj1 := hid hj1
      by_cases hj2 : j = 2
      · subst hj2
        go_wp2_with fail
        refine (num_lit R (P + 1) [50000, 50001, 49999, 8] w1 _ (by decide) (by decide) (by omega) hr1.out).mono ?_
        rintro e w2 ⟨x, hx, rfl, hr2, hk2⟩
        have hxz : 0 ≤ x ∧ x ≤ 100000 := by simp at hx; omega
        obtain ⟨x, rfl⟩ := Int.eq_ofNat_of_zero_le hxz.1
        have hxz2 : x ≤ 100000 := by omega
        replace hr2 := hid hr2
        replace hk2 := hid hk2
        clear hx hxz
        go_wp2_with fail
        refine (l19Many_any _ x w2 (by decide) hxz2).mono ?_
        rintro e w' ⟨y, rfl, hy, rfl⟩
        go_wp2_with fail
        go_ret
        exact ⟨_, rfl, by omega, hr2.out.more (by omega), hk1.out.trans hk2.out⟩
      · have hjb2 : ((j : Int) == 2) = false := by simpa using hj2
        replace hj2 := hid hj2
        by_cases hj3 : j = 3
        · subst hj3
          go_wp2_with fail
          refine (num_lit R (P + 1) [50000, 8, 7] w1 _ (by decide) (by decide) (by omega) hr1.out).mono ?_
          rintro e w2 ⟨x, hx, rfl, hr2, hk2⟩
          have hxz : 0 ≤ x ∧ x ≤ 100000 := by simp at hx; omega
          obtain ⟨x, rfl⟩ := Int.eq_ofNat_of_zero_le hxz.1
          have hxz2 : x ≤ 100000 := by omega
          replace hr2 := hid hr2
          replace hk2 := hid hk2
          clear hx hxz
          go_wp2_with fail
          refine (l19Many_any _ x w2 (by decide) hxz2).mono ?_
          rintro e w' ⟨y, rfl, hy, rfl⟩
          go_wp2_with fail
          go_ret
          exact ⟨_, rfl, by omega, hr2.out.more (by omega), hk1.out.trans hk2.out⟩
        · have hjb3 : ((j : Int) == 3) = false := by simpa using hj3
          replace hj3 := hid hj3
          go_wp2_with fail
          go_ret
          exact ⟨_, rfl, by omega, hr1.out.more (by omega), hk1.out⟩

def IntPostB (w : World) (e : Ending) (w' : World) : Prop := ∃ n : Int, e = .returned (.int .i64 n) ∧ Below w.heap.size w w'

theorem aft_sys {s : Sy} {x : ByteArray} (h : aft s x ≠ 0) : sysOk s = true := by
  cases hs : sysOk s with
  | true => rfl
  | false => exact absurd (by unfold aft; rw [hs]; rfl) h

set_option maxRecDepth 100000 in
set_option maxHeartbeats 4000000 in
theorem lettersAfter_any (s : Sy) (A : Option Addr) (c : Nat) (x : ByteArray) (w : World) (hz : x.size ≤ 9223372036854775807) (hl : s.es.length ≤ c) (hc : c ≤ 9223372036854775807) (hr : EdsAt w w.heap.size A s.es) :
    Calls Tryd.prog 129 #[s.val A c, .string x] w (IntPostB w) := by
  unfold Sy.val
  replace hr := hid hr
  obtain ⟨w0, hw0, hz0, hB0, hS0, hS1, hS2⟩ := boxed3 w (Value.int IntKind.i64 s.al) (Value.int IntKind.i64 s.st) (Value.slice A s.es.length c) 25
  have hr0 := hid (hr.out.later hB0)
  have p0 := hS0 _ (Below.refl _ _)
  have p1 := hS1 _ (Below.refl _ _)
  have p2 := hS2 _ (Below.refl _ _)
  go_enter Tryd.func129, Tryd.ntmps129
  go_wp2_with fail
  refine (specStatesAfter_any s A c x w0 hz hl hc hr0.out).mono ?_
  rintro e w1 ⟨rfl, hb1⟩
  have hb1' := hb1.mono hz0
  have hB1 : Below w.heap.size w w1 := hB0.trans (hb1.mono (by omega))
  have hr1 := hid (hr0.out.later hb1)
  obtain ⟨T, hT⟩ : ∃ T, Hid (T = aft s x) := ⟨_, hid rfl⟩
  rw [← hT.out]
  clear p0 p1 p2 hw0
  have p2 := hS2 _ hb1'
  by_cases hT0 : T = 0
  · subst hT0
    by_cases hn0 : 0 < s.es.length
    all_goals
      go_wp2_with fail
      go_loopw [6, 7] (fun o i wr => ∃ (n : Int), o = .int .i64 n ∧ i = .int .i64 (0 : Nat) ∧ w1 = wr) (fun _ _ _ => 0)
      case atStart => exact ⟨0, rfl, rfl, rfl⟩
      case round =>
        obtain ⟨n, rfl, rfl, rfl⟩ := hrel
        go_wp2_with fail
        go_ret
        exact ⟨n, rfl, hB1⟩
  · have hTb : ((T : Int) != 0) = true := by simpa using hT0
    have hok := aft_sys (by rw [← hT.out]; exact hT0)
    have hin := hid (sysOk_in hok)
    replace hok := hid hok
    replace hT0 := hid hT0
    go_wp2_with fail
    go_loopw [6, 7] (fun o i wr => ∃ (n : Int) (k : Nat), o = .int .i64 n ∧ i = .int .i64 k ∧ k ≤ s.es.length ∧ w1 = wr) (fun _ i _ => s.es.length - (intOf i).toNat)
    case atStart => exact ⟨0, 0, rfl, rfl, by omega, rfl⟩
    case round =>
      obtain ⟨n, k, rfl, rfl, hk, rfl⟩ := hrel
      by_cases hlt : k < s.es.length
      · obtain ⟨b, o, rfl, hbb, hE⟩ := hr1.out (by omega)
        obtain ⟨e0, e1, e2⟩ := hE k hlt
        replace hE := hid hE
        have hok2 := hin.out s.es[k] (List.getElem_mem _)
        obtain ⟨f, hf⟩ := Int.eq_ofNat_of_zero_le hok2.1
        obtain ⟨l, hll⟩ := Int.eq_ofNat_of_zero_le hok2.2.2.2.2.1
        have hf16 : f < 16 := by omega
        have hl6 : l < 6 := by omega
        rw [hf] at e0
        rw [hll] at e1
        replace hf := hid hf
        replace hll := hid hll
        replace hok2 := hid hok2
        have k1 : (0 : Int) ≤ (k : Int) ∧ (k : Int) < (s.es.length : Int) := by omega
        cases hH : Has (T : Int) f
        · replace hH := hid hH
          go_wp2_with (go_at_call 95; refine (l1Has_any _ _ _ (by omega) (by omega)).mono ?_; rintro e w' ⟨rfl, rfl⟩; rw [Int.toNat_natCast, hH.out])
          go_roundw
          case rel => exact ⟨n, k + 1, rfl, by go_num, by omega, by first | trivial | rfl⟩
          case measure => simp [intOf]; omega
        · replace hH := hid hH
          go_wp2_with (first
            | (go_at_call 95; refine (l1Has_any _ _ _ (by omega) (by omega)).mono ?_; rintro e w' ⟨rfl, rfl⟩; rw [Int.toNat_natCast, hH.out])
            | (go_at_call 134; refine (l1Bit_any l _ (by omega)).mono ?_; rintro e w' ⟨rfl, rfl⟩))
          go_roundw
          case rel => exact ⟨_, k + 1, rfl, by go_num, by omega, by first | trivial | rfl⟩
          case measure => simp [intOf]; omega
      · go_wp2_with fail
        go_ret
        exact ⟨n, rfl, hB1⟩

end Go.Proofs.YtempjhgajcdibaaDoor

/- The drawing kit: l7Draw, l7Wrong. -/
namespace Go.Proofs.YtempjhgajcdibaaDoor
open Go.RowKit Go.BigFrame AG

theorem infoSy : (Tryd.prog.info? 25).map (fun i => (i.zero, i.size, i.bytes)) = some (some (.agg #[.int .i64 0, .int .i64 0, .slice none 0 0]), 3, 40) := by kernel_rfl

/-- A system and where its edges lie. -/
structure SyV where
  s : Sy
  A : Option Addr
  c : Nat
def sysCells : List SyV → List Value
  | [] => []
  | x :: xs => .int .i64 x.s.al :: .int .i64 x.s.st :: .slice x.A x.s.es.length x.c :: sysCells xs
theorem sysCells_append : ∀ ps qs : List SyV, sysCells (ps ++ qs) = sysCells ps ++ sysCells qs
  | [], _ => rfl
  | p :: ps, qs => by rw [List.cons_append, sysCells, sysCells_append ps qs]; rfl
theorem sysCells_at : ∀ (ps : List SyV) (i : Nat) (h : i < ps.length), (sysCells ps)[i * 3]? = some (.int .i64 ps[i].s.al) ∧ (sysCells ps)[i * 3 + 1]? = some (.int .i64 ps[i].s.st) ∧ (sysCells ps)[i * 3 + 2]? = some (.slice ps[i].A ps[i].s.es.length ps[i].c)
  | p :: ps, 0, _ => ⟨rfl, rfl, rfl⟩
  | p :: ps, i + 1, h => by
    have := sysCells_at ps i (by simpa using h)
    rw [show (i + 1) * 3 = i * 3 + 1 + 1 + 1 from by omega]
    exact this

/-- One system of a list that the call owns: its edges lie apart. -/
structure SyIn (w : World) (R L : Nat) (v : Value) (x : SyV) : Prop where
  le : x.s.es.length ≤ x.c
  top : x.c ≤ 9223372036854775807
  len : x.s.es.length ≤ L
  at_ : EdsAt w w.heap.size x.A x.s.es
  far : 0 < x.s.es.length → ∃ b o, x.A = some ⟨b, o, none⟩ ∧ b < w.heap.size ∧ v.ownBlock ≠ some b ∧ R < b
/-- A list of systems that the call owns. -/
structure LstSt (w wr : World) (R P L : Nat) (v : Value) (xs : List SyV) : Prop where
  own : wr.ownsRow w.heap.size 25 3 v xs.length (sysCells xs)
  each : ∀ x ∈ xs, SyIn wr R L v x
  rd : RdUp wr R P
  keep : KeepB (fun b => b = R) w wr

theorem SyIn.keep {w w' : World} {R L : Nat} {v : Value} {x : SyV} {K : Nat → Prop} (h : SyIn w R L v x) (hk : KeepB K w w') (hK : ∀ b, K b → b = R ∨ v.ownBlock = some b) : SyIn w' R L v x := by
  refine ⟨h.le, h.top, h.len, fun hn => ?_, fun hn => ?_⟩
  · obtain ⟨b, o, hA, hlt, hne, hR⟩ := h.far hn
    obtain ⟨b', o', hA', -, hE⟩ := h.at_ hn
    rw [hA] at hA'
    cases hA'
    have hnb : ¬ K b := fun hk => by rcases hK b hk with e | e; omega; exact hne e
    refine ⟨b, o, hA, Nat.lt_of_lt_of_le hlt hk.size, fun i hi => ?_⟩
    rw [KeepB.cell_ hk hlt hnb, KeepB.cell_ hk hlt hnb, KeepB.cell_ hk hlt hnb]
    exact hE i hi
  · obtain ⟨b, o, hA, hlt, hne, hR⟩ := h.far hn
    exact ⟨b, o, hA, Nat.lt_of_lt_of_le hlt hk.size, hne, hR⟩
theorem LstSt.call {w wr w1 : World} {R P P' L : Nat} {v : Value} {xs : List SyV} (h : LstSt w wr R P L v xs) (hk : KeepB (fun b => b = R) wr w1) (hr : RdUp w1 R P') (hR : R < w.heap.size) : LstSt w w1 R P' L v xs :=
  ⟨own_keep h.own hk (fun g hg => by have := (World.ownsRow.lt h.own g hg).1; omega), fun x hx => (h.each x hx).keep hk fun _ e => .inl e, hr, h.keep.trans hk⟩
theorem LstSt.later {w wr w1 : World} {R P L : Nat} {v : Value} {xs : List SyV} (h : LstSt w wr R P L v xs) (hb : Below wr.heap.size wr w1) (hR : R < w.heap.size) : LstSt w w1 R P L v xs := h.call (KeepB.of_below hb) (h.rd.later hb) hR
theorem LstSt.more {w wr : World} {R P P' L L' : Nat} {v : Value} {xs : List SyV} (h : LstSt w wr R P L v xs) (hP : P ≤ P') (hL : L ≤ L') : LstSt w wr R P' L' v xs :=
  ⟨h.own, fun x hx => ⟨(h.each x hx).le, (h.each x hx).top, by have := (h.each x hx).len; omega, (h.each x hx).at_, (h.each x hx).far⟩, h.rd.more hP, h.keep⟩
theorem LstSt.add {w wr w1 : World} {R P L : Nat} {v v' : Value} {xs : List SyV} {x : SyV} (h : LstSt w wr R P L v xs) (hR : R < w.heap.size) (hx : SyIn wr R L v x)
    (hown : w1.ownsRow w.heap.size 25 3 v' (xs.length + 1) (sysCells xs ++ [.int .i64 x.s.al, .int .i64 x.s.st, .slice x.A x.s.es.length x.c])) (hg : wr.grownBy w1 v.ownBlock) (hat : v'.ownBlock = v.ownBlock ∨ v'.ownBlock = some wr.heap.size) :
    LstSt w w1 R P L v' (xs ++ [x]) := by
  have hv : ∀ k, v.ownBlock = some k → w.heap.size ≤ k := fun k hk => (World.ownsRow.lt h.own k hk).1
  have k1 : KeepB (fun b => v.ownBlock = some b) wr w1 := (KeepB.refl _ wr).grown hg (fun k hk _ => hk)
  have key : ∀ y, SyIn wr R L v y → SyIn w1 R L v' y := fun y hy => by
    have h1 := hy.keep k1 fun b hb => .inr hb
    refine ⟨h1.le, h1.top, h1.len, h1.at_, fun hn => ?_⟩
    obtain ⟨b, o, hA, hlt, hne, hRb⟩ := hy.far hn
    refine ⟨b, o, hA, Nat.lt_of_lt_of_le hlt k1.size, ?_, hRb⟩
    rcases hat with e | e
    · rw [e]; exact hne
    · rw [e]; intro e'; injection e' with e'; omega
  refine ⟨?_, fun y hy => ?_, h.rd.keep k1 (fun k hk => by have := hv k hk; omega), h.keep.grown hg (fun k hk hlt => by have := hv k hk; omega)⟩
  · have e : (xs ++ [x]).length = xs.length + 1 := by simp
    rw [e, sysCells_append]
    exact hown
  · rcases List.mem_append.1 hy with hy | hy
    · exact key y (h.each y hy)
    · rw [List.mem_singleton.1 hy]; exact key x hx
/-- A system that has just been drawn. -/
theorem SyIn.new {w wr w1 : World} {R P L : Nat} {v : Value} {xs : List SyV} {s : Sy} {A : Option Addr} {c : Nat} (h : LstSt w wr R P L v xs) (h1 : s.es.length ≤ c) (h2 : c ≤ 9223372036854775807) (h3 : s.es.length ≤ L) (h4 : EdsAt w1 w1.heap.size A s.es) (h5 : FreshA wr.heap.size A) (hR : R < w.heap.size) : SyIn w1 R L v ⟨s, A, c⟩ :=
  ⟨h1, h2, h3, h4, fun hn => by
    obtain ⟨b, o, hA, hlt, -⟩ := h4 hn
    have h6 := h5 b o hA
    have h7 := h.keep.size
    exact ⟨b, o, hA, hlt, fun e => by have := (World.ownsRow.lt h.own b e).2; omega, by omega⟩⟩
theorem LstSt.read {w wr : World} {R P L : Nat} {v : Value} {xs : List SyV} (h : LstSt w wr R P L v xs) : ∃ A c, v = .slice A xs.length c ∧ xs.length ≤ c ∧ c ≤ 9223372036854775807 ∧ SysAt wr wr.heap.size A (xs.map (·.s)) := by
  by_cases hn : xs.length = 0
  · obtain ⟨A, c, hv, h1, h2⟩ := own_slice h.own
    exact ⟨A, c, hv, h1, h2, fun hl => by simp at hl; omega⟩
  · obtain ⟨g, cap, hv, h1, h2, h3, h4, h5⟩ := own_shape h.own (by omega)
    refine ⟨_, cap, hv, h3, h4, fun _ => ⟨g, 0, rfl, h2, fun i hi => ?_⟩⟩
    have hi' : i < xs.length := by simpa using hi
    obtain ⟨a0, a1, a2⟩ := sysCells_at xs i hi'
    have hx := h.each xs[i] (List.getElem_mem _)
    simp only [List.getElem_map, Nat.zero_add]
    exact ⟨h5 _ _ a0, h5 _ _ a1, xs[i].A, xs[i].c, h5 _ _ a2, hx.le, hx.top, hx.at_⟩

def LsUp (w0 : World) (R P L : Nat) (e : Ending) (w' : World) : Prop := ∃ v xs, e = .returned v ∧ xs.length ≤ 10 ∧ LstSt w0 w' R P L v xs

set_option maxRecDepth 100000 in
set_option maxHeartbeats 8000000 in
theorem l7Draw_up (R P : Nat) (w : World) (hP : P + 3000000 ≤ 1125899906842624) (hr : RdUp w R P) :
    Calls Tryd.prog 60 #[.pointer (some ⟨R, 0, none⟩)] w fun e w' => ∃ v xs, e = .returned v ∧ 1 ≤ xs.length ∧ xs.length ≤ 3 ∧ LstSt w w' R (P + 30000) 1536 v xs := by
  obtain ⟨i0, hi, hz0, hz1, hz2⟩ := info_parts infoSy
  have hR := hr.lt
  have h0 : LstSt w (w.alloc (.cells #[] 25)) R P 1536 (.slice (some ⟨w.heap.size, 0, none⟩) 0 0) [] :=
    ⟨⟨rfl, .inr ⟨w.heap.size, 0, #[], rfl, Nat.le_refl _, heap_alloc_self _ _, Nat.le_refl _, Nat.zero_le _, rfl, rfl⟩⟩, fun x hx => (by cases hx), hr.later ((Below.refl _ _).alloc (Nat.le_refl _) _), (KeepB.refl _ _).alloc _⟩
  generalize hw0 : w.alloc (.cells #[] 25) = w0 at h0
  replace hr := hid hr
  replace h0 := hid h0
  go_enter Tryd.func60, Tryd.ntmps60
  go_wp2_with fail
  refine (num_lit R P [2, 2, 3, 1] w0 _ (by decide) (by decide) (by omega) h0.out.rd).mono ?_
  rintro e w1 ⟨n, hn, rfl, hr1, hk1⟩
  have hn1 : 1 ≤ n ∧ n ≤ 3 := by simp at hn; omega
  obtain ⟨m, rfl⟩ := Int.eq_ofNat_of_zero_le (show 0 ≤ n by omega)
  have h1 := hid (h0.out.call hk1 hr1 hR)
  clear hn hr1 hk1 h0 hw0
  have hm1 : 1 ≤ m ∧ m ≤ 3 := by omega
  go_wp2_with fail
  go_loopw [3, 4] (fun v i wr => ∃ (k : Nat) (xs : List SyV), i = .int .i64 k ∧ k + xs.length = m ∧ LstSt w wr R (P + 1 + xs.length * 5000) 1536 v xs) (fun _ i _ => (intOf i).toNat)
  case atStart => exact ⟨m, [], rfl, by simp, h1.out⟩
  case round =>
    obtain ⟨k, xs, rfl, hk, hs⟩ := hrel
    by_cases hk0 : 0 < k
    · have hs' := hid hs
      clear hs
      have hk0' : (0 : Int) < (k : Int) := by omega
      go_wp2_with fail
      refine (l2Small_up R (P + 1 + xs.length * 5000) wr (by omega) hs'.out.rd).mono ?_
      rintro e w2 ⟨s, A, c, rfl, a1, a2, a3, a4, a5, a6, a7⟩
      unfold Sy.val
      have h2 := hid (hs'.out.call a7 a6 hR)
      have hx2 := hid (SyIn.new hs'.out a1 a2 a3 a4 a5 hR)
      have hkr2 := hid a7
      have hz7 := a7.size
      clear a4 a5 a6 a7
      have hnb := Blk.new w2 25 #[.int .i64 s.al, .int .i64 s.st, .slice A s.es.length c]
      have hba : Below w2.heap.size w2 (w2.alloc (.cells #[.int .i64 s.al, .int .i64 s.st, .slice A s.es.length c] 25)) := (Below.refl _ _).alloc (Nat.le_refl _) _
      have hbs : w2.heap.size < (w2.alloc (.cells #[.int .i64 s.al, .int .i64 s.st, .slice A s.es.length c] 25)).heap.size := by simp
      generalize hwa : w2.alloc (.cells #[.int .i64 s.al, .int .i64 s.st, .slice A s.es.length c] 25) = wa at hnb hba hbs
      have h3 := hid (h2.out.later hba hR)
      have hx3 := hid (hx2.out.keep (KeepB.of_below (K := fun b => b = R) hba) fun _ e => .inl e)
      have hbg : w.heap.size ≤ w2.heap.size := h2.out.keep.size
      clear h2 hx2
      go_wp2_with fail
      refine (pick_up R (P + 1 + xs.length * 5000 + 2000) 3 wa (by omega) (by omega) h3.out.rd).mono ?_
      rintro e w3 ⟨j, rfl, hj0, hj1, hr4, hk4⟩
      have h4 := hid (h3.out.call hk4 hr4 hR)
      have hx4 := hid (hx3.out.keep hk4 fun _ e => .inl e)
      have hnb4 := hid (hnb.keep hk4 (by omega))
      have hk4s := hk4.size
      have hkr4 : KeepB (fun b => b = R) wr w3 := ((hkr2.out.trans (KeepB.of_below hba)).trans hk4)
      clear hr4 hk4 h3 hx3 hj1 hwa hba hnb
      by_cases hj : j = 0
      · subst hj
        go_wp2_with fail
        refine (l2Draw_up R (P + 1 + xs.length * 5000 + 2001) w3 (by omega) h4.out.rd).mono ?_
        rintro e w5 ⟨s', A', c', rfl, a1, a2, a3, a4, a5, a6, a7⟩
        unfold Sy.val
        have h5 := hid (h4.out.call a7 a6 hR)
        have hx5 := SyIn.new h4.out a1 a2 a3 a4 a5 hR
        have hnb5 := hnb4.out.keep a7 (by omega)
        have hlt5 := hnb5.lt
        have d0 := hnb5.cell 0
        have d1 := hnb5.cell 1
        have d2 := hnb5.cell 2
        have f0 := hnb5.frozen 0
        have f1 := hnb5.frozen 1
        have f2 := hnb5.frozen 2
        simp only [List.getElem?_toArray, List.getElem?_cons_zero, List.getElem?_cons_succ] at d0 d1 d2
        have hsz5 := a7.size
        have hkr5 : KeepB (fun b => b = R) wr w5 := (hkr4.trans a7)
        have hE5 := hid a4
        have hF5 := hid a5
        clear a4 a5 a6 a7 h4 hx4 hnb4
        obtain ⟨w6, hw6⟩ : ∃ w6, ((w5.setCell ⟨w2.heap.size, 0, none⟩ (.int .i64 s'.al)).setCell ⟨w2.heap.size, 1, none⟩ (.int .i64 s'.st)).setCell ⟨w2.heap.size, 2, none⟩ (.slice A' s'.es.length c') = w6 := ⟨_, rfl⟩
        have hb6 : Blk w6 w2.heap.size 25 #[.int .i64 s'.al, .int .i64 s'.st, .slice A' s'.es.length c'] := by
          rw [← hw6]
          simpa using ((hnb5.set_ 0 (.int .i64 s'.al)).set_ 1 (.int .i64 s'.st)).set_ 2 (.slice A' s'.es.length c')
        have hkw : KeepB (fun b => b = R) wr w6 := by
          rw [← hw6]
          exact (((hkr5.setCell _ _ (by simp; omega)).setCell _ _ (by simp; omega)).setCell _ _ (by simp; omega))
        have hkk : KeepB (fun b => b = w2.heap.size) w5 w6 := by
          rw [← hw6]
          exact (((KeepB.refl _ w5).setCell _ _ (by simp)).setCell _ _ (by simp)).setCell _ _ (by simp)
        have hE6 : EdsAt w6 w6.heap.size A' s'.es := by
          rw [← hw6]
          have hne : ∀ b o, A' = some ⟨b, o, none⟩ → 0 < s'.es.length → b ≠ w2.heap.size := fun b o hA _ => by have := hF5.out b o hA; omega
          simpa [World.setCell] using ((hE5.out.stored _ hne).stored _ hne).stored _ hne
        have hs6 := hid (hs'.out.call hkw (h5.out.rd.keep hkk (by omega)) hR)
        have hx6 := hid (SyIn.new (w1 := w6) hs'.out a1 a2 a3 hE6 (fun b o hA => by have := hF5.out b o hA; omega) hR)
        replace hb6 := hid hb6
        clear hkw hkk hE6 hnb5 h5 hx5
        have c0 := hb6.out.cell 0
        have c1 := hb6.out.cell 1
        have c2 := hb6.out.cell 2
        simp only [List.getElem?_toArray, List.getElem?_cons_zero, List.getElem?_cons_succ] at c0 c1 c2
        have hgl := hb6.out.lt
        have hown := hid hs6.out.own
        go_wp2_with (at_builtin; refine wpList_append_own_at _ (by rfl) _ _ 31 (by rfl) w.heap.size 25 i0 (.agg #[.int .i64 0, .int .i64 0, .slice none 0 0]) 3 40 Tryd.underlying31 hi hz0 hz1 hz2 rfl (by decide) _ xs.length (sysCells xs) (by rfl) (hown.out.alloc _) ⟨w6.heap.size, 0, none⟩ 1 1 [.int .i64 s'.al, .int .i64 s'.st, .slice A' s'.es.length c'] (by rfl) (by rfl) (World.news_of_block (heap_alloc_new w6 _)) ?c1 ?c3 ?c4 ?c5 ?_)
        case c1 => simp [Value.oneCell']
        case c3 => unfold maxLen; omega
        case c4 => omega
        case c5 => have := hs6.out.keep.size; simp; omega
        intro v9 w9 hown9 hgrow9 hnil9 hat9
        have hL := hs6.out.later ((Below.refl _ w6).alloc (Nat.le_refl _) (.cells #[.int .i64 s'.al, .int .i64 s'.st, .slice A' s'.es.length c'] 25)) hR
        have hX := hx6.out.keep (KeepB.of_below (K := fun b => b = R) ((Below.refl _ w6).alloc (Nat.le_refl _) (.cells #[.int .i64 s'.al, .int .i64 s'.st, .slice A' s'.es.length c'] 25))) fun _ e => .inl e
        have hfin := hid ((hL.add hR hX hown9 hgrow9 (by rw [World.size_alloc]; exact hat9)).more (P' := P + 1 + (xs.length + 1) * 5000) (L' := 1536) (by omega) (by omega))
        clear hown9 hgrow9 hnil9 hat9 hL hX c0 c1 c2
        go_wp2_with fail
        go_roundw
        case rel => exact ⟨k - 1, xs ++ [⟨s', A', c'⟩], by go_num, by simp; omega, by rw [show (xs ++ [(⟨s', A', c'⟩ : SyV)]).length = xs.length + 1 from by simp]; exact hfin.out⟩
        case measure => simp [intOf]; omega
      · have hjb : ((j : Int) == 0) = false := by simpa using hj
        replace hj := hid hj
        have c0 := hnb4.out.cell 0
        have c1 := hnb4.out.cell 1
        have c2 := hnb4.out.cell 2
        simp only [List.getElem?_toArray, List.getElem?_cons_zero, List.getElem?_cons_succ] at c0 c1 c2
        have hgl := hnb4.out.lt
        have hown := hid h4.out.own
        go_wp2_with (at_builtin; refine wpList_append_own_at _ (by rfl) _ _ 31 (by rfl) w.heap.size 25 i0 (.agg #[.int .i64 0, .int .i64 0, .slice none 0 0]) 3 40 Tryd.underlying31 hi hz0 hz1 hz2 rfl (by decide) _ xs.length (sysCells xs) (by rfl) (hown.out.alloc _) ⟨w3.heap.size, 0, none⟩ 1 1 [.int .i64 s.al, .int .i64 s.st, .slice A s.es.length c] (by rfl) (by rfl) (World.news_of_block (heap_alloc_new w3 _)) ?c1 ?c3 ?c4 ?c5 ?_)
        case c1 => simp [Value.oneCell']
        case c3 => unfold maxLen; omega
        case c4 => omega
        case c5 => have := h4.out.keep.size; simp; omega
        intro v9 w9 hown9 hgrow9 hnil9 hat9
        have hL := h4.out.later ((Below.refl _ w3).alloc (Nat.le_refl _) (.cells #[.int .i64 s.al, .int .i64 s.st, .slice A s.es.length c] 25)) hR
        have hX := hx4.out.keep (KeepB.of_below (K := fun b => b = R) ((Below.refl _ w3).alloc (Nat.le_refl _) (.cells #[.int .i64 s.al, .int .i64 s.st, .slice A s.es.length c] 25))) fun _ e => .inl e
        have hfin := hid ((hL.add hR hX hown9 hgrow9 (by rw [World.size_alloc]; exact hat9)).more (P' := P + 1 + (xs.length + 1) * 5000) (L' := 1536) (by omega) (by omega))
        clear hown9 hgrow9 hnil9 hat9 hL hX c0 c1 c2
        go_wp2_with fail
        go_roundw
        case rel => exact ⟨k - 1, xs ++ [⟨s, A, c⟩], by go_num, by simp; omega, by rw [show (xs ++ [(⟨s, A, c⟩ : SyV)]).length = xs.length + 1 from by simp]; exact hfin.out⟩
        case measure => simp [intOf]; omega
    · obtain rfl : k = 0 := by omega
      go_wp2_with fail
      go_ret
      exact ⟨_, xs, rfl, by omega, by omega, hs.more (by omega) (by omega)⟩

end Go.Proofs.YtempjhgajcdibaaDoor

/- The drawing kit: l7Wrong, DrawPartsAlphabet. -/
namespace Go.Proofs.YtempjhgajcdibaaDoor
open Go.RowKit Go.BigFrame AG

def sliceLen : Value → Nat
  | .slice _ n _ => n
  | _ => 0

theorem sysCells_set0 : ∀ (xs : List SyV) (x : SyV), 0 < xs.length → (((sysCells xs).set 0 (.int .i64 x.s.al)).set 1 (.int .i64 x.s.st)).set 2 (.slice x.A x.s.es.length x.c) = sysCells (xs.set 0 x)
  | [], _, h => by simp at h
  | y :: ys, x, _ => rfl

/-- The first system of a list is replaced. -/
theorem LstSt.put {w wr : World} {R P L g c : Nat} {xs : List SyV} {x : SyV} (h : LstSt w wr R P L (.slice (some ⟨g, 0, none⟩) xs.length c) xs) (hR : R < w.heap.size) (hn : 0 < xs.length) (hx : SyIn wr R L (.slice (some ⟨g, 0, none⟩) xs.length c) x) :
    LstSt w (((wr.setCell ⟨g, 0, none⟩ (.int .i64 x.s.al)).setCell ⟨g, 1, none⟩ (.int .i64 x.s.st)).setCell ⟨g, 2, none⟩ (.slice x.A x.s.es.length x.c)) R P L (.slice (some ⟨g, 0, none⟩) xs.length c) (xs.set 0 x) := by
  have hg := World.ownsRow.lt h.own g rfl
  have s1 := (World.ownsRow.stored h.own 0 (.int .i64 x.s.al)).1
  have s2 := (World.ownsRow.stored s1 1 (.int .i64 x.s.st)).1
  have s3 := (World.ownsRow.stored s2 2 (.slice x.A x.s.es.length x.c)).1
  rw [sysCells_set0 xs x hn] at s3
  have hk : KeepB (fun b => b = g) wr (((wr.setCell ⟨g, 0, none⟩ (.int .i64 x.s.al)).setCell ⟨g, 1, none⟩ (.int .i64 x.s.st)).setCell ⟨g, 2, none⟩ (.slice x.A x.s.es.length x.c)) := (((KeepB.refl _ wr).setCell _ _ (by simp)).setCell _ _ (by simp)).setCell _ _ (by simp)
  have hk2 : ∀ b, b = g → b = R ∨ (Value.slice (some ⟨g, 0, none⟩) xs.length c).ownBlock = some b := fun b hb => .inr (by rw [hb]; rfl)
  refine ⟨by rw [List.length_set]; exact s3, fun y hy => ?_, h.rd.keep hk (by omega), ((h.keep.setCell _ _ (by simp; omega)).setCell _ _ (by simp; omega)).setCell _ _ (by simp; omega)⟩
  rcases List.mem_or_eq_of_mem_set hy with hy | rfl
  · exact (h.each y hy).keep hk hk2
  · exact hx.keep hk hk2

set_option maxRecDepth 100000 in
set_option maxHeartbeats 8000000 in
theorem l7Wrong_up (R P : Nat) (v : Value) (xs : List SyV) (wo w : World) (hP : P + 5000000 ≤ 1125899906842624) (hR : R < wo.heap.size) (hn1 : 1 ≤ xs.length) (hn3 : xs.length ≤ 3) (hs : LstSt wo w R P 1536 v xs) :
    Calls Tryd.prog 64 #[.pointer (some ⟨R, 0, none⟩), v] w (LsUp wo R (P + 2000000) 2000) := by
  obtain ⟨i0, hi, hz0, hz1, hz2⟩ := info_parts infoSy
  obtain ⟨Av, cv, hve, hc1, hc2⟩ := own_slice hs.own
  subst hve
  replace hs := hid hs
  go_enter Tryd.func64, Tryd.ntmps64
  go_wp2_with fail
  refine (pick_up R P 20 w (by omega) (by omega) hs.out.rd).mono ?_
  rintro e w1 ⟨j, rfl, hj0, hj1, hr1, hk1⟩
  have h1 := hid (hs.out.call hk1 hr1 hR)
  clear hr1 hk1 hs hj0 hj1
  by_cases hj : j = 0
  · subst hj
    go_wp2_with fail
    go_ret
    have hz := h1.out.keep.size
    exact ⟨_, [], rfl, by simp, ⟨⟨rfl, .inr ⟨w1.heap.size, 0, #[], rfl, hz, heap_alloc_self _ _, Nat.le_refl _, Nat.zero_le _, rfl, rfl⟩⟩, fun x hx => (by cases hx), (h1.out.rd.later ((Below.refl _ _).alloc (Nat.le_refl _) _)).more (by omega), h1.out.keep.alloc _⟩⟩
  · have hjb : ((j : Int) == 0) = false := by simpa using hj
    replace hj := hid hj
    by_cases hj1 : j = 1
    · subst hj1
      go_wp2_with fail
      go_loopw [1] (fun v wr => ∃ (ys : List SyV) (A : Option Addr) (c : Nat), v = .slice A ys.length c ∧ 1 ≤ ys.length ∧ ys.length ≤ 4 ∧ LstSt wo wr R (P + 1 + ys.length * 5000) 1536 v ys) (fun v _ => 4 - sliceLen v)
      case atStart => exact ⟨xs, Av, cv, rfl, by omega, by omega, h1.out.more (by omega) (by omega)⟩
      case round =>
        clear h1
        obtain ⟨ys, A, c, rfl, hy1, hy4, h1⟩ := hrel
        replace h1 := hid h1
        by_cases hlt : ys.length ≤ 3
        · have hlt' : (ys.length : Int) ≤ 3 := by omega
          go_wp2_with fail
          refine (l2Small_up R (P + 1 + ys.length * 5000) wr (by omega) h1.out.rd).mono ?_
          rintro e w2 ⟨s, A2, c2, rfl, a1, a2, a3, a4, a5, a6, a7⟩
          unfold Sy.val
          have h2 := hid (h1.out.call a7 a6 hR)
          have hx2 := hid (SyIn.new h1.out a1 a2 a3 a4 a5 hR)
          clear a4 a5 a6 a7
          have hown := hid h2.out.own
          go_wp2_with (at_builtin; refine wpList_append_own_at _ (by rfl) _ _ 31 (by rfl) wo.heap.size 25 i0 (.agg #[.int .i64 0, .int .i64 0, .slice none 0 0]) 3 40 Tryd.underlying31 hi hz0 hz1 hz2 rfl (by decide) _ ys.length (sysCells ys) (by rfl) (hown.out.alloc _) ⟨w2.heap.size, 0, none⟩ 1 1 [.int .i64 s.al, .int .i64 s.st, .slice A2 s.es.length c2] (by rfl) (by rfl) (World.news_of_block (heap_alloc_new w2 _)) ?c1 ?c3 ?c4 ?c5 ?_)
          case c1 => simp [Value.oneCell']
          case c3 => unfold maxLen; omega
          case c4 => omega
          case c5 => have := h2.out.keep.size; simp; omega
          intro v9 w9 hown9 hgrow9 hnil9 hat9
          have hL := h2.out.later ((Below.refl _ w2).alloc (Nat.le_refl _) (.cells #[.int .i64 s.al, .int .i64 s.st, .slice A2 s.es.length c2] 25)) hR
          have hX := hx2.out.keep (KeepB.of_below (K := fun b => b = R) ((Below.refl _ w2).alloc (Nat.le_refl _) (.cells #[.int .i64 s.al, .int .i64 s.st, .slice A2 s.es.length c2] 25))) fun _ e => .inl e
          obtain ⟨A9, c9, hv9, -, -⟩ := own_slice hown9
          subst hv9
          have hfin := hid ((hL.add hR hX hown9 hgrow9 (by rw [World.size_alloc]; exact hat9)).more (P' := P + 1 + (ys.length + 1) * 5000) (L' := 1536) (by omega) (by omega))
          clear hown9 hgrow9 hnil9 hat9 hL hX
          have hyl : (ys ++ [(⟨s, A2, c2⟩ : SyV)]).length = ys.length + 1 := by simp
          replace hyl := hid hyl
          go_wp2_with fail
          go_roundw
          case rel => exact ⟨ys ++ [⟨s, A2, c2⟩], A9, c9, by rw [hyl.out], by rw [hyl.out]; omega, by rw [hyl.out]; omega, by rw [hyl.out]; exact hfin.out⟩
          case measure => simp [sliceLen]; omega
        · have hlt' : (3 : Int) < (ys.length : Int) := by omega
          go_wp2_with fail
          go_ret
          exact ⟨_, ys, rfl, by omega, h1.out.more (by omega) (by omega)⟩
    · have hjb1 : ((j : Int) == 1) = false := by simpa using hj1
      replace hj1 := hid hj1
      by_cases hj2 : j = 2
      · subst hj2
        obtain ⟨g, cap, hve, hg1, hg2, -, -, -⟩ := own_shape h1.out.own (by omega)
        cases hve
        obtain ⟨e0, e1, e2⟩ := sysCells_at xs 0 (by omega)
        have r0 := World.ownsRow.cellAt h1.out.own 0 (by omega)
        have r1 := World.ownsRow.cellAt h1.out.own 1 (by omega)
        have r2 := World.ownsRow.cellAt h1.out.own 2 (by omega)
        simp only [Nat.zero_mul, Nat.zero_add] at e0 e1 e2
        rw [e0] at r0
        rw [e1] at r1
        rw [e2] at r2
        have hx0 := h1.out.each xs[0] (List.getElem_mem _)
        obtain ⟨x, hx⟩ : ∃ x, x = xs[0] := ⟨_, rfl⟩
        rw [← hx] at r0 r1 r2 hx0
        obtain ⟨s, A, c⟩ := x
        clear e0 e1 e2 hx
        have i1 : (0 : Int) < (xs.length : Int) := by omega
        have b1 := hx0.le
        have b2 := hx0.top
        have b3 := hx0.len
        have b4 := hid hx0.at_
        simp only at r0 r1 r2 b1 b2 b3 b4
        clear hx0
        go_wp2_with fail
        clear r0 r1 r2
        refine (l2Wrong_up R (P + 1) 1536 s A c w1 (by omega) b1 b2 b3 (by omega) b4.out h1.out.rd).mono ?_
        rintro e w2 ⟨s2, A2, c2, rfl, a1, a2, a3, a4, a5, a6, a7⟩
        have h2 := hid (h1.out.call a7 a6 hR)
        replace a4 := hid a4
        replace a7 := hid a7
        clear a5 a6 b1 b2 b3 b4
        go_wp2_with fail
        refine (l2Wrong_up R (P + 1 + 400000) 1537 s2 A2 c2 w2 (by omega) a1 a2 a3 (by omega) a4.out h2.out.rd).mono ?_
        rintro e w3 ⟨s3, A3, c3, rfl, d1, d2, d3, d4, d5, d6, d7⟩
        have h3 := hid (h2.out.call d7 d6 hR)
        replace d4 := hid d4
        replace d7 := hid d7
        clear d5 d6 a1 a2 a3 a4
        go_wp2_with fail
        refine (l2Wrong_up R (P + 1 + 400000 + 400000) 1538 s3 A3 c3 w3 (by omega) d1 d2 d3 (by omega) d4.out h3.out.rd).mono ?_
        rintro e w4 ⟨s4, A4, c4, rfl, f1, f2, f3, f4, f5, f6, f7⟩
        unfold Sy.val
        have h4 := hid ((h3.out.call f7 f6 hR).more (P' := P + 2000000) (L' := 2000) (by omega) (by omega))
        have hX := hid (SyIn.new (h3.out.more (Nat.le_refl _) (by omega : 1536 ≤ 2000)) f1 f2 (by omega) f4 f5 hR)
        clear f4 f5 f6 d1 d2 d3 d4 h3 h2 h1
        have m0 := World.ownsRow.cellAt h4.out.own 0 (by omega)
        have m1 := World.ownsRow.cellAt h4.out.own 1 (by omega)
        have m2 := World.ownsRow.cellAt h4.out.own 2 (by omega)
        obtain ⟨e0, e1, e2⟩ := sysCells_at xs 0 (by omega)
        simp only [Nat.zero_mul, Nat.zero_add] at e0 e1 e2
        rw [e0] at m0
        rw [e1] at m1
        rw [e2] at m2
        have n0 := World.ownsRow.frozenAt h4.out.own 0
        have n1 := World.ownsRow.frozenAt h4.out.own 1
        have n2 := World.ownsRow.frozenAt h4.out.own 2
        have hfin := hid (h4.out.put hR (by omega) hX.out)
        simp only at hfin
        have hlt4 := (World.ownsRow.lt h4.out.own g rfl).2
        clear e0 e1 e2
        go_wp2_with fail
        go_ret
        exact ⟨_, xs.set 0 ⟨s4, A4, c4⟩, rfl, by simp; omega, hfin.out⟩
      · have hjb2 : ((j : Int) == 2) = false := by simpa using hj2
        replace hj2 := hid hj2
        go_wp2_with fail
        go_ret
        exact ⟨_, xs, rfl, by omega, h1.out.more (by omega) (by omega)⟩

def DrawSys (w : World) (e : Ending) (w' : World) : Prop := ∃ (ss : List Sy) (A : Option Addr) (c : Nat), e = .returned (.slice A ss.length c) ∧ ss.length ≤ c ∧ c ≤ 9223372036854775807 ∧ ss.length ≤ 10 ∧ SysAt w' w'.heap.size A ss ∧ Below w.heap.size w w'

set_option maxHeartbeats 2000000 in
theorem drawPartsAlphabet_any (A : Option Addr) (n c : Nat) (w : World) (hn : n ≤ c) (hc : c ≤ 9223372036854775807) (hx : CodeAt w A n) :
    Calls Tryd.prog 111 #[.slice A n c] w (DrawSys w) := by
  replace hx := hid hx
  go_enter Tryd.func111, Tryd.ntmps111
  go_wp2_with fail
  refine (l19Open_any A n c w hn hc hx.out).mono ?_
  rintro e w1 ⟨R, rfl, hR, hr1, hb1⟩
  replace hr1 := hid hr1
  have hR1 := hr1.out.lt
  go_wp2_with fail
  refine (l7Draw_up R 0 w1 (by omega) hr1.out).mono ?_
  rintro e w2 ⟨v, xs, rfl, h1, h3, hs⟩
  replace hs := hid hs
  go_wp2_with fail
  refine (l7Wrong_up R (0 + 30000) v xs w1 w2 (by omega) hR1 h1 h3 hs.out).mono ?_
  rintro e w3 ⟨v', ys, rfl, hl, hs'⟩
  obtain ⟨A', c', rfl, b1, b2, b3⟩ := hs'.read
  have hk := hs'.keep
  clear hs'
  replace b3 := hid b3
  go_wp2_with fail
  go_ret
  refine ⟨ys.map (·.s), A', c', by simp, by simpa using b1, b2, by simpa using hl, b3.out, ?_⟩
  exact KeepB.below hb1 hk hb1.size (fun k hk => by omega)


end Go.Proofs.YtempjhgajcdibaaDoor

/- Lists of systems: the program's areParts. -/
namespace Go.Proofs.YtempjhgajcdibaaDoor
open Go.RowKit Go.BigFrame AG

set_option maxHeartbeats 400000 in
theorem areParts1_any (s : Sy) (A : Option Addr) (c : Nat) (w : World) (hl : s.es.length ≤ c) (hc : c ≤ 9223372036854775807) (hr : EdsAt w w.heap.size A s.es) :
    Calls Tryd.prog 124 #[s.val A c] w fun e w' => e = .returned (.bool (!sysOk s)) ∧ Below w.heap.size w w' := by
  unfold Sy.val
  go_enter Tryd.func124, Tryd.ntmps124
  go_wp2_with fail
  obtain ⟨w0, hw0, hz0, hB0, hS0, hS1, hS2⟩ := boxed3 w (Value.int IntKind.i64 s.al) (Value.int IntKind.i64 s.st) (Value.slice A s.es.length c) 25
  rw [hw0]
  have hr0 := hid ((hr.keep hB0).more (show w.heap.size ≤ w0.heap.size by omega))
  refine (implSystemValid_any s A c w0 hl hc hr0.out).mono ?_
  rintro e w1 ⟨rfl, hb1⟩
  go_wp2
  go_ret
  exact ⟨rfl, hB0.trans (hb1.mono (by omega))⟩

set_option maxHeartbeats 1000000 in
theorem indexFuncSys_any (ss : List Sy) (A : Option Addr) (c : Nat) (w : World) (hl : ss.length ≤ c) (hc : c ≤ 9223372036854775807) (hr : SysAt w w.heap.size A ss) :
    Calls Tryd.prog 160 #[.slice A ss.length c, .func (.func 124) #[] #[]] w (IdxPost (!ss.all sysOk) w) := by
  go_enter Tryd.func160, Tryd.ntmps160
  go_wp2
  go_loopw [8] (fun i wr => ∃ k : Nat, i = .int .i64 k ∧ k ≤ ss.length ∧ (ss.take k).all sysOk = true ∧ Below w.heap.size w wr) (fun i _ => ss.length - (intOf i).toNat)
  case atStart => exact ⟨0, rfl, by omega, by simp, Below.refl _ _⟩
  case round =>
    obtain ⟨k, rfl, hk, hok, hb⟩ := hrel
    by_cases hlt : k < ss.length
    · obtain ⟨b, o, Ai, ci, rfl, hB, c0, c1, c2, hAl, hAc, hAe⟩ := hr.get hlt
      have hts := take_snoc ss k hlt
      have hAe' : EdsAt wr wr.heap.size Ai ss[k].es := (hAe.keep hb).more hb.size
      replace hAe' := hid hAe'
      replace hr := hid hr
      replace hok := hid hok
      replace hts := hid hts
      cases hs : sysOk ss[k]
      · replace hs := hid hs
        go_wp2_with (go_at_call 124; refine (areParts1_any ss[k] Ai ci _ hAl hAc hAe'.out).mono ?_; rintro e w' ⟨rfl, hb'⟩; rw [hs.out])
        go_ret
        refine ⟨k, rfl, ?_, hb.trans (hb'.mono hb.size)⟩
        have : ss.all sysOk = false := by
          rw [List.all_eq_false]
          exact ⟨ss[k], List.getElem_mem _, by rw [hs.out]; simp⟩
        rw [this]
        simp
      · replace hs := hid hs
        go_wp2_with (go_at_call 124; refine (areParts1_any ss[k] Ai ci _ hAl hAc hAe'.out).mono ?_; rintro e w' ⟨rfl, hb'⟩; rw [hs.out])
        go_roundw
        case rel => exact ⟨k + 1, by go_num, by omega, by rw [hts.out, List.all_append, hok.out]; simp [hs.out], hb.trans (hb'.mono hb.size)⟩
        case measure => simp [intOf]; omega
    · replace hok := hid hok
      go_wp2
      go_ret
      refine ⟨-1, rfl, ?_, hb⟩
      have : ss.all sysOk = true := by have := hok.out; rwa [List.take_of_length_le (by omega)] at this
      rw [this]
      simp

set_option maxHeartbeats 400000 in
theorem containsFuncSys_any (ss : List Sy) (A : Option Addr) (c : Nat) (w : World) (hl : ss.length ≤ c) (hc : c ≤ 9223372036854775807) (hr : SysAt w w.heap.size A ss) :
    Calls Tryd.prog 123 #[.slice A ss.length c, .func (.func 124) #[] #[]] w fun e w' => e = .returned (.bool (!ss.all sysOk)) ∧ Below w.heap.size w w' := by
  replace hr := hid hr
  go_enter Tryd.func123, Tryd.ntmps123
  go_wp2_with fail
  refine (indexFuncSys_any ss A c w hl hc hr.out).mono ?_
  rintro e w' ⟨r, rfl, hr', hb⟩
  replace hr' := hid hr'
  go_wp2
  go_ret
  exact ⟨by rw [← hr'.out]; rfl, hb⟩

set_option maxHeartbeats 400000 in
theorem areParts_any (ss : List Sy) (A : Option Addr) (c : Nat) (w : World) (hl : ss.length ≤ c) (hc : c ≤ 9223372036854775807) (hr : SysAt w w.heap.size A ss) :
    Calls Tryd.prog 66 #[.slice A ss.length c] w fun e w' => e = .returned (.bool (partsOk ss)) ∧ Below w.heap.size w w' := by
  replace hr := hid hr
  by_cases h1 : 1 ≤ ss.length
  · by_cases h3 : ss.length ≤ 3
    · go_enter Tryd.func66, Tryd.ntmps66
      go_wp2_with (refine (containsFuncSys_any ss A c w hl hc hr.out).mono ?_; rintro e w' ⟨rfl, hb⟩)
      go_ret
      exact ⟨ret_bool (by unfold partsOk; rw [decide_eq_true ⟨h1, h3⟩]; simp), hb⟩
    · go_enter Tryd.func66, Tryd.ntmps66
      go_wp2
      go_ret
      exact ⟨ret_bool (by unfold partsOk; rw [decide_eq_false (by omega)]; simp), Below.refl _ _⟩
  · go_enter Tryd.func66, Tryd.ntmps66
    go_wp2
    go_ret
    exact ⟨ret_bool (by unfold partsOk; rw [decide_eq_false (by omega)]; simp), Below.refl _ _⟩

end Go.Proofs.YtempjhgajcdibaaDoor
