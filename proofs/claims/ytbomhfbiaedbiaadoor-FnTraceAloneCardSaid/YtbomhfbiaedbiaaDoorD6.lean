/- The drawing kit: texts of alphabets, numbers and edges (their texts are not told, only their sizes). -/
import Derived.Test.YtbomhfbiaedbiaaDoorD4
import Derived.Test.YtbomhfbiaedbiaaDoorW17
import Derived.Test.YtbomhfbiaedbiaaDoorOwn0
import Derived.Deep.AppendLies
namespace Go.Proofs.YtbomhfbiaedbiaaDoor
open Go.RowKit Go.BigFrame AG

def StrPost (N : Nat) (w : World) (e : Ending) (w' : World) : Prop := ∃ x : ByteArray, e = .returned (.string x) ∧ x.size ≤ N ∧ Below w.heap.size w w'

theorem conv_digit (w : World) (d : Nat) (hd : d < 10) :
    (convert 56 9 (.slice (some ⟨w.heap.size, 0, none⟩) 1 1)).run Tryd.prog (w.alloc (Obj.cells #[Value.int IntKind.u8 (48 + (d : Int))] 5)) = .ok (.string ⟨#[UInt8.ofNat (48 + d)]⟩) (w.alloc (Obj.cells #[Value.int IntKind.u8 (48 + (d : Int))] 5)) := by
  have hb : ((UInt8.ofNat (48 + d)).toNat : Int) = 48 + (d : Int) := by
    rw [UInt8.toNat_ofNat']
    omega
  exact run_convert_bytes_back (P := Tryd.prog) _ 56 9 5 ⟨w.heap.size, 0, none⟩ 1 [UInt8.ofNat (48 + d)] Tryd.underlying56 Tryd.underlying5 Tryd.underlying9 (fun j hj => by
      obtain rfl : j = 0 := by simpa using hj
      rw [List.getElem_cons_zero, hb]
      simp [Addr.add])

set_option maxRecDepth 100000 in
set_option maxHeartbeats 1000000 in
theorem l19Dec_any (n : Nat) (hn : n ≤ 1000) (w : World) : Calls Tryd.prog 163 #[.int .i64 n] w (StrPost 1001 w) := by
  go_enter Tryd.func163, Tryd.ntmps163
  go_wp2_with fail
  go_loopw [0, 3] (fun i s wr => ∃ (m : Nat) (x : ByteArray), i = .int .i64 m ∧ s = .string x ∧ x.size + m ≤ 1000 ∧ Below w.heap.size w wr) (fun i _ _ => (intOf i).toNat)
  case atStart => exact ⟨n, ⟨#[]⟩, rfl, rfl, by show 0 + n ≤ 1000; omega, Below.refl _ _⟩
  case round =>
    obtain ⟨m, x, rfl, rfl, hx, hb⟩ := hrel
    have hz := hb.size
    by_cases hm : 9 < m
    · obtain ⟨d, hd⟩ : ∃ d : Nat, d = m % 10 := ⟨_, rfl⟩
      obtain ⟨q, hq⟩ : ∃ q : Nat, q = m / 10 := ⟨_, rfl⟩
      have e1 : (m : Int) % 10 = (d : Int) := by omega
      have e2 : (m : Int) / 10 = (q : Int) := by omega
      have hd10 : d < 10 := by omega
      have hqm : q + 1 ≤ m := by omega
      have kc := conv_digit wr d hd10
      replace hd := hid hd
      replace hq := hid hq
      go_wp2_with fail
      go_roundw
      case rel => exact ⟨q, _, rfl, rfl, by rw [ByteArray.size_append]; show 1 + x.size + q ≤ 1000; omega, hb.alloc hz _⟩
      case measure => simp [intOf]; omega
    · have kc := conv_digit wr m (by omega)
      go_wp2_with fail
      go_ret
      exact ⟨_, rfl, by rw [ByteArray.size_append]; show 1 + x.size ≤ 1001; omega, hb.alloc hz _⟩

set_option maxRecDepth 100000 in
set_option maxHeartbeats 2000000 in
theorem formatAlpha_any (A : Int) (w : World) : Calls Tryd.prog 162 #[.int .i64 A] w (StrPost 6 w) := by
  by_cases ha : alphaOk A = true
  · by_cases h0 : A = 0
    · subst h0
      replace ha := hid ha
      go_enter Tryd.func162, Tryd.ntmps162
      go_wp2_with (go_at_call 70; refine (l1Alphabet_any _ _).mono ?_; rintro e w' ⟨rfl, rfl⟩; rw [ha.out])
      go_ret
      exact ⟨_, rfl, by decide, Below.refl _ _⟩
    · have hb0 : ((A : Int) == 0) = false := by simpa using h0
      replace ha := hid ha
      replace h0 := hid h0
      go_enter Tryd.func162, Tryd.ntmps162
      go_wp2_with (first
        | (go_at_call 70; refine (l1Alphabet_any _ _).mono ?_; rintro e w' ⟨rfl, rfl⟩; rw [ha.out])
        | (go_at_call 52; refine (l1Letters_any _ _).mono ?_; rintro e w2 ⟨lv, rfl, hown, hb2⟩))
      have hl6 := lettersTo_len A 6
      have hll : letters A = lettersTo A 6 := rfl
      rw [← hll] at hl6
      obtain ⟨Al, cl, hvl, hcl, hcl'⟩ := own_slice hown
      subst hvl
      obtain ⟨ls, hls⟩ : ∃ ls, Hid (ls = letters A) := ⟨_, hid rfl⟩
      rw [← hls.out] at hown hl6 hcl
      rw [← hls.out]
      clear hll
      replace hown := hid hown
      go_wp2_with fail
      go_loopw [3, 5] (fun s i wr => ∃ (k : Nat) (x : ByteArray), i = .int .i64 k ∧ s = .string x ∧ x.size = k ∧ k ≤ ls.length ∧ Below w2.heap.size w2 wr) (fun _ i _ => ls.length - (intOf i).toNat)
      case atStart => exact ⟨0, ⟨#[]⟩, rfl, rfl, rfl, by omega, Below.refl _ _⟩
      case round =>
        obtain ⟨k, x, rfl, rfl, hx, hk, hb⟩ := hrel
        replace hx := hid hx
        have hz := hb.size
        by_cases hlt : k < ls.length
        · obtain ⟨g, cap, hve, hg1, hg2, -, -, hL⟩ := own_nats hown.out (by omega)
          injection hve with hv1 hv2 hv3
          subst hv1
          subst hv3
          have l0 := hL k hlt
          obtain ⟨l, hl⟩ : ∃ l : Nat, l = ls[k] := ⟨_, rfl⟩
          have hl6' : l < 6 := by
            have := letters_lt (A := A) (l := l) (by rw [← hls.out, hl]; exact List.getElem_mem _)
            exact this.1
          rw [← hl] at l0
          have l1 : wr.cell? ⟨g, k, none⟩ = some (.int .i64 (l : Nat)) := by rw [hb.cell (by simpa using hg2)]; exact l0
          have k1 : (0 : Int) ≤ (k : Int) ∧ (k : Int) < (ls.length : Int) := by omega
          have hxs : x.size ≤ 6 := by rw [hx.out]; omega
          replace hL := hid hL
          replace hl := hid hl
          clear l0
          go_wp2_with (go_at_call 150; refine (l1Text_any l hl6' _).mono ?_; rintro e w3 ⟨rfl, hb3⟩)
          have hb4 := hb.trans (hb3.mono hz)
          go_roundw
          case rel => exact ⟨k + 1, _, by go_num, rfl, by rw [ByteArray.size_append, hx.out]; rfl, by omega, hb4⟩
          case measure => simp [intOf]; omega
        · have hb4 := hb2.trans (hb.mono hb2.size)
          go_wp2_with fail
          go_ret
          exact ⟨_, rfl, by rw [hx.out]; omega, hb4⟩
  · replace ha : alphaOk A = false := by simpa using ha
    replace ha := hid ha
    go_enter Tryd.func162, Tryd.ntmps162
    go_wp2_with (go_at_call 70; refine (l1Alphabet_any _ _).mono ?_; rintro e w' ⟨rfl, rfl⟩; rw [ha.out])
    go_ret
    exact ⟨_, rfl, by decide, Below.refl _ _⟩

def NumPostB (w : World) (e : Ending) (w' : World) : Prop := ∃ (n : Int) (b : Bool), e = .returned (.tuple #[.int .i64 n, .bool b]) ∧ Below w.heap.size w w'

set_option maxRecDepth 100000 in
set_option maxHeartbeats 1000000 in
theorem parseAlpha_any (s : ByteArray) (w : World) : Calls Tryd.prog 156 #[.string s] w (NumPostB w) := by
  go_enter Tryd.func156, Tryd.ntmps156
  go_wp2_with fail
  go_loopw [4] (fun i wr => ∃ (k : Nat), i = .int .i64 k ∧ k ≤ 64 ∧ Below w.heap.size w wr) (fun i _ => 64 - (intOf i).toNat)
  case atStart => exact ⟨0, rfl, by omega, Below.refl _ _⟩
  case round =>
    obtain ⟨k, rfl, hk, hb⟩ := hrel
    have hz := hb.size
    by_cases hlt : k ≤ 63
    · go_wp2_with (go_at_call 162; refine (formatAlpha_any _ _).mono ?_; rintro e w2 ⟨x, rfl, hx, hb2⟩)
      all_goals have hb3 := hb.trans (hb2.mono hz)
      all_goals first
        | (go_ret2; exact ⟨_, _, rfl, hb3⟩)
        | (go_roundw
           case rel => exact ⟨k + 1, by go_num, by omega, hb3⟩
           case measure => simp [intOf]; omega)
    · go_wp2_with fail
      go_ret2
      exact ⟨_, _, rfl, hb⟩

end Go.Proofs.YtbomhfbiaedbiaaDoor
