/- Lemmas, part 5: several texts in one. -/
import Derived.Test.YtdkjnemakkppfaaDoorH4
import Derived.Test.YtdkjnemakkppfaaDoorH2
import Derived.Deep.AppendLies
import Derived.Test.YtdkjnemakkppfaaDoorH3
import Derived.Laws.OwnMore
import Derived.Deep.DeepCutAuto
import Derived.Test.YtdkjnemakkppfaaDoorCards
import Derived.Test.YtdkjnemakkppfaaDoorTie
import Derived.WalkKit
import Derived.ProofKit
import Derived.OpenShut
import Derived.Deep.DeepHandedRow
import Derived.Lib.LaidTab
import Derived.Stop.LaidErr
set_option linter.unusedSimpArgs false
set_option linter.unusedVariables false

/- The drawing kit: l19Open, num, of. -/
namespace Go.Proofs.YtdkjnemakkppfaaDoor
open Go.RowKit Go.BigFrame AG

theorem KeepB.cell_ {K : Nat → Prop} {w w' : World} (h : KeepB K w w') {p : Addr} (hb : p.block < w.heap.size) (hK : ¬ K p.block) : w'.cell? p = w.cell? p := by
  unfold World.cell?
  rw [h.block _ hb hK]

set_option maxHeartbeats 1000000 in
theorem num_up (R P g o k cap : Nat) (xs : List Int) (w : World) (hxl : xs.length = k) (hk : 0 < k) (hk2 : k ≤ 4294967296) (hP : P < 1125899906842624)
    (hgR : g ≠ R) (hgl : g < w.heap.size) (hxs : ∀ i (h : i < xs.length), w.cell? ⟨g, o + i, none⟩ = some (.int .i64 xs[i])) (hr : RdUp w R P) :
    Calls Tryd.prog 83 #[.pointer (some ⟨R, 0, none⟩), .slice (some ⟨g, o, none⟩) k cap] w fun e w' => ∃ x, x ∈ xs ∧ e = .returned (.int .i64 x) ∧ RdUp w' R (P + 1) ∧ KeepB (fun b => b = R) w w' := by
  replace hr := hid hr
  replace hxs := hid hxs
  go_enter Tryd.func83, Tryd.ntmps83
  go_wp2_with fail
  refine (pick_up R P k w hP (by omega) hr.out).mono ?_
  rintro e w1 ⟨j, rfl, hj0, hj1, hr1, hk1⟩
  obtain ⟨i, rfl⟩ := Int.eq_ofNat_of_zero_le hj0
  have hik : i < xs.length := by omega
  have e1 : w1.cell? ⟨g, o + i, none⟩ = some (.int .i64 xs[i]) := by rw [KeepB.cell_ hk1 (p := ⟨g, o + i, none⟩) hgl hgR]; exact hxs.out i hik
  have hik2 : (i : Int) < (k : Int) := by omega
  replace hr1 := hid hr1
  replace hk1 := hid hk1
  clear hj1
  go_wp2
  go_ret
  exact ⟨_, List.getElem_mem _, rfl, hr1.out, hk1.out⟩

set_option maxHeartbeats 1000000 in
theorem of_up (R P g o k cap : Nat) (xs : List ByteArray) (w : World) (hxl : xs.length = k) (hk : 0 < k) (hk2 : k ≤ 4294967296) (hP : P < 1125899906842624)
    (hgR : g ≠ R) (hgl : g < w.heap.size) (hxs : ∀ i (h : i < xs.length), w.cell? ⟨g, o + i, none⟩ = some (.string xs[i])) (hr : RdUp w R P) :
    Calls Tryd.prog 85 #[.pointer (some ⟨R, 0, none⟩), .slice (some ⟨g, o, none⟩) k cap] w fun e w' => ∃ x, x ∈ xs ∧ e = .returned (.string x) ∧ RdUp w' R (P + 1) ∧ KeepB (fun b => b = R) w w' := by
  replace hr := hid hr
  replace hxs := hid hxs
  go_enter Tryd.func85, Tryd.ntmps85
  go_wp2_with fail
  refine (pick_up R P k w hP (by omega) hr.out).mono ?_
  rintro e w1 ⟨j, rfl, hj0, hj1, hr1, hk1⟩
  obtain ⟨i, rfl⟩ := Int.eq_ofNat_of_zero_le hj0
  have hik : i < xs.length := by omega
  have e1 : w1.cell? ⟨g, o + i, none⟩ = some (.string xs[i]) := by rw [KeepB.cell_ hk1 (p := ⟨g, o + i, none⟩) hgl hgR]; exact hxs.out i hik
  have hik2 : (i : Int) < (k : Int) := by omega
  replace hr1 := hid hr1
  replace hk1 := hid hk1
  clear hj1
  go_wp2
  go_ret
  exact ⟨_, List.getElem_mem _, rfl, hr1.out, hk1.out⟩

/-- The bytes of an argument, below block B. -/
def CodeAt (w : World) (A : Option Addr) (n : Nat) : Prop := 0 < n → ∃ b o, A = some ⟨b, o, none⟩ ∧ b < w.heap.size ∧ ∀ i, i < n → ∃ x : Nat, x < 256 ∧ w.cell? ⟨b, o + i, none⟩ = some (.int .u8 (x : Int))

set_option maxHeartbeats 1000000 in
theorem l19Open_any (A : Option Addr) (n c : Nat) (w : World) (hn : n ≤ c) (hc : c ≤ 9223372036854775807) (hx : 0 < n → ∃ b o, A = some ⟨b, o, none⟩ ∧ b < w.heap.size ∧ ∀ i, i < n → ∃ x : Nat, x < 256 ∧ w.cell? ⟨b, o + i, none⟩ = some (.int .u8 (x : Int))) :
    Calls Tryd.prog 45 #[.slice A n c] w fun e w' => ∃ R, e = .returned (.pointer (some ⟨R, 0, none⟩)) ∧ w.heap.size ≤ R ∧ RdUp w' R 0 ∧ Below w.heap.size w w' := by
  replace hx := hid hx
  by_cases h2 : n ≤ 2000
  · go_enter Tryd.func45, Tryd.ntmps45
    go_wp2
    go_ret
    refine ⟨w.heap.size, rfl, Nat.le_refl _, ⟨A, n, c, 0, Nat.le_refl _, Blk.new w _ _, h2, hn, hc, by omega, fun hpos => ?_⟩, (Below.refl _ _).alloc (Nat.le_refl _) _⟩
    obtain ⟨b, o, hA, hb, hx'⟩ := hx.out hpos
    refine ⟨b, o, hA, hb, fun i hi => ?_⟩
    obtain ⟨x, h1, h3⟩ := hx' i hi
    exact ⟨x, h1, by rw [World.cell?_alloc_lt (h := by simpa using hb)]; exact h3⟩
  · obtain ⟨b, o, rfl, hb, hx'⟩ := hx.out (by omega)
    replace hx' := hid hx'
    go_enter Tryd.func45, Tryd.ntmps45
    go_wp2
    go_ret
    refine ⟨w.heap.size, rfl, Nat.le_refl _, ⟨_, 2000, c, 0, Nat.le_refl _, Blk.new w _ _, Nat.le_refl _, by omega, hc, by omega, fun _ => ⟨b, o, rfl, hb, fun i hi => ?_⟩⟩, (Below.refl _ _).alloc (Nat.le_refl _) _⟩
    obtain ⟨x, h1, h3⟩ := hx'.out i (by omega)
    exact ⟨x, h1, by rw [World.cell?_alloc_lt (h := by simpa using hb)]; exact h3⟩

def NumUp (R P : Nat) (xs : List Int) (w : World) (e : Ending) (w' : World) : Prop := ∃ x, x ∈ xs ∧ e = .returned (.int .i64 x) ∧ RdUp w' R (P + 1) ∧ KeepB (fun b => b = R) w w'
/-- A number out of a list that has just been made. -/
theorem num_lit (R P : Nat) (xs : List Int) (w : World) (T : TypeId) (hk : 0 < xs.length) (hk2 : xs.length ≤ 1000) (hP : P < 1125899906842624) (hr : RdUp w R P) :
    Calls Tryd.prog 83 #[.pointer (some ⟨R, 0, none⟩), .slice (some ⟨w.heap.size, 0, none⟩) xs.length xs.length] (w.alloc (.cells (xs.map (Value.int .i64)).toArray T)) (NumUp R P xs w) := by
  have hR := hr.lt
  have hb : Below w.heap.size w (w.alloc (.cells (xs.map (Value.int .i64)).toArray T)) := (Below.refl _ _).alloc (Nat.le_refl _) _
  refine (num_up R P w.heap.size 0 xs.length xs.length xs _ rfl hk (by omega) hP (by omega) (by simp) (fun i h => ?_) (hr.later hb)).mono fun e w' ⟨x, h1, h2, h3, h4⟩ => ⟨x, h1, h2, h3, (KeepB.of_below hb).trans h4⟩
  rw [Nat.zero_add, World.cell?_alloc_at _ _ _ _ rfl]
  simp [h]

end Go.Proofs.YtdkjnemakkppfaaDoor

/- The drawing kit: l19Num ends with some number. -/
namespace Go.Proofs.YtdkjnemakkppfaaDoor
open Go.RowKit Go.BigFrame AG

theorem byte_some (s : ByteArray) (i : Nat) (h : i < s.size) : ∃ y : Nat, y < 256 ∧ ((s[i]'h).toNat : Int) = (y : Int) := ⟨(s[i]'h).toNat, (s[i]'h).toNat_lt, rfl⟩

def NumLitPost (w : World) (e : Ending) (w' : World) : Prop := ∃ (n : Int) (b : Bool), e = .returned (.tuple #[.int .i64 n, .bool b]) ∧ w = w'

set_option maxHeartbeats 2000000 in
theorem l19Num_plain (s : ByteArray) (w : World) (hz : s.size ≤ 1000000) (hn : ∀ h : 0 < s.size, (s[0]'h).toNat ≠ 45) :
    Calls Tryd.prog 118 #[.string s] w (NumLitPost w) := by
  by_cases h0 : s.size = 0
  · go_enter Tryd.func118, Tryd.ntmps118
    go_wp2
    go_ret2
    exact ⟨_, _, rfl, rfl⟩
  · have hpos : (0 : Int) < (s.size : Int) := by omega
    obtain ⟨y, hy, hy2⟩ := byte_some s 0 (by omega)
    have hneg2 : ((y : Int) == 45) = false := by
      have h45 : (s[0]'(by omega)).toNat ≠ 45 := hn (by omega)
      rw [beq_eq_false_iff_ne]
      omega
    replace hn := hid hn
    have a1 : ((s.size : Int) == 0) = false := by rw [beq_eq_false_iff_ne]; omega
    by_cases h17 : 17 < s.size
    · have a2 : decide (17 < (s.size : Int)) = true := by simp; omega
      go_enter Tryd.func118, Tryd.ntmps118
      go_wp2
      go_ret2
      exact ⟨_, _, rfl, rfl⟩
    · have a2 : decide (17 < (s.size : Int)) = false := by simp; omega
      by_cases hbad : y = 48 ∧ 1 < s.size
      · have a3 : ((y : Int) == 48) = true := by simp; omega
        have a4 : decide (1 < (s.size : Int)) = true := by simp; omega
        go_enter Tryd.func118, Tryd.ntmps118
        go_wp2
        go_ret2
        exact ⟨_, _, rfl, rfl⟩
      · by_cases h48 : y = 48
        · have a3 : ((y : Int) == 48) = true := by simp; omega
          have a4 : decide (1 < (s.size : Int)) = false := by simp; omega
          replace hbad := hid hbad
          go_enter Tryd.func118, Tryd.ntmps118
          go_wp2_with fail
          go_loopw [5, 6] (fun v i wr => ∃ (x : Int) (k : Nat), v = .int .i64 x ∧ i = .int .i64 k ∧ k ≤ s.size ∧ w = wr) (fun _ i _ => s.size - (intOf i).toNat)
          case atStart => exact ⟨0, 0, rfl, rfl, by omega, rfl⟩
          case round =>
            obtain ⟨x, k, rfl, rfl, hk, rfl⟩ := hrel
            by_cases hlt : k < s.size
            · obtain ⟨z, hz1, hz2⟩ := byte_some s k hlt
              have hk2 : (0 : Int) ≤ (k : Int) ∧ (k : Int) < (s.size : Int) := by omega
              go_wp2
              all_goals first
                | (go_ret2; exact ⟨_, _, rfl, rfl⟩)
                | (go_roundw
                   case rel => exact ⟨_, k + 1, rfl, by go_num, by omega, by first | trivial | rfl⟩
                   case measure => simp [intOf]; omega)
            · go_wp2
              go_ret2
              exact ⟨_, _, rfl, rfl⟩
        · have a3 : ((y : Int) == 48) = false := by simp; omega
          replace hbad := hid hbad
          go_enter Tryd.func118, Tryd.ntmps118
          go_wp2_with fail
          go_loopw [5, 6] (fun v i wr => ∃ (x : Int) (k : Nat), v = .int .i64 x ∧ i = .int .i64 k ∧ k ≤ s.size ∧ w = wr) (fun _ i _ => s.size - (intOf i).toNat)
          case atStart => exact ⟨0, 0, rfl, rfl, by omega, rfl⟩
          case round =>
            obtain ⟨x, k, rfl, rfl, hk, rfl⟩ := hrel
            by_cases hlt : k < s.size
            · obtain ⟨z, hz1, hz2⟩ := byte_some s k hlt
              have hk2 : (0 : Int) ≤ (k : Int) ∧ (k : Int) < (s.size : Int) := by omega
              go_wp2
              all_goals first
                | (go_ret2; exact ⟨_, _, rfl, rfl⟩)
                | (go_roundw
                   case rel => exact ⟨_, k + 1, rfl, by go_num, by omega, by first | trivial | rfl⟩
                   case measure => simp [intOf]; omega)
            · go_wp2
              go_ret2
              exact ⟨_, _, rfl, rfl⟩

set_option maxHeartbeats 2000000 in
theorem l19Num_sign (s : ByteArray) (w : World) (hz : s.size ≤ 1000000) (hs : 0 < s.size) (hn : (s[0]'hs).toNat = 45) :
    Calls Tryd.prog 118 #[.string s] w (NumLitPost w) := by
  have hpos : (0 : Int) < (s.size : Int) := by omega
  obtain ⟨y, hy, hy2⟩ := byte_some s 0 hs
  have hneg2 : ((y : Int) == 45) = true := by rw [beq_iff_eq]; omega
  obtain ⟨t, ht⟩ : ∃ t, s.extract 1 s.size = t := ⟨_, rfl⟩
  have htz : t.size = s.size - 1 := by rw [← ht, ByteArray.size_extract]; omega
  have hle : (1 : Int) ≤ (s.size : Int) := by omega
  have htl : t.size ≤ 1000000 := by omega
  replace htz := hid htz
  replace hn := hid hn
  by_cases h0 : t.size = 0
  · have a1 : ((t.size : Int) == 0) = true := by rw [beq_iff_eq]; omega
    go_enter Tryd.func118, Tryd.ntmps118
    go_wp2
    go_ret2
    exact ⟨_, _, rfl, rfl⟩
  · have a1 : ((t.size : Int) == 0) = false := by rw [beq_eq_false_iff_ne]; omega
    have hpos2 : (0 : Int) < (t.size : Int) := by omega
    obtain ⟨y2, hy3, hy4⟩ := byte_some t 0 (by omega)
    by_cases h17 : 17 < t.size
    · have a2 : decide (17 < (t.size : Int)) = true := by simp; omega
      go_enter Tryd.func118, Tryd.ntmps118
      go_wp2
      go_ret2
      exact ⟨_, _, rfl, rfl⟩
    · have a2 : decide (17 < (t.size : Int)) = false := by simp; omega
      by_cases h48 : y2 = 48
      · have a3 : ((y2 : Int) == 48) = true := by simp; omega
        by_cases h1 : 1 < t.size
        all_goals
          go_enter Tryd.func118, Tryd.ntmps118
          go_wp2
          go_ret2
          exact ⟨_, _, rfl, rfl⟩
      · have a3 : ((y2 : Int) == 48) = false := by simp; omega
        go_enter Tryd.func118, Tryd.ntmps118
        go_wp2_with fail
        go_loopw [5, 6] (fun v i wr => ∃ (x : Int) (k : Nat), v = .int .i64 x ∧ i = .int .i64 k ∧ k ≤ t.size ∧ w = wr) (fun _ i _ => t.size - (intOf i).toNat)
        case atStart => exact ⟨0, 0, rfl, rfl, by omega, rfl⟩
        case round =>
          obtain ⟨x, k, rfl, rfl, hk, rfl⟩ := hrel
          by_cases hlt : k < t.size
          · obtain ⟨z, hz1, hz2⟩ := byte_some t k hlt
            have hk2 : (0 : Int) ≤ (k : Int) ∧ (k : Int) < (t.size : Int) := by omega
            go_wp2
            all_goals first
              | (go_ret2; exact ⟨_, _, rfl, rfl⟩)
              | (go_roundw
                 case rel => exact ⟨_, k + 1, rfl, by go_num, by omega, by first | trivial | rfl⟩
                 case measure => simp [intOf]; omega)
          · go_wp2
            go_ret2
            exact ⟨_, _, rfl, rfl⟩

theorem l19Num_any (s : ByteArray) (w : World) (hz : s.size ≤ 1000000) : Calls Tryd.prog 118 #[.string s] w (NumLitPost w) := by
  by_cases hs : 0 < s.size
  · by_cases hn : (s[0]'hs).toNat = 45
    · exact l19Num_sign s w hz hs hn
    · exact l19Num_plain s w hz fun _ => hn
  · exact l19Num_plain s w hz fun h => absurd h hs

end Go.Proofs.YtdkjnemakkppfaaDoor

/- The drawing kit: texts of alphabets, numbers and edges (their texts are not told, only their sizes). -/
namespace Go.Proofs.YtdkjnemakkppfaaDoor
open Go.RowKit Go.BigFrame AG

def StrPost (N : Nat) (w : World) (e : Ending) (w' : World) : Prop := ∃ x : ByteArray, e = .returned (.string x) ∧ x.size ≤ N ∧ Below w.heap.size w w'

theorem conv_digit (w : World) (d : Nat) (hd : d < 10) :
    (convert 35 9 (.slice (some ⟨w.heap.size, 0, none⟩) 1 1)).run Tryd.prog (w.alloc (Obj.cells #[Value.int IntKind.u8 (48 + (d : Int))] 5)) = .ok (.string ⟨#[UInt8.ofNat (48 + d)]⟩) (w.alloc (Obj.cells #[Value.int IntKind.u8 (48 + (d : Int))] 5)) := by
  have hb : ((UInt8.ofNat (48 + d)).toNat : Int) = 48 + (d : Int) := by
    rw [UInt8.toNat_ofNat']
    omega
  exact run_convert_bytes_back (P := Tryd.prog) _ 35 9 5 ⟨w.heap.size, 0, none⟩ 1 [UInt8.ofNat (48 + d)] Tryd.underlying35 Tryd.underlying5 Tryd.underlying9 (fun j hj => by
      obtain rfl : j = 0 := by simpa using hj
      rw [List.getElem_cons_zero, hb]
      simp [Addr.add])

set_option maxRecDepth 100000 in
set_option maxHeartbeats 1000000 in
theorem l19Dec_any (n : Nat) (hn : n ≤ 1000) (w : World) : Calls Tryd.prog 138 #[.int .i64 n] w (StrPost 1001 w) := by
  go_enter Tryd.func138, Tryd.ntmps138
  go_wp2_with fail
  go_loopw [0, 3] (fun i s wr => ∃ (m : Nat) (x : ByteArray), i = .int .i64 m ∧ s = .string x ∧ x.size + m ≤ 1000 ∧ Below w.heap.size w wr) (fun i _ _ => (intOf i).toNat)
  case atStart => exact ⟨n, ⟨#[]⟩, rfl, rfl, by show 0 + n ≤ 1000; omega, Below.refl _ _⟩
  case round =>
    obtain ⟨m, x, rfl, rfl, hx, hb⟩ := hrel
    have hz := hb.size
    by_cases hm : 9 < m
    · obtain ⟨d, hd⟩ : ∃ d : Nat, d = m % 10 := ⟨_, rfl⟩
      obtain ⟨q, hq⟩ : ∃ q : Nat, q = m / 10 := ⟨_, rfl⟩
      have e1 : (m : Int) % 10 = (d : Int) := by omega
      have e2 : (m : Int) / 10 = (q : Int) := by omega
      have hd10 : d < 10 := by omega
      have hqm : q + 1 ≤ m := by omega
      have kc := conv_digit wr d hd10
      replace hd := hid hd
      replace hq := hid hq
      go_wp2_with fail
      go_roundw
      case rel => exact ⟨q, _, rfl, rfl, by rw [ByteArray.size_append]; show 1 + x.size + q ≤ 1000; omega, hb.alloc hz _⟩
      case measure => simp [intOf]; omega
    · have kc := conv_digit wr m (by omega)
      go_wp2_with fail
      go_ret
      exact ⟨_, rfl, by rw [ByteArray.size_append]; show 1 + x.size ≤ 1001; omega, hb.alloc hz _⟩

set_option maxRecDepth 100000 in
set_option maxHeartbeats 2000000 in
theorem formatAlpha_any (A : Int) (w : World) : Calls Tryd.prog 136 #[.int .i64 A] w (StrPost 6 w) := by
  by_cases ha : alphaOk A = true
  · by_cases h0 : A = 0
    · subst h0
      replace ha := hid ha
      go_enter Tryd.func136, Tryd.ntmps136
      go_wp2_with (go_at_call 70; refine (l1Alphabet_any _ _).mono ?_; rintro e w' ⟨rfl, rfl⟩; rw [ha.out])
      go_ret
      exact ⟨_, rfl, by decide, Below.refl _ _⟩
    · have hb0 : ((A : Int) == 0) = false := by simpa using h0
      replace ha := hid ha
      replace h0 := hid h0
      go_enter Tryd.func136, Tryd.ntmps136
      go_wp2_with (first
        | (go_at_call 70; refine (l1Alphabet_any _ _).mono ?_; rintro e w' ⟨rfl, rfl⟩; rw [ha.out])
        | (go_at_call 32; refine (l1Letters_any _ _).mono ?_; rintro e w2 ⟨lv, rfl, hown, hb2⟩))
      have hl6 := lettersTo_len A 6
      have hll : letters A = lettersTo A 6 := rfl
      rw [← hll] at hl6
      obtain ⟨Al, cl, hvl, hcl, hcl'⟩ := own_slice hown
      subst hvl
      obtain ⟨ls, hls⟩ : ∃ ls, Hid (ls = letters A) := ⟨_, hid rfl⟩
      rw [← hls.out] at hown hl6 hcl
      rw [← hls.out]
      clear hll
      replace hown := hid hown
      go_wp2_with fail
      go_loopw [3, 5] (fun s i wr => ∃ (k : Nat) (x : ByteArray), i = .int .i64 k ∧ s = .string x ∧ x.size = k ∧ k ≤ ls.length ∧ Below w2.heap.size w2 wr) (fun _ i _ => ls.length - (intOf i).toNat)
      case atStart => exact ⟨0, ⟨#[]⟩, rfl, rfl, rfl, by omega, Below.refl _ _⟩
      case round =>
        obtain ⟨k, x, rfl, rfl, hx, hk, hb⟩ := hrel
        replace hx := hid hx
        have hz := hb.size
        by_cases hlt : k < ls.length
        · obtain ⟨g, cap, hve, hg1, hg2, -, -, hL⟩ := own_nats hown.out (by omega)
          injection hve with hv1 hv2 hv3
          subst hv1
          subst hv3
          have l0 := hL k hlt
          obtain ⟨l, hl⟩ : ∃ l : Nat, l = ls[k] := ⟨_, rfl⟩
          have hl6' : l < 6 := by
            have := letters_lt (A := A) (l := l) (by rw [← hls.out, hl]; exact List.getElem_mem _)
            exact this.1
          rw [← hl] at l0
          have l1 : wr.cell? ⟨g, k, none⟩ = some (.int .i64 (l : Nat)) := by rw [hb.cell (by simpa using hg2)]; exact l0
          have k1 : (0 : Int) ≤ (k : Int) ∧ (k : Int) < (ls.length : Int) := by omega
          have hxs : x.size ≤ 6 := by rw [hx.out]; omega
          replace hL := hid hL
          replace hl := hid hl
          clear l0
          go_wp2_with (go_at_call 68; refine (l1Text_any l hl6' _).mono ?_; rintro e w3 ⟨rfl, hb3⟩)
          have hb4 := hb.trans (hb3.mono hz)
          go_roundw
          case rel => exact ⟨k + 1, _, by go_num, rfl, by rw [ByteArray.size_append, hx.out]; rfl, by omega, hb4⟩
          case measure => simp [intOf]; omega
        · have hb4 := hb2.trans (hb.mono hb2.size)
          go_wp2_with fail
          go_ret
          exact ⟨_, rfl, by rw [hx.out]; omega, hb4⟩
  · replace ha : alphaOk A = false := by simpa using ha
    replace ha := hid ha
    go_enter Tryd.func136, Tryd.ntmps136
    go_wp2_with (go_at_call 70; refine (l1Alphabet_any _ _).mono ?_; rintro e w' ⟨rfl, rfl⟩; rw [ha.out])
    go_ret
    exact ⟨_, rfl, by decide, Below.refl _ _⟩

def NumPostB (w : World) (e : Ending) (w' : World) : Prop := ∃ (n : Int) (b : Bool), e = .returned (.tuple #[.int .i64 n, .bool b]) ∧ Below w.heap.size w w'

set_option maxRecDepth 100000 in
set_option maxHeartbeats 1000000 in
theorem parseAlpha_any (s : ByteArray) (w : World) : Calls Tryd.prog 117 #[.string s] w (NumPostB w) := by
  go_enter Tryd.func117, Tryd.ntmps117
  go_wp2_with fail
  go_loopw [4] (fun i wr => ∃ (k : Nat), i = .int .i64 k ∧ k ≤ 64 ∧ Below w.heap.size w wr) (fun i _ => 64 - (intOf i).toNat)
  case atStart => exact ⟨0, rfl, by omega, Below.refl _ _⟩
  case round =>
    obtain ⟨k, rfl, hk, hb⟩ := hrel
    have hz := hb.size
    by_cases hlt : k ≤ 63
    · go_wp2_with (go_at_call 136; refine (formatAlpha_any _ _).mono ?_; rintro e w2 ⟨x, rfl, hx, hb2⟩)
      all_goals have hb3 := hb.trans (hb2.mono hz)
      all_goals first
        | (go_ret2; exact ⟨_, _, rfl, hb3⟩)
        | (go_roundw
           case rel => exact ⟨k + 1, by go_num, by omega, hb3⟩
           case measure => simp [intOf]; omega)
    · go_wp2_with fail
      go_ret2
      exact ⟨_, _, rfl, hb⟩

end Go.Proofs.YtdkjnemakkppfaaDoor

/- The drawing kit: l19Cut, l2Parse. -/
namespace Go.Proofs.YtdkjnemakkppfaaDoor
open Go.RowKit Go.BigFrame AG

theorem infoStrD : (Tryd.prog.info? 9).map (fun i => (i.zero, i.size, i.bytes)) = some (some (.string ⟨#[]⟩), 1, 16) := by kernel_rfl

/-- Texts of at most N bytes each, as an owned slice. -/
def OwnStrs (w : World) (B : Nat) (v : Value) (ws : List ByteArray) : Prop := w.ownsRow B 9 1 v ws.length (ws.map Value.string)
theorem own_strs {w : World} {B : Nat} {v : Value} {ns : List ByteArray} (h : OwnStrs w B v ns) (hn : 0 < ns.length) :
    ∃ g cap, v = .slice (some ⟨g, 0, none⟩) ns.length cap ∧ B ≤ g ∧ g < w.heap.size ∧ ns.length ≤ cap ∧ cap ≤ 9223372036854775807 ∧
      ∀ i (hi : i < ns.length), w.cell? ⟨g, i, none⟩ = some (.string ns[i]) := by
  obtain ⟨g, cap, hv, h1, h2, h3, h4, h5⟩ := own_shape h hn
  exact ⟨g, cap, hv, h1, h2, h3, h4, fun i hi => h5 _ _ (by simp [hi])⟩

structure CutSt (w wr : World) (v : Value) (ws : List ByteArray) (N k : Nat) : Prop where
  own : OwnStrs wr w.heap.size v ws
  len : ws.length ≤ k
  small : ∀ x ∈ ws, x.size ≤ N
  below : Below w.heap.size w wr

theorem CutSt.add {w wr w1 : World} {v v' : Value} {ws : List ByteArray} {N k : Nat} {x : ByteArray} {o : Obj} (h : CutSt w wr v ws N k) (hx : x.size ≤ N) (hown : w1.ownsRow w.heap.size 9 1 v' (ws.length + 1) (ws.map Value.string ++ [.string x])) (hg : (wr.alloc o).grownBy w1 v.ownBlock) :
    CutSt w w1 v' (ws ++ [x]) N (k + 1) := by
  refine ⟨?_, ?_, ?_, ?_⟩
  · have : (ws ++ [x]).length = ws.length + 1 := by simp
    unfold OwnStrs
    rw [this, List.map_append]
    exact hown
  · have := h.len
    simp
    omega
  · intro y hy
    rcases List.mem_append.1 hy with hy | hy
    · exact h.small y hy
    · rw [List.mem_singleton.1 hy]; exact hx
  · exact (h.below.alloc h.below.size o).grown hg (by have := h.below.size; simp; omega) (fun k hk => (World.ownsRow.lt h.own k hk).1)

end Go.Proofs.YtdkjnemakkppfaaDoor

/- The drawing kit: l2Random, l2Small. -/
namespace Go.Proofs.YtdkjnemakkppfaaDoor
open Go.RowKit Go.BigFrame AG

theorem infoEd : (Tryd.prog.info? 59).map (fun i => (i.zero, i.size, i.bytes)) = some (some (.agg #[.int .i64 0, .int .i64 0, .int .i64 0]), 3, 24) := by kernel_rfl

def edCells : List Ed → List Value
  | [] => []
  | e :: es => .int .i64 e.f :: .int .i64 e.l :: .int .i64 e.t :: edCells es
theorem edCells_append : ∀ ps qs : List Ed, edCells (ps ++ qs) = edCells ps ++ edCells qs
  | [], _ => rfl
  | p :: ps, qs => by rw [List.cons_append, edCells, edCells_append ps qs]; rfl
theorem edCells_at : ∀ (ps : List Ed) (i : Nat) (h : i < ps.length), (edCells ps)[i * 3]? = some (.int .i64 ps[i].f) ∧ (edCells ps)[i * 3 + 1]? = some (.int .i64 ps[i].l) ∧ (edCells ps)[i * 3 + 2]? = some (.int .i64 ps[i].t)
  | p :: ps, 0, _ => ⟨rfl, rfl, rfl⟩
  | p :: ps, i + 1, h => by
    have := edCells_at ps i (by simpa using h)
    rw [show (i + 1) * 3 = i * 3 + 1 + 1 + 1 from by omega]
    exact this
theorem edCells_len : ∀ ps : List Ed, (edCells ps).length = ps.length * 3
  | [] => rfl
  | p :: ps => by simp [edCells, edCells_len ps]; omega

/-- The edges es, as an owned slice. -/
def OwnEds (w : World) (B : Nat) (v : Value) (es : List Ed) : Prop := w.ownsRow B 59 3 v es.length (edCells es)
theorem OwnEds.read {w : World} {B : Nat} {v : Value} {es : List Ed} (h : OwnEds w B v es) : ∃ A c, v = .slice A es.length c ∧ es.length ≤ c ∧ c ≤ 9223372036854775807 ∧ EdsAt w w.heap.size A es ∧ FreshA B A := by
  have hlt := World.ownsRow.lt h
  have hcl := fun {g} hg => World.ownsRow.cells h (g := g) hg
  obtain ⟨_, ⟨rfl, h0⟩ | ⟨g, cap, cur, rfl, hg, hw, h1, h2, h3, h4⟩⟩ := h
  · exact ⟨none, 0, by rw [h0], by omega, by omega, fun hl => by omega, fun b o hA => by cases hA⟩
  · refine ⟨_, cap, rfl, h1, h2, fun _ => ⟨g, 0, rfl, (hlt g rfl).2, fun i hi => ?_⟩, fun b o hA => by injection hA with hA; injection hA with hA; omega⟩
    obtain ⟨a1, a2, a3⟩ := edCells_at es i hi
    have b1 := hcl rfl _ _ a1
    have b2 := hcl rfl _ _ a2
    have b3 := hcl rfl _ _ a3
    have hadd : ∀ j, (⟨g, 0, none⟩ : Addr).add j = ⟨g, j, none⟩ := fun j => by unfold Addr.add; split <;> simp_all
    rw [hadd] at b1 b2 b3
    simp only [Nat.zero_add]
    exact ⟨b1, b2, b3⟩

/-- Some system comes back; the reader has moved on to P at most. -/
def SyUp (R P L : Nat) (w : World) (e : Ending) (w' : World) : Prop :=
  ∃ (s : Sy) (A : Option Addr) (c : Nat), e = .returned (s.val A c) ∧ s.es.length ≤ c ∧ c ≤ 9223372036854775807 ∧ s.es.length ≤ L ∧ EdsAt w' w'.heap.size A s.es ∧ FreshA w.heap.size A ∧ RdUp w' R P ∧ KeepB (fun b => b = R) w w'

/-- What l2Random holds in its loops: N rounds at most are behind it. -/
structure RndSt (w wr : World) (R P gs : Nat) (al st : Int) (lv : Value) (ls : List Nat) (N : Nat) (v : Value) (es : List Ed) : Prop where
  len : es.length ≤ N
  blk : Blk wr gs 28 #[.int .i64 al, .int .i64 st, v]
  own : OwnEds wr (gs + 1) v es
  list : OwnNats wr (gs + 1) lv ls
  rd : RdUp wr R (P + N)
  keep : KeepB (fun b => b = R) w wr
  res : Blk wr w.heap.size 28 #[.int .i64 0, .int .i64 0, .slice none 0 0]
theorem RndSt.pick {w wr w1 : World} {R P gs : Nat} {al st : Int} {lv : Value} {ls : List Nat} {N : Nat} {v : Value} {es : List Ed} (h : RndSt w wr R P gs al st lv ls N v es) (hR : R < w.heap.size) (hgs : w.heap.size < gs) (hr : RdUp w1 R (P + N + 1)) (hk : KeepB (fun b => b = R) wr w1) :
    RndSt w w1 R P gs al st lv ls (N + 1) v es :=
  ⟨by have := h.len; omega, h.blk.keep hk (by omega), own_keep h.own hk (fun g hg => by have := (h.own.lt g hg).1; omega), own_keep h.list hk (fun g hg => by have := (World.ownsRow.lt h.list g hg).1; omega), hr, h.keep.trans hk, h.res.keep hk (by omega)⟩
theorem RndSt.later {w wr w1 : World} {R P gs : Nat} {al st : Int} {lv : Value} {ls : List Nat} {N : Nat} {v : Value} {es : List Ed} (h : RndSt w wr R P gs al st lv ls N v es) (hb : Below wr.heap.size wr w1) : RndSt w w1 R P gs al st lv ls N v es :=
  ⟨h.len, h.blk.below hb h.blk.lt, own_later h.own hb, own_later h.list hb, h.rd.later hb, h.keep.trans (KeepB.of_below hb), h.res.below hb h.res.lt⟩
theorem RndSt.begin {w w2 : World} {R P : Nat} {al st : Int} {lv : Value} {ls : List Nat}
    (hr : RdUp w R P) (hown : OwnNats w2 (w.heap.size + 2) lv ls) (hb : Below (w.heap.size + 2) ((w.alloc (.cells #[.int .i64 0, .int .i64 0, .slice none 0 0] 28)).alloc (.cells #[.int .i64 al, .int .i64 st, .slice none 0 0] 28)) w2) :
    RndSt w w2 R P (w.heap.size + 1) al st lv ls 0 (.slice none 0 0) [] := by
  have b1 : Below w.heap.size w w2 := (((Below.refl _ _).alloc (Nat.le_refl _) _).alloc (by simp) _).trans (hb.mono (by omega))
  refine ⟨Nat.le_refl _, ?_, World.ownsRow_nil _ _ _ _, own_base hown (by omega), hr.later b1, KeepB.of_below b1, ?_⟩
  · have := Blk.new (w.alloc (.cells #[.int .i64 0, .int .i64 0, .slice none 0 0] 28)) 28 #[.int .i64 al, .int .i64 st, .slice none 0 0]
    rw [World.size_alloc] at this
    exact this.below hb (by omega)
  · have := (Blk.new w 28 #[.int .i64 0, .int .i64 0, .slice none 0 0]).alloc (.cells #[.int .i64 al, .int .i64 st, .slice none 0 0] 28)
    exact this.below hb (by omega)
/-- An edge is appended and the field stored. -/
theorem RndSt.add' {w wr w1 : World} {R P gs : Nat} {al st : Int} {lv : Value} {ls : List Nat} {N : Nat} {v v' : Value} {es : List Ed} {x : Ed} (h : RndSt w wr R P gs al st lv ls N v es) (hN : es.length + 1 ≤ N) (hR : R < w.heap.size) (hgs : w.heap.size < gs)
    (hown : w1.ownsRow (gs + 1) 59 3 v' (es.length + 1) (edCells es ++ [.int .i64 x.f, .int .i64 x.l, .int .i64 x.t])) (hg : wr.grownBy w1 v.ownBlock) :
    RndSt w (w1.setCell ⟨gs, 2, none⟩ v') R P gs al st lv ls N v' (es ++ [x]) := by
  have hv : ∀ k, v.ownBlock = some k → gs < k := fun k hk => by have := (h.own.lt k hk).1; omega
  have hv' : ∀ k, v'.ownBlock = some k → gs < k := fun k hk => by have := (World.ownsRow.lt hown k hk).1; omega
  have k1 : KeepB (fun b => v.ownBlock = some b) wr w1 := (KeepB.refl _ wr).grown hg (fun k hk _ => hk)
  have k2 : KeepB (fun b => v.ownBlock = some b ∨ b = gs) wr (w1.setCell ⟨gs, 2, none⟩ v') := (k1.mono fun _ h => .inl h).setCell _ _ fun _ => .inr rfl
  have hb := h.blk.lt
  have hneL : ∀ k, lv.ownBlock = some k → ¬ v.ownBlock = some k := fun k hk hk2 => own_ne_own h.list h.own (by decide) k k hk hk2 rfl
  have hll := World.ownsRow.lt h.list
  refine ⟨by simp; omega, ?_, ?_, ?_, h.rd.keep k2 ?_, ?_, ?_⟩
  · have := (h.blk.keep k1 (fun hk => by have := hv _ hk; omega)).set_ 2 v'
    simpa using this
  · have e : (es ++ [x]).length = es.length + 1 := by simp
    unfold OwnEds
    rw [e, edCells_append]
    exact ownsRow_setCell_other hown (fun hk => by have := hv' _ hk; simp at this) _
  · exact own_keep h.list k2 (fun g hg hk => by
      rcases hk with hk | hk
      · exact hneL g hg hk
      · have := (hll g hg).1; omega)
  · rintro k (hk | rfl)
    · have := hv k hk; omega
    · omega
  · exact h.keep.grown hg (fun k hk hlt => by have := hv k hk; omega) |>.setCell _ _ fun hlt => by simp at hlt; omega
  · exact h.res.keep k2 (by rintro (hk | hk); (have := hv _ hk; omega); omega)
theorem RndSt.post {w wr : World} {R P : Nat} {al st : Int} {lv : Value} {ls : List Nat} {N : Nat} {v : Value} {es : List Ed} (h : RndSt w wr R P (w.heap.size + 1) al st lv ls N v es) (hN : N ≤ 1536) (hR : R < w.heap.size) (v1 v2 v3 : Value) :
    SyUp R (P + 1536) 1536 w (.returned (.agg #[.int .i64 al, .int .i64 st, v])) (((wr.setCell ⟨w.heap.size, 0, none⟩ v1).setCell ⟨w.heap.size, 1, none⟩ v2).setCell ⟨w.heap.size, 2, none⟩ v3) := by
  obtain ⟨A, c, hv, h1, h2, h3, h4⟩ := h.own.read
  have hl := h.len
  have hk : KeepB (fun b => b = w.heap.size) wr (((wr.setCell ⟨w.heap.size, 0, none⟩ v1).setCell ⟨w.heap.size, 1, none⟩ v2).setCell ⟨w.heap.size, 2, none⟩ v3) := (((KeepB.refl _ wr).setCell _ _ (by simp)).setCell _ _ (by simp)).setCell _ _ (by simp)
  refine ⟨⟨al, st, es⟩, A, c, by rw [hv]; rfl, h1, h2, by show es.length ≤ 1536; omega, ?_, fun b o hA => by have := h4 b o hA; omega, (h.rd.more (by omega)).keep hk (by omega), ?_⟩
  · have hne : ∀ b o, A = some ⟨b, o, none⟩ → 0 < es.length → b ≠ w.heap.size := fun b o hA _ => by have := h4 b o hA; omega
    simpa [World.setCell] using ((h3.stored v1 hne).stored v2 hne).stored v3 hne
  · exact (((h.keep).setCell _ _ (by simp)).setCell _ _ (by simp)).setCell _ _ (by simp)


/-- The result's own block, which the function made first, is stored into. -/
theorem SyUp.ret {R P L : Nat} {w w1 : World} {s : Sy} {A : Option Addr} {c : Nat} (h1 : s.es.length ≤ c) (h2 : c ≤ 9223372036854775807) (h3 : s.es.length ≤ L) (h4 : EdsAt w1 w1.heap.size A s.es) (h5 : FreshA (w.heap.size + 1) A)
    (h6 : RdUp w1 R P) (h7 : KeepB (fun b => b = R) w w1) (hR : R < w.heap.size) (v1 v2 v3 : Value) :
    SyUp R P L w (.returned (.agg #[.int .i64 s.al, .int .i64 s.st, .slice A s.es.length c])) (((w1.setCell ⟨w.heap.size, 0, none⟩ v1).setCell ⟨w.heap.size, 1, none⟩ v2).setCell ⟨w.heap.size, 2, none⟩ v3) := by
  have hk : KeepB (fun b => b = w.heap.size) w1 (((w1.setCell ⟨w.heap.size, 0, none⟩ v1).setCell ⟨w.heap.size, 1, none⟩ v2).setCell ⟨w.heap.size, 2, none⟩ v3) := (((KeepB.refl _ w1).setCell _ _ (by simp)).setCell _ _ (by simp)).setCell _ _ (by simp)
  have hne : ∀ b o, A = some ⟨b, o, none⟩ → 0 < s.es.length → b ≠ w.heap.size := fun b o hA _ => by have := h5 b o hA; omega
  refine ⟨s, A, c, rfl, h1, h2, h3, ?_, fun b o hA => by have := h5 b o hA; omega, h6.keep hk (by omega), ?_⟩
  · simpa [World.setCell] using ((h4.stored v1 hne).stored v2 hne).stored v3 hne
  · exact ((h7.setCell _ _ (by simp)).setCell _ _ (by simp)).setCell _ _ (by simp)

end Go.Proofs.YtdkjnemakkppfaaDoor

/- The drawing kit: FormatSystem, ParseSystem. -/
namespace Go.Proofs.YtdkjnemakkppfaaDoor
open Go.RowKit Go.BigFrame AG

def isStr (N : Nat) (u : Value) : Prop := ∃ x : ByteArray, u = .string x ∧ x.size ≤ N

set_option maxRecDepth 100000 in
set_option maxHeartbeats 4000000 in
theorem formatSystem_any (s : Sy) (A : Option Addr) (c : Nat) (w : World) (hl : s.es.length ≤ c) (hc : c ≤ 9223372036854775807) (hL : s.es.length ≤ 10000) (hr : EdsAt w w.heap.size A s.es) :
    Calls Tryd.prog 120 #[s.val A c] w (StrPost 1000000000 w) := by
  unfold Sy.val
  replace hr := hid hr
  obtain ⟨w0, hw0, hz0, hB0, hS0, hS1, hS2⟩ := boxed3 w (Value.int IntKind.i64 s.al) (Value.int IntKind.i64 s.st) (Value.slice A s.es.length c) 28
  have hr0 := hid (hr.out.later hB0)
  have p0 := hS0 _ (Below.refl _ _)
  have p1 := hS1 _ (Below.refl _ _)
  have p2 := hS2 _ (Below.refl _ _)
  cases hok : sysOk s
  · replace hok := hid hok
    go_enter Tryd.func120, Tryd.ntmps120
    go_wp2_with fail
    refine (specSystemValid_any s A c w0 hl hc hr0.out).mono ?_
    rintro e w1 ⟨rfl, hb1⟩
    rw [hok.out]
    have hB1 : Below w.heap.size w w1 := hB0.trans (hb1.mono (by omega))
    go_wp2_with fail
    go_ret
    exact ⟨_, rfl, by decide, hB1⟩
  · have hst := sysOk_st hok
    have hin := hid (sysOk_in hok)
    replace hok := hid hok
    obtain ⟨sn, hsn⟩ := Int.eq_ofNat_of_zero_le (show 0 ≤ s.st by omega)
    have hsn16 : sn ≤ 1000 := by omega
    replace hsn := hid hsn
    go_enter Tryd.func120, Tryd.ntmps120
    go_wp2_with fail
    refine (specSystemValid_any s A c w0 hl hc hr0.out).mono ?_
    rintro e w1 ⟨rfl, hb1⟩
    rw [hok.out]
    have hb1' := hb1.mono hz0
    clear p0 p1 p2
    have p0 := hS0 _ hb1'
    have p1 := hS1 _ hb1'
    rw [hsn.out] at p1
    have q0 := GK.BI.cell p0
    have q1 := GK.BI.cell p1
    clear p0 p1 hw0
    go_wp2_with fail
    refine GK.wp_region 9 [] 200 (KeepB fun _ => False) (GK.BI w1) (fun _ u _ => isStr 1001 u) (by kernel_rfl) (by kernel_rfl) (GK.BI.way w1) (by decide) (Below.refl _ _).drew ?_
    simp only [List.take_succ_cons, List.take_zero]
    (repeat (refine GK.grow_quiet w1 (by rfl) (by rfl) ?_; intro K hK; go_big_quiet_op; go_big_quiet_on))
    refine GK.grow_call (by rfl) (fun u w w' _ h => h) (fun m wq hm hbq _ => ?_) ?_
    · go_simp
      exact ⟨rfl, (formatAlpha_any s.al wq).mono fun e w' ⟨x, h1, h2, h3⟩ => ⟨_, h1, hbq.after h3, x, rfl, by omega⟩⟩
    rintro u ⟨_, _, _, x, rfl, hx⟩
    simp only [Act.put, List.setIfInBounds_toArray, List.set_cons_zero, List.set_cons_succ]
    (repeat (refine GK.grow_quiet w1 (by rfl) (by rfl) ?_; intro K hK; go_big_quiet_op; go_big_quiet_on))
    refine GK.grow_call (by rfl) (fun u w w' _ h => h) (fun m wq hm hbq _ => ?_) ?_
    · go_simp
      exact ⟨rfl, (l19Dec_any sn hsn16 wq).mono fun e w' ⟨x, h1, h2, h3⟩ => ⟨_, h1, hbq.after h3, x, rfl, by omega⟩⟩
    rintro u ⟨_, _, _, y, rfl, hy⟩
    simp only [Act.put, List.setIfInBounds_toArray, List.set_cons_zero, List.set_cons_succ]
    (repeat (refine GK.grow_quiet w1 (by rfl) (by rfl) ?_; intro K hK; go_big_quiet_op; go_big_quiet_on))
    refine GK.grow_nil ?_
    intro w2 hw2 _
    simp only [List.filterMap_nil]
    have hw2' : Below w1.heap.size w1 w2 := hw2
    have hb2 := hb1'.trans (hw2'.mono (by have := hb1.size; omega))
    have hB2 : Below w.heap.size w w2 := hB0.trans (hb2.mono (by omega))
    have hr2 := hid (hr.out.later hB2)
    clear q0 q1
    go_wp2_with fail
    go_loopw [3, 4] (fun o i wr => ∃ (k : Nat) (x : ByteArray), i = .int .i64 k ∧ o = .string x ∧ x.size ≤ 10000 + k * 10000 ∧ k ≤ s.es.length ∧ Below w2.heap.size w2 wr) (fun _ i _ => s.es.length - (intOf i).toNat)
    case atStart => exact ⟨0, _, rfl, rfl, by rw [ByteArray.size_append, ByteArray.size_append]; show x.size + 1 + y.size ≤ _; omega, by omega, Below.refl _ _⟩
    case round =>
      clear hx hy
      obtain ⟨k, x, rfl, rfl, hx, hk, hb⟩ := hrel
      have hbw : Below (w.heap.size + 1) w0 wr := hb2.trans (hb.mono (by have := hB2.size; have := hb2.size; omega))
      have p0 := hS0 _ hbw
      have p2 := hS2 _ hbw
      have hzr := hb.size
      by_cases hlt : k < s.es.length
      · obtain ⟨b, o, rfl, hbb, hE⟩ := hr2.out (by omega)
        obtain ⟨e0, e1, e2⟩ := hE k hlt
        have hok2 := hin.out s.es[k] (List.getElem_mem _)
        replace hE := hid hE
        obtain ⟨f, hf⟩ := Int.eq_ofNat_of_zero_le hok2.1
        obtain ⟨tt, ht⟩ := Int.eq_ofNat_of_zero_le hok2.2.2.1
        obtain ⟨l, hll⟩ := Int.eq_ofNat_of_zero_le hok2.2.2.2.2.1
        have hf1 : f ≤ 1000 := by omega
        have ht1 : tt ≤ 1000 := by omega
        have hl1 : l < 6 := by omega
        rw [hf] at e0
        rw [hll] at e1
        rw [ht] at e2
        replace hf := hid hf
        replace ht := hid ht
        replace hll := hid hll
        replace hok2 := hid hok2
        have g0 : wr.cell? ⟨b, o + k * 3, none⟩ = some (.int .i64 (f : Nat)) := by rw [hb.cell (by simpa using hbb)]; exact e0
        have g1 : wr.cell? ⟨b, o + k * 3 + 1, none⟩ = some (.int .i64 (l : Nat)) := by rw [hb.cell (by simpa using hbb)]; exact e1
        have g2 : wr.cell? ⟨b, o + k * 3 + 2, none⟩ = some (.int .i64 (tt : Nat)) := by rw [hb.cell (by simpa using hbb)]; exact e2
        have k1 : (0 : Int) ≤ (k : Int) ∧ (k : Int) < (s.es.length : Int) := by omega
        clear e0 e1 e2
        have hnb : Below wr.heap.size wr (wr.alloc (.cells #[.int .i64 (f : Nat), .int .i64 (l : Nat), .int .i64 (tt : Nat)] 59)) := (Below.refl _ _).alloc (Nat.le_refl _) _
        have hnk := Blk.new wr 59 #[.int .i64 (f : Nat), .int .i64 (l : Nat), .int .i64 (tt : Nat)]
        generalize hw3 : wr.alloc (.cells #[.int .i64 (f : Nat), .int .i64 (l : Nat), .int .i64 (tt : Nat)] 59) = w3 at hnb hnk
        have m0 := hnk.cell 0
        have m1 := hnk.cell 1
        have m2 := hnk.cell 2
        simp only [List.getElem?_toArray, List.getElem?_cons_zero, List.getElem?_cons_succ] at m0 m1 m2
        have q0 := GK.BI.cell m0
        have q1 := GK.BI.cell m1
        have q2 := GK.BI.cell m2
        replace hnk := hid hnk
        go_wp2_with fail
        clear m0 m1 m2 g0 g1 g2 p0 p2
        refine GK.wp_region 14 [14] 200 (KeepB fun _ => False) (GK.BI w3) (fun _ u _ => isStr 1001 u) (by kernel_rfl) (by kernel_rfl) (GK.BI.way w3) (by decide) (Below.refl _ _).drew ?_
        simp only [List.take_succ_cons, List.take_zero]
        (repeat (refine GK.grow_quiet w3 (by rfl) (by rfl) ?_; intro K hK; go_big_quiet_op; go_big_quiet_on))
        refine GK.grow_call (by rfl) (fun u w w' _ h => h) (fun m wq hm hbq _ => ?_) ?_
        · go_simp
          exact ⟨rfl, (l19Dec_any f hf1 wq).mono fun e w' ⟨x, h1, h2, h3⟩ => ⟨_, h1, hbq.after h3, x, rfl, by omega⟩⟩
        rintro u ⟨_, _, _, y, rfl, hy⟩
        simp only [Act.put, List.setIfInBounds_toArray, List.set_cons_zero, List.set_cons_succ]
        (repeat (refine GK.grow_quiet w3 (by rfl) (by rfl) ?_; intro K hK; go_big_quiet_op; go_big_quiet_on))
        refine GK.grow_call (by rfl) (fun u w w' _ h => h) (fun m wq hm hbq _ => ?_) ?_
        · go_simp
          exact ⟨rfl, (l1Text_any l hl1 wq).mono fun e w' ⟨h1, h3⟩ => ⟨_, h1, hbq.after h3, _, rfl, by show 1 ≤ 1001; omega⟩⟩
        rintro u ⟨_, _, _, z, rfl, hz⟩
        simp only [Act.put, List.setIfInBounds_toArray, List.set_cons_zero, List.set_cons_succ]
        (repeat (refine GK.grow_quiet w3 (by rfl) (by rfl) ?_; intro K hK; go_big_quiet_op; go_big_quiet_on))
        refine GK.grow_call (by rfl) (fun u w w' _ h => h) (fun m wq hm hbq _ => ?_) ?_
        · go_simp
          exact ⟨rfl, (l19Dec_any tt ht1 wq).mono fun e w' ⟨x, h1, h2, h3⟩ => ⟨_, h1, hbq.after h3, x, rfl, by omega⟩⟩
        rintro u ⟨_, _, _, y2, rfl, hy2⟩
        simp only [Act.put, List.setIfInBounds_toArray, List.set_cons_zero, List.set_cons_succ]
        (repeat (refine GK.grow_quiet w3 (by rfl) (by rfl) ?_; intro K hK; go_big_quiet_op; go_big_quiet_on))
        refine GK.grow_nil ?_
        intro w4 hw4 _
        simp only [List.filterMap_cons, List.filterMap_nil, List.getElem?_cons_zero, List.getElem?_cons_succ]
        have hw4' : Below w3.heap.size w3 w4 := hw4
        have hb4 := hb.trans ((hnb.trans (hw4'.mono hnb.size)).mono hzr)
        clear q0 q1 q2
        go_wp2_with fail
        go_roundw
        case rel => exact ⟨k + 1, _, by go_num, rfl, by simp only [ByteArray.size_append]; show x.size + 1 + y.size + z.size + y2.size ≤ _; omega, by omega, hb4⟩
        case measure => simp [intOf]; omega
      · have hb4 := hB2.trans (hb.mono hB2.size)
        go_wp2_with fail
        go_ret
        exact ⟨_, rfl, by omega, hb4⟩

end Go.Proofs.YtdkjnemakkppfaaDoor

/- The drawing kit: ParseSystem. -/
namespace Go.Proofs.YtdkjnemakkppfaaDoor
open Go.RowKit Go.BigFrame AG

/-- Some system and a Bool come back. -/
def SyBPost (L : Nat) (w : World) (e : Ending) (w' : World) : Prop :=
  ∃ (s : Sy) (A : Option Addr) (c : Nat) (b : Bool), e = .returned (.tuple #[s.val A c, .bool b]) ∧ s.es.length ≤ c ∧ c ≤ 9223372036854775807 ∧ s.es.length ≤ L ∧ EdsAt w' w'.heap.size A s.es ∧ FreshA w.heap.size A ∧ Below w.heap.size w w'

structure PsSt (w2 wr : World) (al st : Int) (v : Value) (es : List Ed) (k : Nat) : Prop where
  blk : Blk wr w2.heap.size 28 #[.int .i64 al, .int .i64 st, v]
  own : OwnEds wr (w2.heap.size + 1) v es
  len : es.length ≤ k
  below : Below w2.heap.size w2 wr
theorem PsSt.later {w2 wr w1 : World} {al st : Int} {v : Value} {es : List Ed} {k : Nat} (h : PsSt w2 wr al st v es k) (hb : Below wr.heap.size wr w1) : PsSt w2 w1 al st v es k :=
  ⟨h.blk.below hb h.blk.lt, own_later h.own hb, h.len, h.below.trans (hb.mono h.below.size)⟩
theorem PsSt.add {w2 wr w1 : World} {al st : Int} {v v' : Value} {es : List Ed} {k : Nat} {x : Ed} (h : PsSt w2 wr al st v es k)
    (hown : w1.ownsRow (w2.heap.size + 1) 59 3 v' (es.length + 1) (edCells es ++ [.int .i64 x.f, .int .i64 x.l, .int .i64 x.t])) (hg : wr.grownBy w1 v.ownBlock) :
    PsSt w2 (w1.setCell ⟨w2.heap.size, 2, none⟩ v') al st v' (es ++ [x]) (k + 1) := by
  have hv : ∀ k, v.ownBlock = some k → w2.heap.size < k := fun k hk => by have := (h.own.lt k hk).1; omega
  have hv' : ∀ k, v'.ownBlock = some k → w2.heap.size < k := fun k hk => by have := (World.ownsRow.lt hown k hk).1; omega
  have k1 : KeepB (fun b => v.ownBlock = some b) wr w1 := (KeepB.refl _ wr).grown hg (fun k hk _ => hk)
  have hb := h.blk.lt
  refine ⟨?_, ?_, by have := h.len; simp; omega, ?_⟩
  · have := (h.blk.keep k1 (fun hk => by have := hv _ hk; omega)).set_ 2 v'
    simpa using this
  · have e : (es ++ [x]).length = es.length + 1 := by simp
    unfold OwnEds
    rw [e, edCells_append]
    exact ownsRow_setCell_other hown (fun hk => by have := hv' _ hk; simp at this) _
  · exact (h.below.grown hg h.below.size (fun k hk => by have := hv k hk; omega)).setCell (by simp) _

theorem SyBPost.ret {L : Nat} {w w1 : World} {s : Sy} {A : Option Addr} {c : Nat} (b : Bool) (h1 : s.es.length ≤ c) (h2 : c ≤ 9223372036854775807) (h3 : s.es.length ≤ L) (h4 : EdsAt w1 w1.heap.size A s.es) (h5 : FreshA (w.heap.size + 1) A)
    (h7 : Below w.heap.size w w1) (v1 v2 v3 : Value) :
    SyBPost L w (.returned (.tuple #[.agg #[.int .i64 s.al, .int .i64 s.st, .slice A s.es.length c], .bool b])) (((w1.setCell ⟨w.heap.size, 0, none⟩ v1).setCell ⟨w.heap.size, 1, none⟩ v2).setCell ⟨w.heap.size, 2, none⟩ v3) := by
  have hne : ∀ b o, A = some ⟨b, o, none⟩ → 0 < s.es.length → b ≠ w.heap.size := fun b o hA _ => by have := h5 b o hA; omega
  refine ⟨s, A, c, b, rfl, h1, h2, h3, ?_, fun b o hA => by have := h5 b o hA; omega, ?_⟩
  · simpa [World.setCell] using ((h4.stored v1 hne).stored v2 hne).stored v3 hne
  · (repeat (first | exact Below.refl _ _ | assumption | refine Below.drew ?_ | refine Below.alloc ?_ (by first | omega | (simp; done) | (simp; omega)) _ | refine Below.setCell ?_ (by first | omega | (simp; done) | (simp; omega)) _))

end Go.Proofs.YtdkjnemakkppfaaDoor

/- The drawing kit: l2Wrong. -/
namespace Go.Proofs.YtdkjnemakkppfaaDoor
open Go.RowKit Go.BigFrame AG

/-- Worlds behind m operations of a statement that draws. -/
def RI (w0 : World) (R P : Nat) : Nat → World → Prop := fun m w => KeepB (fun b => b = R) w0 w ∧ RdUp w R (P + m * 10000)
theorem RI.way (w0 : World) (R P : Nat) : AG.Way (KeepB fun b => b = R) (RI w0 R P) := ⟨fun w => KeepB.refl _ w, fun _ _ _ h k => h.trans k, fun m _ h => ⟨h.1, h.2.more (by omega)⟩⟩
theorem RI.begin {w0 : World} {R P : Nat} (h : RdUp w0 R P) : RI w0 R P 0 w0 := ⟨KeepB.refl _ _, h.more (by omega)⟩
theorem RI.drew {w0 : World} {R P : Nat} (h : RdUp w0 R P) : RI w0 R P 0 w0.drew := ⟨⟨rfl, rfl, rfl, Nat.le_refl _, fun _ _ _ => rfl⟩, (h.later ((Below.refl _ _).drew)).more (by omega)⟩
theorem RI.fam {w0 : World} {R P : Nat} (h : RdUp w0 R P) (x : World) : KeepB (fun b => b = R) w0 (GK.FamI (GK.Upto (RI w0 R P) 200) w0 x) := by
  obtain ⟨_, _, h⟩ := GK.FamI.is (J := GK.Upto (RI w0 R P) 200) (w1 := w0) ⟨0, by omega, RI.begin h⟩ x
  exact h.1
theorem RI.cell {w0 : World} {R P b o : Nat} {v : Value} (hr : RdUp w0 R P) (h : w0.cell? ⟨b, o, none⟩ = some v) (hb : b ≠ R) (x : World) : (GK.FamI (GK.Upto (RI w0 R P) 200) w0 x).cell? ⟨b, o, none⟩ = some v := by
  rw [KeepB.cell_ (RI.fam hr x) (World.block_lt_of_cell? _ _ h) hb]
  exact h
theorem RI.alloc {w0 w : World} {R P m : Nat} (o : Obj) (h : RI w0 R P m w) : RI w0 R P (m + 1) (w.alloc o) := ⟨h.1.alloc o, (h.2.later ((Below.refl _ _).alloc (Nat.le_refl _) o)).more (by omega)⟩
theorem RI.call {w0 w w' : World} {R P P' m : Nat} (h : RI w0 R P m w) (hk : KeepB (fun b => b = R) w w') (hr : RdUp w' R P') (hP : P' ≤ P + m * 10000 + 10000) : KeepB (fun b => b = R) w w' ∧ RI w0 R P (m + 1) w' := ⟨hk, h.1.trans hk, hr.more (by omega)⟩
theorem RI.size {w0 w : World} {R P m : Nat} (h : RI w0 R P m w) : w0.heap.size ≤ w.heap.size := h.1.size

theorem num_blk (R P g : Nat) (xs : List Int) (w : World) (T : TypeId) (hk : 0 < xs.length) (hk2 : xs.length ≤ 1000) (hP : P < 1125899906842624) (hg : w.heap[g]? = some (.cells (xs.map (Value.int .i64)).toArray T (0, 0))) (hgR : g ≠ R) (hr : RdUp w R P) :
    Calls Tryd.prog 83 #[.pointer (some ⟨R, 0, none⟩), .slice (some ⟨g, 0, none⟩) xs.length xs.length] w (NumUp R P xs w) := by
  have hb : Blk w g T (xs.map (Value.int .i64)).toArray := hg
  refine (num_up R P g 0 xs.length xs.length xs _ rfl hk (by omega) hP hgR hb.lt (fun i h => ?_) hr).mono fun e w' ⟨x, h1, h2, h3, h4⟩ => ⟨x, h1, h2, h3, h4⟩
  rw [Nat.zero_add, hb.cell]
  simp [h]

theorem edCells_set : ∀ (es : List Ed) (k : Nat) (x : Ed), edCells (es.set k x) = (((edCells es).set (k * 3) (.int .i64 x.f)).set (k * 3 + 1) (.int .i64 x.l)).set (k * 3 + 2) (.int .i64 x.t)
  | [], k, x => rfl
  | e :: es, 0, x => rfl
  | e :: es, k + 1, x => by
    have := edCells_set es k x
    rw [show (k + 1) * 3 = k * 3 + 1 + 1 + 1 from by omega]
    simp only [List.set_cons_succ, edCells]
    rw [this]
theorem set_same {α : Type} {l : List α} {i : Nat} {x : α} (h : l[i]? = some x) : l.set i x = l := by
  apply List.ext_getElem?
  intro j
  rw [List.getElem?_set]
  split
  · rename_i e
    subst e
    split
    · exact h.symm
    · rename_i h'
      rw [List.getElem?_eq_none (by omega)] at h
      cases h
  · rfl

theorem edCells_set0 {es : List Ed} {k : Nat} (hk : k < es.length) (x : Int) : (edCells es).set (k * 3) (.int .i64 x) = edCells (es.set k ⟨x, (es[k]'hk).l, (es[k]'hk).t⟩) := by
  obtain ⟨h0, h1, h2⟩ := edCells_at es k hk
  rw [edCells_set]
  have g1 : ((edCells es).set (k * 3) (.int .i64 x))[k * 3 + 1]? = some (.int .i64 (es[k]'hk).l) := by rw [List.getElem?_set_ne (by omega)]; exact h1
  have g2 : ((edCells es).set (k * 3) (.int .i64 x))[k * 3 + 2]? = some (.int .i64 (es[k]'hk).t) := by rw [List.getElem?_set_ne (by omega)]; exact h2
  rw [set_same g1, set_same g2]
theorem edCells_set1 {es : List Ed} {k : Nat} (hk : k < es.length) (x : Int) : (edCells es).set (k * 3 + 1) (.int .i64 x) = edCells (es.set k ⟨(es[k]'hk).f, x, (es[k]'hk).t⟩) := by
  obtain ⟨h0, h1, h2⟩ := edCells_at es k hk
  rw [edCells_set]
  have g2 : ((edCells es).set (k * 3 + 1) (.int .i64 x))[k * 3 + 2]? = some (.int .i64 (es[k]'hk).t) := by rw [List.getElem?_set_ne (by omega)]; exact h2
  rw [set_same h0, set_same g2]
theorem edCells_set2 {es : List Ed} {k : Nat} (hk : k < es.length) (x : Int) : (edCells es).set (k * 3 + 2) (.int .i64 x) = edCells (es.set k ⟨(es[k]'hk).f, (es[k]'hk).l, x⟩) := by
  obtain ⟨h0, h1, h2⟩ := edCells_at es k hk
  rw [edCells_set]
  rw [set_same h0, set_same h1]

/-- A copy of a system that the call may write. -/
structure OutSt (w wr : World) (R P B gs : Nat) (al st : Int) (v : Value) (es : List Ed) (L : Nat) : Prop where
  blk : Blk wr gs 28 #[.int .i64 al, .int .i64 st, v]
  own : OwnEds wr B v es
  len : es.length ≤ L
  rd : RdUp wr R P
  keep : KeepB (fun b => b = R) w wr
  hB : w.heap.size ≤ B
  hgs : B ≤ gs
theorem OutSt.ne {w wr : World} {R P B gs : Nat} {al st : Int} {v : Value} {es : List Ed} {L : Nat} (h : OutSt w wr R P B gs al st v es L) : v.ownBlock ≠ some gs := fun e => own_ne h.own h.blk (by decide) gs e rfl
theorem OutSt.call {w wr w1 : World} {R P P' B gs : Nat} {al st : Int} {v : Value} {es : List Ed} {L : Nat} (h : OutSt w wr R P B gs al st v es L) (hk : KeepB (fun b => b = R) wr w1) (hr : RdUp w1 R P') (hR : R < w.heap.size) : OutSt w w1 R P' B gs al st v es L :=
  ⟨h.blk.keep hk (by have := h.hB; have := h.hgs; omega), own_keep h.own hk (fun g hg => by have := (h.own.lt g hg).1; have := h.hB; omega), h.len, hr, h.keep.trans hk, h.hB, h.hgs⟩
theorem OutSt.later {w wr w1 : World} {R P B gs : Nat} {al st : Int} {v : Value} {es : List Ed} {L : Nat} (h : OutSt w wr R P B gs al st v es L) (hb : Below wr.heap.size wr w1) (hR : R < w.heap.size) : OutSt w w1 R P B gs al st v es L := h.call (KeepB.of_below hb) (h.rd.later hb) hR
theorem OutSt.set0 {w wr : World} {R P B gs : Nat} {al st : Int} {v : Value} {es : List Ed} {L : Nat} (h : OutSt w wr R P B gs al st v es L) (hR : R < w.heap.size) (x : Int) : OutSt w (wr.setCell ⟨gs, 0, none⟩ (.int .i64 x)) R P B gs x st v es L := by
  have hk : KeepB (fun b => b = gs) wr (wr.setCell ⟨gs, 0, none⟩ (.int .i64 x)) := (KeepB.refl _ wr).setCell _ _ (by simp)
  have h1 := h.hB
  have h2 := h.hgs
  exact ⟨by simpa using h.blk.set_ 0 (.int .i64 x), ownsRow_setCell_other h.own h.ne _, h.len, h.rd.keep hk (by omega), h.keep.setCell _ _ (fun hlt => by simp at hlt; omega), h1, h2⟩
theorem OutSt.set1 {w wr : World} {R P B gs : Nat} {al st : Int} {v : Value} {es : List Ed} {L : Nat} (h : OutSt w wr R P B gs al st v es L) (hR : R < w.heap.size) (x : Int) : OutSt w (wr.setCell ⟨gs, 1, none⟩ (.int .i64 x)) R P B gs al x v es L := by
  have hk : KeepB (fun b => b = gs) wr (wr.setCell ⟨gs, 1, none⟩ (.int .i64 x)) := (KeepB.refl _ wr).setCell _ _ (by simp)
  have h1 := h.hB
  have h2 := h.hgs
  exact ⟨by simpa using h.blk.set_ 1 (.int .i64 x), ownsRow_setCell_other h.own h.ne _, h.len, h.rd.keep hk (by omega), h.keep.setCell _ _ (fun hlt => by simp at hlt; omega), h1, h2⟩
theorem OutSt.edit {w wr : World} {R P B gs g c : Nat} {al st : Int} {es : List Ed} {L : Nat} (h : OutSt w wr R P B gs al st (.slice (some ⟨g, 0, none⟩) es.length c) es L) (hR : R < w.heap.size) (k j : Nat) (y : Ed) (x : Int) (hk : k < es.length)
    (hj : (edCells es).set j (.int .i64 x) = edCells (es.set k y)) : OutSt w (wr.setCell ⟨g, j, none⟩ (.int .i64 x)) R P B gs al st (.slice (some ⟨g, 0, none⟩) es.length c) (es.set k y) L := by
  have hs := World.ownsRow.stored h.own j (.int .i64 x)
  have h1 := h.hB
  have h2 := h.hgs
  have hg := h.own.lt g rfl
  have hne : gs ≠ g := fun e => h.ne (by rw [e]; rfl)
  have hkk : KeepB (fun b => b = g) wr (wr.setCell ⟨g, j, none⟩ (.int .i64 x)) := (KeepB.refl _ wr).setCell _ _ (by simp)
  refine ⟨h.blk.keep hkk (by omega), ?_, by simpa using h.len, h.rd.keep hkk (by omega), h.keep.setCell _ _ (fun hlt => by simp at hlt; omega), h1, h2⟩
  unfold OwnEds
  rw [List.length_set, ← hj]
  exact hs.1
theorem OutSt.add {w wr w1 : World} {R P B gs : Nat} {al st : Int} {v v' : Value} {es : List Ed} {L : Nat} {x : Ed} (h : OutSt w wr R P B gs al st v es L) (hR : R < w.heap.size)
    (hown : w1.ownsRow B 59 3 v' (es.length + 1) (edCells es ++ [.int .i64 x.f, .int .i64 x.l, .int .i64 x.t])) (hg : wr.grownBy w1 v.ownBlock) (hat : v'.ownBlock = v.ownBlock ∨ v'.ownBlock = some wr.heap.size) :
    OutSt w (w1.setCell ⟨gs, 2, none⟩ v') R P B gs al st v' (es ++ [x]) (L + 1) := by
  have h1 := h.hB
  have h2 := h.hgs
  have hv : ∀ k, v.ownBlock = some k → B ≤ k ∧ k ≠ gs := fun k hk => ⟨(h.own.lt k hk).1, fun e => h.ne (by rw [hk, e])⟩
  have k1 : KeepB (fun b => v.ownBlock = some b) wr w1 := (KeepB.refl _ wr).grown hg (fun k hk _ => hk)
  have hb := h.blk.lt
  have hne' : v'.ownBlock ≠ some gs := fun e => by
    rcases hat with h3 | h3
    · exact h.ne (by rw [← h3, e])
    · rw [h3] at e; injection e with e; omega
  have k2 : KeepB (fun b => v.ownBlock = some b ∨ b = gs) wr (w1.setCell ⟨gs, 2, none⟩ v') := (k1.mono fun _ h => .inl h).setCell _ _ fun _ => .inr rfl
  refine ⟨?_, ?_, by have := h.len; simp; omega, h.rd.keep k2 ?_, (h.keep.grown hg (fun k hk hlt => by have := (hv k hk).1; omega)).setCell _ _ (fun hlt => by simp at hlt; omega), h1, h2⟩
  · have := (h.blk.keep k1 (fun hk => (hv _ hk).2 rfl)).set_ 2 v'
    simpa using this
  · have e : (es ++ [x]).length = es.length + 1 := by simp
    unfold OwnEds
    rw [e, edCells_append]
    exact ownsRow_setCell_other hown hne' _
  · rintro k (hk | rfl)
    · have := (hv k hk).1; omega
    · omega
theorem OutSt.up {w w0 wr : World} {R P P' B gs : Nat} {al st : Int} {v : Value} {es : List Ed} {L L' : Nat} (h : OutSt w0 wr R P B gs al st v es L) (hb : Below w.heap.size w w0) (hP : P ≤ P') (hL : L ≤ L') : OutSt w wr R P' B gs al st v es L' :=
  ⟨h.blk, h.own, by have := h.len; omega, h.rd.more hP, (KeepB.of_below hb).trans h.keep, Nat.le_trans hb.size h.hB, h.hgs⟩
theorem EdsAt.news {w : World} {B : Nat} {A : Option Addr} {es : List Ed} (h : EdsAt w B A es) (hn : 0 < es.length) : ∃ a, A = some a ∧ ∀ (j : Nat) u, (edCells es)[j]? = some u → w.cell? (a.add j) = some u := by
  obtain ⟨b, o, hA, -, hE⟩ := h hn
  refine ⟨_, hA, fun j u hj => ?_⟩
  have hjl : j < es.length * 3 := by
    rw [← edCells_len]
    rcases Nat.lt_or_ge j (edCells es).length with h | h
    · exact h
    · rw [List.getElem?_eq_none h] at hj; cases hj
  have hadd : (⟨b, o, none⟩ : Addr).add j = ⟨b, o + j, none⟩ := by unfold Addr.add; split <;> simp_all
  rw [hadd]
  have hi : j / 3 < es.length := by omega
  obtain ⟨c0, c1, c2⟩ := hE (j / 3) hi
  obtain ⟨d0, d1, d2⟩ := edCells_at es (j / 3) hi
  rcases (by omega : j = j / 3 * 3 ∨ j = j / 3 * 3 + 1 ∨ j = j / 3 * 3 + 2) with e | e | e
  · rw [← e] at d0; rw [hj] at d0; rw [← c0] at d0; rw [show o + j = o + j / 3 * 3 from by omega]; exact d0.symm
  · rw [← e] at d1; rw [hj] at d1; rw [← c1] at d1; rw [show o + j = o + j / 3 * 3 + 1 from by omega]; exact d1.symm
  · rw [← e] at d2; rw [hj] at d2; rw [← c2] at d2; rw [show o + j = o + j / 3 * 3 + 2 from by omega]; exact d2.symm
theorem edCells_one : ∀ (es : List Ed) (u : Value), u ∈ edCells es → u.oneCell' = true
  | [], u, h => by cases h
  | e :: es, u, h => by
    simp only [edCells, List.mem_cons] at h
    rcases h with rfl | rfl | rfl | h
    · rfl
    · rfl
    · rfl
    · exact edCells_one es u h

end Go.Proofs.YtdkjnemakkppfaaDoor

/- The drawing kit: l2Big, l2Any. -/
namespace Go.Proofs.YtdkjnemakkppfaaDoor
open Go.RowKit Go.BigFrame AG

theorem EdsAt.keepR {w w' : World} {R : Nat} {A : Option Addr} {es : List Ed} (h : EdsAt w w.heap.size A es) (hk : KeepB (fun b => b = R) w w') (hf : FreshA (R + 1) A) : EdsAt w' w'.heap.size A es := fun hl => by
  obtain ⟨b, o, hA, hb, hE⟩ := h hl
  have h1 := hf b o hA
  refine ⟨b, o, hA, Nat.lt_of_lt_of_le hb hk.size, fun i hi => ?_⟩
  rw [KeepB.cell_ hk hb (by show ¬ b = R; omega), KeepB.cell_ hk hb (by show ¬ b = R; omega), KeepB.cell_ hk hb (by show ¬ b = R; omega)]
  exact hE i hi

theorem RndSt.call {w wr w1 : World} {R P gs : Nat} {al st : Int} {lv : Value} {ls : List Nat} {N N' : Nat} {v : Value} {es : List Ed} (h : RndSt w wr R P gs al st lv ls N v es) (hR : R < w.heap.size) (hgs : w.heap.size < gs) (hN : N ≤ N') (hr : RdUp w1 R (P + N')) (hk : KeepB (fun b => b = R) wr w1) :
    RndSt w w1 R P gs al st lv ls N' v es :=
  ⟨by have := h.len; omega, h.blk.keep hk (by omega), own_keep h.own hk (fun g hg => by have := (h.own.lt g hg).1; omega), own_keep h.list hk (fun g hg => by have := (World.ownsRow.lt h.list g hg).1; omega), hr, h.keep.trans hk, h.res.keep hk (by omega)⟩
theorem RndSt.more {w wr : World} {R P gs : Nat} {al st : Int} {lv : Value} {ls : List Nat} {N N' : Nat} {v : Value} {es : List Ed} (h : RndSt w wr R P gs al st lv ls N v es) (hN : N ≤ N') : RndSt w wr R P gs al st lv ls N' v es :=
  ⟨by have := h.len; omega, h.blk, h.own, h.list, h.rd.more (by omega), h.keep, h.res⟩
/-- As SyUp, with an edge at least. -/
def SyUp1 (R P L : Nat) (w : World) (e : Ending) (w' : World) : Prop :=
  ∃ (s : Sy) (A : Option Addr) (c : Nat), e = .returned (s.val A c) ∧ s.es.length ≤ c ∧ c ≤ 9223372036854775807 ∧ s.es.length ≤ L ∧ EdsAt w' w'.heap.size A s.es ∧ FreshA w.heap.size A ∧ RdUp w' R P ∧ KeepB (fun b => b = R) w w' ∧ 1 ≤ s.es.length
theorem SyUp1.of {R P L : Nat} {w w' : World} {s : Sy} {A : Option Addr} {c : Nat} (h : SyUp R P L w (.returned (s.val A c)) w') (hn : 1 ≤ s.es.length) : SyUp1 R P L w (.returned (s.val A c)) w' := by
  obtain ⟨s', A', c', e, a1, a2, a3, a4, a5, a6, a7⟩ := h
  have hl : s'.es.length = s.es.length := by
    unfold Sy.val at e
    injection e with e
    injection e with e
    simp at e
    exact e.2.2.2.1.symm
  exact ⟨s', A', c', e, a1, a2, a3, a4, a5, a6, a7, by omega⟩

end Go.Proofs.YtdkjnemakkppfaaDoor

/- The drawing kit's pick, whatever number is asked for. -/
namespace Go.Proofs.YtdkjnemakkppfaaDoor
open Go.RowKit Go.BigFrame AG

set_option maxRecDepth 100000 in
set_option maxHeartbeats 2000000 in
theorem pick_anyF (R : Nat) (A : Option Addr) (n c p : Nat) (m : Int) (w : World) (hp : p < 1125899906842624) (hr : RdAt w R A n c p) :
    Calls Tryd.prog 47 #[.pointer (some ⟨R, 0, none⟩), .int .i64 m] w fun e w' => ∃ k : Int, e = .returned (.int .i64 k) ∧ 0 ≤ k ∧ (k < m ∨ k = 0) ∧ RdAt w' R A n c (p + 1) ∧ KeepB (fun b => b = R) w w' := by
  have hblk := hr.blk
  have hR := hblk.lt
  have e0 : w.cell? ⟨R, 0, none⟩ = some (.slice A n c) := by rw [hblk.cell]; rfl
  have e1 : w.cell? ⟨R, 1, none⟩ = some (.int .i64 (p : Int)) := by rw [hblk.cell]; rfl
  have hfr : w.frozen? ⟨R, 1, none⟩ = false := hblk.frozen 1
  have hlen := hr.len
  have hcap := hr.cap
  have htop := hr.top
  replace hr := hid hr
  replace hblk := hid hblk
  have hst := hid (hr.out.step (v := .int .i64 ((p : Int) + 1)) hp rfl)
  by_cases hm1 : m < 1
  · go_enter Tryd.func47, Tryd.ntmps47
    go_wp2
    go_ret
    exact ⟨0, rfl, by omega, .inr rfl, hst.out.1, hst.out.2⟩
  · have hm0 : (m == 0) = false := by simp; omega
    by_cases hn : n = 0
    · subst hn
      go_enter Tryd.func47, Tryd.ntmps47
      go_wp2
      go_ret
      exact ⟨0, rfl, by omega, .inr rfl, hst.out.1, hst.out.2⟩
    · obtain ⟨b, o, rfl, hltR, hx⟩ := hr.out.bytes (by omega)
      have hne : b ≠ R := by omega
      have hlt : b < w.heap.size := by omega
      have hn0 : ((n : Int) == 0) = false := by simp; omega
      by_cases hpn : p < n
      · obtain ⟨x, hx1, hx2⟩ := hx p hpn
        have hmod : 0 ≤ (x : Int) % m ∧ (x : Int) % m < m := ⟨Int.emod_nonneg _ (by omega), Int.emod_lt_of_pos _ (by omega)⟩
        replace hx := hid hx
        replace hmod := hid hmod
        have hneA : (⟨R, 1, none⟩ : Addr) ≠ ⟨b, o + p, none⟩ := addr_ne hne
        go_enter Tryd.func47, Tryd.ntmps47
        go_wp2
        go_ret
        exact ⟨_, rfl, hmod.out.1, .inl hmod.out.2, hst.out.1, hst.out.2⟩
      · have hw1 := hst.out.1
        obtain ⟨i1, hi1⟩ : ∃ i1, i1 = p % n := ⟨_, rfl⟩
        obtain ⟨i2, hi2⟩ : ∃ i2, i2 = (p * 7 + 3) % n := ⟨_, rfl⟩
        obtain ⟨q, hq⟩ : ∃ q, q = p / n := ⟨_, rfl⟩
        have hi1n : i1 < n := by rw [hi1]; exact Nat.mod_lt _ (by omega)
        have hi2n : i2 < n := by rw [hi2]; exact Nat.mod_lt _ (by omega)
        have hqp : q ≤ p := by rw [hq]; exact Nat.div_le_self _ _
        have k1 : (p : Int) % (n : Int) = (i1 : Int) := by rw [hi1]; omega
        have k2 : ((p : Int) * 7 + 3) % (n : Int) = (i2 : Int) := by rw [hi2]; simp
        have k3 : (p : Int) / (n : Int) = (q : Int) := by rw [hq]; omega
        obtain ⟨b', o', hA', -, hx'⟩ := hw1.bytes (by omega)
        injection hA' with hA'
        injection hA' with hA1 hA2
        subst hA1 hA2
        obtain ⟨x1, hx1, hy1⟩ := hx' i1 hi1n
        obtain ⟨x2, hx2, hy2⟩ := hx' i2 hi2n
        have hblk1 := hw1.blk
        replace hx := hid hx
        replace hx' := hid hx'
        replace hi1 := hid hi1
        replace hi2 := hid hi2
        replace hq := hid hq
        obtain ⟨w1, hw1e⟩ : ∃ w1, w1 = w.setCell ⟨R, 1, none⟩ (.int .i64 ((p : Int) + 1)) := ⟨_, rfl⟩
        rw [← hw1e] at hy1 hy2 hblk1
        have g0 : ∀ y, (Fam w1.heap.size w1 y).cell? ⟨R, 0, none⟩ = some (.slice (some ⟨b, o, none⟩) n c) := fun y => by rw [(Fam.below _ _ y).cell (by simpa using hblk1.lt), hblk1.cell]; rfl
        have hb1 : b < w1.heap.size := by rw [hw1e]; simpa using hlt
        have g1 : ∀ y, (Fam w1.heap.size w1 y).cell? ⟨b, o + i1, none⟩ = some (.int .u8 (x1 : Int)) := fun y => by rw [(Fam.below _ _ y).cell (by simpa using hb1)]; exact hy1
        have g2 : ∀ y, (Fam w1.heap.size w1 y).cell? ⟨b, o + i2, none⟩ = some (.int .u8 (x2 : Int)) := fun y => by rw [(Fam.below _ _ y).cell (by simpa using hb1)]; exact hy2
        replace hw1e := hid hw1e
        replace hw1 := hid hw1
        replace hblk1 := hid hblk1
        clear hy1 hy2
        have hxor := hid (xor_nonneg (a := (x1 : Int) * 131 + x2 * 1117 + p * 29 + q * 53) (b := ((x1 : Int) * 131 + x2 * 1117 + p * 29 + q * 53) / 64) (by omega) (by omega))
        go_enter Tryd.func47, Tryd.ntmps47
        go_wp2_with fail
        rw [← hw1e.out]
        refine wp_region_fam w1.heap.size w1 (by kernel_rfl) (by kernel_rfl) (Below.refl _ _) ?_
        (repeat (go_big_quiet_step (fail)))
        refine wpQuiet_nil ?_
        intro w2 hw2
        replace hw2 := Fam.out hw2
        go_wp2
        go_ret
        have hw1' : RdAt w1 R (some ⟨b, o, none⟩) n c (p + 1) := by rw [hw1e.out]; exact hw1.out
        have hk1 : KeepB (fun b => b = R) w w1 := by rw [hw1e.out]; exact hst.out.2
        exact ⟨_, rfl, Int.tmod_nonneg _ hxor.out.1, .inl (Int.tmod_lt_of_pos _ (by omega)), hw1'.later hw2, hk1.trans (KeepB.of_below hw2)⟩

theorem pick_upF (R P : Nat) (m : Int) (w : World) (hP : P < 1125899906842624) (h : RdUp w R P) :
    Calls Tryd.prog 47 #[.pointer (some ⟨R, 0, none⟩), .int .i64 m] w (PickPost R P m w) := by
  obtain ⟨A, n, c, p, h1, h2⟩ := h
  exact (pick_anyF R A n c p m w (by omega) h2).mono fun e w' ⟨k, a1, a2, a3, a4, a5⟩ => ⟨k, a1, a2, a3, ⟨A, n, c, p + 1, by omega, a4⟩, a5⟩

end Go.Proofs.YtdkjnemakkppfaaDoor

/- The drawing kit: l6Change. -/
namespace Go.Proofs.YtdkjnemakkppfaaDoor
open Go.RowKit Go.BigFrame AG

/-- What l6Change holds: the copy as far as it is made, and the edge x. -/
structure ChSt (w0 wr : World) (R P gs ge : Nat) (al st : Int) (v : Value) (es : List Ed) (L : Nat) (x : Ed) : Prop where
  out : OutSt w0 wr R P w0.heap.size gs al st v es L
  ed : Blk wr ge 59 #[.int .i64 x.f, .int .i64 x.l, .int .i64 x.t]
  far : ∀ k, v.ownBlock = some k → ge < k
  lt : gs < ge
theorem ChSt.call {w0 wr w1 : World} {R P P' gs ge : Nat} {al st : Int} {v : Value} {es : List Ed} {L : Nat} {x : Ed} (h : ChSt w0 wr R P gs ge al st v es L x) (hk : KeepB (fun b => b = R) wr w1) (hr : RdUp w1 R P') (hR : R < w0.heap.size) : ChSt w0 w1 R P' gs ge al st v es L x :=
  ⟨h.out.call hk hr hR, h.ed.keep hk (by have := h.lt; have := h.out.hgs; omega), h.far, h.lt⟩
theorem ChSt.later {w0 wr w1 : World} {R P gs ge : Nat} {al st : Int} {v : Value} {es : List Ed} {L : Nat} {x : Ed} (h : ChSt w0 wr R P gs ge al st v es L x) (hb : Below wr.heap.size wr w1) (hR : R < w0.heap.size) : ChSt w0 w1 R P gs ge al st v es L x := h.call (KeepB.of_below hb) (h.out.rd.later hb) hR
theorem ChSt.more {w0 wr : World} {R P P' gs ge : Nat} {al st : Int} {v : Value} {es : List Ed} {L L' : Nat} {x : Ed} (h : ChSt w0 wr R P gs ge al st v es L x) (hP : P ≤ P') (hL : L ≤ L') : ChSt w0 wr R P' gs ge al st v es L' x :=
  ⟨⟨h.out.blk, h.out.own, by have := h.out.len; omega, h.out.rd.more hP, h.out.keep, h.out.hB, h.out.hgs⟩, h.ed, h.far, h.lt⟩
theorem ChSt.add {w0 wr w1 : World} {R P gs ge : Nat} {al st : Int} {v v' : Value} {es : List Ed} {L : Nat} {x y : Ed} (h : ChSt w0 wr R P gs ge al st v es L x) (hR : R < w0.heap.size)
    (hown : w1.ownsRow w0.heap.size 59 3 v' (es.length + 1) (edCells es ++ [.int .i64 y.f, .int .i64 y.l, .int .i64 y.t])) (hg : wr.grownBy w1 v.ownBlock) (hat : v'.ownBlock = v.ownBlock ∨ v'.ownBlock = some wr.heap.size) :
    ChSt w0 (w1.setCell ⟨gs, 2, none⟩ v') R P gs ge al st v' (es ++ [y]) (L + 1) x := by
  have h1 := h.lt
  have hge := h.ed.lt
  have k1 : KeepB (fun b => v.ownBlock = some b) wr w1 := (KeepB.refl _ wr).grown hg (fun k hk _ => hk)
  have k2 : KeepB (fun b => v.ownBlock = some b ∨ b = gs) wr (w1.setCell ⟨gs, 2, none⟩ v') := (k1.mono fun _ h => .inl h).setCell _ _ fun _ => .inr rfl
  refine ⟨h.out.add hR hown hg hat, h.ed.keep k2 (by rintro (hk | hk); (have := h.far _ hk; omega); omega), fun k hk => ?_, h1⟩
  rcases hat with e | e
  · rw [e] at hk; exact h.far k hk
  · rw [e] at hk; injection hk with hk; omega

end Go.Proofs.YtdkjnemakkppfaaDoor

/- The drawing kit: l6Pair. -/
namespace Go.Proofs.YtdkjnemakkppfaaDoor
open Go.RowKit Go.BigFrame AG

/-- A system that was drawn since w, whose edges lie in no block of K. -/
structure GotSy (w wr : World) (R L : Nat) (K : Nat → Prop) (s : Sy) (A : Option Addr) (c : Nat) : Prop where
  le : s.es.length ≤ c
  top : c ≤ 9223372036854775807
  len : s.es.length ≤ L
  at_ : EdsAt wr wr.heap.size A s.es
  fresh : FreshA w.heap.size A
  far : 0 < s.es.length → ∀ b o, A = some ⟨b, o, none⟩ → ¬ K b
theorem GotSy.keep {w wr w1 : World} {R L : Nat} {K J : Nat → Prop} {s : Sy} {A : Option Addr} {c : Nat} (h : GotSy w wr R L K s A c) (hk : KeepB J wr w1) (hJ : ∀ b, w.heap.size ≤ b → J b → K b) : GotSy w w1 R L K s A c := by
  refine ⟨h.le, h.top, h.len, fun hn => ?_, h.fresh, h.far⟩
  obtain ⟨b, o, hA, hb, hE⟩ := h.at_ hn
  have h1 := h.fresh b o hA
  have h2 := h.far hn b o hA
  have hnb : ¬ J b := fun e => h2 (hJ b h1 e)
  refine ⟨b, o, hA, Nat.lt_of_lt_of_le hb hk.size, fun i hi => ?_⟩
  rw [KeepB.cell_ hk hb hnb, KeepB.cell_ hk hb hnb, KeepB.cell_ hk hb hnb]
  exact hE i hi
theorem GotSy.call {w wr w1 : World} {R L : Nat} {K : Nat → Prop} {s : Sy} {A : Option Addr} {c : Nat} (h : GotSy w wr R L K s A c) (hk : KeepB (fun b => b = R) wr w1) (hR : R < w.heap.size) : GotSy w w1 R L K s A c := h.keep hk fun b h1 h2 => by omega
theorem GotSy.more {w wr : World} {R L L' : Nat} {K : Nat → Prop} {s : Sy} {A : Option Addr} {c : Nat} (h : GotSy w wr R L K s A c) (hL : L ≤ L') : GotSy w wr R L' K s A c := ⟨h.le, h.top, by have := h.len; omega, h.at_, h.fresh, h.far⟩
/-- What a drawing call gives is apart from all that was there. -/
theorem GotSy.new {w wr w1 : World} {R L : Nat} {K : Nat → Prop} {s : Sy} {A : Option Addr} {c : Nat} (h1 : s.es.length ≤ c) (h2 : c ≤ 9223372036854775807) (h3 : s.es.length ≤ L) (h4 : EdsAt w1 w1.heap.size A s.es) (h5 : FreshA wr.heap.size A) (hw : w.heap.size ≤ wr.heap.size) (hK : ∀ b, K b → b < wr.heap.size) : GotSy w w1 R L K s A c :=
  ⟨h1, h2, h3, h4, fun b o e => by have := h5 b o e; omega, fun _ b o e hk => by have := h5 b o e; have := hK b hk; omega⟩

/-- Two systems in two blocks. -/
structure TwoSt (w wr : World) (R P L b4 b5 : Nat) (s t : Sy) (A B : Option Addr) (c d : Nat) : Prop where
  sb : Blk wr b4 28 #[.int .i64 s.al, .int .i64 s.st, .slice A s.es.length c]
  tb : Blk wr b5 28 #[.int .i64 t.al, .int .i64 t.st, .slice B t.es.length d]
  sg : GotSy w wr R L (fun b => b = b4 ∨ b = b5) s A c
  tg : GotSy w wr R L (fun b => b = b4 ∨ b = b5) t B d
  rd : RdUp wr R P
  keep : KeepB (fun b => b = R) w wr
  l4 : w.heap.size ≤ b4
  l5 : w.heap.size ≤ b5
  ne : b4 ≠ b5
theorem TwoSt.call {w wr w1 : World} {R P P' L b4 b5 : Nat} {s t : Sy} {A B : Option Addr} {c d : Nat} (h : TwoSt w wr R P L b4 b5 s t A B c d) (hk : KeepB (fun b => b = R) wr w1) (hr : RdUp w1 R P') (hR : R < w.heap.size) : TwoSt w w1 R P' L b4 b5 s t A B c d :=
  ⟨h.sb.keep hk (by have := h.l4; omega), h.tb.keep hk (by have := h.l5; omega), h.sg.call hk hR, h.tg.call hk hR, hr, h.keep.trans hk, h.l4, h.l5, h.ne⟩
theorem TwoSt.more {w wr : World} {R P P' L L' b4 b5 : Nat} {s t : Sy} {A B : Option Addr} {c d : Nat} (h : TwoSt w wr R P L b4 b5 s t A B c d) (hP : P ≤ P') (hL : L ≤ L') : TwoSt w wr R P' L' b4 b5 s t A B c d :=
  ⟨h.sb, h.tb, h.sg.more hL, h.tg.more hL, h.rd.more hP, h.keep, h.l4, h.l5, h.ne⟩
theorem TwoSt.setS {w wr : World} {R P L b4 b5 : Nat} {s t s' : Sy} {A B A' : Option Addr} {c d c' : Nat} (h : TwoSt w wr R P L b4 b5 s t A B c d) (hs : GotSy w wr R L (fun b => b = b4 ∨ b = b5) s' A' c') (hR : R < w.heap.size) :
    TwoSt w (((wr.setCell ⟨b4, 0, none⟩ (.int .i64 s'.al)).setCell ⟨b4, 1, none⟩ (.int .i64 s'.st)).setCell ⟨b4, 2, none⟩ (.slice A' s'.es.length c')) R P L b4 b5 s' t A' B c' d := by
  have hk : KeepB (fun b => b = b4) wr (((wr.setCell ⟨b4, 0, none⟩ (.int .i64 s'.al)).setCell ⟨b4, 1, none⟩ (.int .i64 s'.st)).setCell ⟨b4, 2, none⟩ (.slice A' s'.es.length c')) := (((KeepB.refl _ wr).setCell _ _ (by simp)).setCell _ _ (by simp)).setCell _ _ (by simp)
  have h4 := h.l4
  have h5 := h.l5
  have hne := h.ne
  refine ⟨by simpa using ((h.sb.set_ 0 (.int .i64 s'.al)).set_ 1 (.int .i64 s'.st)).set_ 2 (.slice A' s'.es.length c'), h.tb.keep hk (by omega), hs.keep hk (fun b _ e => .inl e), h.tg.keep hk (fun b _ e => .inl e), h.rd.keep hk (by omega), ?_, h4, h5, hne⟩
  exact ((h.keep.setCell _ _ (by simp; omega)).setCell _ _ (by simp; omega)).setCell _ _ (by simp; omega)
theorem TwoSt.setT {w wr : World} {R P L b4 b5 : Nat} {s t t' : Sy} {A B B' : Option Addr} {c d d' : Nat} (h : TwoSt w wr R P L b4 b5 s t A B c d) (ht : GotSy w wr R L (fun b => b = b4 ∨ b = b5) t' B' d') (hR : R < w.heap.size) :
    TwoSt w (((wr.setCell ⟨b5, 0, none⟩ (.int .i64 t'.al)).setCell ⟨b5, 1, none⟩ (.int .i64 t'.st)).setCell ⟨b5, 2, none⟩ (.slice B' t'.es.length d')) R P L b4 b5 s t' A B' c d' := by
  have hk : KeepB (fun b => b = b5) wr (((wr.setCell ⟨b5, 0, none⟩ (.int .i64 t'.al)).setCell ⟨b5, 1, none⟩ (.int .i64 t'.st)).setCell ⟨b5, 2, none⟩ (.slice B' t'.es.length d')) := (((KeepB.refl _ wr).setCell _ _ (by simp)).setCell _ _ (by simp)).setCell _ _ (by simp)
  have h4 := h.l4
  have h5 := h.l5
  have hne := h.ne
  refine ⟨h.sb.keep hk (by omega), by simpa using ((h.tb.set_ 0 (.int .i64 t'.al)).set_ 1 (.int .i64 t'.st)).set_ 2 (.slice B' t'.es.length d'), h.sg.keep hk (fun b _ e => .inr e), ht.keep hk (fun b _ e => .inr e), h.rd.keep hk (by omega), ?_, h4, h5, hne⟩
  exact ((h.keep.setCell _ _ (by simp; omega)).setCell _ _ (by simp; omega)).setCell _ _ (by simp; omega)

/-- A statement at a block's end may be cut around too. -/
theorem cut_here {P : Program} {c : Code} {Q : Exit → Act → World → Prop} {a : Act} {w : World} (h : ∀ K : Act → World → Prop, (∀ a w, Q .normal a w → K a w) → c.wp P (Exit.then K Q) a w) : c.wp P Q a w := by
  refine wp_mono (h (fun a w => Q .normal a w) fun _ _ q => q) ?_
  intro e a' w' hq
  cases e <;> exact hq

theorem EdsAt.take {w : World} {B : Nat} {A : Option Addr} {es : List Ed} (h : EdsAt w B A es) (n : Nat) : EdsAt w B A (es.take n) := fun hn => by
  rw [List.length_take] at hn
  obtain ⟨b, o, h1, h2, h3⟩ := h (by omega)
  refine ⟨b, o, h1, h2, fun i hi => ?_⟩
  have := h3 i (by rw [List.length_take] at hi; omega)
  simpa [List.getElem_take] using this

def PairUp (R P L : Nat) (w : World) (e : Ending) (w' : World) : Prop :=
  ∃ (s t : Sy) (A B : Option Addr) (c d : Nat), e = .returned (.tuple #[s.val A c, t.val B d]) ∧ GotSy w w' R L (fun _ => False) s A c ∧ GotSy w w' R L (fun _ => False) t B d ∧ RdUp w' R P ∧ KeepB (fun b => b = R) w w'

theorem PairUp.drew {R P L : Nat} {w w' : World} {e : Ending} (h : PairUp R P L w e w') : PairUp R P L w e w'.drew := by
  obtain ⟨s, t, A, B, c, d, he, h1, h2, h3, h4⟩ := h
  have hb : Below w'.heap.size w' w'.drew := (Below.refl _ _).drew
  exact ⟨s, t, A, B, c, d, he, h1.keep (KeepB.of_below (K := fun _ => False) hb) (fun _ _ h => h), h2.keep (KeepB.of_below (K := fun _ => False) hb) (fun _ _ h => h), h3.later hb, h4.trans (KeepB.of_below hb)⟩
end Go.Proofs.YtdkjnemakkppfaaDoor

/- The drawing kit: the pairs of systems that are drawn for FirstTraceOutside, TracesWithin, SameTraces. -/
namespace Go.Proofs.YtdkjnemakkppfaaDoor
open Go.RowKit Go.BigFrame AG

def DrawPair (w : World) (e : Ending) (w' : World) : Prop := ∃ (s t : Sy) (A B : Option Addr) (c d : Nat), e = .returned (.tuple #[s.val A c, t.val B d]) ∧ s.es.length ≤ c ∧ c ≤ 9223372036854775807 ∧ t.es.length ≤ d ∧ d ≤ 9223372036854775807 ∧
  EdsAt w' w'.heap.size A s.es ∧ EdsAt w' w'.heap.size B t.es ∧ Below w.heap.size w w'
theorem DrawPair.of {w w1 wr : World} {R L : Nat} {K J : Nat → Prop} {s t : Sy} {A B : Option Addr} {c d : Nat} (h1 : GotSy w1 wr R L K s A c) (h2 : GotSy w1 wr R L J t B d) (hz : w.heap.size + 2 ≤ w1.heap.size) (hb : Below w.heap.size w wr) (v1 v2 v3 v4 v5 v6 : Value) :
    DrawPair w (.returned (.tuple #[.agg #[.int .i64 s.al, .int .i64 s.st, .slice A s.es.length c], .agg #[.int .i64 t.al, .int .i64 t.st, .slice B t.es.length d]]))
      ((((((wr.setCell ⟨w.heap.size, 0, none⟩ v1).setCell ⟨w.heap.size, 1, none⟩ v2).setCell ⟨w.heap.size, 2, none⟩ v3).setCell ⟨w.heap.size + 1, 0, none⟩ v4).setCell ⟨w.heap.size + 1, 1, none⟩ v5).setCell ⟨w.heap.size + 1, 2, none⟩ v6) := by
  have hk : KeepB (fun b => b = w.heap.size ∨ b = w.heap.size + 1) wr ((((((wr.setCell ⟨w.heap.size, 0, none⟩ v1).setCell ⟨w.heap.size, 1, none⟩ v2).setCell ⟨w.heap.size, 2, none⟩ v3).setCell ⟨w.heap.size + 1, 0, none⟩ v4).setCell ⟨w.heap.size + 1, 1, none⟩ v5).setCell ⟨w.heap.size + 1, 2, none⟩ v6) :=
    ((((((KeepB.refl _ wr).setCell _ _ (by simp)).setCell _ _ (by simp)).setCell _ _ (by simp)).setCell _ _ (by simp)).setCell _ _ (by simp)).setCell _ _ (by simp)
  exact ⟨s, t, A, B, c, d, rfl, h1.le, h1.top, h2.le, h2.top, (h1.keep hk fun b h1 h2 => by omega).at_, (h2.keep hk fun b h1 h2 => by omega).at_, KeepB.below hb hk hb.size (fun k hk => by omega)⟩



end Go.Proofs.YtdkjnemakkppfaaDoor

/- The two tables of math/bits that the cards list: what a walk reads of them, and a world that holds them. -/
namespace Go.Proofs.YtdkjnemakkppfaaDoor
open Go.ChangeShapes Go.WideShapes Go.ChangeAt Go.RowKit AG

theorem g64 : Tryd.prog.globalNamed "math/bits.deBruijn64tab" = some 1 := by kernel_rfl
theorem g64Type : (Tryd.prog.globals[1]?).map (·.type) = some 159 := by kernel_rfl
theorem g64Under : Tryd.prog.underlying 159 = some (.array 64 5) := by kernel_rfl
theorem u8Under : Tryd.prog.underlying 5 = some (.int .u8) := by kernel_rfl
theorem u8Cells : Tryd.prog.cellsOf 5 = 1 := by kernel_rfl
theorem g64Cells : Tryd.prog.cellsOf 159 = 64 := by kernel_rfl

theorem tab_of_laid {W : World} (h : laidMetH Tryd.prog [("math/bits.deBruijn32tab", Rows.laid_math_bits_deBruijn32tab), ("math/bits.deBruijn64tab", Rows.laid_math_bits_deBruijn64tab)] W) : Tab W := by
  have h1 : laidMet Tryd.prog [("math/bits.deBruijn32tab", Rows.laid_math_bits_deBruijn32tab), ("math/bits.deBruijn64tab", Rows.laid_math_bits_deBruijn64tab)] W := h
  have h2 : laidMet Tryd.prog (("math/bits.deBruijn64tab", Lib.tabData .u8 (Lib.deBruijn64tab.map Int.ofNat)) :: []) W := laidMet.tail h1
  have h3 := Lib.tabIs_of_head g64 g64Type g64Under u8Under u8Cells g64Cells h2
  intro j hj
  rw [h3.cell g64 j (by simpa using hj)]
  simp [List.getD, hj]

def layTab (zs : List Nat) : Obj → Obj
  | .cells _ t frozen => .cells (zs.map fun n => Value.int .u8 (Int.ofNat n)).toArray t frozen
  | o => o

/-- A world for the witness: the settled one, the two tables holding what their initialisers lay. -/
noncomputable def laidWorld (os : Os) : World :=
  { World.holding Tryd.prog os ⟨#[], #[], []⟩ with heap := ((World.holding Tryd.prog os ⟨#[], #[], []⟩).heap.modify 0 (layTab Lib.deBruijn32tab)).modify 1 (layTab Lib.deBruijn64tab) }


end Go.Proofs.YtdkjnemakkppfaaDoor
