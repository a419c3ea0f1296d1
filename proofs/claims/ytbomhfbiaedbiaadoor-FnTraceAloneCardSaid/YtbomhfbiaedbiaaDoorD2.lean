/- The drawing kit: l19Open, num, of. -/
import Derived.Test.YtbomhfbiaedbiaaDoorD1
namespace Go.Proofs.YtbomhfbiaedbiaaDoor
open Go.RowKit Go.BigFrame AG

theorem KeepB.cell_ {K : Nat → Prop} {w w' : World} (h : KeepB K w w') {p : Addr} (hb : p.block < w.heap.size) (hK : ¬ K p.block) : w'.cell? p = w.cell? p := by
  unfold World.cell?
  rw [h.block _ hb hK]

set_option maxHeartbeats 1000000 in
theorem num_up (R P g o k cap : Nat) (xs : List Int) (w : World) (hxl : xs.length = k) (hk : 0 < k) (hk2 : k ≤ 4294967296) (hP : P < 1125899906842624)
    (hgR : g ≠ R) (hgl : g < w.heap.size) (hxs : ∀ i (h : i < xs.length), w.cell? ⟨g, o + i, none⟩ = some (.int .i64 xs[i])) (hr : RdUp w R P) :
    Calls Tryd.prog 83 #[.pointer (some ⟨R, 0, none⟩), .slice (some ⟨g, o, none⟩) k cap] w fun e w' => ∃ x, x ∈ xs ∧ e = .returned (.int .i64 x) ∧ RdUp w' R (P + 1) ∧ KeepB (fun b => b = R) w w' := by
  replace hr := hid hr
  replace hxs := hid hxs
  go_enter Tryd.func83, Tryd.ntmps83
  go_wp2_with fail
  refine (pick_up R P k w hP (by omega) hr.out).mono ?_
  rintro e w1 ⟨j, rfl, hj0, hj1, hr1, hk1⟩
  obtain ⟨i, rfl⟩ := Int.eq_ofNat_of_zero_le hj0
  have hik : i < xs.length := by omega
  have e1 : w1.cell? ⟨g, o + i, none⟩ = some (.int .i64 xs[i]) := by rw [KeepB.cell_ hk1 (p := ⟨g, o + i, none⟩) hgl hgR]; exact hxs.out i hik
  have hik2 : (i : Int) < (k : Int) := by omega
  replace hr1 := hid hr1
  replace hk1 := hid hk1
  clear hj1
  go_wp2
  go_ret
  exact ⟨_, List.getElem_mem _, rfl, hr1.out, hk1.out⟩

set_option maxHeartbeats 1000000 in
theorem of_up (R P g o k cap : Nat) (xs : List ByteArray) (w : World) (hxl : xs.length = k) (hk : 0 < k) (hk2 : k ≤ 4294967296) (hP : P < 1125899906842624)
    (hgR : g ≠ R) (hgl : g < w.heap.size) (hxs : ∀ i (h : i < xs.length), w.cell? ⟨g, o + i, none⟩ = some (.string xs[i])) (hr : RdUp w R P) :
    Calls Tryd.prog 146 #[.pointer (some ⟨R, 0, none⟩), .slice (some ⟨g, o, none⟩) k cap] w fun e w' => ∃ x, x ∈ xs ∧ e = .returned (.string x) ∧ RdUp w' R (P + 1) ∧ KeepB (fun b => b = R) w w' := by
  replace hr := hid hr
  replace hxs := hid hxs
  go_enter Tryd.func146, Tryd.ntmps146
  go_wp2_with fail
  refine (pick_up R P k w hP (by omega) hr.out).mono ?_
  rintro e w1 ⟨j, rfl, hj0, hj1, hr1, hk1⟩
  obtain ⟨i, rfl⟩ := Int.eq_ofNat_of_zero_le hj0
  have hik : i < xs.length := by omega
  have e1 : w1.cell? ⟨g, o + i, none⟩ = some (.string xs[i]) := by rw [KeepB.cell_ hk1 (p := ⟨g, o + i, none⟩) hgl hgR]; exact hxs.out i hik
  have hik2 : (i : Int) < (k : Int) := by omega
  replace hr1 := hid hr1
  replace hk1 := hid hk1
  clear hj1
  go_wp2
  go_ret
  exact ⟨_, List.getElem_mem _, rfl, hr1.out, hk1.out⟩

/-- The bytes of an argument, below block B. -/
def CodeAt (w : World) (A : Option Addr) (n : Nat) : Prop := 0 < n → ∃ b o, A = some ⟨b, o, none⟩ ∧ b < w.heap.size ∧ ∀ i, i < n → ∃ x : Nat, x < 256 ∧ w.cell? ⟨b, o + i, none⟩ = some (.int .u8 (x : Int))

set_option maxHeartbeats 1000000 in
theorem l19Open_any (A : Option Addr) (n c : Nat) (w : World) (hn : n ≤ c) (hc : c ≤ 9223372036854775807) (hx : 0 < n → ∃ b o, A = some ⟨b, o, none⟩ ∧ b < w.heap.size ∧ ∀ i, i < n → ∃ x : Nat, x < 256 ∧ w.cell? ⟨b, o + i, none⟩ = some (.int .u8 (x : Int))) :
    Calls Tryd.prog 81 #[.slice A n c] w fun e w' => ∃ R, e = .returned (.pointer (some ⟨R, 0, none⟩)) ∧ w.heap.size ≤ R ∧ RdUp w' R 0 ∧ Below w.heap.size w w' := by
  replace hx := hid hx
  by_cases h2 : n ≤ 2000
  · go_enter Tryd.func81, Tryd.ntmps81
    go_wp2
    go_ret
    refine ⟨w.heap.size, rfl, Nat.le_refl _, ⟨A, n, c, 0, Nat.le_refl _, Blk.new w _ _, h2, hn, hc, by omega, fun hpos => ?_⟩, (Below.refl _ _).alloc (Nat.le_refl _) _⟩
    obtain ⟨b, o, hA, hb, hx'⟩ := hx.out hpos
    refine ⟨b, o, hA, hb, fun i hi => ?_⟩
    obtain ⟨x, h1, h3⟩ := hx' i hi
    exact ⟨x, h1, by rw [World.cell?_alloc_lt (h := by simpa using hb)]; exact h3⟩
  · obtain ⟨b, o, rfl, hb, hx'⟩ := hx.out (by omega)
    replace hx' := hid hx'
    go_enter Tryd.func81, Tryd.ntmps81
    go_wp2
    go_ret
    refine ⟨w.heap.size, rfl, Nat.le_refl _, ⟨_, 2000, c, 0, Nat.le_refl _, Blk.new w _ _, Nat.le_refl _, by omega, hc, by omega, fun _ => ⟨b, o, rfl, hb, fun i hi => ?_⟩⟩, (Below.refl _ _).alloc (Nat.le_refl _) _⟩
    obtain ⟨x, h1, h3⟩ := hx'.out i (by omega)
    exact ⟨x, h1, by rw [World.cell?_alloc_lt (h := by simpa using hb)]; exact h3⟩

def NumUp (R P : Nat) (xs : List Int) (w : World) (e : Ending) (w' : World) : Prop := ∃ x, x ∈ xs ∧ e = .returned (.int .i64 x) ∧ RdUp w' R (P + 1) ∧ KeepB (fun b => b = R) w w'
/-- A number out of a list that has just been made. -/
theorem num_lit (R P : Nat) (xs : List Int) (w : World) (T : TypeId) (hk : 0 < xs.length) (hk2 : xs.length ≤ 1000) (hP : P < 1125899906842624) (hr : RdUp w R P) :
    Calls Tryd.prog 83 #[.pointer (some ⟨R, 0, none⟩), .slice (some ⟨w.heap.size, 0, none⟩) xs.length xs.length] (w.alloc (.cells (xs.map (Value.int .i64)).toArray T)) (NumUp R P xs w) := by
  have hR := hr.lt
  have hb : Below w.heap.size w (w.alloc (.cells (xs.map (Value.int .i64)).toArray T)) := (Below.refl _ _).alloc (Nat.le_refl _) _
  refine (num_up R P w.heap.size 0 xs.length xs.length xs _ rfl hk (by omega) hP (by omega) (by simp) (fun i h => ?_) (hr.later hb)).mono fun e w' ⟨x, h1, h2, h3, h4⟩ => ⟨x, h1, h2, h3, (KeepB.of_below hb).trans h4⟩
  rw [Nat.zero_add, World.cell?_alloc_at _ _ _ _ rfl]
  simp [h]

end Go.Proofs.YtbomhfbiaedbiaaDoor
