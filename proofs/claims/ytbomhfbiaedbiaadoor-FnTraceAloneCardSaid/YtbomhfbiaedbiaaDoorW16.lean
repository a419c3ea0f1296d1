/- The reference's l1Letters, l1Text. -/
import Derived.Test.YtbomhfbiaedbiaaDoorW1
import Derived.Test.YtbomhfbiaedbiaaDoorMathD
import Derived.WalkKit
namespace Go.Proofs.YtbomhfbiaedbiaaDoor
open Go.RowKit Go.BigFrame AG

theorem infoInt : (Tryd.prog.info? 3).map (fun i => (i.zero, i.size, i.bytes)) = some (some (.int .i64 0), 1, 8) := by kernel_rfl

/-- The numbers ns, as an owned slice. -/
def OwnNats (w : World) (B : Nat) (v : Value) (ns : List Nat) : Prop := w.ownsRow B 3 1 v ns.length (ns.map fun (n : Nat) => Value.int .i64 (n : Int))

theorem own_block {w : World} {B : Nat} {e : TypeId} {size : Nat} {v : Value} {n : Nat} {xs : List Value} (h : w.ownsRow B e size v n xs) : ∀ k, v.ownBlock = some k → B ≤ k := by
  intro k hk
  obtain ⟨_, ⟨rfl, _⟩ | ⟨g, cap, cur, rfl, hg, _⟩⟩ := h
  · cases hk
  · cases hk
    exact hg

theorem heap_alloc_self (w : World) (o : Obj) : (w.alloc o).heap[w.heap.size]? = some o := by
  unfold World.alloc
  simp

/-- A letter is appended. -/
theorem letters_next {w wr w1 : World} {A : Int} {k : Nat} {v v' : Value} {c : Array Value} {t : TypeId} (hB : w.heap.size ≤ wr.heap.size) (h : Has A k = true) (hown : OwnNats wr w.heap.size v (lettersTo A k)) (hb : Below w.heap.size w wr)
    (hown' : w1.ownsRow w.heap.size 3 1 v' ((lettersTo A k).length + 1) (((lettersTo A k).map fun (n : Nat) => Value.int .i64 (n : Int)) ++ [.int .i64 (k : Int)])) (hg : (wr.alloc (.cells c t)).grownBy w1 v.ownBlock) :
    OwnNats w1 w.heap.size v' (lettersTo A (k + 1)) ∧ Below w.heap.size w w1 := by
  refine ⟨?_, Below.grown (hb.alloc hB _) hg (by simp; omega) (own_block hown)⟩
  unfold OwnNats
  rw [lettersTo_succ, if_pos h, List.length_append, List.map_append]
  exact hown'

set_option maxRecDepth 100000 in
set_option maxHeartbeats 1000000 in
theorem l1Letters_any (A : Int) (w : World) :
    Calls Tryd.prog 52 #[.int .i64 A] w fun e w' => ∃ v, e = .returned v ∧ OwnNats w' w.heap.size v (letters A) ∧ Below w.heap.size w w' := by
  obtain ⟨i0, hi, hz0, hz1, hz2⟩ := info_parts infoInt
  go_enter Tryd.func52, Tryd.ntmps52
  go_wp2_with fail
  go_loopw [3, 4] (fun v i wr => ∃ k : Nat, k ≤ 6 ∧ i = .int .i64 k ∧ OwnNats wr w.heap.size v (lettersTo A k) ∧ Below w.heap.size w wr) (fun _ i _ => 6 - (intOf i).toNat)
  case atStart =>
    refine ⟨0, by omega, rfl, ?_, by (repeat (first | exact Below.refl _ _ | assumption | refine Below.drew ?_ | refine Below.alloc ?_ (by first | omega | (simp; done) | (simp; omega)) _ | refine Below.setCell ?_ (by first | omega | (simp; done) | (simp; omega)) _))⟩
    refine ⟨rfl, .inr ⟨w.heap.size, 0, #[], rfl, Nat.le_refl _, heap_alloc_self _ _, Nat.le_refl _, Nat.zero_le _, rfl, rfl⟩⟩
  case round =>
    obtain ⟨k, hk, rfl, hown, hb⟩ := hrel
    have hz := hb.size
    have hlen := lettersTo_len A k
    by_cases hlt : k < 6
    · cases hH : Has A k
      · replace hH := hid hH
        go_wp2_with (go_at_call 101; refine (l1Has_any A k _ (by omega) (by omega)).mono ?_; rintro e w' ⟨rfl, rfl⟩; rw [Int.toNat_natCast, hH.out])
        refine ⟨⟨k + 1, by omega, by go_num, ?_, hb⟩, by simp [intOf]; omega⟩
        rw [lettersTo_succ, hH.out]
        exact hown
      · replace hH := hid hH
        unfold OwnNats at hown
        go_wp2_with (first
          | (go_at_call 101; refine (l1Has_any A k _ (by omega) (by omega)).mono ?_; rintro e w' ⟨rfl, rfl⟩; rw [Int.toNat_natCast, hH.out])
          | (at_builtin; refine wpList_append_own _ rfl _ _ 73 rfl w.heap.size 3 i0 (.int .i64 0) 1 8 Tryd.underlying73 hi hz0 hz1 hz2 rfl (by decide) _ _ _ rfl (hown.alloc _) ⟨wr.heap.size, 0, none⟩ 1 1 [.int .i64 (k : Int)] rfl rfl ?c1 ?c2 ?c3 ?c4 ?c5 ?_))
        case c1 =>
          intro j u hj
          match j, hj with
          | 0, hj => simp at hj; subst hj; simp [Addr.add]
        case c2 => intro u hu; simp at hu; subst hu; rfl
        case c3 => unfold maxLen; omega
        case c4 => omega
        case c5 => simp; omega
        · intro v' w1 hown' hgrow _
          have R := letters_next hz hH.out hown hb hown' hgrow
          clear hown' hgrow hown hb hlen
          go_wp2
          go_roundw
          case rel => exact ⟨k + 1, by omega, by go_num, R.1, R.2⟩
          case measure => simp [intOf]; omega
    · obtain rfl : k = 6 := by omega
      go_wp2
      go_ret
      exact ⟨_, rfl, hown, hb⟩

end Go.Proofs.YtbomhfbiaedbiaaDoor
