/- Lemmas, part 14: several texts in one. -/
import Derived.Test.YtdkjnemakkppfaaGreatDoorY12
import Derived.Test.YtdkjnemakkppfaaGreatDoorY7
import Derived.Test.YtdkjnemakkppfaaGreatDoorY5
set_option linter.unusedSimpArgs false
set_option linter.unusedVariables false

/- Lists of systems. Printed by tools/gen_r9b.py. -/
namespace Go.Proofs.YtdkjnemakkppfaaGreatDoor
open Go.RowKit Go.BigFrame AG

theorem parts_two {s t : Sy} (hs : sysOk s = true) (ht : sysOk t = true) : partsOk [s, t] = true := by unfold partsOk; rw [all_two hs ht]; rfl
theorem parts_one {s : Sy} (hs : sysOk s = true) : partsOk [s] = true := by unfold partsOk; rw [all_one hs]; rfl
theorem one_at {w : World} {g : Nat} {s : Sy} {A : Option Addr} {c : Nat} (hb : Blk w g 25 #[.int .i64 s.al, .int .i64 s.st, .slice A s.es.length c])
    (hl : s.es.length ≤ c) (hc : c ≤ 9223372036854775807) (hr : EdsAt w w.heap.size A s.es) : SysAt w w.heap.size (some ⟨g, 0, none⟩) [s] := fun _ =>
  ⟨g, 0, rfl, hb.lt, fun i hi => by
    have h2 : i < 1 := hi
    obtain rfl : i = 0 := by omega
    exact ⟨hb.cell 0, hb.cell 1, A, c, hb.cell 2, hl, hc, hr⟩⟩
theorem wAt_mem1 {L : List Nat} {i : Nat} (h : 0 < L.length ∨ i = 0) : ∀ l ∈ wAt L i, l ∈ L := by
  rcases h with h | rfl
  · exact wAt_mem h i
  · rw [wAt_zero]; exact fun l hl => by cases hl

end Go.Proofs.YtdkjnemakkppfaaGreatDoor
