/- Lemmas, part 18: several texts in one. -/
import Derived.Test.YtdkjnemakkppfaaGreatDoorY8
set_option linter.unusedSimpArgs false
set_option linter.unusedVariables false

/- A byte slice that came in, later. Printed by tools/gen_r9b.py. -/
namespace Go.Proofs.YtdkjnemakkppfaaGreatDoor
open Go.RowKit Go.BigFrame AG

theorem CodeAt.on {w w' : World} {A : Option Addr} {n : Nat} (h : CodeAt w A n) (hb : Below w.heap.size w w') : CodeAt w' A n := fun hn => by
  obtain ⟨b, o, h1, h2, h3⟩ := h hn
  refine ⟨b, o, h1, Nat.lt_of_lt_of_le h2 hb.size, fun i hi => ?_⟩
  obtain ⟨x, h4, h5⟩ := h3 i hi
  exact ⟨x, h4, by rw [hb.cell (by simpa using h2)]; exact h5⟩

end Go.Proofs.YtdkjnemakkppfaaGreatDoor
