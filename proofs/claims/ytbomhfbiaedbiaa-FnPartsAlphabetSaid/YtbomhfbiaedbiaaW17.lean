/- The reference's l1Text. -/
import Derived.Test.YtbomhfbiaedbiaaW16
import Derived.Laws.IdiomStrings
namespace Go.Proofs.Ytbomhfbiaedbiaa
open Go.RowKit Go.BigFrame AG

/-- A letter's byte. -/
def letB (l : Nat) : UInt8 := UInt8.ofNat (97 + l)

set_option maxHeartbeats 1000000 in
theorem l1Text_any (l : Nat) (h : l < 6) (w : World) :
    Calls Try.prog 49 #[.int .i64 l] w fun e w' => e = .returned (.string ⟨#[letB l]⟩) ∧ Below w.heap.size w w' := by
  have hb : ((letB l).toNat : Int) = 97 + (l : Int) := by
    unfold letB
    rw [UInt8.toNat_ofNat']
    omega
  have kc : (convert 22 9 (.slice (some ⟨w.heap.size, 0, none⟩) 1 1)).run Try.prog (w.alloc (Obj.cells #[Value.int IntKind.u8 (97 + (l : Int))] 5)) = .ok (.string ⟨#[letB l]⟩) (w.alloc (Obj.cells #[Value.int IntKind.u8 (97 + (l : Int))] 5)) :=
    run_convert_bytes_back (P := Try.prog) _ 22 9 5 ⟨w.heap.size, 0, none⟩ 1 [letB l] Try.underlying22 Try.underlying5 Try.underlying9 (fun j hj => by
      obtain rfl : j = 0 := by simpa using hj
      rw [List.getElem_cons_zero, hb]
      simp [Addr.add])
  replace hb := hid hb
  go_enter Try.func49, Try.ntmps49
  go_wp2_with fail
  go_ret
  exact ⟨rfl, by (repeat (first | exact Below.refl _ _ | assumption | refine Below.drew ?_ | refine Below.alloc ?_ (by first | omega | (simp; done) | (simp; omega)) _ | refine Below.setCell ?_ (by first | omega | (simp; done) | (simp; omega)) _))⟩

end Go.Proofs.Ytbomhfbiaedbiaa
