/- The drawing kit: l2Texts, l19Num. -/
import Derived.Test.YtbomhfbiaedbiaaDoorD2
namespace Go.Proofs.YtbomhfbiaedbiaaDoor
open Go.RowKit Go.BigFrame AG

def isText (v : Value) : Bool := match v with | .string b => decide (b.size ≤ 60) | _ => false
theorem texts_list : ∀ vs : List Value, vs.all isText = true → ∃ xs : List ByteArray, vs = xs.map Value.string ∧ ∀ x ∈ xs, x.size ≤ 60
  | [], _ => ⟨[], rfl, by simp⟩
  | v :: vs, h => by
    rw [List.all_cons, Bool.and_eq_true] at h
    obtain ⟨xs, h1, h2⟩ := texts_list vs h.2
    have h3 := h.1
    unfold isText at h3
    split at h3
    · rename_i b
      refine ⟨b :: xs, by rw [h1]; rfl, fun x hx => ?_⟩
      rcases List.mem_cons.1 hx with rfl | hx
      · exact of_decide_eq_true h3
      · exact h2 x hx
    · cases h3
theorem texts_of (w : World) (T : TypeId) (cs : Array Value) (h : cs.toList.all isText = true) :
    ∃ xs : List ByteArray, xs.length = cs.size ∧ (∀ x ∈ xs, x.size ≤ 60) ∧ ∀ i (hi : i < xs.length), (w.alloc (.cells cs T)).cell? ⟨w.heap.size, 0 + i, none⟩ = some (.string xs[i]) := by
  obtain ⟨xs, h1, h2⟩ := texts_list _ h
  have hlen : xs.length = cs.size := by
    have := congrArg List.length h1
    simpa using this.symm
  refine ⟨xs, hlen, h2, fun i hi => ?_⟩
  rw [Nat.zero_add, World.cell?_alloc_at _ _ _ _ rfl, ← Array.getElem?_toList, h1, List.getElem?_map, List.getElem?_eq_getElem hi]
  rfl

theorem texts_post (w : World) (T : TypeId) (cs : Array Value) (e : Ending) (he : e = .returned (.slice (some ⟨w.heap.size, 0, none⟩) 11 11)) (hn : cs.size = 11) (h : cs.toList.all isText = true) :
    ∃ xs : List ByteArray, xs.length = 11 ∧ (∀ x ∈ xs, x.size ≤ 60) ∧ e = .returned (.slice (some ⟨w.heap.size, 0, none⟩) 11 11) ∧ (∀ i (hi : i < xs.length), (w.alloc (.cells cs T)).cell? ⟨w.heap.size, 0 + i, none⟩ = some (.string xs[i])) ∧ w.heap.size < (w.alloc (.cells cs T)).heap.size ∧ Below w.heap.size w (w.alloc (.cells cs T)) := by
  obtain ⟨xs, h1, h2, h3⟩ := texts_of w T cs h
  exact ⟨xs, h1.trans hn, h2, he, h3, by simp, (Below.refl _ _).alloc (Nat.le_refl _) _⟩

set_option maxHeartbeats 1000000 in
theorem l2Texts_any (w : World) :
    Calls Tryd.prog 147 #[] w fun e w' => ∃ xs : List ByteArray, xs.length = 11 ∧ (∀ x ∈ xs, x.size ≤ 60) ∧ e = .returned (.slice (some ⟨w.heap.size, 0, none⟩) 11 11) ∧ (∀ i (hi : i < xs.length), w'.cell? ⟨w.heap.size, 0 + i, none⟩ = some (.string xs[i])) ∧ w.heap.size < w'.heap.size ∧ Below w.heap.size w w' := by
  go_enter Tryd.func147, Tryd.ntmps147
  go_wp2
  go_ret
  exact texts_post w _ _ _ rfl rfl (by kernel_rfl)

end Go.Proofs.YtbomhfbiaedbiaaDoor
