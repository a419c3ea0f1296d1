/- The law FnTraceAlone. -/
import Derived.Test.YtbomhfbiaedbiaaDoorD17
import Derived.Test.YtbomhfbiaedbiaaDoorMathN
import Derived.Test.YtbomhfbiaedbiaaDoorW32
namespace Go.Proofs.YtbomhfbiaedbiaaDoor
open Go.RowKit Go.BigFrame AG

/-- A list of systems that has just been laid: one system, once or twice. -/
theorem sys_new1 {w : World} {s : Sy} {A : Option Addr} {c : Nat} (h1 : s.es.length ≤ c) (h2 : c ≤ 9223372036854775807) (h3 : EdsAt w w.heap.size A s.es) (T : TypeId) :
    SysAt (w.alloc (.cells #[.int .i64 s.al, .int .i64 s.st, .slice A s.es.length c] T)) (w.alloc (.cells #[.int .i64 s.al, .int .i64 s.st, .slice A s.es.length c] T)).heap.size (some ⟨w.heap.size, 0, none⟩) [s] := fun _ => by
  refine ⟨w.heap.size, 0, rfl, by simp, fun i hi => ?_⟩
  obtain rfl : i = 0 := by simpa using hi
  have hb := Blk.new w T #[.int .i64 s.al, .int .i64 s.st, .slice A s.es.length c]
  exact ⟨by rw [hb.cell]; rfl, by rw [hb.cell]; rfl, A, c, by rw [hb.cell]; rfl, h1, h2, h3.later ((Below.refl _ _).alloc (Nat.le_refl _) _)⟩
theorem sys_new2 {w : World} {s : Sy} {A : Option Addr} {c : Nat} (h1 : s.es.length ≤ c) (h2 : c ≤ 9223372036854775807) (h3 : EdsAt w w.heap.size A s.es) (T : TypeId) :
    SysAt (w.alloc (.cells #[.int .i64 s.al, .int .i64 s.st, .slice A s.es.length c, .int .i64 s.al, .int .i64 s.st, .slice A s.es.length c] T)) (w.alloc (.cells #[.int .i64 s.al, .int .i64 s.st, .slice A s.es.length c, .int .i64 s.al, .int .i64 s.st, .slice A s.es.length c] T)).heap.size (some ⟨w.heap.size, 0, none⟩) [s, s] := fun _ => by
  refine ⟨w.heap.size, 0, rfl, by simp, fun i hi => ?_⟩
  have hb := Blk.new w T #[.int .i64 s.al, .int .i64 s.st, .slice A s.es.length c, .int .i64 s.al, .int .i64 s.st, .slice A s.es.length c]
  have he := h3.later ((Below.refl _ _).alloc (Nat.le_refl _) (.cells #[.int .i64 s.al, .int .i64 s.st, .slice A s.es.length c, .int .i64 s.al, .int .i64 s.st, .slice A s.es.length c] T))
  rcases (by simp at hi; omega : i = 0 ∨ i = 1) with rfl | rfl
  · exact ⟨by rw [hb.cell]; rfl, by rw [hb.cell]; rfl, A, c, by rw [hb.cell]; rfl, h1, h2, he⟩
  · exact ⟨by rw [hb.cell]; rfl, by rw [hb.cell]; rfl, A, c, by rw [hb.cell]; rfl, h1, h2, he⟩

set_option maxRecDepth 100000 in
set_option maxHeartbeats 8000000 in
theorem FnTraceAlone_any (A : Option Addr) (n c : Nat) (w : World) (hn : n ≤ c) (hc : c ≤ 9223372036854775807) (hT : Tab w) (hx : CodeAt w A n) :
    Calls Tryd.prog 10 #[.slice A n c] w fun e w' => e = .returned (.bool true) ∧ Below w.heap.size w w' := by
  replace hx := hid hx
  replace hT := hid hT
  by_cases hbig : 1048576 < n
  · go_enter Tryd.func10, Tryd.ntmps10
    go_wp2
    go_ret
    exact ⟨rfl, Below.refl _ _⟩
  · go_enter Tryd.func10, Tryd.ntmps10
    go_wp2_with fail
    refine (drawHasTrace_any A n c w hn hc hx.out).mono ?_
    rintro e w1 ⟨s, As, cs, x, rfl, a1, a2, a3, a4, a5, a6, a7⟩
    unfold Sy.val
    have hz : x.size ≤ 9223372036854775807 := by omega
    have hB := boxed3 w1 (Value.int IntKind.i64 s.al) (Value.int IntKind.i64 s.st) (Value.slice As s.es.length cs) 36
    obtain ⟨w2, hw2, hz2, hB2, hS0, hS1, hS2⟩ := hB
    have hs2 := hid (a5.later hB2)
    have hBB2 := a7.trans (hB2.mono a7.size)
    have hT2 := hid (hT.out.later hBB2)
    clear a5 a6
    have p0 := hS0 _ (Below.refl _ _)
    have p1 := hS1 _ (Below.refl _ _)
    have p2 := hS2 _ (Below.refl _ _)
    go_wp2_with fail
    refine (implHasTrace_any s As cs x w2 hz a1 a2 hT2.out hs2.out).mono ?_
    rintro e w3 ⟨rfl, hb3⟩
    clear p0 p1 p2 hw2
    have p0 := hS0 _ (hb3.mono hz2)
    have p1 := hS1 _ (hb3.mono hz2)
    have p2 := hS2 _ (hb3.mono hz2)
    have hs3 := hid (hs2.out.later hb3)
    have hT3 := hid (hT2.out.later hb3)
    have hBB3 := hBB2.trans (hb3.mono hBB2.size)
    have hz3 := hb3.size
    have m1 := hid (trParts_one s x)
    cases hv : sysOk s
    · have hh := hasTr_bad x hv
      rw [hh]
      have hh' := hid hh
      replace hv := hid hv
      clear hh
      go_wp2_with fail
      refine (specHasTrace_any s As cs x w3 hz a1 a2 hs3.out).mono ?_
      rintro e w4 ⟨rfl, hb4⟩
      rw [hh'.out]
      clear p0 p1 p2
      have hb4' := (hb3.mono hz2).trans (hb4.mono (by omega))
      have p0 := hS0 _ hb4'
      have p1 := hS1 _ hb4'
      have p2 := hS2 _ hb4'
      have hs4 := hid (hs3.out.later hb4)
      have hT4 := hid (hT3.out.later hb4)
      have hBB4 := hBB3.trans (hb4.mono hBB3.size)
      have hz4 := hb4.size
      have hn4 := hid (sys_new1 a1 a2 hs4.out 36)
      have hbn : Below w4.heap.size w4 (w4.alloc (.cells #[.int .i64 s.al, .int .i64 s.st, .slice As s.es.length cs] 36)) := (Below.refl _ _).alloc (Nat.le_refl _) _
      generalize hw5 : w4.alloc (.cells #[.int .i64 s.al, .int .i64 s.st, .slice As s.es.length cs] 36) = w5 at hn4 hbn
      have hT5 := hid (hT4.out.later hbn)
      go_wp2_with fail
      refine (implTraceOfParts_any [s] (some ⟨w4.heap.size, 0, none⟩) 1 x w5 hz (Nat.le_refl _) (by omega) hT5.out hn4.out).mono ?_
      rintro e w6 ⟨rfl, hb6⟩
      rw [m1.out, hh'.out]
      clear p0 p1 p2 hw5
      have hb46 := hbn.trans (hb6.mono hbn.size)
      have hb6' := hb4'.trans (hb46.mono (by omega))
      have p0 := hS0 _ hb6'
      have p1 := hS1 _ hb6'
      have p2 := hS2 _ hb6'
      have hs6 := hid (hs4.out.later hb46)
      have hT6 := hid (hT4.out.later hb46)
      have hBB6 := hBB4.trans (hb46.mono hBB4.size)
      have hz6 := hb46.size
      go_wp2_with fail
      refine (implSystemValid_any s As cs w6 a1 a2 hs6.out).mono ?_
      rintro e w7 ⟨rfl, hb7⟩
      rw [hv.out]
      clear p0 p1 p2
      have hb7' := hb6'.trans (hb7.mono (by omega))
      have p0 := hS0 _ hb7'
      have p1 := hS1 _ hb7'
      have p2 := hS2 _ hb7'
      have hs7 := hid (hs6.out.later hb7)
      have hT7 := hid (hT6.out.later hb7)
      have hBB7 := hBB6.trans (hb7.mono hBB6.size)

      go_wp2_with fail
      go_ret
      exact ⟨rfl, hBB7⟩
    · have m2 := hid (trParts_two hv x)
      replace hv := hid hv
      cases hh : hasTr s x
      all_goals
        have hh' := hid hh
        clear hh
        go_wp2_with fail
        refine (specHasTrace_any s As cs x w3 hz a1 a2 hs3.out).mono ?_
        rintro e w4 ⟨rfl, hb4⟩
        rw [hh'.out]
        clear p0 p1 p2
        have hb4' := (hb3.mono hz2).trans (hb4.mono (by omega))
        have p0 := hS0 _ hb4'
        have p1 := hS1 _ hb4'
        have p2 := hS2 _ hb4'
        have hs4 := hid (hs3.out.later hb4)
        have hT4 := hid (hT3.out.later hb4)
        have hBB4 := hBB3.trans (hb4.mono hBB3.size)
        have hz4 := hb4.size
        have hn4 := hid (sys_new1 a1 a2 hs4.out 36)
        have hbn : Below w4.heap.size w4 (w4.alloc (.cells #[.int .i64 s.al, .int .i64 s.st, .slice As s.es.length cs] 36)) := (Below.refl _ _).alloc (Nat.le_refl _) _
        generalize hw5 : w4.alloc (.cells #[.int .i64 s.al, .int .i64 s.st, .slice As s.es.length cs] 36) = w5 at hn4 hbn
        have hT5 := hid (hT4.out.later hbn)
        go_wp2_with fail
        refine (implTraceOfParts_any [s] (some ⟨w4.heap.size, 0, none⟩) 1 x w5 hz (Nat.le_refl _) (by omega) hT5.out hn4.out).mono ?_
        rintro e w6 ⟨rfl, hb6⟩
        rw [m1.out, hh'.out]
        clear p0 p1 p2 hw5
        have hb46 := hbn.trans (hb6.mono hbn.size)
        have hb6' := hb4'.trans (hb46.mono (by omega))
        have p0 := hS0 _ hb6'
        have p1 := hS1 _ hb6'
        have p2 := hS2 _ hb6'
        have hs6 := hid (hs4.out.later hb46)
        have hT6 := hid (hT4.out.later hb46)
        have hBB6 := hBB4.trans (hb46.mono hBB4.size)
        have hz6 := hb46.size
        go_wp2_with fail
        refine (implSystemValid_any s As cs w6 a1 a2 hs6.out).mono ?_
        rintro e w7 ⟨rfl, hb7⟩
        rw [hv.out]
        clear p0 p1 p2
        have hb7' := hb6'.trans (hb7.mono (by omega))
        have p0 := hS0 _ hb7'
        have p1 := hS1 _ hb7'
        have p2 := hS2 _ hb7'
        have hs7 := hid (hs6.out.later hb7)
        have hT7 := hid (hT6.out.later hb7)
        have hBB7 := hBB6.trans (hb7.mono hBB6.size)

        have hn7 := hid (sys_new2 a1 a2 hs7.out 36)
        have hbn7 : Below w7.heap.size w7 (w7.alloc (.cells #[.int .i64 s.al, .int .i64 s.st, .slice As s.es.length cs, .int .i64 s.al, .int .i64 s.st, .slice As s.es.length cs] 36)) := (Below.refl _ _).alloc (Nat.le_refl _) _
        generalize hw8 : w7.alloc (.cells #[.int .i64 s.al, .int .i64 s.st, .slice As s.es.length cs, .int .i64 s.al, .int .i64 s.st, .slice As s.es.length cs] 36) = w8 at hn7 hbn7
        have hT8 := hid (hT7.out.later hbn7)
        go_wp2_with fail
        refine (implTraceOfParts_any [s, s] (some ⟨w7.heap.size, 0, none⟩) 2 x w8 hz (Nat.le_refl _) (by omega) hT8.out hn7.out).mono ?_
        rintro e w9 ⟨rfl, hb9⟩
        rw [m2.out, hh'.out]
        have hBB9 := hBB7.trans ((hbn7.trans (hb9.mono hbn7.size)).mono hBB7.size)
        clear hw8
        go_wp2_with fail
        go_ret
        exact ⟨rfl, hBB9⟩

end Go.Proofs.YtbomhfbiaedbiaaDoor
