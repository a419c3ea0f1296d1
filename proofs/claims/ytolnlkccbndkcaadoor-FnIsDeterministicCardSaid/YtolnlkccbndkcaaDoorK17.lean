/- Lemmas, part 17: several texts in one. -/
import Derived.Test.YtolnlkccbndkcaaDoorK12
import Derived.Test.YtolnlkccbndkcaaDoorK13
import Derived.Test.YtolnlkccbndkcaaDoorK11
import Derived.Test.YtolnlkccbndkcaaDoorK10
import Derived.Test.YtolnlkccbndkcaaDoorK16
import Derived.Test.YtolnlkccbndkcaaDoorK8
import Derived.Test.YtolnlkccbndkcaaDoorK9
set_option linter.unusedSimpArgs false
set_option linter.unusedVariables false

/- The drawing kit: l2Any, words. -/
namespace Go.Proofs.YtolnlkccbndkcaaDoor
open Go.RowKit Go.BigFrame AG

set_option maxRecDepth 100000 in
set_option maxHeartbeats 4000000 in
theorem l2Any_up (R P : Nat) (w : World) (hP : P + 9000000 ≤ 1125899906842624) (hr : RdUp w R P) :
    Calls Tryd.prog 104 #[.pointer (some ⟨R, 0, none⟩)] w (SyUp R (P + 3000000) 2000 w) := by
  have hR := hr.lt
  have hres := Blk.new w 25 #[.int .i64 0, .int .i64 0, .slice none 0 0]
  have hb0 : Below w.heap.size w (w.alloc (.cells #[.int .i64 0, .int .i64 0, .slice none 0 0] 25)) := (Below.refl _ _).alloc (Nat.le_refl _) _
  generalize hw0 : w.alloc (.cells #[.int .i64 0, .int .i64 0, .slice none 0 0] 25) = w0 at hres hb0
  have hz0 : w0.heap.size = w.heap.size + 1 := by rw [← hw0]; simp
  have hr0 := hid (hr.later hb0)
  replace hr := hid hr
  replace hres := hid hres
  replace hz0 := hid hz0
  go_enter Tryd.func104, Tryd.ntmps104
  go_wp2_with fail
  refine (pick_up R P 12 w0 (by omega) (by omega) hr0.out).mono ?_
  rintro e w1 ⟨j, rfl, hj0, hj1, hr1, hk1⟩
  replace hr1 := hid hr1
  replace hk1 := hid hk1
  clear hw0 hj1
  by_cases hj : j = 0
  · subst hj
    go_wp2_with fail
    refine (l2Big_up R (P + 1) w1 (by omega) hr1.out).mono ?_
    rintro e w4 ⟨s, A, c, rfl, h1, h2, h3, h4, h5, h6, h7, -⟩
    unfold Sy.val
    have K2 : KeepB (fun b => b = R) w0 w4 := hk1.out.trans h7
    have hbl := hres.out.keep K2 (by omega)
    have d0 := hbl.cell 0
    have d1 := hbl.cell 1
    have d2 := hbl.cell 2
    have f0 := hbl.frozen 0
    have f1 := hbl.frozen 1
    have f2 := hbl.frozen 2
    simp only [List.getElem?_toArray, List.getElem?_cons_zero, List.getElem?_cons_succ] at d0 d1 d2
    have hfin := hid (SyUp.ret (w := w) (L := 2000) h1 h2 (by omega) h4 (fun b o hA => by have := h5 b o hA; have := hk1.out.size; have := hz0.out; omega) (h6.more (by omega : P + 1 + 2000000 ≤ P + 3000000)) ((KeepB.of_below hb0).trans K2) hR (.int .i64 s.al) (.int .i64 s.st) (.slice A s.es.length c))
    have hlt := hbl.lt
    clear h4 h5 h6 h7 hbl K2
    go_wp2
    refine bodyPost_ret (v := .agg #[.int .i64 s.al, .int .i64 s.st, .slice A s.es.length c]) (by simp [results, Tryd.results104, go_sem, d0, d1, d2]) rfl ?_
    exact hfin.out
  · have hjb : ((j : Int) == 0) = false := by simpa using hj
    replace hj := hid hj
    go_wp2_with fail
    refine (l2Draw_up R (P + 1) w1 (by omega) hr1.out).mono ?_
    rintro e w2 ⟨s', A', c', rfl, a1, a2, a3, a4, a5, a6, a7⟩
    replace a4 := hid a4
    replace a6 := hid a6
    replace a7 := hid a7
    clear a5
    go_wp2_with fail
    refine (l2Wrong_up R (P + 1 + 2000) 1536 s' A' c' w2 (by omega) a1 a2 a3 (by omega) a4.out a6.out).mono ?_
    rintro e w4 ⟨s, A, c, rfl, h1, h2, h3, h4, h5, h6, h7⟩
    unfold Sy.val
    have K1 : KeepB (fun b => b = R) w0 w2 := hk1.out.trans a7.out
    have K2 : KeepB (fun b => b = R) w0 w4 := K1.trans h7
    have hbl := hres.out.keep K2 (by omega)
    have d0 := hbl.cell 0
    have d1 := hbl.cell 1
    have d2 := hbl.cell 2
    have f0 := hbl.frozen 0
    have f1 := hbl.frozen 1
    have f2 := hbl.frozen 2
    simp only [List.getElem?_toArray, List.getElem?_cons_zero, List.getElem?_cons_succ] at d0 d1 d2
    have hfin := hid (SyUp.ret (w := w) (L := 2000) h1 h2 (by omega) h4 (fun b o hA => by have := h5 b o hA; have := K1.size; have := hz0.out; omega) (h6.more (by omega : P + 1 + 2000 + 400000 ≤ P + 3000000)) ((KeepB.of_below hb0).trans K2) hR (.int .i64 s.al) (.int .i64 s.st) (.slice A s.es.length c))
    have hlt := hbl.lt
    clear h4 h5 h6 h7 hbl K2 K1
    go_wp2
    refine bodyPost_ret (v := .agg #[.int .i64 s.al, .int .i64 s.st, .slice A s.es.length c]) (by simp [results, Tryd.results104, go_sem, d0, d1, d2]) rfl ?_
    exact hfin.out

def ManyPost (N : Nat) (w : World) (e : Ending) (w' : World) : Prop := ∃ x : ByteArray, e = .returned (.string x) ∧ x.size ≤ N ∧ w = w'

def StrUp (R P N : Nat) (w : World) (e : Ending) (w' : World) : Prop := ∃ x : ByteArray, e = .returned (.string x) ∧ x.size ≤ N ∧ RdUp w' R P ∧ KeepB (fun b => b = R) w w'
def IntUp (R P : Nat) (w : World) (e : Ending) (w' : World) : Prop := ∃ x : Int, e = .returned (.int .i64 x) ∧ RdUp w' R P ∧ KeepB (fun b => b = R) w w'

set_option maxHeartbeats 1000000 in
theorem l1Some_up (R P : Nat) (w : World) (hP : P + 10 ≤ 1125899906842624) (hr : RdUp w R P) : Calls Tryd.prog 114 #[.pointer (some ⟨R, 0, none⟩)] w (IntUp R (P + 1) w) := by
  replace hr := hid hr
  go_enter Tryd.func114, Tryd.ntmps114
  go_wp2_with fail
  refine (num_lit R P [3, 7, 1, 5, 0, 6, 63, 2, 21] w _ (by decide) (by decide) (by omega) hr.out).mono ?_
  rintro e w1 ⟨al, hal, rfl, hr1, hk1⟩
  clear hal
  replace hr1 := hid hr1
  go_wp2_with fail
  go_ret
  exact ⟨al, rfl, hr1.out, hk1⟩

end Go.Proofs.YtolnlkccbndkcaaDoor

/- The drawing kit: words that are traces; a system and a word. -/
namespace Go.Proofs.YtolnlkccbndkcaaDoor
open Go.RowKit Go.BigFrame AG

def OfUp (R P : Nat) (xs : List ByteArray) (w : World) (e : Ending) (w' : World) : Prop := ∃ x, x ∈ xs ∧ e = .returned (.string x) ∧ RdUp w' R (P + 1) ∧ KeepB (fun b => b = R) w w'
/-- A text out of a list that has just been made. -/
theorem of_lit (R P : Nat) (xs : List ByteArray) (w : World) (T : TypeId) (hk : 0 < xs.length) (hk2 : xs.length ≤ 1000) (hP : P < 1125899906842624) (hr : RdUp w R P) :
    Calls Tryd.prog 160 #[.pointer (some ⟨R, 0, none⟩), .slice (some ⟨w.heap.size, 0, none⟩) xs.length xs.length] (w.alloc (.cells (xs.map Value.string).toArray T)) (OfUp R P xs w) := by
  have hR := hr.lt
  have hb : Below w.heap.size w (w.alloc (.cells (xs.map Value.string).toArray T)) := (Below.refl _ _).alloc (Nat.le_refl _) _
  refine (of_up R P w.heap.size 0 xs.length xs.length xs _ rfl hk (by omega) hP (by omega) (by simp) (fun i h => ?_) (hr.later hb)).mono fun e w' ⟨x, h1, h2, h3, h4⟩ => ⟨x, h1, h2, h3, (KeepB.of_below hb).trans h4⟩
  rw [Nat.zero_add, World.cell?_alloc_at _ _ _ _ rfl]
  simp [h]

def IntPostB (w : World) (e : Ending) (w' : World) : Prop := ∃ n : Int, e = .returned (.int .i64 n) ∧ Below w.heap.size w w'

theorem aft_sys {s : Sy} {x : ByteArray} (h : aft s x ≠ 0) : sysOk s = true := by
  cases hs : sysOk s with
  | true => rfl
  | false => exact absurd (by unfold aft; rw [hs]; rfl) h

end Go.Proofs.YtolnlkccbndkcaaDoor

/- The drawing kit: l2Trace, DrawStatesAfter, DrawHasTrace. -/
namespace Go.Proofs.YtolnlkccbndkcaaDoor
open Go.RowKit Go.BigFrame AG

def DrawSW (w : World) (e : Ending) (w' : World) : Prop :=
  ∃ (s : Sy) (A : Option Addr) (c : Nat) (x : ByteArray), e = .returned (.tuple #[s.val A c, .string x]) ∧ s.es.length ≤ c ∧ c ≤ 9223372036854775807 ∧ s.es.length ≤ 2000 ∧ x.size ≤ 3000000 ∧ EdsAt w' w'.heap.size A s.es ∧ FreshA (w.heap.size + 1) A ∧ Below w.heap.size w w'
theorem DrawSW.ret {w w1 : World} {s : Sy} {A : Option Addr} {c : Nat} {x : ByteArray} (h1 : s.es.length ≤ c) (h2 : c ≤ 9223372036854775807) (h3 : s.es.length ≤ 2000) (hx : x.size ≤ 3000000) (h4 : EdsAt w1 w1.heap.size A s.es) (h5 : FreshA (w.heap.size + 1) A)
    (h7 : Below w.heap.size w w1) (v1 v2 v3 : Value) :
    DrawSW w (.returned (.tuple #[.agg #[.int .i64 s.al, .int .i64 s.st, .slice A s.es.length c], .string x])) (((w1.setCell ⟨w.heap.size, 0, none⟩ v1).setCell ⟨w.heap.size, 1, none⟩ v2).setCell ⟨w.heap.size, 2, none⟩ v3) := by
  have hne : ∀ b o, A = some ⟨b, o, none⟩ → 0 < s.es.length → b ≠ w.heap.size := fun b o hA _ => by have := h5 b o hA; omega
  refine ⟨s, A, c, x, rfl, h1, h2, h3, hx, ?_, h5, ?_⟩
  · simpa [World.setCell] using ((h4.stored v1 hne).stored v2 hne).stored v3 hne
  · (repeat (first | exact Below.refl _ _ | assumption | refine Below.drew ?_ | refine Below.alloc ?_ (by first | omega | (simp; done) | (simp; omega)) _ | refine Below.setCell ?_ (by first | omega | (simp; done) | (simp; omega)) _))


end Go.Proofs.YtolnlkccbndkcaaDoor

/- The drawing kit: l1Wrong, DrawDeterminize, DrawProjectSystem. -/
namespace Go.Proofs.YtolnlkccbndkcaaDoor
open Go.RowKit Go.BigFrame AG

set_option maxRecDepth 100000 in
set_option maxHeartbeats 4000000 in
theorem l1Wrong_up (R P : Nat) (a : Int) (w : World) (hP : P + 10 ≤ 1125899906842624) (hr : RdUp w R P) : Calls Tryd.prog 113 #[.pointer (some ⟨R, 0, none⟩), .int .i64 a] w (IntUp R (P + 2) w) := by
  replace hr := hid hr
  go_enter Tryd.func113, Tryd.ntmps113
  go_wp2_with fail
  refine (pick_up R P 12 w (by omega) (by omega) hr.out).mono ?_
  rintro e w1 ⟨j, rfl, hj0, hj1, hr1, hk1⟩
  replace hr1 := hid hr1
  replace hk1 := hid hk1
  clear hj1
  by_cases hj : j = 0
  · subst hj
    go_wp2_with fail
    refine (num_lit R (P + 1) [64, -1, 63, 0] w1 _ (by decide) (by decide) (by omega) hr1.out).mono ?_
    rintro e w2 ⟨x, hx, rfl, hr2, hk2⟩
    replace hr2 := hid hr2
    replace hk2 := hid hk2
    clear hx
    go_wp2_with fail
    go_ret
    exact ⟨x, rfl, hr2.out, hk1.out.trans hk2.out⟩
  · have hjb : ((j : Int) == 0) = false := by simpa using hj
    replace hj := hid hj
    go_wp2_with fail
    go_ret
    exact ⟨a, rfl, hr1.out.more (by omega), hk1.out⟩

def DrawSy (w : World) (e : Ending) (w' : World) : Prop := ∃ (s : Sy) (A : Option Addr) (c : Nat), e = .returned (s.val A c) ∧ s.es.length ≤ c ∧ c ≤ 9223372036854775807 ∧ s.es.length ≤ 1000000 ∧ EdsAt w' w'.heap.size A s.es ∧ FreshA w.heap.size A ∧ Below w.heap.size w w'
theorem DrawSy.ret {w w1 : World} {s : Sy} {A : Option Addr} {c : Nat} (h1 : s.es.length ≤ c) (h2 : c ≤ 9223372036854775807) (h3 : s.es.length ≤ 1000000) (h4 : EdsAt w1 w1.heap.size A s.es) (h5 : FreshA (w.heap.size + 1) A) (h7 : Below w.heap.size w w1) (v1 v2 v3 : Value) :
    DrawSy w (.returned (.agg #[.int .i64 s.al, .int .i64 s.st, .slice A s.es.length c])) (((w1.setCell ⟨w.heap.size, 0, none⟩ v1).setCell ⟨w.heap.size, 1, none⟩ v2).setCell ⟨w.heap.size, 2, none⟩ v3) := by
  have hne : ∀ b o, A = some ⟨b, o, none⟩ → 0 < s.es.length → b ≠ w.heap.size := fun b o hA _ => by have := h5 b o hA; omega
  refine ⟨s, A, c, rfl, h1, h2, h3, ?_, fun b o hA => by have := h5 b o hA; omega, ?_⟩
  · simpa [World.setCell] using ((h4.stored v1 hne).stored v2 hne).stored v3 hne
  · exact ((h7.setCell (by simp) _).setCell (by simp) _).setCell (by simp) _
def DrawSI (w : World) (e : Ending) (w' : World) : Prop := ∃ (s : Sy) (A : Option Addr) (c : Nat) (al : Int), e = .returned (.tuple #[s.val A c, .int .i64 al]) ∧ s.es.length ≤ c ∧ c ≤ 9223372036854775807 ∧ s.es.length ≤ 1000000 ∧ EdsAt w' w'.heap.size A s.es ∧ FreshA w.heap.size A ∧ Below w.heap.size w w'
theorem DrawSI.ret {w w1 : World} {s : Sy} {A : Option Addr} {c : Nat} {al : Int} (h1 : s.es.length ≤ c) (h2 : c ≤ 9223372036854775807) (h3 : s.es.length ≤ 1000000) (h4 : EdsAt w1 w1.heap.size A s.es) (h5 : FreshA (w.heap.size + 1) A) (h7 : Below w.heap.size w w1) (v1 v2 v3 : Value) :
    DrawSI w (.returned (.tuple #[.agg #[.int .i64 s.al, .int .i64 s.st, .slice A s.es.length c], .int .i64 al])) (((w1.setCell ⟨w.heap.size, 0, none⟩ v1).setCell ⟨w.heap.size, 1, none⟩ v2).setCell ⟨w.heap.size, 2, none⟩ v3) := by
  obtain ⟨s', A', c', he, x1, x2, x3, x4, x5, x6⟩ := DrawSy.ret h1 h2 h3 h4 h5 h7 v1 v2 v3
  exact ⟨s, A, c, al, rfl, h1, h2, h3, by
    have hne : ∀ b o, A = some ⟨b, o, none⟩ → 0 < s.es.length → b ≠ w.heap.size := fun b o hA _ => by have := h5 b o hA; omega
    simpa [World.setCell] using ((h4.stored v1 hne).stored v2 hne).stored v3 hne, fun b o hA => by have := h5 b o hA; omega, x6⟩
set_option maxRecDepth 100000 in
set_option maxHeartbeats 4000000 in
theorem drawProjectSystem_any (A : Option Addr) (n c : Nat) (w : World) (hn : n ≤ c) (hc : c ≤ 9223372036854775807) (hx : CodeAt w A n) :
    Calls Tryd.prog 45 #[.slice A n c] w (DrawSI w) := by
  have hres := Blk.new w 25 #[.int .i64 0, .int .i64 0, .slice none 0 0]
  have hb0 : Below w.heap.size w (w.alloc (.cells #[.int .i64 0, .int .i64 0, .slice none 0 0] 25)) := (Below.refl _ _).alloc (Nat.le_refl _) _
  generalize hw0 : w.alloc (.cells #[.int .i64 0, .int .i64 0, .slice none 0 0] 25) = w0 at hres hb0
  have hz0 : w0.heap.size = w.heap.size + 1 := by rw [← hw0]; simp
  have hx0 : CodeAt w0 A n := fun h => by
    obtain ⟨b, o, h1, h2, h3⟩ := hx h
    refine ⟨b, o, h1, by omega, fun i hi => ?_⟩
    obtain ⟨y, h4, h5⟩ := h3 i hi
    exact ⟨y, h4, by rw [hb0.cell (by simpa using h2)]; exact h5⟩
  replace hres := hid hres
  replace hz0 := hid hz0
  replace hx := hid hx
  replace hx0 := hid hx0
  go_enter Tryd.func45, Tryd.ntmps45
  go_wp2_with fail
  refine (l19Open_any A n c w0 hn hc hx0.out).mono ?_
  rintro e w1 ⟨R, rfl, hR, hr1, hb1⟩
  replace hr1 := hid hr1
  have hz1 := hb1.size
  clear hw0
  go_wp2_with fail
  refine (l2Any_up R 0 w1 (by omega) hr1.out).mono ?_
  rintro e w9 ⟨s, A', c', rfl, a1, a2, a3, a4, a5, a6, a7⟩
  unfold Sy.val
  have hB9 : Below w0.heap.size w0 w9 := KeepB.below hb1 a7 hb1.size (fun k hk => by omega)
  replace a4 := hid a4
  replace a6 := hid a6
  have a5' : Hid (FreshA (w.heap.size + 1) A') := hid fun b o hA => by have := a5 b o hA; have := hz0.out; have := hb1.size; omega
  have hfR : Hid (FreshA w1.heap.size A') := hid a5
  have hR1 := hr1.out.lt
  clear a5 a7
  have hnb := Blk.new w9 25 #[.int .i64 s.al, .int .i64 s.st, .slice A' s.es.length c']
  have hba : Below w9.heap.size w9 (w9.alloc (.cells #[.int .i64 s.al, .int .i64 s.st, .slice A' s.es.length c'] 25)) := (Below.refl _ _).alloc (Nat.le_refl _) _
  have hRl := a6.out.lt
  have hsq : w9.heap.size < (w9.alloc (.cells #[.int .i64 s.al, .int .i64 s.st, .slice A' s.es.length c'] 25)).heap.size := by simp
  generalize hwa : w9.alloc (.cells #[.int .i64 s.al, .int .i64 s.st, .slice A' s.es.length c'] 25) = w3 at hnb hba hsq
  have hr3 := hid (a6.out.later hba)
  have hB3 := hB9.trans (hba.mono hB9.size)
  have a4' := hid (a4.out.later hba)
  have hf3 : Hid (FreshA (R + 1) A') := hid (fun b o hA => by have := hfR.out b o hA; omega)
  have hRb : w0.heap.size ≤ R := hR
  have c0 := hnb.cell 0
  simp only [List.getElem?_toArray, List.getElem?_cons_zero, List.getElem?_cons_succ] at c0
  have hneR : w9.heap.size ≠ R := by omega
  have q0 := RI.cell hr3.out c0 hneR
  replace hnb := hid hnb
  go_wp2_with fail
  clear c0 hwa
  refine GK.wp_region 7 [] 200 (KeepB fun b => b = R) (RI w3 R (0 + 3000000)) (fun _ u _ => ∃ x : Int, u = .int .i64 x) (by kernel_rfl) (by kernel_rfl) (RI.way w3 R _) (by decide) (RI.drew hr3.out) ?_
  simp only [List.take_succ_cons, List.take_zero]
  (repeat (refine GK.grow_quiet w3 (by rfl) (by rfl) ?_; intro K hK; go_big_quiet_op; go_big_quiet_on))
  refine GK.grow_new (K := fun b => b = R) (by rfl) w3.heap.size (fun b => .slice (some ⟨b, 0, none⟩) 7 7) 3 #[.int .i64 5, .int .i64 3, .int .i64 1, .int .i64 6, .int .i64 63, .int .i64 0, .int .i64 2] (fun _ => by go_simp) rfl (fun _ _ o h => RI.alloc o h) (fun _ _ h => RI.size h) (fun k hk => by have := hr3.out.lt; omega) (fun g hg => ?_)
  simp only [Act.put, List.setIfInBounds_toArray, List.set_cons_zero, List.set_cons_succ]
  (repeat (refine GK.grow_quiet w3 (by rfl) (by rfl) ?_; intro K hK; go_big_quiet_op; go_big_quiet_on))
  refine GK.grow_call (by rfl) (fun u w w' _ h => h) (fun m wq hm hbq hf => ?_) ?_
  · obtain ⟨b', z1, z2, z3⟩ := hf _ List.mem_cons_self (by kernel_rfl)
    cases z1
    have hlt4 := hr3.out.lt
    go_simp
    exact ⟨rfl, (num_blk R (0 + 3000000 + m * 10000) g [5, 3, 1, 6, 63, 0, 2] wq _ (by decide) (by decide) (by omega) z3 (by omega) hbq.2).mono fun e w' ⟨x, h1, h2, h3, h4⟩ => ⟨_, h2, RI.call hbq h4 h3 (by omega), x, rfl⟩⟩
  rintro u ⟨_, _, _, x, rfl⟩
  simp only [Act.put, List.setIfInBounds_toArray, List.set_cons_zero, List.set_cons_succ]
  (repeat (refine GK.grow_quiet w3 (by rfl) (by rfl) ?_; intro K hK; go_big_quiet_op; go_big_quiet_on))
  refine GK.grow_nil ?_
  intro w4 hw4 _
  simp only [List.filterMap_cons, List.filterMap_nil, List.getElem?_cons_zero, List.getElem?_cons_succ]
  clear q0
  have hB4 : Below w0.heap.size w0 w4 := KeepB.below hB3 hw4.1 hB3.size (fun k hk => by omega)
  have hs4 := hid (EdsAt.keepR a4'.out hw4.1 hf3.out)
  have hnb4 := hid (hnb.out.keep hw4.1 (by omega))
  have hr4 := hid hw4.2
  clear hw4
  obtain ⟨al, hal⟩ : ∃ al, bits .and .i64 s.al x = al := ⟨_, rfl⟩
  try rw [hal]
  clear hal
  go_wp2_with fail
  refine (pick_up R _ 12 w4 (by omega) (by omega) hr4.out).mono ?_
  rintro e w5 ⟨j, rfl, hj0, hj1, hr5, hk5⟩
  have hB5 : Below w0.heap.size w0 w5 := KeepB.below hB4 hk5 hB4.size (fun k hk => by omega)
  have hs5 := hid (EdsAt.keepR hs4.out hk5 hf3.out)
  have hnb5 := hid (hnb4.out.keep hk5 (by omega))
  replace hr5 := hid hr5
  clear hj1 hk5
  by_cases hj : j = 0
  · subst hj
    go_wp2_with fail
    refine (l1Some_up R _ w5 (by omega) hr5.out).mono ?_
    rintro e w6 ⟨y, rfl, hr6, hk6⟩
    have hB6 : Below w0.heap.size w0 w6 := KeepB.below hB5 hk6 hB5.size (fun k hk => by omega)
    have hs6 := hid (EdsAt.keepR hs5.out hk6 hf3.out)
    have hnb6 := hid (hnb5.out.keep hk6 (by omega))
    replace hr6 := hid hr6
    clear hk6
    go_wp2_with fail
    refine (l1Wrong_up R _ y w6 (by omega) hr6.out).mono ?_
    rintro e w7 ⟨z, rfl, hr7, hk7⟩
    have hB7 : Below w0.heap.size w0 w7 := KeepB.below hB6 hk7 hB6.size (fun k hk => by omega)
    have hs7 := hid (EdsAt.keepR hs6.out hk7 hf3.out)
    have hnb7 := hid (hnb6.out.keep hk7 (by omega))
    clear hk7 hr7
    have c0 := hnb7.out.cell 0
    have c1 := hnb7.out.cell 1
    have c2 := hnb7.out.cell 2
    simp only [List.getElem?_toArray, List.getElem?_cons_zero, List.getElem?_cons_succ] at c0 c1 c2
    have hfin := hid (DrawSI.ret (w := w) (al := z) a1 a2 (by omega) hs7.out a5'.out (hb0.trans (hB7.mono (by have := hz0.out; omega))) (.int .i64 s.al) (.int .i64 s.st) (.slice A' s.es.length c'))
    have hbl := hres.out.below hB7 hres.out.lt
    have d0 := hbl.cell 0
    have d1 := hbl.cell 1
    have d2 := hbl.cell 2
    have f0 := hbl.frozen 0
    have f1 := hbl.frozen 1
    have f2 := hbl.frozen 2
    simp only [List.getElem?_toArray, List.getElem?_cons_zero, List.getElem?_cons_succ] at d0 d1 d2
    have hlt := hbl.lt
    clear hbl
    go_wp2
    refine bodyPost_ret (v := .tuple #[.agg #[.int .i64 s.al, .int .i64 s.st, .slice A' s.es.length c'], .int .i64 z]) (by simp [results, Tryd.results45, go_sem, d0, d1, d2]) rfl ?_
    exact hfin.out
  · have hjb : ((j : Int) == 0) = false := by simpa using hj
    replace hj := hid hj
    have c0 := hnb5.out.cell 0
    have c1 := hnb5.out.cell 1
    have c2 := hnb5.out.cell 2
    simp only [List.getElem?_toArray, List.getElem?_cons_zero, List.getElem?_cons_succ] at c0 c1 c2
    have hfin := hid (DrawSI.ret (w := w) (al := al) a1 a2 (by omega) hs5.out a5'.out (hb0.trans (hB5.mono (by have := hz0.out; omega))) (.int .i64 s.al) (.int .i64 s.st) (.slice A' s.es.length c'))
    have hbl := hres.out.below hB5 hres.out.lt
    have d0 := hbl.cell 0
    have d1 := hbl.cell 1
    have d2 := hbl.cell 2
    have f0 := hbl.frozen 0
    have f1 := hbl.frozen 1
    have f2 := hbl.frozen 2
    simp only [List.getElem?_toArray, List.getElem?_cons_zero, List.getElem?_cons_succ] at d0 d1 d2
    have hlt := hbl.lt
    clear hbl
    go_wp2
    refine bodyPost_ret (v := .tuple #[.agg #[.int .i64 s.al, .int .i64 s.st, .slice A' s.es.length c'], .int .i64 al]) (by simp [results, Tryd.results45, go_sem, d0, d1, d2]) rfl ?_
    exact hfin.out

end Go.Proofs.YtolnlkccbndkcaaDoor

/- The law FnProjectSteps. -/
namespace Go.Proofs.YtolnlkccbndkcaaDoor
open Go.RowKit Go.BigFrame Go.Maps AG

theorem steps_same {s : Sy} {al be : Int} (h : prK s al = true) (ht : prK (soS (prA s al)) be = true) (hy : prK s be = true) : sameLB (prA (soS (prA s al)) be) (prA s be) = true := by
  refine sameLB_iff.2 ⟨?_, fun r hr => ?_⟩
  · unfold cmpAu
    rw [auOk_prA ht, auOk_prA hy, prA_al ht, prA_al hy]
    simp
  · rw [prA_al ht] at hr
    exact steps_law h ht hy hr

set_option maxRecDepth 100000 in
set_option maxHeartbeats 16000000 in
theorem FnProjectSteps_any (A : Option Addr) (n c : Nat) (w : World) (hn : n ≤ c) (hc : c ≤ 9223372036854775807) (hT : Tab w) (hx : CodeAt w A n) :
    Calls Tryd.prog 9 #[.slice A n c] w fun e w' => e = .returned (.bool true) ∧ Below w.heap.size w w' := by
  replace hT := hid hT
  replace hx := hid hx
  by_cases hlen : 1048576 < n
  · have hgt : (1048576 : Int) < (n : Int) := by omega
    go_enter Tryd.func9, Tryd.ntmps9
    go_wp2
    go_ret
    exact ⟨rfl, Below.refl _ _⟩
  have hgt : ¬ ((1048576 : Int) < (n : Int)) := by omega
  go_enter Tryd.func9, Tryd.ntmps9
  go_wp2_with fail
  have BW_w : Below w.heap.size w w := Below.refl _ _
  refine (drawProjectSystem_any A n c w hn hc hx.out).mono ?_
  rintro e w1 ⟨s, As, cs, al, rfl, a1, a2, a3, a4, -, hb_w1⟩
  unfold Sy.val
  have BW_w1 := BW_w.trans (hb_w1.mono BW_w.size)
  have es := hid a4
  have BEs_w1 : Below w1.heap.size w1 w1 := Below.refl _ _
  clear a4
  obtain ⟨a, ha⟩ : ∃ a, Hid (a = prA s al) := ⟨_, hid rfl⟩
  obtain ⟨ok, hok⟩ : ∃ ok, Hid (ok = prK s al) := ⟨_, hid rfl⟩
  go_upto_region 4 with fail
  obtain ⟨w2, hw_w2, hz_w2, hb_w2, hS_w2⟩ := boxed w1 #[.int .i64 s.al, .int .i64 s.st, .slice As s.es.length cs] 25
  rw [hw_w2]
  clear hw_w2
  have hs0 := fun w' (hb : Below w2.heap.size w2 w') => hS_w2 0 _ rfl w' (hb.mono hz_w2)
  have hs1 := fun w' (hb : Below w2.heap.size w2 w') => hS_w2 1 _ rfl w' (hb.mono hz_w2)
  have hs2 := fun w' (hb : Below w2.heap.size w2 w') => hS_w2 2 _ rfl w' (hb.mono hz_w2)
  replace hs0 := hid hs0
  replace hs1 := hid hs1
  replace hs2 := hid hs2
  clear hS_w2
  have BW_w2 := BW_w1.trans (hb_w2.mono BW_w1.size)
  have BEs_w2 := BEs_w1.trans (hb_w2.mono BEs_w1.size)
  have Bs_w2 : Below w2.heap.size w2 w2 := Below.refl _ _
  have ps0 := hs0.out _ Bs_w2
  have ps1 := hs1.out _ Bs_w2
  have ps2 := hs2.out _ Bs_w2
  go_wp2_with fail
  have hc_a := hid (implProjectSystem_any s As cs al w2 a1 a2 (hT.out.later BW_w2) (es.out.later BEs_w2))
  rw [← ha.out, ← hok.out] at hc_a
  refine hc_a.out.mono ?_
  clear hc_a
  clear ps0 ps1 ps2
  rintro e w3 ⟨hb_w3, v1, v2, xs, rfl, hau⟩
  obtain ⟨Aa, ca, Ba, da, rfl, rfl, ta⟩ := hau.at_
  replace ta := hid ta
  clear hau
  have BW_w3 := BW_w2.trans (hb_w3.mono BW_w2.size)
  have BEs_w3 := BEs_w2.trans (hb_w3.mono BEs_w2.size)
  have Bs_w3 := Bs_w2.trans (hb_w3.mono Bs_w2.size)
  have BTa_w3 : Below w3.heap.size w3 w3 := Below.refl _ _
  go_upto_region 5 with fail
  obtain ⟨w4, hw_w4, hz_w4, hb_w4, hS_w4⟩ := boxed w3 #[.int .i64 a.al, .slice Aa a.nx.length ca, .slice Ba a.ac.length da] 32
  rw [hw_w4]
  clear hw_w4
  have ha0 := fun w' (hb : Below w4.heap.size w4 w') => hS_w4 0 _ rfl w' (hb.mono hz_w4)
  have ha1 := fun w' (hb : Below w4.heap.size w4 w') => hS_w4 1 _ rfl w' (hb.mono hz_w4)
  have ha2 := fun w' (hb : Below w4.heap.size w4 w') => hS_w4 2 _ rfl w' (hb.mono hz_w4)
  replace ha0 := hid ha0
  replace ha1 := hid ha1
  replace ha2 := hid ha2
  clear hS_w4
  have BW_w4 := BW_w3.trans (hb_w4.mono BW_w3.size)
  have BEs_w4 := BEs_w3.trans (hb_w4.mono BEs_w3.size)
  have Bs_w4 := Bs_w3.trans (hb_w4.mono Bs_w3.size)
  have BTa_w4 := BTa_w3.trans (hb_w4.mono BTa_w3.size)
  have Ba_w4 : Below w4.heap.size w4 w4 := Below.refl _ _
  have ps0 := hs0.out _ Bs_w4
  have ps1 := hs1.out _ Bs_w4
  have ps2 := hs2.out _ Bs_w4
  go_wp2_with fail
  have hc_x := hid (specProjectSystem_any s As cs al w4 a1 a2 (es.out.later BEs_w4))
  rw [← ha.out, ← hok.out] at hc_x
  refine hc_x.out.mono ?_
  clear hc_x
  clear ps0 ps1 ps2
  rintro e w5 ⟨hb_w5, v1, v2, xs, rfl, hau⟩
  obtain ⟨Ax, cx, Bx, dx, rfl, rfl, tx⟩ := hau.at_
  replace tx := hid tx
  clear hau
  have BW_w5 := BW_w4.trans (hb_w5.mono BW_w4.size)
  have BEs_w5 := BEs_w4.trans (hb_w5.mono BEs_w4.size)
  have Bs_w5 := Bs_w4.trans (hb_w5.mono Bs_w4.size)
  have BTa_w5 := BTa_w4.trans (hb_w5.mono BTa_w4.size)
  have Ba_w5 := Ba_w4.trans (hb_w5.mono Ba_w4.size)
  have BTx_w5 : Below w5.heap.size w5 w5 := Below.refl _ _
  go_upto_region 6 with fail
  obtain ⟨w6, hw_w6, hz_w6, hb_w6, hS_w6⟩ := boxed w5 #[.int .i64 a.al, .slice Ax a.nx.length cx, .slice Bx a.ac.length dx] 32
  rw [hw_w6]
  clear hw_w6
  have hx0 := fun w' (hb : Below w6.heap.size w6 w') => hS_w6 0 _ rfl w' (hb.mono hz_w6)
  have hx1 := fun w' (hb : Below w6.heap.size w6 w') => hS_w6 1 _ rfl w' (hb.mono hz_w6)
  have hx2 := fun w' (hb : Below w6.heap.size w6 w') => hS_w6 2 _ rfl w' (hb.mono hz_w6)
  replace hx0 := hid hx0
  replace hx1 := hid hx1
  replace hx2 := hid hx2
  clear hS_w6
  have BW_w6 := BW_w5.trans (hb_w6.mono BW_w5.size)
  have BEs_w6 := BEs_w5.trans (hb_w6.mono BEs_w5.size)
  have Bs_w6 := Bs_w5.trans (hb_w6.mono Bs_w5.size)
  have BTa_w6 := BTa_w5.trans (hb_w6.mono BTa_w5.size)
  have Ba_w6 := Ba_w5.trans (hb_w6.mono Ba_w5.size)
  have BTx_w6 := BTx_w5.trans (hb_w6.mono BTx_w5.size)
  have Bx_w6 : Below w6.heap.size w6 w6 := Below.refl _ _
  have pa0 := ha0.out _ Ba_w6
  have pa1 := ha1.out _ Ba_w6
  have pa2 := ha2.out _ Ba_w6
  have px0 := hx0.out _ Bx_w6
  have px1 := hx1.out _ Bx_w6
  have px2 := hx2.out _ Bx_w6
  go_wp2_with fail
  refine (agAutomata_any a a Aa Ba Ax Bx ca da cx dx w6 (ta.out.later BTa_w6) (tx.out.later BTx_w6)).mono ?_
  clear pa0 pa1 pa2 px0 px1 px2
  rintro e w7 ⟨rfl, hb_w7⟩
  have BW_w7 := BW_w6.trans (hb_w7.mono BW_w6.size)
  have BEs_w7 := BEs_w6.trans (hb_w7.mono BEs_w6.size)
  have Bs_w7 := Bs_w6.trans (hb_w7.mono Bs_w6.size)
  have BTa_w7 := BTa_w6.trans (hb_w7.mono BTa_w6.size)
  have Ba_w7 := Ba_w6.trans (hb_w7.mono Ba_w6.size)
  have BTx_w7 := BTx_w6.trans (hb_w7.mono BTx_w6.size)
  have Bx_w7 := Bx_w6.trans (hb_w7.mono Bx_w6.size)
  rw [decide_eq_true rfl]
  cases hokc : ok
  case false =>
    rw [hokc] at hok
    have pa0 := ha0.out _ Ba_w7
    have pa1 := ha1.out _ Ba_w7
    have pa2 := ha2.out _ Ba_w7
    have px0 := hx0.out _ Bx_w7
    have px1 := hx1.out _ Bx_w7
    have px2 := hx2.out _ Bx_w7
    go_wp2_with fail
    refine (agAutomata_any a a Aa Ba Ax Bx ca da cx dx w7 (ta.out.later BTa_w7) (tx.out.later BTx_w7)).mono ?_
    clear pa0 pa1 pa2 px0 px1 px2
    rintro e w8 ⟨rfl, hb_w8⟩
    have BW_w8 := BW_w7.trans (hb_w8.mono BW_w7.size)
    have BEs_w8 := BEs_w7.trans (hb_w8.mono BEs_w7.size)
    have Bs_w8 := Bs_w7.trans (hb_w8.mono Bs_w7.size)
    have BTa_w8 := BTa_w7.trans (hb_w8.mono BTa_w7.size)
    have Ba_w8 := Ba_w7.trans (hb_w8.mono Ba_w7.size)
    have BTx_w8 := BTx_w7.trans (hb_w8.mono BTx_w7.size)
    have Bx_w8 := Bx_w7.trans (hb_w8.mono Bx_w7.size)
    rw [decide_eq_true rfl]
    go_wp2_with fail
    go_ret
    exact ⟨rfl, BW_w8⟩
  case true =>
  have hpk : Hid (prK s al = true) := hid (by rw [← hok.out, hokc])
  have hso : Hid (soOk a = true) := hid (by rw [ha.out]; exact soOk_prA hpk.out)
  have halr := (prOk_parts (prK_true hpk.out).1).2.1
  obtain ⟨be, hbe⟩ : ∃ be, Hid (be = andB al 5) := ⟨_, hid rfl⟩
  have hand : bits .and .i64 al 5 = be := by rw [hbe.out]; exact bits_and (by omega) (by omega)
  subst hokc
  have pa0 := ha0.out _ Ba_w7
  have pa1 := ha1.out _ Ba_w7
  have pa2 := ha2.out _ Ba_w7
  go_wp2_with fail
  obtain ⟨T, hT1⟩ : ∃ T, Hid (T = soS a) := ⟨_, hid rfl⟩
  have hc_t := hid (implSystemOf_any a Aa Ba ca da w7 (hT.out.later BW_w7) (ta.out.later BTa_w7))
  rw [← hT1.out, hso.out] at hc_t
  refine hc_t.out.mono ?_
  clear hc_t
  clear pa0 pa1 pa2
  rintro e w9 hpost
  replace hpost := SoOwn.read hpost
  obtain ⟨At, ct, rfl, lt1, lt2, et3, -, hb_w9⟩ := hpost
  unfold Sy.val
  have BW_w9 := BW_w7.trans (hb_w9.mono BW_w7.size)
  have BEs_w9 := BEs_w7.trans (hb_w9.mono BEs_w7.size)
  have Bs_w9 := Bs_w7.trans (hb_w9.mono Bs_w7.size)
  have BTa_w9 := BTa_w7.trans (hb_w9.mono BTa_w7.size)
  have Ba_w9 := Ba_w7.trans (hb_w9.mono Ba_w7.size)
  have BTx_w9 := BTx_w7.trans (hb_w9.mono BTx_w7.size)
  have Bx_w9 := Bx_w7.trans (hb_w9.mono Bx_w7.size)
  have et := hid et3
  have BEt_w9 : Below w9.heap.size w9 w9 := Below.refl _ _
  clear et3
  go_upto_region 9 with fail
  obtain ⟨w10, hw_w10, hz_w10, hb_w10, hS_w10⟩ := boxed w9 #[.int .i64 T.al, .int .i64 T.st, .slice At T.es.length ct] 25
  rw [hw_w10]
  clear hw_w10
  have ht0 := fun w' (hb : Below w10.heap.size w10 w') => hS_w10 0 _ rfl w' (hb.mono hz_w10)
  have ht1 := fun w' (hb : Below w10.heap.size w10 w') => hS_w10 1 _ rfl w' (hb.mono hz_w10)
  have ht2 := fun w' (hb : Below w10.heap.size w10 w') => hS_w10 2 _ rfl w' (hb.mono hz_w10)
  replace ht0 := hid ht0
  replace ht1 := hid ht1
  replace ht2 := hid ht2
  clear hS_w10
  have BW_w10 := BW_w9.trans (hb_w10.mono BW_w9.size)
  have BEs_w10 := BEs_w9.trans (hb_w10.mono BEs_w9.size)
  have Bs_w10 := Bs_w9.trans (hb_w10.mono Bs_w9.size)
  have BTa_w10 := BTa_w9.trans (hb_w10.mono BTa_w9.size)
  have Ba_w10 := Ba_w9.trans (hb_w10.mono Ba_w9.size)
  have BTx_w10 := BTx_w9.trans (hb_w10.mono BTx_w9.size)
  have Bx_w10 := Bx_w9.trans (hb_w10.mono Bx_w9.size)
  have BEt_w10 := BEt_w9.trans (hb_w10.mono BEt_w9.size)
  have Bt_w10 : Below w10.heap.size w10 w10 := Below.refl _ _
  obtain ⟨y, hy⟩ : ∃ y, Hid (y = prA T be) := ⟨_, hid rfl⟩
  obtain ⟨good, hgood⟩ : ∃ ok, Hid (ok = prK T be) := ⟨_, hid rfl⟩
  obtain ⟨z, hz⟩ : ∃ z, Hid (z = prA s be) := ⟨_, hid rfl⟩
  obtain ⟨last, hlast⟩ : ∃ ok, Hid (ok = prK s be) := ⟨_, hid rfl⟩
  have pt0 := ht0.out _ Bt_w10
  have pt1 := ht1.out _ Bt_w10
  have pt2 := ht2.out _ Bt_w10
  go_wp2_with fail
  have hc_y := hid (implProjectSystem_any T At ct be w10 lt1 lt2 (hT.out.later BW_w10) (et.out.later BEt_w10))
  rw [← hy.out, ← hgood.out] at hc_y
  refine hc_y.out.mono ?_
  clear hc_y
  clear pt0 pt1 pt2
  rintro e w11 ⟨hb_w11, v1, v2, xs, rfl, hau⟩
  obtain ⟨Ay, cy, By, dy, rfl, rfl, ty⟩ := hau.at_
  replace ty := hid ty
  clear hau
  have BW_w11 := BW_w10.trans (hb_w11.mono BW_w10.size)
  have BEs_w11 := BEs_w10.trans (hb_w11.mono BEs_w10.size)
  have Bs_w11 := Bs_w10.trans (hb_w11.mono Bs_w10.size)
  have BTa_w11 := BTa_w10.trans (hb_w11.mono BTa_w10.size)
  have Ba_w11 := Ba_w10.trans (hb_w11.mono Ba_w10.size)
  have BTx_w11 := BTx_w10.trans (hb_w11.mono BTx_w10.size)
  have Bx_w11 := Bx_w10.trans (hb_w11.mono Bx_w10.size)
  have BEt_w11 := BEt_w10.trans (hb_w11.mono BEt_w10.size)
  have Bt_w11 := Bt_w10.trans (hb_w11.mono Bt_w10.size)
  have BTy_w11 : Below w11.heap.size w11 w11 := Below.refl _ _
  go_upto_region 10 with fail
  obtain ⟨w12, hw_w12, hz_w12, hb_w12, hS_w12⟩ := boxed w11 #[.int .i64 y.al, .slice Ay y.nx.length cy, .slice By y.ac.length dy] 32
  rw [hw_w12]
  clear hw_w12
  have hy0 := fun w' (hb : Below w12.heap.size w12 w') => hS_w12 0 _ rfl w' (hb.mono hz_w12)
  have hy1 := fun w' (hb : Below w12.heap.size w12 w') => hS_w12 1 _ rfl w' (hb.mono hz_w12)
  have hy2 := fun w' (hb : Below w12.heap.size w12 w') => hS_w12 2 _ rfl w' (hb.mono hz_w12)
  replace hy0 := hid hy0
  replace hy1 := hid hy1
  replace hy2 := hid hy2
  clear hS_w12
  have BW_w12 := BW_w11.trans (hb_w12.mono BW_w11.size)
  have BEs_w12 := BEs_w11.trans (hb_w12.mono BEs_w11.size)
  have Bs_w12 := Bs_w11.trans (hb_w12.mono Bs_w11.size)
  have BTa_w12 := BTa_w11.trans (hb_w12.mono BTa_w11.size)
  have Ba_w12 := Ba_w11.trans (hb_w12.mono Ba_w11.size)
  have BTx_w12 := BTx_w11.trans (hb_w12.mono BTx_w11.size)
  have Bx_w12 := Bx_w11.trans (hb_w12.mono Bx_w11.size)
  have BEt_w12 := BEt_w11.trans (hb_w12.mono BEt_w11.size)
  have Bt_w12 := Bt_w11.trans (hb_w12.mono Bt_w11.size)
  have BTy_w12 := BTy_w11.trans (hb_w12.mono BTy_w11.size)
  have By_w12 : Below w12.heap.size w12 w12 := Below.refl _ _
  have ps0 := hs0.out _ Bs_w12
  have ps1 := hs1.out _ Bs_w12
  have ps2 := hs2.out _ Bs_w12
  go_wp2_with fail
  have hc_z := hid (implProjectSystem_any s As cs be w12 a1 a2 (hT.out.later BW_w12) (es.out.later BEs_w12))
  rw [← hz.out, ← hlast.out] at hc_z
  refine hc_z.out.mono ?_
  clear hc_z
  clear ps0 ps1 ps2
  rintro e w13 ⟨hb_w13, v1, v2, xs, rfl, hau⟩
  obtain ⟨Az, cz, Bz, dz, rfl, rfl, tz⟩ := hau.at_
  replace tz := hid tz
  clear hau
  have BW_w13 := BW_w12.trans (hb_w13.mono BW_w12.size)
  have BEs_w13 := BEs_w12.trans (hb_w13.mono BEs_w12.size)
  have Bs_w13 := Bs_w12.trans (hb_w13.mono Bs_w12.size)
  have BTa_w13 := BTa_w12.trans (hb_w13.mono BTa_w12.size)
  have Ba_w13 := Ba_w12.trans (hb_w13.mono Ba_w12.size)
  have BTx_w13 := BTx_w12.trans (hb_w13.mono BTx_w12.size)
  have Bx_w13 := Bx_w12.trans (hb_w13.mono Bx_w12.size)
  have BEt_w13 := BEt_w12.trans (hb_w13.mono BEt_w12.size)
  have Bt_w13 := Bt_w12.trans (hb_w13.mono Bt_w12.size)
  have BTy_w13 := BTy_w12.trans (hb_w13.mono BTy_w12.size)
  have By_w13 := By_w12.trans (hb_w13.mono By_w12.size)
  have BTz_w13 : Below w13.heap.size w13 w13 := Below.refl _ _
  go_upto_region 11 with fail
  obtain ⟨w14, hw_w14, hz_w14, hb_w14, hS_w14⟩ := boxed w13 #[.int .i64 z.al, .slice Az z.nx.length cz, .slice Bz z.ac.length dz] 32
  rw [hw_w14]
  clear hw_w14
  have hz0 := fun w' (hb : Below w14.heap.size w14 w') => hS_w14 0 _ rfl w' (hb.mono hz_w14)
  have hz1 := fun w' (hb : Below w14.heap.size w14 w') => hS_w14 1 _ rfl w' (hb.mono hz_w14)
  have hz2 := fun w' (hb : Below w14.heap.size w14 w') => hS_w14 2 _ rfl w' (hb.mono hz_w14)
  replace hz0 := hid hz0
  replace hz1 := hid hz1
  replace hz2 := hid hz2
  clear hS_w14
  have BW_w14 := BW_w13.trans (hb_w14.mono BW_w13.size)
  have BEs_w14 := BEs_w13.trans (hb_w14.mono BEs_w13.size)
  have Bs_w14 := Bs_w13.trans (hb_w14.mono Bs_w13.size)
  have BTa_w14 := BTa_w13.trans (hb_w14.mono BTa_w13.size)
  have Ba_w14 := Ba_w13.trans (hb_w14.mono Ba_w13.size)
  have BTx_w14 := BTx_w13.trans (hb_w14.mono BTx_w13.size)
  have Bx_w14 := Bx_w13.trans (hb_w14.mono Bx_w13.size)
  have BEt_w14 := BEt_w13.trans (hb_w14.mono BEt_w13.size)
  have Bt_w14 := Bt_w13.trans (hb_w14.mono Bt_w13.size)
  have BTy_w14 := BTy_w13.trans (hb_w14.mono BTy_w13.size)
  have By_w14 := By_w13.trans (hb_w14.mono By_w13.size)
  have BTz_w14 := BTz_w13.trans (hb_w14.mono BTz_w13.size)
  have Bz_w14 : Below w14.heap.size w14 w14 := Below.refl _ _
  cases hgc : good
  case false =>
    go_wp2_with fail
    go_ret
    exact ⟨rfl, BW_w14⟩
  case true =>
  cases hlc : last
  case false =>
    go_wp2_with fail
    go_ret
    exact ⟨rfl, BW_w14⟩
  case true =>
  have hsame : Hid (sameLB y z = true) := hid (by
    have k1 := hgood.out
    have k2 := hlast.out
    rw [hgc] at k1
    rw [hlc] at k2
    rw [hT1.out, ha.out] at k1
    rw [hy.out, hz.out, hT1.out, ha.out]
    exact steps_same hpk.out k1.symm k2.symm)
  subst hgc hlc
  have py0 := hy0.out _ By_w14
  have py1 := hy1.out _ By_w14
  have py2 := hy2.out _ By_w14
  have pz0 := hz0.out _ Bz_w14
  have pz1 := hz1.out _ Bz_w14
  have pz2 := hz2.out _ Bz_w14
  go_wp2_with fail
  refine (implSameLanguage_any y z Ay By Az Bz cy dy cz dz w14 (ty.out.later BTy_w14) (tz.out.later BTz_w14)).mono ?_
  clear py0 py1 py2 pz0 pz1 pz2
  rintro e w15 ⟨rfl, hb_w15⟩
  have BW_w15 := BW_w14.trans (hb_w15.mono BW_w14.size)
  have BEs_w15 := BEs_w14.trans (hb_w15.mono BEs_w14.size)
  have Bs_w15 := Bs_w14.trans (hb_w15.mono Bs_w14.size)
  have BTa_w15 := BTa_w14.trans (hb_w15.mono BTa_w14.size)
  have Ba_w15 := Ba_w14.trans (hb_w15.mono Ba_w14.size)
  have BTx_w15 := BTx_w14.trans (hb_w15.mono BTx_w14.size)
  have Bx_w15 := Bx_w14.trans (hb_w15.mono Bx_w14.size)
  have BEt_w15 := BEt_w14.trans (hb_w15.mono BEt_w14.size)
  have Bt_w15 := Bt_w14.trans (hb_w15.mono Bt_w14.size)
  have BTy_w15 := BTy_w14.trans (hb_w15.mono BTy_w14.size)
  have By_w15 := By_w14.trans (hb_w15.mono By_w14.size)
  have BTz_w15 := BTz_w14.trans (hb_w15.mono BTz_w14.size)
  have Bz_w15 := Bz_w14.trans (hb_w15.mono Bz_w14.size)
  rw [hsame.out]
  go_wp2_with fail
  go_ret
  exact ⟨rfl, BW_w15⟩

end Go.Proofs.YtolnlkccbndkcaaDoor
