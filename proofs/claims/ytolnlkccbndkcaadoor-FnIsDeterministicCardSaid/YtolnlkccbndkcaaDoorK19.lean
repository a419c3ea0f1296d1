/- Lemmas, part 19: several texts in one. -/
import Derived.Test.YtolnlkccbndkcaaDoorK18
import Derived.BigQuiet
import Derived.Test.YtolnlkccbndkcaaDoorK12
import Derived.Test.YtolnlkccbndkcaaDoorK5
import Derived.Test.YtolnlkccbndkcaaDoorK6
import Derived.Test.YtolnlkccbndkcaaDoorK3
import Derived.Test.YtolnlkccbndkcaaDoorK15
set_option linter.unusedSimpArgs false
set_option linter.unusedVariables false

/- The reference's IsDeterministic returns detB too. -/
namespace Go.Proofs.YtolnlkccbndkcaaDoor
open Go.RowKit Go.BigFrame AG

theorem l1Has_zero (n : Int) (w : World) :
    Calls Tryd.prog 106 #[.int .i64 0, .int .i64 n] w fun e w' => e = .returned (.bool false) ∧ w = w' := by
  go_enter Tryd.func106, Tryd.ntmps106
  go_wp2
  go_ret
  exact ⟨ret_bool (by simp; first | decide | (intro h; exact absurd h (by rw [show bits BinOp.and IntKind.i64 0 1 = 0 from rfl]; decide))), rfl⟩

theorem below_drewNd {B : Nat} {a w : World} (h : Below B a w) (n : Nat) : Below B a (w.drewN n) := h.trans ⟨rfl, rfl, rfl, Nat.le_refl _, fun _ _ => rfl⟩

set_option maxHeartbeats 4000000 in
theorem specIsDeterministic_any (s : Sy) (A : Option Addr) (c : Nat) (w : World) (hl : s.es.length ≤ c) (hc : c ≤ 9223372036854775807) (hr : EdsAt w w.heap.size A s.es) :
    Calls Tryd.prog 41 #[s.val A c] w fun e w' => e = .returned (.bool (detB s)) ∧ Below w.heap.size w w' := by
  obtain ⟨R, hR⟩ : ∃ R : Nat, R = if sysOk s then reachAll s else 0 := ⟨_, rfl⟩
  have hH : Hid (∀ k, ∀ h : k < s.es.length, ∃ H : Bool, (H = true → sysOk s = true ∧ Has (R : Int) s.es[k].f.toNat = true) ∧ (sysOk s = true → Has (R : Int) s.es[k].f.toNat = true → H = true) ∧ ∀ w : World, Calls Tryd.prog 106 #[.int .i64 R, .int .i64 s.es[k].f] w fun e w' => e = .returned (.bool H) ∧ w = w') := hid (by
    intro k h
    cases hok : sysOk s
    · rw [hok] at hR
      subst hR
      exact ⟨false, fun h => absurd h (by simp), fun h => absurd h (by simp), fun w => l1Has_zero _ w⟩
    · obtain ⟨fa, fb, _⟩ := sysOk_in hok s.es[k] (List.getElem_mem _)
      exact ⟨_, fun h => ⟨rfl, h⟩, fun _ h => h, fun w => l1Has_any _ _ w fa (by omega)⟩)
  unfold Sy.val
  replace hr := hid hr
  go_enter Tryd.func41, Tryd.ntmps41
  go_wp2_with fail
  obtain ⟨w0, hw0, hz0, hB0, hS0, hS1, hS2⟩ := boxed3 w (Value.int IntKind.i64 s.al) (Value.int IntKind.i64 s.st) (Value.slice A s.es.length c) 25
  rw [hw0]
  clear hw0
  have hr0 := hid (hr.out.later hB0)
  have p0 := hS0 _ (Below.refl _ _)
  have p1 := hS1 _ (Below.refl _ _)
  have p2 := hS2 _ (Below.refl _ _)
  go_wp2_with fail
  have hreach := specReachableStates_any s A c w0 hl hc hr0.out
  rw [← hR] at hreach
  replace hR := hid hR
  refine hreach.mono ?_
  clear hreach
  rintro e w1 ⟨rfl, hb1⟩
  have hB1 : Below w.heap.size w w1 := hB0.trans (hb1.mono (by omega))
  have hb1' := hb1.mono hz0
  clear p0 p1 p2
  go_wp2_with fail
  go_loopw [4] (fun i wr => ∃ k : Nat, i = .int .i64 (k + 1 : Nat) ∧ (k = 0 ∨ k + 1 ≤ s.es.length) ∧ (sysOk s = true → detAt s R k) ∧ Below (w.heap.size + 1) w0 wr) (fun i _ => s.es.length + 1 - (intOf i).toNat)
  case atStart => exact ⟨0, rfl, .inl rfl, fun _ i _ h => by omega, hb1'⟩
  case round =>
    obtain ⟨k, rfl, hk, hdet, hb⟩ := hrel
    replace hdet := hid hdet
    have q0 := hS0 _ hb
    have q1 := hS1 _ hb
    have q2 := hS2 _ hb
    by_cases hlt : k + 1 < s.es.length
    · obtain ⟨b, o, rfl, hB, hE⟩ := hr.out.get hB0 (Nat.le_succ w.heap.size) hlt
      obtain ⟨e0, e1, e2⟩ := hE k (by omega)
      obtain ⟨f0, f1, f2⟩ := hE (k + 1) hlt
      replace hE := hid hE
      replace e0 := e0 _ hb
      replace e1 := e1 _ hb
      replace e2 := e2 _ hb
      replace f0 := f0 _ hb
      replace f1 := f1 _ hb
      replace f2 := f2 _ hb
      have hzr := hb.size
      have up1 : ∀ (B' O' : Nat) (v : Value), B' < wr.heap.size → wr.cell? ⟨B', O', none⟩ = some v → ∀ X : Array Value, (wr.alloc (Obj.cells X 81)).cell? ⟨B', O', none⟩ = some v := fun B' O' v hB' h X => by
        rw [World.cell?_alloc_lt (h := by simpa using hB')]
        exact h
      have x2 := up1 _ _ _ (by omega) q2
      have z0 := up1 _ _ _ (by omega) f0
      have z1 := up1 _ _ _ (by omega) f1
      have z2 := up1 _ _ _ (by omega) f2
      replace up1 := hid up1
      obtain ⟨H, hH1, hH2, hH3⟩ := hH.out k (by omega)
      have hbx := hb.mono (Nat.le_succ w.heap.size)
      replace hH1 := hid hH1
      replace hH2 := hid hH2
      replace hH3 := hid hH3
      have hcase : (H = false) ∨ (H = true ∧ (s.es[k].f == s.es[k + 1].f) = false) ∨ (H = true ∧ (s.es[k].f == s.es[k + 1].f) = true ∧ (s.es[k].l == s.es[k + 1].l) = false) ∨ (H = true ∧ (s.es[k].f == s.es[k + 1].f) = true ∧ (s.es[k].l == s.es[k + 1].l) = true) := by
        cases H
        · exact .inl rfl
        · by_cases d1 : s.es[k].f = s.es[k + 1].f
          · by_cases d2 : s.es[k].l = s.es[k + 1].l
            · exact .inr (.inr (.inr ⟨rfl, beq_iff_eq.mpr d1, beq_iff_eq.mpr d2⟩))
            · exact .inr (.inr (.inl ⟨rfl, beq_iff_eq.mpr d1, beq_eq_false_iff_ne.mpr d2⟩))
          · exact .inr (.inl ⟨rfl, beq_eq_false_iff_ne.mpr d1⟩)
      have i1 : (0 : Int) ≤ (k : Int) + 1 := by omega
      have i2 : (k : Int) + 1 < (s.es.length : Int) := by omega
      have i3 : ((k : Int) + 1).toNat = k + 1 := by omega
      go_wp2_with fail
      rcases hcase with rfl | ⟨rfl, g1⟩ | ⟨rfl, g1, g2⟩ | ⟨rfl, g1, g2⟩
      all_goals
        go_quiet ((go_at_call 106; refine (hH3.out _).mono ?_; rintro e w3 ⟨rfl, rfl⟩; exact ⟨rfl, _, rfl⟩))
      all_goals
        go_wp2
      all_goals
        first
        | (refine ⟨⟨k + 1, by go_num, .inr (by omega), fun hk => detAt.next (hdet.out hk) hlt ?_, below_drewNd (by (repeat (first | exact Below.refl _ _ | assumption | refine Below.drew ?_ | refine Below.alloc ?_ (by first | omega | (simp; done) | (simp; omega)) _ | refine Below.setCell ?_ (by first | omega | (simp; done) | (simp; omega)) _))) _⟩, by simp [intOf]; omega⟩
           rintro ⟨h1, h2, h3⟩
           first
           | exact absurd (hH2.out hk h1) Bool.false_ne_true
           | exact absurd (beq_iff_eq.mpr h2) (ne_true_of_eq_false g1)
           | exact absurd (beq_iff_eq.mpr h3) (ne_true_of_eq_false g2))
        | (go_ret
           obtain ⟨hok, h1⟩ := hH1.out (by simp)
           have hR' : R = reachAll s := by rw [hR.out, hok]; rfl
           refine ⟨ret_bool (detB_false (k := k) fun h => h k hlt (by omega) ⟨?_, ?_, ?_⟩).symm, hB0.trans (below_drewNd (by (repeat (first | exact Below.refl _ _ | assumption | refine Below.drew ?_ | refine Below.alloc ?_ (by first | omega | (simp; done) | (simp; omega)) _ | refine Below.setCell ?_ (by first | omega | (simp; done) | (simp; omega)) _))) _)⟩
           · rw [← hR']; exact h1
           · exact beq_iff_eq.mp g1
           · exact beq_iff_eq.mp g2)
    · have hzr := hb.size
      have hr3 := hid (hr.out.later (hB0.trans (hb.mono (Nat.le_succ _))))
      go_wp2_with fail
      refine (specSystemValid_any s A c wr hl hc hr3.out).mono ?_
      rintro e w3 ⟨rfl, hb3⟩
      go_wp2
      go_ret
      refine ⟨ret_bool ?_, hB0.trans ((hb.mono (by omega)).trans (hb3.mono ?_))⟩
      · cases hok : sysOk s
        · unfold detB
          rw [hok]; rfl
        · have hR' : R = reachAll s := by rw [hR.out, hok]; rfl
          have hd := hdet.out hok
          rw [hR'] at hd
          unfold detB
          rw [hok]
          symm
          simp only [Bool.true_and, decide_eq_true_eq]
          exact fun i hi _ => hd i hi (by omega)
      · have := hb.size
        omega

end Go.Proofs.YtolnlkccbndkcaaDoor

/- The drawing kit: l7Draw, l7Wrong. -/
namespace Go.Proofs.YtolnlkccbndkcaaDoor
open Go.RowKit Go.BigFrame AG

theorem infoSy : (Tryd.prog.info? 25).map (fun i => (i.zero, i.size, i.bytes)) = some (some (.agg #[.int .i64 0, .int .i64 0, .slice none 0 0]), 3, 40) := by kernel_rfl

/-- A system and where its edges lie. -/
structure SyV where
  s : Sy
  A : Option Addr
  c : Nat
def sysCells : List SyV → List Value
  | [] => []
  | x :: xs => .int .i64 x.s.al :: .int .i64 x.s.st :: .slice x.A x.s.es.length x.c :: sysCells xs
theorem sysCells_append : ∀ ps qs : List SyV, sysCells (ps ++ qs) = sysCells ps ++ sysCells qs
  | [], _ => rfl
  | p :: ps, qs => by rw [List.cons_append, sysCells, sysCells_append ps qs]; rfl
theorem sysCells_at : ∀ (ps : List SyV) (i : Nat) (h : i < ps.length), (sysCells ps)[i * 3]? = some (.int .i64 ps[i].s.al) ∧ (sysCells ps)[i * 3 + 1]? = some (.int .i64 ps[i].s.st) ∧ (sysCells ps)[i * 3 + 2]? = some (.slice ps[i].A ps[i].s.es.length ps[i].c)
  | p :: ps, 0, _ => ⟨rfl, rfl, rfl⟩
  | p :: ps, i + 1, h => by
    have := sysCells_at ps i (by simpa using h)
    rw [show (i + 1) * 3 = i * 3 + 1 + 1 + 1 from by omega]
    exact this

/-- One system of a list that the call owns: its edges lie apart. -/
structure SyIn (w : World) (R L : Nat) (v : Value) (x : SyV) : Prop where
  le : x.s.es.length ≤ x.c
  top : x.c ≤ 9223372036854775807
  len : x.s.es.length ≤ L
  at_ : EdsAt w w.heap.size x.A x.s.es
  far : 0 < x.s.es.length → ∃ b o, x.A = some ⟨b, o, none⟩ ∧ b < w.heap.size ∧ v.ownBlock ≠ some b ∧ R < b
/-- A list of systems that the call owns. -/
structure LstSt (w wr : World) (R P L : Nat) (v : Value) (xs : List SyV) : Prop where
  own : wr.ownsRow w.heap.size 25 3 v xs.length (sysCells xs)
  each : ∀ x ∈ xs, SyIn wr R L v x
  rd : RdUp wr R P
  keep : KeepB (fun b => b = R) w wr

theorem SyIn.keep {w w' : World} {R L : Nat} {v : Value} {x : SyV} {K : Nat → Prop} (h : SyIn w R L v x) (hk : KeepB K w w') (hK : ∀ b, K b → b = R ∨ v.ownBlock = some b) : SyIn w' R L v x := by
  refine ⟨h.le, h.top, h.len, fun hn => ?_, fun hn => ?_⟩
  · obtain ⟨b, o, hA, hlt, hne, hR⟩ := h.far hn
    obtain ⟨b', o', hA', -, hE⟩ := h.at_ hn
    rw [hA] at hA'
    cases hA'
    have hnb : ¬ K b := fun hk => by rcases hK b hk with e | e; omega; exact hne e
    refine ⟨b, o, hA, Nat.lt_of_lt_of_le hlt hk.size, fun i hi => ?_⟩
    rw [KeepB.cell_ hk hlt hnb, KeepB.cell_ hk hlt hnb, KeepB.cell_ hk hlt hnb]
    exact hE i hi
  · obtain ⟨b, o, hA, hlt, hne, hR⟩ := h.far hn
    exact ⟨b, o, hA, Nat.lt_of_lt_of_le hlt hk.size, hne, hR⟩
theorem LstSt.call {w wr w1 : World} {R P P' L : Nat} {v : Value} {xs : List SyV} (h : LstSt w wr R P L v xs) (hk : KeepB (fun b => b = R) wr w1) (hr : RdUp w1 R P') (hR : R < w.heap.size) : LstSt w w1 R P' L v xs :=
  ⟨own_keep h.own hk (fun g hg => by have := (World.ownsRow.lt h.own g hg).1; omega), fun x hx => (h.each x hx).keep hk fun _ e => .inl e, hr, h.keep.trans hk⟩
theorem LstSt.later {w wr w1 : World} {R P L : Nat} {v : Value} {xs : List SyV} (h : LstSt w wr R P L v xs) (hb : Below wr.heap.size wr w1) (hR : R < w.heap.size) : LstSt w w1 R P L v xs := h.call (KeepB.of_below hb) (h.rd.later hb) hR
theorem LstSt.more {w wr : World} {R P P' L L' : Nat} {v : Value} {xs : List SyV} (h : LstSt w wr R P L v xs) (hP : P ≤ P') (hL : L ≤ L') : LstSt w wr R P' L' v xs :=
  ⟨h.own, fun x hx => ⟨(h.each x hx).le, (h.each x hx).top, by have := (h.each x hx).len; omega, (h.each x hx).at_, (h.each x hx).far⟩, h.rd.more hP, h.keep⟩
theorem LstSt.add {w wr w1 : World} {R P L : Nat} {v v' : Value} {xs : List SyV} {x : SyV} (h : LstSt w wr R P L v xs) (hR : R < w.heap.size) (hx : SyIn wr R L v x)
    (hown : w1.ownsRow w.heap.size 25 3 v' (xs.length + 1) (sysCells xs ++ [.int .i64 x.s.al, .int .i64 x.s.st, .slice x.A x.s.es.length x.c])) (hg : wr.grownBy w1 v.ownBlock) (hat : v'.ownBlock = v.ownBlock ∨ v'.ownBlock = some wr.heap.size) :
    LstSt w w1 R P L v' (xs ++ [x]) := by
  have hv : ∀ k, v.ownBlock = some k → w.heap.size ≤ k := fun k hk => (World.ownsRow.lt h.own k hk).1
  have k1 : KeepB (fun b => v.ownBlock = some b) wr w1 := (KeepB.refl _ wr).grown hg (fun k hk _ => hk)
  have key : ∀ y, SyIn wr R L v y → SyIn w1 R L v' y := fun y hy => by
    have h1 := hy.keep k1 fun b hb => .inr hb
    refine ⟨h1.le, h1.top, h1.len, h1.at_, fun hn => ?_⟩
    obtain ⟨b, o, hA, hlt, hne, hRb⟩ := hy.far hn
    refine ⟨b, o, hA, Nat.lt_of_lt_of_le hlt k1.size, ?_, hRb⟩
    rcases hat with e | e
    · rw [e]; exact hne
    · rw [e]; intro e'; injection e' with e'; omega
  refine ⟨?_, fun y hy => ?_, h.rd.keep k1 (fun k hk => by have := hv k hk; omega), h.keep.grown hg (fun k hk hlt => by have := hv k hk; omega)⟩
  · have e : (xs ++ [x]).length = xs.length + 1 := by simp
    rw [e, sysCells_append]
    exact hown
  · rcases List.mem_append.1 hy with hy | hy
    · exact key y (h.each y hy)
    · rw [List.mem_singleton.1 hy]; exact key x hx
/-- A system that has just been drawn. -/
theorem SyIn.new {w wr w1 : World} {R P L : Nat} {v : Value} {xs : List SyV} {s : Sy} {A : Option Addr} {c : Nat} (h : LstSt w wr R P L v xs) (h1 : s.es.length ≤ c) (h2 : c ≤ 9223372036854775807) (h3 : s.es.length ≤ L) (h4 : EdsAt w1 w1.heap.size A s.es) (h5 : FreshA wr.heap.size A) (hR : R < w.heap.size) : SyIn w1 R L v ⟨s, A, c⟩ :=
  ⟨h1, h2, h3, h4, fun hn => by
    obtain ⟨b, o, hA, hlt, -⟩ := h4 hn
    have h6 := h5 b o hA
    have h7 := h.keep.size
    exact ⟨b, o, hA, hlt, fun e => by have := (World.ownsRow.lt h.own b e).2; omega, by omega⟩⟩
theorem LstSt.read {w wr : World} {R P L : Nat} {v : Value} {xs : List SyV} (h : LstSt w wr R P L v xs) : ∃ A c, v = .slice A xs.length c ∧ xs.length ≤ c ∧ c ≤ 9223372036854775807 ∧ SysAt wr wr.heap.size A (xs.map (·.s)) := by
  by_cases hn : xs.length = 0
  · obtain ⟨A, c, hv, h1, h2⟩ := own_slice h.own
    exact ⟨A, c, hv, h1, h2, fun hl => by simp at hl; omega⟩
  · obtain ⟨g, cap, hv, h1, h2, h3, h4, h5⟩ := own_shape h.own (by omega)
    refine ⟨_, cap, hv, h3, h4, fun _ => ⟨g, 0, rfl, h2, fun i hi => ?_⟩⟩
    have hi' : i < xs.length := by simpa using hi
    obtain ⟨a0, a1, a2⟩ := sysCells_at xs i hi'
    have hx := h.each xs[i] (List.getElem_mem _)
    simp only [List.getElem_map, Nat.zero_add]
    exact ⟨h5 _ _ a0, h5 _ _ a1, xs[i].A, xs[i].c, h5 _ _ a2, hx.le, hx.top, hx.at_⟩

def LsUp (w0 : World) (R P L : Nat) (e : Ending) (w' : World) : Prop := ∃ v xs, e = .returned v ∧ xs.length ≤ 10 ∧ LstSt w0 w' R P L v xs

end Go.Proofs.YtolnlkccbndkcaaDoor

/- The drawing kit: l7Wrong, DrawPartsAlphabet. -/
namespace Go.Proofs.YtolnlkccbndkcaaDoor
open Go.RowKit Go.BigFrame AG

def sliceLen : Value → Nat
  | .slice _ n _ => n
  | _ => 0

theorem sysCells_set0 : ∀ (xs : List SyV) (x : SyV), 0 < xs.length → (((sysCells xs).set 0 (.int .i64 x.s.al)).set 1 (.int .i64 x.s.st)).set 2 (.slice x.A x.s.es.length x.c) = sysCells (xs.set 0 x)
  | [], _, h => by simp at h
  | y :: ys, x, _ => rfl

/-- The first system of a list is replaced. -/
theorem LstSt.put {w wr : World} {R P L g c : Nat} {xs : List SyV} {x : SyV} (h : LstSt w wr R P L (.slice (some ⟨g, 0, none⟩) xs.length c) xs) (hR : R < w.heap.size) (hn : 0 < xs.length) (hx : SyIn wr R L (.slice (some ⟨g, 0, none⟩) xs.length c) x) :
    LstSt w (((wr.setCell ⟨g, 0, none⟩ (.int .i64 x.s.al)).setCell ⟨g, 1, none⟩ (.int .i64 x.s.st)).setCell ⟨g, 2, none⟩ (.slice x.A x.s.es.length x.c)) R P L (.slice (some ⟨g, 0, none⟩) xs.length c) (xs.set 0 x) := by
  have hg := World.ownsRow.lt h.own g rfl
  have s1 := (World.ownsRow.stored h.own 0 (.int .i64 x.s.al)).1
  have s2 := (World.ownsRow.stored s1 1 (.int .i64 x.s.st)).1
  have s3 := (World.ownsRow.stored s2 2 (.slice x.A x.s.es.length x.c)).1
  rw [sysCells_set0 xs x hn] at s3
  have hk : KeepB (fun b => b = g) wr (((wr.setCell ⟨g, 0, none⟩ (.int .i64 x.s.al)).setCell ⟨g, 1, none⟩ (.int .i64 x.s.st)).setCell ⟨g, 2, none⟩ (.slice x.A x.s.es.length x.c)) := (((KeepB.refl _ wr).setCell _ _ (by simp)).setCell _ _ (by simp)).setCell _ _ (by simp)
  have hk2 : ∀ b, b = g → b = R ∨ (Value.slice (some ⟨g, 0, none⟩) xs.length c).ownBlock = some b := fun b hb => .inr (by rw [hb]; rfl)
  refine ⟨by rw [List.length_set]; exact s3, fun y hy => ?_, h.rd.keep hk (by omega), ((h.keep.setCell _ _ (by simp; omega)).setCell _ _ (by simp; omega)).setCell _ _ (by simp; omega)⟩
  rcases List.mem_or_eq_of_mem_set hy with hy | rfl
  · exact (h.each y hy).keep hk hk2
  · exact hx.keep hk hk2

def DrawSys (w : World) (e : Ending) (w' : World) : Prop := ∃ (ss : List Sy) (A : Option Addr) (c : Nat), e = .returned (.slice A ss.length c) ∧ ss.length ≤ c ∧ c ≤ 9223372036854775807 ∧ ss.length ≤ 10 ∧ SysAt w' w'.heap.size A ss ∧ Below w.heap.size w w'


end Go.Proofs.YtolnlkccbndkcaaDoor

/- Lists of systems: the program's areParts. -/
namespace Go.Proofs.YtolnlkccbndkcaaDoor
open Go.RowKit Go.BigFrame AG

end Go.Proofs.YtolnlkccbndkcaaDoor

/- Alphabets of lists of systems: both PartsAlphabet and SharedLetters. -/
namespace Go.Proofs.YtolnlkccbndkcaaDoor
open Go.RowKit Go.BigFrame AG



theorem partsAl_neg (ss : List Sy) : partsAl ss < 0 ∧ partsOk ss = false ∨ 0 ≤ partsAl ss ∧ partsOk ss = true := by
  unfold partsAl
  cases h : partsOk ss
  · exact .inl ⟨by simp, rfl⟩
  · refine .inr ⟨?_, rfl⟩
    rw [if_pos rfl]
    refine (allAl_range ss ?_).1
    unfold partsOk at h
    rw [Bool.and_eq_true] at h
    exact h.2


end Go.Proofs.YtolnlkccbndkcaaDoor

/- The law FnPartsAlphabet. -/
namespace Go.Proofs.YtolnlkccbndkcaaDoor
open Go.RowKit Go.BigFrame AG

/-- One system of a list is a list. -/
theorem SysAt.one {w : World} {B b o : Nat} {ss : List Sy} (h : SysAt w B (some ⟨b, o, none⟩) ss) {i : Nat} (hi : i < ss.length) : SysAt w B (some ⟨b, o + i * 3, none⟩) [ss[i]] := fun _ => by
  obtain ⟨b', o', hA, hb, hE⟩ := h (by omega)
  cases hA
  refine ⟨b, o + i * 3, rfl, hb, fun j hj => ?_⟩
  obtain rfl : j = 0 := by simpa using hj
  simpa using hE i hi

end Go.Proofs.YtolnlkccbndkcaaDoor

/- The law FnSharedLetters. -/
namespace Go.Proofs.YtolnlkccbndkcaaDoor
open Go.RowKit Go.BigFrame AG

set_option maxHeartbeats 400000 in
theorem agHas_any (a n : Int) (w : World) (h0 : 0 ≤ n) (h1 : n ≤ 63) :
    Calls Tryd.prog 108 #[.int .i64 a, .int .i64 n] w fun e w' => e = .returned (.bool (Has a n.toNat)) ∧ w = w' := by
  go_enter Tryd.func108, Tryd.ntmps108
  go_wp2
  go_ret
  exact ⟨ret_bool (and_one_has _ _), rfl⟩

end Go.Proofs.YtolnlkccbndkcaaDoor

/- TrimSystem, both versions; the laws' agSystems on systems that are the same. -/
namespace Go.Proofs.YtolnlkccbndkcaaDoor
open Go.RowKit Go.BigFrame AG

theorem keep_none {w w' : World} (h : KeepB (fun _ => False) w w') : Below w.heap.size w w' := ⟨h.os, h.tape, h.output, h.size, fun i hi => h.block i hi (fun hh => hh)⟩
theorem reachAll_small {s : Sy} (h : sysOk s = true) : reachAll s < 2 ^ s.st.toNat := by
  have hin := sysOk_in h
  have h1 := sysOk_st h
  refine Nat.lt_pow_two_of_testBit _ fun i hi => ?_
  rw [← Bool.not_eq_true]
  intro hb
  unfold reachAll reachSet at hb
  rw [bitsOf_testBit] at hb
  have := hb.2 (fun q => (q : Int) < s.st) (fun x hx => by
    have := testBit_lt (n := 1) (S := 1) (by decide) hx
    show (x : Int) < s.st
    omega) (fun e he _ _ => by
    obtain ⟨a, b, c, d, _, _, _, _, f⟩ := hin e he
    show ((e.t.toNat : Nat) : Int) < s.st
    omega)
  have h3 : (i : Int) < s.st := this
  omega
noncomputable def trimOut (s : Sy) : Sy := if sysOk s = true then trimSy s (reachAll s) else ⟨0, 0, []⟩
def TrimPost (w : World) (s : Sy) (e : Ending) (w' : World) : Prop := ∃ (A : Option Addr) (c : Nat), e = .returned (.tuple #[(trimOut s).val A c, .bool (sysOk s)]) ∧ (trimOut s).es.length ≤ c ∧ c ≤ 9223372036854775807 ∧ EdsAt w' w'.heap.size A (trimOut s).es ∧ Below w.heap.size w w'

set_option maxRecDepth 100000 in
set_option maxHeartbeats 4000000 in
theorem implTrimSystem_any (s : Sy) (A : Option Addr) (c : Nat) (w : World) (hL : s.es.length ≤ 1000000) (hl : s.es.length ≤ c) (hc : c ≤ 9223372036854775807) (hT : Tab w) (hr : EdsAt w w.heap.size A s.es) :
    Calls Tryd.prog 44 #[s.val A c] w (TrimPost w s) := by
  unfold Sy.val
  have hpar := (Blk.new w 25 #[.int .i64 s.al, .int .i64 s.st, .slice A s.es.length c]).alloc (.cells #[.int .i64 0, .int .i64 0, .slice none 0 0] 25)
  have hres := Blk.new (w.alloc (.cells #[.int .i64 s.al, .int .i64 s.st, .slice A s.es.length c] 25)) 25 #[.int .i64 0, .int .i64 0, .slice none 0 0]
  have hb0 : Below w.heap.size w ((w.alloc (.cells #[.int .i64 s.al, .int .i64 s.st, .slice A s.es.length c] 25)).alloc (.cells #[.int .i64 0, .int .i64 0, .slice none 0 0] 25)) := ((Below.refl _ _).alloc (Nat.le_refl _) _).alloc (by simp) _
  have hsz0 : ((w.alloc (.cells #[.int .i64 s.al, .int .i64 s.st, .slice A s.es.length c] 25)).alloc (.cells #[.int .i64 0, .int .i64 0, .slice none 0 0] 25)).heap.size = w.heap.size + 2 := by simp
  simp only [World.size_alloc] at hres
  generalize hw0 : (w.alloc (.cells #[.int .i64 s.al, .int .i64 s.st, .slice A s.es.length c] 25)).alloc (.cells #[.int .i64 0, .int .i64 0, .slice none 0 0] 25) = w0 at hres hb0 hsz0 hpar
  have p0 := hpar.cell 0
  have p1 := hpar.cell 1
  have p2 := hpar.cell 2
  simp only [List.getElem?_toArray, List.getElem?_cons_zero, List.getElem?_cons_succ] at p0 p1 p2
  have hs0 := hid (hr.later hb0)
  have hT0 := hid (hT.later hb0)
  replace hr := hid hr
  replace hres := hid hres
  have hpar' := hid hpar
  replace hsz0 := hid hsz0
  clear hpar
  go_enter Tryd.func44, Tryd.ntmps44
  go_wp2_with fail
  refine (implSystemValid_any s A c w0 hl hc hs0.out).mono ?_
  rintro e w1 ⟨rfl, hb1⟩
  have hB1 := hb0.trans (hb1.mono hb0.size)
  have hs1 := hid (hs0.out.later hb1)
  have hT1 := hid (hT0.out.later hb1)
  have hpb := hpar'.out.below hb1 hpar'.out.lt
  have hrb := hres.out.below hb1 hres.out.lt
  clear p0 p1 p2 hw0
  have p0 := hpb.cell 0
  have p1 := hpb.cell 1
  have p2 := hpb.cell 2
  have d0 := hrb.cell 0
  have d1 := hrb.cell 1
  have d2 := hrb.cell 2
  have f0 := hrb.frozen 0
  have f1 := hrb.frozen 1
  have f2 := hrb.frozen 2
  simp only [List.getElem?_toArray, List.getElem?_cons_zero, List.getElem?_cons_succ] at p0 p1 p2 d0 d1 d2
  have hz1 := hb1.size
  have hlt1 := hrb.lt
  have hzz := hsz0.out
  cases hok : sysOk s
  · have hfin : Hid (TrimPost w s (.returned (.tuple #[.agg #[.int .i64 0, .int .i64 0, .slice none 0 0], .bool false])) (((w1.setCell ⟨w.heap.size + 1, 0, none⟩ (.int .i64 0)).setCell ⟨w.heap.size + 1, 1, none⟩ (.int .i64 0)).setCell ⟨w.heap.size + 1, 2, none⟩ (.slice none 0 0))) := hid (by
      refine ⟨none, 0, ?_, ?_, by omega, ?_, ?_⟩
      · unfold trimOut; rw [hok]; rfl
      · unfold trimOut; rw [hok]; exact Nat.le_refl _
      · unfold trimOut; rw [hok]; intro h; simp at h
      · exact ((hB1.setCell (by simp) _).setCell (by simp) _).setCell (by simp) _)
    replace hok := hid hok
    clear hpb hrb
    go_wp2
    refine bodyPost_ret (v := .tuple #[.agg #[.int .i64 0, .int .i64 0, .slice none 0 0], .bool false]) (by simp [results, Tryd.results44, go_sem, d0, d1, d2]) rfl ?_
    exact hfin.out
  · have hin := sysOk_in hok
    have hst := sysOk_st hok
    have hsm := reachAll_small hok
    have htr : Hid (trimOut s = trimSy s (reachAll s)) := hid (by unfold trimOut; rw [if_pos hok])
    have hok2 := hid hok
    have q0 := GK.BI.cell p0
    have q1 := GK.BI.cell p1
    have q2 := GK.BI.cell p2
    replace hin := hid hin
    replace hsm := hid hsm
    replace hok := hid hok
    clear hpb hrb d0 d1 d2 f0 f1 f2
    go_wp2_with fail
    clear p0 p1 p2
    refine GK.wp_region 4 [4, 5] 200 (KeepB fun _ => False) (GK.BI w1) (fun i u w' => if i = 2 then u = .int .i64 ((reachAll s : Nat) : Int) else ∃ (A2 : Option Addr) (c2 : Nat), u = (trimSy s (reachAll s)).val A2 c2 ∧ (trimSy s (reachAll s)).es.length ≤ c2 ∧ c2 ≤ 9223372036854775807 ∧ EdsAt w' w'.heap.size A2 (trimSy s (reachAll s)).es ∧ FreshA w1.heap.size A2) (by kernel_rfl) (by kernel_rfl) (GK.BI.way w1) (by decide) (Below.refl _ _).drew ?_
    simp only [List.take_succ_cons, List.take_zero]
    (repeat (refine GK.grow_quiet w1 (by rfl) (by rfl) ?_; intro K hK; go_big_quiet_op; go_big_quiet_on))
    refine GK.grow_val (.int .i64 ((reachAll s : Nat) : Int)) (by rfl) rfl (fun m wq hm2 hbq _ => ?_) ?_
    · go_simp
      exact ⟨rfl, by
        have hbq' : Below w1.heap.size w1 wq := hbq
        refine (implReachableStates_any s A c wq hl hc (hT1.out.later hbq') (hs1.out.later hbq')).mono fun e w' ⟨h1, h2⟩ => ⟨?_, GK.BI.after hbq h2⟩
        rw [h1, hok2.out]
        rfl⟩
    simp only [Act.put, List.setIfInBounds_toArray, List.set_cons_zero, List.set_cons_succ]
    (repeat (refine GK.grow_quiet w1 (by rfl) (by rfl) ?_; intro K hK; go_big_quiet_op; go_big_quiet_on))
    refine GK.grow_call (by rfl) (fun u w w' hk h => by
      obtain ⟨A2, c2, h1, h2, h3, h4, h5⟩ := h
      exact ⟨A2, c2, h1, h2, h3, h4.later (keep_none hk), h5⟩) (fun m wq hm2 hbq hf => ?_) ?_
    · go_simp
      have hbq' : Below w1.heap.size w1 wq := hbq
      exact ⟨rfl, (subSystem_any s A c (reachAll s) wq hin.out (by omega) (by omega) hsm.out hL hl hc (hs1.out.later hbq')).mono fun e w' ⟨A2, c2, h1, h2, h3, h4, h5, h6⟩ => ⟨_, h1, GK.BI.after hbq h6, A2, c2, rfl, h2, h3, h4, fun b o hA => by have := h5 b o hA; have := hbq'.size; omega⟩⟩
    rintro u ⟨_, _, _, A2, c2, rfl, a1, a2, -, -⟩
    unfold Sy.val
    simp only [Act.put, List.setIfInBounds_toArray, List.set_cons_zero, List.set_cons_succ]
    refine GK.grow_nil ?_
    intro w3 hw3 hf
    simp only [List.filterMap_cons, List.filterMap_nil, List.getElem?_cons_zero, List.getElem?_cons_succ]
    obtain ⟨A3, c3, hve, -, -, h4, h5⟩ := hf _ List.mem_cons_self
    injection hve with hve
    simp at hve
    obtain ⟨rfl, rfl⟩ := hve
    replace hw3 : Below w1.heap.size w1 w3 := hw3
    clear hf q0 q1 q2
    have hrb := (hres.out.below hb1 hres.out.lt).below hw3 hlt1
    have d0 := hrb.cell 0
    have d1 := hrb.cell 1
    have d2 := hrb.cell 2
    have f0 := hrb.frozen 0
    have f1 := hrb.frozen 1
    have f2 := hrb.frozen 2
    simp only [List.getElem?_toArray, List.getElem?_cons_zero, List.getElem?_cons_succ] at d0 d1 d2
    have hlt3 := hrb.lt
    obtain ⟨x, hx⟩ : ∃ x, x = trimSy s (reachAll s) := ⟨_, rfl⟩
    rw [← hx] at h4 a1 ⊢
    have hfin : Hid (TrimPost w s (.returned (.tuple #[.agg #[.int .i64 x.al, .int .i64 x.st, .slice A2 x.es.length c2], .bool true])) (((w3.setCell ⟨w.heap.size + 1, 0, none⟩ (.int .i64 x.al)).setCell ⟨w.heap.size + 1, 1, none⟩ (.int .i64 x.st)).setCell ⟨w.heap.size + 1, 2, none⟩ (.slice A2 x.es.length c2))) := hid (by
      have hne : ∀ b o, A2 = some ⟨b, o, none⟩ → 0 < x.es.length → b ≠ w.heap.size + 1 := fun b o hA _ => by have := h5 b o hA; omega
      refine ⟨A2, c2, ?_, ?_, a2, ?_, ?_⟩
      · rw [htr.out, ← hx, hok2.out]; rfl
      · rw [htr.out, ← hx]; exact a1
      · rw [htr.out, ← hx]; simpa [World.setCell] using ((h4.stored _ hne).stored _ hne).stored _ hne
      · exact (((hB1.trans (hw3.mono hB1.size)).setCell (by simp) _).setCell (by simp) _).setCell (by simp) _)
    clear h4 h5 hrb
    replace hx := hid hx
    go_wp2
    refine bodyPost_ret (v := .tuple #[.agg #[.int .i64 x.al, .int .i64 x.st, .slice A2 x.es.length c2], .bool true]) (by simp [results, Tryd.results44, go_sem, d0, d1, d2]) rfl ?_
    exact hfin.out

end Go.Proofs.YtolnlkccbndkcaaDoor
