/- Lemmas, part 16: several texts in one. -/
import Derived.Test.YtdkjnemakkppfaaGreatDoorY9
set_option linter.unusedSimpArgs false
set_option linter.unusedVariables false

/- The drawing kit: l7Draw, l7Wrong. -/
namespace Go.Proofs.YtdkjnemakkppfaaGreatDoor
open Go.RowKit Go.BigFrame AG

/-- A system and where its edges lie. -/
structure SyV where
  s : Sy
  A : Option Addr
  c : Nat
def sysCells : List SyV → List Value
  | [] => []
  | x :: xs => .int .i64 x.s.al :: .int .i64 x.s.st :: .slice x.A x.s.es.length x.c :: sysCells xs
theorem sysCells_append : ∀ ps qs : List SyV, sysCells (ps ++ qs) = sysCells ps ++ sysCells qs
  | [], _ => rfl
  | p :: ps, qs => by rw [List.cons_append, sysCells, sysCells_append ps qs]; rfl
theorem sysCells_at : ∀ (ps : List SyV) (i : Nat) (h : i < ps.length), (sysCells ps)[i * 3]? = some (.int .i64 ps[i].s.al) ∧ (sysCells ps)[i * 3 + 1]? = some (.int .i64 ps[i].s.st) ∧ (sysCells ps)[i * 3 + 2]? = some (.slice ps[i].A ps[i].s.es.length ps[i].c)
  | p :: ps, 0, _ => ⟨rfl, rfl, rfl⟩
  | p :: ps, i + 1, h => by
    have := sysCells_at ps i (by simpa using h)
    rw [show (i + 1) * 3 = i * 3 + 1 + 1 + 1 from by omega]
    exact this

/-- One system of a list that the call owns: its edges lie apart. -/
structure SyIn (w : World) (R L : Nat) (v : Value) (x : SyV) : Prop where
  le : x.s.es.length ≤ x.c
  top : x.c ≤ 9223372036854775807
  len : x.s.es.length ≤ L
  at_ : EdsAt w w.heap.size x.A x.s.es
  far : 0 < x.s.es.length → ∃ b o, x.A = some ⟨b, o, none⟩ ∧ b < w.heap.size ∧ v.ownBlock ≠ some b ∧ R < b
/-- A list of systems that the call owns. -/
structure LstSt (w wr : World) (R P L : Nat) (v : Value) (xs : List SyV) : Prop where
  own : wr.ownsRow w.heap.size 25 3 v xs.length (sysCells xs)
  each : ∀ x ∈ xs, SyIn wr R L v x
  rd : RdUp wr R P
  keep : KeepB (fun b => b = R) w wr

theorem SyIn.keep {w w' : World} {R L : Nat} {v : Value} {x : SyV} {K : Nat → Prop} (h : SyIn w R L v x) (hk : KeepB K w w') (hK : ∀ b, K b → b = R ∨ v.ownBlock = some b) : SyIn w' R L v x := by
  refine ⟨h.le, h.top, h.len, fun hn => ?_, fun hn => ?_⟩
  · obtain ⟨b, o, hA, hlt, hne, hR⟩ := h.far hn
    obtain ⟨b', o', hA', -, hE⟩ := h.at_ hn
    rw [hA] at hA'
    cases hA'
    have hnb : ¬ K b := fun hk => by rcases hK b hk with e | e; omega; exact hne e
    refine ⟨b, o, hA, Nat.lt_of_lt_of_le hlt hk.size, fun i hi => ?_⟩
    rw [KeepB.cell_ hk hlt hnb, KeepB.cell_ hk hlt hnb, KeepB.cell_ hk hlt hnb]
    exact hE i hi
  · obtain ⟨b, o, hA, hlt, hne, hR⟩ := h.far hn
    exact ⟨b, o, hA, Nat.lt_of_lt_of_le hlt hk.size, hne, hR⟩
theorem LstSt.call {w wr w1 : World} {R P P' L : Nat} {v : Value} {xs : List SyV} (h : LstSt w wr R P L v xs) (hk : KeepB (fun b => b = R) wr w1) (hr : RdUp w1 R P') (hR : R < w.heap.size) : LstSt w w1 R P' L v xs :=
  ⟨own_keep h.own hk (fun g hg => by have := (World.ownsRow.lt h.own g hg).1; omega), fun x hx => (h.each x hx).keep hk fun _ e => .inl e, hr, h.keep.trans hk⟩
theorem LstSt.later {w wr w1 : World} {R P L : Nat} {v : Value} {xs : List SyV} (h : LstSt w wr R P L v xs) (hb : Below wr.heap.size wr w1) (hR : R < w.heap.size) : LstSt w w1 R P L v xs := h.call (KeepB.of_below hb) (h.rd.later hb) hR
theorem LstSt.more {w wr : World} {R P P' L L' : Nat} {v : Value} {xs : List SyV} (h : LstSt w wr R P L v xs) (hP : P ≤ P') (hL : L ≤ L') : LstSt w wr R P' L' v xs :=
  ⟨h.own, fun x hx => ⟨(h.each x hx).le, (h.each x hx).top, by have := (h.each x hx).len; omega, (h.each x hx).at_, (h.each x hx).far⟩, h.rd.more hP, h.keep⟩
theorem LstSt.add {w wr w1 : World} {R P L : Nat} {v v' : Value} {xs : List SyV} {x : SyV} (h : LstSt w wr R P L v xs) (hR : R < w.heap.size) (hx : SyIn wr R L v x)
    (hown : w1.ownsRow w.heap.size 25 3 v' (xs.length + 1) (sysCells xs ++ [.int .i64 x.s.al, .int .i64 x.s.st, .slice x.A x.s.es.length x.c])) (hg : wr.grownBy w1 v.ownBlock) (hat : v'.ownBlock = v.ownBlock ∨ v'.ownBlock = some wr.heap.size) :
    LstSt w w1 R P L v' (xs ++ [x]) := by
  have hv : ∀ k, v.ownBlock = some k → w.heap.size ≤ k := fun k hk => (World.ownsRow.lt h.own k hk).1
  have k1 : KeepB (fun b => v.ownBlock = some b) wr w1 := (KeepB.refl _ wr).grown hg (fun k hk _ => hk)
  have key : ∀ y, SyIn wr R L v y → SyIn w1 R L v' y := fun y hy => by
    have h1 := hy.keep k1 fun b hb => .inr hb
    refine ⟨h1.le, h1.top, h1.len, h1.at_, fun hn => ?_⟩
    obtain ⟨b, o, hA, hlt, hne, hRb⟩ := hy.far hn
    refine ⟨b, o, hA, Nat.lt_of_lt_of_le hlt k1.size, ?_, hRb⟩
    rcases hat with e | e
    · rw [e]; exact hne
    · rw [e]; intro e'; injection e' with e'; omega
  refine ⟨?_, fun y hy => ?_, h.rd.keep k1 (fun k hk => by have := hv k hk; omega), h.keep.grown hg (fun k hk hlt => by have := hv k hk; omega)⟩
  · have e : (xs ++ [x]).length = xs.length + 1 := by simp
    rw [e, sysCells_append]
    exact hown
  · rcases List.mem_append.1 hy with hy | hy
    · exact key y (h.each y hy)
    · rw [List.mem_singleton.1 hy]; exact key x hx
/-- A system that has just been drawn. -/
theorem SyIn.new {w wr w1 : World} {R P L : Nat} {v : Value} {xs : List SyV} {s : Sy} {A : Option Addr} {c : Nat} (h : LstSt w wr R P L v xs) (h1 : s.es.length ≤ c) (h2 : c ≤ 9223372036854775807) (h3 : s.es.length ≤ L) (h4 : EdsAt w1 w1.heap.size A s.es) (h5 : FreshA wr.heap.size A) (hR : R < w.heap.size) : SyIn w1 R L v ⟨s, A, c⟩ :=
  ⟨h1, h2, h3, h4, fun hn => by
    obtain ⟨b, o, hA, hlt, -⟩ := h4 hn
    have h6 := h5 b o hA
    have h7 := h.keep.size
    exact ⟨b, o, hA, hlt, fun e => by have := (World.ownsRow.lt h.own b e).2; omega, by omega⟩⟩
theorem LstSt.read {w wr : World} {R P L : Nat} {v : Value} {xs : List SyV} (h : LstSt w wr R P L v xs) : ∃ A c, v = .slice A xs.length c ∧ xs.length ≤ c ∧ c ≤ 9223372036854775807 ∧ SysAt wr wr.heap.size A (xs.map (·.s)) := by
  by_cases hn : xs.length = 0
  · obtain ⟨A, c, hv, h1, h2⟩ := own_slice h.own
    exact ⟨A, c, hv, h1, h2, fun hl => by simp at hl; omega⟩
  · obtain ⟨g, cap, hv, h1, h2, h3, h4, h5⟩ := own_shape h.own (by omega)
    refine ⟨_, cap, hv, h3, h4, fun _ => ⟨g, 0, rfl, h2, fun i hi => ?_⟩⟩
    have hi' : i < xs.length := by simpa using hi
    obtain ⟨a0, a1, a2⟩ := sysCells_at xs i hi'
    have hx := h.each xs[i] (List.getElem_mem _)
    simp only [List.getElem_map, Nat.zero_add]
    exact ⟨h5 _ _ a0, h5 _ _ a1, xs[i].A, xs[i].c, h5 _ _ a2, hx.le, hx.top, hx.at_⟩

end Go.Proofs.YtdkjnemakkppfaaGreatDoor

/- The drawing kit: l7Wrong, DrawPartsAlphabet. -/
namespace Go.Proofs.YtdkjnemakkppfaaGreatDoor
open Go.RowKit Go.BigFrame AG

theorem sysCells_set0 : ∀ (xs : List SyV) (x : SyV), 0 < xs.length → (((sysCells xs).set 0 (.int .i64 x.s.al)).set 1 (.int .i64 x.s.st)).set 2 (.slice x.A x.s.es.length x.c) = sysCells (xs.set 0 x)
  | [], _, h => by simp at h
  | y :: ys, x, _ => rfl

/-- The first system of a list is replaced. -/
theorem LstSt.put {w wr : World} {R P L g c : Nat} {xs : List SyV} {x : SyV} (h : LstSt w wr R P L (.slice (some ⟨g, 0, none⟩) xs.length c) xs) (hR : R < w.heap.size) (hn : 0 < xs.length) (hx : SyIn wr R L (.slice (some ⟨g, 0, none⟩) xs.length c) x) :
    LstSt w (((wr.setCell ⟨g, 0, none⟩ (.int .i64 x.s.al)).setCell ⟨g, 1, none⟩ (.int .i64 x.s.st)).setCell ⟨g, 2, none⟩ (.slice x.A x.s.es.length x.c)) R P L (.slice (some ⟨g, 0, none⟩) xs.length c) (xs.set 0 x) := by
  have hg := World.ownsRow.lt h.own g rfl
  have s1 := (World.ownsRow.stored h.own 0 (.int .i64 x.s.al)).1
  have s2 := (World.ownsRow.stored s1 1 (.int .i64 x.s.st)).1
  have s3 := (World.ownsRow.stored s2 2 (.slice x.A x.s.es.length x.c)).1
  rw [sysCells_set0 xs x hn] at s3
  have hk : KeepB (fun b => b = g) wr (((wr.setCell ⟨g, 0, none⟩ (.int .i64 x.s.al)).setCell ⟨g, 1, none⟩ (.int .i64 x.s.st)).setCell ⟨g, 2, none⟩ (.slice x.A x.s.es.length x.c)) := (((KeepB.refl _ wr).setCell _ _ (by simp)).setCell _ _ (by simp)).setCell _ _ (by simp)
  have hk2 : ∀ b, b = g → b = R ∨ (Value.slice (some ⟨g, 0, none⟩) xs.length c).ownBlock = some b := fun b hb => .inr (by rw [hb]; rfl)
  refine ⟨by rw [List.length_set]; exact s3, fun y hy => ?_, h.rd.keep hk (by omega), ((h.keep.setCell _ _ (by simp; omega)).setCell _ _ (by simp; omega)).setCell _ _ (by simp; omega)⟩
  rcases List.mem_or_eq_of_mem_set hy with hy | rfl
  · exact (h.each y hy).keep hk hk2
  · exact hx.keep hk hk2

end Go.Proofs.YtdkjnemakkppfaaGreatDoor
