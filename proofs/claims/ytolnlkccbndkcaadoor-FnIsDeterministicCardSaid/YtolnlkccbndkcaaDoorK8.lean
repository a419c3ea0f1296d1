/- Lemmas, part 8: several texts in one. -/
import Derived.Test.YtolnlkccbndkcaaDoorK6
import Derived.Test.YtolnlkccbndkcaaDoorK1
import Derived.Test.YtolnlkccbndkcaaDoorK7
import Derived.Test.YtolnlkccbndkcaaDoorK4
import Derived.Test.YtolnlkccbndkcaaDoorK2
set_option linter.unusedSimpArgs false
set_option linter.unusedVariables false

/- The reference's l6Comparable. -/
namespace Go.Proofs.YtolnlkccbndkcaaDoor
open Go.RowKit Go.BigFrame AG

set_option maxHeartbeats 1000000 in
theorem l6Comparable_any (s t : Sy) (A B : Option Addr) (c d : Nat) (w : World) (hl : s.es.length ≤ c) (hc : c ≤ 9223372036854775807) (hm : t.es.length ≤ d) (hd : d ≤ 9223372036854775807) (hr : EdsAt w w.heap.size A s.es) (hs : EdsAt w w.heap.size B t.es) :
    Calls Tryd.prog 64 #[s.val A c, t.val B d] w fun e w' => e = .returned (.bool (cmpOk s t)) ∧ Below w.heap.size w w' := by
  unfold Sy.val
  replace hr := hid hr
  replace hs := hid hs
  have hval : Hid (cmpOk s t = (sysOk s && (sysOk t && decide (s.al = t.al)))) := hid rfl
  go_enter Tryd.func64, Tryd.ntmps64
  go_wp2_with fail
  obtain ⟨w0, hw0, hz0, hB0, hS, hT⟩ := boxed2 w #[Value.int IntKind.i64 s.al, Value.int IntKind.i64 s.st, Value.slice A s.es.length c] 25 #[Value.int IntKind.i64 t.al, Value.int IntKind.i64 t.st, Value.slice B t.es.length d] 25
  rw [hw0]
  clear hw0
  have p0 := hS 0 _ rfl _ (Below.refl _ _)
  have p1 := hS 1 _ rfl _ (Below.refl _ _)
  have p2 := hS 2 _ rfl _ (Below.refl _ _)
  have hr0 := hid (hr.out.later hB0)
  go_wp2_with fail
  refine (specSystemValid_any s A c w0 hl hc hr0.out).mono ?_
  rintro e w1 ⟨rfl, hb1⟩
  have b1 := hb1.mono hz0
  clear p0 p1 p2
  have p0 := hS 0 _ rfl _ b1
  have q0 := hT 0 _ rfl _ b1
  have q1 := hT 1 _ rfl _ b1
  have q2 := hT 2 _ rfl _ b1
  have B1 : Below w.heap.size w w1 := hB0.trans (b1.mono (by omega))
  cases hA : sysOk s
  · replace hA := hid hA
    go_wp2_with fail
    go_ret
    exact ⟨ret_bool (by rw [hval.out, hA.out]; rfl), B1⟩
  · replace hA := hid hA
    have hs1 := hid (hs.out.later B1)
    go_wp2_with fail
    refine (specSystemValid_any t B d w1 hm hd hs1.out).mono ?_
    rintro e w2 ⟨rfl, hb2⟩
    have b2 := b1.trans (hb2.mono (Nat.le_trans hz0 hb1.size))
    clear p0 q0 q1 q2
    have p0 := hS 0 _ rfl _ b2
    have q0 := hT 0 _ rfl _ b2
    have B2 : Below w.heap.size w w2 := hB0.trans (b2.mono (by omega))
    cases hB : sysOk t
    · replace hB := hid hB
      go_wp2_with fail
      go_ret
      exact ⟨ret_bool (by rw [hval.out, hA.out, hB.out]; rfl), B2⟩
    · replace hB := hid hB
      go_wp2_with fail
      go_ret
      exact ⟨ret_bool (by rw [hval.out, hA.out, hB.out, Bool.eq_iff_iff]; simp), B2⟩

end Go.Proofs.YtolnlkccbndkcaaDoor

/- The reference's FirstTraceOutside. -/
namespace Go.Proofs.YtolnlkccbndkcaaDoor
open Go.RowKit Go.BigFrame AG

theorem infoPair : (Tryd.prog.info? 115).map (fun i => (i.zero, i.size, i.bytes)) = some (some (.agg #[.int .i64 0, .int .i64 0]), 2, 16) := by kernel_rfl
theorem infoStr : (Tryd.prog.info? 9).map (fun i => (i.zero, i.size, i.bytes)) = some (some (.string ⟨#[]⟩), 1, 16) := by kernel_rfl

theorem below_after {a c x : World} (h' : Below c.heap.size c x) (h : Below a.heap.size a c) : Below a.heap.size a x := h.trans (h'.mono h.size)

theorem below_alloc_own {a c : World} (h : Below a.heap.size a c) (o : Obj) : Below a.heap.size a (c.alloc o) := h.alloc h.size o

/-- What the search holds: seen pairs, their words. -/
structure Srch (s t : Sy) (B : Nat) (wr : World) (sv wv : Value) (ps : List (Nat × Nat)) (ws : List (List Nat)) (i k : Nat) : Prop where
  own1 : wr.ownsRow B 115 2 sv ps.length (pairCells ps)
  own2 : wr.ownsRow B 9 1 wv ws.length (ws.map fun r => Value.string (wordS r))
  ne : sv.ownBlock ≠ wv.ownBlock
  pb : PB s t (letters s.al) ps ws i k
  pre : ∀ j (hj : j < ps.length), j < i → ps[j].2 ≠ 0
  pos : 0 < ps.length

theorem PairsAt.later {w w' : World} {A : Option Addr} {ps : List (Nat × Nat)} (h : PairsAt w w.heap.size A ps) (hb : Below w.heap.size w w') : PairsAt w' w'.heap.size A ps := fun hl => by
  obtain ⟨b, o, hA, hb', hE⟩ := h hl
  exact ⟨b, o, hA, Nat.lt_of_lt_of_le hb' hb.size, fun i hi => by rw [hb.cell (by simpa using hb'), hb.cell (by simpa using hb')]; exact hE i hi⟩

theorem Blk.news {w : World} {g : Nat} {T : TypeId} {x : Value} (h : w.heap[g]? = some (.cells #[x] T (0, 0))) : ∀ j u, [x][j]? = some u → w.cell? ((⟨g, 0, none⟩ : Addr).add j) = some u := by
  intro j u hj
  match j, hj with
  | 0, hj =>
    simp at hj
    subst hj
    simp [Addr.add, World.cell?, h]

theorem cell_two_new (w : World) (x y : Value) (t : TypeId) : ∀ j u, [x, y][j]? = some u → (w.alloc (.cells #[x, y] t)).cell? ((⟨w.heap.size, 0, none⟩ : Addr).add j) = some u := by
  intro j u hj
  match j, hj with
  | 0, hj =>
    simp at hj
    subst hj
    simp [Addr.add]
  | 1, hj =>
    simp at hj
    subst hj
    simp [Addr.add]

theorem Srch.later {s t : Sy} {B : Nat} {wr w' : World} {sv wv : Value} {ps : List (Nat × Nat)} {ws : List (List Nat)} {i k k' : Nat} (h : Srch s t B wr sv wv ps ws i k) (hb : Below wr.heap.size wr w') (hp : PB s t (letters s.al) ps ws i k') : Srch s t B w' sv wv ps ws i k' :=
  ⟨own_later h.own1 hb, own_later h.own2 hb, h.ne, hp, h.pre, h.pos⟩

theorem Srch.add {s t : Sy} {B : Nat} {wr w2 w8 w9 w10 w11 : World} {sv wv v9 v11 : Value} {ps : List (Nat × Nat)} {ws : List (List Nat)} {i k Z V l : Nat} {o1 : Obj} {S : ByteArray} (h : Srch s t B wr sv wv ps ws i k) (hB : Below B w2 wr) (hBs : B ≤ w2.heap.size)
    (hi : i < ps.length) (hi' : i < ws.length) (hk : k < (letters s.al).length) (hst : stepP s t ps[i] (letters s.al)[k] = (Z, V)) (hZ : Z ≠ 0) (hnew : (Z, V) ∉ ps) (hl : l = (letters s.al)[k]) (hS : S = wordS (l :: ws[i])) (h8 : Below wr.heap.size wr w8)
    (hO9 : w9.ownsRow B 115 2 v9 (ps.length + 1) (pairCells ps ++ [.int .i64 (Z : Nat), .int .i64 (V : Nat)])) (hg9 : (w8.alloc o1).grownBy w9 sv.ownBlock) (hat9 : v9.ownBlock = sv.ownBlock ∨ v9.ownBlock = some (w8.alloc o1).heap.size) (h10 : Below w9.heap.size w9 w10)
    (hO11 : w11.ownsRow B 9 1 v11 (ws.length + 1) (ws.map (fun r => Value.string (wordS r)) ++ [.string S])) (hg11 : w10.grownBy w11 wv.ownBlock) (hat11 : v11.ownBlock = wv.ownBlock ∨ v11.ownBlock = some w10.heap.size) :
    Srch s t B w11 v9 v11 (ps ++ [(Z, V)]) (ws ++ [l :: ws[i]]) i (k + 1) ∧ Below B w2 w11 := by
  have z8 := h8.size
  have z9 := hg9.size
  have z10 := h10.size
  have z11 := hg11.size
  simp only [World.size_alloc] at z9 hat9
  have hneW : v9.ownBlock ≠ wv.ownBlock := by
    rcases hat9 with e | e
    · rw [e]; exact h.ne
    · rw [e]
      intro e'
      have := (h.own2.lt _ e'.symm).2
      omega
  have hO1 : w11.ownsRow B 115 2 v9 (ps.length + 1) (pairCells ps ++ [.int .i64 (Z : Nat), .int .i64 (V : Nat)]) := (own_later hO9 h10).kept hg11 (.inr hneW)
  have hp := h.pb.add (letters_sorted _) hi hi' hk (by rw [hst]; exact hZ) (by rw [hst]; exact hnew)
  rw [hst, ← hl] at hp
  refine ⟨⟨?_, ?_, ?_, hp, ?_, by simp⟩, ?_⟩
  · have : (ps ++ [(Z, V)]).length = ps.length + 1 := by simp
    rw [this, pairCells_append]
    exact hO1
  · have : (ws ++ [l :: ws[i]]).length = ws.length + 1 := by simp
    rw [this, List.map_append, List.map_cons, List.map_nil, ← hS]
    exact hO11
  · intro e
    rcases hat11 with e' | e'
    · exact hneW (e.trans e')
    · have := (hO9.lt _ (e.trans e')).2
      omega
  · intro j hj hji
    have hj' : j < ps.length := by omega
    rw [List.getElem_append_left hj']
    exact h.pre j hj' hji
  · have b8 : Below B w2 (w8.alloc o1) := (hB.trans (h8.mono (Nat.le_trans hBs hB.size))).alloc (by have := hB.size; omega) _
    have b9 : Below B w2 w9 := b8.grown hg9 (by have := b8.size; omega) (fun k hk => (h.own1.lt k hk).1)
    have b10 : Below B w2 w10 := b9.trans (h10.mono (by have := b9.size; omega))
    exact b10.grown hg11 (by have := b10.size; omega) (fun k hk => (h.own2.lt k hk).1)

/-- What the search for the first trace of a that is none of b finds. -/
def IsFirst (s t : Sy) (o : Option (List Nat)) : Prop :=
  if cmpOk s t = true then
    match o with
    | some r => FirstW pI (letters s.al) (pN s t) pG r
    | none => ∀ q n, RW pI (letters s.al) (pN s t) q n → ¬ pG n
  else o = none
/-- .. as the two results. -/
def outV (o : Option (List Nat)) : Value := .tuple #[.string (match o with | some r => wordS r | none => ⟨#[]⟩), .bool o.isSome]

set_option maxRecDepth 100000 in
set_option maxHeartbeats 8000000 in
theorem specFirstTraceOutside_any (s t : Sy) (A B : Option Addr) (c d : Nat) (w : World) (hl : s.es.length ≤ c) (hc : c ≤ 9223372036854775807) (hm : t.es.length ≤ d) (hd : d ≤ 9223372036854775807) (hr : EdsAt w w.heap.size A s.es) (hs : EdsAt w w.heap.size B t.es) :
    Calls Tryd.prog 63 #[s.val A c, t.val B d] w fun e w' => ∃ o, e = .returned (outV o) ∧ IsFirst s t o ∧ Below w.heap.size w w' := by
  unfold Sy.val
  obtain ⟨j2, ha, ha0, ha1, ha2⟩ := info_parts infoPair
  obtain ⟨j1, hs', hs0', hs1', hs2'⟩ := info_parts infoStr
  replace hr := hid hr
  replace hs := hid hs
  go_enter Tryd.func63, Tryd.ntmps63
  go_wp2_with fail
  obtain ⟨w0, hw0, hz0, hB0, hS, hT⟩ := boxed2 w #[Value.int IntKind.i64 s.al, Value.int IntKind.i64 s.st, Value.slice A s.es.length c] 25 #[Value.int IntKind.i64 t.al, Value.int IntKind.i64 t.st, Value.slice B t.es.length d] 25
  rw [hw0]
  clear hw0
  have p0 := hS 0 _ rfl _ (Below.refl _ _)
  have p1 := hS 1 _ rfl _ (Below.refl _ _)
  have p2 := hS 2 _ rfl _ (Below.refl _ _)
  have q0 := hT 0 _ rfl _ (Below.refl _ _)
  have q1 := hT 1 _ rfl _ (Below.refl _ _)
  have q2 := hT 2 _ rfl _ (Below.refl _ _)
  have hr0 := hid (hr.out.later hB0)
  have hs0 := hid (hs.out.later hB0)
  go_wp2_with fail
  refine (l6Comparable_any s t A B c d w0 hl hc hm hd hr0.out hs0.out).mono ?_
  rintro e w1 ⟨rfl, hb1'⟩
  have b1 := hb1'.mono hz0
  clear p0 p1 p2 q0 q1 q2
  have B1 : Below w.heap.size w w1 := hB0.trans (b1.mono (by omega))
  cases hC : cmpOk s t
  · replace hC := hid hC
    go_wp2_with fail
    go_ret2
    exact ⟨none, rfl, by unfold IsFirst; rw [hC.out]; rfl, B1⟩
  · replace hC := hid hC
    have p0 := hS 0 _ rfl _ b1
    go_wp2_with fail
    refine (l1Letters_any s.al w1).mono ?_
    rintro e w2 ⟨vl, rfl, hown, hb2⟩
    have z1 := hb1'.size
    have b2 := b1.trans (hb2.mono (by omega))
    go_wp2_with fail
    obtain ⟨w3, hw3, hz3, hB3, hX, hY⟩ := boxed2 w2 #[Value.int IntKind.i64 1, Value.int IntKind.i64 1] 115 #[Value.string ⟨#[]⟩] 9
    rw [hw3]
    have hst : Srch s t w2.heap.size w3 (.slice (some ⟨w2.heap.size, 0, none⟩) 1 1) (.slice (some ⟨w2.heap.size + 1, 0, none⟩) 1 1) [(1, 1)] [[]] 0 0 := by
      refine ⟨⟨rfl, .inr ⟨w2.heap.size, 1, #[Value.int IntKind.i64 1, Value.int IntKind.i64 1], rfl, Nat.le_refl _, ?_, Nat.le_refl _, by decide, rfl, rfl⟩⟩, ⟨rfl, .inr ⟨w2.heap.size + 1, 1, #[Value.string ⟨#[]⟩], rfl, by omega, ?_, Nat.le_refl _, by decide, rfl, rfl⟩⟩, by simp [Value.ownBlock], PB.begin, fun j hj h => by omega, by simp⟩
      · rw [← hw3, Below.heap_alloc _ _ _ (by simp)]
        exact heap_alloc_self _ _
      · rw [← hw3]
        have := heap_alloc_self (w2.alloc (Obj.cells #[Value.int IntKind.i64 1, Value.int IntKind.i64 1] 115)) (Obj.cells #[Value.string ⟨#[]⟩] 9)
        simpa using this
    clear hw3 hX hY
    replace hst := hid hst
    have hb3 : Below w2.heap.size w2 w3 := hB3
    have z2 := hb2.size
    have hsy := hid (show sysOk s = true ∧ sysOk t = true from by
      have := hC.out
      unfold cmpOk at this
      simp only [Bool.and_eq_true] at this
      exact ⟨this.1, this.2.1⟩)
    obtain ⟨N, hN⟩ : ∃ N : Nat, Hid (N = 4294967297) := ⟨_, hid rfl⟩
    go_wp2_with fail
    go_loopw [7, 8, 9] (fun sv wv iv wr => ∃ ps ws, ∃ i : Nat, iv = .int .i64 i ∧ i ≤ ps.length ∧ Srch s t w2.heap.size wr sv wv ps ws i 0 ∧ Below w2.heap.size w2 wr) (fun _ _ iv _ => N - (intOf iv).toNat)
    case atStart => exact ⟨[(1, 1)], [[]], 0, rfl, by simp, hst.out, hb3⟩
    case round =>
      obtain ⟨ps, ws, i, rfl, hi, hsr, hbr⟩ := hrel
      have hpos := hsr.pos
      have hbd := hsr.pb.bound
      have hwl := hsr.pb.len
      obtain ⟨g1, c1, rfl, hg1, hg1', hc1, hc1', hP, hPc⟩ := own_pairs hsr.own1 hpos
      replace hP := hid hP
      replace hsr := hid hsr
      by_cases hlt : i < ps.length
      · obtain ⟨e0, e1⟩ := hPc i hlt
        replace hPc := hid hPc
        by_cases hgoal : ps[i].2 = 0
        · obtain ⟨g2, c2, rfl, hg2, hg2', hc2, hc2', hW⟩ := own_words hsr.out.own2 (by omega)
          have f0 := hW i (by omega)
          replace hW := hid hW
          have hF := hid (hsr.out.pb.found hlt (by omega) hsr.out.pre hgoal)
          rw [hgoal] at e1
          go_wp2
          go_ret2
          refine ⟨some ws[i], rfl, ?_, ?_⟩
          · unfold IsFirst
            rw [if_pos hC.out]
            exact hF.out
          · exact (B1.trans (hb2.mono (by omega))).trans (hbr.mono (by omega))
        · obtain ⟨Al, cl, hvl, hcl, hcl'⟩ := own_slice hown
          subst hvl
          replace hown := hid hown
          have hg0 : (((ps[i].2 : Nat) : Int) == 0) = false := by simp; omega
          replace hgoal := hid hgoal
          go_wp2_with fail
          go_loopw [7, 8, 10] (fun sv wv kv wr => ∃ ps ws, ∃ k : Nat, kv = .int .i64 k ∧ k ≤ (letters s.al).length ∧ i < ps.length ∧ (∀ h : i < ps.length, ps[i].2 ≠ 0) ∧ Srch s t w2.heap.size wr sv wv ps ws i k ∧ Below w2.heap.size w2 wr) (fun _ _ kv _ => (letters s.al).length - (intOf kv).toNat)
          case atStart => exact ⟨ps, ws, 0, rfl, by omega, hlt, fun _ => hgoal.out, hsr.out, hbr⟩
          case round =>
            clear hP hPc e0 e1 hg0 hc1 hc1' hg1' hg1 hsr hpos hbd hwl
            obtain ⟨ps, ws, k, rfl, hk, hi, hne, hsr, hbr⟩ := hrel
            have hpos := hsr.pos
            have hbd := hsr.pb.bound
            have hwl := hsr.pb.len
            by_cases hkl : k < (letters s.al).length
            · obtain ⟨gl, cl2, hve, hgl, hgl', -, -, hLc⟩ := own_nats hown.out (by omega)
              injection hve with hv1 hv2 hv3
              subst hv1
              subst hv3
              have l0 := hLc k hkl
              obtain ⟨hl6, hlH⟩ := letters_lt (List.getElem_mem hkl)
              obtain ⟨g1, c1, rfl, hg1, hg1', hc1, hc1', hP, hPc⟩ := own_pairs hsr.own1 hpos
              obtain ⟨e0, e1⟩ := hPc i hi
              obtain ⟨X, hX⟩ : ∃ X, X = ps[i].1 := ⟨_, rfl⟩
              obtain ⟨Y, hY⟩ : ∃ Y, Y = ps[i].2 := ⟨_, rfl⟩
              obtain ⟨l, hll⟩ : ∃ l, l = (letters s.al)[k] := ⟨_, rfl⟩
              rw [← hX] at e0
              rw [← hY] at e1
              rw [← hll] at l0 hl6 hlH
              replace hX := hid hX
              replace hY := hid hY
              replace hll := hid hll
              replace hP := hid hP
              replace hPc := hid hPc
              replace hLc := hid hLc
              replace hne := hid hne
              replace hsr := hid hsr
              have hzr := hbr.size
              have hF : ∀ x, Below wr.heap.size wr x → Below w2.heap.size w2 x := fun x h => hbr.trans (h.mono hzr)
              have hG : ∀ x, Below wr.heap.size wr x → Below (w.heap.size + 2) w0 x := fun x h => b2.trans ((hF x h).mono (by omega))
              have hBF : Hid (∀ x, Below wr.heap.size wr x → Below w.heap.size w x) := hid fun x h => hB0.trans ((hG x h).mono (by omega))
              have hkeep : Hid (∀ x, Below wr.heap.size wr x → x.cell? ⟨w.heap.size, 0, none⟩ = some (.int .i64 s.al) ∧ x.cell? ⟨w.heap.size, 1, none⟩ = some (.int .i64 s.st) ∧ x.cell? ⟨w.heap.size, 2, none⟩ = some (.slice A s.es.length c) ∧
                  x.cell? ⟨w.heap.size + 1, 0, none⟩ = some (.int .i64 t.al) ∧ x.cell? ⟨w.heap.size + 1, 1, none⟩ = some (.int .i64 t.st) ∧ x.cell? ⟨w.heap.size + 1, 2, none⟩ = some (.slice B t.es.length d) ∧
                  x.cell? ⟨gl, k, none⟩ = some (.int .i64 (l : Nat)) ∧ x.cell? ⟨g1, i * 2, none⟩ = some (.int .i64 (X : Nat)) ∧ x.cell? ⟨g1, i * 2 + 1, none⟩ = some (.int .i64 (Y : Nat)) ∧ Below wr.heap.size wr x) := hid fun x h =>
                ⟨hS 0 _ rfl _ (hG x h), hS 1 _ rfl _ (hG x h), hS 2 _ rfl _ (hG x h), hT 0 _ rfl _ (hG x h), hT 1 _ rfl _ (hG x h), hT 2 _ rfl _ (hG x h), by rw [(hF x h).cell (by simpa using hgl')]; exact l0, by rw [h.cell (by simpa using hg1')]; exact e0, by rw [h.cell (by simpa using hg1')]; exact e1, h⟩
              replace hF := hid hF
              replace hG := hid hG
              have hin1 := hid (sysOk_in hsy.out.1)
              have hin2 := hid (sysOk_in hsy.out.2)
              have i1 : (0 : Int) ≤ (i : Int) := by omega
              have i2 : (i : Int) < (ps.length : Int) := by omega
              have k1 : (0 : Int) ≤ (k : Int) := by omega
              have k2 : (k : Int) < ((letters s.al).length : Int) := by omega
              have hbself : Below wr.heap.size wr wr := Below.refl _ _
              have hcells := fun x => hkeep.out _ (Fam.below wr.heap.size wr x)
              have y0 := fun x => (hcells x).1
              have y1 := fun x => (hcells x).2.1
              have y2 := fun x => (hcells x).2.2.1
              have y3 := fun x => (hcells x).2.2.2.1
              have y4 := fun x => (hcells x).2.2.2.2.1
              have y5 := fun x => (hcells x).2.2.2.2.2.1
              have y6 := fun x => (hcells x).2.2.2.2.2.2.1
              have y7 := fun x => (hcells x).2.2.2.2.2.2.2.1
              have y8 := fun x => (hcells x).2.2.2.2.2.2.2.2.1
              clear hcells e0 e1 l0
              go_wp2_with fail
              refine wp_region_grow 24 wr.heap.size wr (fun j => if j = 10 then (fun u _ => u = .int .i64 (stepSet s X l : Nat)) else (fun u _ => u = .int .i64 (stepSet t Y l : Nat))) (by kernel_rfl) (by kernel_rfl) (Nat.le_refl _) (Below.refl _ _) ?_
              simp only [List.take_succ_cons, List.take_zero, List.drop_succ_cons, List.drop_zero]
              (repeat (refine grow_quiet (by rfl) (by rfl) (by rfl) ?_; intro K hK; go_big_quiet_op; go_big_quiet_on))
              refine grow_val (.int .i64 (stepSet s X l : Nat)) (by rfl) (by rfl) rfl (fun wq hbq _ => ?_) ?_
              · go_simp
                exact ⟨rfl, l2Step_any s A c X l wq hin1.out hl hc (hr.out.later (hBF.out _ hbq))⟩
              simp only [Act.put, List.setIfInBounds_toArray, List.set_cons_zero, List.set_cons_succ]
              (repeat (refine grow_quiet (by rfl) (by rfl) (by rfl) ?_; intro K hK; go_big_quiet_op; go_big_quiet_on))
              refine grow_val (.int .i64 (stepSet t Y l : Nat)) (by rfl) (by rfl) rfl (fun wq hbq _ => ?_) ?_
              · go_simp
                exact ⟨rfl, l2Step_any t B d Y l wq hin2.out hm hd (hs.out.later (hBF.out _ hbq))⟩
              simp only [Act.put, List.setIfInBounds_toArray, List.set_cons_zero, List.set_cons_succ]
              (repeat (refine grow_quiet (by rfl) (by rfl) (by rfl) ?_; intro K hK; go_big_quiet_op; go_big_quiet_on))
              refine grow_new (by rfl) (fun b => .pointer (some ⟨b, 0, none⟩)) 115 #[.int .i64 0, .int .i64 0] (fun _ => by go_simp) (fun _ => rfl) (Nat.le_refl _) fun g hg => ?_
              simp only [Act.put, List.setIfInBounds_toArray, List.set_cons_zero, List.set_cons_succ]
              refine grow_nil ?_
              intro w6 hb6 hf
              obtain ⟨g', hge, -, hblk⟩ := hf _ List.mem_cons_self
              cases hge
              clear hf y0 y1 y2 y3 y4 y5 y6 y7 y8 i1 i2 k1 k2 hbself
              obtain ⟨Z, hZ⟩ : ∃ Z, Z = stepSet s X l := ⟨_, rfl⟩
              obtain ⟨V, hV⟩ : ∃ V, V = stepSet t Y l := ⟨_, rfl⟩
              rw [← hZ, ← hV]
              replace hZ := hid hZ
              replace hV := hid hV
              have hblk' : Blk w6 g 115 #[.int .i64 0, .int .i64 0] := hblk
              clear hblk
              have c0 := hblk'.cell 0
              have c1 := hblk'.cell 1
              have z0 := hblk'.frozen 0
              have z1' := hblk'.frozen 1
              simp only [List.getElem?_toArray, List.getElem?_cons_zero, List.getElem?_cons_succ] at c0 c1
              have hg6 := hblk'.lt
              replace hblk' := hid hblk'
              have hstep : Hid (stepP s t ps[i] (letters s.al)[k] = (Z, V)) := hid (by unfold stepP; rw [← hX.out, ← hY.out, ← hll.out, hZ.out, hV.out])
              by_cases hZ0 : Z = 0
              · have hzb : (((Z : Nat) : Int) != 0) = false := by simp; omega
                have hzc : (((Z : Nat) : Int) == 0) = true := by simp; omega
                replace hZ0 := hid hZ0
                go_wp2_with fail
                go_roundw
                case rel =>
                  refine ⟨ps, ws, k + 1, by go_num, by omega, hi, hne.out, hsr.out.later ?_ (hsr.out.pb.skip (letters_sorted _) hi hkl (.inl (by rw [hstep.out]; exact hZ0.out))), hbr.trans (Below.mono ?_ hzr)⟩
                  all_goals (repeat (first | exact Below.refl _ _ | assumption | refine Below.drew ?_ | refine Below.alloc ?_ (by first | omega | (simp; done) | (simp; omega)) _ | refine Below.setCell ?_ (by first | omega | (simp; done) | (simp; omega)) _))
                case measure => simp [intOf]; omega
              · go_wp2_with fail
                generalize hw7 : (w6.setCell ⟨g, 0, none⟩ (Value.int IntKind.i64 (Z : Nat))).setCell ⟨g, 1, none⟩ (Value.int IntKind.i64 (V : Nat)) = w7
                have hb7 : Below wr.heap.size wr w7 := by
                  rw [← hw7]
                  (repeat (first | exact Below.refl _ _ | assumption | refine Below.drew ?_ | refine Below.alloc ?_ (by first | omega | (simp; done) | (simp; omega)) _ | refine Below.setCell ?_ (by first | omega | (simp; done) | (simp; omega)) _))
                have hblk7 : Hid (Blk w7 g 115 #[.int .i64 (Z : Nat), .int .i64 (V : Nat)]) := hid (by rw [← hw7]; exact (hblk'.out.set_ 0 _).set_ 1 _)
                clear hw7 c0 c1 z0 z1' hb6 hblk'
                have hP7 := hid ((show PairsAt wr wr.heap.size (some ⟨g1, 0, none⟩) ps from hP.out).later hb7)
                refine (l5Find_any ps (some ⟨g1, 0, none⟩) c1 (Z, V) w7 hc1 hc1' hP7.out).mono ?_
                rintro e w8 ⟨he, hb8⟩
                have h8 : Below wr.heap.size wr w8 := hb7.trans (hb8.mono hb7.size)
                obtain ⟨F, hF⟩ : ∃ F, F = findP ps (Z, V) := ⟨_, rfl⟩
                rw [← hF] at he
                subst he
                replace hF := hid hF
                have hblk8 := hblk7.out.below hb8 hblk7.out.lt
                clear hblk7 hP7
                by_cases hF0 : F < 0
                · have hnew : Hid ((Z, V) ∉ ps) := hid ((findP_neg _ _).1 (by rw [← hF.out]; exact hF0))
                  have hg8 := hblk8.lt
                  have c0 := hblk8.cell 0
                  have c1 := hblk8.cell 1
                  simp only [List.getElem?_toArray, List.getElem?_cons_zero, List.getElem?_cons_succ] at c0 c1
                  have hO1 := own_later hsr.out.own1 h8
                  have hO2 := own_later hsr.out.own2 h8
                  replace hO1 := hid hO1
                  replace hO2 := hid hO2
                  replace hblk8 := hid hblk8
                  have hz8 := h8.size
                  go_wp2_with (at_builtin; refine wpList_append_own_at _ rfl _ _ 116 rfl w2.heap.size 115 j2 (.agg #[.int .i64 0, .int .i64 0]) 2 16 Tryd.underlying116 ha ha0 ha1 ha2 rfl (by decide) _ _ _ rfl (hO1.out.alloc _) ⟨w8.heap.size, 0, none⟩ 1 1 [.int .i64 (Z : Nat), .int .i64 (V : Nat)] rfl rfl (cell_two_new _ _ _ _) (by intro u hu; simp at hu; rcases hu with rfl | rfl <;> rfl) (by unfold maxLen; omega) (by omega) (by simp; omega) ?_; intro v9 w9 hO9 hgr9 _ hat9)
                  have hb9 : Below w2.heap.size w2 w9 := ((hbr.trans (h8.mono hzr)).alloc (by omega) _).grown hgr9 (by simp; omega) (fun k hk => (hO1.out.lt k hk).1)
                  have hO29 := (hO2.out.alloc (Obj.cells #[.int .i64 (Z : Nat), .int .i64 (V : Nat)] 115)).kept hgr9 (.inr (Ne.symm hsr.out.ne))
                  obtain ⟨g2, c2, rfl, hg2, hg2', hc2, hc2', hW⟩ := own_words hO29 (by omega)
                  have y1 : ∀ x, (Fam w9.heap.size w9 x).cell? ⟨g2, i, none⟩ = some (.string (wordS ws[i])) := fun x => by
                    rw [(Fam.below w9.heap.size w9 x).cell (by simpa using hg2')]
                    exact hW i (by omega)
                  have hb9s := hb9.size
                  have y2 : ∀ x, (Fam w9.heap.size w9 x).cell? ⟨gl, k, none⟩ = some (.int .i64 (l : Nat)) := fun x => by
                    rw [(Fam.below w9.heap.size w9 x).cell (by simp; omega), hb9.cell (by simpa using hgl'), hll.out]
                    exact hLc.out k hkl
                  have i1 : (0 : Int) ≤ (i : Int) := by omega
                  have i2 : (i : Int) < (ws.length : Int) := by omega
                  have k1 : (0 : Int) ≤ (k : Int) := by omega
                  have k2 : (k : Int) < ((letters s.al).length : Int) := by omega
                  have hwb : ¬ 9223372036854775807 < (wordS ws[i]).size + 1 := by
                    have := hsr.out.pb.wlen (j := i) (by omega)
                    rw [wordS_size]
                    omega
                  replace hW := hid hW
                  replace hO29 := hid hO29
                  replace hO9 := hid hO9
                  replace hgr9 := hid hgr9
                  replace hat9 := hid hat9
                  clear c0 c1
                  refine wp_region_grow 12 w9.heap.size w9 (fun _ u _ => u = .string ⟨#[letB l]⟩) (by kernel_rfl) (by kernel_rfl) (Nat.le_refl _) (Below.refl _ _) ?_
                  simp only [List.take_succ_cons, List.take_zero, List.drop_succ_cons, List.drop_zero]
                  (repeat (refine grow_quiet (by rfl) (by rfl) (by rfl) ?_; intro K hK; go_big_quiet_op; go_big_quiet_on))
                  refine grow_val (.string ⟨#[letB l]⟩) (by rfl) (by rfl) rfl (fun wq hbq _ => ?_) ?_
                  · go_simp
                    exact ⟨rfl, l1Text_any l hl6 wq⟩
                  simp only [Act.put, List.setIfInBounds_toArray, List.set_cons_zero, List.set_cons_succ]
                  (repeat (refine grow_quiet (by rfl) (by rfl) (by rfl) ?_; intro K hK; go_big_quiet_op; go_big_quiet_on))
                  refine grow_new (by rfl) (fun b => .slice (some ⟨b, 0, none⟩) 1 1) 9 #[.string (wordS ws[i] ++ ⟨#[letB l]⟩)] (fun _ => by go_simp) (fun _ => rfl) (Nat.le_refl _) fun g3 hg3 => ?_
                  simp only [Act.put, List.setIfInBounds_toArray, List.set_cons_zero, List.set_cons_succ]
                  refine grow_nil ?_
                  intro w10 hb10 hf
                  obtain ⟨g3', hge, -, hblk3⟩ := hf _ List.mem_cons_self
                  cases hge
                  have hnew3 := hid (Blk.news hblk3)
                  clear hblk3
                  clear hf y1 y2 i1 i2 k1 k2 hwb
                  have hO210 := hid (own_later hO29.out hb10)
                  have hz10 := hb10.size
                  go_wp2_with (at_builtin; refine wpList_append_own_at _ rfl _ _ 117 rfl w2.heap.size 9 j1 (.string ⟨#[]⟩) 1 16 Tryd.underlying117 hs' hs0' hs1' hs2' rfl (by decide) _ _ _ rfl hO210.out ⟨g3, 0, none⟩ 1 1 [.string (wordS ws[i] ++ ⟨#[letB l]⟩)] rfl rfl hnew3.out (by intro u hu; simp at hu; subst hu; rfl) (by unfold maxLen; omega) (by omega) (by omega) ?_; intro v11 w11 hO11 hgr11 _ hat11)
                  go_roundw
                  case rel =>
                    obtain ⟨hS, hBB⟩ := hsr.out.add hbr (Nat.le_refl _) hi (by omega) hkl hstep.out (by omega) hnew.out hll.out (wordS_cons _ _) h8 hO9.out hgr9.out hat9.out hb10 hO11 hgr11 hat11
                    exact ⟨_, _, k + 1, by go_num, by omega, by simp; omega, fun h => by rw [List.getElem_append_left hi]; exact hne.out hi, hS, hBB⟩
                  case measure => simp [intOf]; omega
                · have hold : Hid ((Z, V) ∈ ps) := hid (by
                    by_cases h : (Z, V) ∈ ps
                    · exact h
                    · exact absurd ((findP_neg _ _).2 h) (by rw [← hF.out]; exact hF0))
                  go_wp2_with fail
                  go_roundw
                  case rel =>
                    refine ⟨ps, ws, k + 1, by go_num, by omega, hi, hne.out, hsr.out.later ?_ (hsr.out.pb.skip (letters_sorted _) hi hkl (.inr (by rw [hstep.out]; exact hold.out))), hbr.trans (Below.mono ?_ hzr)⟩
                    all_goals (repeat (first | exact Below.refl _ _ | assumption | refine Below.drew ?_ | refine Below.alloc ?_ (by first | omega | (simp; done) | (simp; omega)) _ | refine Below.setCell ?_ (by first | omega | (simp; done) | (simp; omega)) _))
                  case measure => simp [intOf]; omega
            · replace hne := hid hne
              have hov : Hid (Srch s t w2.heap.size wr _ _ ps ws (i + 1) 0) := hid ⟨hsr.own1, hsr.own2, hsr.ne, hsr.pb.over (by omega), (fun j hj hji => by
                by_cases e : j = i
                · subst e; exact hne.out hj
                · exact hsr.pre j hj (by omega)), hsr.pos⟩
              replace hsr := hid hsr
              clear hwl hpos
              go_wp2_with fail
              go_roundw
              case rel => exact ⟨ps, ws, i + 1, by go_num, by omega, hov.out, hbr⟩
              case measure => have := hN.out; have := hsr.out.pb.bound; simp only [intOf]; omega
      · obtain rfl : i = ps.length := by omega
        have hN := hid (hsr.out.pb.none fun j hj => hsr.out.pre j hj hj)
        go_wp2
        go_ret2
        refine ⟨none, rfl, ?_, ?_⟩
        · unfold IsFirst
          rw [if_pos hC.out]
          exact hN.out
        · exact (B1.trans (hb2.mono (by omega))).trans (hbr.mono (by omega))

end Go.Proofs.YtolnlkccbndkcaaDoor

/- The program's search in two automata: firstOfBoth, FirstOutside, LanguageWithin. -/
namespace Go.Proofs.YtolnlkccbndkcaaDoor
open Go.RowKit Go.BigFrame AG

def cmpAu (a b : Au) : Bool := auOk a && (auOk b && decide (a.al = b.al))
set_option maxRecDepth 100000 in
set_option maxHeartbeats 4000000 in
theorem comparable2_any (a b : Au) (A B A' B' : Option Addr) (c d c' d' : Nat) (w : World) (ha : AuAt w A c B d a) (hb : AuAt w A' c' B' d' b) (hca : auOk a = true) (hcb : auOk b = true) (hal : a.al = b.al) :
    Calls Tryd.prog 65 #[a.val A c B d, b.val A' c' B' d'] w fun e w' => e = .returned (.bool true) ∧ Below w.heap.size w w' := by
  obtain ⟨w0, hw0, hz0, hB0, hS, hU⟩ := boxed2 w #[Value.int IntKind.i64 a.al, Value.slice A a.nx.length c, Value.slice B a.ac.length d] 32 #[Value.int IntKind.i64 b.al, Value.slice A' b.nx.length c', Value.slice B' b.ac.length d'] 32
  have ha0 := hid (ha.later hB0)
  have hb0 := hid (hb.later hB0)
  have heq : (a.al == b.al) = true := by simpa using hal
  have p0 := hS 0 _ rfl _ (Below.refl _ _)
  have p1 := hS 1 _ rfl _ (Below.refl _ _)
  have p2 := hS 2 _ rfl _ (Below.refl _ _)
  replace ha := hid ha
  replace hb := hid hb
  replace hca := hid hca
  replace hcb := hid hcb
  replace hal := hid hal
  unfold AG.Au.val
  go_enter Tryd.func65, Tryd.ntmps65
  go_wp2_with fail
  refine (implAutomatonValid_any a A B c d w0 ha0.out).mono ?_
  rintro e w1 ⟨rfl, hb1⟩
  rw [hca.out]
  clear p0 p1 p2
  have hB1 := hB0.trans (hb1.mono hB0.size)
  have hC1 := hb1.mono hz0
  have q0 := hU 0 _ rfl _ hC1
  have q1 := hU 1 _ rfl _ hC1
  have q2 := hU 2 _ rfl _ hC1
  go_wp2_with fail
  refine (implAutomatonValid_any b A' B' c' d' w1 (hb0.out.later hb1)).mono ?_
  rintro e w2 ⟨rfl, hb2⟩
  rw [hcb.out]
  clear q0 q1 q2
  have hB2 := hB1.trans (hb2.mono hB1.size)
  have hC2 := hC1.trans (hb2.mono (by have := hC1.size; omega))
  have p0 := hS 0 _ rfl _ hC2
  have q0 := hU 0 _ rfl _ hC2
  go_wp2_with fail
  go_ret
  exact ⟨by first | rfl | exact ret_bool heq, hB2⟩

set_option maxRecDepth 100000 in
theorem outGoalB_any (x y : Bool) (w : World) :
    Calls Tryd.prog 67 #[.bool x, .bool y] w fun e w' => e = .returned (.bool (x && !y)) ∧ Below w.heap.size w w' := by
  cases x <;> cases y <;>
  · go_enter Tryd.func67, Tryd.ntmps67
    go_wp2
    go_ret
    exact ⟨rfl, Below.refl _ _⟩

theorem wrap_addN (a b : Nat) (h : a + b < 9223372036854775807) : wrap64 ((a : Int) + (b : Int)) = ((a + b : Nat) : Int) := by
  rw [← Int.natCast_add]
  exact IntWalk.wrap64_in _ ⟨by omega, by omega⟩
set_option maxRecDepth 100000 in
set_option maxHeartbeats 4000000 in
theorem bothNext_any (a b : Au) (gS gT bS bN bT base m q l : Nat) (v : Value) (ns : List Nat) (w : World) (hq : q < m * b.nx.length) (hm : m = a.nx.length) (hm12 : m ≤ 12) (hn1 : 1 ≤ b.nx.length) (hn12 : b.nx.length ≤ 12) (hl : l < 6) (hx : goA a (q / b.nx.length) l < 12) (hy : goA b (q % b.nx.length) l < 12)
    (hS : TabA w gS m a) (hT : TabA w gT b.nx.length b) (hcS : w.cell? ⟨bS, 0, none⟩ = some (.slice (some ⟨gS, 0, none⟩) m m)) (hcN : w.cell? ⟨bN, 0, none⟩ = some (.int .i64 (b.nx.length : Nat))) (hcT : w.cell? ⟨bT, 0, none⟩ = some (.slice (some ⟨gT, 0, none⟩) b.nx.length b.nx.length))
    (hns : ns.length ≤ 4294967296) (hb : base ≤ w.heap.size) (hown : w.ownsRow base 3 1 v ns.length (natVals ns)) :
    Calls Tryd.prog 137 #[.int .i64 (q : Nat), .int .i64 (l : Nat), v, .pointer (some ⟨bS, 0, none⟩), .pointer (some ⟨bN, 0, none⟩), .pointer (some ⟨bT, 0, none⟩)] w fun e w' =>
      ∃ v', e = .returned v' ∧ w'.ownsRow base 3 1 v' (ns ++ [goB a b q l]).length (natVals (ns ++ [goB a b q l])) ∧ KeepB (fun b => v.ownBlock = some b) w w' := by
  obtain ⟨i0, hi, hz0, hz1, hz2⟩ := info_parts infoInt
  have hqn : q / b.nx.length < m := Nat.div_lt_of_lt_mul (by rw [Nat.mul_comm]; exact hq)
  have hrn : q % b.nx.length < b.nx.length := Nat.mod_lt _ hn1
  have hq144 : q < 144 := Nat.lt_of_lt_of_le hq (Nat.le_trans (Nat.mul_le_mul hm12 hn12) (by decide))
  obtain ⟨X, hX⟩ : ∃ X, Hid (X = goA a (q / b.nx.length) l) := ⟨_, hid rfl⟩
  obtain ⟨Y, hY⟩ : ∃ Y, Hid (Y = goA b (q % b.nx.length) l) := ⟨_, hid rfl⟩
  have c1 := hS.2 _ l hqn hl
  have c2 := hT.2 _ l hrn hl
  rw [← hX.out] at c1 hx
  rw [← hY.out] at c2 hy
  obtain ⟨n, hn⟩ : ∃ n, Hid (n = b.nx.length) := ⟨_, hid rfl⟩
  have hgo : Hid (goB a b q l = X * n + Y) := hid (by unfold goB; rw [hX.out, hY.out, hn.out])
  rw [← hn.out] at hq hn1 hn12 hqn hrn c1 c2 hcN hcT
  rw [hgo.out]
  have hgS := hS.1
  have hgT := hT.1
  obtain ⟨Q, hQ⟩ : ∃ Q, Hid (Q = q / n) := ⟨_, hid rfl⟩
  obtain ⟨R, hR⟩ : ∃ R, Hid (R = q % n) := ⟨_, hid rfl⟩
  rw [← hQ.out] at hqn c1
  rw [← hR.out] at hrn c2
  have e1 : ((q : Nat) : Int) / ((n : Nat) : Int) = (Q : Int) := by rw [hQ.out]; exact (Int.natCast_ediv q n).symm
  have e2 : ((q : Nat) : Int) % ((n : Nat) : Int) = (R : Int) := by rw [hR.out]; exact (Int.natCast_emod q n).symm
  have e3 : Int.tdiv ((q : Nat) : Int) ((n : Nat) : Int) = (Q : Int) := by rw [Int.tdiv_eq_ediv_of_nonneg (by omega), e1]
  have e4 : Int.tmod ((q : Nat) : Int) ((n : Nat) : Int) = (R : Int) := by rw [Int.tmod_eq_emod_of_nonneg (by omega), e2]
  have hz : ((n : Nat) : Int) ≠ 0 := by omega
  have hz' : (((n : Nat) : Int) == 0) = false := by simpa using hz
  obtain ⟨Av, cv, rfl, -, -⟩ := own_slice hown
  have hbS := World.block_lt_of_cell? _ _ hcS
  have hbN := World.block_lt_of_cell? _ _ hcN
  have hbT := World.block_lt_of_cell? _ _ hcT
  have y0 : ∀ x, (Fam w.heap.size w x).cell? ⟨bS, 0, none⟩ = some (.slice (some ⟨gS, 0, none⟩) m m) := fun x => by rw [(Fam.below w.heap.size w x).cell (by simpa using hbS)]; exact hcS
  have y1 : ∀ x, (Fam w.heap.size w x).cell? ⟨bN, 0, none⟩ = some (.int .i64 (n : Nat)) := fun x => by rw [(Fam.below w.heap.size w x).cell (by simpa using hbN)]; exact hcN
  have y2 : ∀ x, (Fam w.heap.size w x).cell? ⟨bT, 0, none⟩ = some (.slice (some ⟨gT, 0, none⟩) n n) := fun x => by rw [(Fam.below w.heap.size w x).cell (by simpa using hbT)]; exact hcT
  have y3 : ∀ x, (Fam w.heap.size w x).cell? ⟨gS, Q * 6 + l, none⟩ = some (.int .i64 (X : Nat)) := fun x => by rw [(Fam.below w.heap.size w x).cell (by simpa using hgS)]; exact c1
  have y4 : ∀ x, (Fam w.heap.size w x).cell? ⟨gT, R * 6 + l, none⟩ = some (.int .i64 (Y : Nat)) := fun x => by rw [(Fam.below w.heap.size w x).cell (by simpa using hgT)]; exact c2
  have k1 : (0 : Int) ≤ (Q : Int) ∧ (Q : Int) < (m : Int) ∧ (0 : Int) ≤ (R : Int) ∧ (R : Int) < (n : Int) ∧ (0 : Int) ≤ (l : Int) ∧ (l : Int) < 6 := by omega
  obtain ⟨P, hP⟩ : ∃ P, Hid (P = X * n) := ⟨_, hid rfl⟩
  have hP144 : P ≤ 144 := by rw [hP.out]; exact Nat.le_trans (Nat.mul_le_mul (Nat.le_of_lt hx) hn12) (by decide)
  have e5 : wrap64 ((X : Int) * (n : Int)) = (P : Int) := by rw [← Int.natCast_mul, ← hP.out]; exact IntWalk.wrap64_in _ ⟨by omega, by omega⟩
  have e6 := wrap_addN P Y (Nat.lt_of_le_of_lt (Nat.add_le_add hP144 (Nat.le_of_lt hy)) (by decide))
  rw [← hP.out]
  obtain ⟨Z, hZ⟩ : ∃ Z, Hid (Z = P + Y) := ⟨_, hid rfl⟩
  rw [← hZ.out] at e6 ⊢
  replace hown := hid hown
  replace hS := hid hS
  replace hT := hid hT
  clear c1 c2 hcS hcN hcT e1 e2 hP144 hbS hbN hbT hq144 hgS hgT
  subst hm
  go_enter Tryd.func137, Tryd.ntmps137
  go_upto_region 1 with fail
  refine wp_region_grow 21 w.heap.size w (fun _ _ _ => True) (by kernel_rfl) (by kernel_rfl) (Nat.le_refl _) (Below.refl _ _) ?_
  simp only [List.take_succ_cons, List.take_zero, List.drop_succ_cons, List.drop_zero]
  (repeat (refine grow_quiet (by rfl) (by rfl) (by rfl) ?_; intro K hK; go_big_quiet_op; go_big_quiet_on))
  rw [e6]
  refine grow_new (by rfl) (fun b => .slice (some ⟨b, 0, none⟩) 1 1) 3 #[.int .i64 (Z : Nat)] (fun _ => by go_simp) (fun _ => rfl) (Nat.le_refl _) fun g3 hg3 => ?_
  simp only [Act.put, List.setIfInBounds_toArray, List.set_cons_zero, List.set_cons_succ]
  refine grow_nil ?_
  intro w7 hb7 hf
  obtain ⟨g3', hge, -, hblk3⟩ := hf _ List.mem_cons_self
  cases hge
  have hnew3 := hid (Blk.news hblk3)
  clear hblk3 hf y0 y1 y2 y3 y4
  have hoA := hid (own_later_ hown.out hb7)
  have hz7 := hb7.size
  go_wp2_with (at_builtin; refine wpList_append_own_at _ rfl _ _ 62 rfl base 3 i0 (.int .i64 0) 1 8 Tryd.underlying62 hi hz0 hz1 hz2 rfl (by decide) _ _ _ rfl (hoA.out) ⟨g3, 0, none⟩ 1 1 [.int .i64 (Z : Nat)] rfl rfl hnew3.out (by intro u hu; simp at hu; subst hu; rfl) (by unfold maxLen; omega) (by omega) (by first | omega | (simp; omega)) ?_; intro v5 w5 hO5 hg5 _ hat5; obtain ⟨A5, c5, ev5, -, -⟩ := own_slice hO5; subst ev5; replace hO5 := hid hO5; replace hg5 := hid hg5)
  go_ret
  refine ⟨_, rfl, ?_, (KeepB.of_below (K := fun b => (Value.slice Av ns.length cv).ownBlock = some b) hb7).grown hg5.out fun k hk _ => hk⟩
  have := hO5.out
  rw [List.length_append]
  unfold natVals at this ⊢
  rw [List.map_append]
  exact this

end Go.Proofs.YtolnlkccbndkcaaDoor

/- The program's search in two automata: comparable2, firstOfBoth. -/
namespace Go.Proofs.YtolnlkccbndkcaaDoor
open Go.RowKit Go.BigFrame AG

set_option maxRecDepth 100000 in
set_option maxHeartbeats 4000000 in
theorem cmp2_any (a b : Au) (A B A' B' : Option Addr) (c d c' d' : Nat) (w : World) (ha : AuAt w A c B d a) (hb : AuAt w A' c' B' d' b) :
    Calls Tryd.prog 65 #[a.val A c B d, b.val A' c' B' d'] w fun e w' => e = .returned (.bool (cmpAu a b)) ∧ Below w.heap.size w w' := by
  obtain ⟨w0, hw0, hz0, hB0, hS, hU⟩ := boxed2 w #[Value.int IntKind.i64 a.al, Value.slice A a.nx.length c, Value.slice B a.ac.length d] 32 #[Value.int IntKind.i64 b.al, Value.slice A' b.nx.length c', Value.slice B' b.ac.length d'] 32
  have ha0 := hid (ha.later hB0)
  have hb0 := hid (hb.later hB0)
  have p0 := hS 0 _ rfl _ (Below.refl _ _)
  have p1 := hS 1 _ rfl _ (Below.refl _ _)
  have p2 := hS 2 _ rfl _ (Below.refl _ _)
  replace ha := hid ha
  replace hb := hid hb
  unfold AG.Au.val
  go_enter Tryd.func65, Tryd.ntmps65
  go_wp2_with fail
  refine (implAutomatonValid_any a A B c d w0 ha0.out).mono ?_
  rintro e w1 ⟨rfl, hb1⟩
  clear p0 p1 p2
  have hB1 := hB0.trans (hb1.mono hB0.size)
  have hC1 := hb1.mono hz0
  cases hca : auOk a
  · have hfin : Hid (cmpAu a b = false) := hid (by unfold cmpAu; rw [hca]; rfl)
    replace hca := hid hca
    go_wp2_with fail
    go_ret
    exact ⟨ret_bool (by rw [hfin.out]), hB1⟩
  have q0 := hU 0 _ rfl _ hC1
  have q1 := hU 1 _ rfl _ hC1
  have q2 := hU 2 _ rfl _ hC1
  have hfin : Hid (cmpAu a b = (auOk b && decide (a.al = b.al))) := hid (by unfold cmpAu; rw [hca]; rfl)
  replace hca := hid hca
  go_wp2_with fail
  refine (implAutomatonValid_any b A' B' c' d' w1 (hb0.out.later hb1)).mono ?_
  rintro e w2 ⟨rfl, hb2⟩
  clear q0 q1 q2
  have hB2 := hB1.trans (hb2.mono hB1.size)
  have hC2 := hC1.trans (hb2.mono (by have := hC1.size; omega))
  cases hcb : auOk b
  · have hcb' := hid hcb
    go_wp2_with fail
    go_ret
    exact ⟨ret_bool (by rw [hfin.out, hcb]; rfl), hB2⟩
  have p0 := hS 0 _ rfl _ hC2
  have q0 := hU 0 _ rfl _ hC2
  obtain ⟨t, ht⟩ : ∃ t, (a.al == b.al) = t := ⟨_, rfl⟩
  have htt : Hid (decide (a.al = b.al) = t) := hid (by rw [← ht]; rfl)
  replace hcb := hid hcb
  go_wp2_with fail
  go_ret
  exact ⟨ret_bool (by rw [hfin.out, hcb.out, htt.out, Bool.true_and]), hB2⟩

/-- A test of two truth values, as a function value. -/
structure BoolFn (g : Bool → Bool → Bool) (fg : FuncId) (cg : Array Value) : Prop where
  run : ∀ args w', (callFunc fg args).run Tryd.prog w' = .ok (.enter fg args) w'
  call : ∀ w' x y, Calls Tryd.prog fg (#[.bool x, .bool y] ++ cg) w' fun e w'' => e = .returned (.bool (g x y)) ∧ Below w'.heap.size w' w''
def goalB (a b : Au) (g : Bool → Bool → Bool) (m : Nat) : Bool := g (a.ac.getD (m / b.nx.length) false) (b.ac.getD (m % b.nx.length) false)

set_option maxRecDepth 100000 in
set_option maxHeartbeats 4000000 in
theorem bothGoal_any (a b : Au) (g : Bool → Bool → Bool) (fg : FuncId) (cg : Array Value) (hg : BoolFn g fg cg) (B B' : Option Addr) (d d' bG bA bN bB q : Nat) (w : World) (hq : q < a.ac.length * b.nx.length) (hl : b.ac.length = b.nx.length) (hn : 1 ≤ b.nx.length) (hn12 : b.nx.length ≤ 12) (hm12 : a.ac.length ≤ 12)
    (hA : BoolsAt w w.heap.size B a.ac) (hB : BoolsAt w w.heap.size B' b.ac) (hcG : w.cell? ⟨bG, 0, none⟩ = some (.func (.func fg) #[] cg)) (hcA : w.cell? ⟨bA, 2, none⟩ = some (.slice B a.ac.length d)) (hcN : w.cell? ⟨bN, 0, none⟩ = some (.int .i64 (b.nx.length : Nat))) (hcB : w.cell? ⟨bB, 2, none⟩ = some (.slice B' b.ac.length d')) :
    Calls Tryd.prog 138 #[.int .i64 (q : Nat), .pointer (some ⟨bG, 0, none⟩), .pointer (some ⟨bA, 0, none⟩), .pointer (some ⟨bN, 0, none⟩), .pointer (some ⟨bB, 0, none⟩)] w fun e w' => e = .returned (.bool (goalB a b g q)) ∧ Below w.heap.size w w' := by
  have hqm : q / b.nx.length < a.ac.length := Nat.div_lt_of_lt_mul (by rw [Nat.mul_comm]; exact hq)
  have hrn : q % b.nx.length < b.nx.length := Nat.mod_lt _ hn
  obtain ⟨gA, oA, rfl, hltA, hEA⟩ := hA (Nat.lt_of_le_of_lt (Nat.zero_le _) hqm)
  obtain ⟨gB, oB, rfl, hltB, hEB⟩ := hB (by omega)
  have c1 := hEA _ hqm
  have c2 := hEB (q % b.nx.length) (by omega)
  have hfin : Hid (goalB a b g q = g a.ac[q / b.nx.length] (b.ac[q % b.nx.length]'(by omega))) := hid (by
    unfold goalB
    rw [List.getD_eq_getElem?_getD, List.getD_eq_getElem?_getD, List.getElem?_eq_getElem hqm, List.getElem?_eq_getElem (by omega)]
    rfl)
  rw [hfin.out]
  obtain ⟨x, hx⟩ : ∃ x, x = a.ac[q / b.nx.length] := ⟨_, rfl⟩
  obtain ⟨y, hy⟩ : ∃ y, y = b.ac[q % b.nx.length]'(by omega) := ⟨_, rfl⟩
  rw [← hx] at c1 ⊢
  rw [← hy] at c2 ⊢
  clear hx hy hfin
  obtain ⟨n, hnn⟩ : ∃ n, Hid (n = b.nx.length) := ⟨_, hid rfl⟩
  rw [← hnn.out] at hqm hrn c1 c2 hcN hn hl
  obtain ⟨Q, hQ⟩ : ∃ Q, Hid (Q = q / n) := ⟨_, hid rfl⟩
  obtain ⟨R, hR⟩ : ∃ R, Hid (R = q % n) := ⟨_, hid rfl⟩
  rw [← hQ.out] at hqm c1
  rw [← hR.out] at hrn c2
  have e1 : ((q : Nat) : Int) / ((n : Nat) : Int) = (Q : Int) := by rw [hQ.out]; exact (Int.natCast_ediv q n).symm
  have e2 : ((q : Nat) : Int) % ((n : Nat) : Int) = (R : Int) := by rw [hR.out]; exact (Int.natCast_emod q n).symm
  have e3 : Int.tdiv ((q : Nat) : Int) ((n : Nat) : Int) = (Q : Int) := by rw [Int.tdiv_eq_ediv_of_nonneg (by omega), e1]
  have e4 : Int.tmod ((q : Nat) : Int) ((n : Nat) : Int) = (R : Int) := by rw [Int.tmod_eq_emod_of_nonneg (by omega), e2]
  clear e1 e2
  have hz : ((n : Nat) : Int) ≠ 0 := by omega
  have hz' : (((n : Nat) : Int) == 0) = false := by simpa using hz
  have k1 : (0 : Int) ≤ (Q : Int) ∧ (Q : Int) < (a.ac.length : Int) ∧ (0 : Int) ≤ (R : Int) ∧ (R : Int) < (b.ac.length : Int) := by omega
  have y0 := fun x => (Fam.below w.heap.size w x).cell (World.block_lt_of_cell? _ _ hcG) |>.trans hcG
  have y1 := fun x => (Fam.below w.heap.size w x).cell (World.block_lt_of_cell? _ _ hcA) |>.trans hcA
  have y2 := fun x => (Fam.below w.heap.size w x).cell (World.block_lt_of_cell? _ _ hcN) |>.trans hcN
  have y3 := fun x => (Fam.below w.heap.size w x).cell (World.block_lt_of_cell? _ _ hcB) |>.trans hcB
  have y4 := fun x => (Fam.below w.heap.size w x).cell (World.block_lt_of_cell? _ _ c1) |>.trans c1
  have y5 := fun x => (Fam.below w.heap.size w x).cell (World.block_lt_of_cell? _ _ c2) |>.trans c2
  have hrun := hg.run
  have hcall := hid hg.call
  replace hEA := hid hEA
  replace hEB := hid hEB
  replace hA := hid hA
  replace hB := hid hB
  clear c1 c2 hcG hcA hcN hcB hq hnn hg
  go_enter Tryd.func138, Tryd.ntmps138
  go_upto_region 1 with fail
  refine wp_region_grow 15 w.heap.size w (fun _ _ _ => True) (by kernel_rfl) (by kernel_rfl) (Nat.le_refl _) (Below.refl _ _) ?_
  simp only [List.take_succ_cons, List.take_zero, List.drop_succ_cons, List.drop_zero]
  (repeat (refine grow_quiet (by rfl) (by rfl) (by rfl) ?_; intro K hK; go_big_quiet_op; go_big_quiet_on))
  refine grow_nil ?_
  intro w7 hb7 hf
  clear hf y0 y1 y2 y3 y4 y5
  go_wp2_with fail
  refine (hcall.out w7 x y).mono ?_
  rintro e w8 ⟨rfl, hb8⟩
  have hb := hb7.trans (hb8.mono hb7.size)
  go_wp2_with fail
  go_ret
  exact ⟨rfl, hb⟩

end Go.Proofs.YtolnlkccbndkcaaDoor

/- The program's FirstTraceOutside: its closures. -/
namespace Go.Proofs.YtolnlkccbndkcaaDoor
open Go.RowKit Go.BigFrame AG

theorem tmod_nat (a b : Nat) : Int.tmod (a : Int) (b : Int) = ((a % b : Nat) : Int) := by
  rw [Int.tmod_eq_emod_of_nonneg (by omega)]
  exact (Int.natCast_emod a b).symm
theorem tdiv_nat (a b : Nat) : Int.tdiv (a : Int) (b : Int) = ((a / b : Nat) : Int) := by
  rw [Int.tdiv_eq_ediv_of_nonneg (by omega)]
  exact (Int.natCast_ediv a b).symm

set_option maxRecDepth 100000 in
set_option maxHeartbeats 400000 in
theorem outGoal_any (q z b : Nat) (w : World) (hz : 0 < z) (hz' : z ≤ 65536) (hq : q ≤ 1048576) (hc : w.cell? ⟨b, 0, none⟩ = some (.int .i64 (z : Nat))) :
    Calls Tryd.prog 74 #[.int .i64 (q : Nat), .pointer (some ⟨b, 0, none⟩)] w fun e w' => e = .returned (.bool (decide (q % z = 0))) ∧ Below w.heap.size w w' := by
  go_enter Tryd.func74, Tryd.ntmps74
  go_wp2
  go_ret
  exact ⟨ret_bool (by rw [Bool.eq_iff_iff]; simp; omega), Below.refl _ _⟩

set_option maxRecDepth 100000 in
set_option maxHeartbeats 4000000 in
theorem outNext_any (s t : Sy) (z bN bZ bM gn gm base q l : Nat) (v : Value) (ns : List Nat) (w : World) (hz : 0 < z) (hz' : z ≤ 65536) (hq : q < 16 * z) (hl : l < 6) (hT : Tab w) (hN : w.cell? ⟨bN, 0, none⟩ = some (.pointer (some ⟨gn, 0, none⟩))) (hZ : w.cell? ⟨bZ, 0, none⟩ = some (.int .i64 (z : Nat)))
    (hM : w.cell? ⟨bM, 0, none⟩ = some (.pointer (some ⟨gm, 0, none⟩))) (hm : MvAt w w.heap.size gm (mv s)) (hn : MvAt w w.heap.size gn (mv t)) (hns : ns.length ≤ 4294967296) (hb : base ≤ w.heap.size) (hbZ : bZ < base) (hown : w.ownsRow base 3 1 v ns.length (natVals ns)) :
    Calls Tryd.prog 69 #[.int .i64 (q : Nat), .int .i64 (l : Nat), v, .pointer (some ⟨bN, 0, none⟩), .pointer (some ⟨bZ, 0, none⟩), .pointer (some ⟨bM, 0, none⟩)] w fun e w' =>
      ∃ v', e = .returned v' ∧ w'.ownsRow base 3 1 v' (ns ++ outNx s t z q l).length (natVals (ns ++ outNx s t z q l)) ∧ KeepB (fun b => v.ownBlock = some b) w w' := by
  obtain ⟨i0, hi, hz0, hz1, hz2⟩ := info_parts infoInt
  obtain ⟨X, hX⟩ : ∃ X, X = unionOf (mv t) (q % z) l := ⟨_, rfl⟩
  have hXl : X < 65536 := by rw [hX]; exact unionOf_lt _ _ _
  obtain ⟨M, hM'⟩ : ∃ M, M = mv s (q / z) l := ⟨_, rfl⟩
  have hMl : M < 65536 := by rw [hM']; exact mv_lt _ _ _
  have hrem := tmod_nat q z
  have hquo := tdiv_nat q z
  have hqz : q / z < 16 := Nat.div_lt_of_lt_mul (by rw [Nat.mul_comm]; exact hq)
  have hqm : q % z < 65536 := Nat.lt_of_lt_of_le (Nat.mod_lt q hz) hz'
  have y0 : ∀ x, (Fam w.heap.size w x).cell? ⟨bN, 0, none⟩ = some (.pointer (some ⟨gn, 0, none⟩)) := fun x => by rw [(Fam.below _ _ x).cell (World.block_lt_of_cell? _ _ hN)]; exact hN
  have y1 : ∀ x, (Fam w.heap.size w x).cell? ⟨bZ, 0, none⟩ = some (.int .i64 (z : Nat)) := fun x => by rw [(Fam.below _ _ x).cell (World.block_lt_of_cell? _ _ hZ)]; exact hZ
  have hzn : ((z : Int) == 0) = false := by simp; omega
  have hzi : (0 : Int) < (z : Int) := by omega
  have hqi : (0 : Int) ≤ (q : Int) := by omega
  replace hX := hid hX
  replace hM' := hid hM'
  replace hm := hid hm
  replace hn := hid hn
  replace hT := hid hT
  replace hown := hid hown
  go_enter Tryd.func69, Tryd.ntmps69
  go_wp2_with fail
  refine wp_region_grow 6 w.heap.size w (fun _ u _ => u = .int .i64 (X : Nat)) (by kernel_rfl) (by kernel_rfl) (Nat.le_refl _) (Below.refl _ _) ?_
  simp only [List.take_succ_cons, List.take_zero, List.drop_succ_cons, List.drop_zero]
  (repeat (refine grow_quiet (by rfl) (by rfl) (by rfl) ?_; intro K hK; go_big_quiet_op; go_big_quiet_on))
  refine grow_val (.int .i64 (X : Nat)) (by rfl) (by rfl) rfl (fun wq hbq _ => ?_) ?_
  · go_simp
    refine ⟨rfl, ?_⟩
    rw [← Int.natCast_emod, hX.out]
    exact step_any (mv t) gn (q % z) l wq hl (fun p => mv_lt t p l) hqm (hT.out.later hbq) (hn.out.later hbq)
  simp only [Act.put, List.setIfInBounds_toArray, List.set_cons_zero, List.set_cons_succ]
  refine grow_nil ?_
  intro w1 hb1 hf
  clear hf y0 y1
  have hzb1 := hb1.size
  have y1 : ∀ x, (Fam w1.heap.size w1 x).cell? ⟨bZ, 0, none⟩ = some (.int .i64 (z : Nat)) := fun x => by rw [((hb1.trans ((Fam.below w1.heap.size w1 x).mono hb1.size))).cell (World.block_lt_of_cell? _ _ hZ)]; exact hZ
  have y2 : ∀ x, (Fam w1.heap.size w1 x).cell? ⟨bM, 0, none⟩ = some (.pointer (some ⟨gm, 0, none⟩)) := fun x => by rw [((hb1.trans ((Fam.below w1.heap.size w1 x).mono hb1.size))).cell (World.block_lt_of_cell? _ _ hM)]; exact hM
  have hqn : ((q : Int) / (z : Int)).toNat = q / z := by rw [← Int.natCast_ediv]; exact Int.toNat_natCast _
  have hq16 : ((q : Int) / (z : Int)) < 16 := by rw [← Int.natCast_ediv]; omega
  have hq0 : (0 : Int) ≤ ((q : Int) / (z : Int)) := by rw [← Int.natCast_ediv]; omega
  have hl0 : (0 : Int) ≤ (l : Int) := by omega
  have hl6 : (l : Int) < 6 := by omega
  have y3 : ∀ x, (Fam w1.heap.size w1 x).cell? ⟨gm, q / z * 6 + l, none⟩ = some (.int .i64 (M : Nat)) := fun x => by
    rw [hM'.out]
    exact (hm.out.keep (hb1.trans ((Fam.below w1.heap.size w1 x).mono hb1.size))).2 _ _ hqz hl
  go_wp2_with fail
  refine wp_region_grow 12 w1.heap.size w1 (fun _ u w' => OwnNats w' w.heap.size u (memL M)) (by kernel_rfl) (by kernel_rfl) (Nat.le_refl _) (Below.refl _ _) ?_
  simp only [List.take_succ_cons, List.take_zero, List.drop_succ_cons, List.drop_zero]
  (repeat (refine grow_quiet (by rfl) (by rfl) (by rfl) ?_; intro K hK; go_big_quiet_op; go_big_quiet_on))
  refine grow_call (by rfl) (by rfl) (fun u w w' hb h => ?_) (fun wq hbq _ => ?_) fun u hu => ?_
  · exact own_keep h (.of_below (K := fun _ => False) hb) fun _ _ h => h
  · go_simp
    refine ⟨rfl, (members_any M hMl wq ((hT.out.later hb1).later hbq)).mono ?_⟩
    rintro e w3 ⟨v, rfl, ho, hb3⟩
    exact ⟨v, rfl, hb3, own_base ho (by have := hbq.size; omega)⟩
  obtain ⟨w3', -, ho3'⟩ := hu
  obtain ⟨A3, c3, rfl, hc3, hc3'⟩ := own_slice ho3'
  clear ho3'
  simp only [Act.put, List.setIfInBounds_toArray, List.set_cons_zero, List.set_cons_succ]
  (repeat (refine grow_quiet (by rfl) (by rfl) (by rfl) ?_; intro K hK; go_big_quiet_op; go_big_quiet_on))
  refine grow_nil ?_
  intro w3 hb3 hf
  have ho3 := hf _ List.mem_cons_self
  clear hf
  replace ho3 := hid ho3
  clear y1 y2 y3
  have hB3 : Below w.heap.size w w3 := hb1.trans (hb3.mono hzb1)
  have hz3 := hB3.size
  go_wp2_with fail
  go_loopw [2, 30] (fun ov jv wr => ∃ j : Nat, jv = .int .i64 j ∧ j ≤ (memL M).length ∧ wr.ownsRow base 3 1 ov (ns ++ ((memL M).take j).map fun p => p * z + X).length (natVals (ns ++ ((memL M).take j).map fun p => p * z + X)) ∧ KeepB (fun b => v.ownBlock = some b) w3 wr ∧ (∀ g, ov.ownBlock = some g → v.ownBlock = some g ∨ w3.heap.size ≤ g)) (fun _ jv _ => (memL M).length - (intOf jv).toNat)
  case atStart => exact ⟨0, rfl, by omega, by simpa using own_keep hown.out (.of_below (K := fun _ => False) hB3) (fun _ _ h => h), KeepB.refl _ _, fun g h => .inl h⟩
  case round =>
    obtain ⟨j, rfl, hj, hown2, hkp, hat⟩ := hrel
    have hml := memL_len M
    have hvb : ∀ g, v.ownBlock = some g → base ≤ g ∧ g < w.heap.size := hown.out.lt
    by_cases hjl : j < (memL M).length
    · have hr3 := own_keep ho3.out hkp fun g hg e => by
        have h1 := (hvb g e).2
        have h2 := own_block ho3.out g hg
        omega
      obtain ⟨g3, d3, hve, -, -, -, -, hcell⟩ := own_shape hr3 (by omega)
      injection hve with hv1 hv2 hv3
      subst hv1
      subst hv3
      have n0 := hcell j _ (show ((memL M).map fun (n : Nat) => Value.int .i64 (n : Int))[j]? = some (.int .i64 ((memL M)[j] : Nat)) from by simp [hjl])
      have hp16 := (memL_mem.1 (List.getElem_mem hjl)).1
      have hbZ' := World.block_lt_of_cell? _ _ hZ
      have z0 : wr.cell? ⟨bZ, 0, none⟩ = some (.int .i64 (z : Nat)) := by
        rw [World.cell?_of_block (w := w3) (hkp.block bZ (by have := hB3.size; simp at hbZ'; omega) fun e => by have := (hvb _ e).1; omega), hB3.cell hbZ']
        exact hZ
      have htk : ((memL M).take (j + 1)).map (fun p => p * z + X) = ((memL M).take j).map (fun p => p * z + X) ++ [(memL M)[j] * z + X] := by
        rw [List.take_succ_eq_append_getElem hjl, List.map_append]
        rfl
      obtain ⟨p, hp⟩ : ∃ p, p = (memL M)[j] := ⟨_, rfl⟩
      rw [← hp] at n0 hp16 htk
      have hpz : p * z ≤ 1048576 := Nat.le_trans (Nat.mul_le_mul (show p ≤ 16 by omega) hz') (by omega)
      have hpi : ((p : Int) * (z : Int)) = ((p * z : Nat) : Int) := (Int.natCast_mul p z).symm
      have hpz1 : ((p : Int) * (z : Int)) ≤ 1048576 := by rw [hpi]; omega
      have hpz2 : (0 : Int) ≤ ((p : Int) * (z : Int)) := by rw [hpi]; omega
      have hval : Hid (((p : Int) * (z : Int) + (X : Int)) = ((p * z + X : Nat) : Int)) := hid (by rw [hpi]; omega)
      have hlen : (ns ++ ((memL M).take j).map fun p => p * z + X).length ≤ 4294967312 := by simp; omega
      replace hpi := hid hpi
      replace hp := hid hp
      replace htk := hid htk
      replace hr3 := hid hr3
      replace hcell := hid hcell
      replace hown2 := hid hown2
      replace hat := hid hat
      replace hvb := hid hvb
      have hzr := hkp.size
      go_wp2_with (at_builtin; refine wpList_append_own_at _ rfl _ _ 62 rfl base 3 i0 (.int .i64 0) 1 8 Tryd.underlying62 hi hz0 hz1 hz2 rfl (by decide) _ _ _ rfl (hown2.out.alloc _) ⟨wr.heap.size, 0, none⟩ 1 1 [.int .i64 ((p : Int) * (z : Int) + (X : Int))] rfl rfl (cell_one_new _ _ _) (by intro u hu; simp at hu; subst hu; rfl) (by unfold maxLen; omega) (by omega) (by simp; omega) ?_; intro v5 w5 hO5 hg5 _ hat5; replace hO5 := hid hO5; replace hg5 := hid hg5; replace hat5 := hid hat5)
      go_roundw
      case rel =>
        refine ⟨j + 1, by go_num, by omega, ?_, (hkp.alloc _).grown hg5.out fun g hg hlt => ?_, fun g hg => ?_⟩
        · have h5 := hO5.out
          rw [hval.out] at h5
          rw [htk.out, ← List.append_assoc, List.length_append]
          unfold natVals at h5 ⊢
          rw [List.map_append]
          exact h5
        · rcases hat.out g hg with h | h
          · exact h
          · omega
        · rcases hat5.out with h | h
          · exact hat.out g (h.symm.trans hg)
          · rw [h] at hg
            injection hg with hg
            right
            simp at hg
            omega
      case measure => simp [intOf]; omega
    · have htk : (memL M).take j = memL M := List.take_of_length_le (by omega)
      rw [htk] at hown2
      have hfin : Hid (((memL M).map fun p => p * z + X) = outNx s t z q l) := hid (by unfold outNx; rw [← hX.out, ← hM'.out])
      rw [hfin.out] at hown2
      replace hown2 := hid hown2
      replace hat := hid hat
      replace hvb := hid hvb
      replace htk := hid htk
      have hkf : Hid (KeepB (fun b => v.ownBlock = some b) w wr) := hid ((KeepB.of_below hB3).trans hkp)
      go_wp2
      go_ret
      exact ⟨_, rfl, hown2.out, hkf.out⟩

end Go.Proofs.YtolnlkccbndkcaaDoor

/- The program's FirstTraceOutside. -/
namespace Go.Proofs.YtolnlkccbndkcaaDoor
open Go.RowKit Go.BigFrame AG

theorem setFar_cell (w : World) (p : Addr) (v : Value) {q : Addr} (h : q.block ≠ p.block) : (w.setCell p v).cell? q = w.cell? q := World.cell?_of_block (w := w) (Below.heap_setCell _ _ _ _ h)
theorem MvAt.far {w : World} {B g : Nat} {m : Nat → Nat → Nat} (h : MvAt w B g m) (p : Addr) (v : Value) (hp : g ≠ p.block) : MvAt (w.setCell p v) B g m := ⟨h.1, fun q l h1 h2 => by rw [setFar_cell _ _ _ hp]; exact h.2 q l h1 h2⟩

theorem goal_ok {wq : World} {z bZ size : Nat} (hz : 0 < z) (hz' : z ≤ 65536) (hs : size ≤ 1048576) (hc : wq.cell? ⟨bZ, 0, none⟩ = some (.int .i64 (z : Nat))) :
    GoalOk wq size (fun n => decide (n % z = 0)) 74 #[.pointer (some ⟨bZ, 0, none⟩)] :=
  ⟨fun args w' => by go_simp, fun w' q hb hq => outGoal_any q z bZ w' hz hz' (by omega) ((hb.cell (World.block_lt_of_cell? _ _ hc)).trans hc)⟩

theorem next_ok {s t : Sy} {wq : World} {z sn bN bZ bM gn gm : Nat} (hs : edgesIn s) (ht : edgesIn t) (hsn : s.st = (sn : Int)) (hs16 : sn ≤ 16) (hz : z = 2 ^ t.st.toNat) (hzp : 0 < z) (hzl : z ≤ 65536) (hT : Tab wq)
    (hN : wq.cell? ⟨bN, 0, none⟩ = some (.pointer (some ⟨gn, 0, none⟩))) (hZ : wq.cell? ⟨bZ, 0, none⟩ = some (.int .i64 (z : Nat))) (hM : wq.cell? ⟨bM, 0, none⟩ = some (.pointer (some ⟨gm, 0, none⟩))) (hm : MvAt wq wq.heap.size gm (mv s)) (hn : MvAt wq wq.heap.size gn (mv t)) :
    NextOk wq (sn * z) (letters s.al) (outNx s t z) 69 #[.pointer (some ⟨bN, 0, none⟩), .pointer (some ⟨bZ, 0, none⟩), .pointer (some ⟨bM, 0, none⟩)] := by
  refine ⟨fun args w' => by go_simp, fun q _ l _ n hn => ?_, fun q _ l _ => ?_, fun w' q l v ns base hb hq hl hns hB hB' hown => ?_⟩
  · unfold outNx at hn
    obtain ⟨p, hp, rfl⟩ := List.mem_map.1 hn
    have h1 := testBit_lt (mv_small hs _ _) (memL_mem.1 hp).2
    have h2 := unionOf_small ht (q % z) l
    rw [← hz] at h2
    have h3 : (p + 1) * z ≤ sn * z := Nat.mul_le_mul_right z (by omega)
    rw [Nat.add_mul] at h3
    omega
  · unfold outNx
    rw [List.length_map]
    exact Nat.le_trans (memL_len _) (by omega)
  · have hq16 : q < 16 * z := Nat.lt_of_lt_of_le hq (Nat.mul_le_mul_right z hs16)
    exact outNext_any s t z bN bZ bM gn gm base q l v ns w' hzp hzl hq16 (letters_lt hl).1 (hT.later hb) ((hb.cell (World.block_lt_of_cell? _ _ hN)).trans hN) ((hb.cell (World.block_lt_of_cell? _ _ hZ)).trans hZ)
      ((hb.cell (World.block_lt_of_cell? _ _ hM)).trans hM) (hm.later hb) (hn.later hb) hns hB' (Nat.lt_of_lt_of_le (World.block_lt_of_cell? _ _ hZ) hB) hown

set_option maxRecDepth 100000 in
set_option maxHeartbeats 4000000 in
theorem implFirstTraceOutside_any (s t : Sy) (A B : Option Addr) (c d : Nat) (w : World) (hl : s.es.length ≤ c) (hc : c ≤ 9223372036854775807) (hm : t.es.length ≤ d) (hd : d ≤ 9223372036854775807) (hT : Tab w) (hr : EdsAt w w.heap.size A s.es) (hs : EdsAt w w.heap.size B t.es) :
    Calls Tryd.prog 20 #[s.val A c, t.val B d] w fun e w' => ∃ o, e = .returned (pathV o) ∧ IsOut s t o ∧ Below w.heap.size w w' := by
  unfold Sy.val
  replace hr := hid hr
  replace hs := hid hs
  replace hT := hid hT
  go_enter Tryd.func20, Tryd.ntmps20
  go_wp2_with fail
  obtain ⟨w0, hw0, hz0, hB0, hS, hU⟩ := boxed2 w #[Value.int IntKind.i64 s.al, Value.int IntKind.i64 s.st, Value.slice A s.es.length c] 25 #[Value.int IntKind.i64 t.al, Value.int IntKind.i64 t.st, Value.slice B t.es.length d] 25
  rw [hw0]
  clear hw0
  have p0 := hS 0 _ rfl _ (Below.refl _ _)
  have p1 := hS 1 _ rfl _ (Below.refl _ _)
  have p2 := hS 2 _ rfl _ (Below.refl _ _)
  have q0 := hU 0 _ rfl _ (Below.refl _ _)
  have q1 := hU 1 _ rfl _ (Below.refl _ _)
  have q2 := hU 2 _ rfl _ (Below.refl _ _)
  have hr0 := hid (hr.out.later hB0)
  have hs0 := hid (hs.out.later hB0)
  go_wp2_with fail
  refine (sameAlphabets_any s t A B c d w0 hl hc hm hd hr0.out hs0.out).mono ?_
  rintro e w1 ⟨rfl, hb1⟩
  have b1 := hb1.mono hz0
  clear p0 p1 p2 q0 q1 q2
  have B1 : Below w.heap.size w w1 := hB0.trans (b1.mono (by omega))
  cases hC : cmpOk s t
  · replace hC := hid hC
    go_wp2_with fail
    go_ret2
    exact ⟨none, rfl, by unfold IsOut; rw [hC.out]; rfl, B1⟩
  · replace hC := hid hC
    have hsy := hid (show sysOk s = true ∧ sysOk t = true from by
      have := hC.out
      unfold cmpOk at this
      simp only [Bool.and_eq_true] at this
      exact ⟨this.1, this.2.1⟩)
    have hin1 := hid (sysOk_in hsy.out.1)
    have hin2 := hid (sysOk_in hsy.out.2)
    have z1 := hb1.size
    have hFb : ∀ x, Below (w.heap.size + 2) w0 (Fam w1.heap.size w1 x) := fun x => b1.trans ((Fam.below _ _ x).mono (by omega))
    have y0 := fun x => hS 0 _ rfl _ (hFb x)
    have y1 := fun x => hS 1 _ rfl _ (hFb x)
    have y2 := fun x => hS 2 _ rfl _ (hFb x)
    have u0 := fun x => hU 0 _ rfl _ (hFb x)
    have u1 := fun x => hU 1 _ rfl _ (hFb x)
    have u2 := fun x => hU 2 _ rfl _ (hFb x)
    have hr1 := hid (hr.out.later B1)
    have hs1 := hid (hs.out.later B1)
    replace hFb := hid hFb
    go_wp2_with fail
    refine wp_region_grow2 6 w1.heap.size w1 (fun i u w' => if i = 1 then ∃ g, u = .pointer (some ⟨g, 0, none⟩) ∧ MvAt w' w'.heap.size g (mv s) else ∃ g, u = .pointer (some ⟨g, 0, none⟩) ∧ MvAt w' w'.heap.size g (mv t)) (fun i => i == 4 || i == 5) (by kernel_rfl) (by kernel_rfl) (Nat.le_refl _) (Below.refl _ _) ?_
    simp only [List.take_succ_cons, List.take_zero, List.drop_succ_cons, List.drop_zero]
    (repeat (refine grow_quiet (by rfl) (by rfl) (by rfl) ?_; intro K hK; go_big_quiet_op; go_big_quiet_on))
    refine grow_call (by rfl) (by rfl) (fun u v v' hb h => ?_) (fun wq hbq _ => ?_) fun u hu => ?_
    · obtain ⟨g, e, h⟩ := h
      exact ⟨g, e, h.later hb⟩
    · go_simp
      refine ⟨rfl, (movesOf_any s A c wq hin1.out hl hc (hr1.out.later hbq)).mono ?_⟩
      rintro e w3 ⟨g, rfl, hg, hb3⟩
      exact ⟨_, rfl, hb3, g, rfl, hg⟩
    obtain ⟨wx, -, gm, rfl, -⟩ := hu
    simp only [Act.put, List.setIfInBounds_toArray, List.set_cons_zero, List.set_cons_succ]
    (repeat (refine grow_quiet (by rfl) (by rfl) (by rfl) ?_; intro K hK; go_big_quiet_op; go_big_quiet_on))
    refine grow_call (by rfl) (by rfl) (fun u v v' hb h => ?_) (fun wq hbq _ => ?_) fun u hu => ?_
    · obtain ⟨g, e, h⟩ := h
      exact ⟨g, e, h.later hb⟩
    · go_simp
      refine ⟨rfl, (movesOf_any t B d wq hin2.out hm hd (hs1.out.later hbq)).mono ?_⟩
      rintro e w3 ⟨g, rfl, hg, hb3⟩
      exact ⟨_, rfl, hb3, g, rfl, hg⟩
    obtain ⟨wx', -, gn, rfl, -⟩ := hu
    simp only [Act.put, List.setIfInBounds_toArray, List.set_cons_zero, List.set_cons_succ]
    refine grow_new (by rfl) (fun b => .pointer (some ⟨b, 0, none⟩)) 70 #[.pointer none] (fun _ => by go_simp) (fun _ => rfl) (Nat.le_refl _) fun bM hbM => ?_
    simp only [Act.put, List.setIfInBounds_toArray, List.set_cons_zero, List.set_cons_succ]
    refine grow_new (by rfl) (fun b => .pointer (some ⟨b, 0, none⟩)) 70 #[.pointer none] (fun _ => by go_simp) (fun _ => rfl) (Nat.le_refl _) fun bN hbN => ?_
    simp only [Act.put, List.setIfInBounds_toArray, List.set_cons_zero, List.set_cons_succ]
    refine grow_nil ?_
    intro w2 hb2 hf hap
    have hne : bM ≠ bN := by
      have := hap 4 5 6 7 _ _ (by decide) (by decide) (by decide) rfl rfl rfl rfl rfl rfl
      simpa [blockOf] using this
    obtain ⟨_, e5, -, hN5⟩ := hf _ List.mem_cons_self
    cases e5
    obtain ⟨_, e4, -, hM4⟩ := hf _ (List.mem_cons_of_mem _ List.mem_cons_self)
    cases e4
    obtain ⟨_, e3, hn3⟩ := hf _ (List.mem_cons_of_mem _ (List.mem_cons_of_mem _ List.mem_cons_self))
    cases e3
    obtain ⟨_, e1, hm1⟩ := hf _ (List.mem_cons_of_mem _ (List.mem_cons_of_mem _ (List.mem_cons_of_mem _ List.mem_cons_self)))
    cases e1
    clear hf hap y0 y1 y2 u0 u1 u2
    have hBM : Blk w2 bM 70 #[.pointer none] := hM4
    have hBN : Blk w2 bN 70 #[.pointer none] := hN5
    clear hM4 hN5
    have hgm : ∀ g b m, Blk w2 b 70 #[.pointer none] → MvAt w2 w2.heap.size g m → g ≠ b := fun g b m hb hm e => by
      subst e
      have h1 := hm.2 0 0 (by omega) (by omega)
      have h2 := hb.cell 0
      simp at h2
      simp [h2] at h1
    have g1 := hgm gm bM _ hBM hm1
    have g2 := hgm gm bN _ hBN hm1
    have g3 := hgm gn bM _ hBM hn3
    have g4 := hgm gn bN _ hBN hn3
    clear hgm
    obtain ⟨w3, hw3⟩ : ∃ w3, (w2.setCell ⟨bM, 0, none⟩ (.pointer (some ⟨gm, 0, none⟩))).setCell ⟨bN, 0, none⟩ (.pointer (some ⟨gn, 0, none⟩)) = w3 := ⟨_, rfl⟩
    have hb3 : Below w1.heap.size w1 w3 := by
      rw [← hw3]
      (repeat (first | exact Below.refl _ _ | assumption | refine Below.drew ?_ | refine Below.alloc ?_ (by first | omega | (simp; done) | (simp; omega)) _ | refine Below.setCell ?_ (by first | omega | (simp; done) | (simp; omega)) _))
    have hm3 : MvAt w3 w3.heap.size gm (mv s) := by
      have := MvAt.far (MvAt.far hm1 ⟨bM, 0, none⟩ (.pointer (some ⟨gm, 0, none⟩)) g1) ⟨bN, 0, none⟩ (.pointer (some ⟨gn, 0, none⟩)) g2
      rw [hw3] at this
      refine ⟨?_, this.2⟩
      have := hm1.1
      rw [← hw3]
      simpa using this
    have hn4 : MvAt w3 w3.heap.size gn (mv t) := by
      have := MvAt.far (MvAt.far hn3 ⟨bM, 0, none⟩ (.pointer (some ⟨gm, 0, none⟩)) g3) ⟨bN, 0, none⟩ (.pointer (some ⟨gn, 0, none⟩)) g4
      rw [hw3] at this
      refine ⟨?_, this.2⟩
      have := hn3.1
      rw [← hw3]
      simpa using this
    have hcM : w3.cell? ⟨bM, 0, none⟩ = some (.pointer (some ⟨gm, 0, none⟩)) := by
      rw [← hw3, setFar_cell _ _ _ (by simpa using hne)]
      have := (hBM.set_ 0 (.pointer (some ⟨gm, 0, none⟩))).cell 0
      simpa using this
    have hBN' : Blk (w2.setCell ⟨bM, 0, none⟩ (.pointer (some ⟨gm, 0, none⟩))) bN 70 #[.pointer none] := (Below.heap_setCell _ _ _ _ (Ne.symm hne)).trans hBN
    have hcN : w3.cell? ⟨bN, 0, none⟩ = some (.pointer (some ⟨gn, 0, none⟩)) := by
      rw [← hw3]
      have := (hBN'.set_ 0 (.pointer (some ⟨gn, 0, none⟩))).cell 0
      simpa using this
    have c1 := hBM.cell 0
    have c2 := hBN'.cell 0
    simp only [List.getElem?_toArray, List.getElem?_cons_zero] at c1 c2
    have z1' := hBM.frozen 0
    have z2' := hBN'.frozen 0
    have hb3' := b1.trans (hb3.mono (by omega))
    have k1 := hU 1 _ rfl _ hb3'
    obtain ⟨z, hz⟩ : ∃ z, z = 2 ^ t.st.toNat := ⟨_, rfl⟩
    have hst := sysOk_st hsy.out.2
    have hst1 := sysOk_st hsy.out.1
    have hzw : wrap64 ((2 : Int) ^ t.st.toNat) = ((z : Nat) : Int) := by rw [wrap_pow (by omega), hz]
    rw [← hw3] at k1
    replace hm3 := hid hm3
    replace hn4 := hid hn4
    replace hcM := hid hcM
    replace hcN := hid hcN
    replace hw3 := hid hw3
    replace hz := hid hz
    replace hBM := hid hBM
    replace hBN := hid hBN
    replace hBN' := hid hBN'
    clear hm1 hn3
    have hz32 : Hid (w3.heap.size = w2.heap.size) := hid (by rw [← hw3.out]; simp)
    go_wp2_with fail
    rw [hw3.out]
    obtain ⟨w4, hw4⟩ : ∃ w4, w3.alloc (Obj.cells #[Value.int IntKind.i64 (z : Nat)] 3) = w4 := ⟨_, rfl⟩
    rw [hw4]
    have hb4 : Below w3.heap.size w3 w4 := by
      rw [← hw4]
      (repeat (first | exact Below.refl _ _ | assumption | refine Below.drew ?_ | refine Below.alloc ?_ (by first | omega | (simp; done) | (simp; omega)) _ | refine Below.setCell ?_ (by first | omega | (simp; done) | (simp; omega)) _))
    have hcZ : w4.cell? ⟨w2.heap.size, 0, none⟩ = some (.int .i64 (z : Nat)) := by
      have := (Blk.new w3 3 #[Value.int IntKind.i64 (z : Nat)]).cell 0
      rw [hw4, hz32.out] at this
      simpa using this
    have hm5 := hid (hm3.out.later hb4)
    have hn5 := hid (hn4.out.later hb4)
    have hcM4 := hid ((hb4.cell (World.block_lt_of_cell? _ _ hcM.out)).trans hcM.out)
    have hcN4 := hid ((hb4.cell (World.block_lt_of_cell? _ _ hcN.out)).trans hcN.out)
    have hb14 : Below w1.heap.size w1 w4 := hb3.trans (hb4.mono hb3.size)
    have hb04 := b1.trans (hb14.mono (by omega))
    have hFb : ∀ x, Below (w.heap.size + 2) w0 (Fam w4.heap.size w4 x) := fun x => hb04.trans ((Fam.below _ _ x).mono (by have := hb04.size; omega))
    have y0 := fun x => hS 0 _ rfl _ (hFb x)
    have y1 := fun x => hS 1 _ rfl _ (hFb x)
    have hcZ' := World.block_lt_of_cell? _ _ hcZ
    have y2 : ∀ x, (Fam w4.heap.size w4 x).cell? ⟨w2.heap.size, 0, none⟩ = some (.int .i64 (z : Nat)) := fun x => ((Fam.below _ _ x).cell hcZ').trans hcZ
    have hT4 := hid (hT.out.later (B1.trans (hb14.mono (Nat.le_trans (by omega) z1))))
    obtain ⟨sn, hsn⟩ : ∃ sn : Nat, s.st = (sn : Int) := ⟨s.st.toNat, by omega⟩
    have hzl : z ≤ 65536 := by
      rw [hz.out]
      exact Nat.le_trans (Nat.pow_le_pow_right (by omega) (show t.st.toNat ≤ 16 by omega)) (by decide)
    have hzp : 0 < z := by rw [hz.out]; exact Nat.two_pow_pos _
    have hz2 : 1 < z := by
      rw [hz.out]
      have : 2 ^ 1 ≤ 2 ^ t.st.toNat := Nat.pow_le_pow_right (by omega) (by omega)
      omega
    have hsz : sn * z ≤ 1048576 := Nat.le_trans (Nat.mul_le_mul (show sn ≤ 16 by omega) hzl) (by omega)
    have hsz1 : z ≤ sn * z := Nat.le_mul_of_pos_left z (by omega)
    have hmul : Hid (s.st * (z : Int) = ((sn * z : Nat) : Int)) := hid (by rw [hsn, Int.natCast_mul])
    have hm1 : s.st * (z : Int) ≤ 1048576 := by rw [hmul.out]; omega
    have hm2 : 0 ≤ s.st * (z : Int) := by rw [hmul.out]; omega
    have hs16 : sn ≤ 16 := by omega
    replace hsn := hid hsn
    replace hFb := hid hFb
    replace hw3 := hid hw3
    replace hw4 := hid hw4
    clear hzw k1 c1 c2 z1' z2'
    refine wp_region_grow 13 w4.heap.size w4 (fun i u w' => if i = 7 then OwnNats w' w4.heap.size u (letters s.al) else ∃ o, u = pathV o ∧ IsOut s t o) (by kernel_rfl) (by kernel_rfl) (Nat.le_refl _) (Below.refl _ _) ?_
    simp only [List.take_succ_cons, List.take_zero, List.drop_succ_cons, List.drop_zero]
    (repeat (refine grow_quiet (by rfl) (by rfl) (by rfl) ?_; intro K hK; go_big_quiet_op; go_big_quiet_on))
    refine grow_new (by rfl) (fun b => .slice (some ⟨b, 0, none⟩) 1 1) 3 #[.int .i64 1] (fun _ => by go_simp) (fun _ => rfl) (Nat.le_refl _) fun bI hbI => ?_
    simp only [Act.put, List.setIfInBounds_toArray, List.set_cons_zero, List.set_cons_succ]
    (repeat (refine grow_quiet (by rfl) (by rfl) (by rfl) ?_; intro K hK; go_big_quiet_op; go_big_quiet_on))
    refine grow_call (by rfl) (by rfl) (fun u v v' hb h => ?_) (fun wq hbq _ => ?_) fun u hu => ?_
    · exact own_keep h (.of_below (K := fun _ => False) hb) fun _ _ h => h
    · go_simp
      refine ⟨rfl, (lettersOf_any s.al wq).mono ?_⟩
      rintro e w5 ⟨v, rfl, ho, hb5⟩
      exact ⟨v, rfl, hb5, own_base ho hbq.size⟩
    simp only [Act.put, List.setIfInBounds_toArray, List.set_cons_zero, List.set_cons_succ]
    (repeat (refine grow_quiet (by rfl) (by rfl) (by rfl) ?_; intro K hK; go_big_quiet_op; go_big_quiet_on))
    refine grow_call (by rfl) (by rfl) (fun v x x' hb h => h) (fun wq hbq hfx => ?_) fun u2 hu2 => ?_
    · have hlet : OwnNats wq w4.heap.size u (letters s.al) := hfx _ List.mem_cons_self (by kernel_rfl)
      obtain ⟨bI', eI, -, hI⟩ := hfx _ (List.mem_cons_of_mem _ List.mem_cons_self) (by kernel_rfl)
      cases eI
      have hbz := hid ((hbq.cell hcZ').trans hcZ)
      have hbM' := hid ((hbq.cell (World.block_lt_of_cell? _ _ hcM4.out)).trans hcM4.out)
      have hbN' := hid ((hbq.cell (World.block_lt_of_cell? _ _ hcN4.out)).trans hcN4.out)
      have hTq := hid (hT4.out.later hbq)
      have hmq := hid (hm5.out.later hbq)
      have hnq := hid (hn5.out.later hbq)
      go_simp
      refine ⟨rfl, ?_⟩
      rw [hmul.out]
      have hhit : ∀ r, (∃ n, RW (fun n => n ∈ [1]) (letters s.al) (outNx s t z) r n ∧ decide (n % z = 0) = true) ↔ AG.Outside s t r := by
        rw [hz.out]
        exact impl_hits hin1.out hin2.out hst.1
      have hIo : wq.ownsRow 0 3 1 (.slice (some ⟨bI, 0, none⟩) 1 1) [1].length (natVals [1]) := ⟨rfl, .inr ⟨bI, 1, #[.int .i64 1], rfl, Nat.zero_le _, hI, Nat.le_refl _, by decide, rfl, rfl⟩⟩
      refine (firstPath_any wq (sn * z) (fun n => decide (n % z = 0)) 74 #[.pointer (some ⟨w2.heap.size, 0, none⟩)] (goal_ok hzp hzl hsz hbz.out) (letters s.al) (letters_sorted _) (fun l h => (letters_lt h).1) (outNx s t z) 69 _
        (next_ok hin1.out hin2.out hsn.out hs16 hz.out hzp hzl hTq.out hbN'.out hbz.out hbM'.out hmq.out hnq.out) [1] (by simp) (fun n hn => by rw [List.mem_singleton] at hn; omega) (by simp) _ u hIo (own_base hlet (Nat.zero_le _)) hsz).mono ?_
      rintro e w6 ⟨o, rfl, hp, hb6⟩
      exact ⟨_, rfl, hb6, o, rfl, out_of_first hhit hC.out hp⟩
    obtain ⟨w6', -, o, rfl, hout⟩ := hu2
    obtain ⟨Sv, Fv, hpv⟩ : ∃ Sv Fv, pathV o = .tuple #[.string Sv, .bool Fv] := ⟨_, _, rfl⟩
    rw [hpv]
    have hout' := hid (show ∃ o, (Value.tuple #[.string Sv, .bool Fv]) = pathV o ∧ IsOut s t o from ⟨o, hpv.symm, hout⟩)
    clear hout hpv
    simp only [Act.put, List.setIfInBounds_toArray, List.set_cons_zero, List.set_cons_succ]
    (repeat (refine grow_quiet (by rfl) (by rfl) (by rfl) ?_; intro K hK; go_big_quiet_op; go_big_quiet_on))
    refine grow_nil ?_
    intro w7 hb7 hf
    clear hf y0 y1 y2
    have hB7 : Below w.heap.size w w7 := B1.trans ((hb14.trans (hb7.mono hb14.size)).mono (by omega))
    go_wp2_with fail
    go_ret2
    obtain ⟨o, ho, hout⟩ := hout'.out
    exact ⟨o, by rw [← ho]; rfl, hout, hB7⟩

end Go.Proofs.YtolnlkccbndkcaaDoor

/- The program's search in two automata: firstOfBoth. -/
namespace Go.Proofs.YtolnlkccbndkcaaDoor
open Go.RowKit Go.BigFrame AG

def DoubP (a b : Au) (g : Bool → Bool → Bool) (m0 : Nat) (o : Option (List Nat)) : Prop := PathPost (fun m => m ∈ [m0]) (letters a.al) (fun q l => [goB a b q l]) (fun m => goalB a b g m = true) o
theorem TabA.far {w : World} {g n : Nat} {a : Au} (h : TabA w g n a) (p : Addr) (v : Value) (hne : g ≠ p.block) : TabA (w.setCell p v) g n a :=
  ⟨by simpa using h.1, fun q l h1 h2 => by rw [setFar_cell _ _ _ (by simpa using hne)]; exact h.2 q l h1 h2⟩
theorem wrap_mulN (a b : Nat) (h : a * b < 9223372036854775807) : wrap64 ((a : Int) * (b : Int)) = ((a * b : Nat) : Int) := by
  rw [← Int.natCast_mul]
  generalize a * b = c at h
  exact IntWalk.wrap64_in _ ⟨by omega, by omega⟩
theorem goB_lt {a b : Au} (ha : auOk a = true) (hb : auOk b = true) {q l : Nat} (hq : q < a.nx.length * b.nx.length) : goB a b q l < a.nx.length * b.nx.length := by
  have hn := ((auOk_iff b).1 hb).2.1
  have h1 := goA_lt ha (q := q / b.nx.length) (l := l) (Nat.div_lt_of_lt_mul (by rw [Nat.mul_comm]; exact hq))
  have h2 := goA_lt hb (q := q % b.nx.length) (l := l) (Nat.mod_lt _ hn)
  unfold goB
  calc goA a (q / b.nx.length) l * b.nx.length + goA b (q % b.nx.length) l < goA a (q / b.nx.length) l * b.nx.length + b.nx.length := by omega
    _ = (goA a (q / b.nx.length) l + 1) * b.nx.length := by rw [Nat.add_mul, Nat.one_mul]
    _ ≤ a.nx.length * b.nx.length := Nat.mul_le_mul_right _ h1

theorem bothNext_ok {a b : Au} {gS gT bS bN bT : Nat} {w : World} (ha : auOk a = true) (hb : auOk b = true)
    (hS : TabA w gS a.nx.length a) (hT : TabA w gT b.nx.length b) (hcS : w.cell? ⟨bS, 0, none⟩ = some (.slice (some ⟨gS, 0, none⟩) a.nx.length a.nx.length)) (hcN : w.cell? ⟨bN, 0, none⟩ = some (.int .i64 (b.nx.length : Nat))) (hcT : w.cell? ⟨bT, 0, none⟩ = some (.slice (some ⟨gT, 0, none⟩) b.nx.length b.nx.length)) :
    NextOk w (a.nx.length * b.nx.length) (letters a.al) (fun q l => [goB a b q l]) 137 #[.pointer (some ⟨bS, 0, none⟩), .pointer (some ⟨bN, 0, none⟩), .pointer (some ⟨bT, 0, none⟩)] := by
  obtain ⟨_, a1, a12, _⟩ := (auOk_iff a).1 ha
  obtain ⟨_, b1, b12, _⟩ := (auOk_iff b).1 hb
  refine ⟨fun args w' => by go_simp, fun q hq l _ n hn => ?_, fun q _ l _ => by simp, fun w' q l v ns base hbb hq hl hns hB hB' hown => ?_⟩
  · rw [List.mem_singleton.1 hn]
    exact goB_lt ha hb hq
  · have h1 := goA_lt ha (q := q / b.nx.length) (l := l) (Nat.div_lt_of_lt_mul (by rw [Nat.mul_comm]; exact hq))
    have h2 := goA_lt hb (q := q % b.nx.length) (l := l) (Nat.mod_lt _ b1)
    exact bothNext_any a b gS gT bS bN bT base a.nx.length q l v ns w' hq rfl a12 b1 b12 (letters_lt hl).1 (by omega) (by omega) (hS.later hbb) (hT.later hbb) ((hbb.cell (World.block_lt_of_cell? _ _ hcS)).trans hcS)
      ((hbb.cell (World.block_lt_of_cell? _ _ hcN)).trans hcN) ((hbb.cell (World.block_lt_of_cell? _ _ hcT)).trans hcT) hns hB' hown

set_option maxRecDepth 100000 in
set_option maxHeartbeats 8000000 in
theorem firstOfBoth_any (a b : Au) (A B A' B' : Option Addr) (c d c' d' i j : Nat) (g : Bool → Bool → Bool) (fg : FuncId) (cg : Array Value) (w : World) (hoka : auOk a = true) (hokb : auOk b = true) (hi : i < a.nx.length) (hj : j < b.nx.length) (hg : BoolFn g fg cg)
    (ha : AuAt w A c B d a) (hb : AuAt w A' c' B' d' b) :
    Calls Tryd.prog 66 #[a.val A c B d, b.val A' c' B' d', .int .i64 (i : Nat), .int .i64 (j : Nat), .func (.func fg) #[] cg] w fun e w' => ∃ o, e = .returned (pathV o) ∧ DoubP a b g (i * b.nx.length + j) o ∧ Below w.heap.size w w' := by
  obtain ⟨-, hn1, hn12, hn3, -⟩ := (auOk_iff a).1 hoka
  obtain ⟨-, hm1, hm12, hm3, -⟩ := (auOk_iff b).1 hokb
  obtain ⟨M, hM⟩ : ∃ M, Hid (M = a.nx.length * b.nx.length) := ⟨_, hid rfl⟩
  obtain ⟨I, hI⟩ : ∃ I, Hid (I = i * b.nx.length) := ⟨_, hid rfl⟩
  obtain ⟨J, hJ⟩ : ∃ J, Hid (J = i * b.nx.length + j) := ⟨_, hid rfl⟩
  have hM144 : M ≤ 144 := by rw [hM.out]; exact Nat.le_trans (Nat.mul_le_mul hn12 hm12) (by decide)
  have hI144 : I ≤ 144 := by rw [hI.out]; exact Nat.le_trans (Nat.mul_le_mul (Nat.le_trans (Nat.le_of_lt hi) hn12) hm12) (by decide)
  have e5 := wrap_mulN a.nx.length b.nx.length (by rw [← hM.out]; omega)
  rw [← hM.out] at e5
  have e6 := wrap_mulN i b.nx.length (by rw [← hI.out]; omega)
  rw [← hI.out] at e6
  have hJI : I + j = J := by rw [hJ.out, hI.out]
  have e7 := wrap_addN I j (by omega)
  rw [hJI] at e7
  clear hJI
  have hJM : J < M := by
    rw [hJ.out, hM.out]
    calc i * b.nx.length + j < i * b.nx.length + b.nx.length := by omega
      _ = (i + 1) * b.nx.length := by rw [Nat.add_mul, Nat.one_mul]
      _ ≤ a.nx.length * b.nx.length := Nat.mul_le_mul_right _ hi
  have hJM' := hid hJM
  replace e5 := hid e5
  replace e6 := hid e6
  replace e7 := hid e7
  clear hJM hI144
  obtain ⟨w1, hw1, hz1, hB1, hS, hU⟩ := boxed2 w #[Value.int IntKind.i64 a.al, Value.slice A a.nx.length c, Value.slice B a.ac.length d] 32 #[Value.int IntKind.i64 b.al, Value.slice A' b.nx.length c', Value.slice B' b.ac.length d'] 32
  obtain ⟨w0, hw0, hz0, hB0', hV⟩ := boxed w1 #[Value.func (.func fg) #[] cg] 69
  have hB0 := hB1.trans (hB0'.mono hB1.size)
  have hC0 := hB0'.mono hz1
  have ha0 := hid (ha.later hB0)
  have hb0 := hid (hb.later hB0)
  replace ha := hid ha
  replace hb := hid hb
  have hoka' := hid hoka
  have hokb' := hid hokb
  replace hn3 := hid hn3
  replace hm3 := hid hm3
  clear hoka hokb
  unfold AG.Au.val
  go_enter Tryd.func66, Tryd.ntmps66
  go_upto_region 1 with fail
  have hFb : ∀ x, Below (w.heap.size + 2) w1 (Fam w0.heap.size w0 x) := fun x => (hB0'.trans ((Fam.below _ _ x).mono (by omega))).mono hz1
  have y0 := fun x => hS 0 _ rfl _ (hFb x)
  have y1 := fun x => hS 1 _ rfl _ (hFb x)
  have y2 := fun x => hS 2 _ rfl _ (hFb x)
  have u0 := fun x => hU 0 _ rfl _ (hFb x)
  have u1 := fun x => hU 1 _ rfl _ (hFb x)
  have u2 := fun x => hU 2 _ rfl _ (hFb x)
  refine wp_region_grow2 6 w0.heap.size w0 (fun i u w' => if i = 1 then ∃ g, u = .slice (some ⟨g, 0, none⟩) a.nx.length a.nx.length ∧ TabA w' g a.nx.length a else ∃ g, u = .slice (some ⟨g, 0, none⟩) b.nx.length b.nx.length ∧ TabA w' g b.nx.length b) (fun i => i == 4 || i == 5) (by kernel_rfl) (by kernel_rfl) (Nat.le_refl _) (Below.refl _ _) ?_
  simp only [List.take_succ_cons, List.take_zero, List.drop_succ_cons, List.drop_zero]
  (repeat (refine grow_quiet (by rfl) (by rfl) (by rfl) ?_; intro K hK; go_big_quiet_op; go_big_quiet_on))
  refine grow_call (by rfl) (by rfl) (fun u v v' hb h => ?_) (fun wq hbq _ => ?_) fun u hu => ?_
  · obtain ⟨g, e, h⟩ := h
    exact ⟨g, e, h.later hb⟩
  · go_simp
    refine ⟨rfl, (tableOf_any a A B c d wq (by omega) (tabOk_of hoka'.out) (ha0.out.later hbq)).mono ?_⟩
    rintro e w3 ⟨g, rfl, hg, hb3⟩
    exact ⟨_, rfl, hb3, g, rfl, hg⟩
  obtain ⟨wx, -, gS, rfl, -⟩ := hu
  simp only [Act.put, List.setIfInBounds_toArray, List.set_cons_zero, List.set_cons_succ]
  (repeat (refine grow_quiet (by rfl) (by rfl) (by rfl) ?_; intro K hK; go_big_quiet_op; go_big_quiet_on))
  refine grow_call (by rfl) (by rfl) (fun u v v' hb h => ?_) (fun wq hbq _ => ?_) fun u hu => ?_
  · obtain ⟨g, e, h⟩ := h
    exact ⟨g, e, h.later hb⟩
  · go_simp
    refine ⟨rfl, (tableOf_any b A' B' c' d' wq (by omega) (tabOk_of hokb'.out) (hb0.out.later hbq)).mono ?_⟩
    rintro e w3 ⟨g, rfl, hg, hb3⟩
    exact ⟨_, rfl, hb3, g, rfl, hg⟩
  obtain ⟨wx', -, gT, rfl, -⟩ := hu
  simp only [Act.put, List.setIfInBounds_toArray, List.set_cons_zero, List.set_cons_succ]
  refine grow_new (by rfl) (fun b => .pointer (some ⟨b, 0, none⟩)) 121 #[.slice none 0 0] (fun _ => by go_simp) (fun _ => rfl) (Nat.le_refl _) fun bS hbS => ?_
  simp only [Act.put, List.setIfInBounds_toArray, List.set_cons_zero, List.set_cons_succ]
  refine grow_new (by rfl) (fun b => .pointer (some ⟨b, 0, none⟩)) 121 #[.slice none 0 0] (fun _ => by go_simp) (fun _ => rfl) (Nat.le_refl _) fun bT hbT => ?_
  simp only [Act.put, List.setIfInBounds_toArray, List.set_cons_zero, List.set_cons_succ]
  refine grow_nil ?_
  intro w2 hb2 hf hap
  have hne : bS ≠ bT := by
    have := hap 4 5 12 13 _ _ (by decide) (by decide) (by decide) rfl rfl rfl rfl rfl rfl
    simpa [blockOf] using this
  obtain ⟨_, e5, -, hN5⟩ := hf _ List.mem_cons_self
  cases e5
  obtain ⟨_, e4, -, hM4⟩ := hf _ (List.mem_cons_of_mem _ List.mem_cons_self)
  cases e4
  obtain ⟨_, e3, hT3⟩ := hf _ (List.mem_cons_of_mem _ (List.mem_cons_of_mem _ List.mem_cons_self))
  cases e3
  obtain ⟨_, e1, hS3⟩ := hf _ (List.mem_cons_of_mem _ (List.mem_cons_of_mem _ (List.mem_cons_of_mem _ List.mem_cons_self)))
  cases e1
  clear hf hap y0 y1 y2 u0 u1 u2
  have hBS : Blk w2 bS 121 #[.slice none 0 0] := hM4
  have hBT : Blk w2 bT 121 #[.slice none 0 0] := hN5
  clear hM4 hN5
  have hgm : ∀ g b n (x : Au), 1 ≤ n → Blk w2 b 121 #[.slice none 0 0] → TabA w2 g n x → g ≠ b := fun g b n x hn hb hm e => by
    subst e
    have h1 := hm.2 0 0 (by omega) (by omega)
    have h2 := hb.cell 0
    simp at h2
    simp [h2] at h1
  have g1 := hgm gS bS _ _ hn1 hBS hS3
  have g2 := hgm gS bT _ _ hn1 hBT hS3
  have g3 := hgm gT bS _ _ hm1 hBS hT3
  have g4 := hgm gT bT _ _ hm1 hBT hT3
  clear hgm
  obtain ⟨w3, hw3⟩ : ∃ w3, (w2.setCell ⟨bS, 0, none⟩ (.slice (some ⟨gS, 0, none⟩) a.nx.length a.nx.length)).setCell ⟨bT, 0, none⟩ (.slice (some ⟨gT, 0, none⟩) b.nx.length b.nx.length) = w3 := ⟨_, rfl⟩
  have hb3 : Below w0.heap.size w0 w3 := by
    rw [← hw3]
    (repeat (first | exact Below.refl _ _ | assumption | refine Below.drew ?_ | refine Below.alloc ?_ (by first | omega | (simp; done) | (simp; omega)) _ | refine Below.setCell ?_ (by first | omega | (simp; done) | (simp; omega)) _))
  have hS4 : TabA w3 gS a.nx.length a := by
    have := (hS3.far ⟨bS, 0, none⟩ (.slice (some ⟨gS, 0, none⟩) a.nx.length a.nx.length) g1).far ⟨bT, 0, none⟩ (.slice (some ⟨gT, 0, none⟩) b.nx.length b.nx.length) g2
    rw [hw3] at this
    exact this
  have hT4 : TabA w3 gT b.nx.length b := by
    have := (hT3.far ⟨bS, 0, none⟩ (.slice (some ⟨gS, 0, none⟩) a.nx.length a.nx.length) g3).far ⟨bT, 0, none⟩ (.slice (some ⟨gT, 0, none⟩) b.nx.length b.nx.length) g4
    rw [hw3] at this
    exact this
  have hcS : w3.cell? ⟨bS, 0, none⟩ = some (.slice (some ⟨gS, 0, none⟩) a.nx.length a.nx.length) := by
    rw [← hw3, setFar_cell _ _ _ (by simpa using hne)]
    have := (hBS.set_ 0 (.slice (some ⟨gS, 0, none⟩) a.nx.length a.nx.length)).cell 0
    simpa using this
  have hBT' : Blk (w2.setCell ⟨bS, 0, none⟩ (.slice (some ⟨gS, 0, none⟩) a.nx.length a.nx.length)) bT 121 #[.slice none 0 0] := (Below.heap_setCell _ _ _ _ (Ne.symm hne)).trans hBT
  have hcT : w3.cell? ⟨bT, 0, none⟩ = some (.slice (some ⟨gT, 0, none⟩) b.nx.length b.nx.length) := by
    rw [← hw3]
    have := (hBT'.set_ 0 (.slice (some ⟨gT, 0, none⟩) b.nx.length b.nx.length)).cell 0
    simpa using this
  have c1 := hBS.cell 0
  have c2 := hBT'.cell 0
  simp only [List.getElem?_toArray, List.getElem?_cons_zero] at c1 c2
  have z1' := hBS.frozen 0
  have z2' := hBT'.frozen 0
  have k1 := hcT
  rw [← hw3] at k1
  replace hS4 := hid hS4
  replace hT4 := hid hT4
  replace hcS := hid hcS
  replace hcT := hid hcT
  replace hw3 := hid hw3
  replace hBS := hid hBS
  replace hBT := hid hBT
  replace hBT' := hid hBT'
  clear hS3 hT3
  have hz32 : Hid (w3.heap.size = w2.heap.size) := hid (by rw [← hw3.out]; simp)
  go_upto_region 4 with fail
  rw [hw3.out]
  obtain ⟨w4, hw4⟩ : ∃ w4, w3.alloc (Obj.cells #[Value.int IntKind.i64 (b.nx.length : Nat)] 3) = w4 := ⟨_, rfl⟩
  rw [hw4]
  have hb4 : Below w3.heap.size w3 w4 := by
    rw [← hw4]
    (repeat (first | exact Below.refl _ _ | assumption | refine Below.drew ?_ | refine Below.alloc ?_ (by first | omega | (simp; done) | (simp; omega)) _ | refine Below.setCell ?_ (by first | omega | (simp; done) | (simp; omega)) _))
  have hcN : w4.cell? ⟨w2.heap.size, 0, none⟩ = some (.int .i64 (b.nx.length : Nat)) := by
    have := (Blk.new w3 3 #[Value.int IntKind.i64 (b.nx.length : Nat)]).cell 0
    rw [hw4, hz32.out] at this
    simpa using this
  have hS5 := hid (hS4.out.later hb4)
  have hT5 := hid (hT4.out.later hb4)
  have hcS4 := (hb4.cell (World.block_lt_of_cell? _ _ hcS.out)).trans hcS.out
  have hcT4 := (hb4.cell (World.block_lt_of_cell? _ _ hcT.out)).trans hcT.out
  have hb04 : Below w0.heap.size w0 w4 := hb3.trans (hb4.mono hb3.size)
  have hbw4 := hB0.trans (hb04.mono hB0.size)
  have h14 := hB0'.trans (hb04.mono hB0'.size)
  have hFb4 : ∀ x, Below (w.heap.size + 2) w1 (Fam w4.heap.size w4 x) := fun x => (h14.trans ((Fam.below _ _ x).mono (by have := h14.size; omega))).mono hz1
  have y0 := fun x => hS 0 _ rfl _ (hFb4 x)
  have y1 := fun x => (Fam.below w4.heap.size w4 x).cell (World.block_lt_of_cell? _ _ hcS4) |>.trans hcS4
  have y2 := fun x => (Fam.below w4.heap.size w4 x).cell (World.block_lt_of_cell? _ _ hcN) |>.trans hcN
  have y3 := fun x => (Fam.below w4.heap.size w4 x).cell (World.block_lt_of_cell? _ _ hcT4) |>.trans hcT4
  have hcN' := hid hcN
  have hcS4' := hid hcS4
  have hcT4' := hid hcT4
  have hS1 := hid (fun w' (hb : Below w4.heap.size w4 w') => hS 2 _ rfl w' ((h14.trans (hb.mono h14.size)).mono hz1))
  have hU1 := hid (fun w' (hb : Below w4.heap.size w4 w') => hU 2 _ rfl w' ((h14.trans (hb.mono h14.size)).mono hz1))
  have hV1 := hid (fun w' (hb : Below w4.heap.size w4 w') => hV 0 _ rfl w' ((hb04.trans (hb.mono hb04.size)).mono hz0))
  have ha4 := hid (ha0.out.later hb04)
  have hbb4 := hid (hb0.out.later hb04)
  replace hg := hid hg
  replace hFb4 := hid hFb4
  replace hFb := hid hFb
  clear hcN hcS4 hcT4 hw4 c1 c2 z1' z2' k1
  have hfin : Hid (∀ o, PathPost (fun m => m ∈ [J]) (letters a.al) (fun q l => [goB a b q l]) (fun m => goalB a b g m = true) o → DoubP a b g J o) := hid fun o h => h
  refine wp_region_grow 18 w4.heap.size w4 (fun i u w' => if i = 12 then OwnNats w' w4.heap.size u (letters a.al) else ∃ o, u = pathV o ∧ DoubP a b g J o) (by kernel_rfl) (by kernel_rfl) (Nat.le_refl _) (Below.refl _ _) ?_
  simp only [List.take_succ_cons, List.take_zero, List.drop_succ_cons, List.drop_zero]
  (repeat (refine grow_quiet (by rfl) (by rfl) (by rfl) ?_; intro K hK; go_big_quiet_op; go_big_quiet_on))
  rw [e5.out, e6.out, e7.out]
  refine grow_new (by rfl) (fun b => .slice (some ⟨b, 0, none⟩) 1 1) 3 #[.int .i64 (J : Nat)] (fun _ => by go_simp) (fun _ => rfl) (Nat.le_refl _) fun bI hbI => ?_
  simp only [Act.put, List.setIfInBounds_toArray, List.set_cons_zero, List.set_cons_succ]
  (repeat (refine grow_quiet (by rfl) (by rfl) (by rfl) ?_; intro K hK; go_big_quiet_op; go_big_quiet_on))
  refine grow_call (by rfl) (by rfl) (fun u v v' hb h => ?_) (fun wq hbq _ => ?_) fun u hu => ?_
  · exact own_keep h (.of_below (K := fun _ => False) hb) fun _ _ h => h
  · go_simp
    refine ⟨rfl, (lettersOf_any a.al wq).mono ?_⟩
    rintro e w5 ⟨v, rfl, ho, hb5⟩
    exact ⟨v, rfl, hb5, own_base ho hbq.size⟩
  simp only [Act.put, List.setIfInBounds_toArray, List.set_cons_zero, List.set_cons_succ]
  (repeat (refine grow_quiet (by rfl) (by rfl) (by rfl) ?_; intro K hK; go_big_quiet_op; go_big_quiet_on))
  refine grow_call (by rfl) (by rfl) (fun v x x' hb h => h) (fun wq hbq hfx => ?_) fun u2 hu2 => ?_
  · have hlet : OwnNats wq w4.heap.size u (letters a.al) := hfx _ List.mem_cons_self (by kernel_rfl)
    obtain ⟨bI', eI, -, hII⟩ := hfx _ (List.mem_cons_of_mem _ List.mem_cons_self) (by kernel_rfl)
    cases eI
    have hCS := hid ((hbq.cell (World.block_lt_of_cell? _ _ hcS4'.out)).trans hcS4'.out)
    have hCT := hid ((hbq.cell (World.block_lt_of_cell? _ _ hcT4'.out)).trans hcT4'.out)
    have hCN := hid ((hbq.cell (World.block_lt_of_cell? _ _ hcN'.out)).trans hcN'.out)
    have hSq := hid (hS5.out.later hbq)
    have hTq := hid (hT5.out.later hbq)
    have hgoal : GoalOk wq M (goalB a b g) 138 #[.pointer (some ⟨w1.heap.size, 0, none⟩), .pointer (some ⟨w.heap.size, 0, none⟩), .pointer (some ⟨w2.heap.size, 0, none⟩), .pointer (some ⟨w.heap.size + 1, 0, none⟩)] :=
      ⟨fun args w' => by go_simp, fun w' q hb hq => by
        have hbb := hbq.trans (hb.mono hbq.size)
        have x1 := hn3.out
        have x2 := hm3.out
        exact bothGoal_any a b g fg cg hg.out B B' d d' w1.heap.size w.heap.size w2.heap.size (w.heap.size + 1) q w' (by rw [x1, ← hM.out]; exact hq) (by omega) hm1 hm12 (by omega) (ha4.out.later hbb).acc (hbb4.out.later hbb).acc (hV1.out w' hbb) (hS1.out w' hbb)
          ((hbb.cell (World.block_lt_of_cell? _ _ hcN'.out)).trans hcN'.out) (hU1.out w' hbb)⟩
    have hnext := bothNext_ok (w := wq) hoka'.out hokb'.out hSq.out hTq.out hCS.out hCN.out hCT.out
    rw [← hM.out] at hnext
    replace hgoal := hid hgoal
    replace hnext := hid hnext
    go_simp
    refine ⟨rfl, ?_⟩
    have hIo : wq.ownsRow 0 3 1 (.slice (some ⟨bI, 0, none⟩) 1 1) [J].length (natVals [J]) := ⟨rfl, .inr ⟨bI, 1, #[.int .i64 (J : Nat)], rfl, Nat.zero_le _, hII, Nat.le_refl _, by decide, rfl, rfl⟩⟩
    refine (firstPath_any wq M (goalB a b g) 138 _ hgoal.out (letters a.al) (letters_sorted _) (fun l h => (letters_lt h).1) (fun q l => [goB a b q l]) 137 _
      hnext.out [J] (by simp) (fun n hn => by rw [List.mem_singleton] at hn; have := hJM'.out; omega) (by simp) _ u hIo (own_base hlet (Nat.zero_le _)) (by omega)).mono ?_
    rintro e w6 ⟨o, rfl, hp, hb6⟩
    exact ⟨_, rfl, hb6, o, rfl, hfin.out o hp⟩
  obtain ⟨w6', -, o, rfl, hout⟩ := hu2
  obtain ⟨Sv, Fv, hpv⟩ : ∃ Sv Fv, pathV o = .tuple #[.string Sv, .bool Fv] := ⟨_, _, rfl⟩
  rw [hpv]
  have hpv' := hid hpv
  replace hout := hid hout
  clear hpv
  simp only [Act.put, List.setIfInBounds_toArray, List.set_cons_zero, List.set_cons_succ]
  (repeat (refine grow_quiet (by rfl) (by rfl) (by rfl) ?_; intro K hK; go_big_quiet_op; go_big_quiet_on))
  refine grow_nil ?_
  intro w7 hb7 hf
  clear hf y0 y1 y2 y3
  have hB7 := hbw4.trans (hb7.mono hbw4.size)
  go_wp2_with fail
  go_ret2
  exact ⟨o, by rw [hpv'.out]; rfl, by rw [← hJ.out]; exact hout.out, hB7⟩

end Go.Proofs.YtolnlkccbndkcaaDoor

/- The program's DifferOf, SameLanguage, FirstOutside, LanguageWithin. -/
namespace Go.Proofs.YtolnlkccbndkcaaDoor
open Go.RowKit Go.BigFrame AG

theorem cmpAu_parts {a b : Au} (h : cmpAu a b = true) : auOk a = true ∧ auOk b = true ∧ a.al = b.al := by
  unfold cmpAu at h
  simpa using h
/-- No word is found if the test holds of no word. -/
theorem doub_none {a b : Au} (h : cmpAu a b = true) {g : Bool → Bool → Bool} {o : Option (List Nat)} (hp : DoubP a b g 0 o) : o = none ↔ ∀ r : List Nat, (∀ l ∈ r, l ∈ letters a.al) → g (accA a r) (accA b r) = false := by
  obtain ⟨h1, h2, h3⟩ := cmpAu_parts h
  have key : ∀ r : List Nat, goalB a b g (runA a 0 r * b.nx.length + runA b 0 r) = g (accA a r) (accA b r) := fun r => by
    obtain ⟨e1, e2⟩ := pair_div (q := runA a 0 r) (runA_lt h2 r)
    unfold goalB accA
    rw [e1, e2]
  unfold DoubP at hp
  constructor
  · rintro rfl r hr
    have := hp r _ ((RW_both h2 r _).2 ⟨hr, rfl⟩)
    dsimp only at this
    rw [key] at this
    simpa using this
  · intro hn
    cases o with
    | none => rfl
    | some r =>
      obtain ⟨m, hm, hg⟩ := hp.1
      obtain ⟨hr, rfl⟩ := (RW_both h2 r m).1 hm
      rw [key, hn r hr] at hg
      cases hg
def sameP (a b : Au) : Prop := cmpAu a b = true ∧ ∀ r : List Nat, (∀ l ∈ r, l ∈ letters a.al) → accA a r = accA b r
noncomputable def sameLB (a b : Au) : Bool := @decide (sameP a b) (Classical.propDecidable _)
theorem sameLB_iff {a b : Au} : sameLB a b = true ↔ sameP a b := by unfold sameLB; exact @decide_eq_true_iff _ (Classical.propDecidable _)
def FoundP (a b : Au) (g : Bool → Bool → Bool) (o : Option (List Nat)) : Prop := (cmpAu a b = true → DoubP a b g 0 o) ∧ (cmpAu a b = false → o = none)
def FoundPost (a b : Au) (g : Bool → Bool → Bool) (w : World) (e : Ending) (w' : World) : Prop := ∃ o, e = .returned (pathV o) ∧ FoundP a b g o ∧ Below w.heap.size w w'
theorem same_found {a b : Au} {o : Option (List Nat)} (h : FoundP a b (fun x y => x != y) o) : sameLB a b = (cmpAu a b && !o.isSome) := by
  cases hc : cmpAu a b
  · rw [Bool.false_and, ← Bool.not_eq_true, sameLB_iff]
    intro hs
    rw [hs.1] at hc
    cases hc
  · have := doub_none hc (h.1 hc)
    rw [Bool.true_and, Bool.eq_iff_iff, sameLB_iff]
    unfold sameP
    have e : (!o.isSome) = true ↔ o = none := by cases o <;> simp
    rw [e, this]
    constructor
    · rintro ⟨_, h2⟩ r hr
      rw [h2 r hr]
      simp
    · intro h2
      exact ⟨hc, fun r hr => by simpa using h2 r hr⟩

set_option maxRecDepth 100000 in
theorem difFnFn_ok : BoolFn (fun x y => x != y) 158 #[] := by
  refine ⟨fun args w' => by go_simp, fun w' x y => ?_⟩
  cases x <;> cases y <;>
  · go_enter Tryd.func158, Tryd.ntmps158
    go_wp2
    go_ret
    exact ⟨rfl, Below.refl _ _⟩
set_option maxRecDepth 100000 in
set_option maxHeartbeats 4000000 in
theorem implDifferOf_any (a b : Au) (A B A' B' : Option Addr) (c d c' d' : Nat) (w : World) (ha : AuAt w A c B d a) (hb : AuAt w A' c' B' d' b) :
    Calls Tryd.prog 101 #[a.val A c B d, b.val A' c' B' d'] w (FoundPost a b (fun x y => x != y) w) := by
  obtain ⟨w0, hw0, hz0, hB0, hS, hU⟩ := boxed2 w #[Value.int IntKind.i64 a.al, Value.slice A a.nx.length c, Value.slice B a.ac.length d] 32 #[Value.int IntKind.i64 b.al, Value.slice A' b.nx.length c', Value.slice B' b.ac.length d'] 32
  have ha0 := hid (ha.later hB0)
  have hb0 := hid (hb.later hB0)
  have p0 := hS 0 _ rfl _ (Below.refl _ _)
  have p1 := hS 1 _ rfl _ (Below.refl _ _)
  have p2 := hS 2 _ rfl _ (Below.refl _ _)
  have q0 := hU 0 _ rfl _ (Below.refl _ _)
  have q1 := hU 1 _ rfl _ (Below.refl _ _)
  have q2 := hU 2 _ rfl _ (Below.refl _ _)
  replace ha := hid ha
  replace hb := hid hb
  unfold AG.Au.val
  go_enter Tryd.func101, Tryd.ntmps101
  go_wp2_with fail
  refine (cmp2_any a b A B A' B' c d c' d' w0 ha0.out hb0.out).mono ?_
  rintro e w1 ⟨rfl, hb1⟩
  have hB1 := hB0.trans (hb1.mono hB0.size)
  have hC1 := hb1.mono hz0
  clear p0 p1 p2 q0 q1 q2
  cases hc : cmpAu a b
  · have hc' := hid hc
    clear hc
    go_wp2_with fail
    go_ret2
    exact ⟨none, rfl, ⟨fun h => (by rw [hc'.out] at h; cases h), fun _ => rfl⟩, hB1⟩
  obtain ⟨k1, k2, k3⟩ := cmpAu_parts hc
  have hc' := hid hc
  clear hc
  have z1 := ((auOk_iff a).1 k1).2.1
  have z2 := ((auOk_iff b).1 k2).2.1
  replace k1 := hid k1
  replace k2 := hid k2
  replace k3 := hid k3
  have p0 := hS 0 _ rfl _ hC1
  have p1 := hS 1 _ rfl _ hC1
  have p2 := hS 2 _ rfl _ hC1
  have q0 := hU 0 _ rfl _ hC1
  have q1 := hU 1 _ rfl _ hC1
  have q2 := hU 2 _ rfl _ hC1
  go_wp2_with fail
  refine (firstOfBoth_any a b A B A' B' c d c' d' 0 0 (fun x y => x != y) 158 #[] w1 k1.out k2.out (by omega) (by omega) difFnFn_ok (ha0.out.later hb1) (hb0.out.later hb1)).mono ?_
  rintro e w2 ⟨o, rfl, hout, hb2⟩
  rw [Nat.zero_mul, Nat.zero_add] at hout
  obtain ⟨Sv, Fv, hpv⟩ : ∃ Sv Fv, pathV o = .tuple #[.string Sv, .bool Fv] := ⟨_, _, rfl⟩
  rw [hpv]
  have hpv' := hid hpv
  replace hout := hid hout
  have hB2 := hB1.trans (hb2.mono hB1.size)
  clear hpv p0 p1 p2 q0 q1 q2
  go_wp2_with fail
  go_ret2
  exact ⟨o, by rw [hpv'.out]; rfl, ⟨fun _ => hout.out, fun h => (by rw [hc'.out] at h; cases h)⟩, hB2⟩

set_option maxRecDepth 100000 in
theorem outFnFn_ok : BoolFn (fun x y => x && !y) 67 #[] := by
  refine ⟨fun args w' => by go_simp, fun w' x y => ?_⟩
  cases x <;> cases y <;>
  · go_enter Tryd.func67, Tryd.ntmps67
    go_wp2
    go_ret
    exact ⟨rfl, Below.refl _ _⟩
set_option maxRecDepth 100000 in
set_option maxHeartbeats 4000000 in
theorem implFirstOutside_any (a b : Au) (A B A' B' : Option Addr) (c d c' d' : Nat) (w : World) (ha : AuAt w A c B d a) (hb : AuAt w A' c' B' d' b) :
    Calls Tryd.prog 19 #[a.val A c B d, b.val A' c' B' d'] w (FoundPost a b (fun x y => x && !y) w) := by
  obtain ⟨w0, hw0, hz0, hB0, hS, hU⟩ := boxed2 w #[Value.int IntKind.i64 a.al, Value.slice A a.nx.length c, Value.slice B a.ac.length d] 32 #[Value.int IntKind.i64 b.al, Value.slice A' b.nx.length c', Value.slice B' b.ac.length d'] 32
  have ha0 := hid (ha.later hB0)
  have hb0 := hid (hb.later hB0)
  have p0 := hS 0 _ rfl _ (Below.refl _ _)
  have p1 := hS 1 _ rfl _ (Below.refl _ _)
  have p2 := hS 2 _ rfl _ (Below.refl _ _)
  have q0 := hU 0 _ rfl _ (Below.refl _ _)
  have q1 := hU 1 _ rfl _ (Below.refl _ _)
  have q2 := hU 2 _ rfl _ (Below.refl _ _)
  replace ha := hid ha
  replace hb := hid hb
  unfold AG.Au.val
  go_enter Tryd.func19, Tryd.ntmps19
  go_wp2_with fail
  refine (cmp2_any a b A B A' B' c d c' d' w0 ha0.out hb0.out).mono ?_
  rintro e w1 ⟨rfl, hb1⟩
  have hB1 := hB0.trans (hb1.mono hB0.size)
  have hC1 := hb1.mono hz0
  clear p0 p1 p2 q0 q1 q2
  cases hc : cmpAu a b
  · have hc' := hid hc
    clear hc
    go_wp2_with fail
    go_ret2
    exact ⟨none, rfl, ⟨fun h => (by rw [hc'.out] at h; cases h), fun _ => rfl⟩, hB1⟩
  obtain ⟨k1, k2, k3⟩ := cmpAu_parts hc
  have hc' := hid hc
  clear hc
  have z1 := ((auOk_iff a).1 k1).2.1
  have z2 := ((auOk_iff b).1 k2).2.1
  replace k1 := hid k1
  replace k2 := hid k2
  replace k3 := hid k3
  have p0 := hS 0 _ rfl _ hC1
  have p1 := hS 1 _ rfl _ hC1
  have p2 := hS 2 _ rfl _ hC1
  have q0 := hU 0 _ rfl _ hC1
  have q1 := hU 1 _ rfl _ hC1
  have q2 := hU 2 _ rfl _ hC1
  go_wp2_with fail
  refine (firstOfBoth_any a b A B A' B' c d c' d' 0 0 (fun x y => x && !y) 67 #[] w1 k1.out k2.out (by omega) (by omega) outFnFn_ok (ha0.out.later hb1) (hb0.out.later hb1)).mono ?_
  rintro e w2 ⟨o, rfl, hout, hb2⟩
  rw [Nat.zero_mul, Nat.zero_add] at hout
  obtain ⟨Sv, Fv, hpv⟩ : ∃ Sv Fv, pathV o = .tuple #[.string Sv, .bool Fv] := ⟨_, _, rfl⟩
  rw [hpv]
  have hpv' := hid hpv
  replace hout := hid hout
  have hB2 := hB1.trans (hb2.mono hB1.size)
  clear hpv p0 p1 p2 q0 q1 q2
  go_wp2_with fail
  go_ret2
  exact ⟨o, by rw [hpv'.out]; rfl, ⟨fun _ => hout.out, fun h => (by rw [hc'.out] at h; cases h)⟩, hB2⟩

set_option maxRecDepth 100000 in
set_option maxHeartbeats 4000000 in
theorem implSameLanguage_any (a b : Au) (A B A' B' : Option Addr) (c d c' d' : Nat) (w : World) (ha : AuAt w A c B d a) (hb : AuAt w A' c' B' d' b) :
    Calls Tryd.prog 39 #[a.val A c B d, b.val A' c' B' d'] w (fun e w' => e = .returned (.bool (sameLB a b)) ∧ Below w.heap.size w w') := by
  obtain ⟨w0, hw0, hz0, hB0, hS, hU⟩ := boxed2 w #[Value.int IntKind.i64 a.al, Value.slice A a.nx.length c, Value.slice B a.ac.length d] 32 #[Value.int IntKind.i64 b.al, Value.slice A' b.nx.length c', Value.slice B' b.ac.length d'] 32
  have ha0 := hid (ha.later hB0)
  have hb0 := hid (hb.later hB0)
  have p0 := hS 0 _ rfl _ (Below.refl _ _)
  have p1 := hS 1 _ rfl _ (Below.refl _ _)
  have p2 := hS 2 _ rfl _ (Below.refl _ _)
  have q0 := hU 0 _ rfl _ (Below.refl _ _)
  have q1 := hU 1 _ rfl _ (Below.refl _ _)
  have q2 := hU 2 _ rfl _ (Below.refl _ _)
  replace ha := hid ha
  replace hb := hid hb
  unfold AG.Au.val
  go_enter Tryd.func39, Tryd.ntmps39
  go_wp2_with fail
  refine (implDifferOf_any a b A B A' B' c d c' d' w0 ha0.out hb0.out).mono ?_
  rintro e w1 ⟨o, rfl, hf, hb1⟩
  obtain ⟨Sv, Fv, hpv, hFv⟩ : ∃ Sv Fv, pathV o = .tuple #[.string Sv, .bool Fv] ∧ Fv = o.isSome := ⟨_, _, rfl, rfl⟩
  rw [hpv]
  have hB1 := hB0.trans (hb1.mono hB0.size)
  have hC1 := hb1.mono hz0
  replace hf := hid hf
  replace hFv := hid hFv
  clear p0 p1 p2 q0 q1 q2 hpv
  have p0 := hS 0 _ rfl _ hC1
  have p1 := hS 1 _ rfl _ hC1
  have p2 := hS 2 _ rfl _ hC1
  have q0 := hU 0 _ rfl _ hC1
  have q1 := hU 1 _ rfl _ hC1
  have q2 := hU 2 _ rfl _ hC1
  go_wp2_with fail
  refine (cmp2_any a b A B A' B' c d c' d' w1 (ha0.out.later hb1) (hb0.out.later hb1)).mono ?_
  rintro e w2 ⟨rfl, hb2⟩
  have hB2 := hB1.trans (hb2.mono hB1.size)
  clear p0 p1 p2 q0 q1 q2
  obtain ⟨cb, hcb⟩ : ∃ cb, Hid (cb = cmpAu a b) := ⟨_, hid rfl⟩
  rw [← hcb.out]
  cases cb
  · go_wp2_with fail
    go_ret
    exact ⟨ret_bool (by rw [same_found hf.out, ← hcb.out, ← hFv.out]; simp), hB2⟩
  · go_wp2_with fail
    go_ret
    exact ⟨ret_bool (by rw [same_found hf.out, ← hcb.out, ← hFv.out]; simp), hB2⟩

set_option maxRecDepth 100000 in
set_option maxHeartbeats 4000000 in
theorem implLanguageWithin_any (a b : Au) (A B A' B' : Option Addr) (c d c' d' : Nat) (w : World) (ha : AuAt w A c B d a) (hb : AuAt w A' c' B' d' b) :
    Calls Tryd.prog 21 #[a.val A c B d, b.val A' c' B' d'] w (fun e w' => ∃ o, e = .returned (.bool (cmpAu a b && !o.isSome)) ∧ FoundP a b (fun x y => x && !y) o ∧ Below w.heap.size w w') := by
  obtain ⟨w0, hw0, hz0, hB0, hS, hU⟩ := boxed2 w #[Value.int IntKind.i64 a.al, Value.slice A a.nx.length c, Value.slice B a.ac.length d] 32 #[Value.int IntKind.i64 b.al, Value.slice A' b.nx.length c', Value.slice B' b.ac.length d'] 32
  have ha0 := hid (ha.later hB0)
  have hb0 := hid (hb.later hB0)
  have p0 := hS 0 _ rfl _ (Below.refl _ _)
  have p1 := hS 1 _ rfl _ (Below.refl _ _)
  have p2 := hS 2 _ rfl _ (Below.refl _ _)
  have q0 := hU 0 _ rfl _ (Below.refl _ _)
  have q1 := hU 1 _ rfl _ (Below.refl _ _)
  have q2 := hU 2 _ rfl _ (Below.refl _ _)
  replace ha := hid ha
  replace hb := hid hb
  unfold AG.Au.val
  go_enter Tryd.func21, Tryd.ntmps21
  go_wp2_with fail
  refine (implFirstOutside_any a b A B A' B' c d c' d' w0 ha0.out hb0.out).mono ?_
  rintro e w1 ⟨o, rfl, hf, hb1⟩
  obtain ⟨Sv, Fv, hpv, hFv⟩ : ∃ Sv Fv, pathV o = .tuple #[.string Sv, .bool Fv] ∧ Fv = o.isSome := ⟨_, _, rfl, rfl⟩
  rw [hpv]
  have hB1 := hB0.trans (hb1.mono hB0.size)
  have hC1 := hb1.mono hz0
  replace hf := hid hf
  replace hFv := hid hFv
  clear p0 p1 p2 q0 q1 q2 hpv
  have p0 := hS 0 _ rfl _ hC1
  have p1 := hS 1 _ rfl _ hC1
  have p2 := hS 2 _ rfl _ hC1
  have q0 := hU 0 _ rfl _ hC1
  have q1 := hU 1 _ rfl _ hC1
  have q2 := hU 2 _ rfl _ hC1
  go_wp2_with fail
  refine (cmp2_any a b A B A' B' c d c' d' w1 (ha0.out.later hb1) (hb0.out.later hb1)).mono ?_
  rintro e w2 ⟨rfl, hb2⟩
  have hB2 := hB1.trans (hb2.mono hB1.size)
  clear p0 p1 p2 q0 q1 q2
  obtain ⟨cb, hcb⟩ : ∃ cb, Hid (cb = cmpAu a b) := ⟨_, hid rfl⟩
  rw [← hcb.out]
  cases cb
  · go_wp2_with fail
    go_ret
    exact ⟨o, ret_bool (by rw [← hcb.out, ← hFv.out]; simp), hf.out, hB2⟩
  · go_wp2_with fail
    go_ret
    exact ⟨o, ret_bool (by rw [← hcb.out, ← hFv.out]; simp), hf.out, hB2⟩

end Go.Proofs.YtolnlkccbndkcaaDoor
