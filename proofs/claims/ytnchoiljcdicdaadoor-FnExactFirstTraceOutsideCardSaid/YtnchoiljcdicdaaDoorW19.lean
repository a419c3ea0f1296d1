/- The reference's FirstTraceOutside. -/
import Derived.Test.YtnchoiljcdicdaaDoorW14
import Derived.Test.YtnchoiljcdicdaaDoorW15
import Derived.Test.YtnchoiljcdicdaaDoorOwn
import Derived.Test.YtnchoiljcdicdaaDoorMathF
import Derived.Test.YtnchoiljcdicdaaDoorGrow
namespace Go.Proofs.YtnchoiljcdicdaaDoor
open Go.RowKit Go.BigFrame AG

theorem infoPair : (Tryd.prog.info? 46).map (fun i => (i.zero, i.size, i.bytes)) = some (some (.agg #[.int .i64 0, .int .i64 0]), 2, 16) := by kernel_rfl
theorem infoStr : (Tryd.prog.info? 9).map (fun i => (i.zero, i.size, i.bytes)) = some (some (.string ⟨#[]⟩), 1, 16) := by kernel_rfl

theorem below_after {a c x : World} (h' : Below c.heap.size c x) (h : Below a.heap.size a c) : Below a.heap.size a x := h.trans (h'.mono h.size)

theorem below_alloc_own {a c : World} (h : Below a.heap.size a c) (o : Obj) : Below a.heap.size a (c.alloc o) := h.alloc h.size o

/-- What the search holds: seen pairs, their words. -/
structure Srch (s t : Sy) (B : Nat) (wr : World) (sv wv : Value) (ps : List (Nat × Nat)) (ws : List (List Nat)) (i k : Nat) : Prop where
  own1 : wr.ownsRow B 46 2 sv ps.length (pairCells ps)
  own2 : wr.ownsRow B 9 1 wv ws.length (ws.map fun r => Value.string (wordS r))
  ne : sv.ownBlock ≠ wv.ownBlock
  pb : PB s t (letters s.al) ps ws i k
  pre : ∀ j (hj : j < ps.length), j < i → ps[j].2 ≠ 0
  pos : 0 < ps.length

theorem PairsAt.later {w w' : World} {A : Option Addr} {ps : List (Nat × Nat)} (h : PairsAt w w.heap.size A ps) (hb : Below w.heap.size w w') : PairsAt w' w'.heap.size A ps := fun hl => by
  obtain ⟨b, o, hA, hb', hE⟩ := h hl
  exact ⟨b, o, hA, Nat.lt_of_lt_of_le hb' hb.size, fun i hi => by rw [hb.cell (by simpa using hb'), hb.cell (by simpa using hb')]; exact hE i hi⟩

theorem Blk.news {w : World} {g : Nat} {T : TypeId} {x : Value} (h : w.heap[g]? = some (.cells #[x] T (0, 0))) : ∀ j u, [x][j]? = some u → w.cell? ((⟨g, 0, none⟩ : Addr).add j) = some u := by
  intro j u hj
  match j, hj with
  | 0, hj =>
    simp at hj
    subst hj
    simp [Addr.add, World.cell?, h]

theorem cell_two_new (w : World) (x y : Value) (t : TypeId) : ∀ j u, [x, y][j]? = some u → (w.alloc (.cells #[x, y] t)).cell? ((⟨w.heap.size, 0, none⟩ : Addr).add j) = some u := by
  intro j u hj
  match j, hj with
  | 0, hj =>
    simp at hj
    subst hj
    simp [Addr.add]
  | 1, hj =>
    simp at hj
    subst hj
    simp [Addr.add]

theorem own_later {w w' : World} {base : Nat} {e : TypeId} {size : Nat} {v : Value} {n : Nat} {xs : List Value} (h : w.ownsRow base e size v n xs) (hb : Below w.heap.size w w') : w'.ownsRow base e size v n xs :=
  h.kept (row := none) ⟨hb.os, hb.tape, hb.output, hb.size, fun k hk _ => hb.block k hk⟩ (by cases v.ownBlock; exact .inl rfl; exact .inr (by simp))

theorem Srch.later {s t : Sy} {B : Nat} {wr w' : World} {sv wv : Value} {ps : List (Nat × Nat)} {ws : List (List Nat)} {i k k' : Nat} (h : Srch s t B wr sv wv ps ws i k) (hb : Below wr.heap.size wr w') (hp : PB s t (letters s.al) ps ws i k') : Srch s t B w' sv wv ps ws i k' :=
  ⟨own_later h.own1 hb, own_later h.own2 hb, h.ne, hp, h.pre, h.pos⟩

theorem Srch.add {s t : Sy} {B : Nat} {wr w2 w8 w9 w10 w11 : World} {sv wv v9 v11 : Value} {ps : List (Nat × Nat)} {ws : List (List Nat)} {i k Z V l : Nat} {o1 : Obj} {S : ByteArray} (h : Srch s t B wr sv wv ps ws i k) (hB : Below B w2 wr) (hBs : B ≤ w2.heap.size)
    (hi : i < ps.length) (hi' : i < ws.length) (hk : k < (letters s.al).length) (hst : stepP s t ps[i] (letters s.al)[k] = (Z, V)) (hZ : Z ≠ 0) (hnew : (Z, V) ∉ ps) (hl : l = (letters s.al)[k]) (hS : S = wordS (l :: ws[i])) (h8 : Below wr.heap.size wr w8)
    (hO9 : w9.ownsRow B 46 2 v9 (ps.length + 1) (pairCells ps ++ [.int .i64 (Z : Nat), .int .i64 (V : Nat)])) (hg9 : (w8.alloc o1).grownBy w9 sv.ownBlock) (hat9 : v9.ownBlock = sv.ownBlock ∨ v9.ownBlock = some (w8.alloc o1).heap.size) (h10 : Below w9.heap.size w9 w10)
    (hO11 : w11.ownsRow B 9 1 v11 (ws.length + 1) (ws.map (fun r => Value.string (wordS r)) ++ [.string S])) (hg11 : w10.grownBy w11 wv.ownBlock) (hat11 : v11.ownBlock = wv.ownBlock ∨ v11.ownBlock = some w10.heap.size) :
    Srch s t B w11 v9 v11 (ps ++ [(Z, V)]) (ws ++ [l :: ws[i]]) i (k + 1) ∧ Below B w2 w11 := by
  have z8 := h8.size
  have z9 := hg9.size
  have z10 := h10.size
  have z11 := hg11.size
  simp only [World.size_alloc] at z9 hat9
  have hneW : v9.ownBlock ≠ wv.ownBlock := by
    rcases hat9 with e | e
    · rw [e]; exact h.ne
    · rw [e]
      intro e'
      have := (h.own2.lt _ e'.symm).2
      omega
  have hO1 : w11.ownsRow B 46 2 v9 (ps.length + 1) (pairCells ps ++ [.int .i64 (Z : Nat), .int .i64 (V : Nat)]) := (own_later hO9 h10).kept hg11 (.inr hneW)
  have hp := h.pb.add (letters_sorted _) hi hi' hk (by rw [hst]; exact hZ) (by rw [hst]; exact hnew)
  rw [hst, ← hl] at hp
  refine ⟨⟨?_, ?_, ?_, hp, ?_, by simp⟩, ?_⟩
  · have : (ps ++ [(Z, V)]).length = ps.length + 1 := by simp
    rw [this, pairCells_append]
    exact hO1
  · have : (ws ++ [l :: ws[i]]).length = ws.length + 1 := by simp
    rw [this, List.map_append, List.map_cons, List.map_nil, ← hS]
    exact hO11
  · intro e
    rcases hat11 with e' | e'
    · exact hneW (e.trans e')
    · have := (hO9.lt _ (e.trans e')).2
      omega
  · intro j hj hji
    have hj' : j < ps.length := by omega
    rw [List.getElem_append_left hj']
    exact h.pre j hj' hji
  · have b8 : Below B w2 (w8.alloc o1) := (hB.trans (h8.mono (Nat.le_trans hBs hB.size))).alloc (by have := hB.size; omega) _
    have b9 : Below B w2 w9 := b8.grown hg9 (by have := b8.size; omega) (fun k hk => (h.own1.lt k hk).1)
    have b10 : Below B w2 w10 := b9.trans (h10.mono (by have := b9.size; omega))
    exact b10.grown hg11 (by have := b10.size; omega) (fun k hk => (h.own2.lt k hk).1)

/-- What the search for the first trace of a that is none of b finds. -/
def IsFirst (s t : Sy) (o : Option (List Nat)) : Prop :=
  if cmpOk s t = true then
    match o with
    | some r => FirstW pI (letters s.al) (pN s t) pG r
    | none => ∀ q n, RW pI (letters s.al) (pN s t) q n → ¬ pG n
  else o = none
/-- .. as the two results. -/
def outV (o : Option (List Nat)) : Value := .tuple #[.string (match o with | some r => wordS r | none => ⟨#[]⟩), .bool o.isSome]

set_option maxRecDepth 100000 in
set_option maxHeartbeats 8000000 in
theorem specFirstTraceOutside_any (s t : Sy) (A B : Option Addr) (c d : Nat) (w : World) (hl : s.es.length ≤ c) (hc : c ≤ 9223372036854775807) (hm : t.es.length ≤ d) (hd : d ≤ 9223372036854775807) (hr : EdsAt w w.heap.size A s.es) (hs : EdsAt w w.heap.size B t.es) :
    Calls Tryd.prog 12 #[s.val A c, t.val B d] w fun e w' => ∃ o, e = .returned (outV o) ∧ IsFirst s t o ∧ Below w.heap.size w w' := by
  unfold Sy.val
  obtain ⟨j2, ha, ha0, ha1, ha2⟩ := info_parts infoPair
  obtain ⟨j1, hs', hs0', hs1', hs2'⟩ := info_parts infoStr
  replace hr := hid hr
  replace hs := hid hs
  go_enter Tryd.func12, Tryd.ntmps12
  go_wp2_with fail
  obtain ⟨w0, hw0, hz0, hB0, hS, hT⟩ := boxed2 w #[Value.int IntKind.i64 s.al, Value.int IntKind.i64 s.st, Value.slice A s.es.length c] 29 #[Value.int IntKind.i64 t.al, Value.int IntKind.i64 t.st, Value.slice B t.es.length d] 29
  rw [hw0]
  clear hw0
  have p0 := hS 0 _ rfl _ (Below.refl _ _)
  have p1 := hS 1 _ rfl _ (Below.refl _ _)
  have p2 := hS 2 _ rfl _ (Below.refl _ _)
  have q0 := hT 0 _ rfl _ (Below.refl _ _)
  have q1 := hT 1 _ rfl _ (Below.refl _ _)
  have q2 := hT 2 _ rfl _ (Below.refl _ _)
  have hr0 := hid (hr.out.later hB0)
  have hs0 := hid (hs.out.later hB0)
  go_wp2_with fail
  refine (l6Comparable_any s t A B c d w0 hl hc hm hd hr0.out hs0.out).mono ?_
  rintro e w1 ⟨rfl, hb1'⟩
  have b1 := hb1'.mono hz0
  clear p0 p1 p2 q0 q1 q2
  have B1 : Below w.heap.size w w1 := hB0.trans (b1.mono (by omega))
  cases hC : cmpOk s t
  · replace hC := hid hC
    go_wp2_with fail
    go_ret2
    exact ⟨none, rfl, by unfold IsFirst; rw [hC.out]; rfl, B1⟩
  · replace hC := hid hC
    have p0 := hS 0 _ rfl _ b1
    go_wp2_with fail
    refine (l1Letters_any s.al w1).mono ?_
    rintro e w2 ⟨vl, rfl, hown, hb2⟩
    have z1 := hb1'.size
    have b2 := b1.trans (hb2.mono (by omega))
    go_wp2_with fail
    obtain ⟨w3, hw3, hz3, hB3, hX, hY⟩ := boxed2 w2 #[Value.int IntKind.i64 1, Value.int IntKind.i64 1] 46 #[Value.string ⟨#[]⟩] 9
    rw [hw3]
    have hst : Srch s t w2.heap.size w3 (.slice (some ⟨w2.heap.size, 0, none⟩) 1 1) (.slice (some ⟨w2.heap.size + 1, 0, none⟩) 1 1) [(1, 1)] [[]] 0 0 := by
      refine ⟨⟨rfl, .inr ⟨w2.heap.size, 1, #[Value.int IntKind.i64 1, Value.int IntKind.i64 1], rfl, Nat.le_refl _, ?_, Nat.le_refl _, by decide, rfl, rfl⟩⟩, ⟨rfl, .inr ⟨w2.heap.size + 1, 1, #[Value.string ⟨#[]⟩], rfl, by omega, ?_, Nat.le_refl _, by decide, rfl, rfl⟩⟩, by simp [Value.ownBlock], PB.begin, fun j hj h => by omega, by simp⟩
      · rw [← hw3, Below.heap_alloc _ _ _ (by simp)]
        exact heap_alloc_self _ _
      · rw [← hw3]
        have := heap_alloc_self (w2.alloc (Obj.cells #[Value.int IntKind.i64 1, Value.int IntKind.i64 1] 46)) (Obj.cells #[Value.string ⟨#[]⟩] 9)
        simpa using this
    clear hw3 hX hY
    replace hst := hid hst
    have hb3 : Below w2.heap.size w2 w3 := hB3
    have z2 := hb2.size
    have hsy := hid (show sysOk s = true ∧ sysOk t = true from by
      have := hC.out
      unfold cmpOk at this
      simp only [Bool.and_eq_true] at this
      exact ⟨this.1, this.2.1⟩)
    obtain ⟨N, hN⟩ : ∃ N : Nat, Hid (N = 4294967297) := ⟨_, hid rfl⟩
    go_wp2_with fail
    go_loopw [7, 8, 9] (fun sv wv iv wr => ∃ ps ws, ∃ i : Nat, iv = .int .i64 i ∧ i ≤ ps.length ∧ Srch s t w2.heap.size wr sv wv ps ws i 0 ∧ Below w2.heap.size w2 wr) (fun _ _ iv _ => N - (intOf iv).toNat)
    case atStart => exact ⟨[(1, 1)], [[]], 0, rfl, by simp, hst.out, hb3⟩
    case round =>
      obtain ⟨ps, ws, i, rfl, hi, hsr, hbr⟩ := hrel
      have hpos := hsr.pos
      have hbd := hsr.pb.bound
      have hwl := hsr.pb.len
      obtain ⟨g1, c1, rfl, hg1, hg1', hc1, hc1', hP, hPc⟩ := own_pairs hsr.own1 hpos
      replace hP := hid hP
      replace hsr := hid hsr
      by_cases hlt : i < ps.length
      · obtain ⟨e0, e1⟩ := hPc i hlt
        replace hPc := hid hPc
        by_cases hgoal : ps[i].2 = 0
        · obtain ⟨g2, c2, rfl, hg2, hg2', hc2, hc2', hW⟩ := own_words hsr.out.own2 (by omega)
          have f0 := hW i (by omega)
          replace hW := hid hW
          have hF := hid (hsr.out.pb.found hlt (by omega) hsr.out.pre hgoal)
          rw [hgoal] at e1
          go_wp2
          go_ret2
          refine ⟨some ws[i], rfl, ?_, ?_⟩
          · unfold IsFirst
            rw [if_pos hC.out]
            exact hF.out
          · exact (B1.trans (hb2.mono (by omega))).trans (hbr.mono (by omega))
        · obtain ⟨Al, cl, hvl, hcl, hcl'⟩ := own_slice hown
          subst hvl
          replace hown := hid hown
          have hg0 : (((ps[i].2 : Nat) : Int) == 0) = false := by simp; omega
          replace hgoal := hid hgoal
          go_wp2_with fail
          go_loopw [7, 8, 10] (fun sv wv kv wr => ∃ ps ws, ∃ k : Nat, kv = .int .i64 k ∧ k ≤ (letters s.al).length ∧ i < ps.length ∧ (∀ h : i < ps.length, ps[i].2 ≠ 0) ∧ Srch s t w2.heap.size wr sv wv ps ws i k ∧ Below w2.heap.size w2 wr) (fun _ _ kv _ => (letters s.al).length - (intOf kv).toNat)
          case atStart => exact ⟨ps, ws, 0, rfl, by omega, hlt, fun _ => hgoal.out, hsr.out, hbr⟩
          case round =>
            clear hP hPc e0 e1 hg0 hc1 hc1' hg1' hg1 hsr hpos hbd hwl
            obtain ⟨ps, ws, k, rfl, hk, hi, hne, hsr, hbr⟩ := hrel
            have hpos := hsr.pos
            have hbd := hsr.pb.bound
            have hwl := hsr.pb.len
            by_cases hkl : k < (letters s.al).length
            · obtain ⟨gl, cl2, hve, hgl, hgl', -, -, hLc⟩ := own_nats hown.out (by omega)
              injection hve with hv1 hv2 hv3
              subst hv1
              subst hv3
              have l0 := hLc k hkl
              obtain ⟨hl6, hlH⟩ := letters_lt (List.getElem_mem hkl)
              obtain ⟨g1, c1, rfl, hg1, hg1', hc1, hc1', hP, hPc⟩ := own_pairs hsr.own1 hpos
              obtain ⟨e0, e1⟩ := hPc i hi
              obtain ⟨X, hX⟩ : ∃ X, X = ps[i].1 := ⟨_, rfl⟩
              obtain ⟨Y, hY⟩ : ∃ Y, Y = ps[i].2 := ⟨_, rfl⟩
              obtain ⟨l, hll⟩ : ∃ l, l = (letters s.al)[k] := ⟨_, rfl⟩
              rw [← hX] at e0
              rw [← hY] at e1
              rw [← hll] at l0 hl6 hlH
              replace hX := hid hX
              replace hY := hid hY
              replace hll := hid hll
              replace hP := hid hP
              replace hPc := hid hPc
              replace hLc := hid hLc
              replace hne := hid hne
              replace hsr := hid hsr
              have hzr := hbr.size
              have hF : ∀ x, Below wr.heap.size wr x → Below w2.heap.size w2 x := fun x h => hbr.trans (h.mono hzr)
              have hG : ∀ x, Below wr.heap.size wr x → Below (w.heap.size + 2) w0 x := fun x h => b2.trans ((hF x h).mono (by omega))
              have hBF : Hid (∀ x, Below wr.heap.size wr x → Below w.heap.size w x) := hid fun x h => hB0.trans ((hG x h).mono (by omega))
              have hkeep : Hid (∀ x, Below wr.heap.size wr x → x.cell? ⟨w.heap.size, 0, none⟩ = some (.int .i64 s.al) ∧ x.cell? ⟨w.heap.size, 1, none⟩ = some (.int .i64 s.st) ∧ x.cell? ⟨w.heap.size, 2, none⟩ = some (.slice A s.es.length c) ∧
                  x.cell? ⟨w.heap.size + 1, 0, none⟩ = some (.int .i64 t.al) ∧ x.cell? ⟨w.heap.size + 1, 1, none⟩ = some (.int .i64 t.st) ∧ x.cell? ⟨w.heap.size + 1, 2, none⟩ = some (.slice B t.es.length d) ∧
                  x.cell? ⟨gl, k, none⟩ = some (.int .i64 (l : Nat)) ∧ x.cell? ⟨g1, i * 2, none⟩ = some (.int .i64 (X : Nat)) ∧ x.cell? ⟨g1, i * 2 + 1, none⟩ = some (.int .i64 (Y : Nat)) ∧ Below wr.heap.size wr x) := hid fun x h =>
                ⟨hS 0 _ rfl _ (hG x h), hS 1 _ rfl _ (hG x h), hS 2 _ rfl _ (hG x h), hT 0 _ rfl _ (hG x h), hT 1 _ rfl _ (hG x h), hT 2 _ rfl _ (hG x h), by rw [(hF x h).cell (by simpa using hgl')]; exact l0, by rw [h.cell (by simpa using hg1')]; exact e0, by rw [h.cell (by simpa using hg1')]; exact e1, h⟩
              replace hF := hid hF
              replace hG := hid hG
              have hin1 := hid (sysOk_in hsy.out.1)
              have hin2 := hid (sysOk_in hsy.out.2)
              have i1 : (0 : Int) ≤ (i : Int) := by omega
              have i2 : (i : Int) < (ps.length : Int) := by omega
              have k1 : (0 : Int) ≤ (k : Int) := by omega
              have k2 : (k : Int) < ((letters s.al).length : Int) := by omega
              have hbself : Below wr.heap.size wr wr := Below.refl _ _
              have hcells := fun x => hkeep.out _ (Fam.below wr.heap.size wr x)
              have y0 := fun x => (hcells x).1
              have y1 := fun x => (hcells x).2.1
              have y2 := fun x => (hcells x).2.2.1
              have y3 := fun x => (hcells x).2.2.2.1
              have y4 := fun x => (hcells x).2.2.2.2.1
              have y5 := fun x => (hcells x).2.2.2.2.2.1
              have y6 := fun x => (hcells x).2.2.2.2.2.2.1
              have y7 := fun x => (hcells x).2.2.2.2.2.2.2.1
              have y8 := fun x => (hcells x).2.2.2.2.2.2.2.2.1
              clear hcells e0 e1 l0
              go_wp2_with fail
              refine wp_region_grow 24 wr.heap.size wr (fun j => if j = 10 then (fun u _ => u = .int .i64 (stepSet s X l : Nat)) else (fun u _ => u = .int .i64 (stepSet t Y l : Nat))) (by kernel_rfl) (by kernel_rfl) (Nat.le_refl _) (Below.refl _ _) ?_
              simp only [List.take_succ_cons, List.take_zero, List.drop_succ_cons, List.drop_zero]
              (repeat (refine grow_quiet (by rfl) (by rfl) (by rfl) ?_; intro K hK; go_big_quiet_op; go_big_quiet_on))
              refine grow_val (.int .i64 (stepSet s X l : Nat)) (by rfl) (by rfl) rfl (fun wq hbq _ => ?_) ?_
              · go_simp
                exact ⟨rfl, l2Step_any s A c X l wq hin1.out hl hc (hr.out.later (hBF.out _ hbq))⟩
              simp only [Act.put, List.setIfInBounds_toArray, List.set_cons_zero, List.set_cons_succ]
              (repeat (refine grow_quiet (by rfl) (by rfl) (by rfl) ?_; intro K hK; go_big_quiet_op; go_big_quiet_on))
              refine grow_val (.int .i64 (stepSet t Y l : Nat)) (by rfl) (by rfl) rfl (fun wq hbq _ => ?_) ?_
              · go_simp
                exact ⟨rfl, l2Step_any t B d Y l wq hin2.out hm hd (hs.out.later (hBF.out _ hbq))⟩
              simp only [Act.put, List.setIfInBounds_toArray, List.set_cons_zero, List.set_cons_succ]
              (repeat (refine grow_quiet (by rfl) (by rfl) (by rfl) ?_; intro K hK; go_big_quiet_op; go_big_quiet_on))
              refine grow_new (by rfl) (fun b => .pointer (some ⟨b, 0, none⟩)) 46 #[.int .i64 0, .int .i64 0] (fun _ => by go_simp) (fun _ => rfl) (Nat.le_refl _) fun g hg => ?_
              simp only [Act.put, List.setIfInBounds_toArray, List.set_cons_zero, List.set_cons_succ]
              refine grow_nil ?_
              intro w6 hb6 hf
              obtain ⟨g', hge, -, hblk⟩ := hf _ List.mem_cons_self
              cases hge
              clear hf y0 y1 y2 y3 y4 y5 y6 y7 y8 i1 i2 k1 k2 hbself
              obtain ⟨Z, hZ⟩ : ∃ Z, Z = stepSet s X l := ⟨_, rfl⟩
              obtain ⟨V, hV⟩ : ∃ V, V = stepSet t Y l := ⟨_, rfl⟩
              rw [← hZ, ← hV]
              replace hZ := hid hZ
              replace hV := hid hV
              have hblk' : Blk w6 g 46 #[.int .i64 0, .int .i64 0] := hblk
              clear hblk
              have c0 := hblk'.cell 0
              have c1 := hblk'.cell 1
              have z0 := hblk'.frozen 0
              have z1' := hblk'.frozen 1
              simp only [List.getElem?_toArray, List.getElem?_cons_zero, List.getElem?_cons_succ] at c0 c1
              have hg6 := hblk'.lt
              replace hblk' := hid hblk'
              have hstep : Hid (stepP s t ps[i] (letters s.al)[k] = (Z, V)) := hid (by unfold stepP; rw [← hX.out, ← hY.out, ← hll.out, hZ.out, hV.out])
              by_cases hZ0 : Z = 0
              · have hzb : (((Z : Nat) : Int) != 0) = false := by simp; omega
                have hzc : (((Z : Nat) : Int) == 0) = true := by simp; omega
                replace hZ0 := hid hZ0
                go_wp2_with fail
                go_roundw
                case rel =>
                  refine ⟨ps, ws, k + 1, by go_num, by omega, hi, hne.out, hsr.out.later ?_ (hsr.out.pb.skip (letters_sorted _) hi hkl (.inl (by rw [hstep.out]; exact hZ0.out))), hbr.trans (Below.mono ?_ hzr)⟩
                  all_goals (repeat (first | exact Below.refl _ _ | assumption | refine Below.drew ?_ | refine Below.alloc ?_ (by first | omega | (simp; done) | (simp; omega)) _ | refine Below.setCell ?_ (by first | omega | (simp; done) | (simp; omega)) _))
                case measure => simp [intOf]; omega
              · go_wp2_with fail
                generalize hw7 : (w6.setCell ⟨g, 0, none⟩ (Value.int IntKind.i64 (Z : Nat))).setCell ⟨g, 1, none⟩ (Value.int IntKind.i64 (V : Nat)) = w7
                have hb7 : Below wr.heap.size wr w7 := by
                  rw [← hw7]
                  (repeat (first | exact Below.refl _ _ | assumption | refine Below.drew ?_ | refine Below.alloc ?_ (by first | omega | (simp; done) | (simp; omega)) _ | refine Below.setCell ?_ (by first | omega | (simp; done) | (simp; omega)) _))
                have hblk7 : Hid (Blk w7 g 46 #[.int .i64 (Z : Nat), .int .i64 (V : Nat)]) := hid (by rw [← hw7]; exact (hblk'.out.set_ 0 _).set_ 1 _)
                clear hw7 c0 c1 z0 z1' hb6 hblk'
                have hP7 := hid ((show PairsAt wr wr.heap.size (some ⟨g1, 0, none⟩) ps from hP.out).later hb7)
                refine (l5Find_any ps (some ⟨g1, 0, none⟩) c1 (Z, V) w7 hc1 hc1' hP7.out).mono ?_
                rintro e w8 ⟨he, hb8⟩
                have h8 : Below wr.heap.size wr w8 := hb7.trans (hb8.mono hb7.size)
                obtain ⟨F, hF⟩ : ∃ F, F = findP ps (Z, V) := ⟨_, rfl⟩
                rw [← hF] at he
                subst he
                replace hF := hid hF
                have hblk8 := hblk7.out.below hb8 hblk7.out.lt
                clear hblk7 hP7
                by_cases hF0 : F < 0
                · have hnew : Hid ((Z, V) ∉ ps) := hid ((findP_neg _ _).1 (by rw [← hF.out]; exact hF0))
                  have hg8 := hblk8.lt
                  have c0 := hblk8.cell 0
                  have c1 := hblk8.cell 1
                  simp only [List.getElem?_toArray, List.getElem?_cons_zero, List.getElem?_cons_succ] at c0 c1
                  have hO1 := own_later hsr.out.own1 h8
                  have hO2 := own_later hsr.out.own2 h8
                  replace hO1 := hid hO1
                  replace hO2 := hid hO2
                  replace hblk8 := hid hblk8
                  have hz8 := h8.size
                  go_wp2_with (at_builtin; refine wpList_append_own_at _ rfl _ _ 47 rfl w2.heap.size 46 j2 (.agg #[.int .i64 0, .int .i64 0]) 2 16 Tryd.underlying47 ha ha0 ha1 ha2 rfl (by decide) _ _ _ rfl (hO1.out.alloc _) ⟨w8.heap.size, 0, none⟩ 1 1 [.int .i64 (Z : Nat), .int .i64 (V : Nat)] rfl rfl (cell_two_new _ _ _ _) (by intro u hu; simp at hu; rcases hu with rfl | rfl <;> rfl) (by unfold maxLen; omega) (by omega) (by simp; omega) ?_; intro v9 w9 hO9 hgr9 _ hat9)
                  have hb9 : Below w2.heap.size w2 w9 := ((hbr.trans (h8.mono hzr)).alloc (by omega) _).grown hgr9 (by simp; omega) (fun k hk => (hO1.out.lt k hk).1)
                  have hO29 := (hO2.out.alloc (Obj.cells #[.int .i64 (Z : Nat), .int .i64 (V : Nat)] 46)).kept hgr9 (.inr (Ne.symm hsr.out.ne))
                  obtain ⟨g2, c2, rfl, hg2, hg2', hc2, hc2', hW⟩ := own_words hO29 (by omega)
                  have y1 : ∀ x, (Fam w9.heap.size w9 x).cell? ⟨g2, i, none⟩ = some (.string (wordS ws[i])) := fun x => by
                    rw [(Fam.below w9.heap.size w9 x).cell (by simpa using hg2')]
                    exact hW i (by omega)
                  have hb9s := hb9.size
                  have y2 : ∀ x, (Fam w9.heap.size w9 x).cell? ⟨gl, k, none⟩ = some (.int .i64 (l : Nat)) := fun x => by
                    rw [(Fam.below w9.heap.size w9 x).cell (by simp; omega), hb9.cell (by simpa using hgl'), hll.out]
                    exact hLc.out k hkl
                  have i1 : (0 : Int) ≤ (i : Int) := by omega
                  have i2 : (i : Int) < (ws.length : Int) := by omega
                  have k1 : (0 : Int) ≤ (k : Int) := by omega
                  have k2 : (k : Int) < ((letters s.al).length : Int) := by omega
                  have hwb : ¬ 9223372036854775807 < (wordS ws[i]).size + 1 := by
                    have := hsr.out.pb.wlen (j := i) (by omega)
                    rw [wordS_size]
                    omega
                  replace hW := hid hW
                  replace hO29 := hid hO29
                  replace hO9 := hid hO9
                  replace hgr9 := hid hgr9
                  replace hat9 := hid hat9
                  clear c0 c1
                  refine wp_region_grow 12 w9.heap.size w9 (fun _ u _ => u = .string ⟨#[letB l]⟩) (by kernel_rfl) (by kernel_rfl) (Nat.le_refl _) (Below.refl _ _) ?_
                  simp only [List.take_succ_cons, List.take_zero, List.drop_succ_cons, List.drop_zero]
                  (repeat (refine grow_quiet (by rfl) (by rfl) (by rfl) ?_; intro K hK; go_big_quiet_op; go_big_quiet_on))
                  refine grow_val (.string ⟨#[letB l]⟩) (by rfl) (by rfl) rfl (fun wq hbq _ => ?_) ?_
                  · go_simp
                    exact ⟨rfl, l1Text_any l hl6 wq⟩
                  simp only [Act.put, List.setIfInBounds_toArray, List.set_cons_zero, List.set_cons_succ]
                  (repeat (refine grow_quiet (by rfl) (by rfl) (by rfl) ?_; intro K hK; go_big_quiet_op; go_big_quiet_on))
                  refine grow_new (by rfl) (fun b => .slice (some ⟨b, 0, none⟩) 1 1) 9 #[.string (wordS ws[i] ++ ⟨#[letB l]⟩)] (fun _ => by go_simp) (fun _ => rfl) (Nat.le_refl _) fun g3 hg3 => ?_
                  simp only [Act.put, List.setIfInBounds_toArray, List.set_cons_zero, List.set_cons_succ]
                  refine grow_nil ?_
                  intro w10 hb10 hf
                  obtain ⟨g3', hge, -, hblk3⟩ := hf _ List.mem_cons_self
                  cases hge
                  have hnew3 := hid (Blk.news hblk3)
                  clear hblk3
                  clear hf y1 y2 i1 i2 k1 k2 hwb
                  have hO210 := hid (own_later hO29.out hb10)
                  have hz10 := hb10.size
                  go_wp2_with (at_builtin; refine wpList_append_own_at _ rfl _ _ 48 rfl w2.heap.size 9 j1 (.string ⟨#[]⟩) 1 16 Tryd.underlying48 hs' hs0' hs1' hs2' rfl (by decide) _ _ _ rfl hO210.out ⟨g3, 0, none⟩ 1 1 [.string (wordS ws[i] ++ ⟨#[letB l]⟩)] rfl rfl hnew3.out (by intro u hu; simp at hu; subst hu; rfl) (by unfold maxLen; omega) (by omega) (by omega) ?_; intro v11 w11 hO11 hgr11 _ hat11)
                  go_roundw
                  case rel =>
                    obtain ⟨hS, hBB⟩ := hsr.out.add hbr (Nat.le_refl _) hi (by omega) hkl hstep.out (by omega) hnew.out hll.out (wordS_cons _ _) h8 hO9.out hgr9.out hat9.out hb10 hO11 hgr11 hat11
                    exact ⟨_, _, k + 1, by go_num, by omega, by simp; omega, fun h => by rw [List.getElem_append_left hi]; exact hne.out hi, hS, hBB⟩
                  case measure => simp [intOf]; omega
                · have hold : Hid ((Z, V) ∈ ps) := hid (by
                    by_cases h : (Z, V) ∈ ps
                    · exact h
                    · exact absurd ((findP_neg _ _).2 h) (by rw [← hF.out]; exact hF0))
                  go_wp2_with fail
                  go_roundw
                  case rel =>
                    refine ⟨ps, ws, k + 1, by go_num, by omega, hi, hne.out, hsr.out.later ?_ (hsr.out.pb.skip (letters_sorted _) hi hkl (.inr (by rw [hstep.out]; exact hold.out))), hbr.trans (Below.mono ?_ hzr)⟩
                    all_goals (repeat (first | exact Below.refl _ _ | assumption | refine Below.drew ?_ | refine Below.alloc ?_ (by first | omega | (simp; done) | (simp; omega)) _ | refine Below.setCell ?_ (by first | omega | (simp; done) | (simp; omega)) _))
                  case measure => simp [intOf]; omega
            · replace hne := hid hne
              have hov : Hid (Srch s t w2.heap.size wr _ _ ps ws (i + 1) 0) := hid ⟨hsr.own1, hsr.own2, hsr.ne, hsr.pb.over (by omega), (fun j hj hji => by
                by_cases e : j = i
                · subst e; exact hne.out hj
                · exact hsr.pre j hj (by omega)), hsr.pos⟩
              replace hsr := hid hsr
              clear hwl hpos
              go_wp2_with fail
              go_roundw
              case rel => exact ⟨ps, ws, i + 1, by go_num, by omega, hov.out, hbr⟩
              case measure => have := hN.out; have := hsr.out.pb.bound; simp only [intOf]; omega
      · obtain rfl : i = ps.length := by omega
        have hN := hid (hsr.out.pb.none fun j hj => hsr.out.pre j hj hj)
        go_wp2
        go_ret2
        refine ⟨none, rfl, ?_, ?_⟩
        · unfold IsFirst
          rw [if_pos hC.out]
          exact hN.out
        · exact (B1.trans (hb2.mono (by omega))).trans (hbr.mono (by omega))

end Go.Proofs.YtnchoiljcdicdaaDoor
