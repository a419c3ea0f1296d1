/- Lemmas, part 5: several texts in one. -/
import Derived.Test.YtkoganldcmhopaaDoorR4
import Derived.Test.YtkoganldcmhopaaDoorR1
import Derived.Test.YtkoganldcmhopaaDoorR3
import Derived.Test.YtkoganldcmhopaaDoorR2
import Derived.Deep.DeepCutAuto
import Derived.WalkKit
set_option linter.unusedSimpArgs false
set_option linter.unusedVariables false

/- The program's Determinize; the reference's l4In and l5Index; what l6Subsets holds in memory. -/
namespace Go.Proofs.YtkoganldcmhopaaDoor
open Go.RowKit Go.BigFrame Go.Maps AG

set_option maxRecDepth 100000 in
set_option maxHeartbeats 4000000 in
theorem implDeterminize_any (s : Sy) (A : Option Addr) (c : Nat) (w : World) (hl : s.es.length ≤ c) (hc : c ≤ 9223372036854775807) (hT : Tab w) (hr : EdsAt w w.heap.size A s.es) :
    Calls Tryd.prog 19 #[s.val A c] w (PrPost w (prA s s.al) (prK s s.al)) := by
  obtain ⟨w0, hw0, hz0, hB0, hS, hU⟩ := boxed2 w #[Value.int IntKind.i64 s.al, Value.int IntKind.i64 s.st, Value.slice A s.es.length c] 30 #[Value.int IntKind.i64 0, Value.slice none 0 0, Value.slice none 0 0] 26
  have hres : Blk w0 (w.heap.size + 1) 26 #[Value.int IntKind.i64 0, Value.slice none 0 0, Value.slice none 0 0] := by
    rw [← hw0]
    have := Blk.new (w.alloc (.cells #[Value.int IntKind.i64 s.al, Value.int IntKind.i64 s.st, Value.slice A s.es.length c] 30)) 26 #[Value.int IntKind.i64 0, Value.slice none 0 0, Value.slice none 0 0]
    simpa using this
  have hr0 := hid (hr.later hB0)
  have hT0 := hid (hT.later hB0)
  have p0 := hS 0 _ rfl _ (Below.refl _ _)
  have p1 := hS 1 _ rfl _ (Below.refl _ _)
  have p2 := hS 2 _ rfl _ (Below.refl _ _)
  replace hr := hid hr
  replace hT := hid hT
  replace hres := hid hres
  unfold Sy.val
  go_enter Tryd.func19, Tryd.ntmps19
  go_wp2_with fail
  refine (implProjectSystem_any s A c s.al w0 hl hc hT0.out hr0.out).mono ?_
  rintro e w1 ⟨hb1, v1, v2, xs, rfl, hau⟩
  have hB1 := hB0.trans (hb1.mono hB0.size)
  have hres1 := hres.out.below hb1 hres.out.lt
  have q0 := hres1.cell 0
  have q1 := hres1.cell 1
  have q2 := hres1.cell 2
  have f0 := hres1.frozen 0
  have f1 := hres1.frozen 1
  have f2 := hres1.frozen 2
  simp only [List.getElem?_toArray, List.getElem?_cons_zero, List.getElem?_cons_succ] at q0 q1 q2
  clear p0 p1 p2 hw0
  have hg : w.heap.size + 1 < w0.heap.size := by omega
  have hf : Hid (∀ u v z, AuOwn (((w1.setCell ⟨w.heap.size + 1, 0, none⟩ u).setCell ⟨w.heap.size + 1, 1, none⟩ v).setCell ⟨w.heap.size + 1, 2, none⟩ z) w.heap.size v1 v2 (prA s s.al) xs) := hid fun u v z => (((hau.setFar hg u).setFar hg v).setFar hg z).base (by omega)
  obtain ⟨A1, c1, B1, d1, rfl, rfl, -⟩ := hau.at_
  replace hau := hid hau
  replace hres1 := hid hres1
  obtain ⟨a, ha⟩ : ∃ a, a = prA s s.al := ⟨_, rfl⟩
  obtain ⟨ok, hok⟩ : ∃ ok, ok = prK s s.al := ⟨_, rfl⟩
  rw [← ha] at hf ⊢
  rw [← hok]
  replace ha := hid ha
  replace hok := hid hok
  go_wp2
  refine bodyPost_ret (v := .tuple #[.agg #[.int .i64 a.al, .slice A1 a.nx.length c1, .slice B1 a.ac.length d1], .bool ok]) (by simp [results, Tryd.results19, go_sem, q0, q1, q2]) rfl ?_
  have ha' := ha.out
  have hok' := hok.out
  subst ha'
  subst hok'
  exact ⟨by (repeat (first | exact Below.refl _ _ | assumption | refine Below.drew ?_ | refine Below.alloc ?_ (by first | omega | (simp; done) | (simp; omega)) _ | refine Below.setCell ?_ (by first | omega | (simp; done) | (simp; omega)) _)), _, _, xs, rfl, hf.out _ _ _⟩

set_option maxRecDepth 100000 in
set_option maxHeartbeats 1000000 in
theorem l4In_any (ns : List Nat) (x : Nat) (A : Option Addr) (c : Nat) (w : World) (hl : ns.length ≤ c) (hc : c ≤ 9223372036854775807) (hr : NatsAt w w.heap.size A ns) :
    Calls Tryd.prog 150 #[.slice A ns.length c, .int .i64 (x : Nat)] w fun e w' => e = .returned (.bool (decide (x ∈ ns))) ∧ w = w' := by
  replace hr := hid hr
  go_enter Tryd.func150, Tryd.ntmps150
  go_wp2_with fail
  go_loopw [5] (fun i wr => ∃ k : Nat, i = .int .i64 (k : Nat) ∧ k ≤ ns.length ∧ x ∉ ns.take k ∧ w = wr) (fun i _ => ns.length - (intOf i).toNat)
  case atStart => exact ⟨0, rfl, by omega, by simp, by first | rfl | trivial⟩
  case round =>
    obtain ⟨k, rfl, hk, hn, rfl⟩ := hrel
    by_cases hlt : k < ns.length
    · obtain ⟨b, o, hA, hB, hE⟩ := hr.out (by omega)
      subst hA
      have e0 := hE k hlt
      obtain ⟨y, hy⟩ : ∃ y, Hid (y = ns[k]) := ⟨_, hid rfl⟩
      rw [← hy.out] at e0
      have k1 : (0 : Int) ≤ (k : Int) ∧ (k : Int) < (ns.length : Int) := by omega
      replace hE := hid hE
      replace hn := hid hn
      by_cases hxy : y = x
      · have hq : ((y : Int) == (x : Int)) = true := by simp; omega
        have hin : Hid (x ∈ ns) := hid (by rw [← hxy, hy.out]; exact List.getElem_mem _)
        replace hxy := hid hxy
        go_wp2
        go_ret
        exact ⟨ret_bool (decide_eq_true hin.out).symm, by first | rfl | trivial⟩
      · have hq : ((y : Int) == (x : Int)) = false := by simp; omega
        replace hxy := hid hxy
        go_wp2
        go_roundw
        case rel =>
          refine ⟨k + 1, by go_num, by omega, ?_, by first | rfl | trivial⟩
          rw [List.take_succ_eq_append_getElem hlt, List.mem_append, List.mem_singleton, ← hy.out]
          rintro (h | h)
          · exact hn.out h
          · exact hxy.out h.symm
        case measure => simp [intOf]; omega
    · rw [List.take_of_length_le (by omega)] at hn
      replace hn := hid hn
      go_wp2
      go_ret
      exact ⟨ret_bool (decide_eq_false hn.out).symm, by first | rfl | trivial⟩

set_option maxRecDepth 100000 in
set_option maxHeartbeats 1000000 in
theorem l5Index_any (ns : List Nat) (x : Nat) (A : Option Addr) (c : Nat) (w : World) (hx : x ∈ ns) (hl : ns.length ≤ c) (hc : c ≤ 9223372036854775807) (hr : NatsAt w w.heap.size A ns) :
    Calls Tryd.prog 151 #[.slice A ns.length c, .int .i64 (x : Nat)] w fun e w' => e = .returned (.int .i64 (ns.idxOf x : Nat)) ∧ w = w' := by
  have hi : ns.idxOf x < ns.length := List.idxOf_lt_length_iff.2 hx
  replace hr := hid hr
  replace hx := hid hx
  go_enter Tryd.func151, Tryd.ntmps151
  go_wp2_with fail
  go_loopw [5] (fun i wr => ∃ k : Nat, i = .int .i64 (k : Nat) ∧ k ≤ ns.idxOf x ∧ w = wr) (fun i _ => ns.length - (intOf i).toNat)
  case atStart => exact ⟨0, rfl, by omega, by first | rfl | trivial⟩
  case round =>
    obtain ⟨k, rfl, hk, rfl⟩ := hrel
    obtain ⟨b, o, hA, hB, hE⟩ := hr.out (by omega)
    subst hA
    have hlt : k < ns.length := by omega
    have e0 := hE k hlt
    obtain ⟨y, hy⟩ : ∃ y, Hid (y = ns[k]) := ⟨_, hid rfl⟩
    rw [← hy.out] at e0
    have k1 : (0 : Int) ≤ (k : Int) ∧ (k : Int) < (ns.length : Int) := by omega
    replace hE := hid hE
    by_cases hxy : y = x
    · have hq : ((y : Int) != (x : Int)) = false := by simp; omega
      have hkk : Hid (k = ns.idxOf x) := hid (by
        rcases Nat.lt_or_ge k (ns.idxOf x) with h | h
        · have h2 : ns.idxOf x ≤ k := by
            have h3 : ns = ns.take k ++ ns.drop k := (List.take_append_drop k ns).symm
            have h4 : ns.drop k = ns[k] :: ns.drop (k + 1) := List.drop_eq_getElem_cons hlt
            have h5 : ns.idxOf x ≤ (ns.take k).length := by
              conv => lhs; rw [h3, h4, ← hy.out, hxy]
              rw [List.idxOf_append]
              split
              · rename_i hm
                exact Nat.le_of_lt (List.idxOf_lt_length_iff.2 hm)
              · simp
            rw [List.length_take] at h5
            omega
          omega
        · omega)
      replace hxy := hid hxy
      go_wp2
      go_ret
      exact ⟨ret_int (by rw [← hkk.out]), by first | rfl | trivial⟩
    · have hq : ((y : Int) != (x : Int)) = true := by simp; omega
      have hkn : k ≠ ns.idxOf x := fun e => hxy (by rw [hy.out]; subst e; exact List.getElem_idxOf hlt)
      replace hxy := hid hxy
      go_wp2
      go_roundw
      case rel => exact ⟨k + 1, by go_num, by omega, by first | rfl | trivial⟩
      case measure => simp [intOf]; omega

end Go.Proofs.YtkoganldcmhopaaDoor

/- The reference's l6Comparable. -/
namespace Go.Proofs.YtkoganldcmhopaaDoor
open Go.RowKit Go.BigFrame AG

set_option maxHeartbeats 1000000 in
theorem l6Comparable_any (s t : Sy) (A B : Option Addr) (c d : Nat) (w : World) (hl : s.es.length ≤ c) (hc : c ≤ 9223372036854775807) (hm : t.es.length ≤ d) (hd : d ≤ 9223372036854775807) (hr : EdsAt w w.heap.size A s.es) (hs : EdsAt w w.heap.size B t.es) :
    Calls Tryd.prog 166 #[s.val A c, t.val B d] w fun e w' => e = .returned (.bool (cmpOk s t)) ∧ Below w.heap.size w w' := by
  unfold Sy.val
  replace hr := hid hr
  replace hs := hid hs
  have hval : Hid (cmpOk s t = (sysOk s && (sysOk t && decide (s.al = t.al)))) := hid rfl
  go_enter Tryd.func166, Tryd.ntmps166
  go_wp2_with fail
  obtain ⟨w0, hw0, hz0, hB0, hS, hT⟩ := boxed2 w #[Value.int IntKind.i64 s.al, Value.int IntKind.i64 s.st, Value.slice A s.es.length c] 30 #[Value.int IntKind.i64 t.al, Value.int IntKind.i64 t.st, Value.slice B t.es.length d] 30
  rw [hw0]
  clear hw0
  have p0 := hS 0 _ rfl _ (Below.refl _ _)
  have p1 := hS 1 _ rfl _ (Below.refl _ _)
  have p2 := hS 2 _ rfl _ (Below.refl _ _)
  have hr0 := hid (hr.out.later hB0)
  go_wp2_with fail
  refine (specSystemValid_any s A c w0 hl hc hr0.out).mono ?_
  rintro e w1 ⟨rfl, hb1⟩
  have b1 := hb1.mono hz0
  clear p0 p1 p2
  have p0 := hS 0 _ rfl _ b1
  have q0 := hT 0 _ rfl _ b1
  have q1 := hT 1 _ rfl _ b1
  have q2 := hT 2 _ rfl _ b1
  have B1 : Below w.heap.size w w1 := hB0.trans (b1.mono (by omega))
  cases hA : sysOk s
  · replace hA := hid hA
    go_wp2_with fail
    go_ret
    exact ⟨ret_bool (by rw [hval.out, hA.out]; rfl), B1⟩
  · replace hA := hid hA
    have hs1 := hid (hs.out.later B1)
    go_wp2_with fail
    refine (specSystemValid_any t B d w1 hm hd hs1.out).mono ?_
    rintro e w2 ⟨rfl, hb2⟩
    have b2 := b1.trans (hb2.mono (Nat.le_trans hz0 hb1.size))
    clear p0 q0 q1 q2
    have p0 := hS 0 _ rfl _ b2
    have q0 := hT 0 _ rfl _ b2
    have B2 : Below w.heap.size w w2 := hB0.trans (b2.mono (by omega))
    cases hB : sysOk t
    · replace hB := hid hB
      go_wp2_with fail
      go_ret
      exact ⟨ret_bool (by rw [hval.out, hA.out, hB.out]; rfl), B2⟩
    · replace hB := hid hB
      go_wp2_with fail
      go_ret
      exact ⟨ret_bool (by rw [hval.out, hA.out, hB.out, Bool.eq_iff_iff]; simp), B2⟩

end Go.Proofs.YtkoganldcmhopaaDoor

/- The reference's FirstTraceOutside. -/
namespace Go.Proofs.YtkoganldcmhopaaDoor
open Go.RowKit Go.BigFrame AG

theorem infoPair : (Tryd.prog.info? 161).map (fun i => (i.zero, i.size, i.bytes)) = some (some (.agg #[.int .i64 0, .int .i64 0]), 2, 16) := by kernel_rfl
theorem infoStr : (Tryd.prog.info? 9).map (fun i => (i.zero, i.size, i.bytes)) = some (some (.string ⟨#[]⟩), 1, 16) := by kernel_rfl

/-- What the search holds: seen pairs, their words. -/
structure Srch (s t : Sy) (B : Nat) (wr : World) (sv wv : Value) (ps : List (Nat × Nat)) (ws : List (List Nat)) (i k : Nat) : Prop where
  own1 : wr.ownsRow B 161 2 sv ps.length (pairCells ps)
  own2 : wr.ownsRow B 9 1 wv ws.length (ws.map fun r => Value.string (wordS r))
  ne : sv.ownBlock ≠ wv.ownBlock
  pb : PB s t (letters s.al) ps ws i k
  pre : ∀ j (hj : j < ps.length), j < i → ps[j].2 ≠ 0
  pos : 0 < ps.length

theorem PairsAt.later {w w' : World} {A : Option Addr} {ps : List (Nat × Nat)} (h : PairsAt w w.heap.size A ps) (hb : Below w.heap.size w w') : PairsAt w' w'.heap.size A ps := fun hl => by
  obtain ⟨b, o, hA, hb', hE⟩ := h hl
  exact ⟨b, o, hA, Nat.lt_of_lt_of_le hb' hb.size, fun i hi => by rw [hb.cell (by simpa using hb'), hb.cell (by simpa using hb')]; exact hE i hi⟩

theorem Blk.news {w : World} {g : Nat} {T : TypeId} {x : Value} (h : w.heap[g]? = some (.cells #[x] T (0, 0))) : ∀ j u, [x][j]? = some u → w.cell? ((⟨g, 0, none⟩ : Addr).add j) = some u := by
  intro j u hj
  match j, hj with
  | 0, hj =>
    simp at hj
    subst hj
    simp [Addr.add, World.cell?, h]

theorem cell_two_new (w : World) (x y : Value) (t : TypeId) : ∀ j u, [x, y][j]? = some u → (w.alloc (.cells #[x, y] t)).cell? ((⟨w.heap.size, 0, none⟩ : Addr).add j) = some u := by
  intro j u hj
  match j, hj with
  | 0, hj =>
    simp at hj
    subst hj
    simp [Addr.add]
  | 1, hj =>
    simp at hj
    subst hj
    simp [Addr.add]

theorem Srch.later {s t : Sy} {B : Nat} {wr w' : World} {sv wv : Value} {ps : List (Nat × Nat)} {ws : List (List Nat)} {i k k' : Nat} (h : Srch s t B wr sv wv ps ws i k) (hb : Below wr.heap.size wr w') (hp : PB s t (letters s.al) ps ws i k') : Srch s t B w' sv wv ps ws i k' :=
  ⟨own_later h.own1 hb, own_later h.own2 hb, h.ne, hp, h.pre, h.pos⟩

theorem Srch.add {s t : Sy} {B : Nat} {wr w2 w8 w9 w10 w11 : World} {sv wv v9 v11 : Value} {ps : List (Nat × Nat)} {ws : List (List Nat)} {i k Z V l : Nat} {o1 : Obj} {S : ByteArray} (h : Srch s t B wr sv wv ps ws i k) (hB : Below B w2 wr) (hBs : B ≤ w2.heap.size)
    (hi : i < ps.length) (hi' : i < ws.length) (hk : k < (letters s.al).length) (hst : stepP s t ps[i] (letters s.al)[k] = (Z, V)) (hZ : Z ≠ 0) (hnew : (Z, V) ∉ ps) (hl : l = (letters s.al)[k]) (hS : S = wordS (l :: ws[i])) (h8 : Below wr.heap.size wr w8)
    (hO9 : w9.ownsRow B 161 2 v9 (ps.length + 1) (pairCells ps ++ [.int .i64 (Z : Nat), .int .i64 (V : Nat)])) (hg9 : (w8.alloc o1).grownBy w9 sv.ownBlock) (hat9 : v9.ownBlock = sv.ownBlock ∨ v9.ownBlock = some (w8.alloc o1).heap.size) (h10 : Below w9.heap.size w9 w10)
    (hO11 : w11.ownsRow B 9 1 v11 (ws.length + 1) (ws.map (fun r => Value.string (wordS r)) ++ [.string S])) (hg11 : w10.grownBy w11 wv.ownBlock) (hat11 : v11.ownBlock = wv.ownBlock ∨ v11.ownBlock = some w10.heap.size) :
    Srch s t B w11 v9 v11 (ps ++ [(Z, V)]) (ws ++ [l :: ws[i]]) i (k + 1) ∧ Below B w2 w11 := by
  have z8 := h8.size
  have z9 := hg9.size
  have z10 := h10.size
  have z11 := hg11.size
  simp only [World.size_alloc] at z9 hat9
  have hneW : v9.ownBlock ≠ wv.ownBlock := by
    rcases hat9 with e | e
    · rw [e]; exact h.ne
    · rw [e]
      intro e'
      have := (h.own2.lt _ e'.symm).2
      omega
  have hO1 : w11.ownsRow B 161 2 v9 (ps.length + 1) (pairCells ps ++ [.int .i64 (Z : Nat), .int .i64 (V : Nat)]) := (own_later hO9 h10).kept hg11 (.inr hneW)
  have hp := h.pb.add (letters_sorted _) hi hi' hk (by rw [hst]; exact hZ) (by rw [hst]; exact hnew)
  rw [hst, ← hl] at hp
  refine ⟨⟨?_, ?_, ?_, hp, ?_, by simp⟩, ?_⟩
  · have : (ps ++ [(Z, V)]).length = ps.length + 1 := by simp
    rw [this, pairCells_append]
    exact hO1
  · have : (ws ++ [l :: ws[i]]).length = ws.length + 1 := by simp
    rw [this, List.map_append, List.map_cons, List.map_nil, ← hS]
    exact hO11
  · intro e
    rcases hat11 with e' | e'
    · exact hneW (e.trans e')
    · have := (hO9.lt _ (e.trans e')).2
      omega
  · intro j hj hji
    have hj' : j < ps.length := by omega
    rw [List.getElem_append_left hj']
    exact h.pre j hj' hji
  · have b8 : Below B w2 (w8.alloc o1) := (hB.trans (h8.mono (Nat.le_trans hBs hB.size))).alloc (by have := hB.size; omega) _
    have b9 : Below B w2 w9 := b8.grown hg9 (by have := b8.size; omega) (fun k hk => (h.own1.lt k hk).1)
    have b10 : Below B w2 w10 := b9.trans (h10.mono (by have := b9.size; omega))
    exact b10.grown hg11 (by have := b10.size; omega) (fun k hk => (h.own2.lt k hk).1)

/-- What the search for the first trace of a that is none of b finds. -/
def IsFirst (s t : Sy) (o : Option (List Nat)) : Prop :=
  if cmpOk s t = true then
    match o with
    | some r => FirstW pI (letters s.al) (pN s t) pG r
    | none => ∀ q n, RW pI (letters s.al) (pN s t) q n → ¬ pG n
  else o = none
/-- .. as the two results. -/
def outV (o : Option (List Nat)) : Value := .tuple #[.string (match o with | some r => wordS r | none => ⟨#[]⟩), .bool o.isSome]

set_option maxRecDepth 100000 in
set_option maxHeartbeats 8000000 in
theorem specFirstTraceOutside_any (s t : Sy) (A B : Option Addr) (c d : Nat) (w : World) (hl : s.es.length ≤ c) (hc : c ≤ 9223372036854775807) (hm : t.es.length ≤ d) (hd : d ≤ 9223372036854775807) (hr : EdsAt w w.heap.size A s.es) (hs : EdsAt w w.heap.size B t.es) :
    Calls Tryd.prog 165 #[s.val A c, t.val B d] w fun e w' => ∃ o, e = .returned (outV o) ∧ IsFirst s t o ∧ Below w.heap.size w w' := by
  unfold Sy.val
  obtain ⟨j2, ha, ha0, ha1, ha2⟩ := info_parts infoPair
  obtain ⟨j1, hs', hs0', hs1', hs2'⟩ := info_parts infoStr
  replace hr := hid hr
  replace hs := hid hs
  go_enter Tryd.func165, Tryd.ntmps165
  go_wp2_with fail
  obtain ⟨w0, hw0, hz0, hB0, hS, hT⟩ := boxed2 w #[Value.int IntKind.i64 s.al, Value.int IntKind.i64 s.st, Value.slice A s.es.length c] 30 #[Value.int IntKind.i64 t.al, Value.int IntKind.i64 t.st, Value.slice B t.es.length d] 30
  rw [hw0]
  clear hw0
  have p0 := hS 0 _ rfl _ (Below.refl _ _)
  have p1 := hS 1 _ rfl _ (Below.refl _ _)
  have p2 := hS 2 _ rfl _ (Below.refl _ _)
  have q0 := hT 0 _ rfl _ (Below.refl _ _)
  have q1 := hT 1 _ rfl _ (Below.refl _ _)
  have q2 := hT 2 _ rfl _ (Below.refl _ _)
  have hr0 := hid (hr.out.later hB0)
  have hs0 := hid (hs.out.later hB0)
  go_wp2_with fail
  refine (l6Comparable_any s t A B c d w0 hl hc hm hd hr0.out hs0.out).mono ?_
  rintro e w1 ⟨rfl, hb1'⟩
  have b1 := hb1'.mono hz0
  clear p0 p1 p2 q0 q1 q2
  have B1 : Below w.heap.size w w1 := hB0.trans (b1.mono (by omega))
  cases hC : cmpOk s t
  · replace hC := hid hC
    go_wp2_with fail
    go_ret2
    exact ⟨none, rfl, by unfold IsFirst; rw [hC.out]; rfl, B1⟩
  · replace hC := hid hC
    have p0 := hS 0 _ rfl _ b1
    go_wp2_with fail
    refine (l1Letters_any s.al w1).mono ?_
    rintro e w2 ⟨vl, rfl, hown, hb2⟩
    have z1 := hb1'.size
    have b2 := b1.trans (hb2.mono (by omega))
    go_wp2_with fail
    obtain ⟨w3, hw3, hz3, hB3, hX, hY⟩ := boxed2 w2 #[Value.int IntKind.i64 1, Value.int IntKind.i64 1] 161 #[Value.string ⟨#[]⟩] 9
    rw [hw3]
    have hst : Srch s t w2.heap.size w3 (.slice (some ⟨w2.heap.size, 0, none⟩) 1 1) (.slice (some ⟨w2.heap.size + 1, 0, none⟩) 1 1) [(1, 1)] [[]] 0 0 := by
      refine ⟨⟨rfl, .inr ⟨w2.heap.size, 1, #[Value.int IntKind.i64 1, Value.int IntKind.i64 1], rfl, Nat.le_refl _, ?_, Nat.le_refl _, by decide, rfl, rfl⟩⟩, ⟨rfl, .inr ⟨w2.heap.size + 1, 1, #[Value.string ⟨#[]⟩], rfl, by omega, ?_, Nat.le_refl _, by decide, rfl, rfl⟩⟩, by simp [Value.ownBlock], PB.begin, fun j hj h => by omega, by simp⟩
      · rw [← hw3, Below.heap_alloc _ _ _ (by simp)]
        exact heap_alloc_self _ _
      · rw [← hw3]
        have := heap_alloc_self (w2.alloc (Obj.cells #[Value.int IntKind.i64 1, Value.int IntKind.i64 1] 161)) (Obj.cells #[Value.string ⟨#[]⟩] 9)
        simpa using this
    clear hw3 hX hY
    replace hst := hid hst
    have hb3 : Below w2.heap.size w2 w3 := hB3
    have z2 := hb2.size
    have hsy := hid (show sysOk s = true ∧ sysOk t = true from by
      have := hC.out
      unfold cmpOk at this
      simp only [Bool.and_eq_true] at this
      exact ⟨this.1, this.2.1⟩)
    obtain ⟨N, hN⟩ : ∃ N : Nat, Hid (N = 4294967297) := ⟨_, hid rfl⟩
    go_wp2_with fail
    go_loopw [7, 8, 9] (fun sv wv iv wr => ∃ ps ws, ∃ i : Nat, iv = .int .i64 i ∧ i ≤ ps.length ∧ Srch s t w2.heap.size wr sv wv ps ws i 0 ∧ Below w2.heap.size w2 wr) (fun _ _ iv _ => N - (intOf iv).toNat)
    case atStart => exact ⟨[(1, 1)], [[]], 0, rfl, by simp, hst.out, hb3⟩
    case round =>
      obtain ⟨ps, ws, i, rfl, hi, hsr, hbr⟩ := hrel
      have hpos := hsr.pos
      have hbd := hsr.pb.bound
      have hwl := hsr.pb.len
      obtain ⟨g1, c1, rfl, hg1, hg1', hc1, hc1', hP, hPc⟩ := own_pairs hsr.own1 hpos
      replace hP := hid hP
      replace hsr := hid hsr
      by_cases hlt : i < ps.length
      · obtain ⟨e0, e1⟩ := hPc i hlt
        replace hPc := hid hPc
        by_cases hgoal : ps[i].2 = 0
        · obtain ⟨g2, c2, rfl, hg2, hg2', hc2, hc2', hW⟩ := own_words hsr.out.own2 (by omega)
          have f0 := hW i (by omega)
          replace hW := hid hW
          have hF := hid (hsr.out.pb.found hlt (by omega) hsr.out.pre hgoal)
          rw [hgoal] at e1
          go_wp2
          go_ret2
          refine ⟨some ws[i], rfl, ?_, ?_⟩
          · unfold IsFirst
            rw [if_pos hC.out]
            exact hF.out
          · exact (B1.trans (hb2.mono (by omega))).trans (hbr.mono (by omega))
        · obtain ⟨Al, cl, hvl, hcl, hcl'⟩ := own_slice hown
          subst hvl
          replace hown := hid hown
          have hg0 : (((ps[i].2 : Nat) : Int) == 0) = false := by simp; omega
          replace hgoal := hid hgoal
          go_wp2_with fail
          go_loopw [7, 8, 10] (fun sv wv kv wr => ∃ ps ws, ∃ k : Nat, kv = .int .i64 k ∧ k ≤ (letters s.al).length ∧ i < ps.length ∧ (∀ h : i < ps.length, ps[i].2 ≠ 0) ∧ Srch s t w2.heap.size wr sv wv ps ws i k ∧ Below w2.heap.size w2 wr) (fun _ _ kv _ => (letters s.al).length - (intOf kv).toNat)
          case atStart => exact ⟨ps, ws, 0, rfl, by omega, hlt, fun _ => hgoal.out, hsr.out, hbr⟩
          case round =>
            clear hP hPc e0 e1 hg0 hc1 hc1' hg1' hg1 hsr hpos hbd hwl
            obtain ⟨ps, ws, k, rfl, hk, hi, hne, hsr, hbr⟩ := hrel
            have hpos := hsr.pos
            have hbd := hsr.pb.bound
            have hwl := hsr.pb.len
            by_cases hkl : k < (letters s.al).length
            · obtain ⟨gl, cl2, hve, hgl, hgl', -, -, hLc⟩ := own_nats hown.out (by omega)
              injection hve with hv1 hv2 hv3
              subst hv1
              subst hv3
              have l0 := hLc k hkl
              obtain ⟨hl6, hlH⟩ := letters_lt (List.getElem_mem hkl)
              obtain ⟨g1, c1, rfl, hg1, hg1', hc1, hc1', hP, hPc⟩ := own_pairs hsr.own1 hpos
              obtain ⟨e0, e1⟩ := hPc i hi
              obtain ⟨X, hX⟩ : ∃ X, X = ps[i].1 := ⟨_, rfl⟩
              obtain ⟨Y, hY⟩ : ∃ Y, Y = ps[i].2 := ⟨_, rfl⟩
              obtain ⟨l, hll⟩ : ∃ l, l = (letters s.al)[k] := ⟨_, rfl⟩
              rw [← hX] at e0
              rw [← hY] at e1
              rw [← hll] at l0 hl6 hlH
              replace hX := hid hX
              replace hY := hid hY
              replace hll := hid hll
              replace hP := hid hP
              replace hPc := hid hPc
              replace hLc := hid hLc
              replace hne := hid hne
              replace hsr := hid hsr
              have hzr := hbr.size
              have hF : ∀ x, Below wr.heap.size wr x → Below w2.heap.size w2 x := fun x h => hbr.trans (h.mono hzr)
              have hG : ∀ x, Below wr.heap.size wr x → Below (w.heap.size + 2) w0 x := fun x h => b2.trans ((hF x h).mono (by omega))
              have hBF : Hid (∀ x, Below wr.heap.size wr x → Below w.heap.size w x) := hid fun x h => hB0.trans ((hG x h).mono (by omega))
              have hkeep : Hid (∀ x, Below wr.heap.size wr x → x.cell? ⟨w.heap.size, 0, none⟩ = some (.int .i64 s.al) ∧ x.cell? ⟨w.heap.size, 1, none⟩ = some (.int .i64 s.st) ∧ x.cell? ⟨w.heap.size, 2, none⟩ = some (.slice A s.es.length c) ∧
                  x.cell? ⟨w.heap.size + 1, 0, none⟩ = some (.int .i64 t.al) ∧ x.cell? ⟨w.heap.size + 1, 1, none⟩ = some (.int .i64 t.st) ∧ x.cell? ⟨w.heap.size + 1, 2, none⟩ = some (.slice B t.es.length d) ∧
                  x.cell? ⟨gl, k, none⟩ = some (.int .i64 (l : Nat)) ∧ x.cell? ⟨g1, i * 2, none⟩ = some (.int .i64 (X : Nat)) ∧ x.cell? ⟨g1, i * 2 + 1, none⟩ = some (.int .i64 (Y : Nat)) ∧ Below wr.heap.size wr x) := hid fun x h =>
                ⟨hS 0 _ rfl _ (hG x h), hS 1 _ rfl _ (hG x h), hS 2 _ rfl _ (hG x h), hT 0 _ rfl _ (hG x h), hT 1 _ rfl _ (hG x h), hT 2 _ rfl _ (hG x h), by rw [(hF x h).cell (by simpa using hgl')]; exact l0, by rw [h.cell (by simpa using hg1')]; exact e0, by rw [h.cell (by simpa using hg1')]; exact e1, h⟩
              replace hF := hid hF
              replace hG := hid hG
              have hin1 := hid (sysOk_in hsy.out.1)
              have hin2 := hid (sysOk_in hsy.out.2)
              have i1 : (0 : Int) ≤ (i : Int) := by omega
              have i2 : (i : Int) < (ps.length : Int) := by omega
              have k1 : (0 : Int) ≤ (k : Int) := by omega
              have k2 : (k : Int) < ((letters s.al).length : Int) := by omega
              have hbself : Below wr.heap.size wr wr := Below.refl _ _
              have hcells := fun x => hkeep.out _ (Fam.below wr.heap.size wr x)
              have y0 := fun x => (hcells x).1
              have y1 := fun x => (hcells x).2.1
              have y2 := fun x => (hcells x).2.2.1
              have y3 := fun x => (hcells x).2.2.2.1
              have y4 := fun x => (hcells x).2.2.2.2.1
              have y5 := fun x => (hcells x).2.2.2.2.2.1
              have y6 := fun x => (hcells x).2.2.2.2.2.2.1
              have y7 := fun x => (hcells x).2.2.2.2.2.2.2.1
              have y8 := fun x => (hcells x).2.2.2.2.2.2.2.2.1
              clear hcells e0 e1 l0
              go_wp2_with fail
              refine wp_region_grow 24 wr.heap.size wr (fun j => if j = 10 then (fun u _ => u = .int .i64 (stepSet s X l : Nat)) else (fun u _ => u = .int .i64 (stepSet t Y l : Nat))) (by kernel_rfl) (by kernel_rfl) (Nat.le_refl _) (Below.refl _ _) ?_
              simp only [List.take_succ_cons, List.take_zero, List.drop_succ_cons, List.drop_zero]
              (repeat (refine grow_quiet (by rfl) (by rfl) (by rfl) ?_; intro K hK; go_big_quiet_op; go_big_quiet_on))
              refine grow_val (.int .i64 (stepSet s X l : Nat)) (by rfl) (by rfl) rfl (fun wq hbq _ => ?_) ?_
              · go_simp
                exact ⟨rfl, l2Step_any s A c X l wq hin1.out hl hc (hr.out.later (hBF.out _ hbq))⟩
              simp only [Act.put, List.setIfInBounds_toArray, List.set_cons_zero, List.set_cons_succ]
              (repeat (refine grow_quiet (by rfl) (by rfl) (by rfl) ?_; intro K hK; go_big_quiet_op; go_big_quiet_on))
              refine grow_val (.int .i64 (stepSet t Y l : Nat)) (by rfl) (by rfl) rfl (fun wq hbq _ => ?_) ?_
              · go_simp
                exact ⟨rfl, l2Step_any t B d Y l wq hin2.out hm hd (hs.out.later (hBF.out _ hbq))⟩
              simp only [Act.put, List.setIfInBounds_toArray, List.set_cons_zero, List.set_cons_succ]
              (repeat (refine grow_quiet (by rfl) (by rfl) (by rfl) ?_; intro K hK; go_big_quiet_op; go_big_quiet_on))
              refine grow_new (by rfl) (fun b => .pointer (some ⟨b, 0, none⟩)) 161 #[.int .i64 0, .int .i64 0] (fun _ => by go_simp) (fun _ => rfl) (Nat.le_refl _) fun g hg => ?_
              simp only [Act.put, List.setIfInBounds_toArray, List.set_cons_zero, List.set_cons_succ]
              refine grow_nil ?_
              intro w6 hb6 hf
              obtain ⟨g', hge, -, hblk⟩ := hf _ List.mem_cons_self
              cases hge
              clear hf y0 y1 y2 y3 y4 y5 y6 y7 y8 i1 i2 k1 k2 hbself
              obtain ⟨Z, hZ⟩ : ∃ Z, Z = stepSet s X l := ⟨_, rfl⟩
              obtain ⟨V, hV⟩ : ∃ V, V = stepSet t Y l := ⟨_, rfl⟩
              rw [← hZ, ← hV]
              replace hZ := hid hZ
              replace hV := hid hV
              have hblk' : Blk w6 g 161 #[.int .i64 0, .int .i64 0] := hblk
              clear hblk
              have c0 := hblk'.cell 0
              have c1 := hblk'.cell 1
              have z0 := hblk'.frozen 0
              have z1' := hblk'.frozen 1
              simp only [List.getElem?_toArray, List.getElem?_cons_zero, List.getElem?_cons_succ] at c0 c1
              have hg6 := hblk'.lt
              replace hblk' := hid hblk'
              have hstep : Hid (stepP s t ps[i] (letters s.al)[k] = (Z, V)) := hid (by unfold stepP; rw [← hX.out, ← hY.out, ← hll.out, hZ.out, hV.out])
              by_cases hZ0 : Z = 0
              · have hzb : (((Z : Nat) : Int) != 0) = false := by simp; omega
                have hzc : (((Z : Nat) : Int) == 0) = true := by simp; omega
                replace hZ0 := hid hZ0
                go_wp2_with fail
                go_roundw
                case rel =>
                  refine ⟨ps, ws, k + 1, by go_num, by omega, hi, hne.out, hsr.out.later ?_ (hsr.out.pb.skip (letters_sorted _) hi hkl (.inl (by rw [hstep.out]; exact hZ0.out))), hbr.trans (Below.mono ?_ hzr)⟩
                  all_goals (repeat (first | exact Below.refl _ _ | assumption | refine Below.drew ?_ | refine Below.alloc ?_ (by first | omega | (simp; done) | (simp; omega)) _ | refine Below.setCell ?_ (by first | omega | (simp; done) | (simp; omega)) _))
                case measure => simp [intOf]; omega
              · go_wp2_with fail
                generalize hw7 : (w6.setCell ⟨g, 0, none⟩ (Value.int IntKind.i64 (Z : Nat))).setCell ⟨g, 1, none⟩ (Value.int IntKind.i64 (V : Nat)) = w7
                have hb7 : Below wr.heap.size wr w7 := by
                  rw [← hw7]
                  (repeat (first | exact Below.refl _ _ | assumption | refine Below.drew ?_ | refine Below.alloc ?_ (by first | omega | (simp; done) | (simp; omega)) _ | refine Below.setCell ?_ (by first | omega | (simp; done) | (simp; omega)) _))
                have hblk7 : Hid (Blk w7 g 161 #[.int .i64 (Z : Nat), .int .i64 (V : Nat)]) := hid (by rw [← hw7]; exact (hblk'.out.set_ 0 _).set_ 1 _)
                clear hw7 c0 c1 z0 z1' hb6 hblk'
                have hP7 := hid ((show PairsAt wr wr.heap.size (some ⟨g1, 0, none⟩) ps from hP.out).later hb7)
                refine (l5Find_any ps (some ⟨g1, 0, none⟩) c1 (Z, V) w7 hc1 hc1' hP7.out).mono ?_
                rintro e w8 ⟨he, hb8⟩
                have h8 : Below wr.heap.size wr w8 := hb7.trans (hb8.mono hb7.size)
                obtain ⟨F, hF⟩ : ∃ F, F = findP ps (Z, V) := ⟨_, rfl⟩
                rw [← hF] at he
                subst he
                replace hF := hid hF
                have hblk8 := hblk7.out.below hb8 hblk7.out.lt
                clear hblk7 hP7
                by_cases hF0 : F < 0
                · have hnew : Hid ((Z, V) ∉ ps) := hid ((findP_neg _ _).1 (by rw [← hF.out]; exact hF0))
                  have hg8 := hblk8.lt
                  have c0 := hblk8.cell 0
                  have c1 := hblk8.cell 1
                  simp only [List.getElem?_toArray, List.getElem?_cons_zero, List.getElem?_cons_succ] at c0 c1
                  have hO1 := own_later hsr.out.own1 h8
                  have hO2 := own_later hsr.out.own2 h8
                  replace hO1 := hid hO1
                  replace hO2 := hid hO2
                  replace hblk8 := hid hblk8
                  have hz8 := h8.size
                  go_wp2_with (at_builtin; refine wpList_append_own_at _ rfl _ _ 162 rfl w2.heap.size 161 j2 (.agg #[.int .i64 0, .int .i64 0]) 2 16 Tryd.underlying162 ha ha0 ha1 ha2 rfl (by decide) _ _ _ rfl (hO1.out.alloc _) ⟨w8.heap.size, 0, none⟩ 1 1 [.int .i64 (Z : Nat), .int .i64 (V : Nat)] rfl rfl (cell_two_new _ _ _ _) (by intro u hu; simp at hu; rcases hu with rfl | rfl <;> rfl) (by unfold maxLen; omega) (by omega) (by simp; omega) ?_; intro v9 w9 hO9 hgr9 _ hat9)
                  have hb9 : Below w2.heap.size w2 w9 := ((hbr.trans (h8.mono hzr)).alloc (by omega) _).grown hgr9 (by simp; omega) (fun k hk => (hO1.out.lt k hk).1)
                  have hO29 := (hO2.out.alloc (Obj.cells #[.int .i64 (Z : Nat), .int .i64 (V : Nat)] 161)).kept hgr9 (.inr (Ne.symm hsr.out.ne))
                  obtain ⟨g2, c2, rfl, hg2, hg2', hc2, hc2', hW⟩ := own_words hO29 (by omega)
                  have y1 : ∀ x, (Fam w9.heap.size w9 x).cell? ⟨g2, i, none⟩ = some (.string (wordS ws[i])) := fun x => by
                    rw [(Fam.below w9.heap.size w9 x).cell (by simpa using hg2')]
                    exact hW i (by omega)
                  have hb9s := hb9.size
                  have y2 : ∀ x, (Fam w9.heap.size w9 x).cell? ⟨gl, k, none⟩ = some (.int .i64 (l : Nat)) := fun x => by
                    rw [(Fam.below w9.heap.size w9 x).cell (by simp; omega), hb9.cell (by simpa using hgl'), hll.out]
                    exact hLc.out k hkl
                  have i1 : (0 : Int) ≤ (i : Int) := by omega
                  have i2 : (i : Int) < (ws.length : Int) := by omega
                  have k1 : (0 : Int) ≤ (k : Int) := by omega
                  have k2 : (k : Int) < ((letters s.al).length : Int) := by omega
                  have hwb : ¬ 9223372036854775807 < (wordS ws[i]).size + 1 := by
                    have := hsr.out.pb.wlen (j := i) (by omega)
                    rw [wordS_size]
                    omega
                  replace hW := hid hW
                  replace hO29 := hid hO29
                  replace hO9 := hid hO9
                  replace hgr9 := hid hgr9
                  replace hat9 := hid hat9
                  clear c0 c1
                  refine wp_region_grow 12 w9.heap.size w9 (fun _ u _ => u = .string ⟨#[letB l]⟩) (by kernel_rfl) (by kernel_rfl) (Nat.le_refl _) (Below.refl _ _) ?_
                  simp only [List.take_succ_cons, List.take_zero, List.drop_succ_cons, List.drop_zero]
                  (repeat (refine grow_quiet (by rfl) (by rfl) (by rfl) ?_; intro K hK; go_big_quiet_op; go_big_quiet_on))
                  refine grow_val (.string ⟨#[letB l]⟩) (by rfl) (by rfl) rfl (fun wq hbq _ => ?_) ?_
                  · go_simp
                    exact ⟨rfl, l1Text_any l hl6 wq⟩
                  simp only [Act.put, List.setIfInBounds_toArray, List.set_cons_zero, List.set_cons_succ]
                  (repeat (refine grow_quiet (by rfl) (by rfl) (by rfl) ?_; intro K hK; go_big_quiet_op; go_big_quiet_on))
                  refine grow_new (by rfl) (fun b => .slice (some ⟨b, 0, none⟩) 1 1) 9 #[.string (wordS ws[i] ++ ⟨#[letB l]⟩)] (fun _ => by go_simp) (fun _ => rfl) (Nat.le_refl _) fun g3 hg3 => ?_
                  simp only [Act.put, List.setIfInBounds_toArray, List.set_cons_zero, List.set_cons_succ]
                  refine grow_nil ?_
                  intro w10 hb10 hf
                  obtain ⟨g3', hge, -, hblk3⟩ := hf _ List.mem_cons_self
                  cases hge
                  have hnew3 := hid (Blk.news hblk3)
                  clear hblk3
                  clear hf y1 y2 i1 i2 k1 k2 hwb
                  have hO210 := hid (own_later hO29.out hb10)
                  have hz10 := hb10.size
                  go_wp2_with (at_builtin; refine wpList_append_own_at _ rfl _ _ 118 rfl w2.heap.size 9 j1 (.string ⟨#[]⟩) 1 16 Tryd.underlying118 hs' hs0' hs1' hs2' rfl (by decide) _ _ _ rfl hO210.out ⟨g3, 0, none⟩ 1 1 [.string (wordS ws[i] ++ ⟨#[letB l]⟩)] rfl rfl hnew3.out (by intro u hu; simp at hu; subst hu; rfl) (by unfold maxLen; omega) (by omega) (by omega) ?_; intro v11 w11 hO11 hgr11 _ hat11)
                  go_roundw
                  case rel =>
                    obtain ⟨hS, hBB⟩ := hsr.out.add hbr (Nat.le_refl _) hi (by omega) hkl hstep.out (by omega) hnew.out hll.out (wordS_cons _ _) h8 hO9.out hgr9.out hat9.out hb10 hO11 hgr11 hat11
                    exact ⟨_, _, k + 1, by go_num, by omega, by simp; omega, fun h => by rw [List.getElem_append_left hi]; exact hne.out hi, hS, hBB⟩
                  case measure => simp [intOf]; omega
                · have hold : Hid ((Z, V) ∈ ps) := hid (by
                    by_cases h : (Z, V) ∈ ps
                    · exact h
                    · exact absurd ((findP_neg _ _).2 h) (by rw [← hF.out]; exact hF0))
                  go_wp2_with fail
                  go_roundw
                  case rel =>
                    refine ⟨ps, ws, k + 1, by go_num, by omega, hi, hne.out, hsr.out.later ?_ (hsr.out.pb.skip (letters_sorted _) hi hkl (.inr (by rw [hstep.out]; exact hold.out))), hbr.trans (Below.mono ?_ hzr)⟩
                    all_goals (repeat (first | exact Below.refl _ _ | assumption | refine Below.drew ?_ | refine Below.alloc ?_ (by first | omega | (simp; done) | (simp; omega)) _ | refine Below.setCell ?_ (by first | omega | (simp; done) | (simp; omega)) _))
                  case measure => simp [intOf]; omega
            · replace hne := hid hne
              have hov : Hid (Srch s t w2.heap.size wr _ _ ps ws (i + 1) 0) := hid ⟨hsr.own1, hsr.own2, hsr.ne, hsr.pb.over (by omega), (fun j hj hji => by
                by_cases e : j = i
                · subst e; exact hne.out hj
                · exact hsr.pre j hj (by omega)), hsr.pos⟩
              replace hsr := hid hsr
              clear hwl hpos
              go_wp2_with fail
              go_roundw
              case rel => exact ⟨ps, ws, i + 1, by go_num, by omega, hov.out, hbr⟩
              case measure => have := hN.out; have := hsr.out.pb.bound; simp only [intOf]; omega
      · obtain rfl : i = ps.length := by omega
        have hN := hid (hsr.out.pb.none fun j hj => hsr.out.pre j hj hj)
        go_wp2
        go_ret2
        refine ⟨none, rfl, ?_, ?_⟩
        · unfold IsFirst
          rw [if_pos hC.out]
          exact hN.out
        · exact (B1.trans (hb2.mono (by omega))).trans (hbr.mono (by omega))

end Go.Proofs.YtkoganldcmhopaaDoor

/- The reference's l6Subsets. -/
namespace Go.Proofs.YtkoganldcmhopaaDoor
open Go.RowKit Go.BigFrame Go.Maps AG

/-- What l6Subsets holds in memory. -/
structure L6 (w2 wr : World) (gO : Nat) (al : Int) (vR : Value) (xs : List RowV) (vA : Value) (acs : List Bool) (fs : List (Value × List Value)) : Prop where
  below : Below w2.heap.size w2 wr
  ge : w2.heap.size ≤ gO
  fam : Fam3 wr w2.heap.size fs
  tab : wr.ownsRow w2.heap.size 52 1 vR xs.length (rowVals xs)
  acc : wr.ownsRow w2.heap.size 4 1 vA acs.length (boolVals acs)
  blk : Blk wr gO 26 #[.int .i64 al, vR, vA]
section
variable {w2 wr w1 w' : World} {gO : Nat} {al : Int} {vR vA : Value} {xs : List RowV} {acs : List Bool} {fs l1 l2 : List (Value × List Value)} {f : Value × List Value}
theorem L6.later (h : L6 w2 wr gO al vR xs vA acs fs) (hb : Below wr.heap.size wr w') : L6 w2 w' gO al vR xs vA acs fs :=
  ⟨h.below.trans (hb.mono h.below.size), h.ge, h.fam.later hb, own_later_ h.tab hb, own_later_ h.acc hb, h.blk.below hb h.blk.lt⟩
theorem L6.fs_ (h : L6 w2 wr gO al vR xs vA acs fs) {fs' : List (Value × List Value)} (hf : Fam3 wr w2.heap.size fs → Fam3 wr w2.heap.size fs') : L6 w2 wr gO al vR xs vA acs fs' := ⟨h.below, h.ge, hf h.fam, h.tab, h.acc, h.blk⟩
theorem L6.own {v : Value} {row : List Nat} (h : L6 w2 wr gO al vR xs vA acs fs) (hf : (v, natVals row) ∈ fs) : wr.ownsRow w2.heap.size 3 1 v row.length (natVals row) := by
  have := h.fam.rows _ hf
  rwa [natVals_len] at this
theorem L6.app {v' : Value} {ys' : List Value} {o : Obj} (h : L6 w2 wr gO al vR xs vA acs (l1 ++ f :: l2)) (hg : (wr.alloc o).grownBy w1 f.1.ownBlock)
    (ho : w1.ownsRow w2.heap.size 3 1 v' ys'.length ys') (hat : v'.ownBlock = f.1.ownBlock ∨ v'.ownBlock = some (wr.alloc o).heap.size) : L6 w2 w1 gO al vR xs vA acs (l1 ++ (v', ys') :: l2) := by
  have hf := h.fam.rows f (by simp)
  have hkA : KeepB (fun b => f.1.ownBlock = some b) wr w1 := ((KeepB.refl _ wr).alloc o).grown hg fun k hk _ => hk
  exact ⟨hkA.below h.below h.below.size fun b e => own_block hf b e, h.ge, h.fam.app hg ho hat, own_keep h.tab hkA fun g hg e => own_ne_own h.tab hf (by decide) g g hg e rfl, own_keep h.acc hkA fun g hg e => own_ne_own h.acc hf (by decide) g g hg e rfl, h.blk.keep hkA fun e => own_ne hf h.blk (by decide) _ e rfl⟩
/-- The row goes into the table. -/
theorem L6.row {row : List Nat} {vR' : Value} {A : Option Addr} {c : Nat} {o : Obj} (h : L6 w2 wr gO al vR xs vA acs (f :: (.slice A row.length c, natVals row) :: famOf xs)) (hg : (wr.alloc o).grownBy w1 vR.ownBlock)
    (ho : w1.ownsRow w2.heap.size 52 1 vR' (xs.length + 1) (rowVals xs ++ [.slice A row.length c])) : L6 w2 (w1.setCell ⟨gO, 1, none⟩ vR') gO al vR' (xs ++ [⟨row.map fun (n : Nat) => (n : Int), A, c⟩]) vA acs (f :: famOf (xs ++ [⟨row.map fun (n : Nat) => (n : Int), A, c⟩])) := by
  have hkA : KeepB (fun b => vR.ownBlock = some b) wr w1 := ((KeepB.refl _ wr).alloc o).grown hg fun k hk _ => hk
  have hblk1 : Blk w1 gO 26 #[.int .i64 al, vR, vA] := h.blk.keep hkA fun e => own_ne h.tab h.blk (by decide) _ e rfl
  have hkB : KeepB (fun b => b = gO) w1 (w1.setCell ⟨gO, 1, none⟩ vR') := (KeepB.refl _ w1).setCell _ _ fun _ => rfl
  have hb1 : Below w2.heap.size w2 w1 := hkA.below h.below h.below.size fun b e => own_block h.tab b e
  refine ⟨hkB.below hb1 hb1.size fun b e => by rw [e]; exact h.ge, h.ge, ?_, ?_, ?_, by simpa using hblk1.set_ 1 vR'⟩
  · have h1 := h.fam.keep hkA fun f hf g hg e => own_ne_own h.tab (h.fam.rows f hf) (by decide) g g e hg rfl
    exact (h1.keep hkB fun f hf g hg e => own_ne (h1.rows f hf) hblk1 (by decide) g hg e).into
  · have h2 : w1.ownsRow w2.heap.size 52 1 vR' (xs ++ [(⟨row.map fun (n : Nat) => (n : Int), A, c⟩ : RowV)]).length (rowVals (xs ++ [⟨row.map fun (n : Nat) => (n : Int), A, c⟩])) := by
      unfold rowVals at ho ⊢
      rw [List.length_append, List.map_append]
      unfold RowV.v at ho ⊢
      simpa using ho
    exact own_keep h2 hkB (own_ne h2 hblk1 (by decide))
  · have h3 := own_keep h.acc hkA fun g hg e => own_ne_own h.acc h.tab (by decide) g g hg e rfl
    exact own_keep h3 hkB (own_ne h3 hblk1 (by decide))
/-- Whether a node is accepting. -/
theorem L6.put {vA' : Value} {t : Bool} (h : L6 w2 wr gO al vR xs vA acs fs) (hg : wr.grownBy w1 vA.ownBlock)
    (ho : w1.ownsRow w2.heap.size 4 1 vA' (acs.length + 1) (boolVals acs ++ [.bool t])) : L6 w2 (w1.setCell ⟨gO, 2, none⟩ vA') gO al vR xs vA' (acs ++ [t]) fs := by
  have hkA : KeepB (fun b => vA.ownBlock = some b) wr w1 := (KeepB.refl _ wr).grown hg fun k hk _ => hk
  have hblk1 : Blk w1 gO 26 #[.int .i64 al, vR, vA] := h.blk.keep hkA fun e => own_ne h.acc h.blk (by decide) _ e rfl
  have hkB : KeepB (fun b => b = gO) w1 (w1.setCell ⟨gO, 2, none⟩ vA') := (KeepB.refl _ w1).setCell _ _ fun _ => rfl
  have hb1 : Below w2.heap.size w2 w1 := hkA.below h.below h.below.size fun b e => own_block h.acc b e
  refine ⟨hkB.below hb1 hb1.size fun b e => by rw [e]; exact h.ge, h.ge, ?_, ?_, ?_, by simpa using hblk1.set_ 2 vA'⟩
  · have h1 := h.fam.keep hkA fun f hf g hg e => own_ne_own h.acc (h.fam.rows f hf) (by decide) g g e hg rfl
    exact h1.keep hkB fun f hf g hg e => own_ne (h1.rows f hf) hblk1 (by decide) g hg e
  · have h3 := own_keep h.tab hkA fun g hg e => own_ne_own h.tab h.acc (by decide) g g hg e rfl
    exact own_keep h3 hkB (own_ne h3 hblk1 (by decide))
  · have h2 : w1.ownsRow w2.heap.size 4 1 vA' (acs ++ [t]).length (boolVals (acs ++ [t])) := by
      unfold boolVals at ho ⊢
      rw [List.length_append, List.map_append]
      exact ho
    exact own_keep h2 hkB (own_ne h2 hblk1 (by decide))
/-- A fresh empty row. -/
theorem Fam3.fresh {w : World} {base : Nat} {f : Value × List Value} {fs : List (Value × List Value)} (h : Fam3 w base (f :: fs)) (hb : base ≤ w.heap.size) : Fam3 (w.alloc (.cells #[] 3)) base (f :: (.slice (some ⟨w.heap.size, 0, none⟩) 0 0, []) :: fs) := by
  have hl := h.later ((Below.refl _ w).alloc (Nat.le_refl _) (.cells #[] 3))
  have hlt : ∀ y ∈ f :: fs, ∀ g, y.1.ownBlock = some g → g < w.heap.size := fun y hy g e => ((h.rows y hy).lt g e).2
  obtain ⟨h2, h3⟩ := hl
  rw [List.pairwise_cons] at h3
  refine ⟨fun y hy => ?_, ?_⟩
  · rw [List.mem_cons, List.mem_cons] at hy
    rcases hy with rfl | rfl | hy
    · exact h2 _ List.mem_cons_self
    · exact ⟨rfl, .inr ⟨w.heap.size, 0, #[], rfl, hb, heap_alloc_self _ _, Nat.le_refl _, Nat.zero_le _, rfl, rfl⟩⟩
    · exact h2 y (List.mem_cons_of_mem _ hy)
  · rw [List.pairwise_cons, List.pairwise_cons]
    refine ⟨fun y hy k e e' => ?_, ⟨fun y hy k e e' => ?_, h3.2⟩⟩
    · rcases List.mem_cons.1 hy with rfl | hy
      · have := hlt f List.mem_cons_self k e
        injection e' with e'
        simp at e'
        omega
      · exact h3.1 y hy k e e'
    · have := hlt y (List.mem_cons_of_mem _ hy) k e'
      injection e with e
      simp at e
      omega
theorem L6.fresh (h : L6 w2 wr gO al vR xs vA acs (f :: fs)) : L6 w2 (wr.alloc (.cells #[] 3)) gO al vR xs vA acs (f :: (.slice (some ⟨wr.heap.size, 0, none⟩) 0 0, []) :: fs) :=
  have hb : Below wr.heap.size wr (wr.alloc (.cells #[] 3)) := (Below.refl _ wr).alloc (Nat.le_refl _) _
  ⟨h.below.trans (hb.mono h.below.size), h.ge, h.fam.fresh h.below.size, own_later_ h.tab hb, own_later_ h.acc hb, h.blk.below hb h.blk.lt⟩
end
theorem OwnN.read {w : World} {B : Nat} {v : Value} {ns : List Nat} (h : w.ownsRow B 3 1 v ns.length (natVals ns)) : ∃ A c, v = .slice A ns.length c ∧ ns.length ≤ c ∧ c ≤ 9223372036854775807 ∧ NatsAt w w.heap.size A ns := OwnNats.read h

set_option maxRecDepth 100000 in
set_option maxHeartbeats 16000000 in
theorem l6Subsets_any (s : Sy) (A : Option Addr) (c : Nat) (al : Int) (w : World) (hin : edgesIn s) (hal : 0 ≤ s.al ∧ s.al ≤ 63) (haa : 0 ≤ al ∧ al ≤ 63) (hl : s.es.length ≤ c) (hc : c ≤ 9223372036854775807) (hr : EdsAt w w.heap.size A s.es) :
    Calls Tryd.prog 92 #[s.val A c, .int .i64 al] w (PrPost w ((prNum s al).elim auNil (prAu al)) (prNum s al).isSome) := by
  unfold Sy.val
  obtain ⟨i0, hi, hz0, hz1, hz2⟩ := info_parts infoInt
  obtain ⟨j0, hj0, hy0, hy1, hy2⟩ := info_parts infoInts
  obtain ⟨b0, hbi, hb0, hb1', hb2'⟩ := info_parts infoBool
  obtain ⟨w0, hw0, hzz0, hB0, hS, hU⟩ := boxed2 w #[Value.int IntKind.i64 s.al, Value.int IntKind.i64 s.st, Value.slice A s.es.length c] 30 #[Value.int IntKind.i64 0, Value.slice none 0 0, Value.slice none 0 0] 26
  have hres : Blk w0 (w.heap.size + 1) 26 #[Value.int IntKind.i64 0, Value.slice none 0 0, Value.slice none 0 0] := by
    rw [← hw0]
    have := Blk.new (w.alloc (.cells #[Value.int IntKind.i64 s.al, Value.int IntKind.i64 s.st, Value.slice A s.es.length c] 30)) 26 #[Value.int IntKind.i64 0, Value.slice none 0 0, Value.slice none 0 0]
    simpa using this
  have hr0 := hid (hr.later hB0)
  have p0 := hS 0 _ rfl _ (Below.refl _ _)
  have hand := bits_and (show 0 ≤ s.al ∧ s.al < 9223372036854775808 by omega) (show 0 ≤ al ∧ al < 9223372036854775808 by omega)
  have hrng := andB_range (a := s.al) haa
  have hhr := hid_range (b := al) hal
  have hhid : s.al - andB s.al al = hidA s.al al := rfl
  replace hr := hid hr
  replace hres := hid hres
  replace hin := hid hin
  go_enter Tryd.func92, Tryd.ntmps92
  go_wp2_with fail
  refine (l1Letters_any al w0).mono ?_
  rintro e w2 ⟨lv, rfl, hown2, hb2⟩
  obtain ⟨AL, cL, rfl, hcL, hcL', hLL⟩ := OwnNats.read hown2
  have hB2 := hB0.trans (hb2.mono hB0.size)
  have hz2' := hb2.size
  have hC2 := hb2.mono hzz0
  have hr2 := hid (hr0.out.later hb2)
  have hsys : Hid (∀ w', Below w2.heap.size w2 w' → w'.cell? ⟨w.heap.size, 0, none⟩ = some (.int .i64 s.al) ∧ w'.cell? ⟨w.heap.size, 1, none⟩ = some (.int .i64 s.st) ∧ w'.cell? ⟨w.heap.size, 2, none⟩ = some (.slice A s.es.length c)) := hid fun w' hb => ⟨hS 0 _ rfl _ (hC2.trans (hb.mono (by omega))), hS 1 _ rfl _ (hC2.trans (hb.mono (by omega))), hS 2 _ rfl _ (hC2.trans (hb.mono (by omega)))⟩
  clear p0
  obtain ⟨p0, p1, p2⟩ := hsys.out w2 (Below.refl _ _)
  obtain ⟨L, hLe⟩ : ∃ L, Hid (L = letters al) := ⟨_, hid rfl⟩
  rw [← hLe.out] at hcL hLL ⊢
  have hL6 : L.length ≤ 6 := by rw [hLe.out]; exact lettersTo_len al 6
  have hl6 : Hid (∀ l ∈ L, l < 6) := hid fun l hl => (letters_lt (by rw [← hLe.out]; exact hl)).1
  obtain ⟨h, hh⟩ : ∃ h, h = hidA s.al al := ⟨_, rfl⟩
  rw [← hh]
  obtain ⟨n0, hn0⟩ : ∃ n0, Hid (n0 = reachSet s h 1) := ⟨_, hid rfl⟩
  have hnum : Hid (prNum s al = numRes (prNx s h) L n0 12) := hid (by rw [hn0.out, hLe.out, hh]; rfl)
  have hres2 := hid (hres.out.below hb2 hres.out.lt)
  have hLL' := hid hLL
  replace hh := hid hh
  clear hown2 hLL hw0
  go_wp2_with fail
  refine (l2Reach_any s A c 1 h w2 hin.out (by omega) hl hc hr2.out).mono ?_
  rintro e w3 ⟨rfl, hb3⟩
  rw [← hn0.out]
  have hz3 := hb3.size
  clear p0 p1 p2
  obtain ⟨nx, hnx⟩ : ∃ nx, Hid (nx = prNx s h) := ⟨_, hid rfl⟩
  rw [← hnx.out] at hnum
  have hst0 : Hid (L6 w2 ((w3.alloc (.cells #[.int .i64 (n0 : Nat)] 3)).alloc (.cells #[.int .i64 al, .slice none 0 0, .slice none 0 0] 26)) (w3.heap.size + 1) al (.slice none 0 0) [] (.slice none 0 0) [] [(.slice (some ⟨w3.heap.size, 0, none⟩) 1 1, natVals [n0])]) := hid (by
    have hb4 : Below w3.heap.size w3 ((w3.alloc (.cells #[.int .i64 (n0 : Nat)] 3)).alloc (.cells #[.int .i64 al, .slice none 0 0, .slice none 0 0] 26)) := ((Below.refl _ _).alloc (Nat.le_refl _) _).alloc (by simp) _
    refine ⟨hb3.trans (hb4.mono hz3), by omega, ⟨fun f hf => ?_, List.pairwise_singleton _ _⟩, World.ownsRow_nil _ _ _ _, World.ownsRow_nil _ _ _ _, by simpa using Blk.new (w3.alloc (.cells #[.int .i64 (n0 : Nat)] 3)) 26 #[.int .i64 al, .slice none 0 0, .slice none 0 0]⟩
    rw [List.mem_singleton] at hf
    subst hf
    refine World.ownsRow.alloc ?_ _
    exact ⟨rfl, .inr ⟨w3.heap.size, 1, #[.int .i64 (n0 : Nat)], rfl, hz3, heap_alloc_self _ _, Nat.le_refl _, by unfold maxLen; omega, rfl, rfl⟩⟩)
  go_wp2_with fail
  go_loopw [8, 10] (fun vN iv wr => ∃ (i : Nat) (AN : Option Addr) (cN : Nat) (vR vA : Value) (xs : List RowV), vN = .slice AN (nsAt nx L n0 i).length cN ∧ iv = .int .i64 (i : Nat) ∧ L6 w2 wr (w3.heap.size + 1) al vR xs vA (((nsAt nx L n0 i).take i).map fun S => decide (S ≠ 0)) ((.slice AN (nsAt nx L n0 i).length cN, natVals (nsAt nx L n0 i)) :: famOf xs) ∧ xs.map (·.r) = toRows (rowsTo nx L n0 i) ∧ (∀ j, j < i → j < (nsAt nx L n0 j).length) ∧ (nsAt nx L n0 i).length ≤ 12) (fun _ iv _ => 12 - (intOf iv).toNat)
  case atStart => exact ⟨0, _, _, _, _, [], rfl, rfl, hst0.out, rfl, fun j hj => by omega, by rw [nsAt_zero]; simp⟩
  case round =>
    clear hst0
    obtain ⟨i, AN, cN, vR, vA, xs, rfl, rfl, hst, hxs, hjs, hle⟩ := hrel
    have hxl : xs.length = i := by
      have := congrArg List.length hxs
      rw [List.length_map, toRows_len, rowsTo_len] at this
      exact this
    have hil : i ≤ 12 := by
      rcases Nat.eq_zero_or_pos i with h | h
      · omega
      · have h1 := hjs (i - 1) (by omega)
        obtain ⟨mm, hm⟩ := nsAt_pre nx L n0 (i - 1) 1
        rw [show i - 1 + 1 = i from by omega] at hm
        have := congrArg List.length hm
        rw [List.length_append] at this
        omega
    obtain ⟨AR, cR, rfl, -, -⟩ := own_slice hst.tab
    obtain ⟨AA, cA, rfl, -, -⟩ := own_slice hst.acc
    have hxl4 : xs.length ≤ 12 := by omega
    replace hxl := hid hxl
    replace hjs := hid hjs
    replace hxs := hid hxs
    by_cases hlt : i < (nsAt nx L n0 i).length
    · obtain ⟨a, ha⟩ : ∃ a, Hid ((nsAt nx L n0 i)[i]? = some a) := ⟨_, hid (List.getElem?_eq_getElem hlt)⟩
      have hns := hid (NumSt.start hlt ha.out)
      have hsm : Hid (∀ q ∈ nsAt nx L n0 i, q < 65536) := hid (nsAt_all (P := fun q => q < 65536) (by rw [hn0.out]; exact reachSet_lt _ _ _) (fun q _ l _ => by rw [hnx.out]; exact reachSet_lt _ _ _) i)
      have ha16 : a < 65536 := hsm.out a (List.mem_of_getElem? ha.out)
      have hfr := hid hst.fresh
      obtain ⟨acs, hacs⟩ : ∃ acs, Hid (acs = ((nsAt nx L n0 i).take i).map fun S => decide (S ≠ 0)) := ⟨_, hid rfl⟩
      have hal2 : acs.length ≤ 12 := by rw [hacs.out, List.length_map, List.length_take]; omega
      rw [← hacs.out] at hfr hst
      replace hst := hid hst
      obtain ⟨n1, hn1⟩ : ∃ n1, Hid (n1 = nsAt nx L n0 i) := ⟨_, hid rfl⟩
      rw [← hn1.out] at hlt hle hns hfr ⊢
      go_wp2_with fail
      go_loopw [8, 11, 12] (fun vN vW kv wr => ∃ (k : Nat) (ns row : List Nat) (AN : Option Addr) (cN : Nat) (AW : Option Addr) (cW : Nat), vN = .slice AN ns.length cN ∧ vW = .slice AW row.length cW ∧ kv = .int .i64 (k : Nat) ∧ NumSt nx L n0 i k ns row a ∧ L6 w2 wr (w3.heap.size + 1) al (.slice AR xs.length cR) xs (.slice AA acs.length cA) acs ((.slice AN ns.length cN, natVals ns) :: (.slice AW row.length cW, natVals row) :: famOf xs) ∧ ns.length ≤ 12 + k) (fun _ _ kv _ => L.length - (intOf kv).toNat)
      case atStart => exact ⟨0, n1, [], _, _, _, 0, rfl, rfl, rfl, hns.out, hfr.out, by omega⟩
      case round =>
        clear hfr hns
        obtain ⟨k, ns, row, AN2, cN2, AW, cW, rfl, rfl, rfl, hns, hst2, hle2⟩ := hrel
        have hk := hns.hk
        have hrl : row.length = k := by
          rw [hns.hrow, List.length_map, List.length_take]
          omega
        have hrl6 : row.length ≤ 6 := by omega
        replace hrl := hid hrl
        have hBm := hst2.below
        have hszm := hBm.size
        have hail : i < ns.length := by
          have h1 := hlt
          rw [hn1.out] at h1
          obtain ⟨mm, hm⟩ := rowN_pre nx a (L.take k) (nsAt nx L n0 i)
          rw [hns.hns, hm, List.length_append]
          omega
        have hani : ns[i]'hail = a := by
          obtain ⟨mm, hm⟩ := rowN_pre nx a (L.take k) (nsAt nx L n0 i)
          have h1 : ns[i]? = some a := by
            rw [hns.hns, hm, List.getElem?_append_left hns.hi]
            exact hns.ha
          rw [List.getElem?_eq_getElem hail] at h1
          injection h1
        have hoN := hst2.own (v := .slice AN2 ns.length cN2) (row := ns) List.mem_cons_self
        obtain ⟨gN, capN', hve, hgN0, hgN, hcN1, hcN2, hcN⟩ := own_shape hoN (by omega)
        injection hve with e1 e2 e3
        subst e1
        subst e3
        clear e2
        by_cases hkl : k < L.length
        · have hLr := hLL'.out.later hBm
          obtain ⟨bL, oL, hAe, hbL, hcL3⟩ := hLr (by omega)
          subst hAe
          have l0 := hcL3 k hkl
          have a0 := hcN i _ (show (natVals ns)[i]? = some (.int .i64 (a : Nat)) from by unfold natVals; simp [hail, hani])
          obtain ⟨l, hl'⟩ : ∃ l, Hid (l = L[k]) := ⟨_, hid rfl⟩
          have hll6 : l < 6 := hl6.out l (by rw [hl'.out]; exact List.getElem_mem _)
          rw [← hl'.out] at l0
          have hnxt := hns.next hkl
          rw [← hl'.out] at hnxt
          obtain ⟨X, hX⟩ : ∃ X, Hid (X = stepSet s a (l : Int)) := ⟨_, hid rfl⟩
          have hXl : X < 65536 := by rw [hX.out]; exact stepSet_lt _ _ _
          obtain ⟨x, hx⟩ : ∃ x, Hid (x = nx a l) := ⟨_, hid rfl⟩
          have hxR : Hid (reachSet s h X = x) := hid (by rw [hx.out, hX.out, hnx.out]; rfl)
          have hx16 : x < 65536 := by rw [← hxR.out]; exact reachSet_lt _ _ _
          rw [← hx.out] at hnxt
          have k1 : (0 : Int) ≤ (k : Int) ∧ (k : Int) < (L.length : Int) ∧ (0 : Int) ≤ (i : Int) ∧ (i : Int) < (ns.length : Int) := by omega
          have y0 : ∀ x', (Fam wr.heap.size wr x').cell? ⟨w.heap.size, 0, none⟩ = some (.int .i64 s.al) := fun x' => (hsys.out _ (hBm.trans ((Fam.below wr.heap.size wr x').mono hszm))).1
          have y1 : ∀ x', (Fam wr.heap.size wr x').cell? ⟨w.heap.size, 1, none⟩ = some (.int .i64 s.st) := fun x' => (hsys.out _ (hBm.trans ((Fam.below wr.heap.size wr x').mono hszm))).2.1
          have y2 : ∀ x', (Fam wr.heap.size wr x').cell? ⟨w.heap.size, 2, none⟩ = some (.slice A s.es.length c) := fun x' => (hsys.out _ (hBm.trans ((Fam.below wr.heap.size wr x').mono hszm))).2.2
          have y3 : ∀ x', (Fam wr.heap.size wr x').cell? ⟨bL, oL + k, none⟩ = some (.int .i64 (l : Nat)) := fun x' => by rw [(Fam.below wr.heap.size wr x').cell (by simpa using hbL)]; exact l0
          have y4 : ∀ x', (Fam wr.heap.size wr x').cell? ⟨gN, i, none⟩ = some (.int .i64 (a : Nat)) := fun x' => by rw [(Fam.below wr.heap.size wr x').cell (by simpa using hgN)]; exact a0
          have hrr := hid (hr2.out.later hBm)
          replace hnxt := hid hnxt
          replace hani := hid hani
          replace hcL3 := hid hcL3
          replace hLr := hid hLr
          replace hcN := hid hcN
          replace hns := hid hns
          replace hoN := hid hoN
          replace hBm := hid hBm
          replace hst2 := hid hst2
          clear l0 a0
          go_wp2_with fail
          refine wp_region_grow 14 wr.heap.size wr (fun i u _ => if i = 10 then u = .int .i64 (X : Nat) else u = .int .i64 (x : Nat)) (by kernel_rfl) (by kernel_rfl) (Nat.le_refl _) (Below.refl _ _) ?_
          simp only [List.take_succ_cons, List.take_zero, List.drop_succ_cons, List.drop_zero]
          (repeat (refine grow_quiet (by rfl) (by rfl) (by rfl) ?_; intro K hK; go_big_quiet_op; go_big_quiet_on))
          refine grow_val (.int .i64 (X : Nat)) (by rfl) (by rfl) rfl (fun wq hbq _ => ?_) ?_
          · go_simp
            refine ⟨rfl, ?_⟩
            rw [hX.out]
            exact l2Step_any s A c a l wq hin.out hl hc (hrr.out.later hbq)
          simp only [Act.put, List.setIfInBounds_toArray, List.set_cons_zero, List.set_cons_succ]
          (repeat (refine grow_quiet (by rfl) (by rfl) (by rfl) ?_; intro K hK; go_big_quiet_op; go_big_quiet_on))
          refine grow_val (.int .i64 (x : Nat)) (by rfl) (by rfl) rfl (fun wq hbq _ => ?_) ?_
          · go_simp
            refine ⟨rfl, ?_⟩
            rw [← hxR.out]
            exact l2Reach_any s A c X h wq hin.out hXl hl hc (hrr.out.later hbq)
          simp only [Act.put, List.setIfInBounds_toArray, List.set_cons_zero, List.set_cons_succ]
          (repeat (refine grow_quiet (by rfl) (by rfl) (by rfl) ?_; intro K hK; go_big_quiet_op; go_big_quiet_on))
          refine grow_nil ?_
          intro w4 hb4 hf
          clear hf y0 y1 y2 y3 y4
          have hst4 := hst2.out.later hb4
          have hz4 := hst4.below.size
          have hN4 := OwnN.read (hst4.own (v := .slice (some ⟨gN, 0, none⟩) ns.length cN2) (row := ns) List.mem_cons_self)
          obtain ⟨A4, c4, he4, hc4, hc4', hN4⟩ := hN4
          cases he4
          have hN4' := hid hN4
          clear hN4
          go_wp2_with fail
          refine (l4In_any ns x (some ⟨gN, 0, none⟩) cN2 w4 hc4 hc4' hN4'.out).mono ?_
          rintro e w5 ⟨rfl, rfl⟩
          by_cases hmem : x ∈ ns
          · have hadd : Hid (addN ns x = ns) := hid (by unfold addN; rw [if_pos hmem])
            obtain ⟨q, hq⟩ : ∃ q, Hid (q = ns.idxOf x) := ⟨_, hid rfl⟩
            have hql : q < ns.length := by rw [hq.out]; exact List.idxOf_lt_length_iff.2 hmem
            rw [hadd.out, ← hq.out] at hnxt
            have hmem' := hid hmem
            have hoW := hid (hst4.own (v := .slice AW row.length cW) (row := row) (List.mem_cons_of_mem _ List.mem_cons_self))
            replace hst4 := hid hst4
            rw [decide_eq_true hmem]
            clear hmem
            go_wp2_with fail
            refine (l5Index_any ns x (some ⟨gN, 0, none⟩) cN2 w4 hmem'.out hc4 hc4' hN4'.out).mono ?_
            rintro e w5 ⟨rfl, rfl⟩
            rw [← hq.out]
            go_wp2_with (at_builtin; refine wpList_append_own_at _ rfl _ _ 52 rfl w2.heap.size 3 i0 (.int .i64 0) 1 8 Tryd.underlying52 hi hz0 hz1 hz2 rfl (by decide) _ _ _ rfl (hoW.out.alloc _) ⟨w4.heap.size, 0, none⟩ 1 1 [.int .i64 (q : Nat)] rfl rfl (cell_one_new _ _ _) (by intro u hu; simp at hu; subst hu; rfl) (by unfold maxLen; omega) (by omega) (by first | omega | (simp; omega)) ?_; intro v5 w5 hO5 hg5 _ hat5; obtain ⟨Av5, cv5, ev5, -, -⟩ := own_slice hO5; subst ev5; replace hO5 := hid hO5; replace hg5 := hid hg5; replace hat5 := hid hat5)
            have hst5 := hid (hst4.out.app (l1 := [(.slice (some ⟨gN, 0, none⟩) ns.length cN2, natVals ns)]) (ys' := natVals (row ++ [q])) hg5.out (by rw [natVals_len, List.length_append]; have := hO5.out; unfold natVals at this ⊢; simpa using this) hat5.out)
            go_roundw
            case rel => exact ⟨k + 1, ns, row ++ [q], _, _, _, _, rfl, by rw [List.length_append]; rfl, by go_num, hnxt.out, by have := hst5.out; rw [List.length_append]; exact this, by omega⟩
            case measure => simp [intOf]; omega
          · have hadd : Hid (addN ns x = ns ++ [x]) := hid (by unfold addN; rw [if_neg hmem])
            have hidx : Hid ((ns ++ [x]).idxOf x = ns.length) := hid (by rw [List.idxOf_append, if_neg hmem]; simp)
            rw [hadd.out, hidx.out] at hnxt
            have hmm := hid (show x ∈ ns ++ [x] by simp)
            rw [decide_eq_false hmem]
            have hoN4 := hid (hst4.own (v := .slice (some ⟨gN, 0, none⟩) ns.length cN2) (row := ns) List.mem_cons_self)
            have hst4' := hid hst4
            clear hst4 hmem
            go_wp2_with (at_builtin; refine wpList_append_own_at _ rfl _ _ 52 rfl w2.heap.size 3 i0 (.int .i64 0) 1 8 Tryd.underlying52 hi hz0 hz1 hz2 rfl (by decide) _ _ _ rfl (hoN4.out.alloc _) ⟨w4.heap.size, 0, none⟩ 1 1 [.int .i64 (x : Nat)] rfl rfl (cell_one_new _ _ _) (by intro u hu; simp at hu; subst hu; rfl) (by unfold maxLen; omega) (by omega) (by first | omega | (simp; omega)) ?_; intro v5 w5 hO5 hg5 _ hat5; obtain ⟨Av5, cv5, ev5, -, -⟩ := own_slice hO5; subst ev5; have hst5 := hst4'.out.app (l1 := []) (ys' := natVals (ns ++ [x])) hg5 (by rw [natVals_len, List.length_append]; have := hO5; unfold natVals at this ⊢; simpa using this) hat5; clear hO5 hg5 hat5)
            have hz5 := hst5.below.size
            have hN5 := OwnN.read (hst5.own (v := .slice Av5 (ns.length + 1) cv5) (row := ns ++ [x]) List.mem_cons_self)
            obtain ⟨A5, c5, he5, hc5, hc5', hN5⟩ := hN5
            rw [List.length_append] at he5
            cases he5
            have hN5' := hid hN5
            have hst5' := hid hst5
            have hlen2 : Hid ((ns ++ [x]).length = ns.length + 1) := hid (by simp)
            clear hN5 hst5
            have hcall := hid (l5Index_any (ns ++ [x]) x Av5 cv5 w5 hmm.out hc5 hc5' hN5'.out)
            rw [hlen2.out, hidx.out] at hcall
            rw [hlen2.out] at hc5
            refine hcall.out.mono ?_
            rintro e w6 ⟨rfl, rfl⟩
            have hoW := hid (hst5'.out.own (v := .slice AW row.length cW) (row := row) (List.mem_cons_of_mem _ List.mem_cons_self))
            go_wp2_with (at_builtin; refine wpList_append_own_at _ rfl _ _ 52 rfl w2.heap.size 3 i0 (.int .i64 0) 1 8 Tryd.underlying52 hi hz0 hz1 hz2 rfl (by decide) _ _ _ rfl (hoW.out.alloc _) ⟨w5.heap.size, 0, none⟩ 1 1 [.int .i64 (ns.length : Nat)] rfl rfl (cell_one_new _ _ _) (by intro u hu; simp at hu; subst hu; rfl) (by unfold maxLen; omega) (by omega) (by first | omega | (simp; omega)) ?_; intro v6 w6 hO6 hg6 _ hat6; obtain ⟨Av6, cv6, ev6, -, -⟩ := own_slice hO6; subst ev6; replace hO6 := hid hO6; replace hg6 := hid hg6; replace hat6 := hid hat6)
            have hst6 := hid (hst5'.out.app (l1 := [(.slice Av5 (ns.length + 1) cv5, natVals (ns ++ [x]))]) (ys' := natVals (row ++ [ns.length])) hg6.out (by rw [natVals_len, List.length_append]; have := hO6.out; unfold natVals at this ⊢; simpa using this) hat6.out)
            go_roundw
            case rel => exact ⟨k + 1, ns ++ [x], row ++ [ns.length], _, _, _, _, by rw [List.length_append]; rfl, by rw [List.length_append]; rfl, by go_num, hnxt.out, by have := hst6.out; rw [List.length_append, List.length_append]; exact this, by rw [List.length_append, List.length_singleton]; omega⟩
            case measure => simp [intOf]; omega
        · obtain rfl : k = L.length := by omega
          obtain ⟨hd1, hd2⟩ := hns.done
          have hi16 : i + 1 ≤ 12 := by omega
          by_cases hov : 12 < ns.length
          · have hover := hid (numRes_over (nx := nx) (L := L) (n0 := n0) (i := i + 1) (lim := 12) hi16 (by rw [← hd1]; exact hov))
            have hgt : ((12 : Int) < (ns.length : Int)) := by omega
            have hresr := hres2.out.below hBm hres2.out.lt
            have q0 := hresr.cell 0
            have q1 := hresr.cell 1
            have q2 := hresr.cell 2
            have f0 := hresr.frozen 0
            have f1 := hresr.frozen 1
            have f2 := hresr.frozen 2
            simp only [List.getElem?_toArray, List.getElem?_cons_zero, List.getElem?_cons_succ] at q0 q1 q2
            have hBr := hB2.trans (hBm.mono hB2.size)
            replace hd1 := hid hd1
            replace hd2 := hid hd2
            replace hns := hid hns
            replace hst2 := hid hst2
            replace hcN := hid hcN
            replace hoN := hid hoN
            replace hani := hid hani
            replace hBm := hid hBm
            replace hresr := hid hresr
            go_wp2
            refine bodyPost_ret (v := .tuple #[.agg #[.int .i64 0, .slice none 0 0, .slice none 0 0], .bool false]) (by simp [results, Tryd.results92, go_sem, q0, q1, q2]) rfl ?_
            rw [hnum.out, hover.out]
            exact ⟨by (repeat (first | exact Below.refl _ _ | assumption | refine Below.drew ?_ | refine Below.alloc ?_ (by first | omega | (simp; done) | (simp; omega)) _ | refine Below.setCell ?_ (by first | omega | (simp; done) | (simp; omega)) _)), _, _, _, rfl, AuOwn.nil _ _⟩
          · have hgt : ¬ ((12 : Int) < (ns.length : Int)) := by omega
            have hgi : (nsAt nx L n0 i).getD i 0 = a := by rw [List.getD_eq_getElem?_getD, ha.out]; rfl
            have hxs2 : Hid ((xs ++ [(⟨row.map fun (n : Nat) => (n : Int), AW, cW⟩ : RowV)]).map (·.r) = toRows (rowsTo nx L n0 (i + 1))) := hid (by
              rw [List.map_append, hxs.out]
              unfold toRows
              rw [rowsTo, List.map_append, hgi, ← hd2]
              rfl)
            have hjs2 : Hid (∀ j, j < i + 1 → j < (nsAt nx L n0 j).length) := hid fun j hj => by
              by_cases e : j = i
              · subst e; exact hns.hi
              · exact hjs.out j (by omega)
            have hacs2 : Hid (acs ++ [decide (a ≠ 0)] = (ns.take (i + 1)).map fun S => decide (S ≠ 0)) := hid (by
              rw [hacs.out, List.take_succ_eq_append_getElem hail, List.map_append, hani]
              congr 2
              obtain ⟨mm, hm⟩ := rowN_pre nx a (L.take L.length) (nsAt nx L n0 i)
              rw [hns.hns, hm, List.take_append_of_le_length (by have := hns.hi; omega)])
            have c1 := hst2.blk.cell 1
            simp only [List.getElem?_toArray, List.getElem?_cons_zero, List.getElem?_cons_succ] at c1
            have hoR := hid hst2.tab
            have hbk := hid hst2.blk
            have hgO := hst2.blk.lt
            replace hd1 := hid hd1
            replace hd2 := hid hd2
            replace hgi := hid hgi
            replace hns := hid hns
            replace hani := hid hani
            replace hoN := hid hoN
            replace hcN := hid hcN
            replace hBm := hid hBm
            have hst2' := hid hst2
            clear hst2
            go_wp2_with (at_builtin; refine wpList_append_own_at _ rfl _ _ 23 rfl w2.heap.size 52 j0 (.slice none 0 0) 1 24 Tryd.underlying23 hj0 hy0 hy1 hy2 rfl (by decide) _ _ _ rfl (hoR.out.alloc _) ⟨wr.heap.size, 0, none⟩ 1 1 [.slice AW row.length cW] rfl rfl (cell_one_new _ _ _) (by intro u hu; simp at hu; subst hu; rfl) (by unfold maxLen; omega) (by omega) (by first | omega | (simp; omega)) ?_; intro v5 w5 hO5 hg5 _ hat5; obtain ⟨Av5, cv5, ev5, -, -⟩ := own_slice hO5; subst ev5; have hbk5 : Blk w5 (w3.heap.size + 1) 26 #[.int .i64 al, .slice AR xs.length cR, .slice AA acs.length cA] := (hbk.out.alloc _).keep ((KeepB.refl (fun b => (Value.slice AR xs.length cR).ownBlock = some b) _).grown hg5 (fun k hk _ => hk)) (fun e => own_ne hoR.out hbk.out (by decide) _ e rfl); have d1 := hbk5.cell 1; have z1 := hbk5.frozen 1; simp only [List.getElem?_toArray, List.getElem?_cons_zero, List.getElem?_cons_succ] at d1; have hst5 := hid (hst2'.out.row hg5 (by have := hO5; simpa using this)); replace hbk5 := hid hbk5; clear hO5 hg5 hat5)
            obtain ⟨w6, hw6⟩ : ∃ w6, w5.setCell ⟨w3.heap.size + 1, 1, none⟩ (.slice Av5 (xs.length + 1) cv5) = w6 := ⟨_, rfl⟩
            rw [hw6] at hst5 ⊢
            have hst6 := hst5.out
            have hz6 := hst6.below.size
            have hN6 := hst6.own (v := .slice (some ⟨gN, 0, none⟩) ns.length cN2) (row := ns) List.mem_cons_self
            obtain ⟨gN', cap6, hve6, -, hgN6, -, -, hc6⟩ := own_shape hN6 (by omega)
            injection hve6 with e1 e2 e3
            injection e1 with e1
            injection e1 with e1
            subst e1
            subst e3
            clear e2
            have a0 := hc6 i _ (show (natVals ns)[i]? = some (.int .i64 (a : Nat)) from by unfold natVals; simp [hail, hani.out])
            have c2 := hst6.blk.cell 2
            simp only [List.getElem?_toArray, List.getElem?_cons_zero, List.getElem?_cons_succ] at c2
            have hgO6 := hst6.blk.lt
            have y0 : ∀ x', (Fam w6.heap.size w6 x').cell? ⟨w3.heap.size + 1, 2, none⟩ = some (.slice AA acs.length cA) := fun x' => by rw [(Fam.below w6.heap.size w6 x').cell (by simpa using hgO6)]; exact c2
            have y1 : ∀ x', (Fam w6.heap.size w6 x').cell? ⟨gN, i, none⟩ = some (.int .i64 (a : Nat)) := fun x' => by rw [(Fam.below w6.heap.size w6 x').cell (by simpa using hgN6)]; exact a0
            obtain ⟨tb, htb⟩ : ∃ tb, ((a : Int) != 0) = tb := ⟨_, rfl⟩
            have k1 : (0 : Int) ≤ (i : Int) ∧ (i : Int) < (ns.length : Int) := by omega
            have hst6' := hid hst6
            replace hN6 := hid hN6
            replace hc6 := hid hc6
            clear hw6 hst5 hst6 a0 c1 c2 d1 z1
            refine wp_region_grow 8 w6.heap.size w6 (fun _ _ _ => True) (by kernel_rfl) (by kernel_rfl) (Nat.le_refl _) (Below.refl _ _) ?_
            simp only [List.take_succ_cons, List.take_zero, List.drop_succ_cons, List.drop_zero]
            (repeat (refine grow_quiet (by rfl) (by rfl) (by rfl) ?_; intro K hK; go_big_quiet_op; go_big_quiet_on))
            refine grow_new (by rfl) (fun b => .slice (some ⟨b, 0, none⟩) 1 1) 4 #[.bool tb] (fun _ => by go_simp) (fun _ => rfl) (Nat.le_refl _) fun g3 hg3 => ?_
            simp only [Act.put, List.setIfInBounds_toArray, List.set_cons_zero, List.set_cons_succ]
            refine grow_nil ?_
            intro w7 hb7 hf
            obtain ⟨g3', hge, -, hblk3⟩ := hf _ List.mem_cons_self
            cases hge
            have hnew3 := hid (Blk.news hblk3)
            clear hblk3 hf y0 y1
            have hst7 := hst6'.out.later hb7
            have hoA := hid hst7.acc
            have hz7 := hst7.below.size
            have hbk7 := hid hst7.blk
            have hgO7 := hst7.blk.lt
            have hst7' := hid hst7
            clear hst7
            go_wp2_with (at_builtin; refine wpList_append_own_at _ rfl _ _ 24 rfl w2.heap.size 4 b0 (.bool false) 1 1 Tryd.underlying24 hbi hb0 hb1' hb2' rfl (by decide) _ _ _ rfl (hoA.out) ⟨g3, 0, none⟩ 1 1 [.bool tb] rfl rfl hnew3.out (by intro u hu; simp at hu; subst hu; rfl) (by unfold maxLen; omega) (by omega) (by first | omega | (simp; omega)) ?_; intro v8 w8 hO8 hg8 _ hat8; obtain ⟨Av8, cv8, ev8, -, -⟩ := own_slice hO8; subst ev8; have hbk8 : Blk w8 (w3.heap.size + 1) 26 _ := hbk7.out.keep ((KeepB.refl (fun b => (Value.slice AA acs.length cA).ownBlock = some b) _).grown hg8 (fun k hk _ => hk)) (fun e => own_ne hoA.out hbk7.out (by decide) _ e rfl); have d2 := hbk8.cell 2; have z2 := hbk8.frozen 2; simp only [List.getElem?_toArray, List.getElem?_cons_zero, List.getElem?_cons_succ] at d2; have hst8 := hid (hst7'.out.put (t := tb) hg8 hO8); replace hbk8 := hid hbk8; clear hO8 hg8 hat8)
            go_roundw
            case rel =>
              have h8 := hst8.out
              rw [← htb, show ((a : Int) != 0) = decide (a ≠ 0) from by rw [Bool.eq_iff_iff]; simp, hacs2.out, hd1.out] at h8
              exact ⟨i + 1, _, _, _, _, _, by rw [hd1.out], by go_num, h8, hxs2.out, hjs2.out, by rw [← hd1.out]; omega⟩
            case measure => simp [intOf]; omega
    · have hres' := hid (numRes_ends hjs.out (by omega) hle)
      rw [List.take_of_length_le (show (nsAt nx L n0 i).length ≤ i by omega)] at hst
      have hro := hid (hst.fam.rowsOwn hst.tab)
      have hac := hst.acc
      have hBm := hst.below
      have hbk := hst.blk
      have d0 := hbk.cell 0
      have d1 := hbk.cell 1
      have d2 := hbk.cell 2
      have hresr := hres2.out.below hBm hres2.out.lt
      have q0 := hresr.cell 0
      have q1 := hresr.cell 1
      have q2 := hresr.cell 2
      have f0 := hresr.frozen 0
      have f1 := hresr.frozen 1
      have f2 := hresr.frozen 2
      simp only [List.getElem?_toArray, List.getElem?_cons_zero, List.getElem?_cons_succ] at q0 q1 q2 d0 d1 d2
      have hBr := hB2.trans (hBm.mono hB2.size)
      have hau : Hid (AuOwn wr w2.heap.size (.slice AR xs.length cR) (.slice AA ((nsAt nx L n0 i).map fun S => decide (S ≠ 0)).length cA) (prAu al (nsAt nx L n0 i, rowsTo nx L n0 i)) xs) := hid ⟨hro.out, by rw [hxs.out]; rfl, hac⟩
      have hlt2 : w.heap.size + 1 < w2.heap.size := by omega
      replace hst := hid hst
      replace hac := hid hac
      replace hbk := hid hbk
      replace hBm := hid hBm
      replace hresr := hid hresr
      obtain ⟨nA, hnA⟩ : ∃ nA, nA = ((nsAt nx L n0 i).map fun S => decide (S ≠ 0)).length := ⟨_, rfl⟩
      rw [← hnA] at hau d2
      replace hnA := hid hnA
      go_wp2
      refine bodyPost_ret (v := .tuple #[.agg #[.int .i64 al, .slice AR xs.length cR, .slice AA nA cA], .bool true]) (by simp [results, Tryd.results92, go_sem, q0, q1, q2]) rfl ?_
      rw [hnum.out, hres'.out]
      exact ⟨by (repeat (first | exact Below.refl _ _ | assumption | refine Below.drew ?_ | refine Below.alloc ?_ (by first | omega | (simp; done) | (simp; omega)) _ | refine Below.setCell ?_ (by first | omega | (simp; done) | (simp; omega)) _)), _, _, xs, rfl, (((hau.out.setFar hlt2 _).setFar hlt2 _).setFar hlt2 _).base (by omega)⟩

end Go.Proofs.YtkoganldcmhopaaDoor

/- The reference's ProjectSystem and Determinize. -/
namespace Go.Proofs.YtkoganldcmhopaaDoor
open Go.RowKit Go.BigFrame Go.Maps AG

theorem prA_ok {s : Sy} {al : Int} (h : prOk s al = true) : prA s al = (prNum s al).elim auNil (prAu al) ∧ prK s al = (prNum s al).isSome := by
  unfold prA prK prOpt
  rw [if_pos h]
  cases prNum s al <;> exact ⟨rfl, rfl⟩

set_option maxRecDepth 100000 in
set_option maxHeartbeats 4000000 in
theorem specDeterminize_any (s : Sy) (A : Option Addr) (c : Nat) (w : World) (hl : s.es.length ≤ c) (hc : c ≤ 9223372036854775807) (hr : EdsAt w w.heap.size A s.es) :
    Calls Tryd.prog 35 #[s.val A c] w (PrPost w (prA s s.al) (prK s s.al)) := by
  obtain ⟨w0, hw0, hz0, hB0, hS, hU⟩ := boxed2 w #[Value.int IntKind.i64 s.al, Value.int IntKind.i64 s.st, Value.slice A s.es.length c] 30 #[Value.int IntKind.i64 0, Value.slice none 0 0, Value.slice none 0 0] 26
  have hres : Blk w0 (w.heap.size + 1) 26 #[Value.int IntKind.i64 0, Value.slice none 0 0, Value.slice none 0 0] := by
    rw [← hw0]
    have := Blk.new (w.alloc (.cells #[Value.int IntKind.i64 s.al, Value.int IntKind.i64 s.st, Value.slice A s.es.length c] 30)) 26 #[Value.int IntKind.i64 0, Value.slice none 0 0, Value.slice none 0 0]
    simpa using this
  have hr0 := hid (hr.later hB0)
  have p0 := hS 0 _ rfl _ (Below.refl _ _)
  have p1 := hS 1 _ rfl _ (Below.refl _ _)
  have p2 := hS 2 _ rfl _ (Below.refl _ _)
  replace hr := hid hr
  replace hres := hid hres
  unfold Sy.val
  go_enter Tryd.func35, Tryd.ntmps35
  go_wp2_with fail
  refine (specSystemValid_any s A c w0 hl hc hr0.out).mono ?_
  rintro e w1 ⟨rfl, hb1⟩
  have hC1 := hb1.mono hz0
  have hB1 := hB0.trans (hb1.mono hB0.size)
  have hz1 := hb1.size
  clear p0 p1 p2 hw0
  have p0 := hS 0 _ rfl _ hC1
  have p1 := hS 1 _ rfl _ hC1
  have p2 := hS 2 _ rfl _ hC1
  have q0 := (hres.out.below hb1 hres.out.lt).cell 0
  have q1 := (hres.out.below hb1 hres.out.lt).cell 1
  have q2 := (hres.out.below hb1 hres.out.lt).cell 2
  have f0 := (hres.out.below hb1 hres.out.lt).frozen 0
  have f1 := (hres.out.below hb1 hres.out.lt).frozen 1
  have f2 := (hres.out.below hb1 hres.out.lt).frozen 2
  simp only [List.getElem?_toArray, List.getElem?_cons_zero, List.getElem?_cons_succ] at q0 q1 q2
  cases hok : sysOk s
  case false =>
    have hbad := hid (prA_bad (s := s) (al := s.al) (by unfold prOk; rw [hok]; rfl))
    replace hok := hid hok
    go_wp2
    refine bodyPost_ret (v := .tuple #[.agg #[.int .i64 0, .slice none 0 0, .slice none 0 0], .bool false]) (by simp [results, Tryd.results35, go_sem, q0, q1, q2]) rfl ?_
    rw [hbad.out.1, hbad.out.2]
    exact ⟨by (repeat (first | exact Below.refl _ _ | assumption | refine Below.drew ?_ | refine Below.alloc ?_ (by first | omega | (simp; done) | (simp; omega)) _ | refine Below.setCell ?_ (by first | omega | (simp; done) | (simp; omega)) _)), _, _, _, rfl, AuOwn.nil _ _⟩
  case true =>
  have hin := hid (sysOk_in hok)
  have hal := sysOk_alpha hok
  have hok' := hid hok
  clear hok
  have haa := hal
  have hpk : Hid (prOk s s.al = true) := hid (prOk_self hok'.out)
  go_wp2_with fail
  have hr1 := hid (hr0.out.later hb1)
  have hpa := hid (prA_ok hpk.out)
  refine (l6Subsets_any s A c s.al w1 hin.out hal haa hl hc hr1.out).mono ?_
  rintro e w2 ⟨hb2, v1, v2, xs, rfl, hau⟩
  rw [← hpa.out.1] at hau ⊢
  rw [← hpa.out.2]
  have hB2 := hB1.trans (hb2.mono hB1.size)
  have hres2 := hres.out.below (hb1.trans (hb2.mono hz1)) hres.out.lt
  clear p0 p1 p2 q0 q1 q2 f0 f1 f2
  have q0 := hres2.cell 0
  have q1 := hres2.cell 1
  have q2 := hres2.cell 2
  have f0 := hres2.frozen 0
  have f1 := hres2.frozen 1
  have f2 := hres2.frozen 2
  simp only [List.getElem?_toArray, List.getElem?_cons_zero, List.getElem?_cons_succ] at q0 q1 q2
  have hg : w.heap.size + 1 < w1.heap.size := by omega
  have hf : Hid (∀ u v z, AuOwn (((w2.setCell ⟨w.heap.size + 1, 0, none⟩ u).setCell ⟨w.heap.size + 1, 1, none⟩ v).setCell ⟨w.heap.size + 1, 2, none⟩ z) w.heap.size v1 v2 (prA s s.al) xs) := hid fun u v z => (((hau.setFar hg u).setFar hg v).setFar hg z).base (by omega)
  obtain ⟨A1, c1, B1, d1, rfl, rfl, -⟩ := hau.at_
  replace hau := hid hau
  replace hres2 := hid hres2
  obtain ⟨a, ha⟩ : ∃ a, a = prA s s.al := ⟨_, rfl⟩
  obtain ⟨ok, hok⟩ : ∃ ok, ok = prK s s.al := ⟨_, rfl⟩
  rw [← ha] at hf ⊢
  rw [← hok]
  replace ha := hid ha
  replace hok := hid hok
  go_wp2
  refine bodyPost_ret (v := .tuple #[.agg #[.int .i64 a.al, .slice A1 a.nx.length c1, .slice B1 a.ac.length d1], .bool ok]) (by simp [results, Tryd.results35, go_sem, q0, q1, q2]) rfl ?_
  have ha' := ha.out
  have hok' := hok.out
  subst ha'
  subst hok'
  exact ⟨by (repeat (first | exact Below.refl _ _ | assumption | refine Below.drew ?_ | refine Below.alloc ?_ (by first | omega | (simp; done) | (simp; omega)) _ | refine Below.setCell ?_ (by first | omega | (simp; done) | (simp; omega)) _)), _, _, xs, rfl, hf.out _ _ _⟩

end Go.Proofs.YtkoganldcmhopaaDoor

/- Plain: how many bits a small number has. -/
namespace AG

def popE (x : Nat) : Nat := x % 2 + x / 2 % 2 + x / 4 % 2 + x / 8 % 2 + x / 16 % 2 + x / 32 % 2 + x / 64 % 2 + x / 128 % 2 + x / 256 % 2 + x / 512 % 2 + x / 1024 % 2 + x / 2048 % 2 + x / 4096 % 2 + x / 8192 % 2 + x / 16384 % 2 + x / 32768 % 2
/-- The library's steps. -/
def popS (x : Nat) : Nat :=
  let x1 := (x / 2 &&& 6148914691236517205) + (x &&& 6148914691236517205)
  let x2 := (x1 / 4 &&& 3689348814741910323) + (x1 &&& 3689348814741910323)
  let x3 := x2 / 16 + x2 &&& 1085102592571150095
  let x4 := x3 + x3 / 256
  let x5 := x4 + x4 / 65536
  let x6 := x5 + x5 / 4294967296
  x6 &&& 127
theorem pop_all : ∀ a : Fin 256, ∀ b : Fin 256, popE (a.val * 256 + b.val) = popS (a.val * 256 + b.val) := by decide +kernel
theorem pop_steps (x : Nat) (hx : x < 65536) : popE x = popS x := by
  have := pop_all ⟨x / 256, by omega⟩ ⟨x % 256, by omega⟩
  simp only at this
  rwa [show x / 256 * 256 + x % 256 = x from by omega] at this

end AG

/- Plain: ranks in a set, and a system with only some of its states. -/
namespace AG

/-- How many numbers below n are in the set. -/
def rankN (S : Nat) : Nat → Nat
  | 0 => 0
  | n + 1 => rankN S n + if S.testBit n = true then 1 else 0
theorem rankN_le (S : Nat) : ∀ n, rankN S n ≤ n
  | 0 => Nat.le_refl _
  | n + 1 => by
    have := rankN_le S n
    unfold rankN
    split <;> omega
theorem bit_num (x i : Nat) : (if x.testBit i = true then 1 else 0) = x / 2 ^ i % 2 := by
  have h := Nat.testBit_eq_decide_div_mod_eq (x := x) (i := i)
  rw [h]
  by_cases hh : x / 2 ^ i % 2 = 1
  · simp [hh]
  · simp [hh]; omega
theorem popE_rank (x : Nat) : popE x = rankN x 16 := by
  unfold popE
  simp only [rankN, bit_num]
  simp
theorem rank_mask (S n : Nat) : ∀ m, n ≤ m → rankN (S &&& (2 ^ n - 1)) m = rankN S n := by
  have key : ∀ i, (S &&& (2 ^ n - 1)).testBit i = (S.testBit i && decide (i < n)) := fun i => by rw [Nat.testBit_and, Nat.testBit_two_pow_sub_one]
  have low : ∀ m, m ≤ n → rankN (S &&& (2 ^ n - 1)) m = rankN S m := by
    intro m
    induction m with
    | zero => intro _; rfl
    | succ m ih =>
      intro h
      rw [rankN, rankN, ih (by omega), key, decide_eq_true (by omega : m < n), Bool.and_true]
  intro m
  induction m with
  | zero => intro h; exact low 0 (by omega) |>.trans (by rw [show n = 0 from by omega])
  | succ m ih =>
    intro h
    by_cases e : n = m + 1
    · rw [e, ← e]; exact low n (Nat.le_refl _)
    · rw [rankN, ih (by omega), key, decide_eq_false (by omega : ¬ m < n)]
      simp
def trimE (R : Nat) (e : Ed) : Ed := ⟨(rankN R e.f.toNat : Nat), e.l, (rankN R e.t.toNat : Nat)⟩
def keptE (R : Nat) (e : Ed) : Bool := R.testBit e.f.toNat && R.testBit e.t.toNat
def trimEs (R : Nat) (es : List Ed) : List Ed := (es.filter (keptE R)).map (trimE R)
/-- A system with only the states of a set, renumbered. -/
def trimSy (s : Sy) (R : Nat) : Sy := ⟨s.al, (rankN R s.st.toNat : Nat), trimEs R s.es⟩
theorem trimEs_len (R : Nat) (es : List Ed) : (trimEs R es).length ≤ es.length := by
  unfold trimEs
  rw [List.length_map]
  exact List.length_filter_le _ _

end AG

/- Plain: a system with only its reached states does the same. -/
namespace AG

theorem rank_mono (S : Nat) {a b : Nat} (h : a ≤ b) : rankN S a ≤ rankN S b := by
  induction b with
  | zero => rw [show a = 0 from by omega]; exact Nat.le_refl _
  | succ b ih =>
    by_cases e : a = b + 1
    · rw [e]; exact Nat.le_refl _
    · have := ih (by omega)
      rw [rankN]
      omega
theorem rank_lt {S a b : Nat} (h : a < b) (ha : S.testBit a = true) : rankN S a < rankN S b := by
  have h1 : rankN S (a + 1) = rankN S a + 1 := by rw [rankN, ha]; simp
  have h2 := rank_mono S (show a + 1 ≤ b from h)
  omega
theorem rank_inj {S a b : Nat} (ha : S.testBit a = true) (hb : S.testBit b = true) (h : rankN S a = rankN S b) : a = b := by
  rcases Nat.lt_trichotomy a b with h1 | h1 | h1
  · have := rank_lt h1 ha; omega
  · exact h1
  · have := rank_lt h1 hb; omega

theorem edgeLt_iff (a b : Ed) : edgeLt a b = true ↔ a.f < b.f ∨ (a.f = b.f ∧ (a.l < b.l ∨ (a.l = b.l ∧ a.t < b.t))) := by
  unfold edgeLt
  by_cases h1 : a.f = b.f
  · by_cases h2 : a.l = b.l
    · simp [h1, h2]
    · simp [h1, h2]
  · simp [h1]
theorem edgeLt_trans {a b c : Ed} (h : edgeLt a b = true) (k : edgeLt b c = true) : edgeLt a c = true := by
  rw [edgeLt_iff] at h k ⊢
  omega
theorem edges_pairwise {s : Sy} (h : sysOk s = true) : s.es.Pairwise fun a b => edgeLt a b = true := by
  rw [List.pairwise_iff_getElem]
  intro i j hi hj hij
  induction j with
  | zero => omega
  | succ j ih =>
    have h1 := sysOk_lt h (i := j) (by omega)
    by_cases e : i = j
    · subst e; exact h1
    · exact edgeLt_trans (ih (by omega) (by omega)) h1
theorem sysOk_of {s : Sy} (h1 : alphaOk s.al = true) (h2 : 1 ≤ s.st ∧ s.st ≤ 16) (h3 : ∀ e ∈ s.es, edgeOk s.al s.st e = true) (h4 : s.es.Pairwise fun a b => edgeLt a b = true) : sysOk s = true := by
  unfold sysOk
  refine decide_eq_true ⟨h1, h2.1, h2.2, fun i hi _ => ⟨h3 _ (List.getElem_mem _), fun j hj hji => ?_⟩⟩
  exact List.pairwise_iff_getElem.1 h4 j i hj hi (by omega)

theorem trim_mem {s : Sy} {R : Nat} {e' : Ed} : e' ∈ (trimSy s R).es ↔ ∃ e ∈ s.es, R.testBit e.f.toNat = true ∧ R.testBit e.t.toNat = true ∧ e' = trimE R e := by
  show e' ∈ trimEs R s.es ↔ _
  unfold trimEs
  rw [List.mem_map]
  constructor
  · rintro ⟨e, he, rfl⟩
    rw [List.mem_filter] at he
    unfold keptE at he
    rw [Bool.and_eq_true] at he
    exact ⟨e, he.1, he.2.1, he.2.2, rfl⟩
  · rintro ⟨e, he, h1, h2, rfl⟩
    exact ⟨e, List.mem_filter.2 ⟨he, by unfold keptE; rw [h1, h2]; rfl⟩, rfl⟩

/-- No two edges from a reached state have one letter. -/
def DetP (s : Sy) : Prop := ∀ a ∈ s.es, ∀ b ∈ s.es, (reachAll s).testBit a.f.toNat = true → a.f = b.f → a.l = b.l → a = b
theorem detAt_iff {s : Sy} (hs : sysOk s = true) : detAt s (reachAll s) s.es.length ↔ DetP s := by
  have hp := List.pairwise_iff_getElem.1 (edges_pairwise hs)
  constructor
  · intro h a ha b hb hr hf hl
    obtain ⟨i, hi, rfl⟩ := List.getElem_of_mem ha
    obtain ⟨j, hj, rfl⟩ := List.getElem_of_mem hb
    have key : ∀ i j (hi : i < s.es.length) (hj : j < s.es.length), i < j → (reachAll s).testBit s.es[i].f.toNat = true → s.es[i].f = s.es[j].f → s.es[i].l = s.es[j].l → False := by
      intro i j hi hj hij hr hf hl
      refine h i (by omega) (by omega) ⟨by rw [Has_nat]; exact hr, ?_⟩
      have h1 := hp i (i + 1) hi (by omega) (by omega)
      by_cases e : i + 1 = j
      · subst e; exact ⟨hf, hl⟩
      · have h2 := hp (i + 1) j (by omega) hj (by omega)
        rw [edgeLt_iff] at h1 h2
        constructor <;> omega
    rcases Nat.lt_trichotomy i j with e | e | e
    · exact (key i j hi hj e hr hf hl).elim
    · subst e; rfl
    · exact (key j i hj hi e (by rw [← hf]; exact hr) hf.symm hl.symm).elim
  · intro h i hi _ ⟨h1, h2, h3⟩
    rw [Has_nat] at h1
    have e := h _ (List.getElem_mem _) _ (List.getElem_mem hi) h1 h2 h3
    have h4 := hp i (i + 1) (by omega) hi (by omega)
    rw [e, edgeLt_iff] at h4
    omega
end AG

/- Words as bytes: their letters, their alphabets, what is left of them, the states behind them. -/
namespace AG

/-- The number of the letter at a place of a word. -/
def lz (w : ByteArray) (i : Nat) : Int := ((w.data.getD i 0).toNat : Int) - 97
theorem lz_range (w : ByteArray) (i : Nat) : -97 ≤ lz w i ∧ lz w i ≤ 158 := by
  unfold lz
  have := (w.data.getD i 0).toNat_lt
  omega

end AG

/- The program's AutomatonValid. -/
namespace Go.Proofs.YtkoganldcmhopaaDoor
open Go.RowKit Go.BigFrame AG

def rowOk (L n : Nat) (r : List Int) : Prop := r.length = L ∧ ∀ q ∈ r, 0 ≤ q ∧ q < (n : Int)
theorem auOk_iff (a : Au) : auOk a = true ↔ alphaOk a.al = true ∧ 1 ≤ a.nx.length ∧ a.nx.length ≤ 12 ∧ a.ac.length = a.nx.length ∧ ∀ r ∈ a.nx, rowOk (letters a.al).length a.nx.length r := by
  unfold auOk rowOk
  rw [decide_eq_true_eq]
theorem auOk_no {a : Au} (h : ¬ (alphaOk a.al = true ∧ 1 ≤ a.nx.length ∧ a.nx.length ≤ 12 ∧ a.ac.length = a.nx.length ∧ ∀ r ∈ a.nx, rowOk (letters a.al).length a.nx.length r)) : auOk a = false := by
  rw [← Bool.not_eq_true, auOk_iff]
  exact h

set_option maxRecDepth 100000 in
set_option maxHeartbeats 4000000 in
theorem implAutomatonValid_any (a : Au) (A B : Option Addr) (c d : Nat) (w : World) (ha : AuAt w A c B d a) :
    Calls Tryd.prog 46 #[a.val A c B d] w fun e w' => e = .returned (.bool (auOk a)) ∧ Below w.heap.size w w' := by
  obtain ⟨cl, cm, dl, dm, hrows, -⟩ := ha
  unfold AG.Au.val
  obtain ⟨w0, hw0, hz0, hB0, hS⟩ := boxed w #[Value.int IntKind.i64 a.al, Value.slice A a.nx.length c, Value.slice B a.ac.length d] 26
  have hr0 := hid (hrows.later hB0)
  have p0 := hS 0 _ rfl _ (Below.refl _ _)
  have p1 := hS 1 _ rfl _ (Below.refl _ _)
  have p2 := hS 2 _ rfl _ (Below.refl _ _)
  replace hrows := hid hrows
  go_enter Tryd.func46, Tryd.ntmps46
  go_wp2_with fail
  refine (isAlphabet_any a.al w0).mono ?_
  rintro e w1 ⟨rfl, rfl⟩
  cases hal : alphaOk a.al
  case false =>
    have hno := hid (auOk_no (a := a) (by rw [hal]; simp))
    replace hal := hid hal
    go_wp2
    go_ret
    exact ⟨ret_bool (by rw [hno.out]), hB0⟩
  case true =>
  have hal' := hid hal
  clear hal
  by_cases hn1 : 1 ≤ a.nx.length
  case neg =>
    have hno := hid (auOk_no (a := a) (by omega))
    have ht : ((a.nx.length : Int) < 1) := by omega
    go_wp2
    go_ret
    exact ⟨ret_bool (by rw [hno.out]), hB0⟩
  by_cases hn2 : a.nx.length ≤ 12
  case neg =>
    have hno := hid (auOk_no (a := a) (by omega))
    have ht : ¬ ((a.nx.length : Int) < 1) := by omega
    have ht2 : ((12 : Int) < (a.nx.length : Int)) := by omega
    go_wp2
    go_ret
    exact ⟨ret_bool (by rw [hno.out]), hB0⟩
  have ht : ¬ ((a.nx.length : Int) < 1) := by omega
  have ht2 : ¬ ((12 : Int) < (a.nx.length : Int)) := by omega
  by_cases hn3 : a.ac.length = a.nx.length
  case neg =>
    have hno := hid (auOk_no (a := a) (fun h => hn3 h.2.2.2.1))
    have ht3 : ((a.ac.length : Int) != (a.nx.length : Int)) = true := by simp; omega
    replace hn3 := hid hn3
    go_wp2
    go_ret
    exact ⟨ret_bool (by rw [hno.out]), hB0⟩
  have ht3 : ((a.ac.length : Int) != (a.nx.length : Int)) = false := by simp; omega
  replace hn3 := hid hn3
  go_wp2_with fail
  refine (lettersOf_any a.al w0).mono ?_
  rintro e w2 ⟨lv, rfl, hown2, hb2⟩
  obtain ⟨AL, cL, rfl, hcL, hcL'⟩ := own_slice hown2
  have hB2 := hB0.trans (hb2.mono hB0.size)
  have hC2 := hb2.mono hz0
  have hz2 := hb2.size
  have hr2 := hid (hr0.out.later hb2)
  clear p0 p1 p2 hown2
  have p1 := hS 1 _ rfl _ hC2
  obtain ⟨L, hL⟩ : ∃ L, Hid (L = (letters a.al).length) := ⟨_, hid rfl⟩
  rw [← hL.out] at hcL ⊢
  have hL6 : L ≤ 6 := by rw [hL.out]; exact lettersTo_len a.al 6
  go_wp2_with fail
  clear p1
  go_loopw [40] (fun iv wr => ∃ i : Nat, iv = .int .i64 (i : Nat) ∧ i ≤ a.nx.length ∧ (∀ r ∈ a.nx.take i, rowOk L a.nx.length r) ∧ Below w2.heap.size w2 wr) (fun iv _ => a.nx.length - (intOf iv).toNat)
  case atStart => exact ⟨0, rfl, by omega, by simp, Below.refl _ _⟩
  case round =>
    obtain ⟨i, rfl, hi, hok, hb⟩ := hrel
    have hBr := hB2.trans (hb.mono hB2.size)
    by_cases hlt : i < a.nx.length
    · obtain ⟨b, o, hA, hbB, hE⟩ := hr2.out (by omega)
      subst hA
      obtain ⟨Ai, ci, e0, h1, h2, h3⟩ := hE i hlt
      rw [← hb.cell (by simpa using hbB)] at e0
      obtain ⟨r, hr⟩ : ∃ r, Hid (r = a.nx[i]) := ⟨_, hid rfl⟩
      rw [← hr.out] at e0 h1 h3
      have hmem : Hid (r ∈ a.nx) := hid (by rw [hr.out]; exact List.getElem_mem _)
      have k1 : (0 : Int) ≤ (i : Int) ∧ (i : Int) < (a.nx.length : Int) := by omega
      have h3' := hid h3
      replace hE := hid hE
      replace hok := hid hok
      clear h3
      by_cases hrl : r.length = L
      case neg =>
        have hno := hid (auOk_no (a := a) (fun h => hrl (by rw [hL.out]; exact (h.2.2.2.2 r hmem.out).1)))
        have hq : ((r.length : Int) != (L : Int)) = true := by simp; omega
        replace hrl := hid hrl
        go_wp2
        go_ret
        exact ⟨ret_bool (by rw [hno.out]), hBr⟩
      have hq : ((r.length : Int) != (L : Int)) = false := by simp; omega
      replace hrl := hid hrl
      go_wp2_with fail
      go_loopw [50] (fun jv wq => ∃ j : Nat, jv = .int .i64 (j : Nat) ∧ j ≤ r.length ∧ (∀ q ∈ r.take j, 0 ≤ q ∧ q < (a.nx.length : Int)) ∧ Below w2.heap.size w2 wq) (fun jv _ => r.length - (intOf jv).toNat)
      case atStart => exact ⟨0, rfl, by omega, by simp, hb⟩
      case round =>
        obtain ⟨j, rfl, hj, hin, hbq⟩ := hrel
        have hBq := hB2.trans (hbq.mono hB2.size)
        clear e0
        by_cases hjl : j < r.length
        · obtain ⟨bj, oj, hA, hbj, hcell⟩ := h3'.out (by omega)
          subst hA
          have c0 := hcell j hjl
          rw [← hbq.cell (by simpa using hbj)] at c0
          obtain ⟨q, hq'⟩ : ∃ q, Hid (q = r[j]) := ⟨_, hid rfl⟩
          rw [← hq'.out] at c0
          have hqm : Hid (q ∈ r) := hid (by rw [hq'.out]; exact List.getElem_mem _)
          have k2 : (0 : Int) ≤ (j : Int) ∧ (j : Int) < (r.length : Int) := by omega
          have p1 := hS 1 _ rfl _ (hC2.trans (hbq.mono (by omega)))
          replace hcell := hid hcell
          replace hin := hid hin
          by_cases hqn : 0 ≤ q ∧ q < (a.nx.length : Int)
          · have hq1 : ¬ (q < 0) := by omega
            have hq2 : ¬ ((a.nx.length : Int) ≤ q) := by omega
            go_wp2
            go_roundw
            case rel =>
              refine ⟨j + 1, by go_num, by omega, fun y hy => ?_, hbq⟩
              rw [List.take_succ_eq_append_getElem hjl, List.mem_append, List.mem_singleton, ← hq'.out] at hy
              rcases hy with hy | rfl
              · exact hin.out y hy
              · exact hqn
            case measure => simp [intOf]; omega
          · have hno := hid (auOk_no (a := a) (fun h => hqn ((h.2.2.2.2 r hmem.out).2 q hqm.out)))
            by_cases hq1 : q < 0
            · go_wp2
              go_ret
              exact ⟨ret_bool (by rw [hno.out]), hBq⟩
            · have hq2 : ((a.nx.length : Int) ≤ q) := by omega
              go_wp2
              go_ret
              exact ⟨ret_bool (by rw [hno.out]), hBq⟩
        · obtain rfl : j = r.length := by omega
          rw [List.take_length] at hin
          replace hin := hid hin
          go_wp2
          go_roundw
          case rel =>
            refine ⟨i + 1, by go_num, by omega, fun y hy => ?_, hbq⟩
            rw [List.take_succ_eq_append_getElem hlt, List.mem_append, List.mem_singleton, ← hr.out] at hy
            rcases hy with hy | rfl
            · exact hok.out y hy
            · exact ⟨hrl.out, hin.out⟩
          case measure => simp [intOf]; omega
    · rw [List.take_of_length_le (by omega)] at hok
      have hyes := hid ((auOk_iff a).2 ⟨hal'.out, hn1, hn2, hn3.out, by rw [← hL.out]; exact hok⟩)
      replace hok := hid hok
      go_wp2
      go_ret
      exact ⟨ret_bool (by rw [hyes.out]), hBr⟩

end Go.Proofs.YtkoganldcmhopaaDoor

/- The program's tableOf. -/
namespace Go.Proofs.YtkoganldcmhopaaDoor
open Go.RowKit Go.BigFrame AG

/-- The table of an automaton: where each letter leads from each of n states. -/
def TabA (w : World) (g n : Nat) (a : Au) : Prop := g < w.heap.size ∧ ∀ q l, q < n → l < 6 → w.cell? ⟨g, q * 6 + l, none⟩ = some (.int .i64 (goA a q l : Nat))
theorem TabA.later {w w' : World} {g n : Nat} {a : Au} (h : TabA w g n a) (hb : Below w.heap.size w w') : TabA w' g n a := ⟨Nat.lt_of_lt_of_le h.1 hb.size, fun q l h1 h2 => by rw [hb.cell (by simpa using h.1)]; exact h.2 q l h1 h2⟩
/-- Every row has as many entries as there are letters, and they are no negative numbers. -/
def tabOk (a : Au) : Prop := ∀ r ∈ a.nx, r.length = (letters a.al).length ∧ ∀ q ∈ r, 0 ≤ q
theorem tabOk_of {a : Au} (h : auOk a = true) : tabOk a := fun r hr => by
  have := ((auOk_iff a).1 h).2.2.2.2 r hr
  exact ⟨this.1, fun q hq => (this.2 q hq).1⟩
/-- .. when i letters of the row have been entered. -/
def goK (a : Au) (q i l : Nat) : Int := if l ∈ (letters a.al).take i then (a.nx.getD q []).getD ((letters a.al).idxOf l) 0 else (q : Int)
theorem goK_done {a : Au} (h : tabOk a) {q l : Nat} (hq : q < a.nx.length) : goK a q (letters a.al).length l = ((goA a q l : Nat) : Int) := by
  unfold goK goA
  rw [List.take_length]
  split
  · rename_i hl
    have hg : a.nx.getD q [] = a.nx[q] := by rw [List.getD_eq_getElem?_getD, List.getElem?_eq_getElem hq]; rfl
    obtain ⟨h1, h2⟩ := h a.nx[q] (List.getElem_mem _)
    have hk : (letters a.al).idxOf l < (a.nx[q]).length := by rw [h1]; exact List.idxOf_lt_length_iff.2 hl
    rw [hg]
    have : (a.nx[q]).getD ((letters a.al).idxOf l) 0 = (a.nx[q])[(letters a.al).idxOf l] := by rw [List.getD_eq_getElem?_getD, List.getElem?_eq_getElem hk]; rfl
    rw [this, Int.toNat_of_nonneg (h2 _ (List.getElem_mem _))]
  · rfl
theorem goK_next {a : Au} {q i l : Nat} (hi : i < (letters a.al).length) : goK a q (i + 1) l = if l = (letters a.al)[i] then (a.nx.getD q []).getD i 0 else goK a q i l := by
  unfold goK
  rw [List.take_succ_eq_append_getElem hi]
  by_cases e : l = (letters a.al)[i]
  · have hx : (letters a.al).idxOf l = i := by
      rw [e]
      exact (show (letters a.al).Nodup from (letters_sorted a.al).imp fun h => Nat.ne_of_lt h).idxOf_getElem i hi
    rw [if_pos e, if_pos (by rw [e]; exact List.mem_append_right _ (List.mem_singleton.2 rfl)), hx]
  · rw [if_neg e]
    by_cases hm : l ∈ (letters a.al).take i
    · rw [if_pos hm, if_pos (List.mem_append_left _ hm)]
    · rw [if_neg hm, if_neg]
      rw [List.mem_append, List.mem_singleton]
      rintro (h | h)
      · exact hm h
      · exact e h
/-- The cells of the table: q rows are done, of the next one those that f says. -/
structure TabSt (cs : Array Value) (n : Nat) (a : Au) (q : Nat) (f : Nat → Option Int) : Prop where
  size : cs.size = n * 6
  rows : ∀ p l, p < q → l < 6 → cs[p * 6 + l]? = some (.int .i64 (goA a p l : Nat))
  row : ∀ l v, l < 6 → f l = some v → cs[q * 6 + l]? = some (.int .i64 v)
theorem TabSt.set_ {cs : Array Value} {n : Nat} {a : Au} {q l : Nat} {f f' : Nat → Option Int} {v : Int} (h : TabSt cs n a q f) (hq : q < n) (hl : l < 6) (hf : ∀ k, k ≠ l → f' k = f k) (hv : f' l = some v) : TabSt (cs.setIfInBounds (q * 6 + l) (.int .i64 v)) n a q f' := by
  refine ⟨by simpa using h.size, fun p k hp hk => ?_, fun k u hk hu => ?_⟩
  · rw [Array.getElem?_setIfInBounds_ne (by omega)]
    exact h.rows p k hp hk
  · by_cases e : k = l
    · subst e
      rw [hv] at hu
      injection hu with hu
      subst hu
      rw [Array.getElem?_setIfInBounds_self_of_lt (by rw [h.size]; omega)]
    · rw [Array.getElem?_setIfInBounds_ne (by omega)]
      exact h.row k u hk (by rw [← hf k e]; exact hu)
theorem TabSt.over {cs : Array Value} {n : Nat} {a : Au} {q : Nat} (h : TabSt cs n a q (fun l => some (goK a q (letters a.al).length l))) (ht : tabOk a) (hq : q < a.nx.length) : TabSt cs n a (q + 1) (fun _ => none) := by
  refine ⟨h.size, fun p l hp hl => ?_, fun l v _ hv => by cases hv⟩
  by_cases e : p = q
  · subst e
    rw [h.row l _ hl rfl, goK_done ht hq]
  · exact h.rows p l (by omega) hl

theorem infoSix : (Tryd.prog.info? 113).map (fun i => (i.zero, i.size, i.bytes)) = some (some (.agg #[.int .i64 0, .int .i64 0, .int .i64 0, .int .i64 0, .int .i64 0, .int .i64 0]), 6, 48) := by kernel_rfl

set_option maxRecDepth 100000 in
set_option maxHeartbeats 8000000 in
theorem tableOf_any (a : Au) (A B : Option Addr) (c d : Nat) (w : World) (hn : a.nx.length ≤ 4096) (ht : tabOk a) (ha : AuAt w A c B d a) :
    Calls Tryd.prog 129 #[a.val A c B d] w fun e w' => ∃ g, e = .returned (.slice (some ⟨g, 0, none⟩) a.nx.length a.nx.length) ∧ TabA w' g a.nx.length a ∧ Below w.heap.size w w' := by
  obtain ⟨cl, cm, dl, dm, hrows, -⟩ := ha
  unfold AG.Au.val
  obtain ⟨i0, hi, hz0', hz1, hz2⟩ := info_parts infoSix
  have hmk := fun W => run_make_rowN (P := Tryd.prog) 111 113 i0 _ Tryd.underlying111 hi hz0' .i64 .i64 a.nx.length a.nx.length (Nat.le_refl _) (by rw [hz2]; omega) (by omega) W
  rw [hz1] at hmk
  obtain ⟨w0, hw0, hz0, hB0, hS⟩ := boxed w #[Value.int IntKind.i64 a.al, Value.slice A a.nx.length c, Value.slice B a.ac.length d] 26
  have hr0 := hid (hrows.later hB0)
  have p0 := hS 0 _ rfl _ (Below.refl _ _)
  have p1 := hS 1 _ rfl _ (Below.refl _ _)
  replace hrows := hid hrows
  replace ht := hid ht
  clear hz1 hz0' hz2 hi
  go_enter Tryd.func129, Tryd.ntmps129
  go_upto_region 2 with fail
  obtain ⟨w1, hw1⟩ : ∃ w1, w0.alloc (.cells (madeCells #[Value.int IntKind.i64 0, Value.int IntKind.i64 0, Value.int IntKind.i64 0, Value.int IntKind.i64 0, Value.int IntKind.i64 0, Value.int IntKind.i64 0] (a.nx.length * 6)) 113) = w1 := ⟨_, rfl⟩
  have hblk1 : Blk w1 w0.heap.size 113 (madeCells #[Value.int IntKind.i64 0, Value.int IntKind.i64 0, Value.int IntKind.i64 0, Value.int IntKind.i64 0, Value.int IntKind.i64 0, Value.int IntKind.i64 0] (a.nx.length * 6)) := by rw [← hw1]; exact Blk.new _ _ _
  have hB1 : Below w0.heap.size w0 w1 := by rw [← hw1]; exact (Below.refl _ _).alloc (Nat.le_refl _) _
  have hst0 : Hid (TabSt (madeCells #[Value.int IntKind.i64 0, Value.int IntKind.i64 0, Value.int IntKind.i64 0, Value.int IntKind.i64 0, Value.int IntKind.i64 0, Value.int IntKind.i64 0] (a.nx.length * 6)) a.nx.length a 0 fun _ => none) := hid ⟨size_madeCells _ _, fun p l h => by omega, fun l v _ hv => by cases hv⟩
  rw [hw1]
  generalize madeCells #[Value.int IntKind.i64 0, Value.int IntKind.i64 0, Value.int IntKind.i64 0, Value.int IntKind.i64 0, Value.int IntKind.i64 0, Value.int IntKind.i64 0] (a.nx.length * 6) = cs0 at *
  clear p0 p1 hw1 hmk
  have hz1 := hB1.size
  have p0 := hS 0 _ rfl _ (hB1.mono hz0)
  have p1 := hS 1 _ rfl _ (hB1.mono hz0)
  have hw01 := hblk1.lt
  replace hblk1 := hid hblk1
  go_wp2_with fail
  refine (lettersOf_any a.al w1).mono ?_
  rintro e w2 ⟨lv, rfl, hown2, hb2⟩
  obtain ⟨AL, cL, rfl, hcL, hcL'⟩ := own_slice hown2
  have hB2 : Below w0.heap.size w0 w2 := hB1.trans (hb2.mono hz1)
  have hblk2 := hid (hblk1.out.below hb2 hblk1.out.lt)
  have hz2 := hb2.size
  clear p0 p1
  have p0 := hS 0 _ rfl _ (hB2.mono hz0)
  have p1 := hS 1 _ rfl _ (hB2.mono hz0)
  have hr2 := hid (hr0.out.later hB2)
  have hnat := hid hown2
  have hL6 := lettersTo_len a.al 6
  obtain ⟨L, hL⟩ : ∃ L, Hid (L = letters a.al) := ⟨_, hid rfl⟩
  have hL6' : L.length ≤ 6 := by rw [hL.out]; exact hL6
  rw [← hL.out] at hcL hnat ⊢
  clear hown2 hL6
  go_wp2_with fail
  clear p0 p1
  go_loopw [20] (fun iv wr => ∃ (q : Nat) (cs : Array Value), iv = .int .i64 (q : Nat) ∧ q ≤ a.nx.length ∧ Blk wr w0.heap.size 113 cs ∧ TabSt cs a.nx.length a q (fun _ => none) ∧ KeepB (fun b => b = w0.heap.size) w2 wr) (fun iv _ => a.nx.length - (intOf iv).toNat)
  case atStart => exact ⟨0, cs0, rfl, by omega, hblk2.out, hst0.out, KeepB.refl _ _⟩
  case round =>
    obtain ⟨q, cs, rfl, hq, hblk, hst, hkp⟩ := hrel
    by_cases hlt : q < a.nx.length
    · have hBr : Below w0.heap.size w0 wr := KeepB.below hB2 hkp hB2.size fun b e => by omega
      obtain ⟨b, o, hA, hbB, hE⟩ := hr0.out (by omega)
      subst hA
      obtain ⟨Ai, ci, e0, h1, h2, h3⟩ := hE q hlt
      rw [← hBr.cell (by simpa using hbB)] at e0
      obtain ⟨r, hr⟩ : ∃ r, Hid (r = a.nx[q]) := ⟨_, hid rfl⟩
      rw [← hr.out] at e0 h1 h3
      have hrl : Hid (r.length = L.length) := hid (by rw [hr.out, hL.out]; exact (ht.out _ (List.getElem_mem hlt)).1)
      have k1 : (0 : Int) ≤ (q : Int) ∧ (q : Int) < (a.nx.length : Int) := by omega
      have h3' := hid h3
      have hst1 : Hid (TabSt cs a.nx.length a q fun l => if l < 0 then some (q : Int) else none) := hid ⟨hst.size, hst.rows, fun l v _ hv => by simp at hv⟩
      replace hE := hid hE
      replace hst := hid hst
      have hblk' := hid hblk
      have hkp' := hid hkp
      clear h3 hblk hkp
      go_wp2_with fail
      clear e0
      go_loopw [25] (fun jv wq => ∃ (l : Nat) (cs : Array Value), jv = .int .i64 (l : Nat) ∧ l ≤ 6 ∧ Blk wq w0.heap.size 113 cs ∧ TabSt cs a.nx.length a q (fun k => if k < l then some (q : Int) else none) ∧ KeepB (fun b => b = w0.heap.size) w2 wq) (fun jv _ => 6 - (intOf jv).toNat)
      case atStart => exact ⟨0, cs, rfl, by omega, hblk'.out, hst1.out, hkp'.out⟩
      case round =>
        clear hblk' hkp' hst hst1
        obtain ⟨l, cs, rfl, hl, hblk, hst, hkp⟩ := hrel
        have hsz := hst.size
        by_cases hl6 : l < 6
        · obtain ⟨v0, d0⟩ := hblk.some_ (i := q * 6 + l) (by omega)
          have z0 := hblk.frozen (q * 6 + l)
          have k2 : (0 : Int) ≤ (l : Int) ∧ (l : Int) < 6 := by omega
          have hst2 := hid (hst.set_ (l := l) (v := (q : Int)) (f' := fun k => if k < l + 1 then some (q : Int) else none) hlt hl6 (fun k hk => by
            by_cases h : k < l
            · rw [if_pos h, if_pos (by omega)]
            · rw [if_neg h, if_neg (by omega)]) (by rw [if_pos (by omega)]))
          have hb2' := hid (hblk.set_ (q * 6 + l) (.int .i64 (q : Nat)))
          have hk2 := hid (hkp.setCell ⟨w0.heap.size, q * 6 + l, none⟩ (.int .i64 (q : Nat)) fun _ => rfl)
          replace hst := hid hst
          replace hblk := hid hblk
          go_wp2
          go_roundw
          case rel => exact ⟨l + 1, _, by go_num, by omega, hb2'.out, hst2.out, hk2.out⟩
          case measure => simp [intOf]; omega
        · obtain rfl : l = 6 := by omega
          have hst1 : Hid (TabSt cs a.nx.length a q fun l => some (goK a q 0 l)) := hid ⟨hst.size, hst.rows, fun l v hl hv => hst.row l v hl (by rw [if_pos hl]; unfold goK at hv; simpa using hv)⟩
          replace hst := hid hst
          have hblk' := hid hblk
          have hkp' := hid hkp
          clear hblk hkp
          go_wp2_with fail
          go_loopw [37] (fun jv wq => ∃ (j : Nat) (cs : Array Value), jv = .int .i64 (j : Nat) ∧ j ≤ L.length ∧ Blk wq w0.heap.size 113 cs ∧ TabSt cs a.nx.length a q (fun k => some (goK a q j k)) ∧ KeepB (fun b => b = w0.heap.size) w2 wq) (fun jv _ => L.length - (intOf jv).toNat)
          case atStart => exact ⟨0, cs, rfl, by omega, hblk'.out, hst1.out, hkp'.out⟩
          case round =>
            clear hblk' hkp' hst hst1
            obtain ⟨j, cs, rfl, hj, hblk, hst, hkp⟩ := hrel
            have hsz := hst.size
            by_cases hjl : j < L.length
            · have hBq : Below w0.heap.size w0 wr := KeepB.below hB2 hkp hB2.size fun b e => by omega
              have hnr := own_keep hnat.out hkp (fun g hg e => by have := own_block hnat.out g hg; omega)
              obtain ⟨gL, capL, hve, -, hgL, -, -, hcL2⟩ := own_shape hnr (by omega)
              injection hve with e1 e2 e3
              subst e1
              subst e3
              clear e2
              have l0 := hcL2 j _ (show (L.map fun (n : Nat) => Value.int .i64 (n : Int))[j]? = some (.int .i64 (L[j] : Nat)) from by simp [hjl])
              obtain ⟨l, hl⟩ : ∃ l, Hid (l = L[j]) := ⟨_, hid rfl⟩
              rw [← hl.out] at l0
              have hl6 : l < 6 := (letters_lt (A := a.al) (by rw [← hL.out, hl.out]; exact List.getElem_mem _)).1
              obtain ⟨bi, oi, hAi, hbi, hci⟩ := h3'.out (by have := hrl.out; omega)
              subst hAi
              have hjr : j < r.length := by have := hrl.out; omega
              have r0 := hci j hjr
              obtain ⟨x, hx⟩ : ∃ x, Hid (x = r[j]) := ⟨_, hid rfl⟩
              rw [← hx.out, ← hBq.cell (by simpa using hbi)] at r0
              obtain ⟨v0, d0⟩ := hblk.some_ (i := q * 6 + l) (by omega)
              have z0 := hblk.frozen (q * 6 + l)
              have k2 : (0 : Int) ≤ (j : Int) ∧ (j : Int) < (L.length : Int) ∧ (j : Int) < (r.length : Int) := by omega
              have k3 : (0 : Int) ≤ (l : Int) ∧ (l : Int) < 6 := by omega
              have hst2 := hid (hst.set_ (l := l) (v := x) (f' := fun k => some (goK a q (j + 1) k)) hlt hl6 (fun k hk => by
                rw [goK_next (by rw [← hL.out]; exact hjl), if_neg (by
                  have := hl.out
                  simp only [hL.out] at this
                  rw [← this]; exact hk)]) (by
                rw [goK_next (by rw [← hL.out]; exact hjl), if_pos (by
                  have := hl.out
                  simp only [hL.out] at this
                  exact this)]
                rw [List.getD_eq_getElem?_getD (l := a.nx), List.getElem?_eq_getElem hlt]
                show some ((a.nx[q]).getD j 0) = some x
                rw [← hr.out, List.getD_eq_getElem?_getD, List.getElem?_eq_getElem hjr, hx.out]
                rfl))
              have hb2' := hid (hblk.set_ (q * 6 + l) (.int .i64 x))
              have hk2 := hid (hkp.setCell ⟨w0.heap.size, q * 6 + l, none⟩ (.int .i64 x) fun _ => rfl)
              replace hst := hid hst
              replace hblk := hid hblk
              replace hcL2 := hid hcL2
              replace hci := hid hci
              have y0 : ∀ x', (Fam wr.heap.size wr x').cell? ⟨bi, oi + j, none⟩ = some (.int .i64 x) := fun x' => by rw [(Fam.below wr.heap.size wr x').cell (by simp; have := hBq.size; omega)]; exact r0
              have hzq := hBq.size
              have hk3 : Hid (∀ w', Below wr.heap.size wr w' → KeepB (fun b => b = w0.heap.size) w2 w') := hid fun w' hb => hkp.trans (.of_below hb)
              have hblk3 : Hid (∀ w', Below wr.heap.size wr w' → Blk w' w0.heap.size 113 cs) := hid fun w' hb => hblk.out.below hb hblk.out.lt
              clear d0 z0 r0 hb2' hk2
              go_wp2_with fail
              refine wp_region_fam_tail wr.heap.size wr 9 (by kernel_rfl) (by kernel_rfl) (Below.refl _ _) ?_
              simp only [List.take_succ_cons, List.take_zero, List.drop_succ_cons, List.drop_zero]
              (repeat (go_big_quiet_step (fail)))
              refine wpQuiet_nil ?_
              intro w5 hw5
              replace hw5 := Fam.out hw5
              have hblk5 := hblk3.out w5 hw5
              obtain ⟨v5, d5⟩ := hblk5.some_ (i := q * 6 + l) (by omega)
              have z5 := hblk5.frozen (q * 6 + l)
              have hb2' := hid (hblk5.set_ (q * 6 + l) (.int .i64 x))
              have hk2 := hid ((hk3.out w5 hw5).setCell ⟨w0.heap.size, q * 6 + l, none⟩ (.int .i64 x) fun _ => rfl)
              replace hblk5 := hid hblk5
              clear y0
              go_wp2
              go_roundw
              case rel => exact ⟨j + 1, _, by go_num, by omega, hb2'.out, hst2.out, hk2.out⟩
              case measure => simp [intOf]; omega
            · obtain rfl : j = L.length := by omega
              have hst2 : Hid (TabSt cs a.nx.length a (q + 1) fun _ => none) := hid (TabSt.over (by have := hst; rw [hL.out] at this; exact this) ht.out hlt)
              replace hst := hid hst
              replace hblk := hid hblk
              go_wp2
              go_roundw
              case rel => exact ⟨q + 1, cs, by go_num, by omega, hblk.out, hst2.out, hkp⟩
              case measure => simp [intOf]; omega
    · obtain rfl : q = a.nx.length := by omega
      have htab : Hid (TabA wr w0.heap.size a.nx.length a) := hid ⟨hblk.lt, fun p l hp hl => by rw [hblk.cell]; exact hst.rows p l hp hl⟩
      have hBr : Below w.heap.size w wr := hB0.trans ((KeepB.below hB2 hkp hB2.size fun b e => by omega).mono hB0.size)
      replace hst := hid hst
      replace hblk := hid hblk
      go_wp2
      go_ret
      exact ⟨_, rfl, htab.out, hBr⟩

end Go.Proofs.YtkoganldcmhopaaDoor

/- Letters of words: the reference's l1At, the program's letterAt. -/
namespace Go.Proofs.YtkoganldcmhopaaDoor
open Go.RowKit Go.BigFrame AG

theorem byte_at (s : ByteArray) (i : Nat) (h : i < s.size) : ((s[i]'h).toNat : Int) = lz s i + 97 := by
  unfold lz
  have : s.data.getD i 0 = s[i]'h := by
    rw [Array.getD_eq_getD_getElem?, Array.getElem?_eq_getElem (by simpa using h)]
    rfl
  rw [this]
  omega

set_option maxHeartbeats 400000 in
theorem l1At_any (s : ByteArray) (i : Nat) (w : World) (h : i < s.size) :
    Calls Tryd.prog 179 #[.string s, .int .i64 i] w fun e w' => e = .returned (.int .i64 (lz s i)) ∧ w = w' := by
  have hb := byte_at s i h
  have hr := lz_range s i
  have h0 : (0 : Int) ≤ (i : Int) ∧ (i : Int) < (s.size : Int) := by omega
  go_enter Tryd.func179, Tryd.ntmps179
  go_wp2
  go_ret
  exact ⟨rfl, rfl⟩

end Go.Proofs.YtkoganldcmhopaaDoor

/- The program's StateAfter and AcceptsWord. -/
namespace AG

end AG
namespace Go.Proofs.YtkoganldcmhopaaDoor
open Go.RowKit Go.BigFrame AG

theorem goA_lt {a : Au} (h : auOk a = true) {q l : Nat} (hq : q < a.nx.length) : goA a q l < a.nx.length := by
  unfold goA
  split
  · rename_i hl
    have hr := ((auOk_iff a).1 h).2.2.2.2 a.nx[q] (List.getElem_mem _)
    have hg : a.nx.getD q [] = a.nx[q] := by rw [List.getD_eq_getElem?_getD, List.getElem?_eq_getElem hq]; rfl
    have hk : (letters a.al).idxOf l < (a.nx[q]).length := by rw [hr.1]; exact List.idxOf_lt_length_iff.2 hl
    have : (a.nx[q]).getD ((letters a.al).idxOf l) 0 = (a.nx[q])[(letters a.al).idxOf l] := by rw [List.getD_eq_getElem?_getD, List.getElem?_eq_getElem hk]; rfl
    rw [hg, this]
    have := hr.2 _ (List.getElem_mem hk)
    omega
  · exact hq
end Go.Proofs.YtkoganldcmhopaaDoor

/- Plain: words that the automaton of a projection accepts. -/
namespace Go.Proofs.YtkoganldcmhopaaDoor
open AG

theorem prK_true {s : Sy} {al : Int} (h : prK s al = true) : prOk s al = true ∧ ∃ x, prNum s al = some x ∧ prA s al = prAu al x := by
  cases hk : prOk s al with
  | false => rw [(prA_bad hk).2] at h; cases h
  | true =>
    cases hn : prNum s al with
    | none => rw [(prA_none hn).2] at h; cases h
    | some x => exact ⟨rfl, x, rfl, (prA_some hk hn).1⟩
theorem prA_al {s : Sy} {al : Int} (h : prK s al = true) : (prA s al).al = al := by
  obtain ⟨_, x, _, e⟩ := prK_true h
  rw [e]
  rfl
theorem auOk_prA {s : Sy} {al : Int} (h : prK s al = true) : auOk (prA s al) = true := by
  obtain ⟨hk, x, hn, e⟩ := prK_true h
  rw [e]
  exact auOk_pr (prOk_parts hk).2.1 hn
end Go.Proofs.YtkoganldcmhopaaDoor
