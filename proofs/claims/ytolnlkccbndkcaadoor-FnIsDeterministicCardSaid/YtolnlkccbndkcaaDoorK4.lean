/- Lemmas, part 4: several texts in one. -/
import Derived.Test.YtolnlkccbndkcaaDoorK3
import Derived.Maps.AppendAt
import Derived.Laws.IdiomStrings
import Derived.Test.YtolnlkccbndkcaaDoorK1
import Derived.BigQuiet
import Derived.Test.YtolnlkccbndkcaaDoorK2
set_option linter.unusedSimpArgs false
set_option linter.unusedVariables false

/- What owned rows give. -/
namespace Go.Proofs.YtolnlkccbndkcaaDoor
open Go.RowKit Go.BigFrame AG

/-- What an owned row gives that is not empty. -/
theorem own_shape {w : World} {B : Nat} {e : TypeId} {size : Nat} {v : Value} {n : Nat} {xs : List Value} (h : w.ownsRow B e size v n xs) (hn : 0 < n) :
    ∃ g cap, v = .slice (some ⟨g, 0, none⟩) n cap ∧ B ≤ g ∧ g < w.heap.size ∧ n ≤ cap ∧ cap ≤ 9223372036854775807 ∧ ∀ (j : Nat) u, xs[j]? = some u → w.cell? ⟨g, j, none⟩ = some u := by
  have hlt := h.lt
  have hcells := @World.ownsRow.cells
  have hc := fun g hg => h.cells (g := g) hg
  obtain ⟨_, ⟨rfl, h0⟩ | ⟨g, cap, cur, rfl, hg, hw, h1, h2, h3, h4⟩⟩ := h
  · omega
  · refine ⟨g, cap, rfl, hg, (hlt g rfl).2, h1, h2, fun j u hj => ?_⟩
    have := hc g rfl j u hj
    rw [show ((⟨g, 0, none⟩ : Addr).add j) = ⟨g, j, none⟩ from by unfold Addr.add; split <;> simp_all] at this
    exact this

theorem own_slice {w : World} {B : Nat} {e : TypeId} {size : Nat} {v : Value} {n : Nat} {xs : List Value} (h : w.ownsRow B e size v n xs) : ∃ A c, v = .slice A n c ∧ n ≤ c ∧ c ≤ 9223372036854775807 := by
  obtain ⟨_, ⟨rfl, rfl⟩ | ⟨g, cap, cur, rfl, hg, hw, h1, h2, h3, h4⟩⟩ := h
  · exact ⟨none, 0, rfl, Nat.le_refl _, by omega⟩
  · exact ⟨_, cap, rfl, h1, h2⟩

theorem own_nats {w : World} {B : Nat} {v : Value} {ns : List Nat} (h : OwnNats w B v ns) (hn : 0 < ns.length) :
    ∃ g cap, v = .slice (some ⟨g, 0, none⟩) ns.length cap ∧ B ≤ g ∧ g < w.heap.size ∧ ns.length ≤ cap ∧ cap ≤ 9223372036854775807 ∧
      ∀ i (hi : i < ns.length), w.cell? ⟨g, i, none⟩ = some (.int .i64 (ns[i] : Nat)) := by
  obtain ⟨g, cap, hv, h1, h2, h3, h4, h5⟩ := own_shape h hn
  exact ⟨g, cap, hv, h1, h2, h3, h4, fun i hi => h5 _ _ (by simp [hi])⟩

theorem own_later {w w' : World} {base : Nat} {e : TypeId} {size : Nat} {v : Value} {n : Nat} {xs : List Value} (h : w.ownsRow base e size v n xs) (hb : Below w.heap.size w w') : w'.ownsRow base e size v n xs :=
  h.kept (row := none) ⟨hb.os, hb.tape, hb.output, hb.size, fun k hk _ => hb.block k hk⟩ (by cases v.ownBlock; exact .inl rfl; exact .inr (by simp))

end Go.Proofs.YtolnlkccbndkcaaDoor

/- The reference's l1Text. -/
namespace Go.Proofs.YtolnlkccbndkcaaDoor
open Go.RowKit Go.BigFrame AG

/-- A letter's byte. -/
def letB (l : Nat) : UInt8 := UInt8.ofNat (97 + l)

set_option maxHeartbeats 1000000 in
theorem l1Text_any (l : Nat) (h : l < 6) (w : World) :
    Calls Tryd.prog 135 #[.int .i64 l] w fun e w' => e = .returned (.string ⟨#[letB l]⟩) ∧ Below w.heap.size w w' := by
  have hb : ((letB l).toNat : Int) = 97 + (l : Int) := by
    unfold letB
    rw [UInt8.toNat_ofNat']
    omega
  have kc : (convert 22 9 (.slice (some ⟨w.heap.size, 0, none⟩) 1 1)).run Tryd.prog (w.alloc (Obj.cells #[Value.int IntKind.u8 (97 + (l : Int))] 5)) = .ok (.string ⟨#[letB l]⟩) (w.alloc (Obj.cells #[Value.int IntKind.u8 (97 + (l : Int))] 5)) :=
    run_convert_bytes_back (P := Tryd.prog) _ 22 9 5 ⟨w.heap.size, 0, none⟩ 1 [letB l] Tryd.underlying22 Tryd.underlying5 Tryd.underlying9 (fun j hj => by
      obtain rfl : j = 0 := by simpa using hj
      rw [List.getElem_cons_zero, hb]
      simp [Addr.add])
  replace hb := hid hb
  go_enter Tryd.func135, Tryd.ntmps135
  go_wp2_with fail
  go_ret
  exact ⟨rfl, by (repeat (first | exact Below.refl _ _ | assumption | refine Below.drew ?_ | refine Below.alloc ?_ (by first | omega | (simp; done) | (simp; omega)) _ | refine Below.setCell ?_ (by first | omega | (simp; done) | (simp; omega)) _))⟩

end Go.Proofs.YtolnlkccbndkcaaDoor

/- Lists of pairs of sets in memory; the reference's l5Find. -/
namespace Go.Proofs.YtolnlkccbndkcaaDoor
open Go.RowKit Go.BigFrame AG

/-- The place of p in ps, or -1. -/
def findP (ps : List (Nat × Nat)) (p : Nat × Nat) : Int :=
  match ps.findIdx? (· == p) with
  | some i => (i : Int)
  | none => -1
theorem findP_at {ps : List (Nat × Nat)} {p : Nat × Nat} {k : Nat} (hk : k < ps.length) (h : ps[k] = p) (hb : ∀ j (hj : j < ps.length), j < k → ps[j] ≠ p) : findP ps p = k := by
  unfold findP
  rw [show ps.findIdx? (· == p) = some k from List.findIdx?_eq_some_iff_getElem.2 ⟨hk, by simpa using h, fun j hj => by simpa using hb j (by omega) hj⟩]
theorem findP_none {ps : List (Nat × Nat)} {p : Nat × Nat} (hb : ∀ j (hj : j < ps.length), ps[j] ≠ p) : findP ps p = -1 := by
  unfold findP
  rw [show ps.findIdx? (· == p) = none from List.findIdx?_eq_none_iff.2 fun x hx => by
    obtain ⟨j, hj, rfl⟩ := List.mem_iff_getElem.1 hx
    simpa using hb j hj]
theorem findP_neg (ps : List (Nat × Nat)) (p : Nat × Nat) : findP ps p < 0 ↔ p ∉ ps := by
  constructor
  · intro h hp
    unfold findP at h
    cases hf : ps.findIdx? (· == p) with
    | none =>
      have := List.findIdx?_eq_none_iff.1 hf p hp
      simp at this
    | some i =>
      rw [hf] at h
      have h' : (i : Int) < 0 := h
      omega
  · intro h
    rw [findP_none fun j hj e => h (by rw [← e]; exact List.getElem_mem _)]
    decide

/-- The slice of pairs reads as ps, below block B. -/
def PairsAt (w : World) (B : Nat) (A : Option Addr) (ps : List (Nat × Nat)) : Prop :=
  0 < ps.length → ∃ b o, A = some ⟨b, o, none⟩ ∧ b < B ∧ ∀ i (h : i < ps.length), w.cell? ⟨b, o + i * 2, none⟩ = some (.int .i64 ps[i].1) ∧ w.cell? ⟨b, o + i * 2 + 1, none⟩ = some (.int .i64 ps[i].2)

theorem below_drewNp {B : Nat} {a w : World} (h : Below B a w) (n : Nat) : Below B a (w.drewN n) := h.trans ⟨rfl, rfl, rfl, Nat.le_refl _, fun _ _ => rfl⟩

set_option maxHeartbeats 2000000 in
theorem l5Find_any (ps : List (Nat × Nat)) (A : Option Addr) (c : Nat) (p : Nat × Nat) (w : World) (hl : ps.length ≤ c) (hc : c ≤ 9223372036854775807) (hr : PairsAt w w.heap.size A ps) :
    Calls Tryd.prog 134 #[.slice A ps.length c, .agg #[.int .i64 p.1, .int .i64 p.2]] w fun e w' => e = .returned (.int .i64 (findP ps p)) ∧ Below w.heap.size w w' := by
  replace hr := hid hr
  go_enter Tryd.func134, Tryd.ntmps134
  go_wp2_with fail
  obtain ⟨w0, hw0, hz0, hB0, hS⟩ := boxed w #[Value.int IntKind.i64 p.1, Value.int IntKind.i64 p.2] 115
  rw [hw0]
  clear hw0
  have s0 := hS 0 _ rfl
  have s1 := hS 1 _ rfl
  go_loopw [5] (fun i wr => ∃ k : Nat, k ≤ ps.length ∧ i = .int .i64 k ∧ (∀ j (hj : j < ps.length), j < k → ps[j] ≠ p) ∧ Below (w.heap.size + 1) w0 wr) (fun i _ => ps.length - (intOf i).toNat)
  case atStart => exact ⟨0, by omega, rfl, fun j _ h => by omega, Below.refl _ _⟩
  case round =>
    obtain ⟨k, hk, rfl, hbf, hb⟩ := hrel
    replace hbf := hid hbf
    have q0 := s0 _ hb
    have q1 := s1 _ hb
    have hzr := hb.size
    by_cases hlt : k < ps.length
    · obtain ⟨b, o, rfl, hB, hE⟩ := hr.out (by omega)
      obtain ⟨e0, e1⟩ := hE k hlt
      replace hE := hid hE
      have e0' : wr.cell? ⟨b, o + k * 2, none⟩ = some (.int .i64 ps[k].1) := by rw [hb.cell (by simp; omega), hB0.cell (by simpa using hB)]; exact e0
      have e1' : wr.cell? ⟨b, o + k * 2 + 1, none⟩ = some (.int .i64 ps[k].2) := by rw [hb.cell (by simp; omega), hB0.cell (by simpa using hB)]; exact e1
      have i1 : (0 : Int) ≤ (k : Int) := by omega
      have i2 : (k : Int) < (ps.length : Int) := by omega
      have hcase : (((ps[k].1 : Int) == (p.1 : Int)) = false) ∨ (((ps[k].1 : Int) == (p.1 : Int)) = true ∧ ((ps[k].2 : Int) == (p.2 : Int)) = false) ∨ (((ps[k].1 : Int) == (p.1 : Int)) = true ∧ ((ps[k].2 : Int) == (p.2 : Int)) = true) := by
        cases ((ps[k].1 : Int) == (p.1 : Int)) <;> cases ((ps[k].2 : Int) == (p.2 : Int)) <;> simp
      go_wp2_with fail
      rcases hcase with g1 | ⟨g1, g2⟩ | ⟨g1, g2⟩
      all_goals
        go_quiet (fail)
      all_goals go_wp2
      · refine ⟨⟨k + 1, by omega, by go_num, fun j hj hjk e => ?_, below_drewNp hb _⟩, by simp [intOf]; omega⟩
        by_cases ej : j = k
        · subst ej
          rw [e] at g1
          simp at g1
        · exact hbf.out j hj (by omega) e
      · refine ⟨⟨k + 1, by omega, by go_num, fun j hj hjk e => ?_, below_drewNp hb _⟩, by simp [intOf]; omega⟩
        by_cases ej : j = k
        · subst ej
          rw [e] at g2
          simp at g2
        · exact hbf.out j hj (by omega) e
      · have hp : ps[k] = p := by
          rw [beq_iff_eq] at g1 g2
          exact Prod.ext (by omega) (by omega)
        go_ret
        exact ⟨by rw [findP_at hlt hp hbf.out]; rfl, hB0.trans (below_drewNp (hb.mono (by omega)) _)⟩
    · go_wp2
      go_ret
      exact ⟨by rw [findP_none fun j hj => hbf.out j hj (by omega)]; rfl, hB0.trans (hb.mono (by omega))⟩

end Go.Proofs.YtolnlkccbndkcaaDoor

/- The rows that the reference's search owns: pairs and words. -/
namespace Go.Proofs.YtolnlkccbndkcaaDoor
open Go.RowKit Go.BigFrame AG

/-- The word r (its last letter first) as a string. -/
def wordS (r : List Nat) : ByteArray := ⟨(r.reverse.map letB).toArray⟩
theorem wordS_cons (l : Nat) (r : List Nat) : wordS r ++ ⟨#[letB l]⟩ = wordS (l :: r) := by
  unfold wordS
  rw [List.reverse_cons, List.map_append]
  apply ByteArray.ext
  simp

theorem wordS_size (r : List Nat) : (wordS r).size = r.length := by unfold wordS; simp [ByteArray.size]

def pairCells : List (Nat × Nat) → List Value
  | [] => []
  | p :: ps => .int .i64 p.1 :: .int .i64 p.2 :: pairCells ps
theorem pairCells_append : ∀ ps qs : List (Nat × Nat), pairCells (ps ++ qs) = pairCells ps ++ pairCells qs
  | [], _ => rfl
  | p :: ps, qs => by rw [List.cons_append, pairCells, pairCells_append ps qs]; rfl
theorem pairCells_at : ∀ (ps : List (Nat × Nat)) (i : Nat) (h : i < ps.length), (pairCells ps)[i * 2]? = some (.int .i64 ps[i].1) ∧ (pairCells ps)[i * 2 + 1]? = some (.int .i64 ps[i].2)
  | p :: ps, 0, _ => ⟨rfl, rfl⟩
  | p :: ps, i + 1, h => by
    have := pairCells_at ps i (by simpa using h)
    rw [show (i + 1) * 2 = i * 2 + 1 + 1 from by omega]
    exact this

/-- Pairs that are owned are read. -/
theorem own_pairs {w : World} {B : Nat} {v : Value} {ps : List (Nat × Nat)} (h : w.ownsRow B 115 2 v ps.length (pairCells ps)) (hn : 0 < ps.length) :
    ∃ g cap, v = .slice (some ⟨g, 0, none⟩) ps.length cap ∧ B ≤ g ∧ g < w.heap.size ∧ ps.length ≤ cap ∧ cap ≤ 9223372036854775807 ∧ PairsAt w w.heap.size (some ⟨g, 0, none⟩) ps ∧
      ∀ i (hi : i < ps.length), w.cell? ⟨g, i * 2, none⟩ = some (.int .i64 ps[i].1) ∧ w.cell? ⟨g, i * 2 + 1, none⟩ = some (.int .i64 ps[i].2) := by
  obtain ⟨g, cap, hv, h1, h2, h3, h4, h5⟩ := own_shape h hn
  have hat : ∀ i (hi : i < ps.length), w.cell? ⟨g, i * 2, none⟩ = some (.int .i64 ps[i].1) ∧ w.cell? ⟨g, i * 2 + 1, none⟩ = some (.int .i64 ps[i].2) := fun i hi =>
    ⟨h5 _ _ (pairCells_at ps i hi).1, h5 _ _ (pairCells_at ps i hi).2⟩
  exact ⟨g, cap, hv, h1, h2, h3, h4, fun _ => ⟨g, 0, rfl, h2, fun i hi => by simpa using hat i hi⟩, hat⟩

theorem own_words {w : World} {B : Nat} {v : Value} {ws : List (List Nat)} (h : w.ownsRow B 9 1 v ws.length (ws.map fun r => Value.string (wordS r))) (hn : 0 < ws.length) :
    ∃ g cap, v = .slice (some ⟨g, 0, none⟩) ws.length cap ∧ B ≤ g ∧ g < w.heap.size ∧ ws.length ≤ cap ∧ cap ≤ 9223372036854775807 ∧
      ∀ i (hi : i < ws.length), w.cell? ⟨g, i, none⟩ = some (.string (wordS ws[i])) := by
  obtain ⟨g, cap, hv, h1, h2, h3, h4, h5⟩ := own_shape h hn
  exact ⟨g, cap, hv, h1, h2, h3, h4, fun i hi => h5 _ _ (by simp [hi])⟩

end Go.Proofs.YtolnlkccbndkcaaDoor

/- Plain: the words over some letters in their order, and the first trace outside among them. -/
namespace Go.Proofs.YtolnlkccbndkcaaDoor
open AG

/-- The n-th word over the letters L, its last letter first. -/
def wAt (L : List Nat) : Nat → List Nat
  | 0 => []
  | n + 1 => L.getD (n % L.length) 0 :: wAt L (n / L.length)
termination_by n => n
decreasing_by exact Nat.lt_succ_of_le (Nat.div_le_self _ _)
theorem wAt_zero (L : List Nat) : wAt L 0 = [] := by rw [wAt]
theorem wAt_succ (L : List Nat) (n : Nat) : wAt L (n + 1) = L.getD (n % L.length) 0 :: wAt L (n / L.length) := by rw [wAt]
theorem wAt_mem {L : List Nat} (hL : 0 < L.length) (n : Nat) : ∀ l ∈ wAt L n, l ∈ L := by
  induction n using Nat.strongRecOn with
  | ind n ih =>
    intro l hl
    cases n with
    | zero => rw [wAt_zero] at hl; cases hl
    | succ n =>
      rw [wAt_succ] at hl
      rcases List.mem_cons.1 hl with rfl | hl
      · have := Nat.mod_lt n hL
        rw [List.getD_eq_getElem?_getD, List.getElem?_eq_getElem this]
        exact List.getElem_mem _
      · exact ih _ (Nat.lt_succ_of_le (Nat.div_le_self _ _)) l hl
theorem wAt_all {L : List Nat} : ∀ r : List Nat, (∀ l ∈ r, l ∈ L) → ∃ j, wAt L j = r
  | [], _ => ⟨0, wAt_zero L⟩
  | l :: r, h => by
    obtain ⟨j, hj⟩ := wAt_all r fun x hx => h x (List.mem_cons_of_mem _ hx)
    obtain ⟨p, hp, rfl⟩ := List.getElem_of_mem (h l List.mem_cons_self)
    refine ⟨L.length * j + p + 1, ?_⟩
    rw [wAt_succ, Nat.mul_add_mod, Nat.mod_eq_of_lt hp, Nat.mul_add_div (by omega), Nat.div_eq_of_lt hp, Nat.add_zero, hj, List.getD_eq_getElem?_getD, List.getElem?_eq_getElem hp]
    rfl
theorem wAt_lt {L : List Nat} (hL : 0 < L.length) (hs : L.Pairwise (· < ·)) (j : Nat) : ∀ i, i < j → rlt (wAt L i) (wAt L j) := by
  induction j using Nat.strongRecOn with
  | ind j ih =>
    intro i hij
    obtain ⟨j, rfl⟩ : ∃ j', j = j' + 1 := ⟨j - 1, by omega⟩
    rw [wAt_succ]
    cases i with
    | zero => rw [wAt_zero]; exact rlt_nil _ _
    | succ i =>
      rw [wAt_succ]
      have hle : i / L.length ≤ j / L.length := Nat.div_le_div_right (by omega)
      by_cases he : i / L.length = j / L.length
      · refine .inr ⟨by rw [he], ?_⟩
        have m1 := Nat.mod_lt i hL
        have m2 := Nat.mod_lt j hL
        have d1 := Nat.div_add_mod i L.length
        have d2 := Nat.div_add_mod j L.length
        rw [he] at d1
        rw [List.getD_eq_getElem?_getD, List.getElem?_eq_getElem m1, List.getD_eq_getElem?_getD, List.getElem?_eq_getElem m2]
        exact List.pairwise_iff_getElem.1 hs _ _ m1 m2 (by omega)
      · exact .inl (ih _ (Nat.lt_succ_of_le (Nat.div_le_self _ _)) _ (by omega))

theorem letters_ok {A : Int} {l : Nat} : l ∈ letters A ↔ l < 6 ∧ Has A l = true := by
  unfold letters lettersTo
  rw [List.mem_filter, List.mem_range]
theorem letB_num {l : Nat} (h : l < 6) : ((letB l).toNat : Int) - 97 = l := by
  unfold letB
  rw [UInt8.toNat_ofNat', Nat.mod_eq_of_lt (by omega)]
  omega
theorem bl_letB {l : Nat} (h : l < 6) : bl (letB l) = l := by
  unfold bl
  rw [letB_num h]
  have : lOk (l : Int) = true := by unfold lOk; exact decide_eq_true (by omega)
  rw [if_pos this]
theorem wordS_list (r : List Nat) : (wordS r).data.toList = r.reverse.map letB := rfl
theorem runL_setW (s : Sy) : ∀ r : List Nat, (∀ l ∈ r, l < 6) → runL s (r.reverse.map letB) = setW s r
  | [], _ => rfl
  | l :: r, h => by
    have ih := runL_setW s r fun x hx => h x (List.mem_cons_of_mem _ hx)
    rw [List.reverse_cons, List.map_append]
    unfold runL at ih ⊢
    rw [List.foldl_append, ih]
    show stepSet s (setW s r) _ = stepSet s (setW s r) _
    rw [letB_num (h l List.mem_cons_self)]
theorem wordS_within {A : Int} {r : List Nat} (hA : alphaOk A = true) (hr : ∀ l ∈ r, l ∈ letters A) (hl : r.length ≤ 50000) : within (wordS r) A = true := by
  rw [within_list]
  refine ⟨hA, by rw [wordS_size]; exact hl, fun b hb => ?_⟩
  rw [wordS_list] at hb
  obtain ⟨l, hl', rfl⟩ := List.mem_map.1 hb
  obtain ⟨h1, h2⟩ := letters_ok.1 (hr l (List.mem_reverse.1 hl'))
  unfold pk HasZ
  rw [bl_letB h1]
  simpa using h2
theorem hasTr_wordS {s : Sy} {r : List Nat} (hs : sysOk s = true) (hr : ∀ l ∈ r, l ∈ letters s.al) (hl : r.length ≤ 50000) : hasTr s (wordS r) = decide (setW s r ≠ 0) := by
  have hA : alphaOk s.al = true := alphaOk_range.2 (sysOk_alpha hs)
  have e := runL_setW s r fun l h => (letters_ok.1 (hr l h)).1
  rw [Bool.eq_iff_iff, hasTr_list, decide_eq_true_iff, wordS_list, e]
  exact ⟨fun h => h.2.2, fun h => ⟨hs, wordS_within hA hr hl, h⟩⟩

/-- The first of the words in order that is a trace outside is the first trace outside. -/
theorem first_at {s t : Sy} {o : Option (List Nat)} (hc : cmpOk s t = true) (ho : IsOut s t o) {i : Nat} (hL : 0 < (letters s.al).length ∨ i = 0) (hi : AG.Outside s t (wAt (letters s.al) i)) (hn : ∀ j, j < i → ¬ AG.Outside s t (wAt (letters s.al) j)) :
    o = some (wAt (letters s.al) i) := by
  unfold IsOut at ho
  rw [if_pos hc] at ho
  cases o with
  | none => exact absurd hi (ho _)
  | some r =>
    obtain ⟨h1, h2⟩ := ho
    have h3 := h2 _ hi
    obtain ⟨j, rfl⟩ := wAt_all r h1.1
    by_cases hlt : j < i
    · exact absurd h1 (hn j hlt)
    · by_cases he : j = i
      · rw [he]
      · by_cases hL0 : 0 < (letters s.al).length
        · have := wAt_lt hL0 (letters_sorted s.al) j i (by omega)
          exact absurd (rlt_of_rlt_rle this h3) (rlt_irrefl _)
        · obtain rfl : i = 0 := by omega
          exfalso
          have : setW t (wAt (letters s.al) 0) = 0 := hi.2.2
          rw [wAt_zero] at this
          exact absurd this (by show (1 : Nat) ≠ 0; decide)
theorem outside_iff {s t : Sy} {r : List Nat} (hc : cmpOk s t = true) (hr : ∀ l ∈ r, l ∈ letters s.al) (hl : r.length ≤ 50000) : AG.Outside s t r ↔ hasTr s (wordS r) = true ∧ hasTr t (wordS r) = false := by
  unfold cmpOk at hc
  simp only [Bool.and_eq_true, decide_eq_true_eq] at hc
  rw [hasTr_wordS hc.1 hr hl, hasTr_wordS hc.2.1 (by rw [← hc.2.2]; exact hr) hl]
  unfold AG.Outside
  simp only [decide_eq_true_eq, decide_eq_false_iff_not]
  constructor
  · rintro ⟨_, h2, h3⟩; exact ⟨h2, fun h => h h3⟩
  · rintro ⟨h2, h3⟩; exact ⟨hr, h2, by omega⟩

end Go.Proofs.YtolnlkccbndkcaaDoor

/- Plain: projections of systems with more letters; of trimmed systems. -/
namespace AG

theorem Has_63 {l : Nat} (h : l < 6) : Has 63 l = true := by
  have : ∀ l : Fin 6, Has 63 l.val = true := by decide
  exact this ⟨l, h⟩
/-- The system with all letters. -/
def allSy (s : Sy) : Sy := ⟨63, s.st, s.es⟩
theorem allSy_ok {s : Sy} (h : sysOk s = true) : sysOk (allSy s) = true := by
  have hp := edges_pairwise h
  refine sysOk_of (s := allSy s) (show alphaOk 63 = true by decide) (show 1 ≤ s.st ∧ s.st ≤ 16 from sysOk_st h) (fun e (he : e ∈ s.es) => ?_) hp
  show edgeOk 63 s.st e = true
  obtain ⟨i, hi, rfl⟩ := List.getElem_of_mem he
  have h1 := sysOk_edge h hi
  unfold edgeOk at h1 ⊢
  simp only [Bool.and_eq_true, decide_eq_true_eq] at h1 ⊢
  exact ⟨h1.1, Has_63 (by omega)⟩
theorem stepSet_all (s : Sy) (S : Nat) (l : Int) : stepSet (allSy s) S l = stepSet s S l := rfl
/-- Letters that no edge has lead nowhere. -/
theorem reach_unused {s : Sy} {h : Int} (hu : ∀ e ∈ s.es, Has h e.l.toNat = false) {S : Nat} (hS : S < 65536) : reachSet s h S = S := by
  refine (reach_unique (R := S) hS (fun _ h => h) (fun e he hA _ => ?_) fun x hx => Rch.start hx).symm
  rw [hu e he] at hA
  cases hA
theorem hid_all : ∀ a b : Fin 64, ∀ l : Fin 6, Has (hidA (a.val : Int) (b.val : Int)) l.val = (Has (a.val : Int) l.val && !Has (b.val : Int) l.val) := by decide +kernel
theorem Has_hid {a b : Int} (ha : 0 ≤ a ∧ a ≤ 63) (hb : 0 ≤ b ∧ b ≤ 63) {l : Nat} (hl : l < 6) : Has (hidA a b) l = (Has a l && !Has b l) := by
  have := hid_all ⟨a.toNat, by omega⟩ ⟨b.toNat, by omega⟩ ⟨l, hl⟩
  dsimp only at this
  rwa [Int.toNat_of_nonneg ha.1, Int.toNat_of_nonneg hb.1] at this
theorem prNx_all {s : Sy} (h : sysOk s = true) : prNx (allSy s) (hidA 63 s.al) = prNx s (hidA s.al s.al) ∧ reachSet (allSy s) (hidA 63 s.al) 1 = reachSet s (hidA s.al s.al) 1 := by
  have hal := sysOk_alpha h
  have hu : ∀ e ∈ s.es, Has (hidA 63 s.al) e.l.toNat = false := fun e he => by
    have h1 := sysOk_in h e he
    rw [Has_hid (by omega) hal (by omega), h1.2.2.2.2.2.2.1]
    simp
  rw [hid_self hal.1]
  refine ⟨?_, by rw [reach_unused (s := allSy s) hu (by omega), reach_none s (by omega)]⟩
  funext S l
  unfold prNx
  rw [stepSet_all, reach_unused (s := allSy s) hu (stepSet_lt _ _ _), reach_none s (stepSet_lt _ _ _)]
theorem prOk_all {s : Sy} (h : sysOk s = true) : prOk (allSy s) s.al = true := by
  have hal := sysOk_alpha h
  unfold prOk alphaOk
  rw [allSy_ok h]
  have : andB 63 s.al = s.al := by
    have := Nat.and_two_pow_sub_one_eq_mod s.al.toNat 6
    unfold andB
    rw [show (63 : Int).toNat = 2 ^ 6 - 1 from rfl, Nat.and_comm, this]
    omega
  show (true && (decide (0 ≤ s.al ∧ s.al ≤ 63) && decide (andB 63 s.al = s.al))) = true
  rw [this]
  simpa using hal
/-- Unused letters are hidden without effect. -/
theorem pr_all {s : Sy} (h : sysOk s = true) : prA (allSy s) s.al = prA s s.al ∧ prK (allSy s) s.al = prK s s.al := by
  obtain ⟨h1, h2⟩ := prNx_all h
  have : prNum (allSy s) s.al = prNum s s.al := by
    unfold prNum
    rw [show (allSy s).al = 63 from rfl, h1, h2]
  unfold prA prK prOpt
  rw [prOk_all h, prOk_self h, this]
  exact ⟨rfl, rfl⟩

end AG

/- Words for memory: all old blocks but a few are as they were. -/
namespace AG
open Go Go.RowKit

/-- All old blocks but those of K are as they were. -/
structure KeepB (K : Nat → Prop) (w w' : World) : Prop where
  os : w'.os = w.os
  tape : w'.tape = w.tape
  output : w'.output = w.output
  size : w.heap.size ≤ w'.heap.size
  block : ∀ k, k < w.heap.size → ¬ K k → w'.heap[k]? = w.heap[k]?
theorem KeepB.refl (K : Nat → Prop) (w : World) : KeepB K w w := ⟨rfl, rfl, rfl, Nat.le_refl _, fun _ _ _ => rfl⟩
theorem KeepB.trans {K : Nat → Prop} {a b c : World} (h : KeepB K a b) (k : KeepB K b c) : KeepB K a c :=
  ⟨k.os.trans h.os, k.tape.trans h.tape, k.output.trans h.output, Nat.le_trans h.size k.size, fun i hi hne => (k.block i (Nat.lt_of_lt_of_le hi h.size) hne).trans (h.block i hi hne)⟩
theorem KeepB.mono {K K' : Nat → Prop} {a b : World} (h : KeepB K a b) (hK : ∀ k, K k → K' k) : KeepB K' a b := ⟨h.os, h.tape, h.output, h.size, fun i hi hne => h.block i hi fun hk => hne (hK i hk)⟩
theorem KeepB.of_below {K : Nat → Prop} {a b : World} (h : Below a.heap.size a b) : KeepB K a b := ⟨h.os, h.tape, h.output, h.size, fun i hi _ => h.block i hi⟩
theorem KeepB.below {K : Nat → Prop} {B : Nat} {w a b : World} (hb : Below B w a) (h : KeepB K a b) (hB : B ≤ a.heap.size) (hK : ∀ k, K k → B ≤ k) : Below B w b :=
  hb.trans ⟨h.os, h.tape, h.output, h.size, fun i hi => h.block i (by omega) fun hk => by have := hK i hk; omega⟩
theorem KeepB.of_grown {K : Nat → Prop} {a b : World} {row : Option Nat} (h : a.grownBy b row) (hK : ∀ k, row = some k → k < a.heap.size → K k) : KeepB K a b :=
  ⟨h.os, h.tape, h.output, h.size, fun i hi hne => h.block i hi fun e => hne (hK i e.symm hi)⟩
/-- .. from a world a that began earlier: blocks made since may be written. -/
theorem KeepB.grown {K : Nat → Prop} {w a b : World} {row : Option Nat} (hk : KeepB K w a) (h : a.grownBy b row) (hK : ∀ k, row = some k → k < w.heap.size → K k) : KeepB K w b :=
  ⟨h.os.trans hk.os, h.tape.trans hk.tape, h.output.trans hk.output, Nat.le_trans hk.size h.size, fun i hi hne => (h.block i (Nat.lt_of_lt_of_le hi hk.size) fun e => hne (hK i e.symm hi)).trans (hk.block i hi hne)⟩
theorem KeepB.setCell {K : Nat → Prop} {w a : World} (hk : KeepB K w a) (p : Addr) (v : Value) (hK : p.block < w.heap.size → K p.block) : KeepB K w (a.setCell p v) :=
  ⟨hk.os, hk.tape, hk.output, by simpa using hk.size, fun i hi hne => by
    rw [Below.heap_setCell _ _ _ _ (fun e => hne (by rw [e]; exact hK (by rw [← e]; exact hi)))]
    exact hk.block i hi hne⟩
theorem KeepB.alloc {K : Nat → Prop} {w a : World} (hk : KeepB K w a) (o : Obj) : KeepB K w (a.alloc o) :=
  ⟨hk.os, hk.tape, hk.output, by have := hk.size; simp; omega, fun i hi hne => by
    rw [Below.heap_alloc a o i (Nat.lt_of_lt_of_le hi hk.size)]
    exact hk.block i hi hne⟩

theorem Blk.keep {K : Nat → Prop} {w w' : World} {g : Nat} {t : TypeId} {cs : Array Value} (h : Blk w g t cs) (hk : KeepB K w w') (hg : ¬ K g) : Blk w' g t cs := (hk.block g h.lt hg).trans h
theorem Blk.ne {w : World} {g g' : Nat} {t t' : TypeId} {cs cs' : Array Value} (h : Blk w g t cs) (h' : Blk w g' t' cs') (ht : t ≠ t') : g ≠ g' := fun e => by
  subst e
  have := h.symm.trans h'
  simp at this
  exact ht this.2
theorem own_keep {K : Nat → Prop} {w w' : World} {base : Nat} {e : TypeId} {size : Nat} {v : Value} {n : Nat} {xs : List Value} (h : w.ownsRow base e size v n xs) (hk : KeepB K w w') (hv : ∀ g, v.ownBlock = some g → ¬ K g) : w'.ownsRow base e size v n xs := by
  refine ⟨h.1, ?_⟩
  rcases h.2 with hn | ⟨g, cap, cur, rfl, hb, hgg, rest⟩
  · exact .inl hn
  · refine .inr ⟨g, cap, cur, rfl, hb, ?_, rest⟩
    rw [hk.block g (Array.getElem?_eq_some_iff.1 hgg).1 (hv g rfl)]
    exact hgg
theorem own_base {w : World} {base base' : Nat} {e : TypeId} {size : Nat} {v : Value} {n : Nat} {xs : List Value} (h : w.ownsRow base e size v n xs) (hb : base' ≤ base) : w.ownsRow base' e size v n xs := by
  refine ⟨h.1, ?_⟩
  rcases h.2 with hn | ⟨g, cap, cur, rfl, hg, rest⟩
  · exact .inl hn
  · exact .inr ⟨g, cap, cur, rfl, Nat.le_trans hb hg, rest⟩
theorem own_ne {w : World} {base : Nat} {e : TypeId} {size : Nat} {v : Value} {n : Nat} {xs : List Value} {g : Nat} {t : TypeId} {cs : Array Value} (h : w.ownsRow base e size v n xs) (hb : Blk w g t cs) (ht : e ≠ t) : ∀ k, v.ownBlock = some k → k ≠ g := by
  intro k hk
  rcases h.2 with ⟨rfl, _⟩ | ⟨g', cap, cur, rfl, _, hgg, _⟩
  · cases hk
  · cases hk
    exact Blk.ne (show Blk w g' e cur from hgg) hb ht
theorem own_ne_own {w : World} {base base' : Nat} {e e' : TypeId} {size size' : Nat} {v v' : Value} {n n' : Nat} {xs xs' : List Value} (h : w.ownsRow base e size v n xs) (h' : w.ownsRow base' e' size' v' n' xs') (ht : e ≠ e') : ∀ k k', v.ownBlock = some k → v'.ownBlock = some k' → k ≠ k' := by
  intro k k' hk hk'
  rcases h'.2 with ⟨rfl, _⟩ | ⟨g', cap, cur, rfl, _, hgg, _⟩
  · cases hk'
  · cases hk'
    exact own_ne h (show Blk w g' e' cur from hgg) ht k hk

end AG

/- Words for memory: lists of numbers, of truth values, tables of numbers, automata. -/
namespace Go.Proofs.YtolnlkccbndkcaaDoor
open Go.RowKit Go.BigFrame AG

/-- A list of numbers (of truth values, of rows of numbers) lies in memory below a block. -/
def IntsAt (w : World) (B : Nat) (A : Option Addr) (xs : List Int) : Prop := 0 < xs.length → ∃ b o, A = some ⟨b, o, none⟩ ∧ b < B ∧ ∀ i (h : i < xs.length), w.cell? ⟨b, o + i, none⟩ = some (.int .i64 xs[i])
def BoolsAt (w : World) (B : Nat) (A : Option Addr) (xs : List Bool) : Prop := 0 < xs.length → ∃ b o, A = some ⟨b, o, none⟩ ∧ b < B ∧ ∀ i (h : i < xs.length), w.cell? ⟨b, o + i, none⟩ = some (.bool xs[i])
def RowsAt (w : World) (B : Nat) (A : Option Addr) (rs : List (List Int)) : Prop := 0 < rs.length → ∃ b o, A = some ⟨b, o, none⟩ ∧ b < B ∧ ∀ i (h : i < rs.length),
  ∃ Ai ci, w.cell? ⟨b, o + i, none⟩ = some (.slice Ai rs[i].length ci) ∧ rs[i].length ≤ ci ∧ ci ≤ 9223372036854775807 ∧ IntsAt w B Ai rs[i]

theorem IntsAt.later {w w' : World} {A : Option Addr} {xs : List Int} (h : IntsAt w w.heap.size A xs) (hb : Below w.heap.size w w') : IntsAt w' w'.heap.size A xs := fun hl => by
  obtain ⟨b, o, h1, h2, h3⟩ := h hl
  exact ⟨b, o, h1, Nat.lt_of_lt_of_le h2 hb.size, fun i hi => by rw [hb.cell (by simpa using h2)]; exact h3 i hi⟩
theorem BoolsAt.later {w w' : World} {A : Option Addr} {xs : List Bool} (h : BoolsAt w w.heap.size A xs) (hb : Below w.heap.size w w') : BoolsAt w' w'.heap.size A xs := fun hl => by
  obtain ⟨b, o, h1, h2, h3⟩ := h hl
  exact ⟨b, o, h1, Nat.lt_of_lt_of_le h2 hb.size, fun i hi => by rw [hb.cell (by simpa using h2)]; exact h3 i hi⟩
theorem RowsAt.later {w w' : World} {A : Option Addr} {rs : List (List Int)} (h : RowsAt w w.heap.size A rs) (hb : Below w.heap.size w w') : RowsAt w' w'.heap.size A rs := fun hl => by
  obtain ⟨b, o, h1, h2, h3⟩ := h hl
  refine ⟨b, o, h1, Nat.lt_of_lt_of_le h2 hb.size, fun i hi => ?_⟩
  obtain ⟨Ai, ci, h4, h5, h6, h7⟩ := h3 i hi
  exact ⟨Ai, ci, by rw [hb.cell (by simpa using h2)]; exact h4, h5, h6, h7.later hb⟩

def _root_.AG.Au.val (a : Au) (A : Option Addr) (c : Nat) (B : Option Addr) (d : Nat) : Value := .agg #[.int .i64 a.al, .slice A a.nx.length c, .slice B a.ac.length d]
structure AuAt (w : World) (A : Option Addr) (c : Nat) (B : Option Addr) (d : Nat) (a : Au) : Prop where
  cl : a.nx.length ≤ c
  cm : c ≤ 9223372036854775807
  dl : a.ac.length ≤ d
  dm : d ≤ 9223372036854775807
  rows : RowsAt w w.heap.size A a.nx
  acc : BoolsAt w w.heap.size B a.ac
theorem AuAt.later {w w' : World} {A B : Option Addr} {c d : Nat} {a : Au} (h : AuAt w A c B d a) (hb : Below w.heap.size w w') : AuAt w' A c B d a := ⟨h.cl, h.cm, h.dl, h.dm, h.rows.later hb, h.acc.later hb⟩

/-- A row that is owned. -/
structure RowV where
  r : List Int
  A : Option Addr
  c : Nat
def RowV.v (x : RowV) : Value := .slice x.A x.r.length x.c
def intVals (xs : List Int) : List Value := xs.map fun n => Value.int .i64 n
def boolVals (xs : List Bool) : List Value := xs.map fun n => Value.bool n
def rowVals (xs : List RowV) : List Value := xs.map RowV.v

/-- A table of rows that is owned: every row lies in a block of its own. -/
structure RowsOwn (w : World) (base : Nat) (v : Value) (xs : List RowV) : Prop where
  own : w.ownsRow base 62 1 v xs.length (rowVals xs)
  rows : ∀ x ∈ xs, w.ownsRow base 3 1 x.v x.r.length (intVals x.r)
  apart : xs.Pairwise fun x y => ∀ k, x.v.ownBlock = some k → y.v.ownBlock ≠ some k
/-- An automaton that is owned. -/
structure AuOwn (w : World) (base : Nat) (v1 v2 : Value) (a : Au) (xs : List RowV) : Prop where
  rows : RowsOwn w base v1 xs
  eq : xs.map (·.r) = a.nx
  acc : w.ownsRow base 4 1 v2 a.ac.length (boolVals a.ac)

theorem own_later_ {w w' : World} {base : Nat} {e : TypeId} {size : Nat} {v : Value} {n : Nat} {xs : List Value} (h : w.ownsRow base e size v n xs) (hb : Below w.heap.size w w') : w'.ownsRow base e size v n xs :=
  own_keep h (.of_below (K := fun _ => False) hb) fun _ _ h => h
theorem RowsOwn.keep {K : Nat → Prop} {w w' : World} {base : Nat} {v : Value} {xs : List RowV} (h : RowsOwn w base v xs) (hk : KeepB K w w') (h1 : ∀ g, v.ownBlock = some g → ¬ K g) (h2 : ∀ x ∈ xs, ∀ g, x.v.ownBlock = some g → ¬ K g) : RowsOwn w' base v xs :=
  ⟨own_keep h.own hk h1, fun x hx => own_keep (h.rows x hx) hk (h2 x hx), h.apart⟩
theorem RowsOwn.later {w w' : World} {base : Nat} {v : Value} {xs : List RowV} (h : RowsOwn w base v xs) (hb : Below w.heap.size w w') : RowsOwn w' base v xs :=
  h.keep (.of_below (K := fun _ => False) hb) (fun _ _ h => h) fun _ _ _ _ h => h
theorem RowsOwn.base {w : World} {base base' : Nat} {v : Value} {xs : List RowV} (h : RowsOwn w base v xs) (hb : base' ≤ base) : RowsOwn w base' v xs :=
  ⟨own_base h.own hb, fun x hx => own_base (h.rows x hx) hb, h.apart⟩
theorem AuOwn.later {w w' : World} {base : Nat} {v1 v2 : Value} {a : Au} {xs : List RowV} (h : AuOwn w base v1 v2 a xs) (hb : Below w.heap.size w w') : AuOwn w' base v1 v2 a xs := ⟨h.rows.later hb, h.eq, own_later_ h.acc hb⟩
theorem AuOwn.base {w : World} {base base' : Nat} {v1 v2 : Value} {a : Au} {xs : List RowV} (h : AuOwn w base v1 v2 a xs) (hb : base' ≤ base) : AuOwn w base' v1 v2 a xs := ⟨h.rows.base hb, h.eq, own_base h.acc hb⟩

theorem own_ints_at {w : World} {base : Nat} {A : Option Addr} {n c : Nat} {xs : List Int} (h : w.ownsRow base 3 1 (.slice A n c) xs.length (intVals xs)) : n = xs.length ∧ xs.length ≤ c ∧ c ≤ 9223372036854775807 ∧ IntsAt w w.heap.size A xs := by
  obtain ⟨A', c', he, h1, h2⟩ := own_slice h
  injection he with e1 e2 e3
  subst e1 e2 e3
  refine ⟨rfl, h1, h2, fun hl => ?_⟩
  obtain ⟨g, cap, hv, _, h3, _, _, h4⟩ := own_shape h hl
  injection hv with e1 _ _
  exact ⟨g, 0, e1, h3, fun i hi => by rw [Nat.zero_add]; exact h4 _ _ (by unfold intVals; simp [hi])⟩
theorem own_bools_at {w : World} {base : Nat} {A : Option Addr} {n c : Nat} {xs : List Bool} (h : w.ownsRow base 4 1 (.slice A n c) xs.length (boolVals xs)) : n = xs.length ∧ xs.length ≤ c ∧ c ≤ 9223372036854775807 ∧ BoolsAt w w.heap.size A xs := by
  obtain ⟨A', c', he, h1, h2⟩ := own_slice h
  injection he with e1 e2 e3
  subst e1 e2 e3
  refine ⟨rfl, h1, h2, fun hl => ?_⟩
  obtain ⟨g, cap, hv, _, h3, _, _, h4⟩ := own_shape h hl
  injection hv with e1 _ _
  exact ⟨g, 0, e1, h3, fun i hi => by rw [Nat.zero_add]; exact h4 _ _ (by unfold boolVals; simp [hi])⟩
theorem RowsOwn.at_ {w : World} {base : Nat} {v : Value} {xs : List RowV} (h : RowsOwn w base v xs) : ∃ A c, v = .slice A (xs.map (·.r)).length c ∧ (xs.map (·.r)).length ≤ c ∧ c ≤ 9223372036854775807 ∧ RowsAt w w.heap.size A (xs.map (·.r)) := by
  rw [List.length_map]
  obtain ⟨A, c, rfl, h1, h2⟩ := own_slice h.own
  refine ⟨A, c, rfl, h1, h2, fun hl => ?_⟩
  rw [List.length_map] at hl
  obtain ⟨g, cap, hv, _, h3, _, _, h4⟩ := own_shape h.own hl
  injection hv with e1 _ _
  refine ⟨g, 0, e1, h3, fun i hi => ?_⟩
  rw [List.length_map] at hi
  obtain ⟨_, a1, a2, a3⟩ := own_ints_at (h.rows xs[i] (List.getElem_mem hi))
  rw [List.getElem_map]
  exact ⟨xs[i].A, xs[i].c, by rw [Nat.zero_add]; exact h4 _ _ (by unfold rowVals; simp [hi, RowV.v]), a1, a2, a3⟩
/-- An automaton that is owned can be read. -/
theorem AuOwn.at_ {w : World} {base : Nat} {v1 v2 : Value} {a : Au} {xs : List RowV} (h : AuOwn w base v1 v2 a xs) : ∃ A c B d, v1 = .slice A a.nx.length c ∧ v2 = .slice B a.ac.length d ∧ AuAt w A c B d a := by
  obtain ⟨A, c, rfl, h1, h2, h3⟩ := h.rows.at_
  rw [h.eq] at h1 h3 ⊢
  obtain ⟨B, d, rfl, h4, h5⟩ := own_slice h.acc
  exact ⟨A, c, B, d, rfl, rfl, h1, h2, h4, h5, h3, (own_bools_at h.acc).2.2.2⟩

end Go.Proofs.YtolnlkccbndkcaaDoor
