/- Lemmas, part 7: several texts in one. -/
import Derived.Test.YtimoekglamdddaaDoorK3
import Derived.Test.YtimoekglamdddaaDoorK2
import Derived.Test.YtimoekglamdddaaDoorK5
set_option linter.unusedSimpArgs false
set_option linter.unusedVariables false

/- The laws' comparisons of lists, tables of numbers, automata. -/
namespace Go.Proofs.YtimoekglamdddaaDoor
open Go.RowKit Go.BigFrame AG

set_option maxRecDepth 100000 in
set_option maxHeartbeats 1000000 in
theorem eqIntS_any (es fs : List Int) (A B : Option Addr) (c d : Nat) (w : World) (hn : es.length ≤ c) (hc : c ≤ 9223372036854775807) (hm : fs.length ≤ d) (_hd : d ≤ 9223372036854775807) (hr : IntsAt w w.heap.size A es) (hs : IntsAt w w.heap.size B fs) :
    Calls Tryd.prog 117 #[.slice A es.length c, .slice B fs.length d] w fun e w' => e = .returned (.bool (decide (es = fs))) ∧ Below w.heap.size w w' := by
  replace hr := hid hr
  replace hs := hid hs
  by_cases hlen : es.length = fs.length
  · go_enter Tryd.func117, Tryd.ntmps117
    go_wp2
    go_loopw [5] (fun i wr => ∃ k : Nat, i = .int .i64 k ∧ k ≤ es.length ∧ (∀ i (h : i < es.length) (h' : i < fs.length), i < k → es[i] = fs[i]) ∧ Below w.heap.size w wr) (fun i _ => es.length - (intOf i).toNat)
    case atStart => exact ⟨0, rfl, by omega, by intro i _ _ h; omega, Below.refl _ _⟩
    case round =>
      obtain ⟨k, rfl, hk, heq, hb⟩ := hrel
      by_cases hlt : k < es.length
      · obtain ⟨b, o, hA, hB, hE⟩ := hr.out (by omega)
        obtain ⟨b', o', hA', hB', hF⟩ := hs.out (by omega)
        subst hA
        subst hA'
        have e0 := hE k hlt
        have f0 := hF k (by omega)
        have k1 : (0 : Int) ≤ (k : Int) ∧ (k : Int) < (es.length : Int) ∧ (k : Int) < (fs.length : Int) := by omega
        replace hE := hid hE
        replace hF := hid hF
        have g0 : ∀ x, (Fam w.heap.size w x).cell? ⟨b, o + k, none⟩ = some (.int .i64 es[k]) := fun x => by rw [(Fam.below w.heap.size w x).cell (by simpa using hB)]; exact e0
        have i0 : ∀ x, (Fam w.heap.size w x).cell? ⟨b', o' + k, none⟩ = some (.int .i64 fs[k]) := fun x => by rw [(Fam.below w.heap.size w x).cell (by simpa using hB')]; exact f0
        clear e0 f0
        obtain ⟨x, hx⟩ : ∃ x, Hid (x = es[k]) := ⟨_, hid rfl⟩
        obtain ⟨y, hy⟩ : ∃ y, Hid (y = fs[k]) := ⟨_, hid rfl⟩
        rw [← hx.out] at g0
        rw [← hy.out] at i0
        cases hq : (x != y)
        all_goals
          replace heq := hid heq
          go_wp2_with fail
          refine wp_region_fam w.heap.size w (by kernel_rfl) (by kernel_rfl) hb ?_
          (repeat (go_big_quiet_step (fail)))
          refine wpQuiet_nil ?_
          intro w2 hw2
          replace hw2 := Fam.out hw2
          replace hq := hid hq
          go_wp2
        · go_roundw
          case rel =>
            refine ⟨k + 1, by go_num, by omega, fun i hi hi' hik => ?_, hw2⟩
            by_cases e : i = k
            · subst e; rw [← hx.out, ← hy.out]; simpa using hq.out
            · exact heq.out i hi hi' (by omega)
          case measure => simp [intOf]; omega
        · go_ret
          exact ⟨ret_bool (by
            have h1 : x ≠ y := by simpa using hq.out
            rw [hx.out, hy.out] at h1
            rw [eq_comm, decide_eq_false_iff_not]
            intro h
            subst h
            exact h1 rfl), hw2⟩
      · replace heq := hid heq
        go_wp2
        go_ret
        exact ⟨ret_bool (by
          rw [eq_comm, decide_eq_true_iff]
          exact List.ext_getElem hlen fun i hi hi' => heq.out i hi hi' (by omega)), hb⟩
  · go_enter Tryd.func117, Tryd.ntmps117
    go_wp2
    go_ret
    exact ⟨ret_bool (by rw [eq_comm, decide_eq_false_iff_not]; intro h; exact hlen (by rw [h])), Below.refl _ _⟩

set_option maxRecDepth 100000 in
set_option maxHeartbeats 1000000 in
theorem agInts_any (es fs : List Int) (A B : Option Addr) (c d : Nat) (w : World) (hn : es.length ≤ c) (hc : c ≤ 9223372036854775807) (hm : fs.length ≤ d) (_hd : d ≤ 9223372036854775807) (hr : IntsAt w w.heap.size A es) (hs : IntsAt w w.heap.size B fs) :
    Calls Tryd.prog 76 #[.slice A es.length c, .slice B fs.length d] w fun e w' => e = .returned (.bool (decide (es = fs))) ∧ Below w.heap.size w w' := by
  replace hr := hid hr
  replace hs := hid hs
  by_cases hlen : es.length = fs.length
  · go_enter Tryd.func76, Tryd.ntmps76
    go_wp2
    go_loopw [5] (fun i wr => ∃ k : Nat, i = .int .i64 k ∧ k ≤ es.length ∧ (∀ i (h : i < es.length) (h' : i < fs.length), i < k → es[i] = fs[i]) ∧ Below w.heap.size w wr) (fun i _ => es.length - (intOf i).toNat)
    case atStart => exact ⟨0, rfl, by omega, by intro i _ _ h; omega, Below.refl _ _⟩
    case round =>
      obtain ⟨k, rfl, hk, heq, hb⟩ := hrel
      by_cases hlt : k < es.length
      · obtain ⟨b, o, hA, hB, hE⟩ := hr.out (by omega)
        obtain ⟨b', o', hA', hB', hF⟩ := hs.out (by omega)
        subst hA
        subst hA'
        have e0 := hE k hlt
        have f0 := hF k (by omega)
        have k1 : (0 : Int) ≤ (k : Int) ∧ (k : Int) < (es.length : Int) ∧ (k : Int) < (fs.length : Int) := by omega
        replace hE := hid hE
        replace hF := hid hF
        have g0 : ∀ x, (Fam w.heap.size w x).cell? ⟨b, o + k, none⟩ = some (.int .i64 es[k]) := fun x => by rw [(Fam.below w.heap.size w x).cell (by simpa using hB)]; exact e0
        have i0 : ∀ x, (Fam w.heap.size w x).cell? ⟨b', o' + k, none⟩ = some (.int .i64 fs[k]) := fun x => by rw [(Fam.below w.heap.size w x).cell (by simpa using hB')]; exact f0
        clear e0 f0
        obtain ⟨x, hx⟩ : ∃ x, Hid (x = es[k]) := ⟨_, hid rfl⟩
        obtain ⟨y, hy⟩ : ∃ y, Hid (y = fs[k]) := ⟨_, hid rfl⟩
        rw [← hx.out] at g0
        rw [← hy.out] at i0
        cases hq : (x != y)
        all_goals
          replace heq := hid heq
          go_wp2_with fail
          refine wp_region_fam w.heap.size w (by kernel_rfl) (by kernel_rfl) hb ?_
          (repeat (go_big_quiet_step (fail)))
          refine wpQuiet_nil ?_
          intro w2 hw2
          replace hw2 := Fam.out hw2
          replace hq := hid hq
          go_wp2
        · go_roundw
          case rel =>
            refine ⟨k + 1, by go_num, by omega, fun i hi hi' hik => ?_, hw2⟩
            by_cases e : i = k
            · subst e; rw [← hx.out, ← hy.out]; simpa using hq.out
            · exact heq.out i hi hi' (by omega)
          case measure => simp [intOf]; omega
        · go_ret
          exact ⟨ret_bool (by
            have h1 : x ≠ y := by simpa using hq.out
            rw [hx.out, hy.out] at h1
            rw [eq_comm, decide_eq_false_iff_not]
            intro h
            subst h
            exact h1 rfl), hw2⟩
      · replace heq := hid heq
        go_wp2
        go_ret
        exact ⟨ret_bool (by
          rw [eq_comm, decide_eq_true_iff]
          exact List.ext_getElem hlen fun i hi hi' => heq.out i hi hi' (by omega)), hb⟩
  · go_enter Tryd.func76, Tryd.ntmps76
    go_wp2
    go_ret
    exact ⟨ret_bool (by rw [eq_comm, decide_eq_false_iff_not]; intro h; exact hlen (by rw [h])), Below.refl _ _⟩

set_option maxRecDepth 100000 in
set_option maxHeartbeats 1000000 in
theorem eqBoolS_any (es fs : List Bool) (A B : Option Addr) (c d : Nat) (w : World) (hn : es.length ≤ c) (hc : c ≤ 9223372036854775807) (hm : fs.length ≤ d) (_hd : d ≤ 9223372036854775807) (hr : BoolsAt w w.heap.size A es) (hs : BoolsAt w w.heap.size B fs) :
    Calls Tryd.prog 54 #[.slice A es.length c, .slice B fs.length d] w fun e w' => e = .returned (.bool (decide (es = fs))) ∧ Below w.heap.size w w' := by
  replace hr := hid hr
  replace hs := hid hs
  by_cases hlen : es.length = fs.length
  · go_enter Tryd.func54, Tryd.ntmps54
    go_wp2
    go_loopw [5] (fun i wr => ∃ k : Nat, i = .int .i64 k ∧ k ≤ es.length ∧ (∀ i (h : i < es.length) (h' : i < fs.length), i < k → es[i] = fs[i]) ∧ Below w.heap.size w wr) (fun i _ => es.length - (intOf i).toNat)
    case atStart => exact ⟨0, rfl, by omega, by intro i _ _ h; omega, Below.refl _ _⟩
    case round =>
      obtain ⟨k, rfl, hk, heq, hb⟩ := hrel
      by_cases hlt : k < es.length
      · obtain ⟨b, o, hA, hB, hE⟩ := hr.out (by omega)
        obtain ⟨b', o', hA', hB', hF⟩ := hs.out (by omega)
        subst hA
        subst hA'
        have e0 := hE k hlt
        have f0 := hF k (by omega)
        have k1 : (0 : Int) ≤ (k : Int) ∧ (k : Int) < (es.length : Int) ∧ (k : Int) < (fs.length : Int) := by omega
        replace hE := hid hE
        replace hF := hid hF
        have g0 : ∀ x, (Fam w.heap.size w x).cell? ⟨b, o + k, none⟩ = some (.bool es[k]) := fun x => by rw [(Fam.below w.heap.size w x).cell (by simpa using hB)]; exact e0
        have i0 : ∀ x, (Fam w.heap.size w x).cell? ⟨b', o' + k, none⟩ = some (.bool fs[k]) := fun x => by rw [(Fam.below w.heap.size w x).cell (by simpa using hB')]; exact f0
        clear e0 f0
        obtain ⟨x, hx⟩ : ∃ x, Hid (x = es[k]) := ⟨_, hid rfl⟩
        obtain ⟨y, hy⟩ : ∃ y, Hid (y = fs[k]) := ⟨_, hid rfl⟩
        rw [← hx.out] at g0
        rw [← hy.out] at i0
        cases x <;> cases y
        all_goals
          replace heq := hid heq
          go_wp2_with fail
          refine wp_region_fam w.heap.size w (by kernel_rfl) (by kernel_rfl) hb ?_
          (repeat (go_big_quiet_step (fail)))
          refine wpQuiet_nil ?_
          intro w2 hw2
          replace hw2 := Fam.out hw2
          go_wp2
        · go_roundw
          case rel =>
            refine ⟨k + 1, by go_num, by omega, fun i hi hi' hik => ?_, hw2⟩
            by_cases e : i = k
            · subst e; rw [← hx.out, ← hy.out]
            · exact heq.out i hi hi' (by omega)
          case measure => simp [intOf]; omega
        · go_ret
          exact ⟨ret_bool (by
            have h1 : false ≠ true := by decide
            rw [hx.out, hy.out] at h1
            rw [eq_comm, decide_eq_false_iff_not]
            intro h
            subst h
            exact h1 rfl), hw2⟩
        · go_ret
          exact ⟨ret_bool (by
            have h1 : true ≠ false := by decide
            rw [hx.out, hy.out] at h1
            rw [eq_comm, decide_eq_false_iff_not]
            intro h
            subst h
            exact h1 rfl), hw2⟩
        · go_roundw
          case rel =>
            refine ⟨k + 1, by go_num, by omega, fun i hi hi' hik => ?_, hw2⟩
            by_cases e : i = k
            · subst e; rw [← hx.out, ← hy.out]
            · exact heq.out i hi hi' (by omega)
          case measure => simp [intOf]; omega
      · replace heq := hid heq
        go_wp2
        go_ret
        exact ⟨ret_bool (by
          rw [eq_comm, decide_eq_true_iff]
          exact List.ext_getElem hlen fun i hi hi' => heq.out i hi hi' (by omega)), hb⟩
  · go_enter Tryd.func54, Tryd.ntmps54
    go_wp2
    go_ret
    exact ⟨ret_bool (by rw [eq_comm, decide_eq_false_iff_not]; intro h; exact hlen (by rw [h])), Below.refl _ _⟩

set_option maxRecDepth 100000 in
set_option maxHeartbeats 1000000 in
theorem agBools_any (es fs : List Bool) (A B : Option Addr) (c d : Nat) (w : World) (hn : es.length ≤ c) (hc : c ≤ 9223372036854775807) (hm : fs.length ≤ d) (_hd : d ≤ 9223372036854775807) (hr : BoolsAt w w.heap.size A es) (hs : BoolsAt w w.heap.size B fs) :
    Calls Tryd.prog 75 #[.slice A es.length c, .slice B fs.length d] w fun e w' => e = .returned (.bool (decide (es = fs))) ∧ Below w.heap.size w w' := by
  replace hr := hid hr
  replace hs := hid hs
  by_cases hlen : es.length = fs.length
  · go_enter Tryd.func75, Tryd.ntmps75
    go_wp2
    go_loopw [5] (fun i wr => ∃ k : Nat, i = .int .i64 k ∧ k ≤ es.length ∧ (∀ i (h : i < es.length) (h' : i < fs.length), i < k → es[i] = fs[i]) ∧ Below w.heap.size w wr) (fun i _ => es.length - (intOf i).toNat)
    case atStart => exact ⟨0, rfl, by omega, by intro i _ _ h; omega, Below.refl _ _⟩
    case round =>
      obtain ⟨k, rfl, hk, heq, hb⟩ := hrel
      by_cases hlt : k < es.length
      · obtain ⟨b, o, hA, hB, hE⟩ := hr.out (by omega)
        obtain ⟨b', o', hA', hB', hF⟩ := hs.out (by omega)
        subst hA
        subst hA'
        have e0 := hE k hlt
        have f0 := hF k (by omega)
        have k1 : (0 : Int) ≤ (k : Int) ∧ (k : Int) < (es.length : Int) ∧ (k : Int) < (fs.length : Int) := by omega
        replace hE := hid hE
        replace hF := hid hF
        have g0 : ∀ x, (Fam w.heap.size w x).cell? ⟨b, o + k, none⟩ = some (.bool es[k]) := fun x => by rw [(Fam.below w.heap.size w x).cell (by simpa using hB)]; exact e0
        have i0 : ∀ x, (Fam w.heap.size w x).cell? ⟨b', o' + k, none⟩ = some (.bool fs[k]) := fun x => by rw [(Fam.below w.heap.size w x).cell (by simpa using hB')]; exact f0
        clear e0 f0
        obtain ⟨x, hx⟩ : ∃ x, Hid (x = es[k]) := ⟨_, hid rfl⟩
        obtain ⟨y, hy⟩ : ∃ y, Hid (y = fs[k]) := ⟨_, hid rfl⟩
        rw [← hx.out] at g0
        rw [← hy.out] at i0
        cases x <;> cases y
        all_goals
          replace heq := hid heq
          go_wp2_with fail
          refine wp_region_fam w.heap.size w (by kernel_rfl) (by kernel_rfl) hb ?_
          (repeat (go_big_quiet_step (fail)))
          refine wpQuiet_nil ?_
          intro w2 hw2
          replace hw2 := Fam.out hw2
          go_wp2
        · go_roundw
          case rel =>
            refine ⟨k + 1, by go_num, by omega, fun i hi hi' hik => ?_, hw2⟩
            by_cases e : i = k
            · subst e; rw [← hx.out, ← hy.out]
            · exact heq.out i hi hi' (by omega)
          case measure => simp [intOf]; omega
        · go_ret
          exact ⟨ret_bool (by
            have h1 : false ≠ true := by decide
            rw [hx.out, hy.out] at h1
            rw [eq_comm, decide_eq_false_iff_not]
            intro h
            subst h
            exact h1 rfl), hw2⟩
        · go_ret
          exact ⟨ret_bool (by
            have h1 : true ≠ false := by decide
            rw [hx.out, hy.out] at h1
            rw [eq_comm, decide_eq_false_iff_not]
            intro h
            subst h
            exact h1 rfl), hw2⟩
        · go_roundw
          case rel =>
            refine ⟨k + 1, by go_num, by omega, fun i hi hi' hik => ?_, hw2⟩
            by_cases e : i = k
            · subst e; rw [← hx.out, ← hy.out]
            · exact heq.out i hi hi' (by omega)
          case measure => simp [intOf]; omega
      · replace heq := hid heq
        go_wp2
        go_ret
        exact ⟨ret_bool (by
          rw [eq_comm, decide_eq_true_iff]
          exact List.ext_getElem hlen fun i hi hi' => heq.out i hi hi' (by omega)), hb⟩
  · go_enter Tryd.func75, Tryd.ntmps75
    go_wp2
    go_ret
    exact ⟨ret_bool (by rw [eq_comm, decide_eq_false_iff_not]; intro h; exact hlen (by rw [h])), Below.refl _ _⟩

end Go.Proofs.YtimoekglamdddaaDoor

/- A statement that draws its order and whose calls may write some old blocks one after the other: one walk in the order of the text serves every order, if what holds behind m operations is told (I m). -/
namespace AG
open Go Go.RowKit

/-- The ways on of a world: what one operation may do (S), and what holds behind m operations (I m). -/
structure Way (S : World → World → Prop) (I : Nat → World → Prop) : Prop where
  refl : ∀ w, S w w
  trans : ∀ a b c, S a b → S b c → S a c
  more : ∀ m w, I m w → I (m + 1) w

theorem Way.mono {S : World → World → Prop} {I : Nat → World → Prop} (y : Way S I) {m : Nat} {w : World} (h : I m w) : ∀ k, I (m + k) w
  | 0 => h
  | k + 1 => y.more _ _ (y.mono h k)

namespace GK
section
variable {P : Program} {ops : Array Oper} {md : Region.Mode} {n M : Nat} {S : World → World → Prop} {I : Nat → World → Prop} {sp : Nat → Value → World → Prop}

/-- What the check says of the first n operations. -/
structure Ok (md : Region.Mode) (ops : Array Oper) (n : Nat) : Prop where
  sel : Region.noSelect ops = true
  size : n ≤ ops.size
  back : ∀ j, j < n → ∀ k ∈ predsOf md ops j, k < j
  one : ∀ i k t, i < n → k < n → dstOf ops i = some t → dstOf ops k = some t → i = k
  seen : ∀ j k t, j < n → k < n → dstOf ops k = some t → t ∈ looksOf ops j → k ∈ predsOf md ops j

/-- The frames of two ways look the same to an operation whose callers have all come up. -/
theorem Ok.same {L : Nat → Bool} {val vh : Nat → Value} {a0 ar a : Act} {j : Nat} {oj : Oper} (g : Ok md ops n) (hr : Pt ops n L val a0 ar) (hl : Pt ops n (fun k => decide (k < j)) vh a0 a) (hj : j < n)
    (ho : ops[j]? = some oj) (hp : ∀ k ∈ predsOf md ops j, L k = true) (hv : ∀ k, k < j → L k = true → vh k = val k) :
    execOp a.eval oj = execOp ar.eval oj ∧ Region.wanted oj (yielded ops a.tmps) = Region.wanted oj (yielded ops ar.tmps) := by
  refine look_same (Region.noSelect_spec g.sel j oj · · ho) fun t ht => hl.agree hr fun k hk hd => ?_
  have hm := g.seen j k t hj hk hd (by simpa [looksOf, ho] using ht)
  have hlt := g.back j hj k hm
  have hLk := hp k hm
  exact ⟨by simp [hlt, hLk], fun _ => hv k hlt hLk⟩

/-- A fact that stays whatever the operations do. -/
def Steady (S : World → World → Prop) (F : World → Prop) : Prop := ∀ w w', S w w' → F w → F w'

/-- The walk in the order of the text; L: the operations that have been carried out already (none, for who walks). -/
def Res (P : Program) (md : Region.Mode) (ops : Array Oper) (S : World → World → Prop) (I : Nat → World → Prop) (M : Nat) (sp : Nat → Value → World → Prop) (L : Nat → Bool) (val : Nat → Value) (wr : World)
    (Q : List (Nat × (World → Prop)) → Act → Prop) : List Oper → Nat → List (Nat × (World → Prop)) → Act → Prop
  | [], _, Γ, a => Q Γ a
  | o :: rest, i, Γ, a =>
    if Region.wanted o (yielded ops a.tmps) = true then
      (∃ v, (∀ m w, m < M → I m w → fnUpon (fun u w' => u = v ∧ w' = w) ((execOp a.eval o).run P w)) ∧ (L i = true → val i = v) ∧ Res P md ops S I M sp L val wr Q rest (i + 1) Γ (a.put o.dst v)) ∨
      (∃ Z : Value → World → Prop, (∀ u, Steady S (Z u)) ∧ (∀ m w, m < M → I m w → FactsAt md ops i Γ w → fnUpon (fun u w' => (S w w' ∧ I (m + 1) w') ∧ Z u w') ((execOp a.eval o).run P w)) ∧ (L i = true → Z (val i) wr) ∧
        ∀ u, (L i = true → u = val i) → (L i = false → ∃ m w', I m w' ∧ Z u w') → Res P md ops S I M sp L val wr Q rest (i + 1) ((i, Z u) :: Γ) (a.put o.dst u)) ∨
      ((∀ u, Steady S (sp i u)) ∧ (∀ m w, m < M → I m w → FactsAt md ops i Γ w → callUpon P w (fun e w' => ∃ u, e = .returned u ∧ (S w w' ∧ I (m + 1) w') ∧ sp i u w') ((execOp a.eval o).run P w)) ∧ (L i = true → sp i (val i) wr) ∧
        ∀ u, (L i = true → u = val i) → (L i = false → ∃ m w', I m w' ∧ sp i u w') → Res P md ops S I M sp L val wr Q rest (i + 1) ((i, sp i u) :: Γ) (a.put o.dst u))
    else (L i = true → val i = undef) ∧ Res P md ops S I M sp L val wr Q rest (i + 1) Γ (a.put o.dst undef)

variable {Q : List (Nat × (World → Prop)) → Act → Prop}

/-- Behind the place of what was carried out last: only the world has moved on. -/
theorem Res.later {L L' : Nat → Bool} {val val' : Nat → Value} {wr w1 : World} (hb : S wr w1) : ∀ (l : List Oper) (i : Nat) (Γ : List (Nat × (World → Prop))) (a : Act),
    (∀ k, i ≤ k → L' k = L k ∧ val' k = val k) → Res P md ops S I M sp L val wr Q l i Γ a → Res P md ops S I M sp L' val' w1 Q l i Γ a := by
  intro l
  induction l with
  | nil => intro i Γ a _ h; exact h
  | cons o rest ih =>
    intro i Γ a he h
    obtain ⟨hL, hv⟩ := he i (Nat.le_refl i)
    have he' : ∀ k, i + 1 ≤ k → L' k = L k ∧ val' k = val k := fun k hk => he k (by omega)
    unfold Res at h ⊢
    rw [hL, hv]
    split
    · rename_i hw
      rw [if_pos hw] at h
      rcases h with ⟨v, h1, h2, h3⟩ | ⟨Z, hs, h1, h2, h3⟩ | ⟨hs, h1, h2, h3⟩
      · exact .inl ⟨v, h1, h2, ih _ _ _ he' h3⟩
      · exact .inr (.inl ⟨Z, hs, h1, fun h => hs _ _ _ hb (h2 h), fun u hu hu' => ih _ _ _ he' (h3 u hu hu')⟩)
      · exact .inr (.inr ⟨hs, h1, fun h => hs _ _ _ hb (h2 h), fun u hu hu' => ih _ _ _ he' (h3 u hu hu')⟩)
    · rename_i hw
      rw [if_neg hw] at h
      exact ⟨h.1, ih _ _ _ he' h.2⟩

/-- Some way leads to operation j. -/
theorem Res.reach {L : Nat → Bool} {val : Nat → Value} {wr : World} {a0 : Act} {j : Nat} {oj : Oper} (y : Way S I) (g : Ok md ops n) (hj : j < n) (ho : ops[j]? = some oj) :
    ∀ (l : List Oper) (i : Nat) (Γ : List (Nat × (World → Prop))) (a : Act) (vh : Nat → Value) (mh : Nat) (wh : World), (∀ m, m < l.length → l[m]? = ops[i + m]?) → i + l.length = n → i ≤ j → Res P md ops S I M sp L val wr Q l i Γ a →
      Pt ops n (fun k => decide (k < i)) vh a0 a → (∀ k, k < i → L k = true → vh k = val k) → (∀ p ∈ Γ, Steady S p.2) → (∀ p ∈ Γ, L p.1 = true → p.2 wr) → mh + l.length ≤ M → S wr wh → I mh wh → (∀ p ∈ Γ, p.2 wh) →
      ∃ rest Γj aj vj, Res P md ops S I M sp L val wr Q (oj :: rest) j Γj aj ∧ Pt ops n (fun k => decide (k < j)) vj a0 aj ∧ (∀ k, k < j → L k = true → vj k = val k) ∧ (∀ p ∈ Γj, L p.1 = true → p.2 wr) := by
  intro l
  induction l with
  | nil => intro i Γ a vh mh wh _ hn hij; simp at hn; omega
  | cons o rest ih =>
    intro i Γ a vh mh wh hl hn hij h hpt hv hst hlr hmh hrh hBh hfh
    have hio : ops[i]? = some o := by simpa using (hl 0 (by simp)).symm
    by_cases e : i = j
    · subst e
      obtain rfl : o = oj := Option.some.inj (hio.symm.trans ho)
      exact ⟨rest, Γ, a, vh, h, hpt, hv, hlr⟩
    · have hlt : i < j := by omega
      have hin : i < n := by omega
      have hl' : ∀ m, m < rest.length → rest[m]? = ops[i + 1 + m]? := fun m hm => by
        have := hl (m + 1) (by simp; omega)
        simpa [Nat.add_assoc, Nat.add_comm 1 m] using this
      have hn' : i + 1 + rest.length = n := by simp at hn; omega
      have hm1 : mh + rest.length ≤ M ∧ mh + 1 + rest.length ≤ M ∧ mh < M := by simp at hmh; omega
      have hput : ∀ u, Pt ops n (fun k => decide (k < i + 1)) (upd vh i u) a0 (a.put o.dst u) := fun u => by
        have := hpt.put (u := u) g.one hin (by simp) hio
        have e2 : ins (fun k => decide (k < i)) i = fun k => decide (k < i + 1) := by
          funext k; simp only [ins]; rw [Bool.eq_iff_iff]; simp; omega
        rwa [e2] at this
      have hvu : ∀ u, (L i = true → u = val i) → ∀ k, k < i + 1 → L k = true → upd vh i u k = val k := fun u hu k hk hLk => by
        unfold upd
        by_cases e : k = i
        · subst e; rw [if_pos rfl]; exact hu hLk
        · rw [if_neg e]; exact hv k (by omega) hLk
      unfold Res at h
      split at h
      · rcases h with ⟨v, h1, h2, h3⟩ | ⟨Z, hs, h1, h2, h3⟩ | ⟨hs, h1, h2, h3⟩
        · exact ih _ _ _ _ mh wh hl' hn' (by omega) h3 (hput v) (hvu v fun h => (h2 h).symm) hst hlr hm1.1 hrh hBh hfh
        · cases hLi : L i with
          | true =>
            refine ih _ _ _ _ mh wh hl' hn' (by omega) (h3 (val i) (fun _ => rfl) (fun h => by rw [hLi] at h; cases h)) (hput _) (hvu _ fun _ => rfl) ?_ ?_ hm1.1 hrh hBh ?_
            · exact fun p hp => by rcases List.mem_cons.1 hp with rfl | hp; exact hs _; exact hst p hp
            · exact fun p hp hL => by rcases List.mem_cons.1 hp with rfl | hp; exact h2 hLi; exact hlr p hp hL
            · exact fun p hp => by rcases List.mem_cons.1 hp with rfl | hp; exact hs _ _ _ hrh (h2 hLi); exact hfh p hp
          | false =>
            have hx := h1 mh wh hm1.2.2 hBh fun p hp _ => hfh p hp
            have hgo : ∀ u w', (S wh w' ∧ I (mh + 1) w') ∧ Z u w' → _ := fun u w' hz =>
              ih (i + 1) ((i, Z u) :: Γ) (a.put o.dst u) (upd vh i u) (mh + 1) w' hl' hn' (by omega) (h3 u (fun h => by rw [hLi] at h; cases h) (fun _ => ⟨_, w', hz.1.2, hz.2⟩)) (hput u)
                (hvu u fun h => by rw [hLi] at h; cases h) (fun p hp => by rcases List.mem_cons.1 hp with rfl | hp; exact hs _; exact hst p hp)
                (fun p hp hL => by rcases List.mem_cons.1 hp with rfl | hp; (rw [hLi] at hL; cases hL); exact hlr p hp hL) hm1.2.1 (y.trans _ _ _ hrh hz.1.1) hz.1.2
                (fun p hp => by rcases List.mem_cons.1 hp with rfl | hp; exact hz.2; exact hst p hp _ _ hz.1.1 (hfh p hp))
            generalize (execOp a.eval o).run P wh = r at hx
            cases r with
            | ok x w' => cases x <;> simp only [fnUpon] at hx <;> exact hgo _ _ hx
            | halt x w' => exact hx.elim
        · cases hLi : L i with
          | true =>
            refine ih _ _ _ _ mh wh hl' hn' (by omega) (h3 (val i) (fun _ => rfl) (fun h => by rw [hLi] at h; cases h)) (hput _) (hvu _ fun _ => rfl) ?_ ?_ hm1.1 hrh hBh ?_
            · exact fun p hp => by rcases List.mem_cons.1 hp with rfl | hp; exact hs _; exact hst p hp
            · exact fun p hp hL => by rcases List.mem_cons.1 hp with rfl | hp; exact h2 hLi; exact hlr p hp hL
            · exact fun p hp => by rcases List.mem_cons.1 hp with rfl | hp; exact hs _ _ _ hrh (h2 hLi); exact hfh p hp
          | false =>
            have hx := h1 mh wh hm1.2.2 hBh fun p hp _ => hfh p hp
            have hgo : ∀ u w', (S wh w' ∧ I (mh + 1) w') ∧ sp i u w' → _ := fun u w' hz =>
              ih (i + 1) ((i, sp i u) :: Γ) (a.put o.dst u) (upd vh i u) (mh + 1) w' hl' hn' (by omega) (h3 u (fun h => by rw [hLi] at h; cases h) (fun _ => ⟨_, w', hz.1.2, hz.2⟩)) (hput u)
                (hvu u fun h => by rw [hLi] at h; cases h) (fun p hp => by rcases List.mem_cons.1 hp with rfl | hp; exact hs _; exact hst p hp)
                (fun p hp hL => by rcases List.mem_cons.1 hp with rfl | hp; (rw [hLi] at hL; cases hL); exact hlr p hp hL) hm1.2.1 (y.trans _ _ _ hrh hz.1.1) hz.1.2
                (fun p hp => by rcases List.mem_cons.1 hp with rfl | hp; exact hz.2; exact hst p hp _ _ hz.1.1 (hfh p hp))
            generalize (execOp a.eval o).run P wh = r at hx
            cases r with
            | ok x w' =>
              cases x <;> simp only [callUpon] at hx
              obtain ⟨_, hc⟩ := hx
              obtain ⟨e', w'', _, ⟨u, _, hz⟩, _⟩ := hc []
              exact hgo u w'' hz
            | halt x w' => exact hx.elim
      · exact ih _ _ _ _ mh wh hl' hn' (by omega) h.2 (hput undef) (hvu undef fun hL => (h.1 hL).symm) hst hlr hm1.1 hrh hBh hfh

theorem Res.mark {L : Nat → Bool} {val : Nat → Value} {wr w1 : World} {a0 ar : Act} {j mr m1 : Nat} {oj : Oper} {u : Value} (g : Ok md ops n) (hj : j < n) (ho : ops[j]? = some oj) (hLj : L j = false)
    (hp : ∀ k ∈ predsOf md ops j, L k = true) (hdep : ∀ k, depB md ops j k = true → L k = true) (hr : Pt ops n L val a0 ar) (hmr : mr < M) (hBr : I mr wr) (hb : S wr w1) (hB1 : I m1 w1) (hout : Outc P ops sp j oj ar wr u w1) :
    ∀ (l : List Oper) (i : Nat) (Γ : List (Nat × (World → Prop))) (a : Act) (vh : Nat → Value), (∀ m, m < l.length → l[m]? = ops[i + m]?) → i + l.length = n → i ≤ j → Res P md ops S I M sp L val wr Q l i Γ a →
      Pt ops n (fun k => decide (k < i)) vh a0 a → (∀ k, k < i → L k = true → vh k = val k) → (∀ p ∈ Γ, L p.1 = true → p.2 wr) → Res P md ops S I M sp (ins L j) (upd val j u) w1 Q l i Γ a := by
  intro l
  induction l with
  | nil => intro i Γ a vh _ hn hij; simp at hn; omega
  | cons o rest ih =>
    intro i Γ a vh hl hn hij h hpt hv hlr
    have hio : ops[i]? = some o := by simpa using (hl 0 (by simp)).symm
    by_cases e : i = j
    · subst e
      obtain rfl : o = oj := Option.some.inj (hio.symm.trans ho)
      obtain ⟨hex, hwt⟩ := g.same hr hpt hj ho hp hv
      have hins : ins L i i = true := by simp [ins]
      have hupd : upd val i u i = u := by simp [upd]
      have hafter : ∀ k, i + 1 ≤ k → ins L i k = L k ∧ upd val i u k = val k := fun k hk => by
        have : k ≠ i := by omega
        simp [ins, upd, this]
      have hF : FactsAt md ops i Γ wr := fun p hp' hd => hlr p hp' (hdep _ hd)
      unfold Res at h ⊢
      rw [hins, hupd]
      unfold Outc at hout
      rw [← hex, ← hwt] at hout
      split
      · rename_i hw
        rw [if_pos hw] at h hout
        rcases h with ⟨v, h1, h2, h3⟩ | ⟨Z, hs, h1, h2, h3⟩ | ⟨hs, h1, h2, h3⟩
        · have hx := h1 mr wr hmr hBr
          have huv : u = v := by
            generalize (execOp a.eval o).run P wr = r at hx hout
            cases r with
            | ok x w' => cases x <;> simp only [fnUpon] at hx <;> simp only at hout <;> rw [← hout.1, hx.1]
            | halt x w' => exact hx.elim
          exact .inl ⟨v, h1, fun _ => huv, Res.later hb _ _ _ _ hafter h3⟩
        · have hx := h1 mr wr hmr hBr hF
          have hz : Z u w1 := by
            generalize (execOp a.eval o).run P wr = r at hx hout
            cases r with
            | ok x w' => cases x <;> simp only [fnUpon] at hx <;> simp only at hout <;> (obtain ⟨rfl, rfl⟩ := hout; exact hx.2)
            | halt x w' => exact hx.elim
          refine .inr (.inl ⟨Z, hs, h1, fun _ => hz, fun u' hu' _ => ?_⟩)
          obtain rfl := hu' rfl
          exact Res.later hb _ _ _ _ hafter (h3 u' (fun h => by rw [hLj] at h; cases h) (fun _ => ⟨m1, w1, hB1, hz⟩))
        · have hx := h1 mr wr hmr hBr hF
          have hz : sp i u w1 := by
            generalize (execOp a.eval o).run P wr = r at hx hout
            cases r with
            | ok x w' => cases x <;> simp only [callUpon] at hx; exact hout
            | halt x w' => exact hx.elim
          refine .inr (.inr ⟨hs, h1, fun _ => hz, fun u' hu' _ => ?_⟩)
          obtain rfl := hu' rfl
          exact Res.later hb _ _ _ _ hafter (h3 u' (fun h => by rw [hLj] at h; cases h) (fun _ => ⟨m1, w1, hB1, hz⟩))
      · rename_i hw
        rw [if_neg hw] at h hout
        exact ⟨fun _ => hout.1.symm, Res.later hb _ _ _ _ hafter h.2⟩
    · have hlt : i < j := by omega
      have hin : i < n := by omega
      have hl' : ∀ m, m < rest.length → rest[m]? = ops[i + 1 + m]? := fun m hm => by
        have := hl (m + 1) (by simp; omega)
        simpa [Nat.add_assoc, Nat.add_comm 1 m] using this
      have hn' : i + 1 + rest.length = n := by simp at hn; omega
      have hput : ∀ u, Pt ops n (fun k => decide (k < i + 1)) (upd vh i u) a0 (a.put o.dst u) := fun u => by
        have := hpt.put (u := u) g.one hin (by simp) hio
        have e2 : ins (fun k => decide (k < i)) i = fun k => decide (k < i + 1) := by
          funext k; simp only [ins]; rw [Bool.eq_iff_iff]; simp; omega
        rwa [e2] at this
      have hvu : ∀ u, (L i = true → u = val i) → ∀ k, k < i + 1 → L k = true → upd vh i u k = val k := fun u hu k hk hLk => by
        unfold upd
        by_cases e : k = i
        · subst e; rw [if_pos rfl]; exact hu hLk
        · rw [if_neg e]; exact hv k (by omega) hLk
      have hins : ins L j i = L i := by simp [ins, e]
      have hupd : upd val j u i = val i := by simp [upd, e]
      unfold Res at h ⊢
      rw [hins, hupd]
      split
      · rename_i hw
        rw [if_pos hw] at h
        rcases h with ⟨v, h1, h2, h3⟩ | ⟨Z, hs, h1, h2, h3⟩ | ⟨hs, h1, h2, h3⟩
        · exact .inl ⟨v, h1, h2, ih _ _ _ _ hl' hn' (by omega) h3 (hput v) (hvu v fun h => (h2 h).symm) hlr⟩
        · exact .inr (.inl ⟨Z, hs, h1, fun h => hs _ _ _ hb (h2 h), fun u' hu hu' => ih _ _ _ _ hl' hn' (by omega) (h3 u' hu hu') (hput u') (hvu u' hu) fun p hp hL => by
            rcases List.mem_cons.1 hp with rfl | hp
            · rw [hu hL]; exact h2 hL
            · exact hlr p hp hL⟩)
        · exact .inr (.inr ⟨hs, h1, fun h => hs _ _ _ hb (h2 h), fun u' hu hu' => ih _ _ _ _ hl' hn' (by omega) (h3 u' hu hu') (hput u') (hvu u' hu) fun p hp hL => by
            rcases List.mem_cons.1 hp with rfl | hp
            · rw [hu hL]; exact h2 hL
            · exact hlr p hp hL⟩)
      · rename_i hw
        rw [if_neg hw] at h
        exact ⟨h.1, ih _ _ _ _ hl' hn' (by omega) h.2 (hput undef) (hvu undef fun hL => (h.1 hL).symm) hlr⟩

/-- All have come up. -/
theorem Res.over {L : Nat → Bool} {val : Nat → Value} {wr : World} {a0 : Act} (g : Ok md ops n) (hL : ∀ k, k < n → L k = true) :
    ∀ (l : List Oper) (i : Nat) (Γ : List (Nat × (World → Prop))) (a : Act) (vh : Nat → Value), (∀ m, m < l.length → l[m]? = ops[i + m]?) → i + l.length = n → Res P md ops S I M sp L val wr Q l i Γ a →
      Pt ops n (fun k => decide (k < i)) vh a0 a → (∀ k, k < i → vh k = val k) → (∀ p ∈ Γ, p.2 wr) → ∃ Γ' a' vh', Q Γ' a' ∧ Pt ops n (fun k => decide (k < n)) vh' a0 a' ∧ (∀ k, k < n → vh' k = val k) ∧ ∀ p ∈ Γ', p.2 wr := by
  intro l
  induction l with
  | nil =>
    intro i Γ a vh _ hn h hpt hv hf
    obtain rfl : i = n := by simpa using hn
    exact ⟨Γ, a, vh, h, hpt, hv, hf⟩
  | cons o rest ih =>
    intro i Γ a vh hl hn h hpt hv hf
    have hio : ops[i]? = some o := by simpa using (hl 0 (by simp)).symm
    have hin : i < n := by simp at hn; omega
    have hLi := hL i hin
    have hl' : ∀ m, m < rest.length → rest[m]? = ops[i + 1 + m]? := fun m hm => by
      have := hl (m + 1) (by simp; omega)
      simpa [Nat.add_assoc, Nat.add_comm 1 m] using this
    have hn' : i + 1 + rest.length = n := by simp at hn; omega
    have hput : ∀ u, Pt ops n (fun k => decide (k < i + 1)) (upd vh i u) a0 (a.put o.dst u) := fun u => by
      have := hpt.put (u := u) g.one hin (by simp) hio
      have e2 : ins (fun k => decide (k < i)) i = fun k => decide (k < i + 1) := by
        funext k; simp only [ins]; rw [Bool.eq_iff_iff]; simp; omega
      rwa [e2] at this
    have hvu : ∀ u, u = val i → ∀ k, k < i + 1 → upd vh i u k = val k := fun u hu k hk => by
      unfold upd
      by_cases e : k = i
      · subst e; rw [if_pos rfl]; exact hu
      · rw [if_neg e]; exact hv k (by omega)
    unfold Res at h
    split at h
    · rcases h with ⟨v, h1, h2, h3⟩ | ⟨Z, hs, h1, h2, h3⟩ | ⟨hs, h1, h2, h3⟩
      · exact ih _ _ _ _ hl' hn' h3 (hput v) (hvu v (h2 hLi).symm) hf
      · exact ih _ _ _ _ hl' hn' (h3 (val i) (fun _ => rfl) (fun h => by rw [hLi] at h; cases h)) (hput _) (hvu _ rfl) fun p hp => by
          rcases List.mem_cons.1 hp with rfl | hp
          exact h2 hLi; exact hf p hp
      · exact ih _ _ _ _ hl' hn' (h3 (val i) (fun _ => rfl) (fun h => by rw [hLi] at h; cases h)) (hput _) (hvu _ rfl) fun p hp => by
          rcases List.mem_cons.1 hp with rfl | hp
          exact h2 hLi; exact hf p hp
    · exact ih _ _ _ _ hl' hn' h.2 (hput undef) (hvu undef (h.1 hLi).symm) hf

/-- One operation comes up. -/
theorem Res.step {Qx : Exit → Act → World → Prop} {L : Nat → Bool} {val : Nat → Value} {wr : World} {a0 ar : Act} {j mr : Nat} {oj : Oper} {l : List Oper} (y : Way S I) (g : Ok md ops n) (hj : j < n) (ho : ops[j]? = some oj)
    (hLj : L j = false) (hp : ∀ k ∈ predsOf md ops j, L k = true) (hdep : ∀ k, depB md ops j k = true → L k = true) (hr : Pt ops n L val a0 ar) (hmr : mr + n ≤ M) (hBr : I mr wr) (hl : ∀ m, m < l.length → l[m]? = ops[m]?) (hn : l.length = n)
    (h : Res P md ops S I M sp L val wr Q l 0 [] a0) :
    wpOp P ops Qx j (fun a' w' => ∃ u, a' = ar.put oj.dst u ∧ I (mr + 1) w' ∧ Res P md ops S I M sp (ins L j) (upd val j u) w' Q l 0 [] a0) ar wr := by
  have pt0 : ∀ v, Pt ops n (fun k => decide (k < 0)) v a0 a0 := fun v => ⟨rfl, fun k t _ hS => by simp at hS, fun _ _ => rfl⟩
  have hl0 : ∀ m, m < l.length → l[m]? = ops[0 + m]? := fun m hm => by rw [Nat.zero_add]; exact hl m hm
  have hmM : mr < M := by omega
  have after : ∀ u w1, S wr w1 → I (mr + 1) w1 → Outc P ops sp j oj ar wr u w1 → (∃ u', ar.put oj.dst u = ar.put oj.dst u' ∧ I (mr + 1) w1 ∧ Res P md ops S I M sp (ins L j) (upd val j u') w1 Q l 0 [] a0) := fun u w1 hb hB1 hout =>
    ⟨u, rfl, hB1, Res.mark g hj ho hLj hp hdep hr hmM hBr hb hB1 hout l 0 [] a0 val hl0 (by omega) (Nat.zero_le _) h (pt0 _) (fun k hk => by omega) (fun p hp => by cases hp)⟩
  obtain ⟨rest, Γ, a, vh, hres, hpt, hv, hlr⟩ := Res.reach (j := j) y g hj ho l 0 [] a0 val mr wr hl0 (by omega) (Nat.zero_le _) h (pt0 _) (fun k hk => by omega) (fun p hp => by cases hp) (fun p hp => by cases hp) (by omega) (y.refl _) hBr (fun p hp => by cases hp)
  obtain ⟨hex, hwt⟩ := g.same hr hpt hj ho hp hv
  have hF : FactsAt md ops j Γ wr := fun p hp' hd => hlr p hp' (hdep _ hd)
  unfold wpOp
  simp only [ho]
  unfold Res at hres
  rw [hex, hwt] at hres
  split
  · rename_i hw
    rw [if_pos hw] at hres
    refine .inl ?_
    unfold Oper.wp
    have hout : ∀ u w1, (match (execOp ar.eval oj).run P wr with | .ok (.value v) w' => v = u ∧ w' = w1 | .ok .skip w' => undef = u ∧ w' = w1 | .ok (.enter _ _) _ => sp j u w1 | _ => False) → Outc P ops sp j oj ar wr u w1 := fun u w1 h => by
      unfold Outc; rw [if_pos hw]; exact h
    rcases hres with ⟨v, h1, h2, h3⟩ | ⟨Z, hs, h1, h2, h3⟩ | ⟨hs, h1, h2, h3⟩
    · have hx := h1 mr wr hmM hBr
      cases hrun : (execOp ar.eval oj).run P wr with
      | ok x w' =>
        rw [hrun] at hx hout
        cases x <;> simp only [fnUpon] at hx <;> simp only [Oper.upon]
        case value v' => exact after _ _ (by rw [hx.2]; exact y.refl _) (by rw [hx.2]; exact y.more _ _ hBr) (hout _ _ ⟨rfl, rfl⟩)
        case skip => exact after _ _ (by rw [hx.2]; exact y.refl _) (by rw [hx.2]; exact y.more _ _ hBr) (hout _ _ ⟨rfl, rfl⟩)
      | halt x w' => rw [hrun] at hx; exact hx.elim
    · have hx := h1 mr wr hmM hBr hF
      cases hrun : (execOp ar.eval oj).run P wr with
      | ok x w' =>
        rw [hrun] at hx hout
        cases x <;> simp only [fnUpon] at hx <;> simp only [Oper.upon]
        case value v' => exact after _ _ hx.1.1 hx.1.2 (hout _ _ ⟨rfl, rfl⟩)
        case skip => exact after _ _ hx.1.1 hx.1.2 (hout _ _ ⟨rfl, rfl⟩)
      | halt x w' => rw [hrun] at hx; exact hx.elim
    · have hx := h1 mr wr hmM hBr hF
      cases hrun : (execOp ar.eval oj).run P wr with
      | ok x w' =>
        rw [hrun] at hx hout
        cases x <;> simp only [callUpon] at hx
        simp only [Oper.upon]
        obtain ⟨rfl, hc⟩ := hx
        exact hc.mono fun e w'' ⟨u, he, hb, hz⟩ => by subst he; exact after u w'' hb.1 hb.2 (hout _ _ hz)
      | halt x w' => rw [hrun] at hx; exact hx.elim
  · rename_i hw
    rw [if_neg hw] at hres
    exact after _ _ (y.refl _) (y.more _ _ hBr) (by unfold Outc; rw [if_neg hw]; exact ⟨rfl, rfl⟩)

/-- Operations that the walk need not wait for (Z) have been carried out; the others behind the first n have not. -/
structure HInv (md : Region.Mode) (ops : Array Oper) (n : Nat) (Z : Nat → Bool) (listed : Array Bool) : Prop where
  size : listed.size = ops.size
  closed : ∀ j oj, ops[j]? = some oj → listed.getD j false = true → ∀ e ∈ oj.after, Region.binds md e = true → listed.getD e.on false = true
  tail : ∀ t, n ≤ t → t < ops.size → Z t = false → listed.getD t true = false
  zin : ∀ t, n ≤ t → t < ops.size → Z t = true → listed.getD t false = true
theorem HInv.set {Z : Nat → Bool} {i : Nat} {listed : Array Bool} (inv : HInv md ops n Z listed) (hi : i ∈ Region.ready md ops listed) (hin : i < n) : HInv md ops n Z (listed.setIfInBounds i true) := by
  obtain ⟨_, oi, hoi, hall⟩ := mem_ready.1 hi
  refine ⟨by simp [inv.size], fun j oj hj hl e he hb => ?_, fun t ht ht' hz => by rw [getD_set_ne true (by omega)]; exact inv.tail t ht ht' hz, fun t ht ht' hz => getD_set_true (inv.zin t ht ht' hz)⟩
  by_cases hij : i = j
  · subst hij
    have : oj = oi := Option.some.inj (hj.symm.trans hoi)
    subst this
    exact getD_set_true (hall e he hb)
  · rw [getD_set_ne false hij] at hl
    exact getD_set_true (inv.closed j oj hj hl e he hb)
def canonZ (ops : Array Oper) (n : Nat) (Z : Nat → Bool) : Array Bool := ((List.range ops.size).map fun k => decide (k < n) || Z k).toArray
/-- The operations that operation j waits for, at once or through others. -/
def needs (md : Region.Mode) (ops : Array Oper) (j : Nat) : List Nat := upset md ops ops.size (predsOf md ops j)

theorem grow_any {Qx : Exit → Act → World → Prop} {a0 : Act} {l : List Oper} {Z : Nat → Bool} {m1 : Nat} (y : Way S I) (g : Ok md ops n) (hM : 2 * n ≤ M) (hwait : ∀ t, n ≤ t → t < ops.size → Z t = false → ∀ i, i < n → i ∈ needs md ops t) (hl : ∀ m, m < l.length → l[m]? = ops[m]?) (hn : l.length = n)
    (hQ : ∀ Γ a w, Q Γ a → I n w → (∀ p ∈ Γ, p.2 w) → wpAny P md ops Qx m1 (canonZ ops n Z) a w) :
    ∀ (f : Nat) (listed : Array Bool) (ar : Act) (mr : Nat) (wr : World) (val : Nat → Value), (List.range n).countP (fun k => !listed.getD k false) = f → HInv md ops n Z listed → Pt ops n (fun k => listed.getD k false) val a0 ar → mr + f = n → I mr wr →
      Res P md ops S I M sp (fun k => listed.getD k false) val wr Q l 0 [] a0 → wpAny P md ops Qx (f + m1) listed ar wr := by
  intro f
  induction f with
  | zero =>
    intro listed ar mr wr val hc inv hpt hmr hB h
    have hall : ∀ k, k < n → listed.getD k false = true := fun k hk => by
      have := List.countP_eq_zero.1 hc k (List.mem_range.2 hk)
      simpa using this
    obtain ⟨Γ, a, vh, hq, hpa, hv, hf⟩ := Res.over g hall l 0 [] a0 val (fun m hm => by rw [Nat.zero_add]; exact hl m hm) (by omega) h ⟨rfl, fun k t _ hS => by simp at hS, fun _ _ => rfl⟩ (fun k hk => by omega) (fun p hp => by cases hp)
    have hcan : listed = canonZ ops n Z := by
      apply Array.ext_getElem?
      intro k
      unfold canonZ
      by_cases hks : k < ops.size
      · have hks' : k < listed.size := by rw [inv.size]; exact hks
        by_cases hkn : k < n
        · have := hall k hkn
          simp [hks, hks', hkn] at this ⊢
          exact this
        · cases hz : Z k
          · have := inv.tail k (by omega) hks hz
            simp [hks, hks', hkn, hz] at this ⊢
            exact this
          · have := inv.zin k (by omega) hks hz
            simp [hks, hks', hkn, hz] at this ⊢
            exact this
      · have hks' : ¬ k < listed.size := by rw [inv.size]; exact hks
        simp [hks, hks']
    have hfr : ar = a := by
      have h1 : ar.defers = a.defers := hpt.defers.trans hpa.defers.symm
      have h2 : ar.tmps = a.tmps := Array.ext_getElem? fun t => hpt.agree hpa fun k hk _ => ⟨by simp [hk, hall k hk], fun _ => (hv k hk).symm⟩
      cases ar; cases a; simp_all
    obtain rfl : mr = n := by omega
    rw [Nat.zero_add, hcan, hfr]
    exact hQ Γ a wr hq hB hf
  | succ f ih =>
    intro listed ar mr wr val hc inv hpt hmr hB h
    have hex : ∃ k, k < n ∧ listed.getD k false = false := by
      have : 0 < (List.range n).countP (fun k => !listed.getD k false) := by omega
      obtain ⟨k, hk, hp⟩ := List.countP_pos_iff.1 this
      exact ⟨k, List.mem_range.1 hk, by simpa using hp⟩
    obtain ⟨k0, hk0, hun0⟩ := hex
    obtain ⟨m, hm, hm1, hm2⟩ := least_of (p := fun k => !listed.getD k false) k0 (by simpa using hun0)
    have hmn : m < n := by omega
    have hms : m < listed.size := by rw [inv.size]; have := g.size; omega
    have hun : listed.getD m true = false := getD_in hms (by simpa using hm1)
    have hready : m ∈ Region.ready md ops listed := by
      have hmo : m < ops.size := by have := g.size; omega
      refine mem_ready.2 ⟨hun, ops[m], by simp [hmo], fun e he hb => ?_⟩
      have : e.on < m := g.back m hmn _ (by
        unfold predsOf
        rw [Array.getElem?_eq_getElem hmo]
        exact List.mem_map.2 ⟨e, List.mem_filter.2 ⟨by simpa using he, hb⟩, rfl⟩)
      have := hm2 _ this
      simpa using this
    have e1 : f + 1 + m1 = (f + m1) + 1 := by omega
    rw [e1]
    refine ⟨fun h0 => absurd (h0 ▸ hready) (by simp), fun j hj => ?_⟩
    obtain ⟨hju, oj, hoj, hall⟩ := mem_ready.1 hj
    have hjs : j < ops.size := (Array.getElem?_eq_some_iff.1 hoj).1
    have hp : ∀ k ∈ predsOf md ops j, listed.getD k false = true := fun k hk => by
      unfold predsOf at hk
      rw [hoj] at hk
      obtain ⟨e, he, rfl⟩ := List.mem_map.1 hk
      obtain ⟨he1, he2⟩ := List.mem_filter.1 he
      exact hall e (by simpa using he1) he2
    have hcl : ∀ i, listed.getD i false = true → ∀ k ∈ predsOf md ops i, listed.getD k false = true := fun i hi k hk => by
      unfold predsOf at hk
      cases hoi : ops[i]? with
      | none => rw [hoi] at hk; cases hk
      | some oi =>
        rw [hoi] at hk
        obtain ⟨e, he, rfl⟩ := List.mem_map.1 hk
        obtain ⟨he1, he2⟩ := List.mem_filter.1 he
        exact inv.closed i oi hoi hi e (by simpa using he1) he2
    have hjn : j < n := by
      rcases Nat.lt_or_ge j n with h | h
      · exact h
      · cases hz : Z j
        · have := upset_in hcl _ _ hp m (hwait j h hjs hz m hmn)
          rw [getD_both hun] at this
          cases this
        · have h1 := inv.zin j h hjs hz
          have hjl : j < listed.size := by rw [inv.size]; exact hjs
          simp [hjl] at h1 hju
          rw [h1] at hju
          cases hju
    have hdep : ∀ k, depB md ops j k = true → listed.getD k false = true := fun k hk => by
      unfold depB at hk
      exact upset_in hcl _ _ hp k (by simpa using hk)
    have hset : (fun k => (listed.setIfInBounds j true).getD k false) = ins (fun k => listed.getD k false) j := by
      funext k
      unfold ins
      by_cases e : k = j
      · subst e
        have : k < listed.size := by rw [inv.size]; exact hjs
        simp [this]
      · rw [getD_set_ne false (Ne.symm e)]
        simp [e]
    have hjf : listed.getD j false = false := getD_both hju
    refine wpOp_mono (fun a' w' ⟨u, he, hB', hres⟩ => ?_) (Res.step (Qx := Qx) y g hjn hoj hjf hp hdep hpt (by omega) hB hl hn h)
    subst he
    have hpt' := hpt.put (u := u) g.one hjn hjf hoj
    rw [← hset] at hres hpt'
    refine ih _ _ (mr + 1) _ _ ?_ (inv.set hj hjn) hpt' (by omega) hB' hres
    have := count_off n (fun k => !listed.getD k false) j hjn (by simpa using hjf)
    rw [hc] at this
    have e3 : (List.range n).countP (fun k => !(listed.setIfInBounds j true).getD k false) = (List.range n).countP (fun k => (!listed.getD k false) && k != j) := List.countP_congr fun k _ => by
      have := congrFun hset k
      simp only [ins] at this
      rw [this]
      by_cases e : k = j <;> simp [e]
    omega

theorem Res.fresh {val val' : Nat → Value} {wr w1 : World} : ∀ (l : List Oper) (i : Nat) (Γ : List (Nat × (World → Prop))) (a : Act), Res P md ops S I M sp (fun _ => false) val wr Q l i Γ a → Res P md ops S I M sp (fun _ => false) val' w1 Q l i Γ a := by
  intro l
  induction l with
  | nil => intro i Γ a h; exact h
  | cons o rest ih =>
    intro i Γ a h
    unfold Res at h ⊢
    split
    · rename_i hw
      rw [if_pos hw] at h
      rcases h with ⟨v, h1, h2, h3⟩ | ⟨Z, hs, h1, h2, h3⟩ | ⟨hs, h1, h2, h3⟩
      · exact .inl ⟨v, h1, (fun h => by cases h), ih _ _ _ h3⟩
      · exact .inr (.inl ⟨Z, hs, h1, (fun h => by cases h), fun u _ hu' => ih _ _ _ (h3 u (fun h => by cases h) hu')⟩)
      · exact .inr (.inr ⟨hs, h1, (fun h => by cases h), fun u _ hu' => ih _ _ _ (h3 u (fun h => by cases h) hu')⟩)
    · rename_i hw
      rw [if_neg hw] at h
      exact ⟨(fun h => by cases h), ih _ _ _ h.2⟩
end

/-- The walk that a prover makes: nothing has been carried out yet. -/
abbrev wpGrow (P : Program) (ops : Array Oper) (S : World → World → Prop) (I : Nat → World → Prop) (M : Nat) (w0 : World) (sp : Nat → Value → World → Prop) (Q : List (Nat × (World → Prop)) → Act → Prop) (l : List Oper) (i : Nat) (Γ : List (Nat × (World → Prop))) (a : Act) : Prop :=
  Res P .any ops S I M sp (fun _ => false) (fun _ => undef) w0 Q l i Γ a

def seqT (md : Region.Mode) (ops : Array Oper) : List Nat → Array Bool → Bool
  | [], listed => (Region.ready md ops listed).isEmpty
  | k :: τ, listed => decide (Region.ready md ops listed = [k]) && seqT md ops τ (listed.setIfInBounds k true)
theorem wpAny_of_seqT {P : Program} {md : Region.Mode} {ops : Array Oper} {Q' : Exit → Act → World → Prop} : ∀ (τ : List Nat) (listed : Array Bool) (a : Act) (w : World), (∀ k ∈ τ, k < ops.size) →
    seqT md ops τ listed = true → wpList P ops Q' (τ.filterMap (ops[·]?)) a w → wpAny P md ops Q' τ.length listed a w
  | [], _, _, _, _, hB, h => ⟨by simpa [seqT] using hB, h⟩
  | k :: τ, listed, a, w, hl, hB, h => by
    have hk : k < ops.size := hl k List.mem_cons_self
    have h0 : ops[k]? = some ops[k] := Array.getElem?_eq_getElem hk
    simp only [seqT, Bool.and_eq_true, decide_eq_true_eq] at hB
    rw [List.filterMap_cons, h0] at h
    refine ⟨fun h1 => (by rw [hB.1] at h1; cases h1), fun i hi => ?_⟩
    rw [hB.1] at hi
    have hik : i = k := by simpa using hi
    subst hik
    have hw : wpOp P ops Q' i (wpList P ops Q' (τ.filterMap (ops[·]?))) a w := by unfold wpOp; simp only [h0]; exact h
    exact wpOp_mono (fun a' w' h' => wpAny_of_seqT τ _ a' w' (fun k hk => hl k (List.mem_cons_of_mem _ hk)) hB.2 h') hw

def okB (md : Region.Mode) (ops : Array Oper) (n : Nat) : Bool :=
  Region.noSelect ops && decide (n ≤ ops.size) &&
  (List.range n).all fun j => (predsOf md ops j).all (fun k => decide (k < j)) && (List.range n).all fun k =>
    match dstOf ops k with
    | none => true
    | some t => (k == j || dstOf ops j != some t) && (!(looksOf ops j).contains t || (predsOf md ops j).contains k)
theorem okB_ok {md : Region.Mode} {ops : Array Oper} {n : Nat} (h : okB md ops n = true) : Ok md ops n := by
  unfold okB at h
  simp only [Bool.and_eq_true, decide_eq_true_eq] at h
  obtain ⟨⟨h1, h2⟩, h4⟩ := h
  have key : ∀ j, j < n → _ := fun j hj => List.all_eq_true.1 h4 j (List.mem_range.2 hj)
  simp only [Bool.and_eq_true] at key
  refine ⟨h1, h2, fun j hj k hk => by simpa using List.all_eq_true.1 (key j hj).1 k hk, fun i k t hi hk hdi hdk => ?_, fun j k t hj hk hd ht => ?_⟩
  · have := List.all_eq_true.1 (key i hi).2 k (List.mem_range.2 hk)
    simp only [hdk, hdi, Bool.and_eq_true, Bool.or_eq_true, beq_iff_eq, bne_self_eq_false, Bool.false_eq_true, or_false] at this
    exact this.1.symm
  · have := List.all_eq_true.1 (key j hj).2 k (List.mem_range.2 hk)
    simp only [hd, Bool.and_eq_true, Bool.or_eq_true] at this
    rcases this.2 with h | h
    · simp [ht] at h
    · simpa using h
def waitB (md : Region.Mode) (ops : Array Oper) (n : Nat) (Z : Nat → Bool) : Bool :=
  (List.range ops.size).all fun t => decide (t < n) || Z t || (List.range n).all fun i => (needs md ops t).contains i
theorem waitB_ok {md : Region.Mode} {ops : Array Oper} {n : Nat} {Z : Nat → Bool} (h : waitB md ops n Z = true) : ∀ t, n ≤ t → t < ops.size → Z t = false → ∀ i, i < n → i ∈ needs md ops t := fun t h1 h2 hz i hi => by
  have := List.all_eq_true.1 h t (List.mem_range.2 h2)
  have h3 : ¬ t < n := by omega
  simp only [hz, h3, decide_false, Bool.false_or] at this
  simpa using List.all_eq_true.1 this i (List.mem_range.2 hi)
/-- No operation is taken ahead; those behind the first n come in the order τ. -/
def growTB (md : Region.Mode) (ops : Array Oper) (n : Nat) (τ : List Nat) : Bool :=
  okB md ops n && waitB md ops n (fun _ => false) && seqT md ops τ (canonZ ops n fun _ => false) && decide (n + τ.length = ops.size) && τ.all fun k => decide (k < ops.size)
/-- Operation z is taken ahead. -/
def growZB (md : Region.Mode) (ops : Array Oper) (n z : Nat) (τ : List Nat) : Bool :=
  okB md ops n && waitB md ops n (fun k => k == z) && seqT md ops τ (canonZ ops n fun k => k == z) && decide (n + τ.length + 1 = ops.size) && (τ.all fun k => decide (k < ops.size)) && decide (n ≤ z) && decide (z < ops.size) &&
    (predsOf md ops z).isEmpty && Region.free md ops (Array.replicate ops.size false) z && (Region.ready md ops (Array.replicate ops.size false)).contains z

theorem wp_region {P : Program} {id : Nat} {Qx : Exit → Act → World → Prop} {a : Act} {w : World} {l : List Oper} (n : Nat) (τ : List Nat) (M : Nat) (S : World → World → Prop) (I : Nat → World → Prop) (sp : Nat → Value → World → Prop) (hm : P.follows .mixedOrders = true) (hg : growTB .any l.toArray n τ = true)
    (y : Way S I) (hM : 2 * n ≤ M) (hC : I 0 w.drew)
    (h : wpGrow P l.toArray S I M w sp (fun Γ a' => ∀ w', I n w' → (∀ p ∈ Γ, p.2 w') → wpList P l.toArray Qx (τ.filterMap (l[·]?)) a' w') (l.take n) 0 [] a) : (Code.region id l.toArray true).wp P Qx a w := by
  unfold growTB at hg
  simp only [Bool.and_eq_true, decide_eq_true_eq] at hg
  obtain ⟨⟨⟨⟨g1, g2⟩, g3⟩, g4⟩, g5⟩ := hg
  have g := okB_ok g1
  have hsz : n ≤ l.length := by simpa using g.size
  have htl : (l.take n).length = n := by simp; omega
  have hrep : (fun k => (Array.replicate l.toArray.size false).getD k false) = fun _ => false := funext fun k => getD_replicate_false _ _
  have key0 : ∀ L a w, wpAny P .any l.toArray Qx (n + τ.length) L a w → wpAny P .any l.toArray Qx l.toArray.size L a w := fun _ _ _ h => by rwa [← g4]
  refine wp_region_any hm (key0 _ _ _ ?_)
  refine grow_any (Qx := Qx) (P := P) (sp := sp) (S := S) (I := I) (M := M) (a0 := a) (l := l.take n) (Z := fun _ => false) (m1 := τ.length) (Q := fun Γ a' => ∀ w', I n w' → (∀ p ∈ Γ, p.2 w') → wpList P l.toArray Qx (τ.filterMap (l[·]?)) a' w') y g hM (waitB_ok g2) (fun m hm' => by rw [htl] at hm'; simp [hm']) htl (fun Γ a' w' hq hb hf =>
    wpAny_of_seqT τ _ a' w' (fun k hk => of_decide_eq_true (List.all_eq_true.1 g5 k hk)) g3 (by simpa using hq w' hb hf)) n _ a 0 { w with drawn := w.drawn + 1 } (fun _ => undef) ?_ ?_ ?_ (by omega) (show I 0 w.drew from hC) ?_
  · rw [List.countP_eq_length.2 (fun k _ => by rw [getD_replicate_false]; rfl)]; simp
  · exact ⟨by simp, fun j oj _ hl => (by rw [getD_replicate_false] at hl; cases hl), fun t _ ht _ => getD_in (by simpa using ht) (getD_replicate_false _ _), fun t _ _ hz => by cases hz⟩
  · rw [hrep]; exact ⟨rfl, fun k t _ hS => by simp at hS, fun _ _ => rfl⟩
  · rw [hrep]
    exact Res.fresh _ _ _ _ h

/-- The same, operation z taken ahead of all others: it yields one value in whatever world. -/
theorem wp_regionZ {P : Program} {id : Nat} {Qx : Exit → Act → World → Prop} {a : Act} {w : World} {l : List Oper} (n z : Nat) (τ : List Nat) (tz : Tmp) (vz : Value) (M : Nat) (S : World → World → Prop) (I : Nat → World → Prop) (sp : Nat → Value → World → Prop) (hm : P.follows .mixedOrders = true) (hg : growZB .any l.toArray n z τ = true)
    (y : Way S I) (hM : 2 * n ≤ M) (hC : I 0 w.drew) (hoz : (l[z]?).map (·.dst) = some (some tz)) (hQ : ∀ c a w, Qx (.panic c) (a.put (some tz) vz) w → Qx (.panic c) a w) (hy : ∀ oz, l[z]? = some oz → Yields P l.toArray oz vz a)
    (h : wpGrow P l.toArray S I M w sp (fun Γ a' => ∀ w', I n w' → (∀ p ∈ Γ, p.2 w') → wpList P l.toArray Qx (τ.filterMap (l[·]?)) a' w') (l.take n) 0 [] (a.put (some tz) vz)) : (Code.region id l.toArray true).wp P Qx a w := by
  obtain ⟨oz, hoz', hd⟩ := Option.map_eq_some_iff.1 hoz
  have hy := hy oz hoz'
  replace hoz : l.toArray[z]? = some oz := by simpa using hoz'
  rw [← hd] at hQ h
  unfold growZB at hg
  simp only [Bool.and_eq_true, decide_eq_true_eq] at hg
  obtain ⟨⟨⟨⟨⟨⟨⟨⟨⟨g1, g2⟩, g3⟩, g4⟩, g5⟩, g6⟩, g7⟩, g8⟩, g9⟩, g10⟩ := hg
  have g := okB_ok g1
  have hsz : n ≤ l.length := by simpa using g.size
  have htl : (l.take n).length = n := by simp; omega
  have hz0 : ∀ k, k < n → ((Array.replicate l.toArray.size false).setIfInBounds z true).getD k false = false := fun k hk => by rw [getD_set_ne false (by omega), getD_replicate_false]
  have key0 : ∀ L a w, wpAny P .any l.toArray Qx (n + τ.length + 1) L a w → wpAny P .any l.toArray Qx l.toArray.size L a w := fun _ _ _ h => by rwa [← g4]
  refine wp_region_any hm (key0 _ _ _ ?_)
  refine wpAny_take hoz g.sel g9 g10 hQ hy ?_
  have hrep : ∀ k, ((Array.replicate l.toArray.size false).setIfInBounds z true).getD k false = (k == z) := fun k => by
    by_cases e : k = z
    · subst e
      have : k < l.length := by simpa using g7
      simp [this]
    · rw [getD_set_ne false (Ne.symm e), getD_replicate_false]
      simp [e]
  have hf0 : ∀ k, k < n → (k == z) = false := fun k hk => by simp; omega
  refine grow_any (Qx := Qx) (P := P) (sp := sp) (S := S) (I := I) (M := M) (a0 := a.put oz.dst vz) (l := l.take n) (Z := fun k => k == z) (m1 := τ.length) (Q := fun Γ a' => ∀ w', I n w' → (∀ p ∈ Γ, p.2 w') → wpList P l.toArray Qx (τ.filterMap (l[·]?)) a' w') y g hM (waitB_ok g2) (fun m hm' => by rw [htl] at hm'; simp [hm']) htl (fun Γ a' w' hq hb hf =>
    wpAny_of_seqT τ _ a' w' (fun k hk => of_decide_eq_true (List.all_eq_true.1 g5 k hk)) g3 (by simpa using hq w' hb hf)) n _ _ 0 { w with drawn := w.drawn + 1 } (fun _ => undef) ?_ ?_ ?_ (by omega) (show I 0 w.drew from hC) ?_
  · rw [List.countP_eq_length.2 (fun k hk => by rw [hz0 k (List.mem_range.1 hk)]; rfl)]; simp
  · refine ⟨by simp, fun j oj hj hl e he hb => ?_, fun t _ ht hz => getD_in (by simpa using ht) (by rw [hrep]; exact hz), fun t _ _ hz => by rw [hrep]; exact hz⟩
    rw [hrep] at hl
    have hjz : j = z := by simpa using hl
    subst hjz
    have : e.on ∈ predsOf .any l.toArray j := by
      unfold predsOf
      rw [hj]
      exact List.mem_map.2 ⟨e, List.mem_filter.2 ⟨by simpa using he, hb⟩, rfl⟩
    rw [List.isEmpty_iff.1 g8] at this
    cases this
  · refine ⟨rfl, fun k t hk hS => ?_, fun _ _ => rfl⟩
    rw [hz0 k hk] at hS
    cases hS
  · have key : ∀ (l' : List Oper) (i : Nat) (Γ : List (Nat × (World → Prop))) (a' : Act), i + l'.length ≤ n → wpGrow P l.toArray S I M w sp (fun Γ a' => ∀ w', I n w' → (∀ p ∈ Γ, p.2 w') → wpList P l.toArray Qx (τ.filterMap (l[·]?)) a' w') l' i Γ a' →
        Res P .any l.toArray S I M sp (fun k => ((Array.replicate l.toArray.size false).setIfInBounds z true).getD k false) (fun _ => undef) { w with drawn := w.drawn + 1 } (fun Γ a' => ∀ w', I n w' → (∀ p ∈ Γ, p.2 w') → wpList P l.toArray Qx (τ.filterMap (l[·]?)) a' w') l' i Γ a' := by
      intro l'
      induction l' with
      | nil => intro i Γ a' _ h; exact h
      | cons o rest ih =>
        intro i Γ a' hi h
        have hi' : i + 1 + rest.length ≤ n := by simp at hi; omega
        have hLi := hz0 i (by simp at hi; omega)
        unfold wpGrow Res at h
        unfold Res
        simp only [hLi]
        split
        · rename_i hw
          rw [if_pos hw] at h
          rcases h with ⟨v, h1, h2, h3⟩ | ⟨Z, hs, h1, h2, h3⟩ | ⟨hs, h1, h2, h3⟩
          · exact .inl ⟨v, h1, (fun h => by cases h), ih _ _ _ hi' h3⟩
          · exact .inr (.inl ⟨Z, hs, h1, (fun h => by cases h), fun u _ hu' => ih _ _ _ hi' (h3 u (fun h => by cases h) fun _ => hu' trivial)⟩)
          · exact .inr (.inr ⟨hs, h1, (fun h => by cases h), fun u _ hu' => ih _ _ _ hi' (h3 u (fun h => by cases h) fun _ => hu' trivial)⟩)
        · rename_i hw
          rw [if_neg hw] at h
          exact ⟨(fun h => by cases h), ih _ _ _ hi' h.2⟩
    exact key _ _ _ _ (by omega) h

/-- Every world of a kind, as a family (what is not so is replaced by w1). -/
noncomputable def FamI (J : World → Prop) (w1 x : World) : World := open Classical in if J x then x else w1
theorem FamI.is {J : World → Prop} {w1 : World} (h : J w1) (x : World) : J (FamI J w1 x) := by
  unfold FamI
  split
  · assumption
  · exact h
theorem FamI.of {J : World → Prop} {w w1 : World} (h : J w) : ∃ x, w = FamI J w1 x := ⟨w, by unfold FamI; rw [if_pos h]⟩

/-- Some m below M. -/
def Upto (I : Nat → World → Prop) (M : Nat) (w : World) : Prop := ∃ m, m < M ∧ I m w

section
variable {P : Program} {ops : Array Oper} {M : Nat} {S : World → World → Prop} {I : Nat → World → Prop} {sp : Nat → Value → World → Prop} {w0 w1 : World}
variable {Q : List (Nat × (World → Prop)) → Act → Prop} {o : Oper} {rest : List Oper} {i : Nat} {Γ : List (Nat × (World → Prop))} {a : Act}
theorem grow_nil (h : Q Γ a) : wpGrow P ops S I M w0 sp Q [] i Γ a := h
theorem grow_skip (hw : Region.wanted o (yielded ops a.tmps) = false) (h : wpGrow P ops S I M w0 sp Q rest (i + 1) Γ (a.put o.dst undef)) : wpGrow P ops S I M w0 sp Q (o :: rest) i Γ a := by
  unfold wpGrow Res
  rw [if_neg (by simp [hw])]
  exact ⟨(fun h => by cases h), h⟩

theorem grow_quiet (w1 : World) (hw : Region.wanted o (yielded ops a.tmps) = true) (hf : fnOp o = true)
    (h : ∀ K : Act → Prop, (∀ a, wpGrow P ops S I M w0 sp Q rest (i + 1) Γ a → K a) → o.quiet P a (fun w => ∃ x, w = FamI (Upto I M) w1 x) K) : wpGrow P ops S I M w0 sp Q (o :: rest) i Γ a := by
  obtain ⟨v, h1, h2⟩ := h _ fun _ h => h
  unfold wpGrow Res
  rw [if_pos hw]
  refine .inl ⟨v, fun m w hm hb => ?_, (fun h => by cases h), h2⟩
  have hq := h1 w (FamI.of ⟨m, hm, hb⟩)
  unfold Oper.quietAt at hq
  cases hr : (execOp a.eval o).run P w with
  | ok x w' =>
    rw [hr] at hq
    cases x <;> simp only [Oper.quietUpon] at hq
    case value u => exact ⟨hq.2, hq.1⟩
    case skip => exact ⟨hq.2.symm, hq.1⟩
    case enter f args => exact absurd hr (fnOp_run hf _ _ _ _ _)
  | halt x w' => rw [hr] at hq; exact hq.elim

/-- An operation that makes a block: its value hangs on the block's number alone. -/
theorem grow_new {K : Nat → Prop} (hw : Region.wanted o (yielded ops a.tmps) = true) (B : Nat) (mk : Nat → Value) (T : TypeId) (cs : Array Value) (hrun : ∀ w, (execOp a.eval o).run P w = .ok (.value (mk w.heap.size)) (w.alloc (.cells cs T)))
    (hS : S = KeepB K) (hI : ∀ m w o, I m w → I (m + 1) (w.alloc o)) (hB : ∀ m w, I m w → B ≤ w.heap.size) (hK : ∀ k, K k → k < B)
    (h : ∀ b, B ≤ b → wpGrow P ops S I M w0 sp Q rest (i + 1) ((i, fun w' => ∃ b', mk b = mk b' ∧ B ≤ b' ∧ w'.heap[b']? = some (.cells cs T (0, 0))) :: Γ) (a.put o.dst (mk b))) : wpGrow P ops S I M w0 sp Q (o :: rest) i Γ a := by
  subst hS
  unfold wpGrow Res
  rw [if_pos hw]
  refine .inr (.inl ⟨fun u w' => ∃ b', u = mk b' ∧ B ≤ b' ∧ w'.heap[b']? = some (.cells cs T (0, 0)), fun u w w' hb ⟨b', h1, h2, h3⟩ => ⟨b', h1, h2, ?_⟩, fun m w hm hb _ => ?_, (fun h => by cases h), fun u _ hu => ?_⟩)
  · rw [hb.block b' (by
      rcases Nat.lt_or_ge b' w.heap.size with h | h
      · exact h
      · rw [Array.getElem?_eq_none h] at h3; cases h3) (fun hk => by have := hK _ hk; omega), h3]
  · rw [hrun]
    exact ⟨⟨(KeepB.refl _ _).alloc _, hI _ _ _ hb⟩, w.heap.size, rfl, hB _ _ hb, heap_alloc_new w _⟩
  · obtain ⟨_, w', _, b', rfl, h2, _⟩ := hu rfl
    exact h b' h2

/-- A call of a Go function. -/
theorem grow_call (hw : Region.wanted o (yielded ops a.tmps) = true) (hs : ∀ u, Steady S (sp i u))
    (hc : ∀ m w, m < M → I m w → FactsAt .any ops i Γ w → callUpon P w (fun e w' => ∃ u, e = .returned u ∧ (S w w' ∧ I (m + 1) w') ∧ sp i u w') ((execOp a.eval o).run P w))
    (h : ∀ u, (∃ m w', I m w' ∧ sp i u w') → wpGrow P ops S I M w0 sp Q rest (i + 1) ((i, sp i u) :: Γ) (a.put o.dst u)) : wpGrow P ops S I M w0 sp Q (o :: rest) i Γ a := by
  unfold wpGrow Res
  rw [if_pos hw]
  exact .inr (.inr ⟨hs, hc, (fun h => by cases h), fun u _ hu => h u (hu rfl)⟩)
/-- A call of a Go function whose value is known. -/
theorem grow_val (v : Value) (hw : Region.wanted o (yielded ops a.tmps) = true) (hsp : sp i = fun u _ => u = v)
    (hc : ∀ m w, m < M → I m w → FactsAt .any ops i Γ w → callUpon P w (fun e w' => e = .returned v ∧ S w w' ∧ I (m + 1) w') ((execOp a.eval o).run P w))
    (h : wpGrow P ops S I M w0 sp Q rest (i + 1) ((i, fun _ => v = v) :: Γ) (a.put o.dst v)) : wpGrow P ops S I M w0 sp Q (o :: rest) i Γ a := by
  refine grow_call hw (fun u => by rw [hsp]; exact fun _ _ _ h => h) (fun m w hm hb hf => ?_) fun u ⟨_, w', _, hu⟩ => ?_
  · have hx := hc m w hm hb hf
    generalize (execOp a.eval o).run P w = r at hx ⊢
    cases r with
    | ok x w' =>
      cases x <;> simp only [callUpon] at hx ⊢
      exact ⟨hx.1, hx.2.mono fun e w'' ⟨he, hb⟩ => ⟨v, he, hb, by rw [hsp]⟩⟩
    | halt x w' => exact hx.elim
  · rw [hsp] at hu
    subst hu
    rw [hsp]
    exact h
end
/-- Worlds that are as w0 but for what has been made since. -/
def BI (w0 : World) : Nat → World → Prop := fun _ w => Below w0.heap.size w0 w
def SB_ : World → World → Prop := KeepB fun _ => False
theorem BI.way (w0 : World) : Way (KeepB fun _ => False) (BI w0) := ⟨fun w => KeepB.refl _ w, fun _ _ _ h k => h.trans k, fun _ _ h => h⟩
theorem BI.fam (w0 x : World) : Below w0.heap.size w0 (FamI (Upto (BI w0) 200) w0 x) := by
  obtain ⟨_, _, h⟩ := FamI.is (J := Upto (BI w0) 200) (w1 := w0) ⟨0, by omega, Below.refl _ _⟩ x
  exact h
theorem BI.cell {w0 : World} {b o : Nat} {v : Value} (h : w0.cell? ⟨b, o, none⟩ = some v) (x : World) : (FamI (Upto (BI w0) 200) w0 x).cell? ⟨b, o, none⟩ = some v := by
  rw [(BI.fam w0 x).cell (World.block_lt_of_cell? _ _ h)]
  exact h
theorem BI.after {w0 w w' : World} {m : Nat} (h : BI w0 m w) (hb : Below w.heap.size w w') : KeepB (fun _ => False) w w' ∧ BI w0 (m + 1) w' := ⟨KeepB.of_below hb, h.trans (hb.mono h.size)⟩
theorem BI.alloc {w0 w : World} {m : Nat} (o : Obj) (h : BI w0 m w) : BI w0 (m + 1) (w.alloc o) := (h.after ((Below.refl _ _).alloc (Nat.le_refl _) _)).2
theorem BI.size {w0 w : World} {m : Nat} (h : BI w0 m w) : w0.heap.size ≤ w.heap.size := Below.size h
end GK
end AG

/- The laws' comparisons of tables of numbers, of automata. -/
namespace Go.Proofs.YtimoekglamdddaaDoor
open Go.RowKit Go.BigFrame AG

set_option maxRecDepth 100000 in
set_option maxHeartbeats 1000000 in
theorem eqIntSS_any (es fs : List (List Int)) (A B : Option Addr) (c d : Nat) (w : World) (hn : es.length ≤ c) (hc : c ≤ 9223372036854775807) (hm : fs.length ≤ d) (_hd : d ≤ 9223372036854775807) (hr : RowsAt w w.heap.size A es) (hs : RowsAt w w.heap.size B fs) :
    Calls Tryd.prog 53 #[.slice A es.length c, .slice B fs.length d] w fun e w' => e = .returned (.bool (decide (es = fs))) ∧ Below w.heap.size w w' := by
  replace hr := hid hr
  replace hs := hid hs
  by_cases hlen : es.length = fs.length
  · go_enter Tryd.func53, Tryd.ntmps53
    go_wp2
    go_loopw [5] (fun i wr => ∃ k : Nat, i = .int .i64 k ∧ k ≤ es.length ∧ (∀ i (h : i < es.length) (h' : i < fs.length), i < k → es[i] = fs[i]) ∧ Below w.heap.size w wr) (fun i _ => es.length - (intOf i).toNat)
    case atStart => exact ⟨0, rfl, by omega, by intro i _ _ h; omega, Below.refl _ _⟩
    case round =>
      obtain ⟨k, rfl, hk, heq, hb⟩ := hrel
      by_cases hlt : k < es.length
      · obtain ⟨b, o, hA, hB, hE⟩ := hr.out (by omega)
        obtain ⟨b', o', hA', hB', hF⟩ := hs.out (by omega)
        subst hA
        subst hA'
        obtain ⟨Ai, ci, e0, hAl, hAc, hAe⟩ := hE k hlt
        obtain ⟨Bi, di, f0, hBl, hBc, hBe⟩ := hF k (by omega)
        have k1 : (0 : Int) ≤ (k : Int) ∧ (k : Int) < (es.length : Int) ∧ (k : Int) < (fs.length : Int) := by omega
        replace hE := hid hE
        replace hF := hid hF
        have g0 : ∀ x, (Fam w.heap.size w x).cell? ⟨b, o + k, none⟩ = some (.slice Ai es[k].length ci) := fun x => by rw [(Fam.below w.heap.size w x).cell (by simpa using hB)]; exact e0
        have i0 : ∀ x, (Fam w.heap.size w x).cell? ⟨b', o' + k, none⟩ = some (.slice Bi fs[k].length di) := fun x => by rw [(Fam.below w.heap.size w x).cell (by simpa using hB')]; exact f0
        clear e0 f0
        have hAe' := hid (fun x => hAe.later (Fam.below w.heap.size w x))
        have hBe' := hid (fun x => hBe.later (Fam.below w.heap.size w x))
        clear hAe hBe
        cases hq : decide (es[k] = fs[k])
        all_goals
          replace hq := hid hq
          replace heq := hid heq
          go_wp2_with fail
          refine wp_region_fam w.heap.size w (by kernel_rfl) (by kernel_rfl) hb ?_
          (repeat (go_big_quiet_step ((refine (eqIntS_any es[k] fs[k] Ai Bi ci di _ hAl hAc hBl hBc (hAe'.out _) (hBe'.out _)).mono ?_; rintro e w1 ⟨rfl, hb1⟩; exact ⟨by rw [hq.out], Fam.next (Nat.le_refl _) hb1⟩))))
          refine wpQuiet_nil ?_
          intro w2 hw2
          replace hw2 := Fam.out hw2
          go_wp2
        · go_ret
          exact ⟨ret_bool (by
            have := hq.out
            rw [decide_eq_false_iff_not] at this
            rw [eq_comm, decide_eq_false_iff_not]
            intro h
            subst h
            exact this rfl), hw2⟩
        · go_roundw
          case rel =>
            refine ⟨k + 1, by go_num, by omega, fun i hi hi' hik => ?_, hw2⟩
            by_cases e : i = k
            · subst e; exact of_decide_eq_true hq.out
            · exact heq.out i hi hi' (by omega)
          case measure => simp [intOf]; omega
      · replace heq := hid heq
        go_wp2
        go_ret
        exact ⟨ret_bool (by
          rw [eq_comm, decide_eq_true_iff]
          exact List.ext_getElem hlen fun i hi hi' => heq.out i hi hi' (by omega)), hb⟩
  · go_enter Tryd.func53, Tryd.ntmps53
    go_wp2
    go_ret
    exact ⟨ret_bool (by rw [eq_comm, decide_eq_false_iff_not]; intro h; exact hlen (by rw [h])), Below.refl _ _⟩

set_option maxRecDepth 100000 in
set_option maxHeartbeats 1000000 in
theorem eqAutomaton_any (a b : Au) (A B C D : Option Addr) (c d f g : Nat) (w : World) (hr : AuAt w A c B d a) (hs : AuAt w C f D g b) :
    Calls Tryd.prog 19 #[a.val A c B d, b.val C f D g] w fun e w' => e = .returned (.bool (decide (a = b))) ∧ Below w.heap.size w w' := by
  obtain ⟨aa, an, ac⟩ := a
  obtain ⟨ba, bn, bc⟩ := b
  have hsp : Hid (decide (({ al := aa, nx := an, ac := ac } : Au) = { al := ba, nx := bn, ac := bc }) = (decide (aa = ba) && (decide (an = bn) && decide (ac = bc)))) := hid (by simp)
  obtain ⟨cl, cm, dl, dm, hr1, hr2⟩ := hr
  obtain ⟨fl, fm, gl, gm, hs1, hs2⟩ := hs
  dsimp only at cl dl fl gl hr1 hr2 hs1 hs2
  unfold AG.Au.val
  replace hr1 := hid hr1
  replace hr2 := hid hr2
  replace hs1 := hid hs1
  replace hs2 := hid hs2
  go_enter Tryd.func19, Tryd.ntmps19
  obtain ⟨w0, hw0, hz0, hB0, hS, hU⟩ := boxed2 w #[Value.int IntKind.i64 aa, Value.slice A an.length c, Value.slice B ac.length d] 29 #[Value.int IntKind.i64 ba, Value.slice C bn.length f, Value.slice D bc.length g] 29
  have p0 := hS 0 _ rfl _ (Below.refl _ _)
  have p1 := hS 1 _ rfl _ (Below.refl _ _)
  have p2 := hS 2 _ rfl _ (Below.refl _ _)
  have q0 := hU 0 _ rfl _ (Below.refl _ _)
  have q1 := hU 1 _ rfl _ (Below.refl _ _)
  have q2 := hU 2 _ rfl _ (Below.refl _ _)
  go_wp2_with fail
  · go_ret
    exact ⟨ret_bool (by rw [hsp.out]; simp_all), hB0⟩
  refine (eqIntSS_any an bn A C c f w0 cl cm fl fm (hr1.out.later hB0) (hs1.out.later hB0)).mono ?_
  rintro e w1 ⟨rfl, hb1⟩
  have hB1 := hB0.trans (hb1.mono hB0.size)
  have hC := hb1.mono hz0
  clear p0 p1 p2 q0 q1 q2
  have p2 := hS 2 _ rfl _ hC
  have q2 := hU 2 _ rfl _ hC
  by_cases hn : an = bn
  · have hn' : decide (an = bn) = true := decide_eq_true hn
    replace hn := hid hn
    go_wp2_with fail
    refine (eqBoolS_any ac bc B D d g w1 dl dm gl gm (hr2.out.later hB1) (hs2.out.later hB1)).mono ?_
    rintro e w2 ⟨rfl, hb2⟩
    have hB2 := hB1.trans (hb2.mono hB1.size)
    go_wp2
    all_goals
      go_ret
      exact ⟨ret_bool (by rw [hsp.out, hn']; simp_all), hB2⟩
  · have hn' : decide (an = bn) = false := decide_eq_false hn
    go_wp2
    go_ret
    exact ⟨ret_bool (by rw [hsp.out, hn']; simp_all), hB1⟩

end Go.Proofs.YtimoekglamdddaaDoor

/- The laws' agAutomata; marks in automata that came back, and whether they are held. -/
namespace Go.Proofs.YtimoekglamdddaaDoor
open Go.RowKit Go.BigFrame AG

set_option maxRecDepth 100000 in
set_option maxHeartbeats 2000000 in
theorem agAutomata_any (a b : Au) (A B C D : Option Addr) (c d f g : Nat) (w : World) (hr : AuAt w A c B d a) (hs : AuAt w C f D g b) :
    Calls Tryd.prog 27 #[a.val A c B d, b.val C f D g] w fun e w' => e = .returned (.bool (decide (a = b))) ∧ Below w.heap.size w w' := by
  obtain ⟨aa, an, ac⟩ := a
  obtain ⟨ba, bn, bc⟩ := b
  have hsp : Hid (decide (({ al := aa, nx := an, ac := ac } : Au) = { al := ba, nx := bn, ac := bc }) = (decide (aa = ba) && (decide (an = bn) && decide (ac = bc)))) := hid (by simp)
  obtain ⟨cl, cm, dl, dm, hr1, hr2⟩ := hr
  obtain ⟨fl, fm, gl, gm, hs1, hs2⟩ := hs
  dsimp only at cl dl fl gl hr1 hr2 hs1 hs2
  unfold AG.Au.val
  replace hr1 := hid hr1
  replace hr2 := hid hr2
  replace hs1 := hid hs1
  replace hs2 := hid hs2
  go_enter Tryd.func27, Tryd.ntmps27
  obtain ⟨w0, hw0, hz0, hB0, hS, hU⟩ := boxed2 w #[Value.int IntKind.i64 aa, Value.slice A an.length c, Value.slice B ac.length d] 29 #[Value.int IntKind.i64 ba, Value.slice C bn.length f, Value.slice D bc.length g] 29
  have p0 := hS 0 _ rfl _ (Below.refl _ _)
  have p1 := hS 1 _ rfl _ (Below.refl _ _)
  have p2 := hS 2 _ rfl _ (Below.refl _ _)
  have q0 := hU 0 _ rfl _ (Below.refl _ _)
  have q1 := hU 1 _ rfl _ (Below.refl _ _)
  have q2 := hU 2 _ rfl _ (Below.refl _ _)
  by_cases ha : aa = ba
  case neg =>
    have ha' : (aa != ba) = true := by simpa using ha
    have hd : decide (aa = ba) = false := decide_eq_false ha
    replace ha := hid ha
    go_wp2
    go_ret
    exact ⟨ret_bool (by first | rfl | (rw [hsp.out, hd]; rfl)), hB0⟩
  subst ha
  by_cases hln : an.length = bn.length
  case neg =>
    have ha' : ((an.length : Int) != (bn.length : Int)) = true := by simp; omega
    have hd : decide (an = bn) = false := decide_eq_false fun e => hln (by rw [e])
    replace hln := hid hln
    go_wp2
    go_ret
    exact ⟨ret_bool (by first | rfl | (rw [hsp.out, hd]; simp)), hB0⟩
  have hln' : ((an.length : Int) != (bn.length : Int)) = false := by simp; omega
  have haa : (aa != aa) = false := by simp
  replace hln := hid hln
  go_wp2_with fail
  refine (agBools_any ac bc B D d g w0 dl dm gl gm (hr2.out.later hB0) (hs2.out.later hB0)).mono ?_
  rintro e w1 ⟨rfl, hb1⟩
  have hB1 := hB0.trans (hb1.mono hB0.size)
  have hC1 := hb1.mono hz0
  clear p0 p1 p2 q0 q1 q2
  by_cases hac : ac = bc
  case neg =>
    have hd : decide (ac = bc) = false := decide_eq_false hac
    replace hac := hid hac
    rw [hd]
    go_wp2
    go_ret
    exact ⟨ret_bool (by first | rfl | (rw [hsp.out, hd]; simp)), hB1⟩
  have hd : decide (ac = bc) = true := decide_eq_true hac
  replace hac := hid hac
  rw [hd]
  have hz1 := hb1.size
  go_wp2_with fail
  go_loopw [5] (fun i wr => ∃ k : Nat, i = .int .i64 k ∧ k ≤ an.length ∧ (∀ i (h : i < an.length) (h' : i < bn.length), i < k → an[i] = bn[i]) ∧ Below w1.heap.size w1 wr) (fun i _ => an.length - (intOf i).toNat)
  case atStart => exact ⟨0, rfl, by omega, by intro i _ _ h; omega, Below.refl _ _⟩
  case round =>
    obtain ⟨k, rfl, hk, heq, hb⟩ := hrel
    have hCr := hC1.trans (hb.mono (by omega))
    have p1 := hS 1 _ rfl _ hCr
    have q1 := hU 1 _ rfl _ hCr
    by_cases hlt : k < an.length
    · have hrr := hr1.out.later hB1
      have hss := hs1.out.later hB1
      obtain ⟨b, o, hA, hB, hE⟩ := hrr (by omega)
      have hkb : k < bn.length := by have := hln.out; omega
      obtain ⟨b', o', hA', hB', hF⟩ := hss (by omega)
      subst hA
      subst hA'
      obtain ⟨Ai, ci, e0, hAl, hAc, hAe⟩ := hE k hlt
      obtain ⟨Bi, di, f0, hBl, hBc, hBe⟩ := hF k hkb
      have k1 : (0 : Int) ≤ (k : Int) ∧ (k : Int) < (an.length : Int) ∧ (k : Int) < (bn.length : Int) := by omega
      replace hE := hid hE
      replace hF := hid hF
      have g0 : ∀ x, (Fam w1.heap.size w1 x).cell? ⟨b, o + k, none⟩ = some (.slice Ai an[k].length ci) := fun x => by rw [(Fam.below w1.heap.size w1 x).cell (by simpa using hB)]; exact e0
      have i0 : ∀ x, (Fam w1.heap.size w1 x).cell? ⟨b', o' + k, none⟩ = some (.slice Bi bn[k].length di) := fun x => by rw [(Fam.below w1.heap.size w1 x).cell (by simpa using hB')]; exact f0
      have u1 := fun x => hS 1 _ rfl _ (hC1.trans ((Fam.below w1.heap.size w1 x).mono (by omega)))
      have v1 := fun x => hU 1 _ rfl _ (hC1.trans ((Fam.below w1.heap.size w1 x).mono (by omega)))
      clear e0 f0
      have hAe' := hid (fun x => hAe.later (Fam.below w1.heap.size w1 x))
      have hBe' := hid (fun x => hBe.later (Fam.below w1.heap.size w1 x))
      clear hAe hBe
      replace hrr := hid hrr
      replace hss := hid hss
      cases hq : decide (an[k] = bn[k])
      all_goals
        replace hq := hid hq
        replace heq := hid heq
        go_wp2_with fail
        clear p1 q1
        refine wp_region_fam w1.heap.size w1 (by kernel_rfl) (by kernel_rfl) hb ?_
        (repeat (go_big_quiet_step ((refine (agInts_any an[k] bn[k] Ai Bi ci di _ hAl hAc hBl hBc (hAe'.out _) (hBe'.out _)).mono ?_; rintro e w2 ⟨rfl, hb2⟩; exact ⟨by rw [hq.out], Fam.next (Nat.le_refl _) hb2⟩))))
        refine wpQuiet_nil ?_
        intro w2 hw2
        replace hw2 := Fam.out hw2
        clear u1 v1 g0 i0
        go_wp2
      · go_ret
        exact ⟨ret_bool (by
          have := hq.out
          rw [decide_eq_false_iff_not] at this
          rw [eq_comm, hsp.out, show decide (an = bn) = false from decide_eq_false fun h => this (by subst h; rfl)]
          simp), hB1.trans (hw2.mono hB1.size)⟩
      · go_roundw
        case rel =>
          refine ⟨k + 1, by go_num, by omega, fun i hi hi' hik => ?_, hw2⟩
          by_cases e : i = k
          · subst e; exact of_decide_eq_true hq.out
          · exact heq.out i hi hi' (by omega)
        case measure => simp [intOf]; omega
    · replace heq := hid heq
      go_wp2
      go_ret
      exact ⟨ret_bool (by
        rw [eq_comm, hsp.out, show decide (an = bn) = true from decide_eq_true (List.ext_getElem hln.out fun i hi hi' => heq.out i hi hi' (by omega)), hd]
        simp), hB1.trans (hb.mono hB1.size)⟩

end Go.Proofs.YtimoekglamdddaaDoor

/- The laws' marks in automata that came back, and whether they are held. -/
namespace Go.Proofs.YtimoekglamdddaaDoor
open Go.RowKit Go.BigFrame AG

def marksI (n : Nat) (k : Int) : List Int := (List.range n).map fun (i : Nat) => k + (i : Int)
def marksB (n : Nat) (k : Int) : List Bool := (List.range n).map fun (i : Nat) => decide ((k + (i : Int)) % 3 = 0)
def markV : List RowV → Int → List RowV
  | [], _ => []
  | x :: xs, k => ⟨marksI x.r.length k, x.A, x.c⟩ :: markV xs (k + (x.r.length : Int))
def marksR : List (List Int) → Int → List (List Int)
  | [], _ => []
  | r :: rs, k => marksI r.length k :: marksR rs (k + (r.length : Int))
def cntR (rs : List (List Int)) : Nat := (rs.map List.length).sum
theorem marksI_len (n : Nat) (k : Int) : (marksI n k).length = n := by simp [marksI]
theorem marksB_len (n : Nat) (k : Int) : (marksB n k).length = n := by simp [marksB]
theorem marksI_at {n : Nat} {k : Int} {i : Nat} (h : i < (marksI n k).length) : (marksI n k)[i] = k + (i : Int) := by simp [marksI]
theorem marksB_at {n : Nat} {k : Int} {i : Nat} (h : i < (marksB n k).length) : (marksB n k)[i] = decide ((k + (i : Int)) % 3 = 0) := by simp [marksB]
theorem markV_len : ∀ (xs : List RowV) (k : Int), (markV xs k).length = xs.length
  | [], _ => rfl
  | x :: xs, k => by rw [markV, List.length_cons, List.length_cons, markV_len xs]
theorem markV_vals : ∀ (xs : List RowV) (k : Int), rowVals (markV xs k) = rowVals xs
  | [], _ => rfl
  | x :: xs, k => by
    have := markV_vals xs (k + (x.r.length : Int))
    unfold rowVals at this ⊢
    rw [markV, List.map_cons, List.map_cons, this]
    congr 1
    unfold RowV.v
    rw [marksI_len]
theorem markV_rows : ∀ (xs : List RowV) (k : Int), (markV xs k).map (·.r) = marksR (xs.map (·.r)) k
  | [], _ => rfl
  | x :: xs, k => by rw [markV, List.map_cons, List.map_cons, marksR, markV_rows xs]
theorem marksR_len : ∀ (rs : List (List Int)) (k : Int), (marksR rs k).length = rs.length
  | [], _ => rfl
  | r :: rs, k => by rw [marksR, List.length_cons, List.length_cons, marksR_len rs]
theorem cntR_take {rs : List (List Int)} {j : Nat} (h : j < rs.length) : cntR (rs.take (j + 1)) = cntR (rs.take j) + rs[j].length := by
  unfold cntR
  rw [List.take_succ_eq_append_getElem h, List.map_append, List.sum_append]
  simp
theorem cntR_le (rs : List (List Int)) (j : Nat) : cntR (rs.take j) ≤ cntR rs := by
  unfold cntR
  have : rs = rs.take j ++ rs.drop j := (List.take_append_drop j rs).symm
  conv => rhs; rw [this, List.map_append, List.sum_append]
  omega
theorem cntR_more {rs : List (List Int)} {j : Nat} (h : j < rs.length) : cntR (rs.take j) + rs[j].length ≤ cntR rs := by
  rw [← cntR_take h]
  exact cntR_le _ _
theorem markV_append : ∀ (xs ys : List RowV) (k : Int), markV (xs ++ ys) k = markV xs k ++ markV ys (k + (cntR (xs.map (·.r)) : Int))
  | [], ys, k => by simp [markV, cntR]
  | x :: xs, ys, k => by
    rw [List.cons_append, markV, markV, markV_append xs ys]
    unfold cntR
    simp only [List.map_cons, List.sum_cons, List.cons_append]
    congr 3
    omega
theorem marksR_at : ∀ (rs : List (List Int)) (k : Int) (j : Nat) (h : j < rs.length), (marksR rs k)[j]'(by rw [marksR_len]; exact h) = marksI rs[j].length (k + (cntR (rs.take j) : Int))
  | r :: rs, k, 0, _ => by simp [marksR, cntR]
  | r :: rs, k, j + 1, h => by
    have := marksR_at rs (k + (r.length : Int)) j (by simpa using h)
    simp only [marksR, List.getElem_cons_succ]
    rw [this]
    unfold cntR
    simp only [List.take_succ_cons, List.map_cons, List.sum_cons]
    congr 1
    omega

/-- A row is written anew. -/
theorem RowsOwn.set_ {w w' : World} {base : Nat} {v : Value} {l1 l2 : List RowV} {x x' : RowV} (h : RowsOwn w base v (l1 ++ x :: l2)) (hk : KeepB (fun b => x.v.ownBlock = some b) w w') (hv : x'.v = x.v)
    (ho : w'.ownsRow base 3 1 x'.v x'.r.length (intVals x'.r)) : RowsOwn w' base v (l1 ++ x' :: l2) := by
  obtain ⟨h1, h2, h3⟩ := h
  have hx := h2 x (by simp)
  rw [List.pairwise_append, List.pairwise_cons] at h3
  refine ⟨?_, fun y hy => ?_, ?_⟩
  · have e : rowVals (l1 ++ x' :: l2) = rowVals (l1 ++ x :: l2) := by unfold rowVals; simp [hv]
    rw [e]
    have e2 : (l1 ++ x' :: l2).length = (l1 ++ x :: l2).length := by simp
    rw [e2]
    exact own_keep h1 hk fun g hg e => own_ne_own h1 hx (by decide) g g hg e rfl
  · rw [List.mem_append, List.mem_cons] at hy
    rcases hy with hy | rfl | hy
    · exact own_keep (h2 y (by simp [hy])) hk fun g hg e => h3.2.2 y hy x List.mem_cons_self g hg e
    · exact ho
    · exact own_keep (h2 y (by simp [hy])) hk fun g hg e => h3.2.1.1 y hy g e hg
  · rw [List.pairwise_append, List.pairwise_cons]
    refine ⟨h3.1, ⟨fun y hy => by rw [hv]; exact h3.2.1.1 y hy, h3.2.1.2⟩, fun a ha b hb => ?_⟩
    rcases List.mem_cons.1 hb with rfl | hb
    · rw [hv]; exact h3.2.2 a ha x List.mem_cons_self
    · exact h3.2.2 a ha b (List.mem_cons_of_mem _ hb)

theorem tmod3 {k : Int} (h : 0 ≤ k) : Int.tmod k 3 = k % 3 := Int.tmod_eq_emod_of_nonneg h

set_option maxRecDepth 100000 in
set_option maxHeartbeats 1000000 in
theorem markIntS_any (A : Option Addr) (n c base : Nat) (xs : List Int) (k : Int) (w : World) (h0 : 0 ≤ k) (h1 : k + n ≤ 1152921504606846976) (ho : w.ownsRow base 3 1 (.slice A n c) n (intVals xs)) :
    Calls Tryd.prog 119 #[.slice A n c, .int .i64 k] w fun e w' => e = .returned (.int .i64 (k + n)) ∧ w'.ownsRow base 3 1 (.slice A n c) n (intVals (marksI n k)) ∧ KeepB (fun b => (Value.slice A n c).ownBlock = some b) w w' := by
  by_cases hn : n = 0
  · subst hn
    replace ho := hid ho
    go_enter Tryd.func119, Tryd.ntmps119
    go_wp2
    go_loopw [1, 5] (fun kv i wr => kv = .int .i64 k ∧ i = .int .i64 0 ∧ wr = w) (fun _ _ _ => 0)
    case atStart => exact ⟨rfl, rfl, rfl⟩
    case round =>
      obtain ⟨rfl, rfl, rfl⟩ := hrel
      go_wp2
      go_ret
      refine ⟨ret_int (by omega), ?_, KeepB.refl _ _⟩
      have := ho.out
      have e : xs = [] := by have := this.1; unfold intVals at this; simpa using this
      subst e
      exact this
  · obtain ⟨hl, ⟨hv, h⟩ | ⟨g, cap, cur, hv, hb, hg, hnc, hcm, hsz, htk⟩⟩ := ho
    · omega
    · injection hv with e1 _ e3
      subst e1
      subst e3
      have hblk : Blk w g 3 cur := hg
      have hcs : cur.size = c := by omega
      unfold maxLen at hcm
      replace hblk := hid hblk
      replace htk := hid htk
      replace hg := hid hg
      go_enter Tryd.func119, Tryd.ntmps119
      go_wp2
      go_loopw [1, 5] (fun kv i wr => ∃ (j : Nat) (cs : Array Value), kv = .int .i64 (k + j) ∧ i = .int .i64 (j : Nat) ∧ j ≤ n ∧ Blk wr g 3 cs ∧ cs.size = c ∧ (∀ i, i < j → cs[i]? = some (.int .i64 (k + i))) ∧ KeepB (fun b => b = g) w wr) (fun _ i _ => n - (intOf i).toNat)
      case atStart => exact ⟨0, cur, by simp, rfl, by omega, hblk.out, hcs, fun i hi => by omega, KeepB.refl _ _⟩
      case round =>
        obtain ⟨j, cs, rfl, rfl, hj, hbr, hs, hin, hkp⟩ := hrel
        by_cases hlt : j < n
        · obtain ⟨v0, d0⟩ := hbr.some_ (i := j) (by omega)
          have z0 := hbr.frozen j
          have k1 : (0 : Int) ≤ (j : Int) ∧ (j : Int) < (n : Int) := by omega
          have hb2 := hid (hbr.set_ j (.int .i64 (k + j)))
          have hk2 := hid (hkp.setCell ⟨g, j, none⟩ (.int .i64 (k + j)) fun _ => rfl)
          replace hin := hid hin
          replace hbr := hid hbr
          go_wp2
          go_roundw
          case rel =>
            refine ⟨j + 1, _, by go_num, by go_num, by omega, hb2.out, by simpa using hs, fun i hi => ?_, hk2.out⟩
            by_cases e : i = j
            · subst e; rw [Array.getElem?_setIfInBounds_self_of_lt (by omega)]
            · rw [Array.getElem?_setIfInBounds_ne (Ne.symm e)]; exact hin.out i (by omega)
          case measure => simp [intOf]; omega
        · obtain rfl : j = n := by omega
          have hfin : Hid (wr.ownsRow base 3 1 (.slice (some ⟨g, 0, none⟩) j c) j (intVals (marksI j k))) := hid ⟨by unfold intVals; simp [marksI_len], .inr ⟨g, c, cs, rfl, hb, hbr, hnc, by unfold maxLen; omega, by omega, by
            refine List.ext_getElem? fun i => ?_
            rw [List.getElem?_take]
            by_cases hi : i < j
            · rw [if_pos (by omega), Array.getElem?_toList, hin i hi]
              unfold intVals
              rw [List.getElem?_map, List.getElem?_eq_getElem (by rw [marksI_len]; exact hi), marksI_at]
              rfl
            · rw [if_neg (by omega), List.getElem?_eq_none (by unfold intVals; rw [List.length_map, marksI_len]; omega)]⟩⟩
          replace hin := hid hin
          replace hbr := hid hbr
          go_wp2
          go_ret
          exact ⟨rfl, hfin.out, hkp.mono fun b e => by rw [e]; rfl⟩

set_option maxRecDepth 100000 in
set_option maxHeartbeats 1000000 in
theorem markBoolS_any (A : Option Addr) (n c base : Nat) (xs : List Bool) (k : Int) (w : World) (h0 : 0 ≤ k) (h1 : k + n ≤ 1152921504606846976) (ho : w.ownsRow base 4 1 (.slice A n c) n (boolVals xs)) :
    Calls Tryd.prog 58 #[.slice A n c, .int .i64 k] w fun e w' => e = .returned (.int .i64 (k + n)) ∧ w'.ownsRow base 4 1 (.slice A n c) n (boolVals (marksB n k)) ∧ KeepB (fun b => (Value.slice A n c).ownBlock = some b) w w' := by
  by_cases hn : n = 0
  · subst hn
    replace ho := hid ho
    go_enter Tryd.func58, Tryd.ntmps58
    go_wp2
    go_loopw [1, 5] (fun kv i wr => kv = .int .i64 k ∧ i = .int .i64 0 ∧ wr = w) (fun _ _ _ => 0)
    case atStart => exact ⟨rfl, rfl, rfl⟩
    case round =>
      obtain ⟨rfl, rfl, rfl⟩ := hrel
      go_wp2
      go_ret
      refine ⟨ret_int (by omega), ?_, KeepB.refl _ _⟩
      have := ho.out
      have e : xs = [] := by have := this.1; unfold boolVals at this; simpa using this
      subst e
      exact this
  · obtain ⟨hl, ⟨hv, h⟩ | ⟨g, cap, cur, hv, hb, hg, hnc, hcm, hsz, htk⟩⟩ := ho
    · omega
    · injection hv with e1 _ e3
      subst e1
      subst e3
      have hblk : Blk w g 4 cur := hg
      have hcs : cur.size = c := by omega
      unfold maxLen at hcm
      replace hblk := hid hblk
      replace htk := hid htk
      replace hg := hid hg
      go_enter Tryd.func58, Tryd.ntmps58
      go_wp2
      go_loopw [1, 5] (fun kv i wr => ∃ (j : Nat) (cs : Array Value), kv = .int .i64 (k + j) ∧ i = .int .i64 (j : Nat) ∧ j ≤ n ∧ Blk wr g 4 cs ∧ cs.size = c ∧ (∀ i : Nat, i < j → cs[i]? = some (.bool (decide ((k + (i : Int)) % 3 = 0)))) ∧ KeepB (fun b => b = g) w wr) (fun _ i _ => n - (intOf i).toNat)
      case atStart => exact ⟨0, cur, by simp, rfl, by omega, hblk.out, hcs, fun i hi => by omega, KeepB.refl _ _⟩
      case round =>
        obtain ⟨j, cs, rfl, rfl, hj, hbr, hs, hin, hkp⟩ := hrel
        by_cases hlt : j < n
        · obtain ⟨v0, d0⟩ := hbr.some_ (i := j) (by omega)
          have z0 := hbr.frozen j
          have k1 : (0 : Int) ≤ (j : Int) ∧ (j : Int) < (n : Int) := by omega
          have hm3 := tmod3 (show (0 : Int) ≤ k + (j : Int) by omega)
          obtain ⟨m, hm⟩ : ∃ m, m = (k + (j : Int)) % 3 := ⟨_, rfl⟩
          rw [← hm] at hm3
          have hmb : (m == 0) = decide ((k + (j : Int)) % 3 = 0) := by rw [hm]; rfl
          have hb2 := fun u => hid (hbr.set_ j (.bool u))
          have hk2 := fun u => hid (hkp.setCell ⟨g, j, none⟩ (.bool u) fun _ => rfl)
          replace hin := hid hin
          replace hbr := hid hbr
          replace hm := hid hm
          replace hmb := hid hmb
          go_wp2
          go_roundw
          case rel =>
            refine ⟨j + 1, _, by go_num, by go_num, by omega, (hb2 _).out, by simpa using hs, fun i hi => ?_, (hk2 _).out⟩
            by_cases e : i = j
            · subst e; rw [Array.getElem?_setIfInBounds_self_of_lt (by omega), hmb.out]
            · rw [Array.getElem?_setIfInBounds_ne (Ne.symm e)]; exact hin.out i (by omega)
          case measure => simp [intOf]; omega
        · obtain rfl : j = n := by omega
          have hfin : Hid (wr.ownsRow base 4 1 (.slice (some ⟨g, 0, none⟩) j c) j (boolVals (marksB j k))) := hid ⟨by unfold boolVals; simp [marksB_len], .inr ⟨g, c, cs, rfl, hb, hbr, hnc, by unfold maxLen; omega, by omega, by
            refine List.ext_getElem? fun i => ?_
            rw [List.getElem?_take]
            by_cases hi : i < j
            · rw [if_pos (by omega), Array.getElem?_toList, hin i hi]
              unfold boolVals
              rw [List.getElem?_map, List.getElem?_eq_getElem (by rw [marksB_len]; exact hi), marksB_at]
              rfl
            · rw [if_neg (by omega), List.getElem?_eq_none (by unfold boolVals; rw [List.length_map, marksB_len]; omega)]⟩⟩
          replace hin := hid hin
          replace hbr := hid hbr
          go_wp2
          go_ret
          exact ⟨rfl, hfin.out, hkp.mono fun b e => by rw [e]; rfl⟩

end Go.Proofs.YtimoekglamdddaaDoor

/- Marks in tables and automata, and whether they are held. -/
namespace Go.Proofs.YtimoekglamdddaaDoor
open Go.RowKit Go.BigFrame AG

set_option maxRecDepth 100000 in
set_option maxHeartbeats 1000000 in
theorem markIntSS_any (base : Nat) (v : Value) (xs : List RowV) (k : Int) (w : World) (h0 : 0 ≤ k) (h1 : k + cntR (xs.map (·.r)) ≤ 1152921504606846976) (ho : RowsOwn w base v xs) :
    Calls Tryd.prog 57 #[v, .int .i64 k] w fun e w' => e = .returned (.int .i64 (k + cntR (xs.map (·.r)))) ∧ RowsOwn w' base v (markV xs k) ∧ KeepB (fun b => ∃ x ∈ xs, x.v.ownBlock = some b) w w' := by
  obtain ⟨A, c, rfl, hnc, hcm⟩ := own_slice ho.own
  replace ho := hid ho
  go_enter Tryd.func57, Tryd.ntmps57
  go_wp2
  go_loopw [1, 5] (fun kv i wr => ∃ j : Nat, kv = .int .i64 (k + cntR ((xs.take j).map (·.r))) ∧ i = .int .i64 (j : Nat) ∧ j ≤ xs.length ∧ RowsOwn wr base (.slice A xs.length c) (markV (xs.take j) k ++ xs.drop j) ∧ KeepB (fun b => ∃ x ∈ xs, x.v.ownBlock = some b) w wr) (fun _ i _ => xs.length - (intOf i).toNat)
  case atStart => exact ⟨0, by simp [cntR], rfl, by omega, by simpa [markV] using ho.out, KeepB.refl _ _⟩
  case round =>
    obtain ⟨j, rfl, rfl, hj, hro, hkp⟩ := hrel
    by_cases hlt : j < xs.length
    · have hd : xs.drop j = xs[j] :: xs.drop (j + 1) := List.drop_eq_getElem_cons hlt
      have htk : xs.take (j + 1) = xs.take j ++ [xs[j]] := List.take_succ_eq_append_getElem hlt
      have hc0 := cntR_take (rs := xs.map (·.r)) (j := j) (by simpa using hlt)
      have hc1 := cntR_more (rs := xs.map (·.r)) (j := j) (by simpa using hlt)
      rw [← List.map_take, ← List.map_take, List.getElem_map] at hc0
      rw [← List.map_take, List.getElem_map] at hc1
      rw [hd] at hro
      have hx := hro.rows xs[j] (List.mem_append_right _ List.mem_cons_self)
      have hxb : ∀ b, xs[j].v.ownBlock = some b → ∃ x ∈ xs, x.v.ownBlock = some b := fun b e => ⟨_, List.getElem_mem hlt, e⟩
      obtain ⟨g, cap, hve, hg1, hg2, -, -, hcell⟩ := own_shape hro.own (by rw [List.length_append, List.length_cons]; omega)
      have hvals : (rowVals (markV (xs.take j) k ++ xs[j] :: xs.drop (j + 1)))[j]? = some xs[j].v := by
        unfold rowVals
        have hl : (markV (xs.take j) k).length = j := by rw [markV_len, List.length_take]; omega
        rw [List.map_append, List.getElem?_append_right (by rw [List.length_map]; omega), List.length_map, hl, Nat.sub_self, List.map_cons, List.getElem?_cons_zero]
      have c0 := hcell j _ hvals
      injection hve with e1 e2 e3
      subst e1
      clear e2 e3
      have hset : Hid (∀ w', KeepB (fun b => xs[j].v.ownBlock = some b) wr w' → w'.ownsRow base 3 1 (RowV.v ⟨marksI xs[j].r.length (k + cntR ((xs.take j).map (·.r))), xs[j].A, xs[j].c⟩) (marksI xs[j].r.length (k + cntR ((xs.take j).map (·.r)))).length (intVals (marksI xs[j].r.length (k + cntR ((xs.take j).map (·.r))))) →
          RowsOwn w' base (.slice (some ⟨g, 0, none⟩) xs.length c) (markV (xs.take (j + 1)) k ++ xs.drop (j + 1))) := hid fun w' hk' ho' => by
        have := hro.set_ hk' (x' := ⟨marksI xs[j].r.length (k + cntR ((xs.take j).map (·.r))), xs[j].A, xs[j].c⟩) (by unfold RowV.v; rw [marksI_len]) ho'
        rw [htk, markV_append]
        simpa [markV] using this
      obtain ⟨x, hxx⟩ : ∃ x, x = xs[j] := ⟨_, rfl⟩
      rw [← hxx] at hc0 hc1 c0 hset hx hxb
      obtain ⟨q, hq⟩ : ∃ q, q = cntR ((xs.take j).map (·.r)) := ⟨_, rfl⟩
      rw [← hq] at hc0 hc1 hset ⊢
      unfold RowV.v at c0
      have k1 : (0 : Int) ≤ (j : Int) ∧ (j : Int) < (xs.length : Int) := by omega
      replace hro := hid hro
      replace hcell := hid hcell
      replace hx := hid hx
      replace hxb := hid hxb
      replace hxx := hid hxx
      replace hq := hid hq
      replace hd := hid hd
      replace htk := hid htk
      replace hvals := hid hvals
      replace hc0 := hid hc0
      go_wp2_with fail
      refine (markIntS_any x.A x.r.length x.c base x.r (k + q) wr (by omega) (by omega) hx.out).mono ?_
      rintro e w1 ⟨rfl, ho1, hk1⟩
      have hro1 := hid (hset.out w1 hk1 (by unfold RowV.v; dsimp only; rw [marksI_len]; exact ho1))
      have hkp1 := hid (hkp.trans (hk1.mono fun b e => hxb.out b e))
      clear ho1 hk1
      go_wp2_with fail
      go_roundw
      case rel => exact ⟨j + 1, by rw [hc0.out]; go_num, by go_num, by omega, hro1.out, hkp1.out⟩
      case measure => simp [intOf]; omega
    · obtain rfl : j = xs.length := by omega
      rw [List.take_length, List.drop_length, List.append_nil] at hro
      rw [List.take_length]
      replace hro := hid hro
      go_wp2
      go_ret
      exact ⟨rfl, hro.out, hkp⟩

set_option maxRecDepth 100000 in
set_option maxHeartbeats 1000000 in
theorem markAutomaton_any (base : Nat) (v1 v2 : Value) (a : Au) (xs : List RowV) (k : Int) (w : World) (h0 : 0 ≤ k) (h1 : k + cntR a.nx + a.ac.length ≤ 1152921504606846976) (ho : AuOwn w base v1 v2 a xs) :
    Calls Tryd.prog 22 #[.agg #[.int .i64 a.al, v1, v2], .int .i64 k] w fun e w' => e = .returned (.int .i64 (k + cntR a.nx + a.ac.length)) ∧ AuOwn w' base v1 v2 ⟨a.al, marksR a.nx k, marksB a.ac.length (k + cntR a.nx)⟩ (markV xs k) ∧ KeepB (fun b => (∃ x ∈ xs, x.v.ownBlock = some b) ∨ v2.ownBlock = some b) w w' := by
  obtain ⟨w0, hw0, hz0, hB0, hS⟩ := boxed w #[Value.int IntKind.i64 a.al, v1, v2] 29
  have p1 := hS 1 _ rfl _ (Below.refl _ _)
  have p2 := hS 2 _ rfl _ (Below.refl _ _)
  have ho0 := ho.later hB0
  have heq := ho.eq
  have hcn : cntR (xs.map (·.r)) = cntR a.nx := by rw [heq]
  have hgb := own_later_ ho.acc hB0
  have hrb : ∀ b, (∃ x ∈ xs, x.v.ownBlock = some b) → base ≤ b := fun b ⟨x, hx, e⟩ => own_block (ho.rows.rows x hx) b e
  have hab : ∀ b, v2.ownBlock = some b → base ≤ b := own_block ho.acc
  have hne : ∀ g, v2.ownBlock = some g → ¬ ∃ x ∈ xs, x.v.ownBlock = some g := fun g hg ⟨x, hx, e⟩ => own_ne_own ho.acc (ho.rows.rows x hx) (by decide) g g hg e rfl
  have hsz := hB0.size
  replace hgb := hid hgb
  replace hrb := hid hrb
  replace hab := hid hab
  replace hne := hid hne
  replace ho0 := hid ho0
  replace heq := hid heq
  replace ho := hid ho
  have hcell : ∀ w', KeepB (fun b => ∃ x ∈ xs, x.v.ownBlock = some b) w0 w' → w'.cell? ⟨w.heap.size, 2, none⟩ = some v2 := fun w' hk => by
    have hlt : ∀ x ∈ xs, ∀ g, x.v.ownBlock = some g → g < w.heap.size := fun x hx g hg => ((ho.out.rows.rows x hx).lt g hg).2
    rw [World.cell?_of_block (w := w0) (hk.block w.heap.size (by omega) fun ⟨x, hx, e⟩ => by have := hlt x hx _ e; omega)]
    exact p2
  obtain ⟨A, c, B, d, e1, e2, -⟩ := ho.out.at_
  subst e1
  subst e2
  replace hcell := hid hcell
  go_enter Tryd.func22, Tryd.ntmps22
  go_wp2_with fail
  refine (markIntSS_any base (.slice A a.nx.length c) xs k w0 h0 (by omega) ho0.out.rows).mono ?_
  rintro e w1 ⟨rfl, ho1, hk1⟩
  rw [hcn]
  have q2 := hcell.out w1 hk1
  have ha1 := hid (own_keep hgb.out hk1 hne.out)
  have hk1' := hid hk1
  have ho1' := hid ho1
  clear ho1 hk1 p1 p2
  go_wp2_with fail
  refine (markBoolS_any B a.ac.length d base a.ac (k + cntR a.nx) w1 (by omega) (by omega) ha1.out).mono ?_
  rintro e w2 ⟨rfl, ho2, hk2⟩
  have hro := ho1'.out.keep hk2 (fun g hg e => own_ne_own ho1'.out.own ha1.out (by decide) g g hg e rfl) (fun x hx g hg e => own_ne_own (ho1'.out.rows x hx) ha1.out (by decide) g g hg e rfl)
  have hkk := ((KeepB.of_below (K := fun b => (∃ x ∈ xs, x.v.ownBlock = some b) ∨ (Value.slice B a.ac.length d).ownBlock = some b) hB0).trans (hk1'.out.mono fun b h => .inl h)).trans (hk2.mono fun b h => .inr h)
  have hfin := hid (AuOwn.mk (a := ⟨a.al, marksR a.nx k, marksB a.ac.length (k + cntR a.nx)⟩) (w := w2) hro (by rw [markV_rows, heq.out]) (by dsimp only; rw [marksB_len]; exact ho2))
  clear hro ho2 hk2
  go_wp2
  go_ret
  exact ⟨rfl, hfin.out, hkk⟩

set_option maxRecDepth 100000 in
set_option maxHeartbeats 1000000 in
theorem heldIntS_any (A : Option Addr) (n c : Nat) (k : Int) (w : World) (h0 : 0 ≤ k) (h1 : k + n ≤ 1152921504606846976) (hnc : n ≤ c) (hcm : c ≤ 9223372036854775807) (hr : IntsAt w w.heap.size A (marksI n k)) :
    Calls Tryd.prog 120 #[.slice A n c, .int .i64 k] w fun e w' => e = .returned (.int .i64 (k + n)) ∧ Below w.heap.size w w' := by
  replace hr := hid hr
  go_enter Tryd.func120, Tryd.ntmps120
  go_wp2
  go_loopw [1, 5] (fun kv i wr => ∃ j : Nat, kv = .int .i64 (k + j) ∧ i = .int .i64 (j : Nat) ∧ j ≤ n ∧ Below w.heap.size w wr) (fun _ i _ => n - (intOf i).toNat)
  case atStart => exact ⟨0, by simp, rfl, by omega, Below.refl _ _⟩
  case round =>
    obtain ⟨j, rfl, rfl, hj, hb⟩ := hrel
    by_cases hlt : j < n
    · obtain ⟨b, o, hA, hB, hE⟩ := hr.out (by rw [marksI_len]; omega)
      subst hA
      have e0 := hE j (by rw [marksI_len]; exact hlt)
      rw [marksI_at, ← hb.cell (by simpa using hB)] at e0
      have k1 : (0 : Int) ≤ (j : Int) ∧ (j : Int) < (n : Int) := by omega
      have k2 : ((k + (j : Int)) != (k + (j : Int))) = false := by simp
      replace hE := hid hE
      go_wp2
      go_roundw
      case rel => exact ⟨j + 1, by go_num, by go_num, by omega, hb⟩
      case measure => simp [intOf]; omega
    · obtain rfl : j = n := by omega
      go_wp2
      go_ret
      exact ⟨rfl, hb⟩

set_option maxRecDepth 100000 in
set_option maxHeartbeats 1000000 in
theorem heldBoolS_any (A : Option Addr) (n c : Nat) (k : Int) (w : World) (h0 : 0 ≤ k) (h1 : k + n ≤ 1152921504606846976) (hnc : n ≤ c) (hcm : c ≤ 9223372036854775807) (hr : BoolsAt w w.heap.size A (marksB n k)) :
    Calls Tryd.prog 60 #[.slice A n c, .int .i64 k] w fun e w' => e = .returned (.int .i64 (k + n)) ∧ Below w.heap.size w w' := by
  replace hr := hid hr
  go_enter Tryd.func60, Tryd.ntmps60
  go_wp2
  go_loopw [1, 5] (fun kv i wr => ∃ j : Nat, kv = .int .i64 (k + j) ∧ i = .int .i64 (j : Nat) ∧ j ≤ n ∧ Below w.heap.size w wr) (fun _ i _ => n - (intOf i).toNat)
  case atStart => exact ⟨0, by simp, rfl, by omega, Below.refl _ _⟩
  case round =>
    obtain ⟨j, rfl, rfl, hj, hb⟩ := hrel
    by_cases hlt : j < n
    · obtain ⟨b, o, hA, hB, hE⟩ := hr.out (by rw [marksB_len]; omega)
      subst hA
      have e0 := hE j (by rw [marksB_len]; exact hlt)
      rw [marksB_at, ← hb.cell (by simpa using hB)] at e0
      have k1 : (0 : Int) ≤ (j : Int) ∧ (j : Int) < (n : Int) := by omega
      have hm3 := tmod3 (show (0 : Int) ≤ k + (j : Int) by omega)
      cases hq : decide ((k + (j : Int)) % 3 = 0)
      all_goals
        rw [hq] at e0
        obtain ⟨m, hm⟩ : ∃ m, m = (k + (j : Int)) % 3 := ⟨_, rfl⟩
        rw [← hm] at hm3 hq
        have hq2 : (m == 0) = decide (m = 0) := rfl
        rw [hq] at hq2
        replace hm := hid hm
        replace hE := hid hE
        clear hq
        go_wp2
        go_roundw
        case rel => exact ⟨j + 1, by go_num, by go_num, by omega, hb⟩
        case measure => simp [intOf]; omega
    · obtain rfl : j = n := by omega
      go_wp2
      go_ret
      exact ⟨rfl, hb⟩

set_option maxRecDepth 100000 in
set_option maxHeartbeats 1000000 in
theorem heldIntSS_any (A : Option Addr) (c : Nat) (rs : List (List Int)) (k : Int) (w : World) (h0 : 0 ≤ k) (h1 : k + cntR rs ≤ 1152921504606846976) (hnc : rs.length ≤ c) (hcm : c ≤ 9223372036854775807) (hr : RowsAt w w.heap.size A (marksR rs k)) :
    Calls Tryd.prog 59 #[.slice A rs.length c, .int .i64 k] w fun e w' => e = .returned (.int .i64 (k + cntR rs)) ∧ Below w.heap.size w w' := by
  replace hr := hid hr
  go_enter Tryd.func59, Tryd.ntmps59
  go_wp2
  go_loopw [1, 5] (fun kv i wr => ∃ j : Nat, kv = .int .i64 (k + cntR (rs.take j)) ∧ i = .int .i64 (j : Nat) ∧ j ≤ rs.length ∧ Below w.heap.size w wr) (fun _ i _ => rs.length - (intOf i).toNat)
  case atStart => exact ⟨0, by simp [cntR], rfl, by omega, Below.refl _ _⟩
  case round =>
    obtain ⟨j, rfl, rfl, hj, hb⟩ := hrel
    by_cases hlt : j < rs.length
    · obtain ⟨b, o, hA, hB, hE⟩ := hr.out.later hb (by rw [marksR_len]; omega)
      subst hA
      obtain ⟨Ai, ci, e0, hi1, hi2, hi3⟩ := hE j (by rw [marksR_len]; exact hlt)
      rw [marksR_at rs k j hlt] at e0 hi1 hi3
      rw [marksI_len] at e0 hi1
      have hc0 := hid (cntR_take hlt)
      have hc1 := cntR_more hlt
      have k1 : (0 : Int) ≤ (j : Int) ∧ (j : Int) < (rs.length : Int) := by omega
      obtain ⟨r, hrr⟩ : ∃ r, Hid (r = rs[j]) := ⟨_, hid rfl⟩
      rw [← hrr.out] at e0 hi1 hi3 hc0 hc1
      obtain ⟨q, hq⟩ : ∃ q, Hid (q = cntR (rs.take j)) := ⟨_, hid rfl⟩
      rw [← hq.out] at hi3 hc0 hc1 ⊢
      replace hE := hid hE
      replace hi3 := hid hi3
      go_wp2_with fail
      refine (heldIntS_any Ai r.length ci (k + q) wr (by omega) (by omega) hi1 hi2 hi3.out).mono ?_
      rintro e w1 ⟨rfl, hb1⟩
      have hb2 := hb.trans (hb1.mono hb.size)
      clear e0
      go_wp2
      go_roundw
      case rel => exact ⟨j + 1, by rw [hc0.out]; go_num, by go_num, by omega, hb2⟩
      case measure => simp [intOf]; omega
    · obtain rfl : j = rs.length := by omega
      rw [List.take_length]
      go_wp2
      go_ret
      exact ⟨rfl, hb⟩

set_option maxRecDepth 100000 in
set_option maxHeartbeats 1000000 in
theorem heldAutomaton_any (base : Nat) (v1 v2 : Value) (al : Int) (rs : List (List Int)) (n : Nat) (xs : List RowV) (k : Int) (w : World) (h0 : 0 ≤ k) (h1 : k + cntR rs + n ≤ 1152921504606846976) (ho : AuOwn w base v1 v2 ⟨al, marksR rs k, marksB n (k + cntR rs)⟩ xs) :
    Calls Tryd.prog 23 #[.agg #[.int .i64 al, v1, v2], .int .i64 k] w fun e w' => e = .returned (.int .i64 (k + cntR rs + n)) ∧ Below w.heap.size w w' := by
  obtain ⟨A, c, B, d, rfl, rfl, cl, cm, dl, dm, hr1, hr2⟩ := ho.at_
  dsimp only at cl dl hr1 hr2 ⊢
  rw [marksR_len] at cl ⊢
  rw [marksB_len] at dl ⊢
  obtain ⟨w0, hw0, hz0, hB0, hS⟩ := boxed w #[Value.int IntKind.i64 al, .slice A rs.length c, .slice B n d] 29
  have p1 := hS 1 _ rfl _ (Below.refl _ _)
  have hr1' := hid (hr1.later hB0)
  replace hr1 := hid hr1
  replace hr2 := hid hr2
  replace ho := hid ho
  go_enter Tryd.func23, Tryd.ntmps23
  go_wp2_with fail
  refine (heldIntSS_any A c rs k w0 h0 (by omega) cl cm hr1'.out).mono ?_
  rintro e w1 ⟨rfl, hb1⟩
  have hB1 := hB0.trans (hb1.mono hB0.size)
  have p2 := hS 2 _ rfl _ (hb1.mono hz0)
  have hr2' := hid (hr2.out.later hB1)
  clear p1
  go_wp2_with fail
  refine (heldBoolS_any B n d (k + cntR rs) w1 (by omega) (by omega) dl dm hr2'.out).mono ?_
  rintro e w2 ⟨rfl, hb2⟩
  have hB2 := hB1.trans (hb2.mono hB1.size)
  clear p2
  go_wp2
  go_ret
  exact ⟨rfl, hB2⟩

end Go.Proofs.YtimoekglamdddaaDoor
