/- Lemmas, part 6: several texts in one. -/
import Derived.Test.YtdkjnemakkppfaaGreatDoorY1
import Derived.Test.YtdkjnemakkppfaaGreatDoorY5
import Derived.Test.YtdkjnemakkppfaaGreatDoorY4
import Derived.Test.YtdkjnemakkppfaaGreatDoorY3
set_option linter.unusedSimpArgs false
set_option linter.unusedVariables false

/- Plain: lists numbered by first occurrence; a numbering of nodes under a map that may join nodes. -/
namespace AG


theorem snoc_ind {α : Type} {P : List α → Prop} (h0 : P []) (h1 : ∀ l x, P l → P (l ++ [x])) (l : List α) : P l := by
  have : ∀ n, ∀ l : List α, l.length = n → P l := by
    intro n
    induction n with
    | zero => intro l hl; rw [List.eq_nil_of_length_eq_zero hl]; exact h0
    | succ n ih =>
      intro l hl
      have hne : l ≠ [] := fun e => by rw [e] at hl; simp at hl
      rw [← List.dropLast_concat_getLast hne]
      exact h1 _ _ (ih _ (by rw [List.length_dropLast]; omega))
  exact this _ l rfl

section
variable {α β : Type} [DecidableEq α] [DecidableEq β]
def addD (ns : List α) (x : α) : List α := if x ∈ ns then ns else ns ++ [x]
/-- Without repeats, in the order of first occurrence. -/
def dd (ks : List α) : List α := ks.foldl addD []
def numb (ks : List α) : List Nat := ks.map fun k => (dd ks).idxOf k
theorem dd_snoc (ks : List α) (k : α) : dd (ks ++ [k]) = addD (dd ks) k := by unfold dd; rw [List.foldl_append]; rfl
theorem addD_mem {ns : List α} {x y : α} : y ∈ addD ns x ↔ y ∈ ns ∨ y = x := by
  unfold addD
  split
  · rename_i h
    exact ⟨.inl, fun h2 => h2.elim id fun e => e ▸ h⟩
  · rw [List.mem_append, List.mem_singleton]
theorem dd_mem (ks : List α) (x : α) : x ∈ dd ks ↔ x ∈ ks := by
  induction ks using snoc_ind with
  | h0 => simp [dd]
  | h1 l y ih => rw [dd_snoc, addD_mem, List.mem_append, List.mem_singleton, ih]
end

end AG

/- Plain: the least automaton of a language: classes of states, their automaton, what is reached of it. -/
namespace Go.Proofs.YtdkjnemakkppfaaGreatDoor
open AG

noncomputable instance decLang : DecidableEq (List Nat → Prop) := fun _ _ => Classical.propDecidable _
/-- The words that lead from a state to an accepting one. -/
def resid (a : Au) (q : Nat) : List Nat → Prop := fun r => (∀ l ∈ r, l ∈ letters a.al) ∧ a.ac.getD (runA a q r) false = true
noncomputable def clsL (a : Au) : List (List Nat → Prop) := (List.range a.nx.length).map (resid a)
/-- The classes of the states, numbered by first occurrence; how many there are. -/
noncomputable def clsA (a : Au) : List Nat := numb (clsL a)
noncomputable def cA (a : Au) (q : Nat) : Nat := (clsA a).getD q 0
end Go.Proofs.YtdkjnemakkppfaaGreatDoor

/- The program's CountAccepted. -/
namespace Go.Proofs.YtdkjnemakkppfaaGreatDoor
open Go.RowKit Go.BigFrame AG

/-- A list of n numbers in a block: those below q are what f says. -/
structure NumsIn (cs : Array Value) (n : Nat) (f : Nat → Nat) : Prop where
  size : cs.size = n
  at_ : ∀ p, p < n → cs[p]? = some (.int .i64 (f p : Nat))
theorem NumsIn.set_ {cs : Array Value} {n : Nat} {f f' : Nat → Nat} {p : Nat} {v : Int} (h : NumsIn cs n f) (hp : p < n) (hv : v = ((f' p : Nat) : Int)) (ho : ∀ q, q ≠ p → f' q = f q) : NumsIn (cs.setIfInBounds p (.int .i64 v)) n f' := by
  refine ⟨by simpa using h.size, fun q hq => ?_⟩
  by_cases e : q = p
  · subst e
    rw [Array.getElem?_setIfInBounds_self_of_lt (by rw [h.size]; exact hq), hv]
  · rw [Array.getElem?_setIfInBounds_ne (Ne.symm e), h.at_ q hq, ho q e]

theorem NumsIn.congr {cs : Array Value} {n : Nat} {f f' : Nat → Nat} (h : NumsIn cs n f) (e : ∀ p, f p = f' p) : NumsIn cs n f' := by
  have : f = f' := funext e
  rw [← this]
  exact h
end Go.Proofs.YtdkjnemakkppfaaGreatDoor

/- The program's search in two automata: firstOfBoth, FirstOutside, LanguageWithin. -/
namespace Go.Proofs.YtdkjnemakkppfaaGreatDoor
open Go.RowKit Go.BigFrame AG

def cmpAu (a b : Au) : Bool := auOk a && (auOk b && decide (a.al = b.al))
theorem wrap_addN (a b : Nat) (h : a + b < 9223372036854775807) : wrap64 ((a : Int) + (b : Int)) = ((a + b : Nat) : Int) := by
  rw [← Int.natCast_add]
  exact IntWalk.wrap64_in _ ⟨by omega, by omega⟩
set_option maxRecDepth 100000 in
set_option maxHeartbeats 4000000 in
theorem bothNext_any (a b : Au) (gS gT bS bN bT base m q l : Nat) (v : Value) (ns : List Nat) (w : World) (hq : q < m * b.nx.length) (hm : m = a.nx.length) (hm12 : m ≤ 12) (hn1 : 1 ≤ b.nx.length) (hn12 : b.nx.length ≤ 12) (hl : l < 6) (hx : goA a (q / b.nx.length) l < 12) (hy : goA b (q % b.nx.length) l < 12)
    (hS : TabA w gS m a) (hT : TabA w gT b.nx.length b) (hcS : w.cell? ⟨bS, 0, none⟩ = some (.slice (some ⟨gS, 0, none⟩) m m)) (hcN : w.cell? ⟨bN, 0, none⟩ = some (.int .i64 (b.nx.length : Nat))) (hcT : w.cell? ⟨bT, 0, none⟩ = some (.slice (some ⟨gT, 0, none⟩) b.nx.length b.nx.length))
    (hns : ns.length ≤ 4294967296) (hb : base ≤ w.heap.size) (hown : w.ownsRow base 3 1 v ns.length (natVals ns)) :
    Calls Tryz.prog 146 #[.int .i64 (q : Nat), .int .i64 (l : Nat), v, .pointer (some ⟨bS, 0, none⟩), .pointer (some ⟨bN, 0, none⟩), .pointer (some ⟨bT, 0, none⟩)] w fun e w' =>
      ∃ v', e = .returned v' ∧ w'.ownsRow base 3 1 v' (ns ++ [goB a b q l]).length (natVals (ns ++ [goB a b q l])) ∧ KeepB (fun b => v.ownBlock = some b) w w' := by
  obtain ⟨i0, hi, hz0, hz1, hz2⟩ := info_parts infoInt
  have hqn : q / b.nx.length < m := Nat.div_lt_of_lt_mul (by rw [Nat.mul_comm]; exact hq)
  have hrn : q % b.nx.length < b.nx.length := Nat.mod_lt _ hn1
  have hq144 : q < 144 := Nat.lt_of_lt_of_le hq (Nat.le_trans (Nat.mul_le_mul hm12 hn12) (by decide))
  obtain ⟨X, hX⟩ : ∃ X, Hid (X = goA a (q / b.nx.length) l) := ⟨_, hid rfl⟩
  obtain ⟨Y, hY⟩ : ∃ Y, Hid (Y = goA b (q % b.nx.length) l) := ⟨_, hid rfl⟩
  have c1 := hS.2 _ l hqn hl
  have c2 := hT.2 _ l hrn hl
  rw [← hX.out] at c1 hx
  rw [← hY.out] at c2 hy
  obtain ⟨n, hn⟩ : ∃ n, Hid (n = b.nx.length) := ⟨_, hid rfl⟩
  have hgo : Hid (goB a b q l = X * n + Y) := hid (by unfold goB; rw [hX.out, hY.out, hn.out])
  rw [← hn.out] at hq hn1 hn12 hqn hrn c1 c2 hcN hcT
  rw [hgo.out]
  have hgS := hS.1
  have hgT := hT.1
  obtain ⟨Q, hQ⟩ : ∃ Q, Hid (Q = q / n) := ⟨_, hid rfl⟩
  obtain ⟨R, hR⟩ : ∃ R, Hid (R = q % n) := ⟨_, hid rfl⟩
  rw [← hQ.out] at hqn c1
  rw [← hR.out] at hrn c2
  have e1 : ((q : Nat) : Int) / ((n : Nat) : Int) = (Q : Int) := by rw [hQ.out]; exact (Int.natCast_ediv q n).symm
  have e2 : ((q : Nat) : Int) % ((n : Nat) : Int) = (R : Int) := by rw [hR.out]; exact (Int.natCast_emod q n).symm
  have e3 : Int.tdiv ((q : Nat) : Int) ((n : Nat) : Int) = (Q : Int) := by rw [Int.tdiv_eq_ediv_of_nonneg (by omega), e1]
  have e4 : Int.tmod ((q : Nat) : Int) ((n : Nat) : Int) = (R : Int) := by rw [Int.tmod_eq_emod_of_nonneg (by omega), e2]
  have hz : ((n : Nat) : Int) ≠ 0 := by omega
  have hz' : (((n : Nat) : Int) == 0) = false := by simpa using hz
  obtain ⟨Av, cv, rfl, -, -⟩ := own_slice hown
  have hbS := World.block_lt_of_cell? _ _ hcS
  have hbN := World.block_lt_of_cell? _ _ hcN
  have hbT := World.block_lt_of_cell? _ _ hcT
  have y0 : ∀ x, (Fam w.heap.size w x).cell? ⟨bS, 0, none⟩ = some (.slice (some ⟨gS, 0, none⟩) m m) := fun x => by rw [(Fam.below w.heap.size w x).cell (by simpa using hbS)]; exact hcS
  have y1 : ∀ x, (Fam w.heap.size w x).cell? ⟨bN, 0, none⟩ = some (.int .i64 (n : Nat)) := fun x => by rw [(Fam.below w.heap.size w x).cell (by simpa using hbN)]; exact hcN
  have y2 : ∀ x, (Fam w.heap.size w x).cell? ⟨bT, 0, none⟩ = some (.slice (some ⟨gT, 0, none⟩) n n) := fun x => by rw [(Fam.below w.heap.size w x).cell (by simpa using hbT)]; exact hcT
  have y3 : ∀ x, (Fam w.heap.size w x).cell? ⟨gS, Q * 6 + l, none⟩ = some (.int .i64 (X : Nat)) := fun x => by rw [(Fam.below w.heap.size w x).cell (by simpa using hgS)]; exact c1
  have y4 : ∀ x, (Fam w.heap.size w x).cell? ⟨gT, R * 6 + l, none⟩ = some (.int .i64 (Y : Nat)) := fun x => by rw [(Fam.below w.heap.size w x).cell (by simpa using hgT)]; exact c2
  have k1 : (0 : Int) ≤ (Q : Int) ∧ (Q : Int) < (m : Int) ∧ (0 : Int) ≤ (R : Int) ∧ (R : Int) < (n : Int) ∧ (0 : Int) ≤ (l : Int) ∧ (l : Int) < 6 := by omega
  obtain ⟨P, hP⟩ : ∃ P, Hid (P = X * n) := ⟨_, hid rfl⟩
  have hP144 : P ≤ 144 := by rw [hP.out]; exact Nat.le_trans (Nat.mul_le_mul (Nat.le_of_lt hx) hn12) (by decide)
  have e5 : wrap64 ((X : Int) * (n : Int)) = (P : Int) := by rw [← Int.natCast_mul, ← hP.out]; exact IntWalk.wrap64_in _ ⟨by omega, by omega⟩
  have e6 := wrap_addN P Y (Nat.lt_of_le_of_lt (Nat.add_le_add hP144 (Nat.le_of_lt hy)) (by decide))
  rw [← hP.out]
  obtain ⟨Z, hZ⟩ : ∃ Z, Hid (Z = P + Y) := ⟨_, hid rfl⟩
  rw [← hZ.out] at e6 ⊢
  replace hown := hid hown
  replace hS := hid hS
  replace hT := hid hT
  clear c1 c2 hcS hcN hcT e1 e2 hP144 hbS hbN hbT hq144 hgS hgT
  subst hm
  go_enter Tryz.func146, Tryz.ntmps146
  go_upto_region 1 with fail
  refine wp_region_grow 21 w.heap.size w (fun _ _ _ => True) (by kernel_rfl) (by kernel_rfl) (Nat.le_refl _) (Below.refl _ _) ?_
  simp only [List.take_succ_cons, List.take_zero, List.drop_succ_cons, List.drop_zero]
  (repeat (refine grow_quiet (by rfl) (by rfl) (by rfl) ?_; intro K hK; go_big_quiet_op; go_big_quiet_on))
  rw [e6]
  refine grow_new (by rfl) (fun b => .slice (some ⟨b, 0, none⟩) 1 1) 3 #[.int .i64 (Z : Nat)] (fun _ => by go_simp) (fun _ => rfl) (Nat.le_refl _) fun g3 hg3 => ?_
  simp only [Act.put, List.setIfInBounds_toArray, List.set_cons_zero, List.set_cons_succ]
  refine grow_nil ?_
  intro w7 hb7 hf
  obtain ⟨g3', hge, -, hblk3⟩ := hf _ List.mem_cons_self
  cases hge
  have hnew3 := hid (Blk.news hblk3)
  clear hblk3 hf y0 y1 y2 y3 y4
  have hoA := hid (own_later_ hown.out hb7)
  have hz7 := hb7.size
  go_wp2_with (at_builtin; refine wpList_append_own_at _ rfl _ _ 63 rfl base 3 i0 (.int .i64 0) 1 8 Tryz.underlying63 hi hz0 hz1 hz2 rfl (by decide) _ _ _ rfl (hoA.out) ⟨g3, 0, none⟩ 1 1 [.int .i64 (Z : Nat)] rfl rfl hnew3.out (by intro u hu; simp at hu; subst hu; rfl) (by unfold maxLen; omega) (by omega) (by first | omega | (simp; omega)) ?_; intro v5 w5 hO5 hg5 _ hat5; obtain ⟨A5, c5, ev5, -, -⟩ := own_slice hO5; subst ev5; replace hO5 := hid hO5; replace hg5 := hid hg5)
  go_ret
  refine ⟨_, rfl, ?_, (KeepB.of_below (K := fun b => (Value.slice Av ns.length cv).ownBlock = some b) hb7).grown hg5.out fun k hk _ => hk⟩
  have := hO5.out
  rw [List.length_append]
  unfold natVals at this ⊢
  rw [List.map_append]
  exact this

end Go.Proofs.YtdkjnemakkppfaaGreatDoor

/- The program's search in two automata: comparable2, firstOfBoth. -/
namespace Go.Proofs.YtdkjnemakkppfaaGreatDoor
open Go.RowKit Go.BigFrame AG

set_option maxRecDepth 100000 in
set_option maxHeartbeats 4000000 in
theorem cmp2_any (a b : Au) (A B A' B' : Option Addr) (c d c' d' : Nat) (w : World) (ha : AuAt w A c B d a) (hb : AuAt w A' c' B' d' b) :
    Calls Tryz.prog 65 #[a.val A c B d, b.val A' c' B' d'] w fun e w' => e = .returned (.bool (cmpAu a b)) ∧ Below w.heap.size w w' := by
  obtain ⟨w0, hw0, hz0, hB0, hS, hU⟩ := boxed2 w #[Value.int IntKind.i64 a.al, Value.slice A a.nx.length c, Value.slice B a.ac.length d] 41 #[Value.int IntKind.i64 b.al, Value.slice A' b.nx.length c', Value.slice B' b.ac.length d'] 41
  have ha0 := hid (ha.later hB0)
  have hb0 := hid (hb.later hB0)
  have p0 := hS 0 _ rfl _ (Below.refl _ _)
  have p1 := hS 1 _ rfl _ (Below.refl _ _)
  have p2 := hS 2 _ rfl _ (Below.refl _ _)
  replace ha := hid ha
  replace hb := hid hb
  unfold AG.Au.val
  go_enter Tryz.func65, Tryz.ntmps65
  go_wp2_with fail
  refine (implAutomatonValid_any a A B c d w0 ha0.out).mono ?_
  rintro e w1 ⟨rfl, hb1⟩
  clear p0 p1 p2
  have hB1 := hB0.trans (hb1.mono hB0.size)
  have hC1 := hb1.mono hz0
  cases hca : auOk a
  · have hfin : Hid (cmpAu a b = false) := hid (by unfold cmpAu; rw [hca]; rfl)
    replace hca := hid hca
    go_wp2_with fail
    go_ret
    exact ⟨ret_bool (by rw [hfin.out]), hB1⟩
  have q0 := hU 0 _ rfl _ hC1
  have q1 := hU 1 _ rfl _ hC1
  have q2 := hU 2 _ rfl _ hC1
  have hfin : Hid (cmpAu a b = (auOk b && decide (a.al = b.al))) := hid (by unfold cmpAu; rw [hca]; rfl)
  replace hca := hid hca
  go_wp2_with fail
  refine (implAutomatonValid_any b A' B' c' d' w1 (hb0.out.later hb1)).mono ?_
  rintro e w2 ⟨rfl, hb2⟩
  clear q0 q1 q2
  have hB2 := hB1.trans (hb2.mono hB1.size)
  have hC2 := hC1.trans (hb2.mono (by have := hC1.size; omega))
  cases hcb : auOk b
  · have hcb' := hid hcb
    go_wp2_with fail
    go_ret
    exact ⟨ret_bool (by rw [hfin.out, hcb]; rfl), hB2⟩
  have p0 := hS 0 _ rfl _ hC2
  have q0 := hU 0 _ rfl _ hC2
  obtain ⟨t, ht⟩ : ∃ t, (a.al == b.al) = t := ⟨_, rfl⟩
  have htt : Hid (decide (a.al = b.al) = t) := hid (by rw [← ht]; rfl)
  replace hcb := hid hcb
  go_wp2_with fail
  go_ret
  exact ⟨ret_bool (by rw [hfin.out, hcb.out, htt.out, Bool.true_and]), hB2⟩

/-- A test of two truth values, as a function value. -/
structure BoolFn (g : Bool → Bool → Bool) (fg : FuncId) (cg : Array Value) : Prop where
  run : ∀ args w', (callFunc fg args).run Tryz.prog w' = .ok (.enter fg args) w'
  call : ∀ w' x y, Calls Tryz.prog fg (#[.bool x, .bool y] ++ cg) w' fun e w'' => e = .returned (.bool (g x y)) ∧ Below w'.heap.size w' w''
def goalB (a b : Au) (g : Bool → Bool → Bool) (m : Nat) : Bool := g (a.ac.getD (m / b.nx.length) false) (b.ac.getD (m % b.nx.length) false)

set_option maxRecDepth 100000 in
set_option maxHeartbeats 4000000 in
theorem bothGoal_any (a b : Au) (g : Bool → Bool → Bool) (fg : FuncId) (cg : Array Value) (hg : BoolFn g fg cg) (B B' : Option Addr) (d d' bG bA bN bB q : Nat) (w : World) (hq : q < a.ac.length * b.nx.length) (hl : b.ac.length = b.nx.length) (hn : 1 ≤ b.nx.length) (hn12 : b.nx.length ≤ 12) (hm12 : a.ac.length ≤ 12)
    (hA : BoolsAt w w.heap.size B a.ac) (hB : BoolsAt w w.heap.size B' b.ac) (hcG : w.cell? ⟨bG, 0, none⟩ = some (.func (.func fg) #[] cg)) (hcA : w.cell? ⟨bA, 2, none⟩ = some (.slice B a.ac.length d)) (hcN : w.cell? ⟨bN, 0, none⟩ = some (.int .i64 (b.nx.length : Nat))) (hcB : w.cell? ⟨bB, 2, none⟩ = some (.slice B' b.ac.length d')) :
    Calls Tryz.prog 147 #[.int .i64 (q : Nat), .pointer (some ⟨bG, 0, none⟩), .pointer (some ⟨bA, 0, none⟩), .pointer (some ⟨bN, 0, none⟩), .pointer (some ⟨bB, 0, none⟩)] w fun e w' => e = .returned (.bool (goalB a b g q)) ∧ Below w.heap.size w w' := by
  have hqm : q / b.nx.length < a.ac.length := Nat.div_lt_of_lt_mul (by rw [Nat.mul_comm]; exact hq)
  have hrn : q % b.nx.length < b.nx.length := Nat.mod_lt _ hn
  obtain ⟨gA, oA, rfl, hltA, hEA⟩ := hA (Nat.lt_of_le_of_lt (Nat.zero_le _) hqm)
  obtain ⟨gB, oB, rfl, hltB, hEB⟩ := hB (by omega)
  have c1 := hEA _ hqm
  have c2 := hEB (q % b.nx.length) (by omega)
  have hfin : Hid (goalB a b g q = g a.ac[q / b.nx.length] (b.ac[q % b.nx.length]'(by omega))) := hid (by
    unfold goalB
    rw [List.getD_eq_getElem?_getD, List.getD_eq_getElem?_getD, List.getElem?_eq_getElem hqm, List.getElem?_eq_getElem (by omega)]
    rfl)
  rw [hfin.out]
  obtain ⟨x, hx⟩ : ∃ x, x = a.ac[q / b.nx.length] := ⟨_, rfl⟩
  obtain ⟨y, hy⟩ : ∃ y, y = b.ac[q % b.nx.length]'(by omega) := ⟨_, rfl⟩
  rw [← hx] at c1 ⊢
  rw [← hy] at c2 ⊢
  clear hx hy hfin
  obtain ⟨n, hnn⟩ : ∃ n, Hid (n = b.nx.length) := ⟨_, hid rfl⟩
  rw [← hnn.out] at hqm hrn c1 c2 hcN hn hl
  obtain ⟨Q, hQ⟩ : ∃ Q, Hid (Q = q / n) := ⟨_, hid rfl⟩
  obtain ⟨R, hR⟩ : ∃ R, Hid (R = q % n) := ⟨_, hid rfl⟩
  rw [← hQ.out] at hqm c1
  rw [← hR.out] at hrn c2
  have e1 : ((q : Nat) : Int) / ((n : Nat) : Int) = (Q : Int) := by rw [hQ.out]; exact (Int.natCast_ediv q n).symm
  have e2 : ((q : Nat) : Int) % ((n : Nat) : Int) = (R : Int) := by rw [hR.out]; exact (Int.natCast_emod q n).symm
  have e3 : Int.tdiv ((q : Nat) : Int) ((n : Nat) : Int) = (Q : Int) := by rw [Int.tdiv_eq_ediv_of_nonneg (by omega), e1]
  have e4 : Int.tmod ((q : Nat) : Int) ((n : Nat) : Int) = (R : Int) := by rw [Int.tmod_eq_emod_of_nonneg (by omega), e2]
  clear e1 e2
  have hz : ((n : Nat) : Int) ≠ 0 := by omega
  have hz' : (((n : Nat) : Int) == 0) = false := by simpa using hz
  have k1 : (0 : Int) ≤ (Q : Int) ∧ (Q : Int) < (a.ac.length : Int) ∧ (0 : Int) ≤ (R : Int) ∧ (R : Int) < (b.ac.length : Int) := by omega
  have y0 := fun x => (Fam.below w.heap.size w x).cell (World.block_lt_of_cell? _ _ hcG) |>.trans hcG
  have y1 := fun x => (Fam.below w.heap.size w x).cell (World.block_lt_of_cell? _ _ hcA) |>.trans hcA
  have y2 := fun x => (Fam.below w.heap.size w x).cell (World.block_lt_of_cell? _ _ hcN) |>.trans hcN
  have y3 := fun x => (Fam.below w.heap.size w x).cell (World.block_lt_of_cell? _ _ hcB) |>.trans hcB
  have y4 := fun x => (Fam.below w.heap.size w x).cell (World.block_lt_of_cell? _ _ c1) |>.trans c1
  have y5 := fun x => (Fam.below w.heap.size w x).cell (World.block_lt_of_cell? _ _ c2) |>.trans c2
  have hrun := hg.run
  have hcall := hid hg.call
  replace hEA := hid hEA
  replace hEB := hid hEB
  replace hA := hid hA
  replace hB := hid hB
  clear c1 c2 hcG hcA hcN hcB hq hnn hg
  go_enter Tryz.func147, Tryz.ntmps147
  go_upto_region 1 with fail
  refine wp_region_grow 15 w.heap.size w (fun _ _ _ => True) (by kernel_rfl) (by kernel_rfl) (Nat.le_refl _) (Below.refl _ _) ?_
  simp only [List.take_succ_cons, List.take_zero, List.drop_succ_cons, List.drop_zero]
  (repeat (refine grow_quiet (by rfl) (by rfl) (by rfl) ?_; intro K hK; go_big_quiet_op; go_big_quiet_on))
  refine grow_nil ?_
  intro w7 hb7 hf
  clear hf y0 y1 y2 y3 y4 y5
  go_wp2_with fail
  refine (hcall.out w7 x y).mono ?_
  rintro e w8 ⟨rfl, hb8⟩
  have hb := hb7.trans (hb8.mono hb7.size)
  go_wp2_with fail
  go_ret
  exact ⟨rfl, hb⟩

end Go.Proofs.YtdkjnemakkppfaaGreatDoor

/- The program's FirstTraceOutside: its closures. -/
namespace Go.Proofs.YtdkjnemakkppfaaGreatDoor
open Go.RowKit Go.BigFrame AG

theorem tmod_nat (a b : Nat) : Int.tmod (a : Int) (b : Int) = ((a % b : Nat) : Int) := by
  rw [Int.tmod_eq_emod_of_nonneg (by omega)]
  exact (Int.natCast_emod a b).symm
theorem tdiv_nat (a b : Nat) : Int.tdiv (a : Int) (b : Int) = ((a / b : Nat) : Int) := by
  rw [Int.tdiv_eq_ediv_of_nonneg (by omega)]
  exact (Int.natCast_ediv a b).symm

set_option maxRecDepth 100000 in
set_option maxHeartbeats 400000 in
theorem outGoal_any (q z b : Nat) (w : World) (hz : 0 < z) (hz' : z ≤ 65536) (hq : q ≤ 1048576) (hc : w.cell? ⟨b, 0, none⟩ = some (.int .i64 (z : Nat))) :
    Calls Tryz.prog 108 #[.int .i64 (q : Nat), .pointer (some ⟨b, 0, none⟩)] w fun e w' => e = .returned (.bool (decide (q % z = 0))) ∧ Below w.heap.size w w' := by
  go_enter Tryz.func108, Tryz.ntmps108
  go_wp2
  go_ret
  exact ⟨ret_bool (by rw [Bool.eq_iff_iff]; simp; omega), Below.refl _ _⟩

set_option maxRecDepth 100000 in
set_option maxHeartbeats 4000000 in
theorem outNext_any (s t : Sy) (z bN bZ bM gn gm base q l : Nat) (v : Value) (ns : List Nat) (w : World) (hz : 0 < z) (hz' : z ≤ 65536) (hq : q < 16 * z) (hl : l < 6) (hT : Tab w) (hN : w.cell? ⟨bN, 0, none⟩ = some (.pointer (some ⟨gn, 0, none⟩))) (hZ : w.cell? ⟨bZ, 0, none⟩ = some (.int .i64 (z : Nat)))
    (hM : w.cell? ⟨bM, 0, none⟩ = some (.pointer (some ⟨gm, 0, none⟩))) (hm : MvAt w w.heap.size gm (mv s)) (hn : MvAt w w.heap.size gn (mv t)) (hns : ns.length ≤ 4294967296) (hb : base ≤ w.heap.size) (hbZ : bZ < base) (hown : w.ownsRow base 3 1 v ns.length (natVals ns)) :
    Calls Tryz.prog 107 #[.int .i64 (q : Nat), .int .i64 (l : Nat), v, .pointer (some ⟨bN, 0, none⟩), .pointer (some ⟨bZ, 0, none⟩), .pointer (some ⟨bM, 0, none⟩)] w fun e w' =>
      ∃ v', e = .returned v' ∧ w'.ownsRow base 3 1 v' (ns ++ outNx s t z q l).length (natVals (ns ++ outNx s t z q l)) ∧ KeepB (fun b => v.ownBlock = some b) w w' := by
  obtain ⟨i0, hi, hz0, hz1, hz2⟩ := info_parts infoInt
  obtain ⟨X, hX⟩ : ∃ X, X = unionOf (mv t) (q % z) l := ⟨_, rfl⟩
  have hXl : X < 65536 := by rw [hX]; exact unionOf_lt _ _ _
  obtain ⟨M, hM'⟩ : ∃ M, M = mv s (q / z) l := ⟨_, rfl⟩
  have hMl : M < 65536 := by rw [hM']; exact mv_lt _ _ _
  have hrem := tmod_nat q z
  have hquo := tdiv_nat q z
  have hqz : q / z < 16 := Nat.div_lt_of_lt_mul (by rw [Nat.mul_comm]; exact hq)
  have hqm : q % z < 65536 := Nat.lt_of_lt_of_le (Nat.mod_lt q hz) hz'
  have y0 : ∀ x, (Fam w.heap.size w x).cell? ⟨bN, 0, none⟩ = some (.pointer (some ⟨gn, 0, none⟩)) := fun x => by rw [(Fam.below _ _ x).cell (World.block_lt_of_cell? _ _ hN)]; exact hN
  have y1 : ∀ x, (Fam w.heap.size w x).cell? ⟨bZ, 0, none⟩ = some (.int .i64 (z : Nat)) := fun x => by rw [(Fam.below _ _ x).cell (World.block_lt_of_cell? _ _ hZ)]; exact hZ
  have hzn : ((z : Int) == 0) = false := by simp; omega
  have hzi : (0 : Int) < (z : Int) := by omega
  have hqi : (0 : Int) ≤ (q : Int) := by omega
  replace hX := hid hX
  replace hM' := hid hM'
  replace hm := hid hm
  replace hn := hid hn
  replace hT := hid hT
  replace hown := hid hown
  go_enter Tryz.func107, Tryz.ntmps107
  go_wp2_with fail
  refine wp_region_grow 6 w.heap.size w (fun _ u _ => u = .int .i64 (X : Nat)) (by kernel_rfl) (by kernel_rfl) (Nat.le_refl _) (Below.refl _ _) ?_
  simp only [List.take_succ_cons, List.take_zero, List.drop_succ_cons, List.drop_zero]
  (repeat (refine grow_quiet (by rfl) (by rfl) (by rfl) ?_; intro K hK; go_big_quiet_op; go_big_quiet_on))
  refine grow_val (.int .i64 (X : Nat)) (by rfl) (by rfl) rfl (fun wq hbq _ => ?_) ?_
  · go_simp
    refine ⟨rfl, ?_⟩
    rw [← Int.natCast_emod, hX.out]
    exact step_any (mv t) gn (q % z) l wq hl (fun p => mv_lt t p l) hqm (hT.out.later hbq) (hn.out.later hbq)
  simp only [Act.put, List.setIfInBounds_toArray, List.set_cons_zero, List.set_cons_succ]
  refine grow_nil ?_
  intro w1 hb1 hf
  clear hf y0 y1
  have hzb1 := hb1.size
  have y1 : ∀ x, (Fam w1.heap.size w1 x).cell? ⟨bZ, 0, none⟩ = some (.int .i64 (z : Nat)) := fun x => by rw [((hb1.trans ((Fam.below w1.heap.size w1 x).mono hb1.size))).cell (World.block_lt_of_cell? _ _ hZ)]; exact hZ
  have y2 : ∀ x, (Fam w1.heap.size w1 x).cell? ⟨bM, 0, none⟩ = some (.pointer (some ⟨gm, 0, none⟩)) := fun x => by rw [((hb1.trans ((Fam.below w1.heap.size w1 x).mono hb1.size))).cell (World.block_lt_of_cell? _ _ hM)]; exact hM
  have hqn : ((q : Int) / (z : Int)).toNat = q / z := by rw [← Int.natCast_ediv]; exact Int.toNat_natCast _
  have hq16 : ((q : Int) / (z : Int)) < 16 := by rw [← Int.natCast_ediv]; omega
  have hq0 : (0 : Int) ≤ ((q : Int) / (z : Int)) := by rw [← Int.natCast_ediv]; omega
  have hl0 : (0 : Int) ≤ (l : Int) := by omega
  have hl6 : (l : Int) < 6 := by omega
  have y3 : ∀ x, (Fam w1.heap.size w1 x).cell? ⟨gm, q / z * 6 + l, none⟩ = some (.int .i64 (M : Nat)) := fun x => by
    rw [hM'.out]
    exact (hm.out.keep (hb1.trans ((Fam.below w1.heap.size w1 x).mono hb1.size))).2 _ _ hqz hl
  go_wp2_with fail
  refine wp_region_grow 12 w1.heap.size w1 (fun _ u w' => OwnNats w' w.heap.size u (memL M)) (by kernel_rfl) (by kernel_rfl) (Nat.le_refl _) (Below.refl _ _) ?_
  simp only [List.take_succ_cons, List.take_zero, List.drop_succ_cons, List.drop_zero]
  (repeat (refine grow_quiet (by rfl) (by rfl) (by rfl) ?_; intro K hK; go_big_quiet_op; go_big_quiet_on))
  refine grow_call (by rfl) (by rfl) (fun u w w' hb h => ?_) (fun wq hbq _ => ?_) fun u hu => ?_
  · exact own_keep h (.of_below (K := fun _ => False) hb) fun _ _ h => h
  · go_simp
    refine ⟨rfl, (members_any M hMl wq ((hT.out.later hb1).later hbq)).mono ?_⟩
    rintro e w3 ⟨v, rfl, ho, hb3⟩
    exact ⟨v, rfl, hb3, own_base ho (by have := hbq.size; omega)⟩
  obtain ⟨w3', -, ho3'⟩ := hu
  obtain ⟨A3, c3, rfl, hc3, hc3'⟩ := own_slice ho3'
  clear ho3'
  simp only [Act.put, List.setIfInBounds_toArray, List.set_cons_zero, List.set_cons_succ]
  (repeat (refine grow_quiet (by rfl) (by rfl) (by rfl) ?_; intro K hK; go_big_quiet_op; go_big_quiet_on))
  refine grow_nil ?_
  intro w3 hb3 hf
  have ho3 := hf _ List.mem_cons_self
  clear hf
  replace ho3 := hid ho3
  clear y1 y2 y3
  have hB3 : Below w.heap.size w w3 := hb1.trans (hb3.mono hzb1)
  have hz3 := hB3.size
  go_wp2_with fail
  go_loopw [2, 30] (fun ov jv wr => ∃ j : Nat, jv = .int .i64 j ∧ j ≤ (memL M).length ∧ wr.ownsRow base 3 1 ov (ns ++ ((memL M).take j).map fun p => p * z + X).length (natVals (ns ++ ((memL M).take j).map fun p => p * z + X)) ∧ KeepB (fun b => v.ownBlock = some b) w3 wr ∧ (∀ g, ov.ownBlock = some g → v.ownBlock = some g ∨ w3.heap.size ≤ g)) (fun _ jv _ => (memL M).length - (intOf jv).toNat)
  case atStart => exact ⟨0, rfl, by omega, by simpa using own_keep hown.out (.of_below (K := fun _ => False) hB3) (fun _ _ h => h), KeepB.refl _ _, fun g h => .inl h⟩
  case round =>
    obtain ⟨j, rfl, hj, hown2, hkp, hat⟩ := hrel
    have hml := memL_len M
    have hvb : ∀ g, v.ownBlock = some g → base ≤ g ∧ g < w.heap.size := hown.out.lt
    by_cases hjl : j < (memL M).length
    · have hr3 := own_keep ho3.out hkp fun g hg e => by
        have h1 := (hvb g e).2
        have h2 := own_block ho3.out g hg
        omega
      obtain ⟨g3, d3, hve, -, -, -, -, hcell⟩ := own_shape hr3 (by omega)
      injection hve with hv1 hv2 hv3
      subst hv1
      subst hv3
      have n0 := hcell j _ (show ((memL M).map fun (n : Nat) => Value.int .i64 (n : Int))[j]? = some (.int .i64 ((memL M)[j] : Nat)) from by simp [hjl])
      have hp16 := (memL_mem.1 (List.getElem_mem hjl)).1
      have hbZ' := World.block_lt_of_cell? _ _ hZ
      have z0 : wr.cell? ⟨bZ, 0, none⟩ = some (.int .i64 (z : Nat)) := by
        rw [World.cell?_of_block (w := w3) (hkp.block bZ (by have := hB3.size; simp at hbZ'; omega) fun e => by have := (hvb _ e).1; omega), hB3.cell hbZ']
        exact hZ
      have htk : ((memL M).take (j + 1)).map (fun p => p * z + X) = ((memL M).take j).map (fun p => p * z + X) ++ [(memL M)[j] * z + X] := by
        rw [List.take_succ_eq_append_getElem hjl, List.map_append]
        rfl
      obtain ⟨p, hp⟩ : ∃ p, p = (memL M)[j] := ⟨_, rfl⟩
      rw [← hp] at n0 hp16 htk
      have hpz : p * z ≤ 1048576 := Nat.le_trans (Nat.mul_le_mul (show p ≤ 16 by omega) hz') (by omega)
      have hpi : ((p : Int) * (z : Int)) = ((p * z : Nat) : Int) := (Int.natCast_mul p z).symm
      have hpz1 : ((p : Int) * (z : Int)) ≤ 1048576 := by rw [hpi]; omega
      have hpz2 : (0 : Int) ≤ ((p : Int) * (z : Int)) := by rw [hpi]; omega
      have hval : Hid (((p : Int) * (z : Int) + (X : Int)) = ((p * z + X : Nat) : Int)) := hid (by rw [hpi]; omega)
      have hlen : (ns ++ ((memL M).take j).map fun p => p * z + X).length ≤ 4294967312 := by simp; omega
      replace hpi := hid hpi
      replace hp := hid hp
      replace htk := hid htk
      replace hr3 := hid hr3
      replace hcell := hid hcell
      replace hown2 := hid hown2
      replace hat := hid hat
      replace hvb := hid hvb
      have hzr := hkp.size
      go_wp2_with (at_builtin; refine wpList_append_own_at _ rfl _ _ 63 rfl base 3 i0 (.int .i64 0) 1 8 Tryz.underlying63 hi hz0 hz1 hz2 rfl (by decide) _ _ _ rfl (hown2.out.alloc _) ⟨wr.heap.size, 0, none⟩ 1 1 [.int .i64 ((p : Int) * (z : Int) + (X : Int))] rfl rfl (cell_one_new _ _ _) (by intro u hu; simp at hu; subst hu; rfl) (by unfold maxLen; omega) (by omega) (by simp; omega) ?_; intro v5 w5 hO5 hg5 _ hat5; replace hO5 := hid hO5; replace hg5 := hid hg5; replace hat5 := hid hat5)
      go_roundw
      case rel =>
        refine ⟨j + 1, by go_num, by omega, ?_, (hkp.alloc _).grown hg5.out fun g hg hlt => ?_, fun g hg => ?_⟩
        · have h5 := hO5.out
          rw [hval.out] at h5
          rw [htk.out, ← List.append_assoc, List.length_append]
          unfold natVals at h5 ⊢
          rw [List.map_append]
          exact h5
        · rcases hat.out g hg with h | h
          · exact h
          · omega
        · rcases hat5.out with h | h
          · exact hat.out g (h.symm.trans hg)
          · rw [h] at hg
            injection hg with hg
            right
            simp at hg
            omega
      case measure => simp [intOf]; omega
    · have htk : (memL M).take j = memL M := List.take_of_length_le (by omega)
      rw [htk] at hown2
      have hfin : Hid (((memL M).map fun p => p * z + X) = outNx s t z q l) := hid (by unfold outNx; rw [← hX.out, ← hM'.out])
      rw [hfin.out] at hown2
      replace hown2 := hid hown2
      replace hat := hid hat
      replace hvb := hid hvb
      replace htk := hid htk
      have hkf : Hid (KeepB (fun b => v.ownBlock = some b) w wr) := hid ((KeepB.of_below hB3).trans hkp)
      go_wp2
      go_ret
      exact ⟨_, rfl, hown2.out, hkf.out⟩

end Go.Proofs.YtdkjnemakkppfaaGreatDoor

/- The program's FirstTraceOutside. -/
namespace Go.Proofs.YtdkjnemakkppfaaGreatDoor
open Go.RowKit Go.BigFrame AG

theorem setFar_cell (w : World) (p : Addr) (v : Value) {q : Addr} (h : q.block ≠ p.block) : (w.setCell p v).cell? q = w.cell? q := World.cell?_of_block (w := w) (Below.heap_setCell _ _ _ _ h)
theorem MvAt.far {w : World} {B g : Nat} {m : Nat → Nat → Nat} (h : MvAt w B g m) (p : Addr) (v : Value) (hp : g ≠ p.block) : MvAt (w.setCell p v) B g m := ⟨h.1, fun q l h1 h2 => by rw [setFar_cell _ _ _ hp]; exact h.2 q l h1 h2⟩

theorem goal_ok {wq : World} {z bZ size : Nat} (hz : 0 < z) (hz' : z ≤ 65536) (hs : size ≤ 1048576) (hc : wq.cell? ⟨bZ, 0, none⟩ = some (.int .i64 (z : Nat))) :
    GoalOk wq size (fun n => decide (n % z = 0)) 108 #[.pointer (some ⟨bZ, 0, none⟩)] :=
  ⟨fun args w' => by go_simp, fun w' q hb hq => outGoal_any q z bZ w' hz hz' (by omega) ((hb.cell (World.block_lt_of_cell? _ _ hc)).trans hc)⟩

theorem next_ok {s t : Sy} {wq : World} {z sn bN bZ bM gn gm : Nat} (hs : edgesIn s) (ht : edgesIn t) (hsn : s.st = (sn : Int)) (hs16 : sn ≤ 16) (hz : z = 2 ^ t.st.toNat) (hzp : 0 < z) (hzl : z ≤ 65536) (hT : Tab wq)
    (hN : wq.cell? ⟨bN, 0, none⟩ = some (.pointer (some ⟨gn, 0, none⟩))) (hZ : wq.cell? ⟨bZ, 0, none⟩ = some (.int .i64 (z : Nat))) (hM : wq.cell? ⟨bM, 0, none⟩ = some (.pointer (some ⟨gm, 0, none⟩))) (hm : MvAt wq wq.heap.size gm (mv s)) (hn : MvAt wq wq.heap.size gn (mv t)) :
    NextOk wq (sn * z) (letters s.al) (outNx s t z) 107 #[.pointer (some ⟨bN, 0, none⟩), .pointer (some ⟨bZ, 0, none⟩), .pointer (some ⟨bM, 0, none⟩)] := by
  refine ⟨fun args w' => by go_simp, fun q _ l _ n hn => ?_, fun q _ l _ => ?_, fun w' q l v ns base hb hq hl hns hB hB' hown => ?_⟩
  · unfold outNx at hn
    obtain ⟨p, hp, rfl⟩ := List.mem_map.1 hn
    have h1 := testBit_lt (mv_small hs _ _) (memL_mem.1 hp).2
    have h2 := unionOf_small ht (q % z) l
    rw [← hz] at h2
    have h3 : (p + 1) * z ≤ sn * z := Nat.mul_le_mul_right z (by omega)
    rw [Nat.add_mul] at h3
    omega
  · unfold outNx
    rw [List.length_map]
    exact Nat.le_trans (memL_len _) (by omega)
  · have hq16 : q < 16 * z := Nat.lt_of_lt_of_le hq (Nat.mul_le_mul_right z hs16)
    exact outNext_any s t z bN bZ bM gn gm base q l v ns w' hzp hzl hq16 (letters_lt hl).1 (hT.later hb) ((hb.cell (World.block_lt_of_cell? _ _ hN)).trans hN) ((hb.cell (World.block_lt_of_cell? _ _ hZ)).trans hZ)
      ((hb.cell (World.block_lt_of_cell? _ _ hM)).trans hM) (hm.later hb) (hn.later hb) hns hB' (Nat.lt_of_lt_of_le (World.block_lt_of_cell? _ _ hZ) hB) hown

set_option maxRecDepth 100000 in
set_option maxHeartbeats 4000000 in
theorem implFirstTraceOutside_any (s t : Sy) (A B : Option Addr) (c d : Nat) (w : World) (hl : s.es.length ≤ c) (hc : c ≤ 9223372036854775807) (hm : t.es.length ≤ d) (hd : d ≤ 9223372036854775807) (hT : Tab w) (hr : EdsAt w w.heap.size A s.es) (hs : EdsAt w w.heap.size B t.es) :
    Calls Tryz.prog 68 #[s.val A c, t.val B d] w fun e w' => ∃ o, e = .returned (pathV o) ∧ IsOut s t o ∧ Below w.heap.size w w' := by
  unfold Sy.val
  replace hr := hid hr
  replace hs := hid hs
  replace hT := hid hT
  go_enter Tryz.func68, Tryz.ntmps68
  go_wp2_with fail
  obtain ⟨w0, hw0, hz0, hB0, hS, hU⟩ := boxed2 w #[Value.int IntKind.i64 s.al, Value.int IntKind.i64 s.st, Value.slice A s.es.length c] 25 #[Value.int IntKind.i64 t.al, Value.int IntKind.i64 t.st, Value.slice B t.es.length d] 25
  rw [hw0]
  clear hw0
  have p0 := hS 0 _ rfl _ (Below.refl _ _)
  have p1 := hS 1 _ rfl _ (Below.refl _ _)
  have p2 := hS 2 _ rfl _ (Below.refl _ _)
  have q0 := hU 0 _ rfl _ (Below.refl _ _)
  have q1 := hU 1 _ rfl _ (Below.refl _ _)
  have q2 := hU 2 _ rfl _ (Below.refl _ _)
  have hr0 := hid (hr.out.later hB0)
  have hs0 := hid (hs.out.later hB0)
  go_wp2_with fail
  refine (sameAlphabets_any s t A B c d w0 hl hc hm hd hr0.out hs0.out).mono ?_
  rintro e w1 ⟨rfl, hb1⟩
  have b1 := hb1.mono hz0
  clear p0 p1 p2 q0 q1 q2
  have B1 : Below w.heap.size w w1 := hB0.trans (b1.mono (by omega))
  cases hC : cmpOk s t
  · replace hC := hid hC
    go_wp2_with fail
    go_ret2
    exact ⟨none, rfl, by unfold IsOut; rw [hC.out]; rfl, B1⟩
  · replace hC := hid hC
    have hsy := hid (show sysOk s = true ∧ sysOk t = true from by
      have := hC.out
      unfold cmpOk at this
      simp only [Bool.and_eq_true] at this
      exact ⟨this.1, this.2.1⟩)
    have hin1 := hid (sysOk_in hsy.out.1)
    have hin2 := hid (sysOk_in hsy.out.2)
    have z1 := hb1.size
    have hFb : ∀ x, Below (w.heap.size + 2) w0 (Fam w1.heap.size w1 x) := fun x => b1.trans ((Fam.below _ _ x).mono (by omega))
    have y0 := fun x => hS 0 _ rfl _ (hFb x)
    have y1 := fun x => hS 1 _ rfl _ (hFb x)
    have y2 := fun x => hS 2 _ rfl _ (hFb x)
    have u0 := fun x => hU 0 _ rfl _ (hFb x)
    have u1 := fun x => hU 1 _ rfl _ (hFb x)
    have u2 := fun x => hU 2 _ rfl _ (hFb x)
    have hr1 := hid (hr.out.later B1)
    have hs1 := hid (hs.out.later B1)
    replace hFb := hid hFb
    go_wp2_with fail
    refine wp_region_grow2 6 w1.heap.size w1 (fun i u w' => if i = 1 then ∃ g, u = .pointer (some ⟨g, 0, none⟩) ∧ MvAt w' w'.heap.size g (mv s) else ∃ g, u = .pointer (some ⟨g, 0, none⟩) ∧ MvAt w' w'.heap.size g (mv t)) (fun i => i == 4 || i == 5) (by kernel_rfl) (by kernel_rfl) (Nat.le_refl _) (Below.refl _ _) ?_
    simp only [List.take_succ_cons, List.take_zero, List.drop_succ_cons, List.drop_zero]
    (repeat (refine grow_quiet (by rfl) (by rfl) (by rfl) ?_; intro K hK; go_big_quiet_op; go_big_quiet_on))
    refine grow_call (by rfl) (by rfl) (fun u v v' hb h => ?_) (fun wq hbq _ => ?_) fun u hu => ?_
    · obtain ⟨g, e, h⟩ := h
      exact ⟨g, e, h.later hb⟩
    · go_simp
      refine ⟨rfl, (movesOf_any s A c wq hin1.out hl hc (hr1.out.later hbq)).mono ?_⟩
      rintro e w3 ⟨g, rfl, hg, hb3⟩
      exact ⟨_, rfl, hb3, g, rfl, hg⟩
    obtain ⟨wx, -, gm, rfl, -⟩ := hu
    simp only [Act.put, List.setIfInBounds_toArray, List.set_cons_zero, List.set_cons_succ]
    (repeat (refine grow_quiet (by rfl) (by rfl) (by rfl) ?_; intro K hK; go_big_quiet_op; go_big_quiet_on))
    refine grow_call (by rfl) (by rfl) (fun u v v' hb h => ?_) (fun wq hbq _ => ?_) fun u hu => ?_
    · obtain ⟨g, e, h⟩ := h
      exact ⟨g, e, h.later hb⟩
    · go_simp
      refine ⟨rfl, (movesOf_any t B d wq hin2.out hm hd (hs1.out.later hbq)).mono ?_⟩
      rintro e w3 ⟨g, rfl, hg, hb3⟩
      exact ⟨_, rfl, hb3, g, rfl, hg⟩
    obtain ⟨wx', -, gn, rfl, -⟩ := hu
    simp only [Act.put, List.setIfInBounds_toArray, List.set_cons_zero, List.set_cons_succ]
    refine grow_new (by rfl) (fun b => .pointer (some ⟨b, 0, none⟩)) 86 #[.pointer none] (fun _ => by go_simp) (fun _ => rfl) (Nat.le_refl _) fun bM hbM => ?_
    simp only [Act.put, List.setIfInBounds_toArray, List.set_cons_zero, List.set_cons_succ]
    refine grow_new (by rfl) (fun b => .pointer (some ⟨b, 0, none⟩)) 86 #[.pointer none] (fun _ => by go_simp) (fun _ => rfl) (Nat.le_refl _) fun bN hbN => ?_
    simp only [Act.put, List.setIfInBounds_toArray, List.set_cons_zero, List.set_cons_succ]
    refine grow_nil ?_
    intro w2 hb2 hf hap
    have hne : bM ≠ bN := by
      have := hap 4 5 6 7 _ _ (by decide) (by decide) (by decide) rfl rfl rfl rfl rfl rfl
      simpa [blockOf] using this
    obtain ⟨_, e5, -, hN5⟩ := hf _ List.mem_cons_self
    cases e5
    obtain ⟨_, e4, -, hM4⟩ := hf _ (List.mem_cons_of_mem _ List.mem_cons_self)
    cases e4
    obtain ⟨_, e3, hn3⟩ := hf _ (List.mem_cons_of_mem _ (List.mem_cons_of_mem _ List.mem_cons_self))
    cases e3
    obtain ⟨_, e1, hm1⟩ := hf _ (List.mem_cons_of_mem _ (List.mem_cons_of_mem _ (List.mem_cons_of_mem _ List.mem_cons_self)))
    cases e1
    clear hf hap y0 y1 y2 u0 u1 u2
    have hBM : Blk w2 bM 86 #[.pointer none] := hM4
    have hBN : Blk w2 bN 86 #[.pointer none] := hN5
    clear hM4 hN5
    have hgm : ∀ g b m, Blk w2 b 86 #[.pointer none] → MvAt w2 w2.heap.size g m → g ≠ b := fun g b m hb hm e => by
      subst e
      have h1 := hm.2 0 0 (by omega) (by omega)
      have h2 := hb.cell 0
      simp at h2
      simp [h2] at h1
    have g1 := hgm gm bM _ hBM hm1
    have g2 := hgm gm bN _ hBN hm1
    have g3 := hgm gn bM _ hBM hn3
    have g4 := hgm gn bN _ hBN hn3
    clear hgm
    obtain ⟨w3, hw3⟩ : ∃ w3, (w2.setCell ⟨bM, 0, none⟩ (.pointer (some ⟨gm, 0, none⟩))).setCell ⟨bN, 0, none⟩ (.pointer (some ⟨gn, 0, none⟩)) = w3 := ⟨_, rfl⟩
    have hb3 : Below w1.heap.size w1 w3 := by
      rw [← hw3]
      (repeat (first | exact Below.refl _ _ | assumption | refine Below.drew ?_ | refine Below.alloc ?_ (by first | omega | (simp; done) | (simp; omega)) _ | refine Below.setCell ?_ (by first | omega | (simp; done) | (simp; omega)) _))
    have hm3 : MvAt w3 w3.heap.size gm (mv s) := by
      have := MvAt.far (MvAt.far hm1 ⟨bM, 0, none⟩ (.pointer (some ⟨gm, 0, none⟩)) g1) ⟨bN, 0, none⟩ (.pointer (some ⟨gn, 0, none⟩)) g2
      rw [hw3] at this
      refine ⟨?_, this.2⟩
      have := hm1.1
      rw [← hw3]
      simpa using this
    have hn4 : MvAt w3 w3.heap.size gn (mv t) := by
      have := MvAt.far (MvAt.far hn3 ⟨bM, 0, none⟩ (.pointer (some ⟨gm, 0, none⟩)) g3) ⟨bN, 0, none⟩ (.pointer (some ⟨gn, 0, none⟩)) g4
      rw [hw3] at this
      refine ⟨?_, this.2⟩
      have := hn3.1
      rw [← hw3]
      simpa using this
    have hcM : w3.cell? ⟨bM, 0, none⟩ = some (.pointer (some ⟨gm, 0, none⟩)) := by
      rw [← hw3, setFar_cell _ _ _ (by simpa using hne)]
      have := (hBM.set_ 0 (.pointer (some ⟨gm, 0, none⟩))).cell 0
      simpa using this
    have hBN' : Blk (w2.setCell ⟨bM, 0, none⟩ (.pointer (some ⟨gm, 0, none⟩))) bN 86 #[.pointer none] := (Below.heap_setCell _ _ _ _ (Ne.symm hne)).trans hBN
    have hcN : w3.cell? ⟨bN, 0, none⟩ = some (.pointer (some ⟨gn, 0, none⟩)) := by
      rw [← hw3]
      have := (hBN'.set_ 0 (.pointer (some ⟨gn, 0, none⟩))).cell 0
      simpa using this
    have c1 := hBM.cell 0
    have c2 := hBN'.cell 0
    simp only [List.getElem?_toArray, List.getElem?_cons_zero] at c1 c2
    have z1' := hBM.frozen 0
    have z2' := hBN'.frozen 0
    have hb3' := b1.trans (hb3.mono (by omega))
    have k1 := hU 1 _ rfl _ hb3'
    obtain ⟨z, hz⟩ : ∃ z, z = 2 ^ t.st.toNat := ⟨_, rfl⟩
    have hst := sysOk_st hsy.out.2
    have hst1 := sysOk_st hsy.out.1
    have hzw : wrap64 ((2 : Int) ^ t.st.toNat) = ((z : Nat) : Int) := by rw [wrap_pow (by omega), hz]
    rw [← hw3] at k1
    replace hm3 := hid hm3
    replace hn4 := hid hn4
    replace hcM := hid hcM
    replace hcN := hid hcN
    replace hw3 := hid hw3
    replace hz := hid hz
    replace hBM := hid hBM
    replace hBN := hid hBN
    replace hBN' := hid hBN'
    clear hm1 hn3
    have hz32 : Hid (w3.heap.size = w2.heap.size) := hid (by rw [← hw3.out]; simp)
    go_wp2_with fail
    rw [hw3.out]
    obtain ⟨w4, hw4⟩ : ∃ w4, w3.alloc (Obj.cells #[Value.int IntKind.i64 (z : Nat)] 3) = w4 := ⟨_, rfl⟩
    rw [hw4]
    have hb4 : Below w3.heap.size w3 w4 := by
      rw [← hw4]
      (repeat (first | exact Below.refl _ _ | assumption | refine Below.drew ?_ | refine Below.alloc ?_ (by first | omega | (simp; done) | (simp; omega)) _ | refine Below.setCell ?_ (by first | omega | (simp; done) | (simp; omega)) _))
    have hcZ : w4.cell? ⟨w2.heap.size, 0, none⟩ = some (.int .i64 (z : Nat)) := by
      have := (Blk.new w3 3 #[Value.int IntKind.i64 (z : Nat)]).cell 0
      rw [hw4, hz32.out] at this
      simpa using this
    have hm5 := hid (hm3.out.later hb4)
    have hn5 := hid (hn4.out.later hb4)
    have hcM4 := hid ((hb4.cell (World.block_lt_of_cell? _ _ hcM.out)).trans hcM.out)
    have hcN4 := hid ((hb4.cell (World.block_lt_of_cell? _ _ hcN.out)).trans hcN.out)
    have hb14 : Below w1.heap.size w1 w4 := hb3.trans (hb4.mono hb3.size)
    have hb04 := b1.trans (hb14.mono (by omega))
    have hFb : ∀ x, Below (w.heap.size + 2) w0 (Fam w4.heap.size w4 x) := fun x => hb04.trans ((Fam.below _ _ x).mono (by have := hb04.size; omega))
    have y0 := fun x => hS 0 _ rfl _ (hFb x)
    have y1 := fun x => hS 1 _ rfl _ (hFb x)
    have hcZ' := World.block_lt_of_cell? _ _ hcZ
    have y2 : ∀ x, (Fam w4.heap.size w4 x).cell? ⟨w2.heap.size, 0, none⟩ = some (.int .i64 (z : Nat)) := fun x => ((Fam.below _ _ x).cell hcZ').trans hcZ
    have hT4 := hid (hT.out.later (B1.trans (hb14.mono (Nat.le_trans (by omega) z1))))
    obtain ⟨sn, hsn⟩ : ∃ sn : Nat, s.st = (sn : Int) := ⟨s.st.toNat, by omega⟩
    have hzl : z ≤ 65536 := by
      rw [hz.out]
      exact Nat.le_trans (Nat.pow_le_pow_right (by omega) (show t.st.toNat ≤ 16 by omega)) (by decide)
    have hzp : 0 < z := by rw [hz.out]; exact Nat.two_pow_pos _
    have hz2 : 1 < z := by
      rw [hz.out]
      have : 2 ^ 1 ≤ 2 ^ t.st.toNat := Nat.pow_le_pow_right (by omega) (by omega)
      omega
    have hsz : sn * z ≤ 1048576 := Nat.le_trans (Nat.mul_le_mul (show sn ≤ 16 by omega) hzl) (by omega)
    have hsz1 : z ≤ sn * z := Nat.le_mul_of_pos_left z (by omega)
    have hmul : Hid (s.st * (z : Int) = ((sn * z : Nat) : Int)) := hid (by rw [hsn, Int.natCast_mul])
    have hm1 : s.st * (z : Int) ≤ 1048576 := by rw [hmul.out]; omega
    have hm2 : 0 ≤ s.st * (z : Int) := by rw [hmul.out]; omega
    have hs16 : sn ≤ 16 := by omega
    replace hsn := hid hsn
    replace hFb := hid hFb
    replace hw3 := hid hw3
    replace hw4 := hid hw4
    clear hzw k1 c1 c2 z1' z2'
    refine wp_region_grow 13 w4.heap.size w4 (fun i u w' => if i = 7 then OwnNats w' w4.heap.size u (letters s.al) else ∃ o, u = pathV o ∧ IsOut s t o) (by kernel_rfl) (by kernel_rfl) (Nat.le_refl _) (Below.refl _ _) ?_
    simp only [List.take_succ_cons, List.take_zero, List.drop_succ_cons, List.drop_zero]
    (repeat (refine grow_quiet (by rfl) (by rfl) (by rfl) ?_; intro K hK; go_big_quiet_op; go_big_quiet_on))
    refine grow_new (by rfl) (fun b => .slice (some ⟨b, 0, none⟩) 1 1) 3 #[.int .i64 1] (fun _ => by go_simp) (fun _ => rfl) (Nat.le_refl _) fun bI hbI => ?_
    simp only [Act.put, List.setIfInBounds_toArray, List.set_cons_zero, List.set_cons_succ]
    (repeat (refine grow_quiet (by rfl) (by rfl) (by rfl) ?_; intro K hK; go_big_quiet_op; go_big_quiet_on))
    refine grow_call (by rfl) (by rfl) (fun u v v' hb h => ?_) (fun wq hbq _ => ?_) fun u hu => ?_
    · exact own_keep h (.of_below (K := fun _ => False) hb) fun _ _ h => h
    · go_simp
      refine ⟨rfl, (lettersOf_any s.al wq).mono ?_⟩
      rintro e w5 ⟨v, rfl, ho, hb5⟩
      exact ⟨v, rfl, hb5, own_base ho hbq.size⟩
    simp only [Act.put, List.setIfInBounds_toArray, List.set_cons_zero, List.set_cons_succ]
    (repeat (refine grow_quiet (by rfl) (by rfl) (by rfl) ?_; intro K hK; go_big_quiet_op; go_big_quiet_on))
    refine grow_call (by rfl) (by rfl) (fun v x x' hb h => h) (fun wq hbq hfx => ?_) fun u2 hu2 => ?_
    · have hlet : OwnNats wq w4.heap.size u (letters s.al) := hfx _ List.mem_cons_self (by kernel_rfl)
      obtain ⟨bI', eI, -, hI⟩ := hfx _ (List.mem_cons_of_mem _ List.mem_cons_self) (by kernel_rfl)
      cases eI
      have hbz := hid ((hbq.cell hcZ').trans hcZ)
      have hbM' := hid ((hbq.cell (World.block_lt_of_cell? _ _ hcM4.out)).trans hcM4.out)
      have hbN' := hid ((hbq.cell (World.block_lt_of_cell? _ _ hcN4.out)).trans hcN4.out)
      have hTq := hid (hT4.out.later hbq)
      have hmq := hid (hm5.out.later hbq)
      have hnq := hid (hn5.out.later hbq)
      go_simp
      refine ⟨rfl, ?_⟩
      rw [hmul.out]
      have hhit : ∀ r, (∃ n, RW (fun n => n ∈ [1]) (letters s.al) (outNx s t z) r n ∧ decide (n % z = 0) = true) ↔ AG.Outside s t r := by
        rw [hz.out]
        exact impl_hits hin1.out hin2.out hst.1
      have hIo : wq.ownsRow 0 3 1 (.slice (some ⟨bI, 0, none⟩) 1 1) [1].length (natVals [1]) := ⟨rfl, .inr ⟨bI, 1, #[.int .i64 1], rfl, Nat.zero_le _, hI, Nat.le_refl _, by decide, rfl, rfl⟩⟩
      refine (firstPath_any wq (sn * z) (fun n => decide (n % z = 0)) 108 #[.pointer (some ⟨w2.heap.size, 0, none⟩)] (goal_ok hzp hzl hsz hbz.out) (letters s.al) (letters_sorted _) (fun l h => (letters_lt h).1) (outNx s t z) 107 _
        (next_ok hin1.out hin2.out hsn.out hs16 hz.out hzp hzl hTq.out hbN'.out hbz.out hbM'.out hmq.out hnq.out) [1] (by simp) (fun n hn => by rw [List.mem_singleton] at hn; omega) (by simp) _ u hIo (own_base hlet (Nat.zero_le _)) hsz).mono ?_
      rintro e w6 ⟨o, rfl, hp, hb6⟩
      exact ⟨_, rfl, hb6, o, rfl, out_of_first hhit hC.out hp⟩
    obtain ⟨w6', -, o, rfl, hout⟩ := hu2
    obtain ⟨Sv, Fv, hpv⟩ : ∃ Sv Fv, pathV o = .tuple #[.string Sv, .bool Fv] := ⟨_, _, rfl⟩
    rw [hpv]
    have hout' := hid (show ∃ o, (Value.tuple #[.string Sv, .bool Fv]) = pathV o ∧ IsOut s t o from ⟨o, hpv.symm, hout⟩)
    clear hout hpv
    simp only [Act.put, List.setIfInBounds_toArray, List.set_cons_zero, List.set_cons_succ]
    (repeat (refine grow_quiet (by rfl) (by rfl) (by rfl) ?_; intro K hK; go_big_quiet_op; go_big_quiet_on))
    refine grow_nil ?_
    intro w7 hb7 hf
    clear hf y0 y1 y2
    have hB7 : Below w.heap.size w w7 := B1.trans ((hb14.trans (hb7.mono hb14.size)).mono (by omega))
    go_wp2_with fail
    go_ret2
    obtain ⟨o, ho, hout⟩ := hout'.out
    exact ⟨o, by rw [← ho]; rfl, hout, hB7⟩

end Go.Proofs.YtdkjnemakkppfaaGreatDoor

/- The program's search in two automata: firstOfBoth. -/
namespace Go.Proofs.YtdkjnemakkppfaaGreatDoor
open Go.RowKit Go.BigFrame AG

def DoubP (a b : Au) (g : Bool → Bool → Bool) (m0 : Nat) (o : Option (List Nat)) : Prop := PathPost (fun m => m ∈ [m0]) (letters a.al) (fun q l => [goB a b q l]) (fun m => goalB a b g m = true) o
theorem TabA.far {w : World} {g n : Nat} {a : Au} (h : TabA w g n a) (p : Addr) (v : Value) (hne : g ≠ p.block) : TabA (w.setCell p v) g n a :=
  ⟨by simpa using h.1, fun q l h1 h2 => by rw [setFar_cell _ _ _ (by simpa using hne)]; exact h.2 q l h1 h2⟩
theorem wrap_mulN (a b : Nat) (h : a * b < 9223372036854775807) : wrap64 ((a : Int) * (b : Int)) = ((a * b : Nat) : Int) := by
  rw [← Int.natCast_mul]
  generalize a * b = c at h
  exact IntWalk.wrap64_in _ ⟨by omega, by omega⟩
theorem goB_lt {a b : Au} (ha : auOk a = true) (hb : auOk b = true) {q l : Nat} (hq : q < a.nx.length * b.nx.length) : goB a b q l < a.nx.length * b.nx.length := by
  have hn := ((auOk_iff b).1 hb).2.1
  have h1 := goA_lt ha (q := q / b.nx.length) (l := l) (Nat.div_lt_of_lt_mul (by rw [Nat.mul_comm]; exact hq))
  have h2 := goA_lt hb (q := q % b.nx.length) (l := l) (Nat.mod_lt _ hn)
  unfold goB
  calc goA a (q / b.nx.length) l * b.nx.length + goA b (q % b.nx.length) l < goA a (q / b.nx.length) l * b.nx.length + b.nx.length := by omega
    _ = (goA a (q / b.nx.length) l + 1) * b.nx.length := by rw [Nat.add_mul, Nat.one_mul]
    _ ≤ a.nx.length * b.nx.length := Nat.mul_le_mul_right _ h1

theorem bothNext_ok {a b : Au} {gS gT bS bN bT : Nat} {w : World} (ha : auOk a = true) (hb : auOk b = true)
    (hS : TabA w gS a.nx.length a) (hT : TabA w gT b.nx.length b) (hcS : w.cell? ⟨bS, 0, none⟩ = some (.slice (some ⟨gS, 0, none⟩) a.nx.length a.nx.length)) (hcN : w.cell? ⟨bN, 0, none⟩ = some (.int .i64 (b.nx.length : Nat))) (hcT : w.cell? ⟨bT, 0, none⟩ = some (.slice (some ⟨gT, 0, none⟩) b.nx.length b.nx.length)) :
    NextOk w (a.nx.length * b.nx.length) (letters a.al) (fun q l => [goB a b q l]) 146 #[.pointer (some ⟨bS, 0, none⟩), .pointer (some ⟨bN, 0, none⟩), .pointer (some ⟨bT, 0, none⟩)] := by
  obtain ⟨_, a1, a12, _⟩ := (auOk_iff a).1 ha
  obtain ⟨_, b1, b12, _⟩ := (auOk_iff b).1 hb
  refine ⟨fun args w' => by go_simp, fun q hq l _ n hn => ?_, fun q _ l _ => by simp, fun w' q l v ns base hbb hq hl hns hB hB' hown => ?_⟩
  · rw [List.mem_singleton.1 hn]
    exact goB_lt ha hb hq
  · have h1 := goA_lt ha (q := q / b.nx.length) (l := l) (Nat.div_lt_of_lt_mul (by rw [Nat.mul_comm]; exact hq))
    have h2 := goA_lt hb (q := q % b.nx.length) (l := l) (Nat.mod_lt _ b1)
    exact bothNext_any a b gS gT bS bN bT base a.nx.length q l v ns w' hq rfl a12 b1 b12 (letters_lt hl).1 (by omega) (by omega) (hS.later hbb) (hT.later hbb) ((hbb.cell (World.block_lt_of_cell? _ _ hcS)).trans hcS)
      ((hbb.cell (World.block_lt_of_cell? _ _ hcN)).trans hcN) ((hbb.cell (World.block_lt_of_cell? _ _ hcT)).trans hcT) hns hB' hown

set_option maxRecDepth 100000 in
set_option maxHeartbeats 8000000 in
theorem firstOfBoth_any (a b : Au) (A B A' B' : Option Addr) (c d c' d' i j : Nat) (g : Bool → Bool → Bool) (fg : FuncId) (cg : Array Value) (w : World) (hoka : auOk a = true) (hokb : auOk b = true) (hi : i < a.nx.length) (hj : j < b.nx.length) (hg : BoolFn g fg cg)
    (ha : AuAt w A c B d a) (hb : AuAt w A' c' B' d' b) :
    Calls Tryz.prog 104 #[a.val A c B d, b.val A' c' B' d', .int .i64 (i : Nat), .int .i64 (j : Nat), .func (.func fg) #[] cg] w fun e w' => ∃ o, e = .returned (pathV o) ∧ DoubP a b g (i * b.nx.length + j) o ∧ Below w.heap.size w w' := by
  obtain ⟨-, hn1, hn12, hn3, -⟩ := (auOk_iff a).1 hoka
  obtain ⟨-, hm1, hm12, hm3, -⟩ := (auOk_iff b).1 hokb
  obtain ⟨M, hM⟩ : ∃ M, Hid (M = a.nx.length * b.nx.length) := ⟨_, hid rfl⟩
  obtain ⟨I, hI⟩ : ∃ I, Hid (I = i * b.nx.length) := ⟨_, hid rfl⟩
  obtain ⟨J, hJ⟩ : ∃ J, Hid (J = i * b.nx.length + j) := ⟨_, hid rfl⟩
  have hM144 : M ≤ 144 := by rw [hM.out]; exact Nat.le_trans (Nat.mul_le_mul hn12 hm12) (by decide)
  have hI144 : I ≤ 144 := by rw [hI.out]; exact Nat.le_trans (Nat.mul_le_mul (Nat.le_trans (Nat.le_of_lt hi) hn12) hm12) (by decide)
  have e5 := wrap_mulN a.nx.length b.nx.length (by rw [← hM.out]; omega)
  rw [← hM.out] at e5
  have e6 := wrap_mulN i b.nx.length (by rw [← hI.out]; omega)
  rw [← hI.out] at e6
  have hJI : I + j = J := by rw [hJ.out, hI.out]
  have e7 := wrap_addN I j (by omega)
  rw [hJI] at e7
  clear hJI
  have hJM : J < M := by
    rw [hJ.out, hM.out]
    calc i * b.nx.length + j < i * b.nx.length + b.nx.length := by omega
      _ = (i + 1) * b.nx.length := by rw [Nat.add_mul, Nat.one_mul]
      _ ≤ a.nx.length * b.nx.length := Nat.mul_le_mul_right _ hi
  have hJM' := hid hJM
  replace e5 := hid e5
  replace e6 := hid e6
  replace e7 := hid e7
  clear hJM hI144
  obtain ⟨w1, hw1, hz1, hB1, hS, hU⟩ := boxed2 w #[Value.int IntKind.i64 a.al, Value.slice A a.nx.length c, Value.slice B a.ac.length d] 41 #[Value.int IntKind.i64 b.al, Value.slice A' b.nx.length c', Value.slice B' b.ac.length d'] 41
  obtain ⟨w0, hw0, hz0, hB0', hV⟩ := boxed w1 #[Value.func (.func fg) #[] cg] 126
  have hB0 := hB1.trans (hB0'.mono hB1.size)
  have hC0 := hB0'.mono hz1
  have ha0 := hid (ha.later hB0)
  have hb0 := hid (hb.later hB0)
  replace ha := hid ha
  replace hb := hid hb
  have hoka' := hid hoka
  have hokb' := hid hokb
  replace hn3 := hid hn3
  replace hm3 := hid hm3
  clear hoka hokb
  unfold AG.Au.val
  go_enter Tryz.func104, Tryz.ntmps104
  go_upto_region 1 with fail
  have hFb : ∀ x, Below (w.heap.size + 2) w1 (Fam w0.heap.size w0 x) := fun x => (hB0'.trans ((Fam.below _ _ x).mono (by omega))).mono hz1
  have y0 := fun x => hS 0 _ rfl _ (hFb x)
  have y1 := fun x => hS 1 _ rfl _ (hFb x)
  have y2 := fun x => hS 2 _ rfl _ (hFb x)
  have u0 := fun x => hU 0 _ rfl _ (hFb x)
  have u1 := fun x => hU 1 _ rfl _ (hFb x)
  have u2 := fun x => hU 2 _ rfl _ (hFb x)
  refine wp_region_grow2 6 w0.heap.size w0 (fun i u w' => if i = 1 then ∃ g, u = .slice (some ⟨g, 0, none⟩) a.nx.length a.nx.length ∧ TabA w' g a.nx.length a else ∃ g, u = .slice (some ⟨g, 0, none⟩) b.nx.length b.nx.length ∧ TabA w' g b.nx.length b) (fun i => i == 4 || i == 5) (by kernel_rfl) (by kernel_rfl) (Nat.le_refl _) (Below.refl _ _) ?_
  simp only [List.take_succ_cons, List.take_zero, List.drop_succ_cons, List.drop_zero]
  (repeat (refine grow_quiet (by rfl) (by rfl) (by rfl) ?_; intro K hK; go_big_quiet_op; go_big_quiet_on))
  refine grow_call (by rfl) (by rfl) (fun u v v' hb h => ?_) (fun wq hbq _ => ?_) fun u hu => ?_
  · obtain ⟨g, e, h⟩ := h
    exact ⟨g, e, h.later hb⟩
  · go_simp
    refine ⟨rfl, (tableOf_any a A B c d wq (by omega) (tabOk_of hoka'.out) (ha0.out.later hbq)).mono ?_⟩
    rintro e w3 ⟨g, rfl, hg, hb3⟩
    exact ⟨_, rfl, hb3, g, rfl, hg⟩
  obtain ⟨wx, -, gS, rfl, -⟩ := hu
  simp only [Act.put, List.setIfInBounds_toArray, List.set_cons_zero, List.set_cons_succ]
  (repeat (refine grow_quiet (by rfl) (by rfl) (by rfl) ?_; intro K hK; go_big_quiet_op; go_big_quiet_on))
  refine grow_call (by rfl) (by rfl) (fun u v v' hb h => ?_) (fun wq hbq _ => ?_) fun u hu => ?_
  · obtain ⟨g, e, h⟩ := h
    exact ⟨g, e, h.later hb⟩
  · go_simp
    refine ⟨rfl, (tableOf_any b A' B' c' d' wq (by omega) (tabOk_of hokb'.out) (hb0.out.later hbq)).mono ?_⟩
    rintro e w3 ⟨g, rfl, hg, hb3⟩
    exact ⟨_, rfl, hb3, g, rfl, hg⟩
  obtain ⟨wx', -, gT, rfl, -⟩ := hu
  simp only [Act.put, List.setIfInBounds_toArray, List.set_cons_zero, List.set_cons_succ]
  refine grow_new (by rfl) (fun b => .pointer (some ⟨b, 0, none⟩)) 103 #[.slice none 0 0] (fun _ => by go_simp) (fun _ => rfl) (Nat.le_refl _) fun bS hbS => ?_
  simp only [Act.put, List.setIfInBounds_toArray, List.set_cons_zero, List.set_cons_succ]
  refine grow_new (by rfl) (fun b => .pointer (some ⟨b, 0, none⟩)) 103 #[.slice none 0 0] (fun _ => by go_simp) (fun _ => rfl) (Nat.le_refl _) fun bT hbT => ?_
  simp only [Act.put, List.setIfInBounds_toArray, List.set_cons_zero, List.set_cons_succ]
  refine grow_nil ?_
  intro w2 hb2 hf hap
  have hne : bS ≠ bT := by
    have := hap 4 5 12 13 _ _ (by decide) (by decide) (by decide) rfl rfl rfl rfl rfl rfl
    simpa [blockOf] using this
  obtain ⟨_, e5, -, hN5⟩ := hf _ List.mem_cons_self
  cases e5
  obtain ⟨_, e4, -, hM4⟩ := hf _ (List.mem_cons_of_mem _ List.mem_cons_self)
  cases e4
  obtain ⟨_, e3, hT3⟩ := hf _ (List.mem_cons_of_mem _ (List.mem_cons_of_mem _ List.mem_cons_self))
  cases e3
  obtain ⟨_, e1, hS3⟩ := hf _ (List.mem_cons_of_mem _ (List.mem_cons_of_mem _ (List.mem_cons_of_mem _ List.mem_cons_self)))
  cases e1
  clear hf hap y0 y1 y2 u0 u1 u2
  have hBS : Blk w2 bS 103 #[.slice none 0 0] := hM4
  have hBT : Blk w2 bT 103 #[.slice none 0 0] := hN5
  clear hM4 hN5
  have hgm : ∀ g b n (x : Au), 1 ≤ n → Blk w2 b 103 #[.slice none 0 0] → TabA w2 g n x → g ≠ b := fun g b n x hn hb hm e => by
    subst e
    have h1 := hm.2 0 0 (by omega) (by omega)
    have h2 := hb.cell 0
    simp at h2
    simp [h2] at h1
  have g1 := hgm gS bS _ _ hn1 hBS hS3
  have g2 := hgm gS bT _ _ hn1 hBT hS3
  have g3 := hgm gT bS _ _ hm1 hBS hT3
  have g4 := hgm gT bT _ _ hm1 hBT hT3
  clear hgm
  obtain ⟨w3, hw3⟩ : ∃ w3, (w2.setCell ⟨bS, 0, none⟩ (.slice (some ⟨gS, 0, none⟩) a.nx.length a.nx.length)).setCell ⟨bT, 0, none⟩ (.slice (some ⟨gT, 0, none⟩) b.nx.length b.nx.length) = w3 := ⟨_, rfl⟩
  have hb3 : Below w0.heap.size w0 w3 := by
    rw [← hw3]
    (repeat (first | exact Below.refl _ _ | assumption | refine Below.drew ?_ | refine Below.alloc ?_ (by first | omega | (simp; done) | (simp; omega)) _ | refine Below.setCell ?_ (by first | omega | (simp; done) | (simp; omega)) _))
  have hS4 : TabA w3 gS a.nx.length a := by
    have := (hS3.far ⟨bS, 0, none⟩ (.slice (some ⟨gS, 0, none⟩) a.nx.length a.nx.length) g1).far ⟨bT, 0, none⟩ (.slice (some ⟨gT, 0, none⟩) b.nx.length b.nx.length) g2
    rw [hw3] at this
    exact this
  have hT4 : TabA w3 gT b.nx.length b := by
    have := (hT3.far ⟨bS, 0, none⟩ (.slice (some ⟨gS, 0, none⟩) a.nx.length a.nx.length) g3).far ⟨bT, 0, none⟩ (.slice (some ⟨gT, 0, none⟩) b.nx.length b.nx.length) g4
    rw [hw3] at this
    exact this
  have hcS : w3.cell? ⟨bS, 0, none⟩ = some (.slice (some ⟨gS, 0, none⟩) a.nx.length a.nx.length) := by
    rw [← hw3, setFar_cell _ _ _ (by simpa using hne)]
    have := (hBS.set_ 0 (.slice (some ⟨gS, 0, none⟩) a.nx.length a.nx.length)).cell 0
    simpa using this
  have hBT' : Blk (w2.setCell ⟨bS, 0, none⟩ (.slice (some ⟨gS, 0, none⟩) a.nx.length a.nx.length)) bT 103 #[.slice none 0 0] := (Below.heap_setCell _ _ _ _ (Ne.symm hne)).trans hBT
  have hcT : w3.cell? ⟨bT, 0, none⟩ = some (.slice (some ⟨gT, 0, none⟩) b.nx.length b.nx.length) := by
    rw [← hw3]
    have := (hBT'.set_ 0 (.slice (some ⟨gT, 0, none⟩) b.nx.length b.nx.length)).cell 0
    simpa using this
  have c1 := hBS.cell 0
  have c2 := hBT'.cell 0
  simp only [List.getElem?_toArray, List.getElem?_cons_zero] at c1 c2
  have z1' := hBS.frozen 0
  have z2' := hBT'.frozen 0
  have k1 := hcT
  rw [← hw3] at k1
  replace hS4 := hid hS4
  replace hT4 := hid hT4
  replace hcS := hid hcS
  replace hcT := hid hcT
  replace hw3 := hid hw3
  replace hBS := hid hBS
  replace hBT := hid hBT
  replace hBT' := hid hBT'
  clear hS3 hT3
  have hz32 : Hid (w3.heap.size = w2.heap.size) := hid (by rw [← hw3.out]; simp)
  go_upto_region 4 with fail
  rw [hw3.out]
  obtain ⟨w4, hw4⟩ : ∃ w4, w3.alloc (Obj.cells #[Value.int IntKind.i64 (b.nx.length : Nat)] 3) = w4 := ⟨_, rfl⟩
  rw [hw4]
  have hb4 : Below w3.heap.size w3 w4 := by
    rw [← hw4]
    (repeat (first | exact Below.refl _ _ | assumption | refine Below.drew ?_ | refine Below.alloc ?_ (by first | omega | (simp; done) | (simp; omega)) _ | refine Below.setCell ?_ (by first | omega | (simp; done) | (simp; omega)) _))
  have hcN : w4.cell? ⟨w2.heap.size, 0, none⟩ = some (.int .i64 (b.nx.length : Nat)) := by
    have := (Blk.new w3 3 #[Value.int IntKind.i64 (b.nx.length : Nat)]).cell 0
    rw [hw4, hz32.out] at this
    simpa using this
  have hS5 := hid (hS4.out.later hb4)
  have hT5 := hid (hT4.out.later hb4)
  have hcS4 := (hb4.cell (World.block_lt_of_cell? _ _ hcS.out)).trans hcS.out
  have hcT4 := (hb4.cell (World.block_lt_of_cell? _ _ hcT.out)).trans hcT.out
  have hb04 : Below w0.heap.size w0 w4 := hb3.trans (hb4.mono hb3.size)
  have hbw4 := hB0.trans (hb04.mono hB0.size)
  have h14 := hB0'.trans (hb04.mono hB0'.size)
  have hFb4 : ∀ x, Below (w.heap.size + 2) w1 (Fam w4.heap.size w4 x) := fun x => (h14.trans ((Fam.below _ _ x).mono (by have := h14.size; omega))).mono hz1
  have y0 := fun x => hS 0 _ rfl _ (hFb4 x)
  have y1 := fun x => (Fam.below w4.heap.size w4 x).cell (World.block_lt_of_cell? _ _ hcS4) |>.trans hcS4
  have y2 := fun x => (Fam.below w4.heap.size w4 x).cell (World.block_lt_of_cell? _ _ hcN) |>.trans hcN
  have y3 := fun x => (Fam.below w4.heap.size w4 x).cell (World.block_lt_of_cell? _ _ hcT4) |>.trans hcT4
  have hcN' := hid hcN
  have hcS4' := hid hcS4
  have hcT4' := hid hcT4
  have hS1 := hid (fun w' (hb : Below w4.heap.size w4 w') => hS 2 _ rfl w' ((h14.trans (hb.mono h14.size)).mono hz1))
  have hU1 := hid (fun w' (hb : Below w4.heap.size w4 w') => hU 2 _ rfl w' ((h14.trans (hb.mono h14.size)).mono hz1))
  have hV1 := hid (fun w' (hb : Below w4.heap.size w4 w') => hV 0 _ rfl w' ((hb04.trans (hb.mono hb04.size)).mono hz0))
  have ha4 := hid (ha0.out.later hb04)
  have hbb4 := hid (hb0.out.later hb04)
  replace hg := hid hg
  replace hFb4 := hid hFb4
  replace hFb := hid hFb
  clear hcN hcS4 hcT4 hw4 c1 c2 z1' z2' k1
  have hfin : Hid (∀ o, PathPost (fun m => m ∈ [J]) (letters a.al) (fun q l => [goB a b q l]) (fun m => goalB a b g m = true) o → DoubP a b g J o) := hid fun o h => h
  refine wp_region_grow 18 w4.heap.size w4 (fun i u w' => if i = 12 then OwnNats w' w4.heap.size u (letters a.al) else ∃ o, u = pathV o ∧ DoubP a b g J o) (by kernel_rfl) (by kernel_rfl) (Nat.le_refl _) (Below.refl _ _) ?_
  simp only [List.take_succ_cons, List.take_zero, List.drop_succ_cons, List.drop_zero]
  (repeat (refine grow_quiet (by rfl) (by rfl) (by rfl) ?_; intro K hK; go_big_quiet_op; go_big_quiet_on))
  rw [e5.out, e6.out, e7.out]
  refine grow_new (by rfl) (fun b => .slice (some ⟨b, 0, none⟩) 1 1) 3 #[.int .i64 (J : Nat)] (fun _ => by go_simp) (fun _ => rfl) (Nat.le_refl _) fun bI hbI => ?_
  simp only [Act.put, List.setIfInBounds_toArray, List.set_cons_zero, List.set_cons_succ]
  (repeat (refine grow_quiet (by rfl) (by rfl) (by rfl) ?_; intro K hK; go_big_quiet_op; go_big_quiet_on))
  refine grow_call (by rfl) (by rfl) (fun u v v' hb h => ?_) (fun wq hbq _ => ?_) fun u hu => ?_
  · exact own_keep h (.of_below (K := fun _ => False) hb) fun _ _ h => h
  · go_simp
    refine ⟨rfl, (lettersOf_any a.al wq).mono ?_⟩
    rintro e w5 ⟨v, rfl, ho, hb5⟩
    exact ⟨v, rfl, hb5, own_base ho hbq.size⟩
  simp only [Act.put, List.setIfInBounds_toArray, List.set_cons_zero, List.set_cons_succ]
  (repeat (refine grow_quiet (by rfl) (by rfl) (by rfl) ?_; intro K hK; go_big_quiet_op; go_big_quiet_on))
  refine grow_call (by rfl) (by rfl) (fun v x x' hb h => h) (fun wq hbq hfx => ?_) fun u2 hu2 => ?_
  · have hlet : OwnNats wq w4.heap.size u (letters a.al) := hfx _ List.mem_cons_self (by kernel_rfl)
    obtain ⟨bI', eI, -, hII⟩ := hfx _ (List.mem_cons_of_mem _ List.mem_cons_self) (by kernel_rfl)
    cases eI
    have hCS := hid ((hbq.cell (World.block_lt_of_cell? _ _ hcS4'.out)).trans hcS4'.out)
    have hCT := hid ((hbq.cell (World.block_lt_of_cell? _ _ hcT4'.out)).trans hcT4'.out)
    have hCN := hid ((hbq.cell (World.block_lt_of_cell? _ _ hcN'.out)).trans hcN'.out)
    have hSq := hid (hS5.out.later hbq)
    have hTq := hid (hT5.out.later hbq)
    have hgoal : GoalOk wq M (goalB a b g) 147 #[.pointer (some ⟨w1.heap.size, 0, none⟩), .pointer (some ⟨w.heap.size, 0, none⟩), .pointer (some ⟨w2.heap.size, 0, none⟩), .pointer (some ⟨w.heap.size + 1, 0, none⟩)] :=
      ⟨fun args w' => by go_simp, fun w' q hb hq => by
        have hbb := hbq.trans (hb.mono hbq.size)
        have x1 := hn3.out
        have x2 := hm3.out
        exact bothGoal_any a b g fg cg hg.out B B' d d' w1.heap.size w.heap.size w2.heap.size (w.heap.size + 1) q w' (by rw [x1, ← hM.out]; exact hq) (by omega) hm1 hm12 (by omega) (ha4.out.later hbb).acc (hbb4.out.later hbb).acc (hV1.out w' hbb) (hS1.out w' hbb)
          ((hbb.cell (World.block_lt_of_cell? _ _ hcN'.out)).trans hcN'.out) (hU1.out w' hbb)⟩
    have hnext := bothNext_ok (w := wq) hoka'.out hokb'.out hSq.out hTq.out hCS.out hCN.out hCT.out
    rw [← hM.out] at hnext
    replace hgoal := hid hgoal
    replace hnext := hid hnext
    go_simp
    refine ⟨rfl, ?_⟩
    have hIo : wq.ownsRow 0 3 1 (.slice (some ⟨bI, 0, none⟩) 1 1) [J].length (natVals [J]) := ⟨rfl, .inr ⟨bI, 1, #[.int .i64 (J : Nat)], rfl, Nat.zero_le _, hII, Nat.le_refl _, by decide, rfl, rfl⟩⟩
    refine (firstPath_any wq M (goalB a b g) 147 _ hgoal.out (letters a.al) (letters_sorted _) (fun l h => (letters_lt h).1) (fun q l => [goB a b q l]) 146 _
      hnext.out [J] (by simp) (fun n hn => by rw [List.mem_singleton] at hn; have := hJM'.out; omega) (by simp) _ u hIo (own_base hlet (Nat.zero_le _)) (by omega)).mono ?_
    rintro e w6 ⟨o, rfl, hp, hb6⟩
    exact ⟨_, rfl, hb6, o, rfl, hfin.out o hp⟩
  obtain ⟨w6', -, o, rfl, hout⟩ := hu2
  obtain ⟨Sv, Fv, hpv⟩ : ∃ Sv Fv, pathV o = .tuple #[.string Sv, .bool Fv] := ⟨_, _, rfl⟩
  rw [hpv]
  have hpv' := hid hpv
  replace hout := hid hout
  clear hpv
  simp only [Act.put, List.setIfInBounds_toArray, List.set_cons_zero, List.set_cons_succ]
  (repeat (refine grow_quiet (by rfl) (by rfl) (by rfl) ?_; intro K hK; go_big_quiet_op; go_big_quiet_on))
  refine grow_nil ?_
  intro w7 hb7 hf
  clear hf y0 y1 y2 y3
  have hB7 := hbw4.trans (hb7.mono hbw4.size)
  go_wp2_with fail
  go_ret2
  exact ⟨o, by rw [hpv'.out]; rfl, by rw [← hJ.out]; exact hout.out, hB7⟩

end Go.Proofs.YtdkjnemakkppfaaGreatDoor

/- The program's DifferOf, SameLanguage, FirstOutside, LanguageWithin. -/
namespace Go.Proofs.YtdkjnemakkppfaaGreatDoor
open Go.RowKit Go.BigFrame AG

theorem cmpAu_parts {a b : Au} (h : cmpAu a b = true) : auOk a = true ∧ auOk b = true ∧ a.al = b.al := by
  unfold cmpAu at h
  simpa using h
/-- No word is found if the test holds of no word. -/
theorem doub_none {a b : Au} (h : cmpAu a b = true) {g : Bool → Bool → Bool} {o : Option (List Nat)} (hp : DoubP a b g 0 o) : o = none ↔ ∀ r : List Nat, (∀ l ∈ r, l ∈ letters a.al) → g (accA a r) (accA b r) = false := by
  obtain ⟨h1, h2, h3⟩ := cmpAu_parts h
  have key : ∀ r : List Nat, goalB a b g (runA a 0 r * b.nx.length + runA b 0 r) = g (accA a r) (accA b r) := fun r => by
    obtain ⟨e1, e2⟩ := pair_div (q := runA a 0 r) (runA_lt h2 r)
    unfold goalB accA
    rw [e1, e2]
  unfold DoubP at hp
  constructor
  · rintro rfl r hr
    have := hp r _ ((RW_both h2 r _).2 ⟨hr, rfl⟩)
    dsimp only at this
    rw [key] at this
    simpa using this
  · intro hn
    cases o with
    | none => rfl
    | some r =>
      obtain ⟨m, hm, hg⟩ := hp.1
      obtain ⟨hr, rfl⟩ := (RW_both h2 r m).1 hm
      rw [key, hn r hr] at hg
      cases hg
def sameP (a b : Au) : Prop := cmpAu a b = true ∧ ∀ r : List Nat, (∀ l ∈ r, l ∈ letters a.al) → accA a r = accA b r
noncomputable def sameLB (a b : Au) : Bool := @decide (sameP a b) (Classical.propDecidable _)
theorem sameLB_iff {a b : Au} : sameLB a b = true ↔ sameP a b := by unfold sameLB; exact @decide_eq_true_iff _ (Classical.propDecidable _)
def FoundP (a b : Au) (g : Bool → Bool → Bool) (o : Option (List Nat)) : Prop := (cmpAu a b = true → DoubP a b g 0 o) ∧ (cmpAu a b = false → o = none)
def FoundPost (a b : Au) (g : Bool → Bool → Bool) (w : World) (e : Ending) (w' : World) : Prop := ∃ o, e = .returned (pathV o) ∧ FoundP a b g o ∧ Below w.heap.size w w'
theorem same_found {a b : Au} {o : Option (List Nat)} (h : FoundP a b (fun x y => x != y) o) : sameLB a b = (cmpAu a b && !o.isSome) := by
  cases hc : cmpAu a b
  · rw [Bool.false_and, ← Bool.not_eq_true, sameLB_iff]
    intro hs
    rw [hs.1] at hc
    cases hc
  · have := doub_none hc (h.1 hc)
    rw [Bool.true_and, Bool.eq_iff_iff, sameLB_iff]
    unfold sameP
    have e : (!o.isSome) = true ↔ o = none := by cases o <;> simp
    rw [e, this]
    constructor
    · rintro ⟨_, h2⟩ r hr
      rw [h2 r hr]
      simp
    · intro h2
      exact ⟨hc, fun r hr => by simpa using h2 r hr⟩

set_option maxRecDepth 100000 in
theorem difFnFn_ok : BoolFn (fun x y => x != y) 106 #[] := by
  refine ⟨fun args w' => by go_simp, fun w' x y => ?_⟩
  cases x <;> cases y <;>
  · go_enter Tryz.func106, Tryz.ntmps106
    go_wp2
    go_ret
    exact ⟨rfl, Below.refl _ _⟩
set_option maxRecDepth 100000 in
set_option maxHeartbeats 4000000 in
theorem implDifferOf_any (a b : Au) (A B A' B' : Option Addr) (c d c' d' : Nat) (w : World) (ha : AuAt w A c B d a) (hb : AuAt w A' c' B' d' b) :
    Calls Tryz.prog 66 #[a.val A c B d, b.val A' c' B' d'] w (FoundPost a b (fun x y => x != y) w) := by
  obtain ⟨w0, hw0, hz0, hB0, hS, hU⟩ := boxed2 w #[Value.int IntKind.i64 a.al, Value.slice A a.nx.length c, Value.slice B a.ac.length d] 41 #[Value.int IntKind.i64 b.al, Value.slice A' b.nx.length c', Value.slice B' b.ac.length d'] 41
  have ha0 := hid (ha.later hB0)
  have hb0 := hid (hb.later hB0)
  have p0 := hS 0 _ rfl _ (Below.refl _ _)
  have p1 := hS 1 _ rfl _ (Below.refl _ _)
  have p2 := hS 2 _ rfl _ (Below.refl _ _)
  have q0 := hU 0 _ rfl _ (Below.refl _ _)
  have q1 := hU 1 _ rfl _ (Below.refl _ _)
  have q2 := hU 2 _ rfl _ (Below.refl _ _)
  replace ha := hid ha
  replace hb := hid hb
  unfold AG.Au.val
  go_enter Tryz.func66, Tryz.ntmps66
  go_wp2_with fail
  refine (cmp2_any a b A B A' B' c d c' d' w0 ha0.out hb0.out).mono ?_
  rintro e w1 ⟨rfl, hb1⟩
  have hB1 := hB0.trans (hb1.mono hB0.size)
  have hC1 := hb1.mono hz0
  clear p0 p1 p2 q0 q1 q2
  cases hc : cmpAu a b
  · have hc' := hid hc
    clear hc
    go_wp2_with fail
    go_ret2
    exact ⟨none, rfl, ⟨fun h => (by rw [hc'.out] at h; cases h), fun _ => rfl⟩, hB1⟩
  obtain ⟨k1, k2, k3⟩ := cmpAu_parts hc
  have hc' := hid hc
  clear hc
  have z1 := ((auOk_iff a).1 k1).2.1
  have z2 := ((auOk_iff b).1 k2).2.1
  replace k1 := hid k1
  replace k2 := hid k2
  replace k3 := hid k3
  have p0 := hS 0 _ rfl _ hC1
  have p1 := hS 1 _ rfl _ hC1
  have p2 := hS 2 _ rfl _ hC1
  have q0 := hU 0 _ rfl _ hC1
  have q1 := hU 1 _ rfl _ hC1
  have q2 := hU 2 _ rfl _ hC1
  go_wp2_with fail
  refine (firstOfBoth_any a b A B A' B' c d c' d' 0 0 (fun x y => x != y) 106 #[] w1 k1.out k2.out (by omega) (by omega) difFnFn_ok (ha0.out.later hb1) (hb0.out.later hb1)).mono ?_
  rintro e w2 ⟨o, rfl, hout, hb2⟩
  rw [Nat.zero_mul, Nat.zero_add] at hout
  obtain ⟨Sv, Fv, hpv⟩ : ∃ Sv Fv, pathV o = .tuple #[.string Sv, .bool Fv] := ⟨_, _, rfl⟩
  rw [hpv]
  have hpv' := hid hpv
  replace hout := hid hout
  have hB2 := hB1.trans (hb2.mono hB1.size)
  clear hpv p0 p1 p2 q0 q1 q2
  go_wp2_with fail
  go_ret2
  exact ⟨o, by rw [hpv'.out]; rfl, ⟨fun _ => hout.out, fun h => (by rw [hc'.out] at h; cases h)⟩, hB2⟩

set_option maxRecDepth 100000 in
theorem outFnFn_ok : BoolFn (fun x y => x && !y) 105 #[] := by
  refine ⟨fun args w' => by go_simp, fun w' x y => ?_⟩
  cases x <;> cases y <;>
  · go_enter Tryz.func105, Tryz.ntmps105
    go_wp2
    go_ret
    exact ⟨rfl, Below.refl _ _⟩
set_option maxRecDepth 100000 in
set_option maxHeartbeats 4000000 in
theorem implFirstOutside_any (a b : Au) (A B A' B' : Option Addr) (c d c' d' : Nat) (w : World) (ha : AuAt w A c B d a) (hb : AuAt w A' c' B' d' b) :
    Calls Tryz.prog 64 #[a.val A c B d, b.val A' c' B' d'] w (FoundPost a b (fun x y => x && !y) w) := by
  obtain ⟨w0, hw0, hz0, hB0, hS, hU⟩ := boxed2 w #[Value.int IntKind.i64 a.al, Value.slice A a.nx.length c, Value.slice B a.ac.length d] 41 #[Value.int IntKind.i64 b.al, Value.slice A' b.nx.length c', Value.slice B' b.ac.length d'] 41
  have ha0 := hid (ha.later hB0)
  have hb0 := hid (hb.later hB0)
  have p0 := hS 0 _ rfl _ (Below.refl _ _)
  have p1 := hS 1 _ rfl _ (Below.refl _ _)
  have p2 := hS 2 _ rfl _ (Below.refl _ _)
  have q0 := hU 0 _ rfl _ (Below.refl _ _)
  have q1 := hU 1 _ rfl _ (Below.refl _ _)
  have q2 := hU 2 _ rfl _ (Below.refl _ _)
  replace ha := hid ha
  replace hb := hid hb
  unfold AG.Au.val
  go_enter Tryz.func64, Tryz.ntmps64
  go_wp2_with fail
  refine (cmp2_any a b A B A' B' c d c' d' w0 ha0.out hb0.out).mono ?_
  rintro e w1 ⟨rfl, hb1⟩
  have hB1 := hB0.trans (hb1.mono hB0.size)
  have hC1 := hb1.mono hz0
  clear p0 p1 p2 q0 q1 q2
  cases hc : cmpAu a b
  · have hc' := hid hc
    clear hc
    go_wp2_with fail
    go_ret2
    exact ⟨none, rfl, ⟨fun h => (by rw [hc'.out] at h; cases h), fun _ => rfl⟩, hB1⟩
  obtain ⟨k1, k2, k3⟩ := cmpAu_parts hc
  have hc' := hid hc
  clear hc
  have z1 := ((auOk_iff a).1 k1).2.1
  have z2 := ((auOk_iff b).1 k2).2.1
  replace k1 := hid k1
  replace k2 := hid k2
  replace k3 := hid k3
  have p0 := hS 0 _ rfl _ hC1
  have p1 := hS 1 _ rfl _ hC1
  have p2 := hS 2 _ rfl _ hC1
  have q0 := hU 0 _ rfl _ hC1
  have q1 := hU 1 _ rfl _ hC1
  have q2 := hU 2 _ rfl _ hC1
  go_wp2_with fail
  refine (firstOfBoth_any a b A B A' B' c d c' d' 0 0 (fun x y => x && !y) 105 #[] w1 k1.out k2.out (by omega) (by omega) outFnFn_ok (ha0.out.later hb1) (hb0.out.later hb1)).mono ?_
  rintro e w2 ⟨o, rfl, hout, hb2⟩
  rw [Nat.zero_mul, Nat.zero_add] at hout
  obtain ⟨Sv, Fv, hpv⟩ : ∃ Sv Fv, pathV o = .tuple #[.string Sv, .bool Fv] := ⟨_, _, rfl⟩
  rw [hpv]
  have hpv' := hid hpv
  replace hout := hid hout
  have hB2 := hB1.trans (hb2.mono hB1.size)
  clear hpv p0 p1 p2 q0 q1 q2
  go_wp2_with fail
  go_ret2
  exact ⟨o, by rw [hpv'.out]; rfl, ⟨fun _ => hout.out, fun h => (by rw [hc'.out] at h; cases h)⟩, hB2⟩

set_option maxRecDepth 100000 in
set_option maxHeartbeats 4000000 in
theorem implSameLanguage_any (a b : Au) (A B A' B' : Option Addr) (c d c' d' : Nat) (w : World) (ha : AuAt w A c B d a) (hb : AuAt w A' c' B' d' b) :
    Calls Tryz.prog 22 #[a.val A c B d, b.val A' c' B' d'] w (fun e w' => e = .returned (.bool (sameLB a b)) ∧ Below w.heap.size w w') := by
  obtain ⟨w0, hw0, hz0, hB0, hS, hU⟩ := boxed2 w #[Value.int IntKind.i64 a.al, Value.slice A a.nx.length c, Value.slice B a.ac.length d] 41 #[Value.int IntKind.i64 b.al, Value.slice A' b.nx.length c', Value.slice B' b.ac.length d'] 41
  have ha0 := hid (ha.later hB0)
  have hb0 := hid (hb.later hB0)
  have p0 := hS 0 _ rfl _ (Below.refl _ _)
  have p1 := hS 1 _ rfl _ (Below.refl _ _)
  have p2 := hS 2 _ rfl _ (Below.refl _ _)
  have q0 := hU 0 _ rfl _ (Below.refl _ _)
  have q1 := hU 1 _ rfl _ (Below.refl _ _)
  have q2 := hU 2 _ rfl _ (Below.refl _ _)
  replace ha := hid ha
  replace hb := hid hb
  unfold AG.Au.val
  go_enter Tryz.func22, Tryz.ntmps22
  go_wp2_with fail
  refine (implDifferOf_any a b A B A' B' c d c' d' w0 ha0.out hb0.out).mono ?_
  rintro e w1 ⟨o, rfl, hf, hb1⟩
  obtain ⟨Sv, Fv, hpv, hFv⟩ : ∃ Sv Fv, pathV o = .tuple #[.string Sv, .bool Fv] ∧ Fv = o.isSome := ⟨_, _, rfl, rfl⟩
  rw [hpv]
  have hB1 := hB0.trans (hb1.mono hB0.size)
  have hC1 := hb1.mono hz0
  replace hf := hid hf
  replace hFv := hid hFv
  clear p0 p1 p2 q0 q1 q2 hpv
  have p0 := hS 0 _ rfl _ hC1
  have p1 := hS 1 _ rfl _ hC1
  have p2 := hS 2 _ rfl _ hC1
  have q0 := hU 0 _ rfl _ hC1
  have q1 := hU 1 _ rfl _ hC1
  have q2 := hU 2 _ rfl _ hC1
  go_wp2_with fail
  refine (cmp2_any a b A B A' B' c d c' d' w1 (ha0.out.later hb1) (hb0.out.later hb1)).mono ?_
  rintro e w2 ⟨rfl, hb2⟩
  have hB2 := hB1.trans (hb2.mono hB1.size)
  clear p0 p1 p2 q0 q1 q2
  obtain ⟨cb, hcb⟩ : ∃ cb, Hid (cb = cmpAu a b) := ⟨_, hid rfl⟩
  rw [← hcb.out]
  cases cb
  · go_wp2_with fail
    go_ret
    exact ⟨ret_bool (by rw [same_found hf.out, ← hcb.out, ← hFv.out]; simp), hB2⟩
  · go_wp2_with fail
    go_ret
    exact ⟨ret_bool (by rw [same_found hf.out, ← hcb.out, ← hFv.out]; simp), hB2⟩

set_option maxRecDepth 100000 in
set_option maxHeartbeats 4000000 in
theorem implLanguageWithin_any (a b : Au) (A B A' B' : Option Addr) (c d c' d' : Nat) (w : World) (ha : AuAt w A c B d a) (hb : AuAt w A' c' B' d' b) :
    Calls Tryz.prog 21 #[a.val A c B d, b.val A' c' B' d'] w (fun e w' => ∃ o, e = .returned (.bool (cmpAu a b && !o.isSome)) ∧ FoundP a b (fun x y => x && !y) o ∧ Below w.heap.size w w') := by
  obtain ⟨w0, hw0, hz0, hB0, hS, hU⟩ := boxed2 w #[Value.int IntKind.i64 a.al, Value.slice A a.nx.length c, Value.slice B a.ac.length d] 41 #[Value.int IntKind.i64 b.al, Value.slice A' b.nx.length c', Value.slice B' b.ac.length d'] 41
  have ha0 := hid (ha.later hB0)
  have hb0 := hid (hb.later hB0)
  have p0 := hS 0 _ rfl _ (Below.refl _ _)
  have p1 := hS 1 _ rfl _ (Below.refl _ _)
  have p2 := hS 2 _ rfl _ (Below.refl _ _)
  have q0 := hU 0 _ rfl _ (Below.refl _ _)
  have q1 := hU 1 _ rfl _ (Below.refl _ _)
  have q2 := hU 2 _ rfl _ (Below.refl _ _)
  replace ha := hid ha
  replace hb := hid hb
  unfold AG.Au.val
  go_enter Tryz.func21, Tryz.ntmps21
  go_wp2_with fail
  refine (implFirstOutside_any a b A B A' B' c d c' d' w0 ha0.out hb0.out).mono ?_
  rintro e w1 ⟨o, rfl, hf, hb1⟩
  obtain ⟨Sv, Fv, hpv, hFv⟩ : ∃ Sv Fv, pathV o = .tuple #[.string Sv, .bool Fv] ∧ Fv = o.isSome := ⟨_, _, rfl, rfl⟩
  rw [hpv]
  have hB1 := hB0.trans (hb1.mono hB0.size)
  have hC1 := hb1.mono hz0
  replace hf := hid hf
  replace hFv := hid hFv
  clear p0 p1 p2 q0 q1 q2 hpv
  have p0 := hS 0 _ rfl _ hC1
  have p1 := hS 1 _ rfl _ hC1
  have p2 := hS 2 _ rfl _ hC1
  have q0 := hU 0 _ rfl _ hC1
  have q1 := hU 1 _ rfl _ hC1
  have q2 := hU 2 _ rfl _ hC1
  go_wp2_with fail
  refine (cmp2_any a b A B A' B' c d c' d' w1 (ha0.out.later hb1) (hb0.out.later hb1)).mono ?_
  rintro e w2 ⟨rfl, hb2⟩
  have hB2 := hB1.trans (hb2.mono hB1.size)
  clear p0 p1 p2 q0 q1 q2
  obtain ⟨cb, hcb⟩ : ∃ cb, Hid (cb = cmpAu a b) := ⟨_, hid rfl⟩
  rw [← hcb.out]
  cases cb
  · go_wp2_with fail
    go_ret
    exact ⟨o, ret_bool (by rw [← hcb.out, ← hFv.out]; simp), hf.out, hB2⟩
  · go_wp2_with fail
    go_ret
    exact ⟨o, ret_bool (by rw [← hcb.out, ← hFv.out]; simp), hf.out, hB2⟩

end Go.Proofs.YtdkjnemakkppfaaGreatDoor

/- Plain: the reference's search for a first word: distances from the goals, then forward. -/
namespace Go.Proofs.YtdkjnemakkppfaaGreatDoor
open AG

section
variable (L : List Nat) (nx : Nat → Nat → List Nat) (fd : Nat → Bool)
/-- Next to a node at a distance. -/
def nearB (f : Nat → Option Nat) (d n : Nat) : Bool := L.any fun l => (nx n l).any fun m => decide (f m = some d)
/-- The distances up to d. -/
def lay : Nat → Nat → Option Nat
  | 0, n => if fd n = true then some 0 else none
  | d + 1, n => match lay d n with
    | some e => some e
    | none => if nearB L nx (lay d) d n = true then some (d + 1) else none
end
section
variable {L : List Nat} {nx : Nat → Nat → List Nat} {fd : Nat → Bool} {N D s : Nat}
theorem near_iff {f : Nat → Option Nat} {d n : Nat} : nearB L nx f d n = true ↔ ∃ l ∈ L, ∃ m ∈ nx n l, f m = some d := by
  unfold nearB
  rw [List.any_eq_true]
  constructor
  · rintro ⟨l, hl, h⟩
    obtain ⟨m, hm, h⟩ := List.any_eq_true.1 h
    exact ⟨l, hl, m, hm, by simpa using h⟩
  · rintro ⟨l, hl, m, hm, h⟩
    exact ⟨l, hl, List.any_eq_true.2 ⟨m, hm, by simpa using h⟩⟩
theorem lay_succ (d n : Nat) : lay L nx fd (d + 1) n = match lay L nx fd d n with
    | some e => some e
    | none => if nearB L nx (lay L nx fd d) d n = true then some (d + 1) else none := rfl
theorem lay_le : ∀ {d n e : Nat}, lay L nx fd d n = some e → e ≤ d
  | 0, n, e, h => by
    unfold lay at h
    split at h
    · injection h with h; omega
    · cases h
  | d + 1, n, e, h => by
    rw [lay_succ] at h
    cases h1 : lay L nx fd d n with
    | some e' =>
      rw [h1] at h
      injection h with h
      have := lay_le h1
      omega
    | none =>
      rw [h1] at h
      dsimp only at h
      split at h
      · injection h with h; omega
      · cases h
theorem lay_up {d n e : Nat} (h : lay L nx fd d n = some e) : lay L nx fd (d + 1) n = some e := by rw [lay_succ, h]
theorem lay_mono {d n e : Nat} (h : lay L nx fd d n = some e) : ∀ k, lay L nx fd (d + k) n = some e
  | 0 => h
  | k + 1 => lay_up (lay_mono h k)
theorem lay_mono' {d d' n e : Nat} (h : lay L nx fd d n = some e) (hd : d ≤ d') : lay L nx fd d' n = some e := by
  have := lay_mono h (d' - d)
  rwa [show d + (d' - d) = d' from by omega] at this
theorem lay_at : ∀ {d n e : Nat}, lay L nx fd d n = some e → lay L nx fd e n = some e
  | 0, n, e, h => by
    have := lay_le h
    obtain rfl : e = 0 := by omega
    exact h
  | d + 1, n, e, h => by
    cases h1 : lay L nx fd d n with
    | some e' =>
      rw [lay_up h1] at h
      injection h with h
      subst h
      exact lay_at h1
    | none =>
      have h0 := h
      rw [lay_succ, h1] at h
      dsimp only at h
      split at h
      · injection h with h
        subst h
        exact h0
      · cases h
theorem lay_zero {d n : Nat} : lay L nx fd d n = some 0 ↔ fd n = true := by
  constructor
  · intro h
    have := lay_at h
    unfold lay at this
    split at this
    · assumption
    · cases this
  · intro h
    have : lay L nx fd 0 n = some 0 := by unfold lay; rw [if_pos h]
    exact lay_mono' this (Nat.zero_le _)
theorem lay_new {d n : Nat} (h : lay L nx fd d n = none) (hn : ∃ l ∈ L, ∃ m ∈ nx n l, lay L nx fd d m = some d) : lay L nx fd (d + 1) n = some (d + 1) := by
  rw [lay_succ, h]
  dsimp only
  rw [if_pos (near_iff.2 hn)]
theorem lay_step {d n e : Nat} (h : lay L nx fd d n = some (e + 1)) : ∃ l ∈ L, ∃ m ∈ nx n l, lay L nx fd d m = some e := by
  have hd := lay_le h
  have h1 := lay_at h
  cases h2 : lay L nx fd e n with
  | some e' =>
    rw [lay_up h2] at h1
    injection h1 with h1
    have := lay_le h2
    omega
  | none =>
    rw [lay_succ, h2] at h1
    dsimp only at h1
    split at h1
    · rename_i hn
      obtain ⟨l, hl, m, hm, h3⟩ := near_iff.1 hn
      exact ⟨l, hl, m, hm, lay_mono' h3 (by omega)⟩
    · cases h1
/-- The distances do not change any more. -/
def Still (L : List Nat) (nx : Nat → Nat → List Nat) (fd : Nat → Bool) (N D : Nat) : Prop := ∀ n, n < N → lay L nx fd (D + 1) n = lay L nx fd D n
theorem lay_back (hs : Still L nx fd N D) {n l m e : Nat} (hn : n < N) (hl : l ∈ L) (hm : m ∈ nx n l) (h : lay L nx fd D m = some e) : ∃ e', e' ≤ e + 1 ∧ lay L nx fd D n = some e' := by
  have he := lay_le h
  cases h2 : lay L nx fd e n with
  | some e' => exact ⟨e', by have := lay_le h2; omega, lay_mono' h2 he⟩
  | none =>
    have h3 := lay_new h2 ⟨l, hl, m, hm, lay_at h⟩
    rcases Nat.lt_or_ge e D with hlt | hge
    · exact ⟨e + 1, Nat.le_refl _, lay_mono' h3 hlt⟩
    · obtain rfl : e = D := by omega
      rw [hs n hn] at h3
      exact ⟨_, Nat.le_refl _, h3⟩
theorem RW_lt (hN : ∀ n, n < N → ∀ l ∈ L, ∀ m ∈ nx n l, m < N) (hs : s < N) : ∀ {q : List Nat} {n : Nat}, RW (fun m => m ∈ [s]) L nx q n → n < N
  | [], n, h => by
    change n ∈ [s] at h
    rw [List.mem_singleton.1 h]
    exact hs
  | l :: q, n, h => by
    obtain ⟨hl, m, hm, hn⟩ := h
    exact hN m (RW_lt hN hs hm) l hl n hn
theorem lay_from (hst : Still L nx fd N D) (hN : ∀ n, n < N → ∀ l ∈ L, ∀ m ∈ nx n l, m < N) (hs : s < N) : ∀ {q : List Nat} {n e : Nat}, RW (fun m => m ∈ [s]) L nx q n → lay L nx fd D n = some e → ∃ e', e' ≤ q.length + e ∧ lay L nx fd D s = some e'
  | [], n, e, h, h1 => by
    change n ∈ [s] at h
    rw [List.mem_singleton.1 h] at h1
    exact ⟨e, by simp, h1⟩
  | l :: q, n, e, h, h1 => by
    obtain ⟨hl, m, hm, hn⟩ := h
    obtain ⟨e1, h2, h3⟩ := lay_back hst (RW_lt hN hs hm) hl hn h1
    obtain ⟨e2, h4, h5⟩ := lay_from hst hN hs hm h3
    exact ⟨e2, by rw [List.length_cons]; omega, h5⟩
/-- The nodes at a distance to which a letter leads from some nodes. -/
def clo (L : List Nat) (nx : Nat → Nat → List Nat) (fd : Nat → Bool) (D : Nat) (at_ : List Nat) (l d : Nat) : List Nat := dd ((at_.flatMap fun n => nx n l).filter fun m => decide (lay L nx fd D m = some d))
theorem clo_mem {at_ : List Nat} {l d m : Nat} : m ∈ clo L nx fd D at_ l d ↔ ∃ n ∈ at_, m ∈ nx n l ∧ lay L nx fd D m = some d := by
  unfold clo
  rw [dd_mem, List.mem_filter, List.mem_flatMap, decide_eq_true_iff]
  constructor
  · rintro ⟨⟨n, h1, h2⟩, h3⟩
    exact ⟨n, h1, h2, h3⟩
  · rintro ⟨n, h1, h2, h3⟩
    exact ⟨⟨n, h1, h2⟩, h3⟩
theorem rlt_of_len : ∀ {r q : List Nat}, r.length < q.length → rlt r q
  | [], [], h => by simp at h
  | [], _ :: _, _ => trivial
  | _ :: _, [], h => by simp at h
  | _ :: r, _ :: q, h => .inl (rlt_of_len (by simpa using h))
/-- The state of the way forward: d letters are still to come. -/
structure Fwd (L : List Nat) (nx : Nat → Nat → List Nat) (fd : Nat → Bool) (D s D0 : Nat) (r at_ : List Nat) (d : Nat) : Prop where
  len : r.length + d = D0
  mem : ∀ n, n ∈ at_ ↔ RW (fun m => m ∈ [s]) L nx r n ∧ lay L nx fd D n = some d
  least : ∀ p n, p.length = r.length → RW (fun m => m ∈ [s]) L nx p n → lay L nx fd D n = some d → rle r p
  ne : ∃ n, n ∈ at_
theorem Fwd.start {D0 : Nat} (h : lay L nx fd D s = some D0) : Fwd L nx fd D s D0 [] [s] D0 := by
  refine ⟨by simp, fun n => ?_, fun p n hp _ _ => ?_, ⟨s, by simp⟩⟩
  · rw [List.mem_singleton]
    constructor
    · rintro rfl
      exact ⟨List.mem_singleton.2 rfl, h⟩
    · rintro ⟨h1, _⟩
      exact List.mem_singleton.1 h1
  · rw [List.eq_nil_of_length_eq_zero hp]
    exact rle_refl _
theorem Fwd.some_ {D0 d : Nat} {r at_ : List Nat} (h : Fwd L nx fd D s D0 r at_ (d + 1)) : ∃ k, ∃ (hk : k < L.length), clo L nx fd D at_ L[k] d ≠ [] := by
  obtain ⟨n, hn⟩ := h.ne
  obtain ⟨_, h2⟩ := (h.mem n).1 hn
  obtain ⟨l, hl, m, hm, h3⟩ := lay_step h2
  obtain ⟨k, hk, e⟩ := List.mem_iff_getElem.1 hl
  refine ⟨k, hk, fun h0 => ?_⟩
  have : m ∈ clo L nx fd D at_ L[k] d := clo_mem.2 ⟨n, hn, by rw [e]; exact hm, h3⟩
  rw [h0] at this
  cases this
theorem Fwd.next (hst : Still L nx fd N D) (hN : ∀ n, n < N → ∀ l ∈ L, ∀ m ∈ nx n l, m < N) (hs : s < N) (hL : L.Pairwise (· < ·)) {D0 d k : Nat} {r at_ : List Nat} (h : Fwd L nx fd D s D0 r at_ (d + 1)) (h0 : lay L nx fd D s = some D0)
    (hk : k < L.length) (hne : clo L nx fd D at_ L[k] d ≠ []) (hmin : ∀ j (hj : j < L.length), j < k → clo L nx fd D at_ L[j] d = []) : Fwd L nx fd D s D0 (L[k] :: r) (clo L nx fd D at_ L[k] d) d := by
  have hlen := h.len
  have key : ∀ {p : List Nat} {m l n : Nat}, p.length = r.length → RW (fun m => m ∈ [s]) L nx p m → l ∈ L → n ∈ nx m l → lay L nx fd D n = some d → lay L nx fd D m = some (d + 1) := by
    intro p m l n hp hm hl hn h1
    obtain ⟨e1, h2, h3⟩ := lay_back hst (RW_lt hN hs hm) hl hn h1
    obtain ⟨e2, h4, h5⟩ := lay_from hst hN hs hm h3
    rw [h0] at h5
    injection h5 with h5
    obtain rfl : e1 = d + 1 := by omega
    exact h3
  refine ⟨by rw [List.length_cons]; omega, fun n => ?_, fun p n hp hn h1 => ?_, ?_⟩
  · rw [clo_mem]
    constructor
    · rintro ⟨m, hm, h1, h2⟩
      exact ⟨⟨List.getElem_mem hk, m, ((h.mem m).1 hm).1, h1⟩, h2⟩
    · rintro ⟨⟨_, m, hm, h1⟩, h2⟩
      exact ⟨m, (h.mem m).2 ⟨hm, key rfl hm (List.getElem_mem hk) h1 h2⟩, h1, h2⟩
  · cases p with
    | nil => simp at hp
    | cons l p =>
      obtain ⟨hl, m, hm, hn⟩ := hn
      have hpl : p.length = r.length := by simpa using hp
      have hm1 := key hpl hm hl hn h1
      rcases h.least p m hpl hm hm1 with hlt | rfl
      · exact .inl (.inl hlt)
      · obtain ⟨j, hj, rfl⟩ := List.mem_iff_getElem.1 hl
        rcases Nat.lt_trichotomy j k with hjk | rfl | hjk
        · have := hmin j hj hjk
          have hmem : n ∈ clo L nx fd D at_ L[j] d := clo_mem.2 ⟨m, (h.mem m).2 ⟨hm, hm1⟩, hn, h1⟩
          rw [this] at hmem
          cases hmem
        · exact rle_refl _
        · exact .inl (.inr ⟨rfl, List.pairwise_iff_getElem.1 hL k j hk hj hjk⟩)
  · cases hc : clo L nx fd D at_ L[k] d with
    | nil => exact absurd hc hne
    | cons x xs => exact ⟨x, List.mem_cons_self⟩
theorem Fwd.done (hst : Still L nx fd N D) (hN : ∀ n, n < N → ∀ l ∈ L, ∀ m ∈ nx n l, m < N) (hs : s < N) {D0 : Nat} {r at_ : List Nat} (h : Fwd L nx fd D s D0 r at_ 0) (h0 : lay L nx fd D s = some D0) : FirstW (fun m => m ∈ [s]) L nx (fun n => fd n = true) r := by
  have hlen := h.len
  obtain ⟨n, hn⟩ := h.ne
  obtain ⟨h1, h2⟩ := (h.mem n).1 hn
  refine ⟨⟨n, h1, lay_zero.1 h2⟩, fun q m hm hf => ?_⟩
  have h3 : lay L nx fd D m = some 0 := lay_zero.2 hf
  obtain ⟨e, h4, h5⟩ := lay_from hst hN hs hm h3
  rw [h0] at h5
  injection h5 with h5
  by_cases he : q.length = r.length
  · exact h.least q m he hm h3
  · exact .inl (rlt_of_len (by omega))
end

end Go.Proofs.YtdkjnemakkppfaaGreatDoor

/- Plain: the nodes of a product as numbers. -/
namespace Go.Proofs.YtdkjnemakkppfaaGreatDoor
open AG

def prodL : List Nat → Nat
  | [] => 1
  | a :: l => a * prodL l
/-- The states of a node. -/
def decS : List Nat → Nat → List Nat
  | [], _ => []
  | a :: l, n => (n / prodL l % a) :: decS l n
theorem decS_len : ∀ (ss : List Nat) (n : Nat), (decS ss n).length = ss.length
  | [], _ => rfl
  | a :: l, n => by
    show (decS l n).length + 1 = l.length + 1
    rw [decS_len l n]
theorem decS_get : ∀ (ss : List Nat) (n i : Nat) (h : i < ss.length), (decS ss n)[i]'(by rw [decS_len]; exact h) = n / prodL (ss.drop (i + 1)) % ss[i]
  | a :: l, n, 0, _ => rfl
  | a :: l, n, i + 1, h => by
    exact decS_get l n i (by simpa using h)
theorem prodL_pos : ∀ {ss : List Nat}, (∀ a ∈ ss, 1 ≤ a) → 1 ≤ prodL ss
  | [], _ => Nat.le_refl _
  | a :: l, h => by
    have h1 := prodL_pos (ss := l) fun x hx => h x (List.mem_cons_of_mem _ hx)
    have h2 := h a List.mem_cons_self
    exact Nat.mul_le_mul h2 h1
theorem prodL_drop {ss : List Nat} {i : Nat} (h : i < ss.length) : prodL (ss.drop i) = ss[i] * prodL (ss.drop (i + 1)) := by
  rw [List.drop_eq_getElem_cons h]
  rfl
theorem decS_step {ss : List Nat} {n i : Nat} (h : i < ss.length) : n / prodL (ss.drop (i + 1)) / ss[i] = n / prodL (ss.drop i) := by
  rw [Nat.div_div_eq_div_mul, prodL_drop h, Nat.mul_comm]
theorem decS_lt {ss : List Nat} (hs : ∀ a ∈ ss, 1 ≤ a) (n i : Nat) (h : i < ss.length) : (decS ss n).getD i 0 < ss[i] := by
  rw [List.getD_eq_getElem?_getD, List.getElem?_eq_getElem (by rw [decS_len]; exact h), Option.getD_some, decS_get ss n i h]
  exact Nat.mod_lt _ (hs _ (List.getElem_mem h))
/-- One member more. -/
def stepN (a : Nat) (c out : List Nat) : List Nat := out.flatMap fun o => c.map fun x => o * a + x
/-- The nodes to which the choices of the first k members lead. -/
def nxK (ss : List Nat) (C : Nat → List Nat) : Nat → List Nat
  | 0 => [0]
  | k + 1 => stepN (ss.getD k 1) (C k) (nxK ss C k)
theorem stepN_mem {a : Nat} {c out : List Nat} {m : Nat} : m ∈ stepN a c out ↔ ∃ o ∈ out, ∃ x ∈ c, m = o * a + x := by
  unfold stepN
  rw [List.mem_flatMap]
  constructor
  · rintro ⟨o, ho, h⟩
    obtain ⟨x, hx, rfl⟩ := List.mem_map.1 h
    exact ⟨o, ho, x, hx, rfl⟩
  · rintro ⟨o, ho, x, hx, rfl⟩
    exact ⟨o, ho, List.mem_map_of_mem hx⟩
theorem stepN_take {a : Nat} {c out : List Nat} {k : Nat} (h : k < out.length) : stepN a c (out.take (k + 1)) = stepN a c (out.take k) ++ c.map fun x => out[k] * a + x := by
  unfold stepN
  rw [List.take_succ_eq_append_getElem h, List.flatMap_append]
  simp
theorem stepN_len (a : Nat) (c : List Nat) : ∀ out : List Nat, (stepN a c out).length = out.length * c.length
  | [] => by simp [stepN]
  | o :: out => by
    have ih := stepN_len a c out
    have e : stepN a c (o :: out) = (c.map fun x => o * a + x) ++ stepN a c out := rfl
    rw [e, List.length_append, List.length_map, ih, List.length_cons, Nat.add_mul]
    omega
/-- The product of the first k sizes. -/
def prodT (ss : List Nat) : Nat → Nat
  | 0 => 1
  | k + 1 => prodT ss k * ss.getD k 1
theorem nxK_lt {ss : List Nat} {C : Nat → List Nat} : ∀ {k : Nat}, k ≤ ss.length → (∀ i, i < ss.length → ∀ x ∈ C i, x < ss.getD i 1) → ∀ m ∈ nxK ss C k, m < prodT ss k
  | 0, _, _, m, h => by
    rw [List.mem_singleton.1 h]
    exact Nat.one_pos
  | k + 1, hk, hC, m, h => by
    obtain ⟨o, ho, x, hx, rfl⟩ := stepN_mem.1 h
    have h1 := nxK_lt (by omega) hC o ho
    have h2 := hC k (by omega) x hx
    show o * ss.getD k 1 + x < prodT ss k * ss.getD k 1
    have h3 : (o + 1) * ss.getD k 1 ≤ prodT ss k * ss.getD k 1 := Nat.mul_le_mul_right _ h1
    rw [Nat.add_mul] at h3
    omega
theorem nxK_len {ss : List Nat} {C : Nat → List Nat} {b : Nat} (hC : ∀ i, (C i).length ≤ b) : ∀ k, (nxK ss C k).length ≤ b ^ k
  | 0 => Nat.le_refl _
  | k + 1 => by
    show (stepN _ _ _).length ≤ _
    rw [stepN_len, Nat.pow_succ]
    exact Nat.mul_le_mul (nxK_len hC k) (hC k)
theorem prodT_succ (a : Nat) (l : List Nat) : ∀ k, prodT (a :: l) (k + 1) = a * prodT l k
  | 0 => by simp [prodT]
  | k + 1 => by
    rw [prodT, prodT_succ a l k, prodT, Nat.mul_assoc]
    rfl
theorem prodT_all : ∀ ss : List Nat, prodT ss ss.length = prodL ss
  | [] => rfl
  | a :: l => by
    show prodT (a :: l) (l.length + 1) = _
    rw [prodT_succ, prodT_all l]
    rfl
theorem prodT_le {ss : List Nat} {b : Nat} (hs : ∀ a ∈ ss, a ≤ b) (hb : 1 ≤ b) : ∀ k, prodT ss k ≤ b ^ k
  | 0 => Nat.le_refl _
  | k + 1 => by
    rw [prodT, Nat.pow_succ]
    refine Nat.mul_le_mul (prodT_le hs hb k) ?_
    rw [List.getD_eq_getElem?_getD]
    cases e : ss[k]? with
    | none => exact hb
    | some x => exact hs x (List.mem_of_getElem? e)
/-- The nodes to which a letter leads from a node. -/
def nxN (ss : List Nat) (ch : Nat → Nat → Nat → List Nat) (n l : Nat) : List Nat := nxK ss (fun i => ch i ((decS ss n).getD i 0) l) ss.length
end Go.Proofs.YtdkjnemakkppfaaGreatDoor

/- Plain: the states together to which a letter leads some systems that run together. -/
namespace AG

/-- The states to which a letter leads one system. -/
noncomputable def stepQ (s : Sy) (node l : Nat) : List Nat := if HasZ s.al (l : Int) = true then memL (mv s (node % s.st.toNat) l) else [node % s.st.toNat]
def joinN (qs re : List Nat) (wt : Nat) : List Nat := qs.flatMap fun q => re.map fun r => q * wt + r
structure PSt where
  re : List Nat
  wt : Nat
  nd : Nat
noncomputable def pstep (s : Sy) (l : Nat) (x : PSt) : PSt := ⟨joinN (stepQ s x.nd l) x.re x.wt, x.wt * s.st.toNat, x.nd / s.st.toNat⟩
/-- The last k systems are gone through. -/
noncomputable def pst (ss : List Sy) (l node : Nat) : Nat → PSt
  | 0 => ⟨[0], 1, node⟩
  | k + 1 => match ss[ss.length - 1 - k]? with
    | some s => pstep s l (pst ss l node k)
    | none => pst ss l node k
noncomputable def nxParts (ss : List Sy) (node l : Nat) : List Nat := (pst ss l node ss.length).re
theorem pst_succ {ss : List Sy} {l node k i : Nat} (hk : k < ss.length) (hi : i + k + 1 = ss.length) : ∃ h : i < ss.length, pst ss l node (k + 1) = pstep ss[i] l (pst ss l node k) := by
  refine ⟨by omega, ?_⟩
  rw [pst, show ss.length - 1 - k = i from by omega, List.getElem?_eq_getElem (by omega)]

theorem stepQ_lt {s : Sy} (hs : sysOk s = true) (node l : Nat) : ∀ q ∈ stepQ s node l, q < s.st.toNat := by
  have hst := sysOk_st hs
  intro q hq
  unfold stepQ at hq
  split at hq
  · obtain ⟨_, hb⟩ := memL_mem.1 hq
    exact testBit_lt (mv_small (sysOk_in hs) _ _) hb
  · rw [List.mem_singleton.1 hq]
    exact Nat.mod_lt _ (by omega)
theorem stepQ_len {s : Sy} (node l : Nat) : (stepQ s node l).length ≤ 16 := by
  unfold stepQ
  split
  · exact memL_len _
  · simp
theorem joinN_len (qs re : List Nat) (wt : Nat) : (joinN qs re wt).length = qs.length * re.length := by
  unfold joinN
  induction qs with
  | nil => simp
  | cons q qs ih => rw [List.flatMap_cons, List.length_append, ih, List.length_map, List.length_cons, Nat.add_mul]; omega
theorem joinN_take {qs re : List Nat} {wt j : Nat} (hj : j < qs.length) : joinN (qs.take (j + 1)) re wt = joinN (qs.take j) re wt ++ re.map fun r => qs[j] * wt + r := by
  unfold joinN
  rw [List.take_succ_eq_append_getElem hj, List.flatMap_append]
  simp
theorem map_take {re : List Nat} {f : Nat → Nat} {k : Nat} (hk : k < re.length) : (re.take (k + 1)).map f = (re.take k).map f ++ [f re[k]] := by
  rw [List.take_succ_eq_append_getElem hk, List.map_append]
  rfl
/-- How great the numbers get. -/
theorem pst_ok {ss : List Sy} (hall : ss.all sysOk = true) (l node : Nat) : ∀ k, k ≤ ss.length → (pst ss l node k).wt ≤ 16 ^ k ∧ (pst ss l node k).nd ≤ node ∧ (pst ss l node k).re.length ≤ 16 ^ k ∧ ∀ r ∈ (pst ss l node k).re, r < (pst ss l node k).wt
  | 0, _ => by simp [pst]
  | k + 1, hk => by
    obtain ⟨h1, h2, h3, h4⟩ := pst_ok hall l node k (by omega)
    obtain ⟨hi, e⟩ := pst_succ (ss := ss) (l := l) (node := node) (k := k) (i := ss.length - 1 - k) (by omega) (by omega)
    have hs : sysOk ss[ss.length - 1 - k] = true := List.all_eq_true.1 hall _ (List.getElem_mem _)
    have hst := sysOk_st hs
    rw [e]
    generalize ss[ss.length - 1 - k] = s at *
    generalize pst ss l node k = x at *
    have hn : s.st.toNat ≤ 16 := by omega
    unfold pstep
    simp only
    refine ⟨?_, Nat.le_trans (Nat.div_le_self _ _) h2, ?_, ?_⟩
    · rw [Nat.pow_succ]; exact Nat.mul_le_mul h1 hn
    · rw [joinN_len, Nat.pow_succ, Nat.mul_comm]
      exact Nat.mul_le_mul h3 (stepQ_len _ _)
    · intro r hr
      unfold joinN at hr
      obtain ⟨q, hq, hr⟩ := List.mem_flatMap.1 hr
      obtain ⟨p, hp, rfl⟩ := List.mem_map.1 hr
      have hq2 := stepQ_lt hs _ _ q hq
      have hp2 := h4 p hp
      have : (q + 1) * x.wt ≤ s.st.toNat * x.wt := Nat.mul_le_mul_right _ hq2
      rw [Nat.add_mul] at this
      rw [Nat.mul_comm x.wt]
      omega

end AG

/- Plain: systems that run together: the nodes of both searches, how long first words are. -/
namespace Go.Proofs.YtdkjnemakkppfaaGreatDoor
open AG

/- Two ways to write the steps that have the same members on the nodes below N. -/
theorem PathPost_unique {I : Nat → Prop} {L : List Nat} {nx : Nat → Nat → List Nat} {G : Nat → Prop} {o o' : Option (List Nat)} (h : PathPost I L nx G o) (h' : PathPost I L nx G o') : o = o' := by
  cases o with
  | none =>
    cases o' with
    | none => rfl
    | some r =>
      obtain ⟨⟨n, hn, hg⟩, -⟩ := h'
      exact absurd hg (h r n hn)
  | some r =>
    cases o' with
    | none =>
      obtain ⟨⟨n, hn, hg⟩, -⟩ := h
      exact absurd hg (h' r n hn)
    | some q => rw [FirstW.unique h h']

/- How long a first word is. -/
/-- The sizes of some systems. -/
def szP (xs : List Sy) : List Nat := xs.map fun s => s.st.toNat
/-- The states to which the reference's edges lead from a state. -/
def chP1 (s : Sy) (q l : Nat) : List Nat := if Has s.al l = true then (s.es.filter fun e => e.f.toNat == q && e.l.toNat == l).map (fun e => e.t.toNat) else [q]
def chP (xs : List Sy) (i q l : Nat) : List Nat := match xs[i]? with | some s => chP1 s q l | none => []
theorem chP_at {xs : List Sy} {i : Nat} (h : i < xs.length) (q l : Nat) : chP xs i q l = chP1 xs[i] q l := by unfold chP; rw [List.getElem?_eq_getElem h]
theorem chP1_mem {s : Sy} (hs : sysOk s = true) {q l : Nat} (hq : q < s.st.toNat) (m : Nat) : m ∈ chP1 s q l ↔ m ∈ stepQ s q l := by
  unfold chP1 stepQ
  have h1 : HasZ s.al (l : Int) = Has s.al l := by unfold HasZ; simp
  rw [h1, Nat.mod_eq_of_lt hq]
  split
  · rw [memL_mem, mv_testBit, List.mem_map]
    constructor
    · rintro ⟨e, he, rfl⟩
      rw [List.mem_filter] at he
      simp only [Bool.and_eq_true, beq_iff_eq] at he
      have := sysOk_in hs e he.1
      exact ⟨by omega, by omega, e, he.1, he.2.1, he.2.2, rfl⟩
    · rintro ⟨-, -, e, he, h2, h3, h4⟩
      refine ⟨e, ?_, h4⟩
      rw [List.mem_filter]
      simp only [Bool.and_eq_true, beq_iff_eq]
      exact ⟨he, h2, h3⟩
  · rfl
theorem chP1_lt {s : Sy} (hs : sysOk s = true) {q l : Nat} (hq : q < s.st.toNat) : ∀ m ∈ chP1 s q l, m < s.st.toNat := fun m hm => stepQ_lt hs q l m ((chP1_mem hs hq m).1 hm)
theorem chP1_len {s : Sy} (hs : sysOk s = true) (q l : Nat) : (chP1 s q l).length ≤ 16 := by
  unfold chP1
  split
  · refine nodup_bound 16 _ ?_ ?_
    · have hp := (edges_pairwise hs).filter fun e => e.f.toNat == q && e.l.toNat == l
      rw [List.nodup_iff_pairwise_ne, List.pairwise_map]
      refine hp.imp_of_mem ?_
      intro a b ha hb hlt
      rw [List.mem_filter] at ha hb
      simp only [Bool.and_eq_true, beq_iff_eq] at ha hb
      have h1 := sysOk_in hs a ha.1
      have h2 := sysOk_in hs b hb.1
      have e1 : a.f = b.f := by omega
      have e2 : a.l = b.l := by omega
      unfold edgeLt at hlt
      rw [if_neg (by simpa using e1), if_neg (by simpa using e2)] at hlt
      have h3 := of_decide_eq_true hlt
      omega
    · intro x hx
      obtain ⟨e, he, rfl⟩ := List.mem_map.1 hx
      have := sysOk_in hs e (List.mem_filter.1 he).1
      omega
  · simp

/- The program's nodes, from the first system on. -/
theorem pst_cons (s : Sy) (ss : List Sy) (l node : Nat) : ∀ k, k ≤ ss.length → pst (s :: ss) l node k = pst ss l node k
  | 0, _ => rfl
  | k + 1, hk => by
    obtain ⟨h1, e1⟩ := pst_succ (ss := s :: ss) (l := l) (node := node) (k := k) (i := ss.length - k) (by simp; omega) (by simp; omega)
    obtain ⟨h2, e2⟩ := pst_succ (ss := ss) (l := l) (node := node) (k := k) (i := ss.length - 1 - k) (by omega) (by omega)
    rw [e1, e2, pst_cons s ss l node k (by omega)]
    congr 1
    rw [List.getElem_cons]
    split
    · omega
    · congr 1; omega
theorem pst_cons_last (s : Sy) (ss : List Sy) (l node : Nat) : pst (s :: ss) l node (ss.length + 1) = pstep s l (pst ss l node ss.length) := by
  obtain ⟨h1, e1⟩ := pst_succ (ss := s :: ss) (l := l) (node := node) (k := ss.length) (i := 0) (by simp) (by simp)
  rw [e1, pst_cons s ss l node _ (Nat.le_refl _)]
  rfl
theorem pst_parts : ∀ (ss : List Sy) (l node : Nat), (pst ss l node ss.length).wt = prodL (szP ss) ∧ (pst ss l node ss.length).nd = node / prodL (szP ss)
  | [], l, node => ⟨rfl, (Nat.div_one node).symm⟩
  | s :: ss, l, node => by
    obtain ⟨h1, h2⟩ := pst_parts ss l node
    show (pst (s :: ss) l node (ss.length + 1)).wt = s.st.toNat * prodL (szP ss) ∧ (pst (s :: ss) l node (ss.length + 1)).nd = node / (s.st.toNat * prodL (szP ss))
    rw [pst_cons_last]
    unfold pstep
    simp only
    rw [h1, h2]
    exact ⟨Nat.mul_comm _ _, by rw [Nat.div_div_eq_div_mul, Nat.mul_comm]⟩
theorem nxParts_cons (s : Sy) (ss : List Sy) (l node m : Nat) : m ∈ nxParts (s :: ss) node l ↔ ∃ q ∈ stepQ s (node / prodL (szP ss)) l, ∃ r ∈ nxParts ss node l, m = q * prodL (szP ss) + r := by
  unfold nxParts
  show m ∈ (pst (s :: ss) l node (ss.length + 1)).re ↔ _
  rw [pst_cons_last]
  obtain ⟨h1, h2⟩ := pst_parts ss l node
  unfold pstep joinN
  simp only
  rw [h1, h2, List.mem_flatMap]
  constructor
  · rintro ⟨q, hq, h⟩
    obtain ⟨r, hr, rfl⟩ := List.mem_map.1 h
    exact ⟨q, hq, r, hr, rfl⟩
  · rintro ⟨q, hq, r, hr, rfl⟩
    exact ⟨q, hq, List.mem_map_of_mem hr⟩

/- The reference's nodes, from the first system on. -/
theorem nxK_cons (a : Nat) (ss : List Nat) (C : Nat → List Nat) : ∀ (k m : Nat), m ∈ nxK (a :: ss) C (k + 1) ↔ ∃ q ∈ C 0, ∃ r ∈ nxK ss (fun i => C (i + 1)) k, m = q * prodT ss k + r
  | 0, m => by
    show m ∈ stepN a (C 0) [0] ↔ _
    rw [stepN_mem]
    constructor
    · rintro ⟨o, ho, x, hx, rfl⟩
      rw [List.mem_singleton.1 ho]
      exact ⟨x, hx, 0, List.mem_singleton.2 rfl, by simp [prodT]⟩
    · rintro ⟨q, hq, r, hr, rfl⟩
      rw [show r = 0 from List.mem_singleton.1 hr]
      exact ⟨0, List.mem_singleton.2 rfl, q, hq, by simp [prodT]⟩
  | k + 1, m => by
    show m ∈ stepN (ss.getD k 1) (C (k + 1)) (nxK (a :: ss) C (k + 1)) ↔ _
    rw [stepN_mem]
    constructor
    · rintro ⟨o, ho, x, hx, rfl⟩
      obtain ⟨q, hq, r, hr, rfl⟩ := (nxK_cons a ss C k o).1 ho
      refine ⟨q, hq, r * ss.getD k 1 + x, stepN_mem.2 ⟨r, hr, x, hx, rfl⟩, ?_⟩
      rw [prodT, Nat.add_mul, Nat.mul_assoc, Nat.add_assoc]
    · rintro ⟨q, hq, r', hr', rfl⟩
      obtain ⟨r, hr, x, hx, rfl⟩ := stepN_mem.1 hr'
      refine ⟨q * prodT ss k + r, (nxK_cons a ss C k _).2 ⟨q, hq, r, hr, rfl⟩, x, hx, ?_⟩
      rw [prodT, Nat.add_mul, Nat.mul_assoc, Nat.add_assoc]
theorem nxN_cons (a : Nat) (ss : List Nat) (ch : Nat → Nat → Nat → List Nat) (n l m : Nat) : m ∈ nxN (a :: ss) ch n l ↔ ∃ q ∈ ch 0 (n / prodL ss % a) l, ∃ r ∈ nxN ss (fun i => ch (i + 1)) n l, m = q * prodL ss + r := by
  unfold nxN
  show m ∈ nxK (a :: ss) _ (ss.length + 1) ↔ _
  rw [nxK_cons, prodT_all]
  rfl
/-- Both have the same nodes next to a node. -/
theorem nx_same : ∀ (xs : List Sy), xs.all sysOk = true → ∀ n l m, m ∈ nxN (szP xs) (chP xs) n l ↔ m ∈ nxParts xs n l
  | [], _, n, l, m => Iff.rfl
  | s :: ss, hall, n, l, m => by
    rw [List.all_cons, Bool.and_eq_true] at hall
    show m ∈ nxN (s.st.toNat :: szP ss) (chP (s :: ss)) n l ↔ _
    rw [nxN_cons, nxParts_cons]
    have hst := sysOk_st hall.1
    have hlt : n / prodL (szP ss) % s.st.toNat < s.st.toNat := Nat.mod_lt _ (by omega)
    have h1 : ∀ q, q ∈ chP (s :: ss) 0 (n / prodL (szP ss) % s.st.toNat) l ↔ q ∈ stepQ s (n / prodL (szP ss)) l := fun q => by
      rw [chP_at (by simp), List.getElem_cons_zero, chP1_mem hall.1 hlt]
      unfold stepQ
      rw [Nat.mod_mod]
    have h2 : ∀ r, r ∈ nxN (szP ss) (fun i => chP (s :: ss) (i + 1)) n l ↔ r ∈ nxParts ss n l := fun r => by
      rw [← nx_same ss hall.2 n l r]
      rfl
    constructor
    · rintro ⟨q, hq, r, hr, rfl⟩
      exact ⟨q, (h1 q).1 hq, r, (h2 r).1 hr, rfl⟩
    · rintro ⟨q, hq, r, hr, rfl⟩
      exact ⟨q, (h1 q).2 hq, r, (h2 r).2 hr, rfl⟩
theorem nxParts_lt {xs : List Sy} (hall : xs.all sysOk = true) (n l : Nat) : ∀ m ∈ nxParts xs n l, m < prodL (szP xs) := by
  obtain ⟨h1, h2, h3, h4⟩ := pst_ok hall l n xs.length (Nat.le_refl _)
  rw [(pst_parts xs l n).1] at h4
  exact h4
theorem szP_ok {xs : List Sy} (hall : xs.all sysOk = true) : ∀ a ∈ szP xs, 1 ≤ a ∧ a ≤ 16 := fun a ha => by
  obtain ⟨s, hs, rfl⟩ := List.mem_map.1 ha
  have := sysOk_st (List.all_eq_true.1 hall s hs)
  omega
theorem prodP_4096 {xs : List Sy} (hall : xs.all sysOk = true) (h3 : xs.length ≤ 3) : 1 ≤ prodL (szP xs) ∧ prodL (szP xs) ≤ 4096 := by
  refine ⟨prodL_pos fun a ha => (szP_ok hall a ha).1, ?_⟩
  have h1 := prodT_le (ss := szP xs) (b := 16) (fun a ha => (szP_ok hall a ha).2) (by decide) (szP xs).length
  rw [prodT_all] at h1
  have h2 : 16 ^ (szP xs).length ≤ 16 ^ 3 := Nat.pow_le_pow_right (by decide) (by unfold szP; rw [List.length_map]; exact h3)
  omega

/-- A node from which no letter leads on. -/
noncomputable def stuckP (ss : List Sy) (L : List Nat) (n : Nat) : Bool := L.all fun l => (nxParts ss n l).isEmpty
/-- What both searches for a deadlock hand back. -/
def DeadP (ss : List Sy) (o : Option (List Nat)) : Prop := PathPost (fun m => m ∈ [0]) (letters (allAl ss)) (nxParts ss) (fun n => stuckP ss (letters (allAl ss)) n = true) o
end Go.Proofs.YtdkjnemakkppfaaGreatDoor

/- Plain: the traces of systems that run together, and where they are stuck. -/
namespace Go.Proofs.YtdkjnemakkppfaaGreatDoor
open AG

def flt (s : Sy) (r : List Nat) : List Nat := r.filter fun l => decide (l ∈ letters s.al)
theorem flt_cons (s : Sy) (l : Nat) (r : List Nat) : flt s (l :: r) = if l ∈ letters s.al then l :: flt s r else flt s r := by
  unfold flt
  rw [List.filter_cons]
  by_cases h : l ∈ letters s.al <;> simp [h]
theorem flt_mem {s : Sy} {r : List Nat} : ∀ l ∈ flt s r, l ∈ letters s.al := fun l hl => by
  unfold flt at hl
  simpa using (List.mem_filter.1 hl).2
theorem allAl_ok {ss : List Sy} (hall : ss.all sysOk = true) : alphaOk (allAl ss) = true := alphaOk_range.2 (allAl_range ss hall)

/-- Words of parts, seen by each part. -/
theorem trParts_wordS {ss : List Sy} {r : List Nat} (hp : partsOk ss = true) (hr : ∀ l ∈ r, l ∈ letters (allAl ss)) (hl : r.length ≤ 50000) : trParts ss (wordS r) = true ↔ ∀ s ∈ ss, setW s (flt s r) ≠ 0 := by
  have hall := partsOk_all hp
  have h6 : ∀ l ∈ r, l < 6 := fun l h => (letters_lt (hr l h)).1
  have hs : ∀ s ∈ ss, hasTr s (restr (wordS r) s.al) = decide (setW s (flt s r) ≠ 0) := fun s hs => by
    rw [restr_wordS h6]
    exact hasTr_wordS (List.all_eq_true.1 hall s hs) flt_mem (Nat.le_trans (List.length_filter_le _ _) hl)
  rw [trParts_list]
  constructor
  · rintro ⟨_, _, h⟩ s hm
    have := h s hm
    rw [hs s hm] at this
    exact of_decide_eq_true this
  · intro h
    refine ⟨hp, wordS_within (allAl_ok hall) hr hl, fun s hm => ?_⟩
    rw [hs s hm]
    exact decide_eq_true (h s hm)

/-- A node to which a word leads parts. -/
def PR : List Sy → List Nat → Nat → Prop
  | [], _, n => n = 0
  | s :: ss, r, n => ∃ q m, (setW s (flt s r)).testBit q = true ∧ PR ss r m ∧ n = q * prodL (szP ss) + m
theorem setW_bit {s : Sy} (hs : sysOk s = true) {r : List Nat} {q : Nat} (h : (setW s r).testBit q = true) : q < s.st.toNat :=
  testBit_lt (setW_small (sysOk_in hs) (sysOk_st hs).1 r) h
theorem PR_lt : ∀ {ss : List Sy}, ss.all sysOk = true → ∀ {r n}, PR ss r n → n < prodL (szP ss)
  | [], _, _, _, h => by rw [show _ = 0 from h]; exact Nat.one_pos
  | s :: ss, hall, r, n, ⟨q, m, hq, hm, e⟩ => by
    rw [List.all_cons, Bool.and_eq_true] at hall
    have h1 := PR_lt hall.2 hm
    have h2 := setW_bit hall.1 hq
    show n < s.st.toNat * prodL (szP ss)
    have h3 : (q + 1) * prodL (szP ss) ≤ s.st.toNat * prodL (szP ss) := Nat.mul_le_mul_right _ h2
    rw [Nat.add_mul] at h3
    omega
theorem nxParts_shift : ∀ (ss : List Sy) (q m l x : Nat), x ∈ nxParts ss (q * prodL (szP ss) + m) l ↔ x ∈ nxParts ss m l
  | [], q, m, l, x => Iff.rfl
  | s :: ss, q, m, l, x => by
    rw [nxParts_cons, nxParts_cons]
    by_cases h0 : prodL (szP ss) = 0
    · have e : q * prodL (szP (s :: ss)) + m = m := by
        show q * (s.st.toNat * prodL (szP ss)) + m = m
        rw [h0]; simp
      rw [e]
    · have e1 : (q * prodL (szP (s :: ss)) + m) / prodL (szP ss) = q * s.st.toNat + m / prodL (szP ss) := by
        show (q * (s.st.toNat * prodL (szP ss)) + m) / prodL (szP ss) = _
        rw [← Nat.mul_assoc, Nat.mul_comm _ (prodL (szP ss)), Nat.mul_add_div (by omega)]
      have e2 : ∀ y, y ∈ nxParts ss (q * prodL (szP (s :: ss)) + m) l ↔ y ∈ nxParts ss m l := fun y => by
        show y ∈ nxParts ss (q * (s.st.toNat * prodL (szP ss)) + m) l ↔ _
        rw [← Nat.mul_assoc]
        exact nxParts_shift ss _ m l y
      have e3 : stepQ s (q * s.st.toNat + m / prodL (szP ss)) l = stepQ s (m / prodL (szP ss)) l := by
        unfold stepQ
        rw [Nat.add_comm, Nat.mul_comm, Nat.add_mul_mod_self_left]
      rw [e1, e3]
      constructor
      · rintro ⟨a, ha, b, hb, e⟩; exact ⟨a, ha, b, (e2 b).1 hb, e⟩
      · rintro ⟨a, ha, b, hb, e⟩; exact ⟨a, ha, b, (e2 b).2 hb, e⟩
/-- One letter more, seen by one part. -/
theorem step_one {s : Sy} (hs : sysOk s = true) {l : Nat} (hl : l < 6) (r : List Nat) (t : Nat) : (setW s (flt s (l :: r))).testBit t = true ↔ ∃ q, (setW s (flt s r)).testBit q = true ∧ t ∈ stepQ s q l := by
  have hz : HasZ s.al (l : Int) = true ↔ l ∈ letters s.al := by
    rw [letters_ok]
    unfold HasZ
    simp [hl]
  rw [flt_cons]
  by_cases h : l ∈ letters s.al
  · rw [if_pos h]
    show (stepSet s (setW s (flt s r)) (l : Int)).testBit t = true ↔ _
    rw [← unionOf_mv s (sysOk_in hs), unionOf_testBit]
    constructor
    · rintro ⟨h1, q, h2, h3⟩
      refine ⟨q, h2, ?_⟩
      unfold stepQ
      rw [if_pos (hz.2 h), Nat.mod_eq_of_lt (setW_bit hs h2), memL_mem]
      exact ⟨h1, h3⟩
    · rintro ⟨q, h2, h3⟩
      unfold stepQ at h3
      rw [if_pos (hz.2 h), Nat.mod_eq_of_lt (setW_bit hs h2), memL_mem] at h3
      exact ⟨h3.1, q, h2, h3.2⟩
  · rw [if_neg h]
    constructor
    · intro h1
      refine ⟨t, h1, ?_⟩
      unfold stepQ
      rw [if_neg (fun k => h (hz.1 k)), Nat.mod_eq_of_lt (setW_bit hs h1), List.mem_singleton]
    · rintro ⟨q, h2, h3⟩
      unfold stepQ at h3
      rw [if_neg (fun k => h (hz.1 k)), Nat.mod_eq_of_lt (setW_bit hs h2), List.mem_singleton] at h3
      rw [h3]
      exact h2
theorem PR_nil : ∀ {ss : List Sy}, ss.all sysOk = true → ∀ n, PR ss [] n ↔ n = 0
  | [], _, n => Iff.rfl
  | s :: ss, hall, n => by
    rw [List.all_cons, Bool.and_eq_true] at hall
    show (∃ q m, (1 : Nat).testBit q = true ∧ PR ss [] m ∧ n = q * prodL (szP ss) + m) ↔ n = 0
    have hb : ∀ q, (1 : Nat).testBit q = true ↔ q = 0 := fun q => by
      have := Nat.testBit_two_pow (n := 0) (m := q)
      rw [show (1 : Nat) = 2 ^ 0 from rfl, this, decide_eq_true_iff]
      omega
    constructor
    · rintro ⟨q, m, h1, h2, e⟩
      rw [(hb q).1 h1, (PR_nil hall.2 m).1 h2] at e
      simpa using e
    · rintro rfl
      exact ⟨0, 0, (hb 0).2 rfl, (PR_nil hall.2 0).2 rfl, by simp⟩
theorem PR_cons : ∀ {ss : List Sy}, ss.all sysOk = true → ∀ {l : Nat}, l < 6 → ∀ (r : List Nat) (n : Nat), PR ss (l :: r) n ↔ ∃ m, PR ss r m ∧ n ∈ nxParts ss m l
  | [], _, l, _, r, n => by
    show n = 0 ↔ ∃ m, m = 0 ∧ n ∈ [0]
    simp
  | s :: ss, hall, l, hl, r, n => by
    rw [List.all_cons, Bool.and_eq_true] at hall
    have hp : 0 < prodL (szP ss) := prodL_pos fun a ha => (szP_ok hall.2 a ha).1
    have hdiv : ∀ q m, m < prodL (szP ss) → (q * prodL (szP ss) + m) / prodL (szP ss) = q := fun q m hm => by
      rw [Nat.mul_comm, Nat.mul_add_div hp, Nat.div_eq_of_lt hm, Nat.add_zero]
    constructor
    · rintro ⟨t, n', h1, h2, rfl⟩
      obtain ⟨q, h3, h4⟩ := (step_one hall.1 hl r t).1 h1
      obtain ⟨m, h5, h6⟩ := (PR_cons hall.2 hl r n').1 h2
      refine ⟨q * prodL (szP ss) + m, ⟨q, m, h3, h5, rfl⟩, ?_⟩
      rw [nxParts_cons, hdiv q m (PR_lt hall.2 h5)]
      exact ⟨t, h4, n', (nxParts_shift ss q m l n').2 h6, rfl⟩
    · rintro ⟨_, ⟨q, m, h3, h5, rfl⟩, hn⟩
      rw [nxParts_cons, hdiv q m (PR_lt hall.2 h5)] at hn
      obtain ⟨t, h4, n', h6, rfl⟩ := hn
      exact ⟨t, n', (step_one hall.1 hl r t).2 ⟨q, h3, h4⟩, (PR_cons hall.2 hl r n').2 ⟨m, h5, (nxParts_shift ss q m l n').1 h6⟩, rfl⟩
theorem RW_PR {ss : List Sy} (hall : ss.all sysOk = true) : ∀ (r : List Nat) (n : Nat), RW (fun m => m ∈ [0]) (letters (allAl ss)) (nxParts ss) r n ↔ (∀ l ∈ r, l ∈ letters (allAl ss)) ∧ PR ss r n
  | [], n => by
    show n ∈ [0] ↔ _
    rw [PR_nil hall, List.mem_singleton]
    exact ⟨fun h => ⟨fun l hl => (by cases hl), h⟩, fun h => h.2⟩
  | l :: r, n => by
    show (l ∈ letters (allAl ss) ∧ ∃ m, RW _ _ _ r m ∧ n ∈ nxParts ss m l) ↔ _
    constructor
    · rintro ⟨h1, m, h2, h3⟩
      obtain ⟨h4, h5⟩ := (RW_PR hall r m).1 h2
      refine ⟨fun x hx => ?_, (PR_cons hall (letters_lt h1).1 r n).2 ⟨m, h5, h3⟩⟩
      rcases List.mem_cons.1 hx with rfl | hx
      · exact h1
      · exact h4 x hx
    · rintro ⟨h1, h2⟩
      have hl := h1 l List.mem_cons_self
      obtain ⟨m, h3, h4⟩ := (PR_cons hall (letters_lt hl).1 r n).1 h2
      exact ⟨hl, m, (RW_PR hall r m).2 ⟨fun x hx => h1 x (List.mem_cons_of_mem _ hx), h3⟩, h4⟩
theorem PR_some : ∀ (ss : List Sy) (r : List Nat), (∃ n, PR ss r n) ↔ ∀ s ∈ ss, setW s (flt s r) ≠ 0
  | [], r => ⟨fun _ s hs => (by cases hs), fun _ => ⟨0, rfl⟩⟩
  | s :: ss, r => by
    constructor
    · rintro ⟨n, q, m, h1, h2, -⟩ x hx
      rcases List.mem_cons.1 hx with rfl | hx
      · intro h
        rw [h] at h1
        simp at h1
      · exact (PR_some ss r).1 ⟨m, h2⟩ x hx
    · intro h
      obtain ⟨m, hm⟩ := (PR_some ss r).2 fun x hx => h x (List.mem_cons_of_mem _ hx)
      obtain ⟨q, hq⟩ := Nat.exists_testBit_of_ne_zero (h s List.mem_cons_self)
      exact ⟨_, q, m, hq, hm, rfl⟩
/-- A word of parts leads to a node. -/
theorem tr_node {ss : List Sy} (hp : partsOk ss = true) {r : List Nat} (hr : ∀ l ∈ r, l ∈ letters (allAl ss)) (hl : r.length ≤ 50000) : trParts ss (wordS r) = true ↔ ∃ n, RW (fun m => m ∈ [0]) (letters (allAl ss)) (nxParts ss) r n := by
  rw [trParts_wordS hp hr hl, ← PR_some]
  constructor
  · rintro ⟨n, h⟩; exact ⟨n, (RW_PR (partsOk_all hp) r n).2 ⟨hr, h⟩⟩
  · rintro ⟨n, h⟩; exact ⟨n, ((RW_PR (partsOk_all hp) r n).1 h).2⟩
end Go.Proofs.YtdkjnemakkppfaaGreatDoor
