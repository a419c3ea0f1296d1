/- Lemmas, part 6: several texts in one. -/
import Derived.Test.YtdkjnemakkppfaaT5
import Derived.Test.YtdkjnemakkppfaaT4
import Derived.Deep.Upon
import Derived.Deep.AppendSrc
import Derived.Test.YtdkjnemakkppfaaT1
import Derived.Test.YtdkjnemakkppfaaT2
import Derived.Test.YtdkjnemakkppfaaT3
import Derived.WalkKit
import Derived.Deep.Quiet
import Derived.Deep.AppendLies
import Derived.Laws.OwnMore
set_option linter.unusedSimpArgs false
set_option linter.unusedVariables false

/- Plain: prefix-closed automata: what the program looks at, what the reference looks at, and prefixes of accepted words. -/
namespace Go.Proofs.Ytdkjnemakkppfaa
open AG

/-- Every word that is accepted has accepted beginnings only. -/
def pcP (a : Au) : Prop := ∀ r : List Nat, (∀ l ∈ r, l ∈ letters a.al) → accA a r = true → safeA a r = true
open Classical in
noncomputable def pcB (a : Au) : Bool := auOk a && decide (pcP a)
open Classical in
noncomputable def pcD (a : Au) : Bool := decide (deadOk (trimA a))
open Classical in
theorem pcD_iff {a : Au} : pcD a = true ↔ deadOk (trimA a) := by unfold pcD; exact ⟨fun h => of_decide_eq_true h, fun h => decide_eq_true h⟩
open Classical in
theorem pcB_iff {a : Au} : pcB a = true ↔ auOk a = true ∧ pcP a := by unfold pcB; rw [Bool.and_eq_true]; exact ⟨fun h => ⟨h.1, of_decide_eq_true h.2⟩, fun h => ⟨h.1, decide_eq_true h.2⟩⟩

theorem runA_app (a : Au) (q : Nat) : ∀ s r : List Nat, runA a q (s ++ r) = runA a (runA a q r) s
  | [], _ => rfl
  | x :: s, r => by
    show goA a (runA a q (s ++ r)) x = goA a (runA a (runA a q r) s) x
    rw [runA_app a q s r]
theorem safe_drop {a : Au} : ∀ {r : List Nat} (k : Nat), safeA a r = true → safeA a (r.drop k) = true
  | r, 0, h => by rw [List.drop_zero]; exact h
  | [], k + 1, h => by rw [List.drop_nil]; exact h
  | l :: r, k + 1, h => by
    rw [List.drop_succ_cons]
    refine safe_drop k ?_
    unfold safeA at h
    exact (Bool.and_eq_true _ _ ▸ h).1
theorem safe_suffix {a : Au} {s r : List Nat} (h : safeA a (s ++ r) = true) : a.ac.getD (runA a 0 r) false = true := by
  have := safe_drop s.length h
  rw [List.drop_left] at this
  exact safe_acc this
theorem runA_in {a : Au} (h : auOk a = true) {q : Nat} (hq : q < a.nx.length) : ∀ r : List Nat, runA a q r < a.nx.length
  | [] => hq
  | _ :: r => goA_lt h (runA_in h hq r)

/-- A state that does not accept stays so. -/
theorem dead_stays {b : Au} (h : auOk b = true) (hd : deadOk b) {q : Nat} (hq : q < b.nx.length) (ha : b.ac.getD q false = false) {s : List Nat} (hs : ∀ l ∈ s, l ∈ letters b.al) : b.ac.getD (runA b q s) false = false := by
  rcases List.eq_nil_or_concat s with rfl | ⟨s', l, rfl⟩
  · exact ha
  · rw [List.concat_eq_append] at hs ⊢
    rw [runA_snoc]
    have hl := hs l (by simp)
    obtain ⟨e1, e2, e3⟩ := row_at h hq
    have hnd : (letters b.al).Nodup := (letters_sorted b.al).imp fun h => by omega
    have hk := List.idxOf_lt_length_iff.2 hl
    have hk' : (letters b.al).idxOf l < (b.nx[q]).length := by rw [e2]; exact hk
    have hg := goA_at h hq hk hk'
    rw [List.getElem_idxOf] at hg
    have := hd q hq ha _ (List.getElem_mem hk')
    rw [← hg, Int.toNat_natCast] at this
    cases hx : b.ac.getD (runA b (goA b q l) s') false
    · rfl
    · exact absurd ⟨s', fun l hl => hs l (by simp [hl]), hx⟩ this
theorem unsafe_dead {b : Au} (h : auOk b = true) (hd : deadOk b) : ∀ r : List Nat, (∀ l ∈ r, l ∈ letters b.al) → safeA b r = false → ∀ s : List Nat, (∀ l ∈ s, l ∈ letters b.al) → b.ac.getD (runA b (runA b 0 r) s) false = false
  | [], _, hs, s, hl => by
    have h1 := ((auOk_iff b).1 h).2.1
    exact dead_stays h hd (by show 0 < _; omega) hs hl
  | l :: r, hr, hs, s, hl => by
    unfold safeA at hs
    cases h1 : safeA b r
    · have ih := unsafe_dead h hd r (fun y hy => hr y (List.mem_cons_of_mem _ hy)) h1 (s ++ [l]) (fun y hy => by
        rcases List.mem_append.1 hy with hy | hy
        · exact hl y hy
        · rw [List.mem_singleton.1 hy]; exact hr l List.mem_cons_self)
      rw [runA_app] at ih
      exact ih
    · rw [h1, Bool.true_and] at hs
      have h1 := ((auOk_iff b).1 h).2.1
      exact dead_stays h hd (runA_in h (by omega) _) hs hl
theorem dead_pc {b : Au} (h : auOk b = true) (hd : deadOk b) : pcP b := by
  intro r hr hacc
  cases hs : safeA b r
  · have := unsafe_dead h hd r hr hs [] (fun _ h => by cases h)
    unfold accA at hacc
    rw [show runA b (runA b 0 r) [] = runA b 0 r from rfl, hacc] at this
    cases this
  · rfl
/-- Each state of a trimmed automaton is reached. -/
theorem trim_reach {a : Au} (h : auOk a = true) {i : Nat} (hi : i < (trimA a).nx.length) : ∃ r : List Nat, (∀ l ∈ r, l ∈ letters a.al) ∧ runA (trimA a) 0 r = i := by
  obtain ⟨x, hx⟩ := trimOpt_some h
  obtain ⟨n1, _, n3, n4, n5, _⟩ := numRes_spec hx
  rw [trimA_len hx] at hi
  have hreach : ∀ q ∈ x.1, ∃ r : List Nat, (∀ l ∈ r, l ∈ letters a.al) ∧ runA a 0 r = q := by
    rw [n1]
    refine nsAt_all (P := fun q => ∃ r : List Nat, (∀ l ∈ r, l ∈ letters a.al) ∧ runA a 0 r = q) ⟨[], ⟨fun _ h => (by cases h), rfl⟩⟩ ?_ _
    rintro q ⟨r, hr, rfl⟩ l hl
    refine ⟨l :: r, fun y hy => ?_, rfl⟩
    rcases List.mem_cons.1 hy with rfl | hy
    · exact hl
    · exact hr y hy
  obtain ⟨r, hr, he⟩ := hreach _ (List.getElem_mem hi)
  refine ⟨r, hr, ?_⟩
  obtain ⟨i1, _⟩ := run_trim h hx n4 r hr
  rw [n5] at i1
  rw [i1, he]
  exact n3.idxOf_getElem i hi
theorem safe_trim {a : Au} (h : auOk a = true) : ∀ r : List Nat, (∀ l ∈ r, l ∈ letters a.al) → safeA (trimA a) r = safeA a r
  | [], hr => acc_trim h hr
  | l :: r, hr => by
    have ih := safe_trim h r fun y hy => hr y (List.mem_cons_of_mem _ hy)
    have := acc_trim h hr
    unfold accA at this
    unfold safeA
    rw [ih, this]
theorem pc_trim {a : Au} (h : auOk a = true) : pcP (trimA a) ↔ pcP a := by
  unfold pcP
  rw [trimA_al h]
  refine forall_congr' fun r => ?_
  constructor
  · intro h1 hr h2
    rw [← safe_trim h r hr]
    exact h1 hr (by rw [acc_trim h hr]; exact h2)
  · intro h1 hr h2
    rw [safe_trim h r hr]
    exact h1 hr (by rw [← acc_trim h hr]; exact h2)
theorem pc_dead {a : Au} (h : auOk a = true) : deadOk (trimA a) ↔ pcP a := by
  rw [← pc_trim h]
  constructor
  · exact dead_pc (trimA_ok h)
  · intro hp i hi hac T hT hl
    obtain ⟨r, hr, he⟩ := trim_reach h hi
    have hok := trimA_ok h
    obtain ⟨e1, e2, e3⟩ := row_at hok hi
    obtain ⟨k, hk, rfl⟩ := List.getElem_of_mem hT
    have hk' : k < (letters (trimA a).al).length := by rw [← e2]; exact hk
    have hg := goA_at hok hi hk' hk
    rw [← hg, Int.toNat_natCast] at hl
    obtain ⟨s, hs, ha⟩ := hl
    rw [trimA_al h] at hs
    have hlm := List.getElem_mem hk'
    have hw : ∀ l ∈ s ++ (letters (trimA a).al)[k] :: r, l ∈ letters (trimA a).al := fun l hl => by
      rcases List.mem_append.1 hl with hl | hl
      · rw [trimA_al h]; exact hs l hl
      · rcases List.mem_cons.1 hl with rfl | hl
        · exact hlm
        · rw [trimA_al h]; exact hr l hl
    have hacc : accA (trimA a) (s ++ (letters (trimA a).al)[k] :: r) = true := by
      unfold accA
      rw [runA_app]
      show (trimA a).ac.getD (runA (trimA a) (goA (trimA a) (runA (trimA a) 0 r) _) s) false = true
      rw [he]
      exact ha
    have hsafe := hp _ hw hacc
    have := safe_suffix (s := s ++ [(letters (trimA a).al)[k]]) (r := r) (by rw [List.append_assoc]; exact hsafe)
    rw [he, hac] at this
    cases this
theorem pcD_eq {a : Au} (h : auOk a = true) : pcD a = pcB a := by
  rw [Bool.eq_iff_iff, pcD_iff, pcB_iff, pc_dead h]
  exact ⟨fun hp => ⟨h, hp⟩, fun hp => hp.2⟩
theorem pc_spec {a : Au} (h : auOk a = true) {o : Option (List Nat)} (hf : FoundP a (safA a) (fun x y => x && !y) o) : (cmpAu a (safA a) && !o.isSome) = pcB a := by
  have hc : cmpAu a (safA a) = true := by
    unfold cmpAu
    rw [h, safA_ok h]
    simp [safA]
  have hd := doub_none hc (hf.1 hc)
  rw [hc, Bool.true_and, Bool.eq_iff_iff, pcB_iff]
  have e : (!o.isSome) = true ↔ o = none := by cases o <;> simp
  rw [e, hd]
  refine Iff.trans ?_ (and_iff_right h).symm
  refine forall_congr' fun r => forall_congr' fun hr => ?_
  rw [acc_saf h hr]
  cases accA a r <;> cases safeA a r <;> simp
theorem pcB_bad {a : Au} (h : auOk a = false) : pcB a = false := by unfold pcB; rw [h]; rfl
theorem wordS_drop (r : List Nat) (i : Nat) (hi : i ≤ r.length) : (wordS r).extract 0 i = wordS (r.drop (r.length - i)) := by
  refine word_ext ?_
  rw [wordS_list, ByteArray.data_extract, Array.toList_extract, wordS_list]
  simp only [List.extract_eq_take_drop, List.drop_zero, Nat.sub_zero]
  rw [← List.map_take, List.take_reverse]
/-- Beginnings of accepted words are accepted. -/
theorem pc_prefix {a : Au} (hp : pcB a = true) {x : ByteArray} (hx : accB a x = true) {i : Nat} (hi : i ≤ x.size) : accB a (x.extract 0 i) = true := by
  obtain ⟨hok, hpc⟩ := pcB_iff.1 hp
  have hw : within x a.al = true := by
    unfold accB at hx
    simp only [Bool.and_eq_true] at hx
    exact hx.1.2
  obtain ⟨r, rfl, hr, hl⟩ := word_ex hw
  rw [accB_word hok hr hl] at hx
  rw [wordS_size] at hi
  have hr' : ∀ l ∈ r.drop (r.length - i), l ∈ letters a.al := fun l hl => hr l (List.mem_of_mem_drop hl)
  rw [wordS_drop r i hi, accB_word hok hr' (by rw [List.length_drop]; omega)]
  exact safe_acc (safe_drop _ (hpc r hr hx))

end Go.Proofs.Ytdkjnemakkppfaa

/- The program's CountAccepted. -/
namespace Go.Proofs.Ytdkjnemakkppfaa
open Go.RowKit Go.BigFrame AG

/-- A list of n numbers in a block: those below q are what f says. -/
structure NumsIn (cs : Array Value) (n : Nat) (f : Nat → Nat) : Prop where
  size : cs.size = n
  at_ : ∀ p, p < n → cs[p]? = some (.int .i64 (f p : Nat))
theorem NumsIn.set_ {cs : Array Value} {n : Nat} {f f' : Nat → Nat} {p : Nat} {v : Int} (h : NumsIn cs n f) (hp : p < n) (hv : v = ((f' p : Nat) : Int)) (ho : ∀ q, q ≠ p → f' q = f q) : NumsIn (cs.setIfInBounds p (.int .i64 v)) n f' := by
  refine ⟨by simpa using h.size, fun q hq => ?_⟩
  by_cases e : q = p
  · subst e
    rw [Array.getElem?_setIfInBounds_self_of_lt (by rw [h.size]; exact hq), hv]
  · rw [Array.getElem?_setIfInBounds_ne (Ne.symm e), h.at_ q hq, ho q e]

theorem NumsIn.congr {cs : Array Value} {n : Nat} {f f' : Nat → Nat} (h : NumsIn cs n f) (e : ∀ p, f p = f' p) : NumsIn cs n f' := by
  have : f = f' := funext e
  rw [← this]
  exact h
end Go.Proofs.Ytdkjnemakkppfaa

/- A slice is copied: append(empty, s...). -/
namespace AG
open Go Go.RowKit

theorem run_append_copy {P : Program} (w : World) (base : Nat) (t ty e : TypeId) (i : TypeInfo) (z : Value) (size bytes : Nat) (ht : P.underlying t = some (.slice e)) (hi : P.info? e = some i) (hz : i.zero = some z)
    (hsize : i.size = size) (hby : i.bytes = bytes) (hzs : z.cells.size = size) (g : Nat) (hg : w.heap[g]? = some (.cells #[] e (0, 0))) (hbg : base ≤ g) (hbase : base ≤ w.heap.size)
    (A : Option Addr) (m c : Nat) (news : List Value) (hl : news.length = m * size) (hA : 0 < m → ∃ a, A = some a ∧ ∀ j u, news[j]? = some u → w.cell? (a.add j) = some u) (h1 : ∀ u ∈ news, u.oneCell' = true)
    (h63 : m ≤ maxLen) (hbytes : m * bytes ≤ 140737488355328) :
    ∃ v' w', (Builtin.append_ #[t, t] ty #[.slice (some ⟨g, 0, none⟩) 0 0, .slice A m c]).run P w = .ok v' w' ∧ w'.ownsRow base e size v' m news ∧ Below w.heap.size w w' := by
  subst hsize
  subst hby
  by_cases hm : m = 0
  · subst hm
    have hn : news = [] := List.eq_nil_of_length_eq_zero (by simpa using hl)
    subst hn
    have hs : Src P i.size t (.slice A 0 c) 0 [] w := by
      cases A with
      | none => exact Src.ofNil w ht c
      | some a => exact Src.ofSlice w ht a 0 c [] (by simp) (fun j u hj => by simp at hj) (fun u hu => by cases hu)
    exact ⟨_, w, run_append_nothing w t t ty e i ht hi (some ⟨g, 0, none⟩) 0 0 (Nat.le_refl _) _ hs, ⟨by simp, .inr ⟨g, 0, #[], rfl, hbg, hg, Nat.le_refl _, Nat.zero_le _, by simp, by simp⟩⟩, Below.refl _ _⟩
  · obtain ⟨a, rfl, hnews⟩ := hA (by omega)
    have hsmall : m ≤ 9223372036854775807 := by simp only [maxLen] at h63; omega
    have hr := run_append_grow (P := P) w t ty e i z ht hi hz ⟨g, 0, none⟩ 0 0 [] (by simp) (fun j u hj => by simp at hj) a m c news hl hnews (by omega) (by omega) (growslice_fits (by omega) (by simpa using hbytes))
    simp only [Nat.zero_add] at hr
    refine ⟨_, _, hr, ⟨hl, .inr ⟨w.heap.size, _, _, rfl, hbase, heap_alloc_new w.drew _, grownCap_ge w m 0 e, grownCap_le_maxLen w m 0 e h63, ?_, ?_⟩⟩, ?_⟩
    · have := grownCap_ge w m 0 e
      simp only [Array.size_append, List.size_toArray, size_zeroCells, hzs, List.length_nil, Nat.zero_add, hl, ← Nat.add_mul]
      congr 1
      omega
    · have e1 : ([].toArray ++ news.toArray ++ Builtin.zeroCells z.cells (grownCap w m 0 e - m)).toList = news ++ (Builtin.zeroCells z.cells (grownCap w m 0 e - m)).toList := by simp
      rw [e1, ← hl]
      exact List.take_left
    · exact (Below.refl w.heap.size w).drew.alloc (Nat.le_refl _) _

namespace GK
section
variable {P : Program} {ops : Array Oper} {M : Nat} {S : World → World → Prop} {I : Nat → World → Prop} {sp : Nat → Value → World → Prop} {w0 w1 : World}
variable {Q : List (Nat × (World → Prop)) → Act → Prop} {o : Oper} {rest : List Oper} {i : Nat} {Γ : List (Nat × (World → Prop))} {a : Act}
theorem grow_fact (Z : Value → World → Prop) (hw : Region.wanted o (yielded ops a.tmps) = true) (hs : ∀ u, Steady S (Z u))
    (hc : ∀ m w, m < M → I m w → FactsAt .any ops i Γ w → fnUpon (fun u w' => (S w w' ∧ I (m + 1) w') ∧ Z u w') ((execOp a.eval o).run P w))
    (h : ∀ u, (∃ m w', I m w' ∧ Z u w') → wpGrow P ops S I M w0 sp Q rest (i + 1) ((i, Z u) :: Γ) (a.put o.dst u)) : wpGrow P ops S I M w0 sp Q (o :: rest) i Γ a := by
  unfold wpGrow Res
  rw [if_pos hw]
  exact .inr (.inl ⟨Z, hs, hc, (fun h => by cases h), fun u _ hu => h u (hu rfl)⟩)

theorem own_steady {base : Nat} {e : TypeId} {size m : Nat} {news : List Value} (u : Value) : Steady (KeepB fun _ => False) (fun w => w.ownsRow base e size u m news) := fun _ _ h k => own_keep k h fun _ _ h => h

/-- append(empty, s...): a copy is made. -/
theorem grow_copy (hw : Region.wanted o (yielded ops a.tmps) = true) (s x : Operand) (t : TypeId) (ho : o.op = .call { callee := .builtin .append, args := #[s, x], argTypes := #[t, t] })
    (e : TypeId) (ti : TypeInfo) (z : Value) (size bytes : Nat) (ht : P.underlying t = some (.slice e)) (hi : P.info? e = some ti) (hz : ti.zero = some z)
    (hsize : ti.size = size) (hby : ti.bytes = bytes) (hzs : z.cells.size = size) (g : Nat) (hs : a.eval s = .slice (some ⟨g, 0, none⟩) 0 0) (hgf : ∀ w, FactsAt .any ops i Γ w → w1.heap.size ≤ g ∧ w.heap[g]? = some (.cells #[] e (0, 0)))
    (A : Option Addr) (m c : Nat) (news : List Value) (hx : a.eval x = .slice A m c) (hl : news.length = m * size) (hA : 0 < m → ∃ a, A = some a ∧ ∀ j u, news[j]? = some u → w1.cell? (a.add j) = some u) (h1 : ∀ u ∈ news, u.oneCell' = true)
    (h63 : m ≤ maxLen) (hbytes : m * bytes ≤ 140737488355328)
    (h : ∀ u, (∃ w', Below w1.heap.size w1 w' ∧ w'.ownsRow w1.heap.size e size u m news) → wpGrow P ops (KeepB fun _ => False) (BI w1) M w0 sp Q rest (i + 1) ((i, fun w' => w'.ownsRow w1.heap.size e size u m news) :: Γ) (a.put o.dst u)) :
    wpGrow P ops (KeepB fun _ => False) (BI w1) M w0 sp Q (o :: rest) i Γ a := by
  refine grow_fact (fun u w' => w'.ownsRow w1.heap.size e size u m news) hw own_steady (fun k w hk hb hf => ?_) fun u ⟨_, w', h1, h2⟩ => h u ⟨w', h1, h2⟩
  obtain ⟨g1, g2⟩ := hgf w hf
  obtain ⟨v', w', hr, h2, h3⟩ := run_append_copy (P := P) w w1.heap.size t o.type e ti z size bytes ht hi hz hsize hby hzs g g2 g1 hb.size A m c news hl (fun hm => by
    obtain ⟨a, ha, hc⟩ := hA hm
    refine ⟨a, ha, fun j u hj => ?_⟩
    have h4 := hc j u hj
    rw [Below.cell hb (World.block_lt_of_cell? _ _ h4)]
    exact h4) h1 h63 hbytes
  unfold execOp
  simp only [ho, resolve, invoke, builtin, Sem.run_bind, Sem.run_pure, Result.andThen_ok, List.map_toArray, List.map_cons, List.map_nil, hs, hx, hr]
  exact ⟨hb.after h3, h2⟩
end
end GK
end AG

/- The drawing kit's reader: what it is in memory; pick. -/
namespace Go.Proofs.Ytdkjnemakkppfaa
open Go.RowKit Go.BigFrame AG

/-- The reader at block R: its bytes are the slice '.slice A n c', its position p. -/
structure RdAt (w : World) (R : Nat) (A : Option Addr) (n c p : Nat) : Prop where
  blk : Blk w R 47 #[.slice A n c, .int .i64 (p : Int)]
  len : n ≤ 2000
  cap : n ≤ c
  top : c ≤ 9223372036854775807
  pos : p ≤ 1125899906842624
  bytes : 0 < n → ∃ b o, A = some ⟨b, o, none⟩ ∧ b < R ∧ ∀ i, i < n → ∃ x : Nat, x < 256 ∧ w.cell? ⟨b, o + i, none⟩ = some (.int .u8 (x : Int))

theorem xor_nonneg {a b : Int} (ha : 0 ≤ a ∧ a < 9223372036854775808) (hb : 0 ≤ b ∧ b < 9223372036854775808) : 0 ≤ bits .xor .i64 a b ∧ bits .xor .i64 a b < 9223372036854775808 := by
  obtain ⟨a, rfl⟩ := Int.eq_ofNat_of_zero_le ha.1
  obtain ⟨b, rfl⟩ := Int.eq_ofNat_of_zero_le hb.1
  have hx : a ^^^ b < 2 ^ 63 := Nat.xor_lt_two_pow (by omega) (by omega)
  have : bits .xor .i64 (a : Int) (b : Int) = ((a ^^^ b : Nat) : Int) := by
    show IntKind.i64.wrap ((BitVec.ofInt 64 (a : Int) ^^^ BitVec.ofInt 64 (b : Int)).toNat : Int) = _
    rw [BitVec.toNat_xor, ofInt_i64 a (by omega), ofInt_i64 b (by omega), IntKind.wrap_i64]
    omega
  rw [this]
  omega

theorem RdAt.later {w w' : World} {R : Nat} {A : Option Addr} {n c p : Nat} (h : RdAt w R A n c p) (hb : Below w.heap.size w w') : RdAt w' R A n c p :=
  ⟨h.blk.below hb h.blk.lt, h.len, h.cap, h.top, h.pos, fun hn => by
    obtain ⟨b, o, hA, hlt, hx⟩ := h.bytes hn
    have hR := h.blk.lt
    refine ⟨b, o, hA, hlt, fun i hi => ?_⟩
    obtain ⟨x, h1, h2⟩ := hx i hi
    exact ⟨x, h1, by rw [hb.cell (by simp; omega)]; exact h2⟩⟩

theorem RdAt.step {w : World} {R : Nat} {A : Option Addr} {n c p : Nat} {v : Value} (h : RdAt w R A n c p) (hp : p < 1125899906842624) (hv : v = .int .i64 ((p : Int) + 1)) :
    RdAt (w.setCell ⟨R, 1, none⟩ v) R A n c (p + 1) ∧ KeepB (fun b => b = R) w (w.setCell ⟨R, 1, none⟩ v) := by
  subst hv
  refine ⟨⟨?_, h.len, h.cap, h.top, by omega, fun hn => ?_⟩, (KeepB.refl _ w).setCell _ _ (fun _ => rfl)⟩
  · have := h.blk.set_ 1 (.int .i64 ((p : Int) + 1))
    simpa using this
  · obtain ⟨b, o, hA, hlt, hx⟩ := h.bytes hn
    refine ⟨b, o, hA, hlt, fun i hi => ?_⟩
    obtain ⟨x, h1, h2⟩ := hx i hi
    refine ⟨x, h1, ?_⟩
    rw [World.cell?_setCell_other (h := addr_ne (by omega))]
    exact h2

set_option maxRecDepth 100000 in
set_option maxHeartbeats 2000000 in
theorem pick_any (R : Nat) (A : Option Addr) (n c p : Nat) (m : Int) (w : World) (hp : p < 1125899906842624) (hm : m ≤ 9223372036854775807) (hr : RdAt w R A n c p) :
    Calls Try.prog 12 #[.pointer (some ⟨R, 0, none⟩), .int .i64 m] w fun e w' => ∃ k : Int, e = .returned (.int .i64 k) ∧ 0 ≤ k ∧ (k < m ∨ k = 0) ∧ RdAt w' R A n c (p + 1) ∧ KeepB (fun b => b = R) w w' := by
  have hblk := hr.blk
  have hR := hblk.lt
  have e0 : w.cell? ⟨R, 0, none⟩ = some (.slice A n c) := by rw [hblk.cell]; rfl
  have e1 : w.cell? ⟨R, 1, none⟩ = some (.int .i64 (p : Int)) := by rw [hblk.cell]; rfl
  have hfr : w.frozen? ⟨R, 1, none⟩ = false := hblk.frozen 1
  have hlen := hr.len
  have hcap := hr.cap
  have htop := hr.top
  replace hr := hid hr
  replace hblk := hid hblk
  have hst := hid (hr.out.step (v := .int .i64 ((p : Int) + 1)) hp rfl)
  by_cases hm1 : m < 1
  · go_enter Try.func12, Try.ntmps12
    go_wp2
    go_ret
    exact ⟨0, rfl, by omega, .inr rfl, hst.out.1, hst.out.2⟩
  · have hm0 : (m == 0) = false := by simp; omega
    by_cases hn : n = 0
    · subst hn
      go_enter Try.func12, Try.ntmps12
      go_wp2
      go_ret
      exact ⟨0, rfl, by omega, .inr rfl, hst.out.1, hst.out.2⟩
    · obtain ⟨b, o, rfl, hltR, hx⟩ := hr.out.bytes (by omega)
      have hne : b ≠ R := by omega
      have hlt : b < w.heap.size := by omega
      have hn0 : ((n : Int) == 0) = false := by simp; omega
      by_cases hpn : p < n
      · obtain ⟨x, hx1, hx2⟩ := hx p hpn
        have hmod : 0 ≤ (x : Int) % m ∧ (x : Int) % m < m := ⟨Int.emod_nonneg _ (by omega), Int.emod_lt_of_pos _ (by omega)⟩
        replace hx := hid hx
        replace hmod := hid hmod
        have hneA : (⟨R, 1, none⟩ : Addr) ≠ ⟨b, o + p, none⟩ := addr_ne hne
        go_enter Try.func12, Try.ntmps12
        go_wp2
        go_ret
        exact ⟨_, rfl, hmod.out.1, .inl hmod.out.2, hst.out.1, hst.out.2⟩
      · have hw1 := hst.out.1
        obtain ⟨i1, hi1⟩ : ∃ i1, i1 = p % n := ⟨_, rfl⟩
        obtain ⟨i2, hi2⟩ : ∃ i2, i2 = (p * 7 + 3) % n := ⟨_, rfl⟩
        obtain ⟨q, hq⟩ : ∃ q, q = p / n := ⟨_, rfl⟩
        have hi1n : i1 < n := by rw [hi1]; exact Nat.mod_lt _ (by omega)
        have hi2n : i2 < n := by rw [hi2]; exact Nat.mod_lt _ (by omega)
        have hqp : q ≤ p := by rw [hq]; exact Nat.div_le_self _ _
        have k1 : (p : Int) % (n : Int) = (i1 : Int) := by rw [hi1]; omega
        have k2 : ((p : Int) * 7 + 3) % (n : Int) = (i2 : Int) := by rw [hi2]; simp
        have k3 : (p : Int) / (n : Int) = (q : Int) := by rw [hq]; omega
        obtain ⟨b', o', hA', -, hx'⟩ := hw1.bytes (by omega)
        injection hA' with hA'
        injection hA' with hA1 hA2
        subst hA1 hA2
        obtain ⟨x1, hx1, hy1⟩ := hx' i1 hi1n
        obtain ⟨x2, hx2, hy2⟩ := hx' i2 hi2n
        have hblk1 := hw1.blk
        replace hx := hid hx
        replace hx' := hid hx'
        replace hi1 := hid hi1
        replace hi2 := hid hi2
        replace hq := hid hq
        obtain ⟨w1, hw1e⟩ : ∃ w1, w1 = w.setCell ⟨R, 1, none⟩ (.int .i64 ((p : Int) + 1)) := ⟨_, rfl⟩
        rw [← hw1e] at hy1 hy2 hblk1
        have g0 : ∀ y, (Fam w1.heap.size w1 y).cell? ⟨R, 0, none⟩ = some (.slice (some ⟨b, o, none⟩) n c) := fun y => by rw [(Fam.below _ _ y).cell (by simpa using hblk1.lt), hblk1.cell]; rfl
        have hb1 : b < w1.heap.size := by rw [hw1e]; simpa using hlt
        have g1 : ∀ y, (Fam w1.heap.size w1 y).cell? ⟨b, o + i1, none⟩ = some (.int .u8 (x1 : Int)) := fun y => by rw [(Fam.below _ _ y).cell (by simpa using hb1)]; exact hy1
        have g2 : ∀ y, (Fam w1.heap.size w1 y).cell? ⟨b, o + i2, none⟩ = some (.int .u8 (x2 : Int)) := fun y => by rw [(Fam.below _ _ y).cell (by simpa using hb1)]; exact hy2
        replace hw1e := hid hw1e
        replace hw1 := hid hw1
        replace hblk1 := hid hblk1
        clear hy1 hy2
        have hxor := hid (xor_nonneg (a := (x1 : Int) * 131 + x2 * 1117 + p * 29 + q * 53) (b := ((x1 : Int) * 131 + x2 * 1117 + p * 29 + q * 53) / 64) (by omega) (by omega))
        go_enter Try.func12, Try.ntmps12
        go_wp2_with fail
        rw [← hw1e.out]
        refine wp_region_fam w1.heap.size w1 (by kernel_rfl) (by kernel_rfl) (Below.refl _ _) ?_
        (repeat (go_big_quiet_step (fail)))
        refine wpQuiet_nil ?_
        intro w2 hw2
        replace hw2 := Fam.out hw2
        go_wp2
        go_ret
        have hw1' : RdAt w1 R (some ⟨b, o, none⟩) n c (p + 1) := by rw [hw1e.out]; exact hw1.out
        have hk1 : KeepB (fun b => b = R) w w1 := by rw [hw1e.out]; exact hst.out.2
        exact ⟨_, rfl, Int.tmod_nonneg _ hxor.out.1, .inl (Int.tmod_lt_of_pos _ (by omega)), hw1'.later hw2, hk1.trans (KeepB.of_below hw2)⟩

/-- The reader at block R, its position at most P. -/
def RdUp (w : World) (R P : Nat) : Prop := ∃ A n c p, p ≤ P ∧ RdAt w R A n c p
theorem RdUp.more {w : World} {R P P' : Nat} (h : RdUp w R P) (hP : P ≤ P') : RdUp w R P' := by
  obtain ⟨A, n, c, p, h1, h2⟩ := h
  exact ⟨A, n, c, p, by omega, h2⟩
theorem RdUp.later {w w' : World} {R P : Nat} (h : RdUp w R P) (hb : Below w.heap.size w w') : RdUp w' R P := by
  obtain ⟨A, n, c, p, h1, h2⟩ := h
  exact ⟨A, n, c, p, h1, h2.later hb⟩
theorem RdUp.lt {w : World} {R P : Nat} (h : RdUp w R P) : R < w.heap.size := by
  obtain ⟨A, n, c, p, h1, h2⟩ := h
  exact h2.blk.lt
/-- Later blocks may be written. -/
theorem RdUp.keep {K : Nat → Prop} {w w' : World} {R P : Nat} (h : RdUp w R P) (hb : KeepB K w w') (hK : ∀ k, K k → R < k) : RdUp w' R P := by
  obtain ⟨A, n, c, p, h1, h2⟩ := h
  have hR := h2.blk.lt
  refine ⟨A, n, c, p, h1, h2.blk.keep hb (fun hk => by have := hK _ hk; omega), h2.len, h2.cap, h2.top, h2.pos, fun hn => ?_⟩
  obtain ⟨b, o, hA, hlt, hx⟩ := h2.bytes hn
  refine ⟨b, o, hA, hlt, fun i hi => ?_⟩
  obtain ⟨x, g1, g2⟩ := hx i hi
  refine ⟨x, g1, ?_⟩
  have : w'.cell? ⟨b, o + i, none⟩ = w.cell? ⟨b, o + i, none⟩ := by
    unfold World.cell?
    rw [hb.block b (by omega) (fun hk => by have := hK _ hk; omega)]
  rw [this]
  exact g2

def PickPost (R P : Nat) (m : Int) (w : World) (e : Ending) (w' : World) : Prop := ∃ k : Int, e = .returned (.int .i64 k) ∧ 0 ≤ k ∧ (k < m ∨ k = 0) ∧ RdUp w' R (P + 1) ∧ KeepB (fun b => b = R) w w'
theorem pick_up (R P : Nat) (m : Int) (w : World) (hP : P < 1125899906842624) (hm : m ≤ 9223372036854775807) (h : RdUp w R P) :
    Calls Try.prog 12 #[.pointer (some ⟨R, 0, none⟩), .int .i64 m] w (PickPost R P m w) := by
  obtain ⟨A, n, c, p, h1, h2⟩ := h
  exact (pick_any R A n c p m w (by omega) hm h2).mono fun e w' ⟨k, a1, a2, a3, a4, a5⟩ => ⟨k, a1, a2, a3, ⟨A, n, c, p + 1, by omega, a4⟩, a5⟩

end Go.Proofs.Ytdkjnemakkppfaa

/- The drawing kit: l19Open, num, of. -/
namespace Go.Proofs.Ytdkjnemakkppfaa
open Go.RowKit Go.BigFrame AG

theorem KeepB.cell_ {K : Nat → Prop} {w w' : World} (h : KeepB K w w') {p : Addr} (hb : p.block < w.heap.size) (hK : ¬ K p.block) : w'.cell? p = w.cell? p := by
  unfold World.cell?
  rw [h.block _ hb hK]

set_option maxHeartbeats 1000000 in
theorem num_up (R P g o k cap : Nat) (xs : List Int) (w : World) (hxl : xs.length = k) (hk : 0 < k) (hk2 : k ≤ 4294967296) (hP : P < 1125899906842624)
    (hgR : g ≠ R) (hgl : g < w.heap.size) (hxs : ∀ i (h : i < xs.length), w.cell? ⟨g, o + i, none⟩ = some (.int .i64 xs[i])) (hr : RdUp w R P) :
    Calls Try.prog 39 #[.pointer (some ⟨R, 0, none⟩), .slice (some ⟨g, o, none⟩) k cap] w fun e w' => ∃ x, x ∈ xs ∧ e = .returned (.int .i64 x) ∧ RdUp w' R (P + 1) ∧ KeepB (fun b => b = R) w w' := by
  replace hr := hid hr
  replace hxs := hid hxs
  go_enter Try.func39, Try.ntmps39
  go_wp2_with fail
  refine (pick_up R P k w hP (by omega) hr.out).mono ?_
  rintro e w1 ⟨j, rfl, hj0, hj1, hr1, hk1⟩
  obtain ⟨i, rfl⟩ := Int.eq_ofNat_of_zero_le hj0
  have hik : i < xs.length := by omega
  have e1 : w1.cell? ⟨g, o + i, none⟩ = some (.int .i64 xs[i]) := by rw [KeepB.cell_ hk1 (p := ⟨g, o + i, none⟩) hgl hgR]; exact hxs.out i hik
  have hik2 : (i : Int) < (k : Int) := by omega
  replace hr1 := hid hr1
  replace hk1 := hid hk1
  clear hj1
  go_wp2
  go_ret
  exact ⟨_, List.getElem_mem _, rfl, hr1.out, hk1.out⟩

set_option maxHeartbeats 1000000 in
theorem of_up (R P g o k cap : Nat) (xs : List ByteArray) (w : World) (hxl : xs.length = k) (hk : 0 < k) (hk2 : k ≤ 4294967296) (hP : P < 1125899906842624)
    (hgR : g ≠ R) (hgl : g < w.heap.size) (hxs : ∀ i (h : i < xs.length), w.cell? ⟨g, o + i, none⟩ = some (.string xs[i])) (hr : RdUp w R P) :
    Calls Try.prog 37 #[.pointer (some ⟨R, 0, none⟩), .slice (some ⟨g, o, none⟩) k cap] w fun e w' => ∃ x, x ∈ xs ∧ e = .returned (.string x) ∧ RdUp w' R (P + 1) ∧ KeepB (fun b => b = R) w w' := by
  replace hr := hid hr
  replace hxs := hid hxs
  go_enter Try.func37, Try.ntmps37
  go_wp2_with fail
  refine (pick_up R P k w hP (by omega) hr.out).mono ?_
  rintro e w1 ⟨j, rfl, hj0, hj1, hr1, hk1⟩
  obtain ⟨i, rfl⟩ := Int.eq_ofNat_of_zero_le hj0
  have hik : i < xs.length := by omega
  have e1 : w1.cell? ⟨g, o + i, none⟩ = some (.string xs[i]) := by rw [KeepB.cell_ hk1 (p := ⟨g, o + i, none⟩) hgl hgR]; exact hxs.out i hik
  have hik2 : (i : Int) < (k : Int) := by omega
  replace hr1 := hid hr1
  replace hk1 := hid hk1
  clear hj1
  go_wp2
  go_ret
  exact ⟨_, List.getElem_mem _, rfl, hr1.out, hk1.out⟩

/-- The bytes of an argument, below block B. -/
def CodeAt (w : World) (A : Option Addr) (n : Nat) : Prop := 0 < n → ∃ b o, A = some ⟨b, o, none⟩ ∧ b < w.heap.size ∧ ∀ i, i < n → ∃ x : Nat, x < 256 ∧ w.cell? ⟨b, o + i, none⟩ = some (.int .u8 (x : Int))

set_option maxHeartbeats 1000000 in
theorem l19Open_any (A : Option Addr) (n c : Nat) (w : World) (hn : n ≤ c) (hc : c ≤ 9223372036854775807) (hx : 0 < n → ∃ b o, A = some ⟨b, o, none⟩ ∧ b < w.heap.size ∧ ∀ i, i < n → ∃ x : Nat, x < 256 ∧ w.cell? ⟨b, o + i, none⟩ = some (.int .u8 (x : Int))) :
    Calls Try.prog 9 #[.slice A n c] w fun e w' => ∃ R, e = .returned (.pointer (some ⟨R, 0, none⟩)) ∧ w.heap.size ≤ R ∧ RdUp w' R 0 ∧ Below w.heap.size w w' := by
  replace hx := hid hx
  by_cases h2 : n ≤ 2000
  · go_enter Try.func9, Try.ntmps9
    go_wp2
    go_ret
    refine ⟨w.heap.size, rfl, Nat.le_refl _, ⟨A, n, c, 0, Nat.le_refl _, Blk.new w _ _, h2, hn, hc, by omega, fun hpos => ?_⟩, (Below.refl _ _).alloc (Nat.le_refl _) _⟩
    obtain ⟨b, o, hA, hb, hx'⟩ := hx.out hpos
    refine ⟨b, o, hA, hb, fun i hi => ?_⟩
    obtain ⟨x, h1, h3⟩ := hx' i hi
    exact ⟨x, h1, by rw [World.cell?_alloc_lt (h := by simpa using hb)]; exact h3⟩
  · obtain ⟨b, o, rfl, hb, hx'⟩ := hx.out (by omega)
    replace hx' := hid hx'
    go_enter Try.func9, Try.ntmps9
    go_wp2
    go_ret
    refine ⟨w.heap.size, rfl, Nat.le_refl _, ⟨_, 2000, c, 0, Nat.le_refl _, Blk.new w _ _, Nat.le_refl _, by omega, hc, by omega, fun _ => ⟨b, o, rfl, hb, fun i hi => ?_⟩⟩, (Below.refl _ _).alloc (Nat.le_refl _) _⟩
    obtain ⟨x, h1, h3⟩ := hx'.out i (by omega)
    exact ⟨x, h1, by rw [World.cell?_alloc_lt (h := by simpa using hb)]; exact h3⟩

def NumUp (R P : Nat) (xs : List Int) (w : World) (e : Ending) (w' : World) : Prop := ∃ x, x ∈ xs ∧ e = .returned (.int .i64 x) ∧ RdUp w' R (P + 1) ∧ KeepB (fun b => b = R) w w'
/-- A number out of a list that has just been made. -/
theorem num_lit (R P : Nat) (xs : List Int) (w : World) (T : TypeId) (hk : 0 < xs.length) (hk2 : xs.length ≤ 1000) (hP : P < 1125899906842624) (hr : RdUp w R P) :
    Calls Try.prog 39 #[.pointer (some ⟨R, 0, none⟩), .slice (some ⟨w.heap.size, 0, none⟩) xs.length xs.length] (w.alloc (.cells (xs.map (Value.int .i64)).toArray T)) (NumUp R P xs w) := by
  have hR := hr.lt
  have hb : Below w.heap.size w (w.alloc (.cells (xs.map (Value.int .i64)).toArray T)) := (Below.refl _ _).alloc (Nat.le_refl _) _
  refine (num_up R P w.heap.size 0 xs.length xs.length xs _ rfl hk (by omega) hP (by omega) (by simp) (fun i h => ?_) (hr.later hb)).mono fun e w' ⟨x, h1, h2, h3, h4⟩ => ⟨x, h1, h2, h3, (KeepB.of_below hb).trans h4⟩
  rw [Nat.zero_add, World.cell?_alloc_at _ _ _ _ rfl]
  simp [h]

end Go.Proofs.Ytdkjnemakkppfaa

/- The drawing kit: l2Texts, l19Num. -/
namespace Go.Proofs.Ytdkjnemakkppfaa
open Go.RowKit Go.BigFrame AG

def isText (v : Value) : Bool := match v with | .string b => decide (b.size ≤ 60) | _ => false
theorem texts_list : ∀ vs : List Value, vs.all isText = true → ∃ xs : List ByteArray, vs = xs.map Value.string ∧ ∀ x ∈ xs, x.size ≤ 60
  | [], _ => ⟨[], rfl, by simp⟩
  | v :: vs, h => by
    rw [List.all_cons, Bool.and_eq_true] at h
    obtain ⟨xs, h1, h2⟩ := texts_list vs h.2
    have h3 := h.1
    unfold isText at h3
    split at h3
    · rename_i b
      refine ⟨b :: xs, by rw [h1]; rfl, fun x hx => ?_⟩
      rcases List.mem_cons.1 hx with rfl | hx
      · exact of_decide_eq_true h3
      · exact h2 x hx
    · cases h3
theorem texts_of (w : World) (T : TypeId) (cs : Array Value) (h : cs.toList.all isText = true) :
    ∃ xs : List ByteArray, xs.length = cs.size ∧ (∀ x ∈ xs, x.size ≤ 60) ∧ ∀ i (hi : i < xs.length), (w.alloc (.cells cs T)).cell? ⟨w.heap.size, 0 + i, none⟩ = some (.string xs[i]) := by
  obtain ⟨xs, h1, h2⟩ := texts_list _ h
  have hlen : xs.length = cs.size := by
    have := congrArg List.length h1
    simpa using this.symm
  refine ⟨xs, hlen, h2, fun i hi => ?_⟩
  rw [Nat.zero_add, World.cell?_alloc_at _ _ _ _ rfl, ← Array.getElem?_toList, h1, List.getElem?_map, List.getElem?_eq_getElem hi]
  rfl

end Go.Proofs.Ytdkjnemakkppfaa

/- The drawing kit: l19Num ends with some number. -/
namespace Go.Proofs.Ytdkjnemakkppfaa
open Go.RowKit Go.BigFrame AG

theorem byte_some (s : ByteArray) (i : Nat) (h : i < s.size) : ∃ y : Nat, y < 256 ∧ ((s[i]'h).toNat : Int) = (y : Int) := ⟨(s[i]'h).toNat, (s[i]'h).toNat_lt, rfl⟩

def NumLitPost (w : World) (e : Ending) (w' : World) : Prop := ∃ (n : Int) (b : Bool), e = .returned (.tuple #[.int .i64 n, .bool b]) ∧ w = w'

set_option maxHeartbeats 2000000 in
theorem l19Num_plain (s : ByteArray) (w : World) (hz : s.size ≤ 1000000) (hn : ∀ h : 0 < s.size, (s[0]'h).toNat ≠ 45) :
    Calls Try.prog 70 #[.string s] w (NumLitPost w) := by
  by_cases h0 : s.size = 0
  · go_enter Try.func70, Try.ntmps70
    go_wp2
    go_ret2
    exact ⟨_, _, rfl, rfl⟩
  · have hpos : (0 : Int) < (s.size : Int) := by omega
    obtain ⟨y, hy, hy2⟩ := byte_some s 0 (by omega)
    have hneg2 : ((y : Int) == 45) = false := by
      have h45 : (s[0]'(by omega)).toNat ≠ 45 := hn (by omega)
      rw [beq_eq_false_iff_ne]
      omega
    replace hn := hid hn
    have a1 : ((s.size : Int) == 0) = false := by rw [beq_eq_false_iff_ne]; omega
    by_cases h17 : 17 < s.size
    · have a2 : decide (17 < (s.size : Int)) = true := by simp; omega
      go_enter Try.func70, Try.ntmps70
      go_wp2
      go_ret2
      exact ⟨_, _, rfl, rfl⟩
    · have a2 : decide (17 < (s.size : Int)) = false := by simp; omega
      by_cases hbad : y = 48 ∧ 1 < s.size
      · have a3 : ((y : Int) == 48) = true := by simp; omega
        have a4 : decide (1 < (s.size : Int)) = true := by simp; omega
        go_enter Try.func70, Try.ntmps70
        go_wp2
        go_ret2
        exact ⟨_, _, rfl, rfl⟩
      · by_cases h48 : y = 48
        · have a3 : ((y : Int) == 48) = true := by simp; omega
          have a4 : decide (1 < (s.size : Int)) = false := by simp; omega
          replace hbad := hid hbad
          go_enter Try.func70, Try.ntmps70
          go_wp2_with fail
          go_loopw [5, 6] (fun v i wr => ∃ (x : Int) (k : Nat), v = .int .i64 x ∧ i = .int .i64 k ∧ k ≤ s.size ∧ w = wr) (fun _ i _ => s.size - (intOf i).toNat)
          case atStart => exact ⟨0, 0, rfl, rfl, by omega, rfl⟩
          case round =>
            obtain ⟨x, k, rfl, rfl, hk, rfl⟩ := hrel
            by_cases hlt : k < s.size
            · obtain ⟨z, hz1, hz2⟩ := byte_some s k hlt
              have hk2 : (0 : Int) ≤ (k : Int) ∧ (k : Int) < (s.size : Int) := by omega
              go_wp2
              all_goals first
                | (go_ret2; exact ⟨_, _, rfl, rfl⟩)
                | (go_roundw
                   case rel => exact ⟨_, k + 1, rfl, by go_num, by omega, by first | trivial | rfl⟩
                   case measure => simp [intOf]; omega)
            · go_wp2
              go_ret2
              exact ⟨_, _, rfl, rfl⟩
        · have a3 : ((y : Int) == 48) = false := by simp; omega
          replace hbad := hid hbad
          go_enter Try.func70, Try.ntmps70
          go_wp2_with fail
          go_loopw [5, 6] (fun v i wr => ∃ (x : Int) (k : Nat), v = .int .i64 x ∧ i = .int .i64 k ∧ k ≤ s.size ∧ w = wr) (fun _ i _ => s.size - (intOf i).toNat)
          case atStart => exact ⟨0, 0, rfl, rfl, by omega, rfl⟩
          case round =>
            obtain ⟨x, k, rfl, rfl, hk, rfl⟩ := hrel
            by_cases hlt : k < s.size
            · obtain ⟨z, hz1, hz2⟩ := byte_some s k hlt
              have hk2 : (0 : Int) ≤ (k : Int) ∧ (k : Int) < (s.size : Int) := by omega
              go_wp2
              all_goals first
                | (go_ret2; exact ⟨_, _, rfl, rfl⟩)
                | (go_roundw
                   case rel => exact ⟨_, k + 1, rfl, by go_num, by omega, by first | trivial | rfl⟩
                   case measure => simp [intOf]; omega)
            · go_wp2
              go_ret2
              exact ⟨_, _, rfl, rfl⟩

set_option maxHeartbeats 2000000 in
theorem l19Num_sign (s : ByteArray) (w : World) (hz : s.size ≤ 1000000) (hs : 0 < s.size) (hn : (s[0]'hs).toNat = 45) :
    Calls Try.prog 70 #[.string s] w (NumLitPost w) := by
  have hpos : (0 : Int) < (s.size : Int) := by omega
  obtain ⟨y, hy, hy2⟩ := byte_some s 0 hs
  have hneg2 : ((y : Int) == 45) = true := by rw [beq_iff_eq]; omega
  obtain ⟨t, ht⟩ : ∃ t, s.extract 1 s.size = t := ⟨_, rfl⟩
  have htz : t.size = s.size - 1 := by rw [← ht, ByteArray.size_extract]; omega
  have hle : (1 : Int) ≤ (s.size : Int) := by omega
  have htl : t.size ≤ 1000000 := by omega
  replace htz := hid htz
  replace hn := hid hn
  by_cases h0 : t.size = 0
  · have a1 : ((t.size : Int) == 0) = true := by rw [beq_iff_eq]; omega
    go_enter Try.func70, Try.ntmps70
    go_wp2
    go_ret2
    exact ⟨_, _, rfl, rfl⟩
  · have a1 : ((t.size : Int) == 0) = false := by rw [beq_eq_false_iff_ne]; omega
    have hpos2 : (0 : Int) < (t.size : Int) := by omega
    obtain ⟨y2, hy3, hy4⟩ := byte_some t 0 (by omega)
    by_cases h17 : 17 < t.size
    · have a2 : decide (17 < (t.size : Int)) = true := by simp; omega
      go_enter Try.func70, Try.ntmps70
      go_wp2
      go_ret2
      exact ⟨_, _, rfl, rfl⟩
    · have a2 : decide (17 < (t.size : Int)) = false := by simp; omega
      by_cases h48 : y2 = 48
      · have a3 : ((y2 : Int) == 48) = true := by simp; omega
        by_cases h1 : 1 < t.size
        all_goals
          go_enter Try.func70, Try.ntmps70
          go_wp2
          go_ret2
          exact ⟨_, _, rfl, rfl⟩
      · have a3 : ((y2 : Int) == 48) = false := by simp; omega
        go_enter Try.func70, Try.ntmps70
        go_wp2_with fail
        go_loopw [5, 6] (fun v i wr => ∃ (x : Int) (k : Nat), v = .int .i64 x ∧ i = .int .i64 k ∧ k ≤ t.size ∧ w = wr) (fun _ i _ => t.size - (intOf i).toNat)
        case atStart => exact ⟨0, 0, rfl, rfl, by omega, rfl⟩
        case round =>
          obtain ⟨x, k, rfl, rfl, hk, rfl⟩ := hrel
          by_cases hlt : k < t.size
          · obtain ⟨z, hz1, hz2⟩ := byte_some t k hlt
            have hk2 : (0 : Int) ≤ (k : Int) ∧ (k : Int) < (t.size : Int) := by omega
            go_wp2
            all_goals first
              | (go_ret2; exact ⟨_, _, rfl, rfl⟩)
              | (go_roundw
                 case rel => exact ⟨_, k + 1, rfl, by go_num, by omega, by first | trivial | rfl⟩
                 case measure => simp [intOf]; omega)
          · go_wp2
            go_ret2
            exact ⟨_, _, rfl, rfl⟩

theorem l19Num_any (s : ByteArray) (w : World) (hz : s.size ≤ 1000000) : Calls Try.prog 70 #[.string s] w (NumLitPost w) := by
  by_cases hs : 0 < s.size
  · by_cases hn : (s[0]'hs).toNat = 45
    · exact l19Num_sign s w hz hs hn
    · exact l19Num_plain s w hz fun _ => hn
  · exact l19Num_plain s w hz fun h => absurd h hs

end Go.Proofs.Ytdkjnemakkppfaa

/- The drawing kit: texts of alphabets, numbers and edges (their texts are not told, only their sizes). -/
namespace Go.Proofs.Ytdkjnemakkppfaa
open Go.RowKit Go.BigFrame AG

def StrPost (N : Nat) (w : World) (e : Ending) (w' : World) : Prop := ∃ x : ByteArray, e = .returned (.string x) ∧ x.size ≤ N ∧ Below w.heap.size w w'

theorem conv_digit (w : World) (d : Nat) (hd : d < 10) :
    (convert 22 9 (.slice (some ⟨w.heap.size, 0, none⟩) 1 1)).run Try.prog (w.alloc (Obj.cells #[Value.int IntKind.u8 (48 + (d : Int))] 5)) = .ok (.string ⟨#[UInt8.ofNat (48 + d)]⟩) (w.alloc (Obj.cells #[Value.int IntKind.u8 (48 + (d : Int))] 5)) := by
  have hb : ((UInt8.ofNat (48 + d)).toNat : Int) = 48 + (d : Int) := by
    rw [UInt8.toNat_ofNat']
    omega
  exact run_convert_bytes_back (P := Try.prog) _ 22 9 5 ⟨w.heap.size, 0, none⟩ 1 [UInt8.ofNat (48 + d)] Try.underlying22 Try.underlying5 Try.underlying9 (fun j hj => by
      obtain rfl : j = 0 := by simpa using hj
      rw [List.getElem_cons_zero, hb]
      simp [Addr.add])

set_option maxRecDepth 100000 in
set_option maxHeartbeats 1000000 in
theorem l19Dec_any (n : Nat) (hn : n ≤ 1000) (w : World) : Calls Try.prog 71 #[.int .i64 n] w (StrPost 1001 w) := by
  go_enter Try.func71, Try.ntmps71
  go_wp2_with fail
  go_loopw [0, 3] (fun i s wr => ∃ (m : Nat) (x : ByteArray), i = .int .i64 m ∧ s = .string x ∧ x.size + m ≤ 1000 ∧ Below w.heap.size w wr) (fun i _ _ => (intOf i).toNat)
  case atStart => exact ⟨n, ⟨#[]⟩, rfl, rfl, by show 0 + n ≤ 1000; omega, Below.refl _ _⟩
  case round =>
    obtain ⟨m, x, rfl, rfl, hx, hb⟩ := hrel
    have hz := hb.size
    by_cases hm : 9 < m
    · obtain ⟨d, hd⟩ : ∃ d : Nat, d = m % 10 := ⟨_, rfl⟩
      obtain ⟨q, hq⟩ : ∃ q : Nat, q = m / 10 := ⟨_, rfl⟩
      have e1 : (m : Int) % 10 = (d : Int) := by omega
      have e2 : (m : Int) / 10 = (q : Int) := by omega
      have hd10 : d < 10 := by omega
      have hqm : q + 1 ≤ m := by omega
      have kc := conv_digit wr d hd10
      replace hd := hid hd
      replace hq := hid hq
      go_wp2_with fail
      go_roundw
      case rel => exact ⟨q, _, rfl, rfl, by rw [ByteArray.size_append]; show 1 + x.size + q ≤ 1000; omega, hb.alloc hz _⟩
      case measure => simp [intOf]; omega
    · have kc := conv_digit wr m (by omega)
      go_wp2_with fail
      go_ret
      exact ⟨_, rfl, by rw [ByteArray.size_append]; show 1 + x.size ≤ 1001; omega, hb.alloc hz _⟩

set_option maxRecDepth 100000 in
set_option maxHeartbeats 2000000 in
theorem formatAlpha_any (A : Int) (w : World) : Calls Try.prog 69 #[.int .i64 A] w (StrPost 6 w) := by
  by_cases ha : alphaOk A = true
  · by_cases h0 : A = 0
    · subst h0
      replace ha := hid ha
      go_enter Try.func69, Try.ntmps69
      go_wp2_with (go_at_call 47; refine (l1Alphabet_any _ _).mono ?_; rintro e w' ⟨rfl, rfl⟩; rw [ha.out])
      go_ret
      exact ⟨_, rfl, by decide, Below.refl _ _⟩
    · have hb0 : ((A : Int) == 0) = false := by simpa using h0
      replace ha := hid ha
      replace h0 := hid h0
      go_enter Try.func69, Try.ntmps69
      go_wp2_with (first
        | (go_at_call 47; refine (l1Alphabet_any _ _).mono ?_; rintro e w' ⟨rfl, rfl⟩; rw [ha.out])
        | (go_at_call 35; refine (l1Letters_any _ _).mono ?_; rintro e w2 ⟨lv, rfl, hown, hb2⟩))
      have hl6 := lettersTo_len A 6
      have hll : letters A = lettersTo A 6 := rfl
      rw [← hll] at hl6
      obtain ⟨Al, cl, hvl, hcl, hcl'⟩ := own_slice hown
      subst hvl
      obtain ⟨ls, hls⟩ : ∃ ls, Hid (ls = letters A) := ⟨_, hid rfl⟩
      rw [← hls.out] at hown hl6 hcl
      rw [← hls.out]
      clear hll
      replace hown := hid hown
      go_wp2_with fail
      go_loopw [3, 5] (fun s i wr => ∃ (k : Nat) (x : ByteArray), i = .int .i64 k ∧ s = .string x ∧ x.size = k ∧ k ≤ ls.length ∧ Below w2.heap.size w2 wr) (fun _ i _ => ls.length - (intOf i).toNat)
      case atStart => exact ⟨0, ⟨#[]⟩, rfl, rfl, rfl, by omega, Below.refl _ _⟩
      case round =>
        obtain ⟨k, x, rfl, rfl, hx, hk, hb⟩ := hrel
        replace hx := hid hx
        have hz := hb.size
        by_cases hlt : k < ls.length
        · obtain ⟨g, cap, hve, hg1, hg2, -, -, hL⟩ := own_nats hown.out (by omega)
          injection hve with hv1 hv2 hv3
          subst hv1
          subst hv3
          have l0 := hL k hlt
          obtain ⟨l, hl⟩ : ∃ l : Nat, l = ls[k] := ⟨_, rfl⟩
          have hl6' : l < 6 := by
            have := letters_lt (A := A) (l := l) (by rw [← hls.out, hl]; exact List.getElem_mem _)
            exact this.1
          rw [← hl] at l0
          have l1 : wr.cell? ⟨g, k, none⟩ = some (.int .i64 (l : Nat)) := by rw [hb.cell (by simpa using hg2)]; exact l0
          have k1 : (0 : Int) ≤ (k : Int) ∧ (k : Int) < (ls.length : Int) := by omega
          have hxs : x.size ≤ 6 := by rw [hx.out]; omega
          replace hL := hid hL
          replace hl := hid hl
          clear l0
          go_wp2_with (go_at_call 36; refine (l1Text_any l hl6' _).mono ?_; rintro e w3 ⟨rfl, hb3⟩)
          have hb4 := hb.trans (hb3.mono hz)
          go_roundw
          case rel => exact ⟨k + 1, _, by go_num, rfl, by rw [ByteArray.size_append, hx.out]; rfl, by omega, hb4⟩
          case measure => simp [intOf]; omega
        · have hb4 := hb2.trans (hb.mono hb2.size)
          go_wp2_with fail
          go_ret
          exact ⟨_, rfl, by rw [hx.out]; omega, hb4⟩
  · replace ha : alphaOk A = false := by simpa using ha
    replace ha := hid ha
    go_enter Try.func69, Try.ntmps69
    go_wp2_with (go_at_call 47; refine (l1Alphabet_any _ _).mono ?_; rintro e w' ⟨rfl, rfl⟩; rw [ha.out])
    go_ret
    exact ⟨_, rfl, by decide, Below.refl _ _⟩

def NumPostB (w : World) (e : Ending) (w' : World) : Prop := ∃ (n : Int) (b : Bool), e = .returned (.tuple #[.int .i64 n, .bool b]) ∧ Below w.heap.size w w'

set_option maxRecDepth 100000 in
set_option maxHeartbeats 1000000 in
theorem parseAlpha_any (s : ByteArray) (w : World) : Calls Try.prog 55 #[.string s] w (NumPostB w) := by
  go_enter Try.func55, Try.ntmps55
  go_wp2_with fail
  go_loopw [4] (fun i wr => ∃ (k : Nat), i = .int .i64 k ∧ k ≤ 64 ∧ Below w.heap.size w wr) (fun i _ => 64 - (intOf i).toNat)
  case atStart => exact ⟨0, rfl, by omega, Below.refl _ _⟩
  case round =>
    obtain ⟨k, rfl, hk, hb⟩ := hrel
    have hz := hb.size
    by_cases hlt : k ≤ 63
    · go_wp2_with (go_at_call 69; refine (formatAlpha_any _ _).mono ?_; rintro e w2 ⟨x, rfl, hx, hb2⟩)
      all_goals have hb3 := hb.trans (hb2.mono hz)
      all_goals first
        | (go_ret2; exact ⟨_, _, rfl, hb3⟩)
        | (go_roundw
           case rel => exact ⟨k + 1, by go_num, by omega, hb3⟩
           case measure => simp [intOf]; omega)
    · go_wp2_with fail
      go_ret2
      exact ⟨_, _, rfl, hb⟩

end Go.Proofs.Ytdkjnemakkppfaa

/- The drawing kit: l19Cut, l2Parse. -/
namespace Go.Proofs.Ytdkjnemakkppfaa
open Go.RowKit Go.BigFrame AG

theorem infoStrD : (Try.prog.info? 9).map (fun i => (i.zero, i.size, i.bytes)) = some (some (.string ⟨#[]⟩), 1, 16) := by kernel_rfl

/-- Texts of at most N bytes each, as an owned slice. -/
def OwnStrs (w : World) (B : Nat) (v : Value) (ws : List ByteArray) : Prop := w.ownsRow B 9 1 v ws.length (ws.map Value.string)
theorem own_strs {w : World} {B : Nat} {v : Value} {ns : List ByteArray} (h : OwnStrs w B v ns) (hn : 0 < ns.length) :
    ∃ g cap, v = .slice (some ⟨g, 0, none⟩) ns.length cap ∧ B ≤ g ∧ g < w.heap.size ∧ ns.length ≤ cap ∧ cap ≤ 9223372036854775807 ∧
      ∀ i (hi : i < ns.length), w.cell? ⟨g, i, none⟩ = some (.string ns[i]) := by
  obtain ⟨g, cap, hv, h1, h2, h3, h4, h5⟩ := own_shape h hn
  exact ⟨g, cap, hv, h1, h2, h3, h4, fun i hi => h5 _ _ (by simp [hi])⟩

structure CutSt (w wr : World) (v : Value) (ws : List ByteArray) (N k : Nat) : Prop where
  own : OwnStrs wr w.heap.size v ws
  len : ws.length ≤ k
  small : ∀ x ∈ ws, x.size ≤ N
  below : Below w.heap.size w wr

theorem CutSt.add {w wr w1 : World} {v v' : Value} {ws : List ByteArray} {N k : Nat} {x : ByteArray} {o : Obj} (h : CutSt w wr v ws N k) (hx : x.size ≤ N) (hown : w1.ownsRow w.heap.size 9 1 v' (ws.length + 1) (ws.map Value.string ++ [.string x])) (hg : (wr.alloc o).grownBy w1 v.ownBlock) :
    CutSt w w1 v' (ws ++ [x]) N (k + 1) := by
  refine ⟨?_, ?_, ?_, ?_⟩
  · have : (ws ++ [x]).length = ws.length + 1 := by simp
    unfold OwnStrs
    rw [this, List.map_append]
    exact hown
  · have := h.len
    simp
    omega
  · intro y hy
    rcases List.mem_append.1 hy with hy | hy
    · exact h.small y hy
    · rw [List.mem_singleton.1 hy]; exact hx
  · exact (h.below.alloc h.below.size o).grown hg (by have := h.below.size; simp; omega) (fun k hk => (World.ownsRow.lt h.own k hk).1)

def CutPost (s : ByteArray) (w : World) (e : Ending) (w' : World) : Prop := ∃ v ws, e = .returned v ∧ CutSt w w' v ws s.size (s.size + 1)

set_option maxRecDepth 100000 in
set_option maxHeartbeats 2000000 in
theorem l19Cut_any (s : ByteArray) (c : Nat) (w : World) (hz : s.size ≤ 1000000) : Calls Try.prog 54 #[.string s, .int .u8 c] w (CutPost s w) := by
  obtain ⟨i0, hi, hz0, hz1, hz2⟩ := info_parts infoStrD
  have h0 : CutSt w (w.alloc (.cells #[] 9)) (.slice (some ⟨w.heap.size, 0, none⟩) 0 0) [] s.size 0 :=
    ⟨⟨rfl, .inr ⟨w.heap.size, 0, #[], rfl, Nat.le_refl _, heap_alloc_self _ _, Nat.le_refl _, Nat.zero_le _, rfl, rfl⟩⟩, Nat.le_refl _, fun x hx => (by cases hx), (Below.refl _ _).alloc (Nat.le_refl _) _⟩
  replace h0 := hid h0
  go_enter Try.func54, Try.ntmps54
  go_wp2_with fail
  go_loopw [5, 6, 7] (fun v f i wr => ∃ (ws : List ByteArray) (a k : Nat), i = .int .i64 k ∧ f = .int .i64 a ∧ (a ≤ k ∨ k = s.size + 1) ∧ k ≤ s.size + 1 ∧ CutSt w wr v ws s.size k) (fun _ _ i _ => s.size + 1 - (intOf i).toNat)
  case atStart => exact ⟨[], 0, 0, rfl, rfl, by omega, by omega, h0.out⟩
  case round =>
    obtain ⟨ws, a, k, rfl, rfl, ha, hk, hs⟩ := hrel
    have hzr := hs.below.size
    have hln := hs.len
    by_cases hlt : k ≤ s.size
    · have hak : a ≤ k := by omega
      have b1 : (0 : Int) ≤ (a : Int) := by omega
      have b2 : (a : Int) ≤ (k : Int) := by omega
      have b3 : (k : Int) ≤ (s.size : Int) := by omega
      have hxs : (s.extract a k).size ≤ s.size := by rw [ByteArray.size_extract]; omega
      have hown := hs.own
      unfold OwnStrs at hown
      replace hown := hid hown
      replace hs := hid hs
      by_cases hend : k = s.size
      · have e1 : ((k : Int) == (s.size : Int)) = true := by simp; omega
        replace hxs := hid hxs
        replace hend := hid hend
        go_wp2_with (at_builtin; refine wpList_append_lies _ (by rfl) _ _ 62 (by rfl) w.heap.size 9 i0 (.string ⟨#[]⟩) 1 16 Try.underlying62 hi hz0 hz1 hz2 rfl (by decide) _ ws.length _ (by rfl) (hown.out.alloc _) ⟨wr.heap.size, 0, none⟩ 1 1 [.string (s.extract a k)] (by rfl) (by rfl) (World.news_of_block (heap_alloc_new wr _)) ?c1 (by omega) ?c3 ?c4 ?c5 _ rfl ?_)
        case c1 => simp [Value.oneCell']
        case c3 => unfold maxLen; omega
        case c4 => omega
        case c5 => simp; omega
        intro gg cap w5 hown5 hgrow hat hlt5
        have hfin := hid (hs.out.add hxs.out hown5 hgrow)
        clear hown5 hgrow hat
        go_wp2_with fail
        go_roundw
        case rel => exact ⟨_, k + 1, k + 1, by go_num, by go_num, by omega, by omega, hfin.out⟩
        case measure => simp [intOf]; omega
      · have e1 : ((k : Int) == (s.size : Int)) = false := by simp; omega
        obtain ⟨y, hy, hy2⟩ := byte_some s k (by omega)
        have b4 : (0 : Int) ≤ (k : Int) ∧ (k : Int) < (s.size : Int) := by omega
        replace hend := hid hend
        by_cases hyc : y = c
        · have e2 : ((y : Int) == (c : Int)) = true := by simp; omega
          replace hyc := hid hyc
          replace hxs := hid hxs
          go_wp2_with (at_builtin; refine wpList_append_lies _ (by rfl) _ _ 62 (by rfl) w.heap.size 9 i0 (.string ⟨#[]⟩) 1 16 Try.underlying62 hi hz0 hz1 hz2 rfl (by decide) _ ws.length _ (by rfl) (hown.out.alloc _) ⟨wr.heap.size, 0, none⟩ 1 1 [.string (s.extract a k)] (by rfl) (by rfl) (World.news_of_block (heap_alloc_new wr _)) ?c1 (by omega) ?c3 ?c4 ?c5 _ rfl ?_)
          case c1 => simp [Value.oneCell']
          case c3 => unfold maxLen; omega
          case c4 => omega
          case c5 => simp; omega
          intro gg cap w5 hown5 hgrow hat hlt5
          have hfin := hid (hs.out.add hxs.out hown5 hgrow)
          clear hown5 hgrow hat
          go_wp2_with fail
          go_roundw
          case rel => exact ⟨_, k + 1, k + 1, by go_num, by go_num, by omega, by omega, hfin.out⟩
          case measure => simp [intOf]; omega
        · have e2 : ((y : Int) == (c : Int)) = false := by simp; omega
          replace hyc := hid hyc
          go_wp2_with fail
          go_roundw
          case rel => exact ⟨ws, a, k + 1, by go_num, rfl, by omega, by omega, ⟨hs.out.own, by have := hs.out.len; omega, hs.out.small, hs.out.below⟩⟩
          case measure => simp [intOf]; omega
    · go_wp2_with fail
      go_ret
      exact ⟨_, ws, rfl, ⟨hs.own, by have := hs.len; omega, hs.small, hs.below⟩⟩

end Go.Proofs.Ytdkjnemakkppfaa

/- The drawing kit: l2Random, l2Small. -/
namespace Go.Proofs.Ytdkjnemakkppfaa
open Go.RowKit Go.BigFrame AG

def edCells : List Ed → List Value
  | [] => []
  | e :: es => .int .i64 e.f :: .int .i64 e.l :: .int .i64 e.t :: edCells es
theorem edCells_append : ∀ ps qs : List Ed, edCells (ps ++ qs) = edCells ps ++ edCells qs
  | [], _ => rfl
  | p :: ps, qs => by rw [List.cons_append, edCells, edCells_append ps qs]; rfl
theorem edCells_at : ∀ (ps : List Ed) (i : Nat) (h : i < ps.length), (edCells ps)[i * 3]? = some (.int .i64 ps[i].f) ∧ (edCells ps)[i * 3 + 1]? = some (.int .i64 ps[i].l) ∧ (edCells ps)[i * 3 + 2]? = some (.int .i64 ps[i].t)
  | p :: ps, 0, _ => ⟨rfl, rfl, rfl⟩
  | p :: ps, i + 1, h => by
    have := edCells_at ps i (by simpa using h)
    rw [show (i + 1) * 3 = i * 3 + 1 + 1 + 1 from by omega]
    exact this
theorem edCells_len : ∀ ps : List Ed, (edCells ps).length = ps.length * 3
  | [] => rfl
  | p :: ps => by simp [edCells, edCells_len ps]; omega

/-- The edges es, as an owned slice. -/
def OwnEds (w : World) (B : Nat) (v : Value) (es : List Ed) : Prop := w.ownsRow B 112 3 v es.length (edCells es)
theorem OwnEds.read {w : World} {B : Nat} {v : Value} {es : List Ed} (h : OwnEds w B v es) : ∃ A c, v = .slice A es.length c ∧ es.length ≤ c ∧ c ≤ 9223372036854775807 ∧ EdsAt w w.heap.size A es ∧ FreshA B A := by
  have hlt := World.ownsRow.lt h
  have hcl := fun {g} hg => World.ownsRow.cells h (g := g) hg
  obtain ⟨_, ⟨rfl, h0⟩ | ⟨g, cap, cur, rfl, hg, hw, h1, h2, h3, h4⟩⟩ := h
  · exact ⟨none, 0, by rw [h0], by omega, by omega, fun hl => by omega, fun b o hA => by cases hA⟩
  · refine ⟨_, cap, rfl, h1, h2, fun _ => ⟨g, 0, rfl, (hlt g rfl).2, fun i hi => ?_⟩, fun b o hA => by injection hA with hA; injection hA with hA; omega⟩
    obtain ⟨a1, a2, a3⟩ := edCells_at es i hi
    have b1 := hcl rfl _ _ a1
    have b2 := hcl rfl _ _ a2
    have b3 := hcl rfl _ _ a3
    have hadd : ∀ j, (⟨g, 0, none⟩ : Addr).add j = ⟨g, j, none⟩ := fun j => by unfold Addr.add; split <;> simp_all
    rw [hadd] at b1 b2 b3
    simp only [Nat.zero_add]
    exact ⟨b1, b2, b3⟩

/-- Some system comes back; the reader has moved on to P at most. -/
def SyUp (R P L : Nat) (w : World) (e : Ending) (w' : World) : Prop :=
  ∃ (s : Sy) (A : Option Addr) (c : Nat), e = .returned (s.val A c) ∧ s.es.length ≤ c ∧ c ≤ 9223372036854775807 ∧ s.es.length ≤ L ∧ EdsAt w' w'.heap.size A s.es ∧ FreshA w.heap.size A ∧ RdUp w' R P ∧ KeepB (fun b => b = R) w w'

/-- What l2Random holds in its loops: N rounds at most are behind it. -/
structure RndSt (w wr : World) (R P gs : Nat) (al st : Int) (lv : Value) (ls : List Nat) (N : Nat) (v : Value) (es : List Ed) : Prop where
  len : es.length ≤ N
  blk : Blk wr gs 104 #[.int .i64 al, .int .i64 st, v]
  own : OwnEds wr (gs + 1) v es
  list : OwnNats wr (gs + 1) lv ls
  rd : RdUp wr R (P + N)
  keep : KeepB (fun b => b = R) w wr
  res : Blk wr w.heap.size 104 #[.int .i64 0, .int .i64 0, .slice none 0 0]
theorem RndSt.pick {w wr w1 : World} {R P gs : Nat} {al st : Int} {lv : Value} {ls : List Nat} {N : Nat} {v : Value} {es : List Ed} (h : RndSt w wr R P gs al st lv ls N v es) (hR : R < w.heap.size) (hgs : w.heap.size < gs) (hr : RdUp w1 R (P + N + 1)) (hk : KeepB (fun b => b = R) wr w1) :
    RndSt w w1 R P gs al st lv ls (N + 1) v es :=
  ⟨by have := h.len; omega, h.blk.keep hk (by omega), own_keep h.own hk (fun g hg => by have := (h.own.lt g hg).1; omega), own_keep h.list hk (fun g hg => by have := (World.ownsRow.lt h.list g hg).1; omega), hr, h.keep.trans hk, h.res.keep hk (by omega)⟩
theorem RndSt.later {w wr w1 : World} {R P gs : Nat} {al st : Int} {lv : Value} {ls : List Nat} {N : Nat} {v : Value} {es : List Ed} (h : RndSt w wr R P gs al st lv ls N v es) (hb : Below wr.heap.size wr w1) : RndSt w w1 R P gs al st lv ls N v es :=
  ⟨h.len, h.blk.below hb h.blk.lt, own_later h.own hb, own_later h.list hb, h.rd.later hb, h.keep.trans (KeepB.of_below hb), h.res.below hb h.res.lt⟩
theorem RndSt.begin {w w2 : World} {R P : Nat} {al st : Int} {lv : Value} {ls : List Nat}
    (hr : RdUp w R P) (hown : OwnNats w2 (w.heap.size + 2) lv ls) (hb : Below (w.heap.size + 2) ((w.alloc (.cells #[.int .i64 0, .int .i64 0, .slice none 0 0] 104)).alloc (.cells #[.int .i64 al, .int .i64 st, .slice none 0 0] 104)) w2) :
    RndSt w w2 R P (w.heap.size + 1) al st lv ls 0 (.slice none 0 0) [] := by
  have b1 : Below w.heap.size w w2 := (((Below.refl _ _).alloc (Nat.le_refl _) _).alloc (by simp) _).trans (hb.mono (by omega))
  refine ⟨Nat.le_refl _, ?_, World.ownsRow_nil _ _ _ _, own_base hown (by omega), hr.later b1, KeepB.of_below b1, ?_⟩
  · have := Blk.new (w.alloc (.cells #[.int .i64 0, .int .i64 0, .slice none 0 0] 104)) 104 #[.int .i64 al, .int .i64 st, .slice none 0 0]
    rw [World.size_alloc] at this
    exact this.below hb (by omega)
  · have := (Blk.new w 104 #[.int .i64 0, .int .i64 0, .slice none 0 0]).alloc (.cells #[.int .i64 al, .int .i64 st, .slice none 0 0] 104)
    exact this.below hb (by omega)
theorem RndSt.post {w wr : World} {R P : Nat} {al st : Int} {lv : Value} {ls : List Nat} {N : Nat} {v : Value} {es : List Ed} (h : RndSt w wr R P (w.heap.size + 1) al st lv ls N v es) (hN : N ≤ 1536) (hR : R < w.heap.size) (v1 v2 v3 : Value) :
    SyUp R (P + 1536) 1536 w (.returned (.agg #[.int .i64 al, .int .i64 st, v])) (((wr.setCell ⟨w.heap.size, 0, none⟩ v1).setCell ⟨w.heap.size, 1, none⟩ v2).setCell ⟨w.heap.size, 2, none⟩ v3) := by
  obtain ⟨A, c, hv, h1, h2, h3, h4⟩ := h.own.read
  have hl := h.len
  have hk : KeepB (fun b => b = w.heap.size) wr (((wr.setCell ⟨w.heap.size, 0, none⟩ v1).setCell ⟨w.heap.size, 1, none⟩ v2).setCell ⟨w.heap.size, 2, none⟩ v3) := (((KeepB.refl _ wr).setCell _ _ (by simp)).setCell _ _ (by simp)).setCell _ _ (by simp)
  refine ⟨⟨al, st, es⟩, A, c, by rw [hv]; rfl, h1, h2, by show es.length ≤ 1536; omega, ?_, fun b o hA => by have := h4 b o hA; omega, (h.rd.more (by omega)).keep hk (by omega), ?_⟩
  · have hne : ∀ b o, A = some ⟨b, o, none⟩ → 0 < es.length → b ≠ w.heap.size := fun b o hA _ => by have := h4 b o hA; omega
    simpa [World.setCell] using ((h3.stored v1 hne).stored v2 hne).stored v3 hne
  · exact (((h.keep).setCell _ _ (by simp)).setCell _ _ (by simp)).setCell _ _ (by simp)


/-- The result's own block, which the function made first, is stored into. -/
theorem SyUp.ret {R P L : Nat} {w w1 : World} {s : Sy} {A : Option Addr} {c : Nat} (h1 : s.es.length ≤ c) (h2 : c ≤ 9223372036854775807) (h3 : s.es.length ≤ L) (h4 : EdsAt w1 w1.heap.size A s.es) (h5 : FreshA (w.heap.size + 1) A)
    (h6 : RdUp w1 R P) (h7 : KeepB (fun b => b = R) w w1) (hR : R < w.heap.size) (v1 v2 v3 : Value) :
    SyUp R P L w (.returned (.agg #[.int .i64 s.al, .int .i64 s.st, .slice A s.es.length c])) (((w1.setCell ⟨w.heap.size, 0, none⟩ v1).setCell ⟨w.heap.size, 1, none⟩ v2).setCell ⟨w.heap.size, 2, none⟩ v3) := by
  have hk : KeepB (fun b => b = w.heap.size) w1 (((w1.setCell ⟨w.heap.size, 0, none⟩ v1).setCell ⟨w.heap.size, 1, none⟩ v2).setCell ⟨w.heap.size, 2, none⟩ v3) := (((KeepB.refl _ w1).setCell _ _ (by simp)).setCell _ _ (by simp)).setCell _ _ (by simp)
  have hne : ∀ b o, A = some ⟨b, o, none⟩ → 0 < s.es.length → b ≠ w.heap.size := fun b o hA _ => by have := h5 b o hA; omega
  refine ⟨s, A, c, rfl, h1, h2, h3, ?_, fun b o hA => by have := h5 b o hA; omega, h6.keep hk (by omega), ?_⟩
  · simpa [World.setCell] using ((h4.stored v1 hne).stored v2 hne).stored v3 hne
  · exact ((h7.setCell _ _ (by simp)).setCell _ _ (by simp)).setCell _ _ (by simp)


end Go.Proofs.Ytdkjnemakkppfaa

/- The drawing kit: FormatSystem, ParseSystem. -/
namespace Go.Proofs.Ytdkjnemakkppfaa
open Go.RowKit Go.BigFrame AG

def isStr (N : Nat) (u : Value) : Prop := ∃ x : ByteArray, u = .string x ∧ x.size ≤ N

end Go.Proofs.Ytdkjnemakkppfaa

/- The drawing kit: ParseSystem. -/
namespace Go.Proofs.Ytdkjnemakkppfaa
open Go.RowKit Go.BigFrame AG

/-- Some system and a Bool come back. -/
def SyBPost (L : Nat) (w : World) (e : Ending) (w' : World) : Prop :=
  ∃ (s : Sy) (A : Option Addr) (c : Nat) (b : Bool), e = .returned (.tuple #[s.val A c, .bool b]) ∧ s.es.length ≤ c ∧ c ≤ 9223372036854775807 ∧ s.es.length ≤ L ∧ EdsAt w' w'.heap.size A s.es ∧ FreshA w.heap.size A ∧ Below w.heap.size w w'

structure PsSt (w2 wr : World) (al st : Int) (v : Value) (es : List Ed) (k : Nat) : Prop where
  blk : Blk wr w2.heap.size 104 #[.int .i64 al, .int .i64 st, v]
  own : OwnEds wr (w2.heap.size + 1) v es
  len : es.length ≤ k
  below : Below w2.heap.size w2 wr
theorem PsSt.later {w2 wr w1 : World} {al st : Int} {v : Value} {es : List Ed} {k : Nat} (h : PsSt w2 wr al st v es k) (hb : Below wr.heap.size wr w1) : PsSt w2 w1 al st v es k :=
  ⟨h.blk.below hb h.blk.lt, own_later h.own hb, h.len, h.below.trans (hb.mono h.below.size)⟩
theorem PsSt.add {w2 wr w1 : World} {al st : Int} {v v' : Value} {es : List Ed} {k : Nat} {x : Ed} (h : PsSt w2 wr al st v es k)
    (hown : w1.ownsRow (w2.heap.size + 1) 112 3 v' (es.length + 1) (edCells es ++ [.int .i64 x.f, .int .i64 x.l, .int .i64 x.t])) (hg : wr.grownBy w1 v.ownBlock) :
    PsSt w2 (w1.setCell ⟨w2.heap.size, 2, none⟩ v') al st v' (es ++ [x]) (k + 1) := by
  have hv : ∀ k, v.ownBlock = some k → w2.heap.size < k := fun k hk => by have := (h.own.lt k hk).1; omega
  have hv' : ∀ k, v'.ownBlock = some k → w2.heap.size < k := fun k hk => by have := (World.ownsRow.lt hown k hk).1; omega
  have k1 : KeepB (fun b => v.ownBlock = some b) wr w1 := (KeepB.refl _ wr).grown hg (fun k hk _ => hk)
  have hb := h.blk.lt
  refine ⟨?_, ?_, by have := h.len; simp; omega, ?_⟩
  · have := (h.blk.keep k1 (fun hk => by have := hv _ hk; omega)).set_ 2 v'
    simpa using this
  · have e : (es ++ [x]).length = es.length + 1 := by simp
    unfold OwnEds
    rw [e, edCells_append]
    exact ownsRow_setCell_other hown (fun hk => by have := hv' _ hk; simp at this) _
  · exact (h.below.grown hg h.below.size (fun k hk => by have := hv k hk; omega)).setCell (by simp) _

theorem SyBPost.ret {L : Nat} {w w1 : World} {s : Sy} {A : Option Addr} {c : Nat} (b : Bool) (h1 : s.es.length ≤ c) (h2 : c ≤ 9223372036854775807) (h3 : s.es.length ≤ L) (h4 : EdsAt w1 w1.heap.size A s.es) (h5 : FreshA (w.heap.size + 1) A)
    (h7 : Below w.heap.size w w1) (v1 v2 v3 : Value) :
    SyBPost L w (.returned (.tuple #[.agg #[.int .i64 s.al, .int .i64 s.st, .slice A s.es.length c], .bool b])) (((w1.setCell ⟨w.heap.size, 0, none⟩ v1).setCell ⟨w.heap.size, 1, none⟩ v2).setCell ⟨w.heap.size, 2, none⟩ v3) := by
  have hne : ∀ b o, A = some ⟨b, o, none⟩ → 0 < s.es.length → b ≠ w.heap.size := fun b o hA _ => by have := h5 b o hA; omega
  refine ⟨s, A, c, b, rfl, h1, h2, h3, ?_, fun b o hA => by have := h5 b o hA; omega, ?_⟩
  · simpa [World.setCell] using ((h4.stored v1 hne).stored v2 hne).stored v3 hne
  · (repeat (first | exact Below.refl _ _ | assumption | refine Below.drew ?_ | refine Below.alloc ?_ (by first | omega | (simp; done) | (simp; omega)) _ | refine Below.setCell ?_ (by first | omega | (simp; done) | (simp; omega)) _))

end Go.Proofs.Ytdkjnemakkppfaa

/- The drawing kit: l2Wrong. -/
namespace Go.Proofs.Ytdkjnemakkppfaa
open Go.RowKit Go.BigFrame AG

/-- Worlds behind m operations of a statement that draws. -/
def RI (w0 : World) (R P : Nat) : Nat → World → Prop := fun m w => KeepB (fun b => b = R) w0 w ∧ RdUp w R (P + m * 10000)
theorem RI.way (w0 : World) (R P : Nat) : AG.Way (KeepB fun b => b = R) (RI w0 R P) := ⟨fun w => KeepB.refl _ w, fun _ _ _ h k => h.trans k, fun m _ h => ⟨h.1, h.2.more (by omega)⟩⟩
theorem RI.begin {w0 : World} {R P : Nat} (h : RdUp w0 R P) : RI w0 R P 0 w0 := ⟨KeepB.refl _ _, h.more (by omega)⟩
theorem RI.drew {w0 : World} {R P : Nat} (h : RdUp w0 R P) : RI w0 R P 0 w0.drew := ⟨⟨rfl, rfl, rfl, Nat.le_refl _, fun _ _ _ => rfl⟩, (h.later ((Below.refl _ _).drew)).more (by omega)⟩
theorem RI.fam {w0 : World} {R P : Nat} (h : RdUp w0 R P) (x : World) : KeepB (fun b => b = R) w0 (GK.FamI (GK.Upto (RI w0 R P) 200) w0 x) := by
  obtain ⟨_, _, h⟩ := GK.FamI.is (J := GK.Upto (RI w0 R P) 200) (w1 := w0) ⟨0, by omega, RI.begin h⟩ x
  exact h.1
theorem RI.cell {w0 : World} {R P b o : Nat} {v : Value} (hr : RdUp w0 R P) (h : w0.cell? ⟨b, o, none⟩ = some v) (hb : b ≠ R) (x : World) : (GK.FamI (GK.Upto (RI w0 R P) 200) w0 x).cell? ⟨b, o, none⟩ = some v := by
  rw [KeepB.cell_ (RI.fam hr x) (World.block_lt_of_cell? _ _ h) hb]
  exact h
theorem RI.alloc {w0 w : World} {R P m : Nat} (o : Obj) (h : RI w0 R P m w) : RI w0 R P (m + 1) (w.alloc o) := ⟨h.1.alloc o, (h.2.later ((Below.refl _ _).alloc (Nat.le_refl _) o)).more (by omega)⟩
theorem RI.call {w0 w w' : World} {R P P' m : Nat} (h : RI w0 R P m w) (hk : KeepB (fun b => b = R) w w') (hr : RdUp w' R P') (hP : P' ≤ P + m * 10000 + 10000) : KeepB (fun b => b = R) w w' ∧ RI w0 R P (m + 1) w' := ⟨hk, h.1.trans hk, hr.more (by omega)⟩
theorem RI.size {w0 w : World} {R P m : Nat} (h : RI w0 R P m w) : w0.heap.size ≤ w.heap.size := h.1.size

theorem num_blk (R P g : Nat) (xs : List Int) (w : World) (T : TypeId) (hk : 0 < xs.length) (hk2 : xs.length ≤ 1000) (hP : P < 1125899906842624) (hg : w.heap[g]? = some (.cells (xs.map (Value.int .i64)).toArray T (0, 0))) (hgR : g ≠ R) (hr : RdUp w R P) :
    Calls Try.prog 39 #[.pointer (some ⟨R, 0, none⟩), .slice (some ⟨g, 0, none⟩) xs.length xs.length] w (NumUp R P xs w) := by
  have hb : Blk w g T (xs.map (Value.int .i64)).toArray := hg
  refine (num_up R P g 0 xs.length xs.length xs _ rfl hk (by omega) hP hgR hb.lt (fun i h => ?_) hr).mono fun e w' ⟨x, h1, h2, h3, h4⟩ => ⟨x, h1, h2, h3, h4⟩
  rw [Nat.zero_add, hb.cell]
  simp [h]

/-- A copy of a system that the call may write. -/
structure OutSt (w wr : World) (R P B gs : Nat) (al st : Int) (v : Value) (es : List Ed) (L : Nat) : Prop where
  blk : Blk wr gs 104 #[.int .i64 al, .int .i64 st, v]
  own : OwnEds wr B v es
  len : es.length ≤ L
  rd : RdUp wr R P
  keep : KeepB (fun b => b = R) w wr
  hB : w.heap.size ≤ B
  hgs : B ≤ gs
theorem OutSt.ne {w wr : World} {R P B gs : Nat} {al st : Int} {v : Value} {es : List Ed} {L : Nat} (h : OutSt w wr R P B gs al st v es L) : v.ownBlock ≠ some gs := fun e => own_ne h.own h.blk (by decide) gs e rfl
theorem OutSt.call {w wr w1 : World} {R P P' B gs : Nat} {al st : Int} {v : Value} {es : List Ed} {L : Nat} (h : OutSt w wr R P B gs al st v es L) (hk : KeepB (fun b => b = R) wr w1) (hr : RdUp w1 R P') (hR : R < w.heap.size) : OutSt w w1 R P' B gs al st v es L :=
  ⟨h.blk.keep hk (by have := h.hB; have := h.hgs; omega), own_keep h.own hk (fun g hg => by have := (h.own.lt g hg).1; have := h.hB; omega), h.len, hr, h.keep.trans hk, h.hB, h.hgs⟩
theorem OutSt.later {w wr w1 : World} {R P B gs : Nat} {al st : Int} {v : Value} {es : List Ed} {L : Nat} (h : OutSt w wr R P B gs al st v es L) (hb : Below wr.heap.size wr w1) (hR : R < w.heap.size) : OutSt w w1 R P B gs al st v es L := h.call (KeepB.of_below hb) (h.rd.later hb) hR
theorem OutSt.add {w wr w1 : World} {R P B gs : Nat} {al st : Int} {v v' : Value} {es : List Ed} {L : Nat} {x : Ed} (h : OutSt w wr R P B gs al st v es L) (hR : R < w.heap.size)
    (hown : w1.ownsRow B 112 3 v' (es.length + 1) (edCells es ++ [.int .i64 x.f, .int .i64 x.l, .int .i64 x.t])) (hg : wr.grownBy w1 v.ownBlock) (hat : v'.ownBlock = v.ownBlock ∨ v'.ownBlock = some wr.heap.size) :
    OutSt w (w1.setCell ⟨gs, 2, none⟩ v') R P B gs al st v' (es ++ [x]) (L + 1) := by
  have h1 := h.hB
  have h2 := h.hgs
  have hv : ∀ k, v.ownBlock = some k → B ≤ k ∧ k ≠ gs := fun k hk => ⟨(h.own.lt k hk).1, fun e => h.ne (by rw [hk, e])⟩
  have k1 : KeepB (fun b => v.ownBlock = some b) wr w1 := (KeepB.refl _ wr).grown hg (fun k hk _ => hk)
  have hb := h.blk.lt
  have hne' : v'.ownBlock ≠ some gs := fun e => by
    rcases hat with h3 | h3
    · exact h.ne (by rw [← h3, e])
    · rw [h3] at e; injection e with e; omega
  have k2 : KeepB (fun b => v.ownBlock = some b ∨ b = gs) wr (w1.setCell ⟨gs, 2, none⟩ v') := (k1.mono fun _ h => .inl h).setCell _ _ fun _ => .inr rfl
  refine ⟨?_, ?_, by have := h.len; simp; omega, h.rd.keep k2 ?_, (h.keep.grown hg (fun k hk hlt => by have := (hv k hk).1; omega)).setCell _ _ (fun hlt => by simp at hlt; omega), h1, h2⟩
  · have := (h.blk.keep k1 (fun hk => (hv _ hk).2 rfl)).set_ 2 v'
    simpa using this
  · have e : (es ++ [x]).length = es.length + 1 := by simp
    unfold OwnEds
    rw [e, edCells_append]
    exact ownsRow_setCell_other hown hne' _
  · rintro k (hk | rfl)
    · have := (hv k hk).1; omega
    · omega
theorem OutSt.up {w w0 wr : World} {R P P' B gs : Nat} {al st : Int} {v : Value} {es : List Ed} {L L' : Nat} (h : OutSt w0 wr R P B gs al st v es L) (hb : Below w.heap.size w w0) (hP : P ≤ P') (hL : L ≤ L') : OutSt w wr R P' B gs al st v es L' :=
  ⟨h.blk, h.own, by have := h.len; omega, h.rd.more hP, (KeepB.of_below hb).trans h.keep, Nat.le_trans hb.size h.hB, h.hgs⟩
theorem EdsAt.news {w : World} {B : Nat} {A : Option Addr} {es : List Ed} (h : EdsAt w B A es) (hn : 0 < es.length) : ∃ a, A = some a ∧ ∀ (j : Nat) u, (edCells es)[j]? = some u → w.cell? (a.add j) = some u := by
  obtain ⟨b, o, hA, -, hE⟩ := h hn
  refine ⟨_, hA, fun j u hj => ?_⟩
  have hjl : j < es.length * 3 := by
    rw [← edCells_len]
    rcases Nat.lt_or_ge j (edCells es).length with h | h
    · exact h
    · rw [List.getElem?_eq_none h] at hj; cases hj
  have hadd : (⟨b, o, none⟩ : Addr).add j = ⟨b, o + j, none⟩ := by unfold Addr.add; split <;> simp_all
  rw [hadd]
  have hi : j / 3 < es.length := by omega
  obtain ⟨c0, c1, c2⟩ := hE (j / 3) hi
  obtain ⟨d0, d1, d2⟩ := edCells_at es (j / 3) hi
  rcases (by omega : j = j / 3 * 3 ∨ j = j / 3 * 3 + 1 ∨ j = j / 3 * 3 + 2) with e | e | e
  · rw [← e] at d0; rw [hj] at d0; rw [← c0] at d0; rw [show o + j = o + j / 3 * 3 from by omega]; exact d0.symm
  · rw [← e] at d1; rw [hj] at d1; rw [← c1] at d1; rw [show o + j = o + j / 3 * 3 + 1 from by omega]; exact d1.symm
  · rw [← e] at d2; rw [hj] at d2; rw [← c2] at d2; rw [show o + j = o + j / 3 * 3 + 2 from by omega]; exact d2.symm
end Go.Proofs.Ytdkjnemakkppfaa

/- The drawing kit: l2Big, l2Any. -/
namespace Go.Proofs.Ytdkjnemakkppfaa
open Go.RowKit Go.BigFrame AG

theorem RndSt.call {w wr w1 : World} {R P gs : Nat} {al st : Int} {lv : Value} {ls : List Nat} {N N' : Nat} {v : Value} {es : List Ed} (h : RndSt w wr R P gs al st lv ls N v es) (hR : R < w.heap.size) (hgs : w.heap.size < gs) (hN : N ≤ N') (hr : RdUp w1 R (P + N')) (hk : KeepB (fun b => b = R) wr w1) :
    RndSt w w1 R P gs al st lv ls N' v es :=
  ⟨by have := h.len; omega, h.blk.keep hk (by omega), own_keep h.own hk (fun g hg => by have := (h.own.lt g hg).1; omega), own_keep h.list hk (fun g hg => by have := (World.ownsRow.lt h.list g hg).1; omega), hr, h.keep.trans hk, h.res.keep hk (by omega)⟩
theorem RndSt.more {w wr : World} {R P gs : Nat} {al st : Int} {lv : Value} {ls : List Nat} {N N' : Nat} {v : Value} {es : List Ed} (h : RndSt w wr R P gs al st lv ls N v es) (hN : N ≤ N') : RndSt w wr R P gs al st lv ls N' v es :=
  ⟨by have := h.len; omega, h.blk, h.own, h.list, h.rd.more (by omega), h.keep, h.res⟩
/-- As SyUp, with an edge at least. -/
def SyUp1 (R P L : Nat) (w : World) (e : Ending) (w' : World) : Prop :=
  ∃ (s : Sy) (A : Option Addr) (c : Nat), e = .returned (s.val A c) ∧ s.es.length ≤ c ∧ c ≤ 9223372036854775807 ∧ s.es.length ≤ L ∧ EdsAt w' w'.heap.size A s.es ∧ FreshA w.heap.size A ∧ RdUp w' R P ∧ KeepB (fun b => b = R) w w' ∧ 1 ≤ s.es.length
theorem SyUp1.of {R P L : Nat} {w w' : World} {s : Sy} {A : Option Addr} {c : Nat} (h : SyUp R P L w (.returned (s.val A c)) w') (hn : 1 ≤ s.es.length) : SyUp1 R P L w (.returned (s.val A c)) w' := by
  obtain ⟨s', A', c', e, a1, a2, a3, a4, a5, a6, a7⟩ := h
  have hl : s'.es.length = s.es.length := by
    unfold Sy.val at e
    injection e with e
    injection e with e
    simp at e
    exact e.2.2.2.1.symm
  exact ⟨s', A', c', e, a1, a2, a3, a4, a5, a6, a7, by omega⟩

end Go.Proofs.Ytdkjnemakkppfaa
