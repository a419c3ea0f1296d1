/- Lemmas, part 8: several texts in one. -/
import Derived.Test.YtdkjnemakkppfaaT6
import Derived.Test.YtdkjnemakkppfaaT7
import Derived.Test.YtdkjnemakkppfaaT4
import Derived.Test.YtdkjnemakkppfaaT3
import Derived.Test.YtdkjnemakkppfaaT1
import Derived.Test.YtdkjnemakkppfaaT5
import Derived.Test.YtdkjnemakkppfaaT2
set_option linter.unusedSimpArgs false
set_option linter.unusedVariables false

/- An append to an owned row inside a statement that draws its order. -/
namespace AG
open Go Go.RowKit

/-- What an append hands back. -/
def Done (base : Nat) (e : TypeId) (size n : Nat) (ys : List Value) (row : Option Nat) (Bd : Nat) (u : Value) (w : World) : Prop :=
  w.ownsRow base e size u n ys ∧ (u.ownBlock = row ∨ ∀ k, u.ownBlock = some k → Bd ≤ k)
theorem Done.below {base : Nat} {e : TypeId} {size n : Nat} {ys : List Value} {row : Option Nat} {Bd : Nat} {u : Value} {w w' : World} (h : Done base e size n ys row Bd u w) (hb : Below w.heap.size w w') : Done base e size n ys row Bd u w' :=
  ⟨own_keep h.1 (.of_below (K := fun _ => False) hb) fun _ _ h => h, h.2⟩

theorem append_two {P : Program} (w : World) (base : Nat) (t ty e : TypeId) (i : TypeInfo) (z : Value) (size bytes : Nat) (ht : P.underlying t = some (.slice e)) (hi : P.info? e = some i) (hz : i.zero = some z)
    (hsize : i.size = size) (hby : i.bytes = bytes) (hzs : z.cells.size = size) (hsz : 0 < size) (v : Value) (n : Nat) (xs : List Value) (hown : w.ownsRow base e size v n xs)
    (a : Addr) (m c : Nat) (news : List Value) (hl : news.length = m * size) (hnews : ∀ j u, news[j]? = some u → w.cell? (a.add j) = some u) (h1 : ∀ u ∈ news, u.oneCell' = true) (hm : 0 < m)
    (h63 : n + m ≤ maxLen) (hbytes : (n + m) * bytes ≤ 140737488355328) (hbase : base ≤ w.heap.size) (Bd : Nat) (hBd : Bd ≤ w.heap.size) :
    ∃ v' w', (Builtin.append_ #[t, t] ty #[v, .slice (some a) m c]).run P w = .ok v' w' ∧ KeepB (fun b => v.ownBlock = some b) w w' ∧ w'.ownsRow base e size v n xs ∧ Done base e size (n + m) (xs ++ news) v.ownBlock Bd v' w' ∧
      ∀ u, Done base e size (n + m) (xs ++ news) v.ownBlock Bd u w → Done base e size (n + m) (xs ++ news) v.ownBlock Bd u w' := by
  subst hsize
  subst hby
  have hsmall : n + m ≤ 9223372036854775807 := by simp only [maxLen] at h63; omega
  have hlen : (xs ++ news).length = (n + m) * i.size := by rw [List.length_append, hown.1, hl, Nat.add_mul]
  have grown : ∀ (old : Nat), 
      (w.drew.alloc (.cells (xs.toArray ++ news.toArray ++ Builtin.zeroCells z.cells (grownCap w (n + m) old e - (n + m))) e)).ownsRow base e i.size
        (.slice (some ⟨w.heap.size, 0, none⟩) (n + m) (grownCap w (n + m) old e)) (n + m) (xs ++ news) := by
    intro old
    have hge := grownCap_ge w (n + m) old e
    have hcm : grownCap w (n + m) old e ≤ maxLen := grownCap_le_maxLen w (n + m) old e h63
    refine ⟨hlen, .inr ⟨w.heap.size, _, _, rfl, hbase, heap_alloc_new w.drew _, hge, hcm, ?_, ?_⟩⟩
    · simp only [Array.size_append, List.size_toArray, size_zeroCells, hzs, hown.1, hl, ← Nat.add_mul]
      congr 1
      omega
    · simp only [Array.toList_append, List.append_assoc]
      rw [← List.append_assoc, ← hlen]
      exact List.take_left
  have hbl : ∀ o, Below w.heap.size w (w.drew.alloc o) := fun o => (Below.refl w.heap.size w).drew.alloc (Nat.le_refl _) o
  have hnb : ∀ (x y k : Nat), (Value.slice (some ⟨w.heap.size, 0, none⟩) x y).ownBlock = some k → Bd ≤ k := fun x y k hk => by
    have : w.heap.size = k := by injection hk
    omega
  have hown0 := hown
  rcases hown.2 with ⟨rfl, rfl⟩ | ⟨g, cap, cur, rfl, hbg, hg, hnc, hcm, hcs, htake⟩
  · have hx : xs = [] := List.eq_nil_of_length_eq_zero (by simpa using hown.1)
    subst hx
    have hr := run_append_nil (P := P) w t ty e i z ht hi hz a m c news hl hnews (by omega) (by omega) (by have hb := hbytes; simp only [Nat.zero_add] at hb; omega)
    have hgr := grown 0
    simp only [Nat.zero_add, List.nil_append, Array.empty_append] at hgr ⊢
    exact ⟨_, _, hr, KeepB.of_below (hbl _), own_keep hown0 (.of_below (K := fun _ => False) (hbl _)) fun _ _ h => h, ⟨hgr, .inr (hnb _ _)⟩, fun u hu => hu.below (hbl _)⟩
  · by_cases hroom : n + m ≤ cap
    · have hfit : n * i.size + news.length ≤ cur.size := by rw [hl, hcs, ← Nat.add_mul]; exact Nat.mul_le_mul_right _ hroom
      have hr := run_append_room (P := P) w t ty e i ht hi g n cap cur hg a m c news hl hnews h1 hroom hfit
      have hgr : w.grownBy (w.setRow g (cur.toList.take (n * i.size) ++ news ++ cur.toList.drop (n * i.size + news.length)).toArray) (some g) := ⟨rfl, rfl, rfl, by simp, fun k _ hk => setRow_other w g k _ (fun e => hk (by simp [e]))⟩
      have hk : KeepB (fun b => some g = some b) w (w.setRow g (cur.toList.take (n * i.size) ++ news ++ cur.toList.drop (n * i.size + news.length)).toArray) := (KeepB.refl _ w).grown hgr fun k hk _ => hk
      have hsz2 : (cur.toList.take (n * i.size) ++ news ++ cur.toList.drop (n * i.size + news.length)).toArray.size = cap * i.size := by
        simp only [List.size_toArray, List.length_append, List.length_take, List.length_drop, Array.length_toList]
        omega
      have hnew : (w.setRow g (cur.toList.take (n * i.size) ++ news ++ cur.toList.drop (n * i.size + news.length)).toArray).ownsRow base e i.size (.slice (some ⟨g, 0, none⟩) (n + m) cap) (n + m) (xs ++ news) := by
        refine ⟨hlen, .inr ⟨g, cap, _, rfl, hbg, setRow_heap w g cur _ e _ hg, hroom, hcm, hsz2, ?_⟩⟩
        rw [htake, ← hlen]
        exact List.take_left
      refine ⟨_, _, hr, hk, ⟨hown.1, .inr ⟨g, cap, _, rfl, hbg, setRow_heap w g cur _ e _ hg, hnc, hcm, hsz2, ?_⟩⟩, ⟨hnew, .inl rfl⟩, ?_⟩
      · rw [htake, ← hown.1, List.append_assoc]
        exact List.take_left
      · rintro u ⟨hu1, hu2⟩
        rcases hu1.2 with ⟨rfl, h0⟩ | ⟨g', cap', cur', rfl, hbg', hg', hnc', hcm', hcs', htk'⟩
        · omega
        · by_cases e : g' = g
          · subst e
            rw [hg] at hg'
            injection hg' with hg'
            injection hg' with hg' _ _
            subst hg'
            have : cap' = cap := Nat.eq_of_mul_eq_mul_right hsz (by rw [← hcs', ← hcs])
            subst this
            exact ⟨hnew, .inl rfl⟩
          · refine ⟨own_keep hu1 hk fun k hk' e' => e ?_, hu2⟩
            have h2 : g' = k := by injection hk'
            have h3 : g = k := by injection e'
            omega
    · have holds : ∀ j u, xs[j]? = some u → w.cell? ((⟨g, 0, none⟩ : Addr).add j) = some u := hown.cells (g := g) rfl
      have hr := run_append_grow (P := P) w t ty e i z ht hi hz ⟨g, 0, none⟩ n cap xs hown.1 holds a m c news hl hnews (by omega) (by omega) (growslice_fits (by omega) hbytes)
      exact ⟨_, _, hr, KeepB.of_below (hbl _), own_keep hown0 (.of_below (K := fun _ => False) (hbl _)) fun _ _ h => h, ⟨grown cap, .inr (hnb _ _)⟩, fun u hu => hu.below (hbl _)⟩

namespace GK
def AS (D : Value → World → Prop) (K : Nat → Prop) (w w' : World) : Prop := KeepB K w w' ∧ ∀ u, D u w → D u w'
def AI (w1 : World) (base : Nat) (e : TypeId) (size : Nat) (v : Value) (n : Nat) (xs : List Value) : Nat → World → Prop := fun _ w => KeepB (fun b => v.ownBlock = some b) w1 w ∧ w.ownsRow base e size v n xs
section
variable {P : Program} {ops : Array Oper} {M : Nat} {sp : Nat → Value → World → Prop} {w0 w1 : World} {D : Value → World → Prop} {K : Nat → Prop} {base : Nat} {e : TypeId} {size : Nat} {v : Value} {n : Nat} {xs : List Value}
variable {Q : List (Nat × (World → Prop)) → Act → Prop} {o : Oper} {rest : List Oper} {i : Nat} {Γ : List (Nat × (World → Prop))} {a : Act}
theorem AI.way : Way (AS D K) (AI w1 base e size v n xs) := ⟨fun w => ⟨KeepB.refl _ _, fun _ h => h⟩, fun _ _ _ h k => ⟨h.1.trans k.1, fun u hu => k.2 u (h.2 u hu)⟩, fun _ _ h => h⟩
theorem AI.begin (h : w1.ownsRow base e size v n xs) : AI w1 base e size v n xs 0 w1.drew :=
  ⟨.of_below (Below.refl _ _).drew, own_keep h (.of_below (K := fun _ => False) (Below.refl _ _).drew) fun _ _ h => h⟩
theorem AI.cell {b o : Nat} {y : Value} (hown : w1.ownsRow base e size v n xs) (h : w1.cell? ⟨b, o, none⟩ = some y) (hb : v.ownBlock ≠ some b) (x : World) : (FamI (Upto (AI w1 base e size v n xs) 200) w1 x).cell? ⟨b, o, none⟩ = some y := by
  obtain ⟨_, _, h2, _⟩ := FamI.is (J := Upto (AI w1 base e size v n xs) 200) (w1 := w1) ⟨0, by omega, KeepB.refl _ _, hown⟩ x
  rw [World.cell?_of_block (h2.block b (World.block_lt_of_cell? _ _ h) hb)]
  exact h
theorem grow_newA (hw : Region.wanted o (yielded ops a.tmps) = true) (mk : Nat → Value) (T : TypeId) (cs : Array Value) (hrun : ∀ w, (execOp a.eval o).run P w = .ok (.value (mk w.heap.size)) (w.alloc (.cells cs T)))
    (hK : ∀ k, K k → k < w1.heap.size) (hD : ∀ u w w', D u w → Below w.heap.size w w' → D u w')
    (h : ∀ b, w1.heap.size ≤ b → wpGrow P ops (AS D K) (AI w1 base e size v n xs) M w0 sp Q rest (i + 1) ((i, fun w' => ∃ b', mk b = mk b' ∧ w1.heap.size ≤ b' ∧ w'.heap[b']? = some (.cells cs T (0, 0))) :: Γ) (a.put o.dst (mk b))) :
    wpGrow P ops (AS D K) (AI w1 base e size v n xs) M w0 sp Q (o :: rest) i Γ a := by
  refine grow_fact (fun u w' => ∃ b', u = mk b' ∧ w1.heap.size ≤ b' ∧ w'.heap[b']? = some (.cells cs T (0, 0))) hw (fun u w w' hb ⟨b', h1, h2, h3⟩ => ⟨b', h1, h2, ?_⟩) (fun m w hm hb _ => ?_) fun u ⟨_, w', _, b', hu, h2, _⟩ => by subst hu; exact h b' h2
  · rw [hb.1.block b' (by
      rcases Nat.lt_or_ge b' w.heap.size with h | h
      · exact h
      · rw [Array.getElem?_eq_none h] at h3; cases h3) (fun hk => by have := hK _ hk; omega), h3]
  · rw [hrun]
    have hbl : Below w.heap.size w (w.alloc (.cells cs T)) := (Below.refl _ w).alloc (Nat.le_refl _) _
    exact ⟨⟨⟨.of_below hbl, fun u hu => hD u _ _ hu hbl⟩, hb.1.trans (.of_below hbl), own_keep hb.2 (.of_below (K := fun _ => False) hbl) fun _ _ h => h⟩, w.heap.size, rfl, hb.1.size, heap_alloc_new w _⟩
theorem grow_app (hw : Region.wanted o (yielded ops a.tmps) = true) (s x : Operand) (t : TypeId) (ho : o.op = .call { callee := .builtin .append, args := #[s, x], argTypes := #[t, t] })
    (ti : TypeInfo) (z : Value) (bytes : Nat) (ht : P.underlying t = some (.slice e)) (hi : P.info? e = some ti) (hz : ti.zero = some z)
    (hsize : ti.size = size) (hby : ti.bytes = bytes) (hzs : z.cells.size = size) (hsz : 0 < size) (hs : a.eval s = v) (ad : Addr) (m c : Nat) (news : List Value) (hx : a.eval x = .slice (some ad) m c) (hl : news.length = m * size)
    (hA : ∀ w, FactsAt .any ops i Γ w → ∀ j u, news[j]? = some u → w.cell? (ad.add j) = some u) (h1 : ∀ u ∈ news, u.oneCell' = true) (hm0 : 0 < m)
    (h63 : n + m ≤ maxLen) (hbytes : (n + m) * bytes ≤ 140737488355328) (hbase : base ≤ w1.heap.size)
    (h : ∀ u, (∃ w', KeepB (fun b => v.ownBlock = some b) w1 w' ∧ Done base e size (n + m) (xs ++ news) v.ownBlock w1.heap.size u w') → wpGrow P ops (AS (Done base e size (n + m) (xs ++ news) v.ownBlock w1.heap.size) fun b => v.ownBlock = some b) (AI w1 base e size v n xs) M w0 sp Q rest (i + 1) ((i, Done base e size (n + m) (xs ++ news) v.ownBlock w1.heap.size u) :: Γ) (a.put o.dst u)) :
    wpGrow P ops (AS (Done base e size (n + m) (xs ++ news) v.ownBlock w1.heap.size) fun b => v.ownBlock = some b) (AI w1 base e size v n xs) M w0 sp Q (o :: rest) i Γ a := by
  refine grow_fact (fun u w' => Done base e size (n + m) (xs ++ news) v.ownBlock w1.heap.size u w') hw (fun u w w' hS hu => hS.2 u hu) (fun k w hk hb hf => ?_) fun u ⟨_, w', h1, h2⟩ => h u ⟨w', h1.1, h2⟩
  have hz1 := hb.1.size
  obtain ⟨v', w', hr, h2, h3, h4, h5⟩ := append_two (P := P) w base t o.type e ti z size bytes ht hi hz hsize hby hzs hsz v n xs hb.2 ad m c news hl (hA w hf) h1 hm0 h63 hbytes (by omega) w1.heap.size (by omega)
  unfold execOp
  simp only [ho, resolve, invoke, builtin, Sem.run_bind, Sem.run_pure, Result.andThen_ok, List.map_toArray, List.map_cons, List.map_nil, hs, hx, hr]
  exact ⟨⟨⟨h2, h5⟩, hb.1.trans h2, h3⟩, h4⟩
end
end GK
end AG

/- The drawing kit: l3Wrong. -/
namespace Go.Proofs.Ytdkjnemakkppfaa
open Go.RowKit Go.BigFrame AG

section
variable {K : Nat → Prop} {w0 wr w1 : World} {gs : Nat} {v1 v2 : Value} {a : Au} {xs : List RowV}
/-- A row is replaced by one that an append has made of it. -/
theorem AuSt.growRow {l1 l2 : List RowV} {x x' : RowV} {gT n c k : Nat} (hl : l1.length = k) (hn : n = (l1 ++ x :: l2).length) (h : AuSt K w0 wr gs (.slice (some ⟨gT, 0, none⟩) n c) v2 a (l1 ++ x :: l2)) (hk : KeepB (fun b => x.v.ownBlock = some b) wr w1)
    (hat : x'.v.ownBlock = x.v.ownBlock ∨ ∀ j, x'.v.ownBlock = some j → wr.heap.size ≤ j) (ho : w1.ownsRow w0.heap.size 3 1 x'.v x'.r.length (intVals x'.r)) :
    AuSt K w0 (w1.setCell ⟨gT, k, none⟩ x'.v) gs (.slice (some ⟨gT, 0, none⟩) n c) v2 ⟨a.al, (l1 ++ x' :: l2).map (·.r), a.ac⟩ (l1 ++ x' :: l2) := by
  subst hn hl
  have hx := h.own.rows.rows x (by simp)
  have hT := h.own.rows.own
  have hT1 : w1.ownsRow w0.heap.size 40 1 (.slice (some ⟨gT, 0, none⟩) (l1 ++ x :: l2).length c) (l1 ++ x :: l2).length (rowVals (l1 ++ x :: l2)) := own_keep hT hk fun g hg e => own_ne_own hT hx (by decide) g g hg e rfl
  have hs := (World.ownsRow.stored hT1 l1.length x'.v).1
  have hgT := hT1.lt gT rfl
  have hkB : KeepB (fun b => b = gT) w1 (w1.setCell ⟨gT, l1.length, none⟩ x'.v) := (KeepB.refl _ w1).setCell _ _ fun _ => rfl
  have hsz := hk.size
  have hrow1 : ∀ y, y ∈ l1 ++ x' :: l2 → w1.ownsRow w0.heap.size 3 1 y.v y.r.length (intVals y.r) := fun y hy => by
    have hap := h.own.rows.apart
    rw [List.pairwise_append, List.pairwise_cons] at hap
    rw [List.mem_append, List.mem_cons] at hy
    rcases hy with hy | rfl | hy
    · exact own_keep (h.own.rows.rows y (by simp [hy])) hk fun g hg e => hap.2.2 y hy x List.mem_cons_self g hg e
    · exact ho
    · exact own_keep (h.own.rows.rows y (by simp [hy])) hk fun g hg e => hap.2.1.1 y hy g e hg
  have hblk1 := h.blk.keep hk fun e => own_ne hx h.blk (by decide) _ e rfl
  have e1 : rowVals (l1 ++ x' :: l2) = (rowVals (l1 ++ x :: l2)).set l1.length x'.v := by
    unfold rowVals
    rw [List.map_append, List.map_append, List.map_cons, List.map_cons, List.set_append_right _ _ (by rw [List.length_map]; exact Nat.le_refl _), List.length_map, Nat.sub_self, List.set_cons_zero]
  have e2 : (l1 ++ x' :: l2).length = (l1 ++ x :: l2).length := by simp
  have hkeep : KeepB K w0 w1 := ⟨hk.os.trans h.keep.os, hk.tape.trans h.keep.tape, hk.output.trans h.keep.output, Nat.le_trans h.keep.size hk.size, fun i hi hne => (hk.block i (Nat.lt_of_lt_of_le hi h.keep.size) fun e => by have := (hx.lt i e).1; omega).trans (h.keep.block i hi hne)⟩
  refine ⟨hkeep.setCell _ _ fun hlt => by simp at hlt; omega, h.ge, ⟨⟨by rw [e1, e2]; exact hs, fun y hy => own_keep (hrow1 y hy) hkB fun k hk e => own_ne_own hT1 (hrow1 y hy) (by decide) gT k rfl hk e.symm, ?_⟩, rfl, ?_⟩, hblk1.keep hkB fun e => own_ne hT1 hblk1 (by decide) gT rfl e.symm⟩
  · have hap := h.own.rows.apart
    have hlt : ∀ y ∈ l1 ++ x :: l2, ∀ g, y.v.ownBlock = some g → g < wr.heap.size := fun y hy g e => (h.rowLt hy e).2
    rw [List.pairwise_append, List.pairwise_cons] at hap ⊢
    refine ⟨hap.1, ⟨fun y hy k e e' => ?_, hap.2.1.2⟩, fun y hy z hz k e e' => ?_⟩
    · have := hlt y (by simp [hy]) k e'
      rcases hat with h | h
      · exact hap.2.1.1 y hy k (by rw [← h]; exact e) e'
      · have := h k e; omega
    · have := hlt y (by simp [hy]) k e
      rcases List.mem_cons.1 hz with rfl | hz
      · rcases hat with h | h
        · exact hap.2.2 y hy x List.mem_cons_self k e (by rw [← h]; exact e')
        · have := h k e'; omega
      · exact hap.2.2 y hy z (List.mem_cons_of_mem _ hz) k e e'
  · have h1 := own_keep h.own.acc hk fun g hg e => own_ne_own h.own.acc hx (by decide) g g hg e rfl
    exact own_keep h1 hkB fun g hg e => own_ne_own hT1 h1 (by decide) gT g rfl hg e.symm
/-- The table is laid anew, empty. -/
theorem AuSt.clear {b : Nat} (h : AuSt K w0 wr gs v1 v2 a xs) (hb : w0.heap.size ≤ b) (hB : wr.heap[b]? = some (.cells #[] 40 (0, 0))) :
    AuSt K w0 (wr.setCell ⟨gs, 1, none⟩ (.slice (some ⟨b, 0, none⟩) 0 0)) gs (.slice (some ⟨b, 0, none⟩) 0 0) v2 ⟨a.al, [], a.ac⟩ [] := by
  have hkB : KeepB (fun b => b = gs) wr (wr.setCell ⟨gs, 1, none⟩ (.slice (some ⟨b, 0, none⟩) 0 0)) := (KeepB.refl _ wr).setCell _ _ fun _ => rfl
  have ho : wr.ownsRow w0.heap.size 40 1 (.slice (some ⟨b, 0, none⟩) 0 0) 0 [] := ⟨rfl, .inr ⟨b, 0, #[], rfl, hb, hB, Nat.le_refl _, Nat.zero_le _, by simp, by simp⟩⟩
  exact ⟨h.keep.setCell _ _ fun hlt => by have := h.ge; simp at hlt; omega, h.ge, ⟨⟨own_keep ho hkB (own_ne ho h.blk (by decide)), fun x hx => (by cases hx), List.Pairwise.nil⟩, rfl, own_keep h.own.acc hkB (own_ne h.own.acc h.blk (by decide))⟩, by simpa using h.blk.set_ 1 (.slice (some ⟨b, 0, none⟩) 0 0)⟩
/-- The marks are laid anew, empty. -/
theorem AuSt.clear2 {b : Nat} (h : AuSt K w0 wr gs v1 v2 a xs) (hb : w0.heap.size ≤ b) (hB : wr.heap[b]? = some (.cells #[] 4 (0, 0))) :
    AuSt K w0 (wr.setCell ⟨gs, 2, none⟩ (.slice (some ⟨b, 0, none⟩) 0 0)) gs v1 (.slice (some ⟨b, 0, none⟩) 0 0) ⟨a.al, a.nx, []⟩ xs := by
  have hkB : KeepB (fun b => b = gs) wr (wr.setCell ⟨gs, 2, none⟩ (.slice (some ⟨b, 0, none⟩) 0 0)) := (KeepB.refl _ wr).setCell _ _ fun _ => rfl
  have ho : wr.ownsRow w0.heap.size 4 1 (.slice (some ⟨b, 0, none⟩) 0 0) 0 [] := ⟨rfl, .inr ⟨b, 0, #[], rfl, hb, hB, Nat.le_refl _, Nat.zero_le _, by simp, by simp⟩⟩
  exact ⟨h.keep.setCell _ _ fun hlt => by have := h.ge; simp at hlt; omega, h.ge, ⟨h.own.rows.keep hkB (own_ne h.own.rows.own h.blk (by decide)) fun y hy => own_ne (h.own.rows.rows y hy) h.blk (by decide), h.own.eq, own_keep ho hkB (own_ne ho h.blk (by decide))⟩, by simpa using h.blk.set_ 2 (.slice (some ⟨b, 0, none⟩) 0 0)⟩
end

theorem AuSz.up {a : Au} {N M : Nat} (h : AuSz N a) (hN : N ≤ M) : AuSz M a := ⟨by have := h.1; omega, by have := h.2.1; omega, fun r hr => by have := h.2.2 r hr; omega⟩
def lenAt (w : World) (g o : Nat) : Nat := match w.cell? ⟨g, o, none⟩ with | some (.slice _ n _) => n | _ => 0
theorem szPut {a : Au} {N n m : Nat} {t : Bool} (hn : Hid (n = a.nx.length)) (hm : Hid (m = a.ac.length)) (s1 : n ≤ N) (s2 : m ≤ N) (s3 : ∀ r ∈ a.nx, r.length ≤ N) : AuSz (N + 13) ⟨a.al, a.nx, a.ac ++ [t]⟩ :=
  ⟨by have := hn.out; show a.nx.length ≤ _; omega, by have := hm.out; show (a.ac ++ [t]).length ≤ _; rw [List.length_append]; simp; omega, fun r hr => by have := s3 r hr; omega⟩

theorem szRow1 {a : Au} {N n m : Nat} {l1 l2 : List RowV} {r : List Int} {Ax Au' : Option Addr} {cx cu : Nat} (h : Hid ((l1 ++ ⟨r, Ax, cx⟩ :: l2).map (·.r) = a.nx)) (hn : Hid (n = a.nx.length)) (hm : Hid (m = a.ac.length)) (s1 : n ≤ N) (s2 : m ≤ N) (s3 : ∀ r ∈ a.nx, r.length ≤ N) : AuSz (N + 13) ⟨a.al, (l1 ++ ⟨r ++ [0], Au', cu⟩ :: l2).map (·.r), a.ac⟩ := by
  have e := h.out
  have hn' := hn.out
  have hm' := hm.out
  refine ⟨?_, by show a.ac.length ≤ _; omega, fun r' hr => ?_⟩
  · have : a.nx.length = l1.length + (l2.length + 1) := by rw [← e]; simp
    show ((l1 ++ (⟨r ++ [0], Au', cu⟩ : RowV) :: l2).map (·.r)).length ≤ N + 13
    simp
    omega
  · obtain ⟨y, hy, rfl⟩ := List.mem_map.1 hr
    have key : ∀ z ∈ l1 ++ (⟨r, Ax, cx⟩ : RowV) :: l2, z.r.length ≤ N := fun z hz => s3 _ (by rw [← e]; exact List.mem_map_of_mem hz)
    rcases List.mem_append.1 hy with hy | hy
    · have := key y (List.mem_append_left _ hy); omega
    · rcases List.mem_cons.1 hy with rfl | hy
      · have : r.length ≤ N := key ⟨r, Ax, cx⟩ (by simp)
        show (r ++ [0]).length ≤ _
        rw [List.length_append]
        simp
        omega
      · have := key y (List.mem_append_right _ (List.mem_cons_of_mem _ hy)); omega

set_option maxRecDepth 100000 in
set_option maxHeartbeats 16000000 in
theorem l3Wrong_up (R P N : Nat) (a : Au) (A B : Option Addr) (c d : Nat) (w : World) (hP : P + 400000000 ≤ 1125899906842624) (hN : N ≤ 100000) (hsz : AuSz N a) (hr : RdUp w R P) (ha : AuAt w A c B d a) :
    Calls Try.prog 24 #[.pointer (some ⟨R, 0, none⟩), a.val A c B d] w (AuUp (AuSz (N + 13)) R (P + 4000000) w) := by
  obtain ⟨i0, hi, hz0, hz1, hz2⟩ := info_parts infoInt
  obtain ⟨j0, hj, jz0, jz1, jz2⟩ := info_parts infoRows
  obtain ⟨b0, hb, bz0, bz1, bz2⟩ := info_parts infoBools
  have hR := hr.lt
  obtain ⟨wA, hwA, hz00, hBA, hS, -⟩ := boxed2 w #[Value.int IntKind.i64 a.al, Value.slice A a.nx.length c, Value.slice B a.ac.length d] 26 #[Value.int IntKind.i64 0, Value.slice none 0 0, Value.slice none 0 0] 26
  have hres : Hid (Blk wA (w.heap.size + 1) 26 #[Value.int IntKind.i64 0, Value.slice none 0 0, Value.slice none 0 0]) := hid (by
    rw [← hwA]
    have := Blk.new (w.alloc (.cells #[Value.int IntKind.i64 a.al, Value.slice A a.nx.length c, Value.slice B a.ac.length d] 26)) 26 #[Value.int IntKind.i64 0, Value.slice none 0 0, Value.slice none 0 0]
    simpa using this)
  have hzAe : Hid (wA.heap.size = w.heap.size + 2) := hid (by rw [← hwA]; simp)
  have hK : ∀ b, b = R → b < wA.heap.size := fun b e => by have := hzAe.out; omega
  have haA := hid (ha.later hBA)
  have hrA := hid (hr.later hBA)
  have p0 := hS 0 _ rfl _ (Below.refl _ _)
  have p1 := hS 1 _ rfl _ (Below.refl _ _)
  have p2 := hS 2 _ rfl _ (Below.refl _ _)
  replace ha := hid ha
  replace hr := hid hr
  obtain ⟨s1, s2, s3⟩ := hsz
  unfold AG.Au.val
  go_enter Try.func24, Try.ntmps24
  go_wp2_with fail
  refine (l3Copy_any a A B c d wA ⟨by omega, by omega, fun r hr => by have := s3 r hr; omega⟩ haA.out).mono ?_
  rintro e w1 ⟨v1, v2, xs, rfl, ho, hb1⟩
  have hst := AuSt.of (K := fun b => b = R) ho (KeepB.of_below hb1)
  have hr1 := (hrA.out.later hb1).later ((Below.refl _ w1).alloc (Nat.le_refl _) (.cells #[.int .i64 a.al, v1, v2] 26))
  obtain ⟨A1, c1, e1, -, -⟩ := own_slice hst.own.rows.own
  obtain ⟨A2, c2, e2, -, -⟩ := own_slice hst.own.acc
  subst e1 e2
  clear p0 p1 p2 hwA ho
  obtain ⟨n, hnx⟩ : ∃ n, Hid (n = a.nx.length) := ⟨_, hid rfl⟩
  have hxl := hst.len
  rw [hxl, ← hnx.out] at hst hr1 ⊢
  obtain ⟨m, hac⟩ : ∃ m, Hid (m = a.ac.length) := ⟨_, hid rfl⟩
  rw [← hac.out] at hst hr1 s2 ⊢
  rw [← hnx.out] at s1 hxl
  have hxl' := hid hxl
  clear hxl
  obtain ⟨gs, hgs⟩ : ∃ gs, Hid (gs = w1.heap.size) := ⟨_, hid rfl⟩
  obtain ⟨w2, hw2⟩ : ∃ w2, Hid (w1.alloc (.cells #[.int .i64 a.al, .slice A1 n c1, .slice A2 m c2] 26) = w2) := ⟨_, hid rfl⟩
  rw [hw2.out] at hst hr1
  rw [← hgs.out] at hst
  replace hst := hid hst
  replace hr1 := hid hr1
  go_upto_region 2 with fail
  rw [hw2.out, ← hgs.out]
  clear hw2 hgs
  have k1 := hst.out.blk.cell 1
  simp only [List.getElem?_toArray, List.getElem?_cons_zero, List.getElem?_cons_succ] at k1
  go_wp2_with fail
  refine (pick_up R P (n : Nat) w2 (by omega) (by omega) hr1.out).mono ?_
  rintro e w3 ⟨k, rfl, hk0, hk1, hr3, hk3⟩
  obtain ⟨kn, rfl⟩ := Int.eq_ofNat_of_zero_le hk0
  have hkn := hid (show 0 < n → kn < n from fun h => by omega)
  have hs3 := hid (hst.out.keepK hK hk3)
  replace hr3 := hid hr3
  clear hk0 hk1 hk3 k1
  go_wp2_with fail
  refine (pick_up R (P + 1) 30 w3 (by omega) (by omega) hr3.out).mono ?_
  rintro e w4 ⟨j, rfl, hj0, hj1, hr4, hk4⟩
  have hs := hid (hs3.out.keepK hK hk4)
  have hrd := hid hr4
  clear hr4 hk4 hs3
  have k1 := hs.out.blk.cell 1
  have k2 := hs.out.blk.cell 2
  simp only [List.getElem?_toArray, List.getElem?_cons_zero, List.getElem?_cons_succ] at k1 k2
  have hgsl := hs.out.blk.lt
  by_cases hj0c : j = 0
  · subst hj0c
    go_wp2_with fail
    refine (num_lit R (P + 1 + 1) [64, (-1), 1, 63, 0] w4 _ (by decide) (by decide) (by omega) hrd.out).mono ?_
    rintro e w5 ⟨x, hx, rfl, hr5, hk5⟩
    clear hx k1 k2
    have hs5 := hs.out.keepK hK hk5
    have hgs5 := hs5.blk.lt
    have g0 := hs5.blk.cell 0
    have y0 := hs5.blk.frozen 0
    simp only [List.getElem?_toArray, List.getElem?_cons_zero, List.getElem?_cons_succ] at g0
    have hset := hid (hs5.setAl x)
    have hrd5 := hid (hr5.keep ((KeepB.refl (fun b => wA.heap.size ≤ b) w5).setCell ⟨gs, 0, none⟩ (.int .i64 x) fun _ => hs5.ge) fun k hk => by have := hzAe.out; omega)
    obtain ⟨w6, hw6⟩ : ∃ w6, Hid (w5.setCell ⟨gs, 0, none⟩ (.int .i64 x) = w6) := ⟨_, hid rfl⟩
    rw [hw6.out] at hset hrd5
    replace hs5 := hid hs5
    replace hr5 := hid hr5
    replace hk5 := hid hk5
    go_upto_region 23 with fail
    rw [hw6.out]
    have k0 := hset.out.blk.cell 0
    have k1 := hset.out.blk.cell 1
    have k2 := hset.out.blk.cell 2
    have hbl := hid (hres.out.keep hset.out.keep (by have := hzAe.out; omega))
    have d0 := hbl.out.cell 0
    have d1 := hbl.out.cell 1
    have d2 := hbl.out.cell 2
    have f0 := hbl.out.frozen 0
    have f1 := hbl.out.frozen 1
    have f2 := hbl.out.frozen 2
    have hltb := hbl.out.lt
    simp only [List.getElem?_toArray, List.getElem?_cons_zero, List.getElem?_cons_succ] at d0 d1 d2 k0 k1 k2
    have hfin := hid (AuUp2.ret (w := w) (Q := AuSz (N + 13)) (P' := P + 4000000) (a := (⟨x, a.nx, a.ac⟩ : Au)) (show AuSz (N + 13) ⟨x, a.nx, a.ac⟩ from ((szSame hnx hac s1 s2 s3).up (by omega))) hset.out.own hzAe.out hrd5.out (by omega) ((KeepB.of_below hBA).trans hset.out.keep) hR (.int .i64 ((⟨x, a.nx, a.ac⟩ : Au)).al) (.slice A1 n c1) (.slice A2 m c2))
    go_wp2
    refine bodyPost_ret (v := .agg #[.int .i64 ((⟨x, a.nx, a.ac⟩ : Au)).al, .slice A1 n c1, .slice A2 m c2]) (by simp [results, Try.results24, go_sem, d0, d1, d2]) rfl ?_
    exact hfin.out
  have hjb0 : ((j : Int) == 0) = false := by simpa using hj0c
  replace hj0c := hid hj0c
  by_cases hj1c : j = 1
  · subst hj1c
    have hown4 : Hid (w4.ownsRow wA.heap.size 4 1 (.slice A2 m c2) m (boolVals a.ac)) := hid (by have h1 := hs.out.own.acc; rw [← hac.out] at h1; exact h1)
    have hz4 := hs.out.keep.size
    clear k1
    go_upto_region 23 with (at_builtin; refine wpList_append_own_at _ rfl _ _ 24 rfl wA.heap.size 4 b0 (.bool false) 1 1 Try.underlying24 hb bz0 bz1 bz2 rfl (by decide) _ _ _ rfl (hown4.out.alloc _) ⟨w4.heap.size, 0, none⟩ 1 1 [.bool true] rfl rfl (cell_one_new _ _ _) (by intro u hu; simp at hu; subst hu; rfl) (by unfold maxLen; omega) (by omega) (by simp; omega) ?_; intro v5 w5 hO5 hg5 _ hat5; obtain ⟨A5, c5, ev5, -, -⟩ := own_slice hO5; subst ev5; have hbl5 : Blk w5 gs 26 #[.int .i64 a.al, .slice A1 n c1, .slice A2 m c2] := ((hs.out.blk.alloc _).keep ((KeepB.refl _ _).grown hg5 (fun k hk _ => hk)) (fun e => own_ne hown4.out hs.out.blk (by decide) _ e rfl)); have x2 := hbl5.cell 2; have y2 := hbl5.frozen 2; simp only [List.getElem?_toArray, List.getElem?_cons_zero, List.getElem?_cons_succ] at x2; replace hO5 := hid hO5; replace hg5 := hid hg5; replace hat5 := hid hat5; replace hbl5 := hid hbl5)
    have hset := hid ((hs.out.later ((Below.refl _ w4).alloc (Nat.le_refl _) (.cells #[.bool true] 4))).put (t := true) (v2' := .slice A5 (m + 1) c5) hg5.out (by rw [← hac.out]; exact hO5.out))
    have hrd5 := hid ((hrd.out.later ((Below.refl _ w4).alloc (Nat.le_refl _) (.cells #[.bool true] 4))).keep (((KeepB.refl (fun b => wA.heap.size ≤ b) _).grown hg5.out fun k hk _ => (hown4.out.lt k hk).1).setCell ⟨gs, 2, none⟩ (.slice A5 (m + 1) c5) fun _ => hs.out.ge) fun k hk => by have := hzAe.out; omega)
    obtain ⟨w6, hw6⟩ : ∃ w6, Hid (w5.setCell ⟨gs, 2, none⟩ (.slice A5 (m + 1) c5) = w6) := ⟨_, hid rfl⟩
    rw [hw6.out] at hset hrd5
    clear x2 y2 k2
    rw [hw6.out]
    have k0 := hset.out.blk.cell 0
    have k1 := hset.out.blk.cell 1
    have k2 := hset.out.blk.cell 2
    have hbl := hid (hres.out.keep hset.out.keep (by have := hzAe.out; omega))
    have d0 := hbl.out.cell 0
    have d1 := hbl.out.cell 1
    have d2 := hbl.out.cell 2
    have f0 := hbl.out.frozen 0
    have f1 := hbl.out.frozen 1
    have f2 := hbl.out.frozen 2
    have hltb := hbl.out.lt
    simp only [List.getElem?_toArray, List.getElem?_cons_zero, List.getElem?_cons_succ] at d0 d1 d2 k0 k1 k2
    have hfin := hid (AuUp2.ret (w := w) (Q := AuSz (N + 13)) (P' := P + 4000000) (a := (⟨a.al, a.nx, a.ac ++ [true]⟩ : Au)) (szPut hnx hac s1 s2 s3) hset.out.own hzAe.out hrd5.out (by omega) ((KeepB.of_below hBA).trans hset.out.keep) hR (.int .i64 ((⟨a.al, a.nx, a.ac ++ [true]⟩ : Au)).al) (.slice A1 n c1) (.slice A5 (m + 1) c5))
    go_wp2
    refine bodyPost_ret (v := .agg #[.int .i64 ((⟨a.al, a.nx, a.ac ++ [true]⟩ : Au)).al, .slice A1 n c1, .slice A5 (m + 1) c5]) (by simp [results, Try.results24, go_sem, d0, d1, d2]) rfl ?_
    exact hfin.out
  have hjb1 : ((j : Int) == 1) = false := by simpa using hj1c
  replace hj1c := hid hj1c
  by_cases hj2c : j = 2
  · subst hj2c
    by_cases hn0 : n = 0
    · have hn0i : ¬ ((0 : Int) < (n : Int)) := by omega
      replace hn0 := hid hn0
      go_upto_region 23 with fail
      clear k1 k2
      have k0 := hs.out.blk.cell 0
      have k1 := hs.out.blk.cell 1
      have k2 := hs.out.blk.cell 2
      have hbl := hid (hres.out.keep hs.out.keep (by have := hzAe.out; omega))
      have d0 := hbl.out.cell 0
      have d1 := hbl.out.cell 1
      have d2 := hbl.out.cell 2
      have f0 := hbl.out.frozen 0
      have f1 := hbl.out.frozen 1
      have f2 := hbl.out.frozen 2
      have hltb := hbl.out.lt
      simp only [List.getElem?_toArray, List.getElem?_cons_zero, List.getElem?_cons_succ] at d0 d1 d2 k0 k1 k2
      have hfin := hid (AuUp2.ret (w := w) (Q := AuSz (N + 13)) (P' := P + 4000000) (a := a) ((szSame hnx hac s1 s2 s3).up (by omega)) hs.out.own hzAe.out hrd.out (by omega) ((KeepB.of_below hBA).trans hs.out.keep) hR (.int .i64 (a).al) (.slice A1 n c1) (.slice A2 m c2))
      go_wp2
      refine bodyPost_ret (v := .agg #[.int .i64 (a).al, .slice A1 n c1, .slice A2 m c2]) (by simp [results, Try.results24, go_sem, d0, d1, d2]) rfl ?_
      exact hfin.out
    have hn0i : (0 : Int) < (n : Int) := by omega
    have hkn' : kn < n := hkn.out (by omega)
    have kx : (0 : Int) ≤ (kn : Int) ∧ (kn : Int) < (n : Int) := by omega
    replace hn0 := hid hn0
    have hnn : n = xs.length := by rw [hxl'.out]
    obtain ⟨l1, l2, r, Ax, cx, hsplit, hl1n⟩ := row_split (xs := xs) (k := kn) (by omega)
    subst hsplit
    have heq := hs.out.own.eq
    have hrN : r.length ≤ N := s3 r (by rw [← heq, List.map_append, List.map_cons]; exact List.mem_append_right _ List.mem_cons_self)
    replace heq := hid heq
    obtain ⟨gT, capT, hveT, -, -, -, -, hcellT⟩ := own_shape hs.out.own.rows.own (by omega)
    have eT : A1 = some ⟨gT, 0, none⟩ := by injection hveT
    subst eT
    have t0 : w4.cell? ⟨gT, kn, none⟩ = some (.slice Ax r.length cx) := hcellT kn _ (row_at_ hl1n)
    have hrow := hs.out.own.rows.rows ⟨r, Ax, cx⟩ (by simp)
    obtain ⟨Ax', cx', ex, hrcx, hrcx'⟩ := own_slice hrow
    have hrc : r.length ≤ cx ∧ cx ≤ 9223372036854775807 := by unfold RowV.v at ex; injection ex with e1 e2 e3; subst e3; exact ⟨hrcx, hrcx'⟩
    replace hnn := hid hnn
    replace hrow := hid hrow
    replace hl1n := hid hl1n
    replace hcellT := hid hcellT
    clear hveT ex hrcx hrcx'
    have hne1 : (Value.slice Ax r.length cx).ownBlock ≠ some gs := fun e => own_ne hrow.out hs.out.blk (by decide) _ e rfl
    have hne2 : (Value.slice Ax r.length cx).ownBlock ≠ some gT := fun e => own_ne_own hrow.out hs.out.own.rows.own (by decide) _ _ e rfl rfl
    have hrowA : Hid (w4.ownsRow wA.heap.size 3 1 (.slice Ax r.length cx) r.length (intVals r)) := hid hrow.out
    have q1 := GK.AI.cell hrowA.out k1 hne1
    have q2 := GK.AI.cell hrowA.out t0 hne2
    have hz4 := hs.out.keep.size
    replace hne1 := hid hne1
    replace hne2 := hid hne2
    go_upto_region 11 with fail
    clear k1 k2 t0
    refine GK.wp_region 10 [10, 11] 200 (GK.AS (Done wA.heap.size 3 1 (r.length + 1) (intVals r ++ [.int .i64 0]) (Value.slice Ax r.length cx).ownBlock w4.heap.size) (fun b => (Value.slice Ax r.length cx).ownBlock = some b)) (GK.AI w4 wA.heap.size 3 1 (.slice Ax r.length cx) r.length (intVals r)) (fun _ _ _ => True) (by kernel_rfl) (by kernel_rfl) GK.AI.way (by decide) (GK.AI.begin hrowA.out) ?_
    simp only [List.take_succ_cons, List.take_zero]
    (repeat (refine GK.grow_quiet w4 (by rfl) (by rfl) ?_; intro K hK; go_big_quiet_op; go_big_quiet_on))
    refine GK.grow_newA (by rfl) (fun b => .slice (some ⟨b, 0, none⟩) 1 1) 3 #[.int .i64 0] (fun _ => by go_simp) (fun k hk => (hrowA.out.lt k hk).2) (fun u w w' h hb => h.below hb) (fun b hbb => ?_)
    simp only [Act.put, List.setIfInBounds_toArray, List.set_cons_zero, List.set_cons_succ]
    refine GK.grow_app (by rfl) _ _ 40 (by rfl) i0 (.int .i64 0) 8 Try.underlying40 hi hz0 hz1 hz2 rfl (by decide) (by rfl) ⟨b, 0, none⟩ 1 1 [.int .i64 0] (by rfl) (by rfl) (fun w hf => ?_) (by simp [Value.oneCell']) (by decide) (by unfold maxLen; omega) (by omega) (by omega) (fun u ⟨_, _, hu⟩ => ?_)
    · obtain ⟨b', e1, e2, e3⟩ := hf _ List.mem_cons_self (by kernel_rfl)
      cases e1
      exact World.news_of_block e3
    obtain ⟨Au', cu, hue, hcu, hcu'⟩ := own_slice hu.1
    subst hue
    clear hu
    simp only [Act.put, List.setIfInBounds_toArray, List.set_cons_zero, List.set_cons_succ]
    refine GK.grow_nil ?_
    intro w5 hw5 hf
    simp only [List.filterMap_cons, List.filterMap_nil, List.getElem?_cons_zero, List.getElem?_cons_succ]
    have hd : Hid (Done wA.heap.size 3 1 (r.length + 1) (intVals r ++ [.int .i64 0]) (Value.slice Ax r.length cx).ownBlock w4.heap.size (.slice Au' (r.length + 1) cu) w5) := hid (hf _ List.mem_cons_self)
    have hk5 : Hid (KeepB (fun b => (Value.slice Ax r.length cx).ownBlock = some b) w4 w5) := hid hw5.1
    clear hf q1 q2 hw5
    have hT5 := own_keep hs.out.own.rows.own hk5.out fun g hg e => hne2.out (by rw [e]; exact hg.symm ▸ rfl)
    obtain ⟨gT', capT2, hveT2, -, -, -, -, hcellT2⟩ := own_shape hT5 (by have := hnn.out; omega)
    have eT2 : gT' = gT := by injection hveT2 with h; injection h with h; injection h with h; exact h.symm
    subst eT2
    have c5 : w5.cell? ⟨gT', kn, none⟩ = some (.slice Ax r.length cx) := hcellT2 kn _ (row_at_ hl1n.out)
    have fz : w5.frozen? ⟨gT', kn, none⟩ = false := own_frozen hT5 rfl kn
    have hset := hid (AuSt.growRow (x := ⟨r, Ax, cx⟩) (x' := ⟨r ++ [0], Au', cu⟩) hl1n.out hnn.out hs.out hk5.out (by have := hd.out.2; unfold RowV.v; rw [List.length_append]; exact this) (by have := hd.out.1; unfold RowV.v; rw [List.length_append]; unfold intVals at this ⊢; rw [List.map_append]; exact this))
    have hrd6 := hid (hrd.out.keep ((hk5.out.mono (K' := fun b => wA.heap.size ≤ b) fun k hk => (hrowA.out.lt k hk).1).setCell ⟨gT', kn, none⟩ (RowV.v ⟨r ++ [0], Au', cu⟩) fun _ => (hs.out.own.rows.own.lt gT' rfl).1) fun k hk => by have := hzAe.out; omega)
    have e6 : (RowV.v ⟨r ++ [0], Au', cu⟩) = .slice Au' (r.length + 1) cu := by unfold RowV.v; rw [List.length_append]; rfl
    rw [e6] at hset hrd6
    obtain ⟨w6, hw6⟩ : ∃ w6, Hid (w5.setCell ⟨gT', kn, none⟩ (.slice Au' (r.length + 1) cu) = w6) := ⟨_, hid rfl⟩
    rw [hw6.out] at hset hrd6
    replace hT5 := hid hT5
    replace hcellT2 := hid hcellT2
    clear e6 hveT2
    go_upto_region 23 with fail
    rw [hw6.out]
    have k0 := hset.out.blk.cell 0
    have k1 := hset.out.blk.cell 1
    have k2 := hset.out.blk.cell 2
    have hbl := hid (hres.out.keep hset.out.keep (by have := hzAe.out; omega))
    have d0 := hbl.out.cell 0
    have d1 := hbl.out.cell 1
    have d2 := hbl.out.cell 2
    have f0 := hbl.out.frozen 0
    have f1 := hbl.out.frozen 1
    have f2 := hbl.out.frozen 2
    have hltb := hbl.out.lt
    simp only [List.getElem?_toArray, List.getElem?_cons_zero, List.getElem?_cons_succ] at d0 d1 d2 k0 k1 k2
    have hfin := hid (AuUp2.ret (w := w) (Q := AuSz (N + 13)) (P' := P + 4000000) (a := (⟨a.al, (l1 ++ ⟨r ++ [0], Au', cu⟩ :: l2).map (·.r), a.ac⟩ : Au)) (szRow1 heq hnx hac s1 s2 s3) hset.out.own hzAe.out hrd6.out (by omega) ((KeepB.of_below hBA).trans hset.out.keep) hR (.int .i64 ((⟨a.al, (l1 ++ ⟨r ++ [0], Au', cu⟩ :: l2).map (·.r), a.ac⟩ : Au)).al) (.slice (some ⟨gT', 0, none⟩) n c1) (.slice A2 m c2))
    go_wp2
    refine bodyPost_ret (v := .agg #[.int .i64 ((⟨a.al, (l1 ++ ⟨r ++ [0], Au', cu⟩ :: l2).map (·.r), a.ac⟩ : Au)).al, .slice (some ⟨gT', 0, none⟩) n c1, .slice A2 m c2]) (by simp [results, Try.results24, go_sem, d0, d1, d2]) rfl ?_
    exact hfin.out
  have hjb2 : ((j : Int) == 2) = false := by simpa using hj2c
  replace hj2c := hid hj2c
  by_cases hj3c : j = 3
  · subst hj3c
    by_cases hn0 : n = 0
    · have hn0i : ¬ ((0 : Int) < (n : Int)) := by omega
      replace hn0 := hid hn0
      go_upto_region 23 with fail
      clear k1 k2
      have k0 := hs.out.blk.cell 0
      have k1 := hs.out.blk.cell 1
      have k2 := hs.out.blk.cell 2
      have hbl := hid (hres.out.keep hs.out.keep (by have := hzAe.out; omega))
      have d0 := hbl.out.cell 0
      have d1 := hbl.out.cell 1
      have d2 := hbl.out.cell 2
      have f0 := hbl.out.frozen 0
      have f1 := hbl.out.frozen 1
      have f2 := hbl.out.frozen 2
      have hltb := hbl.out.lt
      simp only [List.getElem?_toArray, List.getElem?_cons_zero, List.getElem?_cons_succ] at d0 d1 d2 k0 k1 k2
      have hfin := hid (AuUp2.ret (w := w) (Q := AuSz (N + 13)) (P' := P + 4000000) (a := a) ((szSame hnx hac s1 s2 s3).up (by omega)) hs.out.own hzAe.out hrd.out (by omega) ((KeepB.of_below hBA).trans hs.out.keep) hR (.int .i64 (a).al) (.slice A1 n c1) (.slice A2 m c2))
      go_wp2
      refine bodyPost_ret (v := .agg #[.int .i64 (a).al, .slice A1 n c1, .slice A2 m c2]) (by simp [results, Try.results24, go_sem, d0, d1, d2]) rfl ?_
      exact hfin.out
    have hn0i : (0 : Int) < (n : Int) := by omega
    have hkn' : kn < n := hkn.out (by omega)
    have kx : (0 : Int) ≤ (kn : Int) ∧ (kn : Int) < (n : Int) := by omega
    replace hn0 := hid hn0
    have hnn : n = xs.length := by rw [hxl'.out]
    obtain ⟨l1, l2, r, Ax, cx, hsplit, hl1n⟩ := row_split (xs := xs) (k := kn) (by omega)
    subst hsplit
    have heq := hs.out.own.eq
    have hrN : r.length ≤ N := s3 r (by rw [← heq, List.map_append, List.map_cons]; exact List.mem_append_right _ List.mem_cons_self)
    replace heq := hid heq
    obtain ⟨gT, capT, hveT, -, -, -, -, hcellT⟩ := own_shape hs.out.own.rows.own (by omega)
    have eT : A1 = some ⟨gT, 0, none⟩ := by injection hveT
    subst eT
    have t0 : w4.cell? ⟨gT, kn, none⟩ = some (.slice Ax r.length cx) := hcellT kn _ (row_at_ hl1n)
    have hrow := hs.out.own.rows.rows ⟨r, Ax, cx⟩ (by simp)
    obtain ⟨Ax', cx', ex, hrcx, hrcx'⟩ := own_slice hrow
    have hrc : r.length ≤ cx ∧ cx ≤ 9223372036854775807 := by unfold RowV.v at ex; injection ex with e1 e2 e3; subst e3; exact ⟨hrcx, hrcx'⟩
    replace hnn := hid hnn
    replace hrow := hid hrow
    replace hl1n := hid hl1n
    replace hcellT := hid hcellT
    clear hveT ex hrcx hrcx'
    by_cases hr0 : r.length = 0
    · have hr0i : ¬ ((0 : Int) < (r.length : Int)) := by omega
      replace hr0 := hid hr0
      go_upto_region 23 with fail
      clear k1 k2
      have k0 := hs.out.blk.cell 0
      have k1 := hs.out.blk.cell 1
      have k2 := hs.out.blk.cell 2
      have hbl := hid (hres.out.keep hs.out.keep (by have := hzAe.out; omega))
      have d0 := hbl.out.cell 0
      have d1 := hbl.out.cell 1
      have d2 := hbl.out.cell 2
      have f0 := hbl.out.frozen 0
      have f1 := hbl.out.frozen 1
      have f2 := hbl.out.frozen 2
      have hltb := hbl.out.lt
      simp only [List.getElem?_toArray, List.getElem?_cons_zero, List.getElem?_cons_succ] at d0 d1 d2 k0 k1 k2
      have hfin := hid (AuUp2.ret (w := w) (Q := AuSz (N + 13)) (P' := P + 4000000) (a := a) ((szSame hnx hac s1 s2 s3).up (by omega)) hs.out.own hzAe.out hrd.out (by omega) ((KeepB.of_below hBA).trans hs.out.keep) hR (.int .i64 (a).al) (.slice (some ⟨gT, 0, none⟩) n c1) (.slice A2 m c2))
      go_wp2
      refine bodyPost_ret (v := .agg #[.int .i64 (a).al, .slice (some ⟨gT, 0, none⟩) n c1, .slice A2 m c2]) (by simp [results, Try.results24, go_sem, d0, d1, d2]) rfl ?_
      exact hfin.out
    have hr0i : (0 : Int) < (r.length : Int) := by omega
    have hnp : Hid (0 < n) := hid (by omega)
    have hnq : Hid (n ≤ 100000) := hid (by omega)
    go_upto_region 14 with fail
    clear k2
    go_wp2_with fail
    refine (pick_up R (P + 1 + 1) (r.length : Nat) w4 (by omega) (by omega) hrd.out).mono ?_
    rintro e w4b ⟨x, rfl, hx0, hx1, hr4b, hk4b⟩
    obtain ⟨xn, rfl⟩ := Int.eq_ofNat_of_zero_le hx0
    have hxn : xn < r.length := by omega
    have hxi : (0 : Int) ≤ (xn : Int) ∧ (xn : Int) < (r.length : Int) := by omega
    have hsb := hid (hs.out.keepK hK hk4b)
    have hrowb := hid (hsb.out.own.rows.rows ⟨r, Ax, cx⟩ (by simp))
    have t1 : w4b.cell? ⟨gT, kn, none⟩ = some (.slice Ax r.length cx) := by rw [KeepB.cell_ hk4b (World.block_lt_of_cell? _ _ t0) (show ¬ gT = R from by have := (hs.out.own.rows.own.lt gT rfl).1; have := hzAe.out; omega)]; exact t0
    have k1b := hsb.out.blk.cell 1
    simp only [List.getElem?_toArray, List.getElem?_cons_zero, List.getElem?_cons_succ] at k1b
    have hgslb := hsb.out.blk.lt
    replace hr4b := hid hr4b
    clear hk4b hx1 k1 t0
    obtain ⟨gr, capr, hver, hgr1, hgr2, -, -, -⟩ := own_shape hrowb.out (by show 0 < r.length; omega)
    have e2 : Ax = some ⟨gr, 0, none⟩ := by injection hver
    subst e2
    have hgRn : gs ≠ R := by have := hs.out.ge; have := hzAe.out; omega
    have hgTR : gT ≠ R := by have := (hs.out.own.rows.own.lt gT rfl).1; have := hzAe.out; omega
    have q1 := RI.cell hr4b.out k1b hgRn
    have q2 := RI.cell hr4b.out t1 hgTR
    clear hver
    go_upto_region 15 with fail
    clear k1b t1
    refine GK.wp_region 12 [12, 13] 200 (KeepB fun b => b = R) (RI w4b R (P + 1 + 1 + 1)) (fun _ u _ => ∃ x : Int, u = .int .i64 x) (by kernel_rfl) (by kernel_rfl) (RI.way w4b R _) (by decide) (RI.drew hr4b.out) ?_
    simp only [List.take_succ_cons, List.take_zero]
    (repeat (refine GK.grow_quiet w4b (by rfl) (by rfl) ?_; intro K hK; go_big_quiet_op; go_big_quiet_on))


    refine GK.grow_new (K := fun b => b = R) (by rfl) w4b.heap.size (fun b => .slice (some ⟨b, 0, none⟩) 4 4) 3 #[.int .i64 (-1), .int .i64 n, .int .i64 ((n : Int) - 1), .int .i64 0] (fun _ => by go_simp) rfl (fun _ _ o h => RI.alloc o h) (fun _ _ h => RI.size h) (fun k h => by have := hsb.out.ge; have := hzAe.out; omega) (fun b hbb => ?_)
    simp only [Act.put, List.setIfInBounds_toArray, List.set_cons_zero, List.set_cons_succ]
    refine GK.grow_call (by rfl) (fun u w w' _ h => h) (fun m wq hm hbq hf => ?_) ?_
    · obtain ⟨b', e1, e2, e3⟩ := hf _ List.mem_cons_self (by kernel_rfl)
      cases e1
      go_simp
      exact ⟨rfl, (num_blk R (P + 1 + 1 + 1 + m * 10000) b [(-1), (n : Int), (n : Int) - 1, 0] wq 3 (show 0 < 4 by decide) (show 4 ≤ 1000 by decide) (by omega) e3 (by have := hsb.out.ge; have := hsb.out.blk.lt; have := hzAe.out; omega) hbq.2).mono fun e w' ⟨x, h2, h5, h3, h4⟩ => ⟨_, h5, RI.call hbq h4 h3 (by omega), x, rfl⟩⟩
    rintro u ⟨_, _, _, y, rfl⟩
    simp only [Act.put, List.setIfInBounds_toArray, List.set_cons_zero, List.set_cons_succ]
    refine GK.grow_nil ?_
    intro w5 hw5 hf
    simp only [List.filterMap_cons, List.filterMap_nil, List.getElem?_cons_zero, List.getElem?_cons_succ]
    clear hf q1 q2
    have hs5 := hsb.out.keepK hK hw5.1
    have hrow5 := hs5.own.rows.rows ⟨r, some ⟨gr, 0, none⟩, cx⟩ (by simp)
    obtain ⟨gr', capr, hver, -, -, -, -, hcellr⟩ := own_shape hrow5 (by show 0 < r.length; omega)
    have e3 : gr' = gr := by injection hver with h; injection h with h; injection h with h; exact h.symm
    subst e3
    obtain ⟨y0, c5⟩ : ∃ y0, w5.cell? ⟨gr', xn, none⟩ = some (.int .i64 y0) := ⟨_, hcellr xn _ (show (intVals r)[xn]? = some (.int .i64 (r[xn]'(by omega))) from by unfold intVals; rw [List.getElem?_map, List.getElem?_eq_getElem (by omega)]; rfl)⟩
    have fz : w5.frozen? ⟨gr', xn, none⟩ = false := own_frozen hrow5 rfl xn
    have hset := hid (hs5.setRow (j := xn) y)
    have hrd6 := hid (hw5.2.keep ((KeepB.refl (fun b => wA.heap.size ≤ b) w5).setCell ⟨gr', xn, none⟩ (.int .i64 y) fun _ => hgr1) fun k hk => by have := hzAe.out; omega)
    obtain ⟨w6, hw6⟩ : ∃ w6, Hid (w5.setCell ⟨gr', xn, none⟩ (.int .i64 y) = w6) := ⟨_, hid rfl⟩
    rw [hw6.out] at hset hrd6
    replace hs5 := hid hs5
    replace hrow5 := hid hrow5
    replace hcellr := hid hcellr
    clear hver
    go_upto_region 23 with fail
    rw [hw6.out]
    have k0 := hset.out.blk.cell 0
    have k1 := hset.out.blk.cell 1
    have k2 := hset.out.blk.cell 2
    have hbl := hid (hres.out.keep hset.out.keep (by have := hzAe.out; omega))
    have d0 := hbl.out.cell 0
    have d1 := hbl.out.cell 1
    have d2 := hbl.out.cell 2
    have f0 := hbl.out.frozen 0
    have f1 := hbl.out.frozen 1
    have f2 := hbl.out.frozen 2
    have hltb := hbl.out.lt
    simp only [List.getElem?_toArray, List.getElem?_cons_zero, List.getElem?_cons_succ] at d0 d1 d2 k0 k1 k2
    have hfin := hid (AuUp2.ret (w := w) (Q := AuSz (N + 13)) (P' := P + 4000000) (a := (⟨a.al, (l1 ++ ⟨r.set xn y, some ⟨gr', 0, none⟩, cx⟩ :: l2).map (·.r), a.ac⟩ : Au)) ((szRow heq s1 (.inr trivial) s3 (by have := hnx.out; omega) (by have := hac.out; omega) (by show (r.set xn y).length = r.length; rw [List.length_set])).up (by omega)) hset.out.own hzAe.out hrd6.out (by omega) ((KeepB.of_below hBA).trans hset.out.keep) hR (.int .i64 ((⟨a.al, (l1 ++ ⟨r.set xn y, some ⟨gr', 0, none⟩, cx⟩ :: l2).map (·.r), a.ac⟩ : Au)).al) (.slice (some ⟨gT, 0, none⟩) n c1) (.slice A2 m c2))
    go_wp2
    refine bodyPost_ret (v := .agg #[.int .i64 ((⟨a.al, (l1 ++ ⟨r.set xn y, some ⟨gr', 0, none⟩, cx⟩ :: l2).map (·.r), a.ac⟩ : Au)).al, .slice (some ⟨gT, 0, none⟩) n c1, .slice A2 m c2]) (by simp [results, Try.results24, go_sem, d0, d1, d2]) rfl ?_
    exact hfin.out
  have hjb3 : ((j : Int) == 3) = false := by simpa using hj3c
  replace hj3c := hid hj3c
  by_cases hj4c : j = 4
  · subst hj4c
    have f1 := hs.out.blk.frozen 1
    go_upto_region 18 with fail
    clear k1 k2 f1
    have hbB : Below w4.heap.size w4 (w4.alloc (.cells #[] 40)) := (Below.refl _ w4).alloc (Nat.le_refl _) _
    have hs5 := (hs.out.later hbB).clear (b := w4.heap.size) hs.out.keep.size (heap_alloc_new w4 _)
    have hrd5 := hid ((hrd.out.later hbB).keep ((KeepB.refl (fun b => wA.heap.size ≤ b) _).setCell ⟨gs, 1, none⟩ (.slice (some ⟨w4.heap.size, 0, none⟩) 0 0) fun _ => hs.out.ge) fun k hk => by have := hzAe.out; omega)
    rw [World.setCell_alloc_past (w := w4) _ _ _ _ hgsl] at hs5 hrd5
    obtain ⟨w5, hw5⟩ : ∃ w5, Hid ((w4.setCell ⟨gs, 1, none⟩ (.slice (some ⟨w4.heap.size, 0, none⟩) 0 0)).alloc (.cells #[] 40) = w5) := ⟨_, hid rfl⟩
    rw [hw5.out] at hs5 hrd5 ⊢
    obtain ⟨g5, hg5⟩ : ∃ g5, Hid (g5 = w4.heap.size) := ⟨_, hid rfl⟩
    rw [← hg5.out] at hs5 ⊢
    have k2 := hs5.blk.cell 2
    have f2 := hs5.blk.frozen 2
    simp only [List.getElem?_toArray, List.getElem?_cons_zero, List.getElem?_cons_succ] at k2
    have hgs5 := hs5.blk.lt
    replace hs5 := hid hs5
    go_upto_region 23 with fail
    clear k2 f2
    have hbC : Below w5.heap.size w5 (w5.alloc (.cells #[] 4)) := (Below.refl _ w5).alloc (Nat.le_refl _) _
    have hset := hid ((hs5.out.later hbC).clear2 (b := w5.heap.size) hs5.out.keep.size (heap_alloc_new w5 _))
    have hrd6 := hid ((hrd5.out.later hbC).keep ((KeepB.refl (fun b => wA.heap.size ≤ b) _).setCell ⟨gs, 2, none⟩ (.slice (some ⟨w5.heap.size, 0, none⟩) 0 0) fun _ => hs.out.ge) fun k hk => by have := hzAe.out; omega)
    rw [World.setCell_alloc_past (w := w5) _ _ _ _ hgs5] at hset hrd6
    obtain ⟨w6, hw6⟩ : ∃ w6, Hid ((w5.setCell ⟨gs, 2, none⟩ (.slice (some ⟨w5.heap.size, 0, none⟩) 0 0)).alloc (.cells #[] 4) = w6) := ⟨_, hid rfl⟩
    rw [hw6.out] at hset hrd6 ⊢
    obtain ⟨g6, hg6⟩ : ∃ g6, Hid (g6 = w5.heap.size) := ⟨_, hid rfl⟩
    rw [← hg6.out] at hset ⊢
    --
    have k0 := hset.out.blk.cell 0
    have k1 := hset.out.blk.cell 1
    have k2 := hset.out.blk.cell 2
    have hbl := hid (hres.out.keep hset.out.keep (by have := hzAe.out; omega))
    have d0 := hbl.out.cell 0
    have d1 := hbl.out.cell 1
    have d2 := hbl.out.cell 2
    have f0 := hbl.out.frozen 0
    have f1 := hbl.out.frozen 1
    have f2 := hbl.out.frozen 2
    have hltb := hbl.out.lt
    simp only [List.getElem?_toArray, List.getElem?_cons_zero, List.getElem?_cons_succ] at d0 d1 d2 k0 k1 k2
    have hfin := hid (AuUp2.ret (w := w) (Q := AuSz (N + 13)) (P' := P + 4000000) (a := (⟨a.al, [], []⟩ : Au)) (show AuSz (N + 13) ⟨a.al, [], []⟩ from ⟨by simp, by simp, fun r hr => by cases hr⟩) hset.out.own hzAe.out hrd6.out (by omega) ((KeepB.of_below hBA).trans hset.out.keep) hR (.int .i64 ((⟨a.al, [], []⟩ : Au)).al) (.slice (some ⟨g5, 0, none⟩) 0 0) (.slice (some ⟨g6, 0, none⟩) 0 0))
    go_wp2
    refine bodyPost_ret (v := .agg #[.int .i64 ((⟨a.al, [], []⟩ : Au)).al, .slice (some ⟨g5, 0, none⟩) 0 0, .slice (some ⟨g6, 0, none⟩) 0 0]) (by simp [results, Try.results24, go_sem, d0, d1, d2]) rfl ?_
    exact hfin.out
  have hjb4 : ((j : Int) == 4) = false := by simpa using hj4c
  replace hj4c := hid hj4c
  by_cases hj5c : j = 5
  · subst hj5c
    clear k1 k2
    go_wp2_with fail
    go_loopw [] (fun wr => ∃ (b : Au) (ys : List RowV) (p q : Nat) (A1 A2 : Option Addr) (c1 c2 : Nat), AuSt (fun b => b = R) wA wr gs (.slice A1 p c1) (.slice A2 q c2) b ys ∧ RdUp wr R (P + 1 + 1) ∧ p = b.nx.length ∧ q = b.ac.length ∧ n ≤ p ∧ q + n = m + p ∧ (p ≤ 13 ∨ p = n) ∧ ∀ r ∈ b.nx, r.length ≤ N) (fun wr => 13 - lenAt wr gs 1)
    case atStart => exact ⟨a, xs, n, m, A1, A2, c1, c2, hs.out, hrd.out, hnx.out, hac.out, Nat.le_refl _, by omega, .inr rfl, s3⟩
    case round =>
      obtain ⟨b, ys, p, q, A1', A2', c1', c2', hs, hrd, hp, hq, hnp, hqn, hp13, hbr⟩ := hrel
      replace hs := hid hs
      replace hrd := hid hrd
      replace hp := hid hp
      replace hq := hid hq
      replace hbr := hid hbr
      have k1 := hs.out.blk.cell 1
      simp only [List.getElem?_toArray, List.getElem?_cons_zero, List.getElem?_cons_succ] at k1
      have hgsr := hs.out.blk.lt
      have hlen5 : Hid (lenAt wr gs 1 = p) := hid (by unfold lenAt; rw [k1])
      by_cases hn0 : n = 0
      · have hn0i : ¬ ((0 : Int) < (n : Int)) := by omega
        replace hn0 := hid hn0
        go_upto_region 23 with fail
        clear k1
        have k0 := hs.out.blk.cell 0
        have k1 := hs.out.blk.cell 1
        have k2 := hs.out.blk.cell 2
        have hbl := hid (hres.out.keep hs.out.keep (by have := hzAe.out; omega))
        have d0 := hbl.out.cell 0
        have d1 := hbl.out.cell 1
        have d2 := hbl.out.cell 2
        have f0 := hbl.out.frozen 0
        have f1 := hbl.out.frozen 1
        have f2 := hbl.out.frozen 2
        have hltb := hbl.out.lt
        simp only [List.getElem?_toArray, List.getElem?_cons_zero, List.getElem?_cons_succ] at d0 d1 d2 k0 k1 k2
        have hfin := hid (AuUp2.ret (w := w) (Q := AuSz (N + 13)) (P' := P + 4000000) (a := b) (⟨by have := hp.out; omega, by have := hq.out; omega, fun r hr => by have := hbr.out r hr; omega⟩ : AuSz (N + 13) b) hs.out.own hzAe.out hrd.out (by omega) ((KeepB.of_below hBA).trans hs.out.keep) hR (.int .i64 (b).al) (.slice A1' p c1') (.slice A2' q c2'))
        go_wp2
        refine bodyPost_ret (v := .agg #[.int .i64 (b).al, .slice A1' p c1', .slice A2' q c2']) (by simp [results, Try.results24, go_sem, d0, d1, d2]) rfl ?_
        exact hfin.out
      have hn0i : (0 : Int) < (n : Int) := by omega
      by_cases hp12 : p ≤ 12
      case neg =>
        have hp12i : ¬ ((p : Int) ≤ 12) := by omega
        go_upto_region 23 with fail
        clear k1
        have k0 := hs.out.blk.cell 0
        have k1 := hs.out.blk.cell 1
        have k2 := hs.out.blk.cell 2
        have hbl := hid (hres.out.keep hs.out.keep (by have := hzAe.out; omega))
        have d0 := hbl.out.cell 0
        have d1 := hbl.out.cell 1
        have d2 := hbl.out.cell 2
        have f0 := hbl.out.frozen 0
        have f1 := hbl.out.frozen 1
        have f2 := hbl.out.frozen 2
        have hltb := hbl.out.lt
        simp only [List.getElem?_toArray, List.getElem?_cons_zero, List.getElem?_cons_succ] at d0 d1 d2 k0 k1 k2
        have hfin := hid (AuUp2.ret (w := w) (Q := AuSz (N + 13)) (P' := P + 4000000) (a := b) (⟨by have := hp.out; omega, by have := hq.out; omega, fun r hr => by have := hbr.out r hr; omega⟩ : AuSz (N + 13) b) hs.out.own hzAe.out hrd.out (by omega) ((KeepB.of_below hBA).trans hs.out.keep) hR (.int .i64 (b).al) (.slice A1' p c1') (.slice A2' q c2'))
        go_wp2
        refine bodyPost_ret (v := .agg #[.int .i64 (b).al, .slice A1' p c1', .slice A2' q c2']) (by simp [results, Try.results24, go_sem, d0, d1, d2]) rfl ?_
        exact hfin.out
      have hp12i : (p : Int) ≤ 12 := by omega
      have hxl5 : ys.length = p := by rw [hs.out.len]; exact hp.out.symm
      obtain ⟨l1, l2, r, Ax, cx, hsplit, hl1n⟩ := row_split (xs := ys) (k := 0) (by omega)
      subst hsplit
      have heq := hs.out.own.eq
      have hrN : r.length ≤ N := hbr.out r (by rw [← heq, List.map_append, List.map_cons]; exact List.mem_append_right _ List.mem_cons_self)
      replace heq := hid heq
      obtain ⟨gT, capT, hveT, -, -, -, -, hcellT⟩ := own_shape hs.out.own.rows.own (by omega)
      have eT : A1' = some ⟨gT, 0, none⟩ := by injection hveT
      subst eT
      have t0 : wr.cell? ⟨gT, 0, none⟩ = some (.slice Ax r.length cx) := hcellT 0 _ (row_at_ hl1n)
      have hrow := hs.out.own.rows.rows ⟨r, Ax, cx⟩ (by simp)
      obtain ⟨Ax', cx', ex, hrcx, hrcx'⟩ := own_slice hrow
      have hrc : r.length ≤ cx ∧ cx ≤ 9223372036854775807 := by unfold RowV.v at ex; injection ex with e1 e2 e3; subst e3; exact ⟨hrcx, hrcx'⟩
      replace hxl5 := hid hxl5
      replace hrow := hid hrow
      replace hl1n := hid hl1n
      replace hcellT := hid hcellT
      clear hveT ex hrcx hrcx'
      have q0 := GK.BI.cell k1
      have q1 := GK.BI.cell t0
      have h3r := hid (own_ints_at hrow.out).2.2.2
      have hlow : Hid (∀ y ∈ l1 ++ ⟨r, Ax, cx⟩ :: l2, ∀ k, y.v.ownBlock = some k → k < wr.heap.size) := hid fun y hy k e => (hs.out.rowLt hy e).2
      have hwrz := hs.out.keep.size
      go_upto_region 21 with fail
      clear k1 t0
      refine GK.wp_region 9 [9, 10, 11] 200 (KeepB fun _ => False) (GK.BI wr) (fun _ _ _ => True) (by kernel_rfl) (by kernel_rfl) (GK.BI.way wr) (by decide) (Below.refl _ _).drew ?_
      simp only [List.take_succ_cons, List.take_zero]
      (repeat (refine GK.grow_quiet wr (by rfl) (by rfl) ?_; intro K hK; go_big_quiet_op; go_big_quiet_on))
      refine GK.grow_new (K := fun _ => False) (by rfl) _ (fun b => .slice (some ⟨b, 0, none⟩) 0 0) 3 #[] (fun _ => by go_simp) rfl (fun _ _ o h => GK.BI.alloc o h) (fun _ _ h => GK.BI.size h) (fun _ h => h.elim) (fun bn hbb => ?_)
      simp only [Act.put, List.setIfInBounds_toArray, List.set_cons_zero, List.set_cons_succ]
      (repeat (refine GK.grow_quiet wr (by rfl) (by rfl) ?_; intro K hK; go_big_quiet_op; go_big_quiet_on))
      refine GK.grow_copy (by rfl) _ _ 40 (by rfl) 3 i0 (.int .i64 0) 1 8 Try.underlying40 hi hz0 hz1 hz2 rfl bn (by rfl) (fun w hf => ?_) Ax r.length cx (intVals r) (by rfl) (by rw [intVals_len, Nat.mul_one]) (fun hn => h3r.out.news hn) (intVals_one _) (by unfold maxLen; omega) (by omega) fun v hv => ?_
      · obtain ⟨b', e1, e2, e3⟩ := hf _ List.mem_cons_self (by kernel_rfl)
        cases e1
        exact ⟨e2, e3⟩
      obtain ⟨Ar, cr, hve, hcr, hcr'⟩ : ∃ Av cv, v = .slice Av r.length cv ∧ r.length ≤ cv ∧ cv ≤ 9223372036854775807 := by obtain ⟨_, _, hv⟩ := hv; exact own_slice hv
      subst hve
      clear hv
      simp only [Act.put, List.setIfInBounds_toArray, List.set_cons_zero, List.set_cons_succ]
      (repeat (refine GK.grow_quiet wr (by rfl) (by rfl) ?_; intro K hK; go_big_quiet_op; go_big_quiet_on))
      refine GK.grow_new (K := fun _ => False) (by rfl) _ (fun b => .slice (some ⟨b, 0, none⟩) 1 1) 40 #[.slice Ar r.length cr] (fun _ => by go_simp) rfl (fun _ _ o h => GK.BI.alloc o h) (fun _ _ h => GK.BI.size h) (fun _ h => h.elim) (fun bb hbb2 => ?_)
      simp only [Act.put, List.setIfInBounds_toArray, List.set_cons_zero, List.set_cons_succ]
      refine GK.grow_nil ?_
      intro w5 hw5 hf
      simp only [List.filterMap_cons, List.filterMap_nil, List.getElem?_cons_zero, List.getElem?_cons_succ]
      obtain ⟨bb', e1, -, hblk4⟩ := hf _ List.mem_cons_self
      cases e1
      have hor : w5.ownsRow wr.heap.size 3 1 (.slice Ar r.length cr) r.length (intVals r) := hf _ (List.mem_cons_of_mem _ List.mem_cons_self)
      replace hw5 : Below wr.heap.size wr w5 := hw5
      clear hf q0 q1
      have hs5 := hs.out.later hw5
      have hown5 := hs5.own.rows.own
      rw [hxl5.out] at hown5
      have hbl5 := hs5.blk
      have ag : (Value.slice (some ⟨gT, 0, none⟩) p c1').ownBlock ≠ some gs := fun e => own_ne hown5 hbl5 (by decide) _ e rfl
      have hbl5' := hbl5.lt
      have k1 := hbl5.cell 1
      have f1 := hbl5.frozen 1
      simp only [List.getElem?_toArray, List.getElem?_cons_zero, List.getElem?_cons_succ] at k1
      have hrd5 := hid (hrd.out.later hw5)
      replace hs5 := hid hs5
      have hz5 := hw5.size
      have hor' := hid hor
      clear hor
      refine wpList_append_own_at _ (by rfl) _ _ 23 (by rfl) wA.heap.size 40 j0 (.slice none 0 0) 1 24 Try.underlying23 hj jz0 jz1 jz2 rfl (by decide) _ p (rowVals (l1 ++ ⟨r, Ax, cx⟩ :: l2)) (by rfl) hown5 ⟨bb, 0, none⟩ 1 1 [.slice Ar r.length cr] (by rfl) (by rfl) (World.news_of_block hblk4) ?c1 ?c3 ?c4 ?c5 ?_
      case c1 => simp [Value.oneCell']
      case c3 => unfold maxLen; omega
      case c4 => omega
      case c5 => have := hs5.out.keep.size; omega
      intro v9 w6 hown9 hgrow hnil9 hat9
      obtain ⟨A8, c8, hv9, -, -⟩ := own_slice hown9
      subst hv9
      have c2'' : w6.cell? ⟨gs, 1, none⟩ = some (.slice (some ⟨gT, 0, none⟩) p c1') := by rw [hgrow.cell_far _ (by simpa using hbl5') (Ne.symm ag)]; exact k1
      have f2'' : w6.frozen? ⟨gs, 1, none⟩ = false := by rw [hgrow.frozen_far _ (by simpa using hbl5') (Ne.symm ag)]; exact f1
      have hs7 := hid (hs5.out.row (v1' := .slice A8 (p + 1) c8) (x := ⟨r, Ar, cr⟩) (own_base (show w5.ownsRow wr.heap.size 3 1 (.slice Ar r.length cr) r.length (intVals r) from hor'.out) hwrz) (fun y hy k e e2 => by have := hlow.out y hy k e; have := (hor'.out.lt k e2).1; omega) hgrow (by rw [hxl5.out]; exact hown9))
      have hk7 : Hid (KeepB (fun b => wA.heap.size ≤ b) w5 (w6.setCell ⟨gs, 1, none⟩ (.slice A8 (p + 1) c8))) := hid (((KeepB.refl _ w5).grown hgrow fun k hk _ => (hs5.out.own.rows.own.lt k hk).1).setCell _ _ fun _ => hs5.out.ge)
      have hrd7 := hid (hrd5.out.keep hk7.out fun k hk => by have := hzAe.out; omega)
      obtain ⟨w7, hw7⟩ : ∃ w7, Hid (w6.setCell ⟨gs, 1, none⟩ (.slice A8 (p + 1) c8) = w7) := ⟨_, hid rfl⟩
      rw [hw7.out] at hs7 hrd7
      clear hown5 hbl5 hown9 hgrow k1 f1
      go_upto_region 22 with fail
      rw [hw7.out]
      clear c2'' f2''
      have k2 := hs7.out.blk.cell 2
      simp only [List.getElem?_toArray, List.getElem?_cons_zero, List.getElem?_cons_succ] at k2
      have hgs7 := hs7.out.blk.lt
      have hown7 : Hid (w7.ownsRow wA.heap.size 4 1 (.slice A2' q c2') q (boolVals b.ac)) := hid (by have h1 := hs7.out.own.acc; rw [show (⟨b.al, b.nx ++ [r], b.ac⟩ : Au).ac.length = q from hq.out.symm] at h1; exact h1)
      have hz7 := hs7.out.keep.size
      obtain ⟨b7, hb7⟩ : ∃ b7, Hid (b7 = (⟨b.al, b.nx ++ [r], b.ac⟩ : Au)) := ⟨_, hid rfl⟩
      have hal7 : Hid (b7.al = b.al) := hid (by rw [hb7.out])
      rw [show (⟨b.al, b.nx ++ [r], b.ac⟩ : Au) = b7 from hb7.out.symm] at hs7
      go_wp2_with (at_builtin; refine wpList_append_own_at _ rfl _ _ 24 rfl wA.heap.size 4 b0 (.bool false) 1 1 Try.underlying24 hb bz0 bz1 bz2 rfl (by decide) _ _ _ rfl (hown7.out.alloc _) ⟨w7.heap.size, 0, none⟩ 1 1 [.bool false] rfl rfl (cell_one_new _ _ _) (by intro u hu; simp at hu; subst hu; rfl) (by unfold maxLen; omega) (by omega) (by simp; omega) ?_; intro v10 w9 hO5 hg5 _ hat5; obtain ⟨A9, c9, ev5, -, -⟩ := own_slice hO5; subst ev5; have hbl5 : Blk w9 gs 26 #[.int .i64 b7.al, .slice A8 (p + 1) c8, .slice A2' q c2'] := ((hs7.out.blk.alloc _).keep ((KeepB.refl _ _).grown hg5 (fun k hk _ => hk)) (fun e => own_ne hown7.out hs7.out.blk (by decide) _ e rfl)); have x2 := hbl5.cell 2; have y2 := hbl5.frozen 2; simp only [List.getElem?_toArray, List.getElem?_cons_zero, List.getElem?_cons_succ] at x2; replace hO5 := hid hO5; replace hg5 := hid hg5; replace hat5 := hid hat5; replace hbl5 := hid hbl5)
      have hset := hid ((hs7.out.later ((Below.refl _ w7).alloc (Nat.le_refl _) (.cells #[.bool false] 4))).put (t := false) (v2' := .slice A9 (q + 1) c9) hg5.out (by rw [show b7.ac.length = q from by rw [hb7.out]; exact hq.out.symm, show b7.ac = b.ac from by rw [hb7.out]]; exact hO5.out))
      have hrd9 := hid ((hrd7.out.later ((Below.refl _ w7).alloc (Nat.le_refl _) (.cells #[.bool false] 4))).keep (((KeepB.refl (fun b => wA.heap.size ≤ b) _).grown hg5.out fun k hk _ => (hown7.out.lt k hk).1).setCell ⟨gs, 2, none⟩ (.slice A9 (q + 1) c9) fun _ => hs7.out.ge) fun k hk => by have := hzAe.out; omega)
      have hlen9 : Hid (lenAt (w9.setCell ⟨gs, 2, none⟩ (.slice A9 (q + 1) c9)) gs 1 = p + 1) := hid (by
        have h1 := hset.out.blk.cell 1
        simp only [List.getElem?_toArray, List.getElem?_cons_zero, List.getElem?_cons_succ] at h1
        unfold lenAt
        rw [h1])
      have hinv := hid (show (∀ y ∈ (⟨b7.al, b7.nx, b7.ac ++ [false]⟩ : Au).nx, y.length ≤ N) ∧ p + 1 = (⟨b7.al, b7.nx, b7.ac ++ [false]⟩ : Au).nx.length ∧ q + 1 = (⟨b7.al, b7.nx, b7.ac ++ [false]⟩ : Au).ac.length from by
        rw [hb7.out]
        refine ⟨fun y hy => ?_, ?_, ?_⟩
        · rcases List.mem_append.1 hy with hy | hy
          · exact hbr.out y hy
          · rw [List.mem_singleton.1 hy]; exact hrN
        · show p + 1 = (b.nx ++ [r]).length; rw [List.length_append, ← hp.out]; rfl
        · show q + 1 = (b.ac ++ [false]).length; rw [List.length_append, ← hq.out]; rfl)
      go_roundw
      case rel => exact ⟨_, _, p + 1, q + 1, _, _, _, _, hset.out, hrd9.out, hinv.out.2.1, hinv.out.2.2, by omega, by omega, by omega, hinv.out.1⟩
      case measure => rw [hlen9.out, hlen5.out]; omega
  have hjb5 : ((j : Int) == 5) = false := by simpa using hj5c
  replace hj5c := hid hj5c
  go_upto_region 23 with fail
  clear k1 k2
  have k0 := hs.out.blk.cell 0
  have k1 := hs.out.blk.cell 1
  have k2 := hs.out.blk.cell 2
  have hbl := hid (hres.out.keep hs.out.keep (by have := hzAe.out; omega))
  have d0 := hbl.out.cell 0
  have d1 := hbl.out.cell 1
  have d2 := hbl.out.cell 2
  have f0 := hbl.out.frozen 0
  have f1 := hbl.out.frozen 1
  have f2 := hbl.out.frozen 2
  have hltb := hbl.out.lt
  simp only [List.getElem?_toArray, List.getElem?_cons_zero, List.getElem?_cons_succ] at d0 d1 d2 k0 k1 k2
  have hfin := hid (AuUp2.ret (w := w) (Q := AuSz (N + 13)) (P' := P + 4000000) (a := a) ((szSame hnx hac s1 s2 s3).up (by omega)) hs.out.own hzAe.out hrd.out (by omega) ((KeepB.of_below hBA).trans hs.out.keep) hR (.int .i64 (a).al) (.slice A1 n c1) (.slice A2 m c2))
  go_wp2
  refine bodyPost_ret (v := .agg #[.int .i64 (a).al, .slice A1 n c1, .slice A2 m c2]) (by simp [results, Try.results24, go_sem, d0, d1, d2]) rfl ?_
  exact hfin.out

end Go.Proofs.Ytdkjnemakkppfaa

/- The drawing kit: l3Big. -/
namespace Go.Proofs.Ytdkjnemakkppfaa
open Go.RowKit Go.BigFrame AG

set_option maxRecDepth 100000 in
set_option maxHeartbeats 8000000 in
theorem l3Big_up (R P : Nat) (w : World) (hP : P + 100000000 ≤ 1125899906842624) (hr : RdUp w R P) :
    Calls Try.prog 23 #[.pointer (some ⟨R, 0, none⟩)] w (AuUp (RaQ 3 12) R (P + 20000000) w) := by
  obtain ⟨i0, hi, hz0, hz1, hz2⟩ := info_parts infoInt
  obtain ⟨j0, hj, jz0, jz1, jz2⟩ := info_parts infoRows
  obtain ⟨b0, hb, bz0, bz1, bz2⟩ := info_parts infoBools
  have hR := hr.lt
  obtain ⟨wA, hwA, hzA, hBA, -⟩ := boxed w #[.int .i64 0, .slice none 0 0, .slice none 0 0] 26
  have hzAe : wA.heap.size = w.heap.size + 1 := by rw [← hwA]; simp
  have hres : Blk wA w.heap.size 26 #[.int .i64 0, .slice none 0 0, .slice none 0 0] := by rw [← hwA]; exact Blk.new _ _ _
  have hst0 := AuSt.begin (K := fun b => b = R) (w0 := wA) (wr := wA) 3 (KeepB.refl _ _) (Nat.le_refl _)
  have hK : ∀ b, b = R → b < wA.heap.size := fun b e => by omega
  have hrA := hr.later hBA
  replace hr := hid hr
  replace hres := hid hres
  have hzAe' := hid hzAe
  clear hzAe
  go_enter Try.func23, Try.ntmps23
  go_upto_region 2 with fail
  obtain ⟨wB, hwB, hzB, hBB, -⟩ := boxed wA #[.int .i64 3, .slice none 0 0, .slice none 0 0] 26
  rw [hwB]
  rw [hwB] at hst0
  clear hwB
  have hrB := hrA.later hBB
  obtain ⟨gs, hgs⟩ : ∃ gs, Hid (gs = wA.heap.size) := ⟨_, hid rfl⟩
  rw [← hgs.out] at hst0 ⊢
  have hgsR : gs ≠ R := by have := hgs.out; have := hzAe'.out; omega
  have h0 : Hid (RaSt R P wA wB gs 3 (.slice none 0 0) (.slice none 0 0) ⟨3, [], []⟩ [] 0 0) := hid ⟨hst0, rfl, rfl, rfl, fun r h => (by cases h), hrB⟩
  clear hst0 hrA hrB hwA
  go_wp2_with fail
  go_loopw [4] (fun iv wr => ∃ (i N : Nat) (v1 v2 : Value) (a : Au) (xs : List RowV), iv = .int .i64 (i : Nat) ∧ i ≤ 12 ∧ N ≤ i * 1000000 ∧ RaSt R P wA wr gs 3 v1 v2 a xs i N) (fun iv _ => 12 - (intOf iv).toNat)
  case atStart => exact ⟨0, 0, _, _, _, _, rfl, by omega, by omega, h0.out⟩
  case round =>
    obtain ⟨i, N, v1, v2, a, xs, rfl, hi1, hN, hs⟩ := hrel
    by_cases hlt : (i : Int) < 12
    · have hi12 : i < 12 := by omega
      obtain ⟨A1, c1, e1, -, -⟩ := own_slice hs.st.own.rows.own
      subst e1
      have hxl : Hid (xs.length = i) := hid (by rw [hs.st.len]; exact hs.nx)
      have hst := hs.st
      rw [hxl.out] at hst
      have k1 := hst.blk.cell 1
      simp only [List.getElem?_toArray, List.getElem?_cons_zero, List.getElem?_cons_succ] at k1
      have hrd := hs.rd
      have q1 := RI.cell hrd k1 hgsR
      have hgsl := hst.blk.lt
      have hwrz := hst.keep.size
      have hlow : Hid (∀ y ∈ xs, ∀ k, y.v.ownBlock = some k → k < wr.heap.size) := hid fun y hy k e => (hst.rowLt hy e).2
      replace hst := hid hst
      replace hs := hid hs
      replace hrd := hid hrd
      go_upto_region 5 with fail
      clear k1
      refine GK.wp_region 11 [11, 12, 13] 200 (KeepB fun b => b = R) (RI wr R (P + N)) (fun _ u _ => ∃ x : Int, u = .int .i64 x) (by kernel_rfl) (by kernel_rfl) (RI.way wr R _) (by decide) (RI.drew hrd.out) ?_
      simp only [List.take_succ_cons, List.take_zero]
      (repeat (refine GK.grow_quiet wr (by rfl) (by rfl) ?_; intro K hK; go_big_quiet_op; go_big_quiet_on))
      refine GK.grow_new (K := fun b => b = R) (by rfl) wr.heap.size (fun b => .slice (some ⟨b, 0, none⟩) 3 3) 3 #[.int .i64 i, .int .i64 0, .int .i64 11] (fun _ => by go_simp) rfl (fun _ _ o h => RI.alloc o h) (fun _ _ h => RI.size h) (fun k hk => by have := hrd.out.lt; omega) (fun bn hbn => ?_)
      simp only [Act.put, List.setIfInBounds_toArray, List.set_cons_zero, List.set_cons_succ]
      refine GK.grow_call (by rfl) (fun u w w' _ h => h) (fun m wq hm hbq hf => ?_) ?_
      · obtain ⟨b', e1, e2, e3⟩ := hf _ List.mem_cons_self (by kernel_rfl)
        cases e1
        go_simp
        exact ⟨rfl, (num_blk R (P + N + m * 10000) bn [(i : Int), 0, 11] wq 3 (show 0 < 3 by decide) (show 3 ≤ 1000 by decide) (by omega) e3 (by have := hrd.out.lt; omega) hbq.2).mono fun e w' ⟨x, h2, h5, h3, h4⟩ => ⟨_, h5, RI.call hbq h4 h3 (by omega), x, rfl⟩⟩
      rintro u ⟨_, _, _, y, rfl⟩
      simp only [Act.put, List.setIfInBounds_toArray, List.set_cons_zero, List.set_cons_succ]
      refine GK.grow_new (K := fun b => b = R) (by rfl) wr.heap.size (fun b => .slice (some ⟨b, 0, none⟩) 2 2) 3 #[.int .i64 (((i : Int) + 1) % 12), .int .i64 y] (fun _ => by go_simp) rfl (fun _ _ o h => RI.alloc o h) (fun _ _ h => RI.size h) (fun k hk => by have := hrd.out.lt; omega) (fun br hbr => ?_)
      simp only [Act.put, List.setIfInBounds_toArray, List.set_cons_zero, List.set_cons_succ]
      refine GK.grow_new (K := fun b => b = R) (by rfl) wr.heap.size (fun b => .slice (some ⟨b, 0, none⟩) 1 1) 40 #[.slice (some ⟨br, 0, none⟩) 2 2] (fun _ => by go_simp) rfl (fun _ _ o h => RI.alloc o h) (fun _ _ h => RI.size h) (fun k hk => by have := hrd.out.lt; omega) (fun bb hbb => ?_)
      simp only [Act.put, List.setIfInBounds_toArray, List.set_cons_zero, List.set_cons_succ]
      refine GK.grow_nil ?_
      intro w5 hw5 hf
      simp only [List.filterMap_cons, List.filterMap_nil, List.getElem?_cons_zero, List.getElem?_cons_succ]
      obtain ⟨bb', e1, -, hblk4⟩ := hf _ List.mem_cons_self
      cases e1
      obtain ⟨br', e1, -, hblk3⟩ := hf _ (List.mem_cons_of_mem _ List.mem_cons_self)
      cases e1
      clear hf q1
      have hor : w5.ownsRow wr.heap.size 3 1 (.slice (some ⟨br, 0, none⟩) 2 2) 2 (intVals [(((i : Int) + 1) % 12), y]) := ⟨rfl, .inr ⟨br, 2, _, rfl, hbr, hblk3, Nat.le_refl _, by unfold maxLen; omega, rfl, rfl⟩⟩
      have hs5 := hst.out.keepK hK hw5.1
      have hown5 := hs5.own.rows.own
      rw [hxl.out] at hown5
      have hbl5 := hs5.blk
      have ag : (Value.slice A1 i c1).ownBlock ≠ some gs := fun e => own_ne hown5 hbl5 (by decide) _ e rfl
      have hbl5' := hbl5.lt
      have k1 := hbl5.cell 1
      have f1 := hbl5.frozen 1
      simp only [List.getElem?_toArray, List.getElem?_cons_zero, List.getElem?_cons_succ] at k1
      have hrd5 := hid hw5.2
      replace hs5 := hid hs5
      have hz5 := hw5.1.size
      have hor' := hid hor
      clear hor
      refine wpList_append_own_at _ (by rfl) _ _ 23 (by rfl) wA.heap.size 40 j0 (.slice none 0 0) 1 24 Try.underlying23 hj jz0 jz1 jz2 rfl (by decide) _ i (rowVals xs) (by rfl) hown5 ⟨bb, 0, none⟩ 1 1 [.slice (some ⟨br, 0, none⟩) 2 2] (by rfl) (by rfl) (World.news_of_block hblk4) ?c1 ?c3 ?c4 ?c5 ?_
      case c1 => simp [Value.oneCell']
      case c3 => unfold maxLen; omega
      case c4 => omega
      case c5 => have := hs5.out.keep.size; omega
      intro v9 w6 hown9 hgrow hnil9 hat9
      obtain ⟨A8, c8, hv9, -, -⟩ := own_slice hown9
      subst hv9
      have c2'' : w6.cell? ⟨gs, 1, none⟩ = some (.slice A1 i c1) := by rw [hgrow.cell_far _ (by simpa using hbl5') (Ne.symm ag)]; exact k1
      have f2'' : w6.frozen? ⟨gs, 1, none⟩ = false := by rw [hgrow.frozen_far _ (by simpa using hbl5') (Ne.symm ag)]; exact f1
      have hs7 := hid (hs5.out.row (v1' := .slice A8 (i + 1) c8) (x := ⟨[(((i : Int) + 1) % 12), y], some ⟨br, 0, none⟩, 2⟩) (own_base (show w5.ownsRow wr.heap.size 3 1 (.slice (some ⟨br, 0, none⟩) 2 2) 2 (intVals [(((i : Int) + 1) % 12), y]) from hor'.out) hwrz) (fun z hz k e e2 => by have := hlow.out z hz k e; have := (hor'.out.lt k e2).1; omega) hgrow (by rw [hxl.out]; exact hown9))
      have hk7 : Hid (KeepB (fun b => wA.heap.size ≤ b) w5 (w6.setCell ⟨gs, 1, none⟩ (.slice A8 (i + 1) c8))) := hid (((KeepB.refl _ w5).grown hgrow fun k hk _ => (hs5.out.own.rows.own.lt k hk).1).setCell _ _ fun _ => hs5.out.ge)
      have hrd7 := hrd5.out.keep hk7.out fun k hk => by have := hzAe'.out; omega
      obtain ⟨w7, hw7⟩ : ∃ w7, Hid (w6.setCell ⟨gs, 1, none⟩ (.slice A8 (i + 1) c8) = w7) := ⟨_, hid rfl⟩
      rw [hw7.out] at hs7 hrd7
      obtain ⟨M, hM⟩ : ∃ M, Hid (M = N + 11 * 10000) := ⟨_, hid rfl⟩
      have hrd7' : RdUp w7 R (P + M) := hrd7.more (by have := hM.out; omega)
      have hMN : M ≤ N + 200000 := by have := hM.out; omega
      replace hrd7 := hid hrd7'
      clear hrd7'
      clear hown5 hbl5 hown9 hgrow k1 f1
      go_upto_region 6 with fail
      rw [hw7.out]
      clear c2'' f2''
      obtain ⟨a6, ha6⟩ : ∃ a6, Hid (a6 = (⟨a.al, a.nx ++ [[(((i : Int) + 1) % 12), y]], a.ac⟩ : Au)) := ⟨_, hid rfl⟩
      rw [show (⟨a.al, a.nx ++ [[(((i : Int) + 1) % 12), y]], a.ac⟩ : Au) = a6 from ha6.out.symm] at hs7
      obtain ⟨A2, c2v, e2, -, -⟩ := own_slice hs7.out.own.acc
      have hac6 := hid (show a6.ac.length = i by rw [ha6.out]; exact hs.out.ac)
      have hal6 := hid (show a6.al = 3 by rw [ha6.out]; exact hs.out.al)
      rw [hac6.out] at e2
      subst e2
      have k2 := hs7.out.blk.cell 2
      simp only [List.getElem?_toArray, List.getElem?_cons_zero, List.getElem?_cons_succ] at k2
      have hgs7 := hs7.out.blk.lt
      have q2 := RI.cell hrd7.out k2 hgsR
      clear k2
      obtain ⟨tb, htb⟩ : ∃ tb : Bool, True := ⟨true, trivial⟩
      have key : ∀ (tb : Bool) (bb : Nat) (w8 : World), RI w7 R (P + M) 10 w8 → w8.heap[bb]? = some (.cells #[.bool tb] 4 (0, 0)) → True := fun _ _ _ _ _ => trivial
      clear key htb tb
      by_cases hi0 : i = 0
      · have hib : ((i : Int) == 0) = true := by simp; omega
        replace hi0 := hid hi0
        refine GK.wp_region 10 [10, 11, 12] 200 (KeepB fun b => b = R) (RI w7 R (P + M)) (fun _ u _ => ∃ x : Int, u = .int .i64 x) (by kernel_rfl) (by kernel_rfl) (RI.way w7 R _) (by decide) (RI.drew hrd7.out) ?_
        simp only [List.take_succ_cons, List.take_zero]
        (repeat (refine GK.grow_quiet w7 (by rfl) (by rfl) ?_; intro K hK; go_big_quiet_op; go_big_quiet_on))
        (repeat (refine GK.grow_skip (by rfl) ?_; simp only [Act.put, List.setIfInBounds_toArray, List.set_cons_zero, List.set_cons_succ]))
        (repeat (refine GK.grow_quiet w7 (by rfl) (by rfl) ?_; intro K hK; go_big_quiet_op; go_big_quiet_on))
        refine GK.grow_new (K := fun b => b = R) (by rfl) w7.heap.size (fun b => .slice (some ⟨b, 0, none⟩) 1 1) 4 #[.bool true] (fun _ => by go_simp) rfl (fun _ _ o h => RI.alloc o h) (fun _ _ h => RI.size h) (fun k hk => by have := hrd7.out.lt; omega) (fun bb2 hbb2 => ?_)
        simp only [Act.put, List.setIfInBounds_toArray, List.set_cons_zero, List.set_cons_succ]
        refine GK.grow_nil ?_
        intro w8 hw8 hf
        obtain ⟨g', hge, hge2, hblk8⟩ := hf _ List.mem_cons_self
        cases hge
        clear hf q2
        simp only [List.filterMap_cons, List.filterMap_nil, List.getElem?_cons_zero, List.getElem?_cons_succ]
        have hs8 := hs7.out.keepK hK hw8.1
        have hown8 := hs8.own.acc
        rw [hac6.out] at hown8
        have hbl8 := hs8.blk
        have ag2 : (Value.slice A2 i c2v).ownBlock ≠ some gs := fun e => own_ne hown8 hbl8 (by decide) _ e rfl
        have hbl8' := hbl8.lt
        have k2 := hbl8.cell 2
        have f2 := hbl8.frozen 2
        simp only [List.getElem?_toArray, List.getElem?_cons_zero, List.getElem?_cons_succ] at k2
        replace hs8 := hid hs8
        refine wpList_append_own_at _ (by rfl) _ _ 24 (by rfl) wA.heap.size 4 b0 (.bool false) 1 1 Try.underlying24 hb bz0 bz1 bz2 rfl (by decide) _ i (boolVals a6.ac) (by rfl) hown8 ⟨bb2, 0, none⟩ 1 1 [.bool true] (by rfl) (by rfl) (World.news_of_block hblk8) ?d1 ?d3 ?d4 ?d5 ?_
        case d1 => simp [Value.oneCell']
        case d3 => unfold maxLen; omega
        case d4 => omega
        case d5 => have := hs8.out.keep.size; omega
        intro v10 w9 hown10 hgrow2 hnil10 hat10
        obtain ⟨A9, c9, hv10, -, -⟩ := own_slice hown10
        subst hv10
        have c3 : w9.cell? ⟨gs, 2, none⟩ = some (.slice A2 i c2v) := by rw [hgrow2.cell_far _ (by simpa using hbl8') (Ne.symm ag2)]; exact k2
        have f3 : w9.frozen? ⟨gs, 2, none⟩ = false := by rw [hgrow2.frozen_far _ (by simpa using hbl8') (Ne.symm ag2)]; exact f2
        have hfin := hid (hs8.out.put hgrow2 (by rw [hac6.out]; exact hown10))
        have hk9 : Hid (KeepB (fun b => wA.heap.size ≤ b) w8 (w9.setCell ⟨gs, 2, none⟩ (.slice A9 (i + 1) c9))) := hid (((KeepB.refl _ w8).grown hgrow2 fun k hk _ => (hown8.lt k hk).1).setCell _ _ fun _ => hs8.out.ge)
        have hrd9 := hid ((hw8.2.keep hk9.out fun k hk => by have := hzAe'.out; omega).more (by omega : P + M + _ ≤ P + (M + 200000)))
        clear hown8 hbl8 hown10 hgrow2 k2 f2
        go_wp2_with fail
        go_roundw
        case rel => exact ⟨i + 1, M + 200000, _, _, _, _, by go_num, by omega, by omega, ⟨hfin.out, hal6.out, by show a6.nx.length = i + 1; rw [ha6.out]; show (a.nx ++ [_]).length = _; rw [List.length_append, hs.out.nx]; rfl, by show (a6.ac ++ _).length = i + 1; rw [List.length_append, hac6.out]; rfl, by
          show ∀ z ∈ a6.nx, z.length ≤ 6
          rw [ha6.out]
          intro z hz
          rcases List.mem_append.1 hz with hz | hz
          · exact hs.out.rows z hz
          · rw [List.mem_singleton.1 hz]; show 2 ≤ 6; omega, hrd9.out⟩⟩
        case measure => simp [intOf]; omega
      · have hib : ((i : Int) == 0) = false := by simp; omega
        replace hi0 := hid hi0
        refine GK.wp_region 10 [10, 11, 12] 200 (KeepB fun b => b = R) (RI w7 R (P + M)) (fun _ u _ => ∃ x : Int, u = .int .i64 x) (by kernel_rfl) (by kernel_rfl) (RI.way w7 R _) (by decide) (RI.drew hrd7.out) ?_
        simp only [List.take_succ_cons, List.take_zero]
        (repeat (refine GK.grow_quiet w7 (by rfl) (by rfl) ?_; intro K hK; go_big_quiet_op; go_big_quiet_on))
        refine GK.grow_call (by rfl) (fun u w w' _ h => h) (fun m wq hm hbq hf => ?_) ?_
        · go_simp
          exact ⟨rfl, (pick_up R (P + M + m * 10000) 5 wq (by omega) (by omega) hbq.2).mono fun e w' ⟨x, h2, _, _, h3, h4⟩ => ⟨_, h2, RI.call hbq h4 h3 (by omega), x, rfl⟩⟩
        rintro u ⟨_, _, _, x, rfl⟩
        simp only [Act.put, List.setIfInBounds_toArray, List.set_cons_zero, List.set_cons_succ]
        (repeat (refine GK.grow_quiet w7 (by rfl) (by rfl) ?_; intro K hK; go_big_quiet_op; go_big_quiet_on))
        refine GK.grow_new (K := fun b => b = R) (by rfl) w7.heap.size (fun b => .slice (some ⟨b, 0, none⟩) 1 1) 4 #[.bool (x == 0)] (fun _ => by go_simp) rfl (fun _ _ o h => RI.alloc o h) (fun _ _ h => RI.size h) (fun k hk => by have := hrd7.out.lt; omega) (fun bb2 hbb2 => ?_)
        simp only [Act.put, List.setIfInBounds_toArray, List.set_cons_zero, List.set_cons_succ]
        refine GK.grow_nil ?_
        intro w8 hw8 hf
        obtain ⟨g', hge, hge2, hblk8⟩ := hf _ List.mem_cons_self
        cases hge
        clear hf q2
        simp only [List.filterMap_cons, List.filterMap_nil, List.getElem?_cons_zero, List.getElem?_cons_succ]
        have hs8 := hs7.out.keepK hK hw8.1
        have hown8 := hs8.own.acc
        rw [hac6.out] at hown8
        have hbl8 := hs8.blk
        have ag2 : (Value.slice A2 i c2v).ownBlock ≠ some gs := fun e => own_ne hown8 hbl8 (by decide) _ e rfl
        have hbl8' := hbl8.lt
        have k2 := hbl8.cell 2
        have f2 := hbl8.frozen 2
        simp only [List.getElem?_toArray, List.getElem?_cons_zero, List.getElem?_cons_succ] at k2
        replace hs8 := hid hs8
        refine wpList_append_own_at _ (by rfl) _ _ 24 (by rfl) wA.heap.size 4 b0 (.bool false) 1 1 Try.underlying24 hb bz0 bz1 bz2 rfl (by decide) _ i (boolVals a6.ac) (by rfl) hown8 ⟨bb2, 0, none⟩ 1 1 [.bool (x == 0)] (by rfl) (by rfl) (World.news_of_block hblk8) ?d1 ?d3 ?d4 ?d5 ?_
        case d1 => simp [Value.oneCell']
        case d3 => unfold maxLen; omega
        case d4 => omega
        case d5 => have := hs8.out.keep.size; omega
        intro v10 w9 hown10 hgrow2 hnil10 hat10
        obtain ⟨A9, c9, hv10, -, -⟩ := own_slice hown10
        subst hv10
        have c3 : w9.cell? ⟨gs, 2, none⟩ = some (.slice A2 i c2v) := by rw [hgrow2.cell_far _ (by simpa using hbl8') (Ne.symm ag2)]; exact k2
        have f3 : w9.frozen? ⟨gs, 2, none⟩ = false := by rw [hgrow2.frozen_far _ (by simpa using hbl8') (Ne.symm ag2)]; exact f2
        have hfin := hid (hs8.out.put hgrow2 (by rw [hac6.out]; exact hown10))
        have hk9 : Hid (KeepB (fun b => wA.heap.size ≤ b) w8 (w9.setCell ⟨gs, 2, none⟩ (.slice A9 (i + 1) c9))) := hid (((KeepB.refl _ w8).grown hgrow2 fun k hk _ => (hown8.lt k hk).1).setCell _ _ fun _ => hs8.out.ge)
        have hrd9 := hid ((hw8.2.keep hk9.out fun k hk => by have := hzAe'.out; omega).more (by omega : P + M + _ ≤ P + (M + 200000)))
        clear hown8 hbl8 hown10 hgrow2 k2 f2
        go_wp2_with fail
        go_roundw
        case rel => exact ⟨i + 1, M + 200000, _, _, _, _, by go_num, by omega, by omega, ⟨hfin.out, hal6.out, by show a6.nx.length = i + 1; rw [ha6.out]; show (a.nx ++ [_]).length = _; rw [List.length_append, hs.out.nx]; rfl, by show (a6.ac ++ _).length = i + 1; rw [List.length_append, hac6.out]; rfl, by
          show ∀ z ∈ a6.nx, z.length ≤ 6
          rw [ha6.out]
          intro z hz
          rcases List.mem_append.1 hz with hz | hz
          · exact hs.out.rows z hz
          · rw [List.mem_singleton.1 hz]; show 2 ≤ 6; omega, hrd9.out⟩⟩
        case measure => simp [intOf]; omega
    · obtain ⟨A1, c1, e1, -, -⟩ := own_slice hs.st.own.rows.own
      subst e1
      obtain ⟨A2, c2, e2, -, -⟩ := own_slice hs.st.own.acc
      subst e2
      have k0 := hs.st.blk.cell 0
      have k1 := hs.st.blk.cell 1
      have k2 := hs.st.blk.cell 2
      have hzAe := hzAe'.out
      have hbl := hres.out.keep hs.st.keep (by omega)
      have d0 := hbl.cell 0
      have d1 := hbl.cell 1
      have d2 := hbl.cell 2
      have f0 := hbl.frozen 0
      have f1 := hbl.frozen 1
      have f2 := hbl.frozen 2
      simp only [List.getElem?_toArray, List.getElem?_cons_zero, List.getElem?_cons_succ] at d0 d1 d2 k0 k1 k2
      have hlt2 := hbl.lt
      have hown := hs.st.own
      rw [hzAe] at hown
      have hfin := hid (AuUp.ret (Q := RaQ 3 12) (P' := P + 20000000) ⟨hs.al, by have := hs.nx; omega, by have := hs.ac; omega, hs.rows⟩ hown hs.rd (by omega) ((KeepB.of_below hBA).trans hs.st.keep) hR (.int .i64 a.al) (.slice A1 xs.length c1) (.slice A2 a.ac.length c2))
      replace hs := hid hs
      clear hbl hown hzAe
      go_wp2
      refine bodyPost_ret (v := .agg #[.int .i64 a.al, .slice A1 xs.length c1, .slice A2 a.ac.length c2]) (by simp [results, Try.results23, go_sem, d0, d1, d2]) rfl ?_
      exact hfin.out

end Go.Proofs.Ytdkjnemakkppfaa

/- The reference's AutomatonValid and l6Accepting. -/
namespace Go.Proofs.Ytdkjnemakkppfaa
open Go.RowKit Go.BigFrame AG

noncomputable def rowOkB (L n : Nat) (r : List Int) : Bool := @decide (rowOk L n r) (Classical.propDecidable _)
theorem rowOkB_iff {L n : Nat} {r : List Int} : rowOkB L n r = true ↔ rowOk L n r := by unfold rowOkB; exact @decide_eq_true_iff _ (Classical.propDecidable _)
theorem rowOkB_no {L n : Nat} {r : List Int} (h : ¬ rowOk L n r) : rowOkB L n r = false := by rw [← Bool.not_eq_true, rowOkB_iff]; exact h
set_option maxRecDepth 100000 in
set_option maxHeartbeats 1000000 in
theorem l3Row_any (r : List Int) (A : Option Addr) (c L n : Nat) (w : World) (hl : r.length ≤ c) (hc : c ≤ 9223372036854775807) (hr : IntsAt w w.heap.size A r) :
    Calls Try.prog 48 #[.slice A r.length c, .int .i64 (L : Nat), .int .i64 (n : Nat)] w fun e w' => e = .returned (.bool (rowOkB L n r)) ∧ Below w.heap.size w w' := by
  replace hr := hid hr
  go_enter Try.func48, Try.ntmps48
  by_cases hrl : r.length = L
  case neg =>
    have hno := hid (rowOkB_no (n := n) (fun h : rowOk L n r => hrl h.1))
    have hq : ((r.length : Int) != (L : Int)) = true := by simp; omega
    replace hrl := hid hrl
    go_wp2
    go_ret
    exact ⟨ret_bool (by rw [hno.out]), Below.refl _ _⟩
  have hq : ((r.length : Int) != (L : Int)) = false := by simp; omega
  replace hrl := hid hrl
  go_wp2
  go_loopw [7] (fun jv wq => ∃ j : Nat, jv = .int .i64 (j : Nat) ∧ j ≤ r.length ∧ (∀ q ∈ r.take j, 0 ≤ q ∧ q < (n : Int)) ∧ wq = w) (fun jv _ => r.length - (intOf jv).toNat)
  case atStart => exact ⟨0, rfl, by omega, by simp, rfl⟩
  case round =>
    obtain ⟨j, rfl, hj, hin, rfl⟩ := hrel
    by_cases hjl : j < r.length
    · obtain ⟨bj, oj, hA, hbj, hcell⟩ := hr.out (by omega)
      subst hA
      have c0 := hcell j hjl
      obtain ⟨q, hq'⟩ : ∃ q, Hid (q = r[j]) := ⟨_, hid rfl⟩
      rw [← hq'.out] at c0
      have hqm : Hid (q ∈ r) := hid (by rw [hq'.out]; exact List.getElem_mem _)
      have k2 : (0 : Int) ≤ (j : Int) ∧ (j : Int) < (r.length : Int) := by omega
      replace hcell := hid hcell
      replace hin := hid hin
      by_cases hqn : 0 ≤ q ∧ q < (n : Int)
      · have hq1 : ¬ (q < 0) := by omega
        have hq2 : ¬ ((n : Int) ≤ q) := by omega
        go_wp2
        go_roundw
        case rel =>
          refine ⟨j + 1, by go_num, by omega, fun y hy => ?_, by first | rfl | trivial⟩
          rw [List.take_succ_eq_append_getElem hjl, List.mem_append, List.mem_singleton, ← hq'.out] at hy
          rcases hy with hy | rfl
          · exact hin.out y hy
          · exact hqn
        case measure => simp [intOf]; omega
      · have hno := hid (rowOkB_no (fun h : rowOk L n r => hqn (h.2 q hqm.out)))
        by_cases hq1 : q < 0
        · go_wp2
          go_ret
          exact ⟨ret_bool (by rw [hno.out]), Below.refl _ _⟩
        · have hq2 : ((n : Int) ≤ q) := by omega
          go_wp2
          go_ret
          exact ⟨ret_bool (by rw [hno.out]), Below.refl _ _⟩
    · rw [List.take_of_length_le (by omega)] at hin
      have hyes := hid (rowOkB_iff.2 (show rowOk L n r from ⟨hrl.out, hin⟩))
      replace hin := hid hin
      go_wp2
      go_ret
      exact ⟨ret_bool (by rw [hyes.out]), Below.refl _ _⟩

set_option maxRecDepth 100000 in
set_option maxHeartbeats 4000000 in
theorem specAutomatonValid_any (a : Au) (A B : Option Addr) (c d : Nat) (w : World) (ha : AuAt w A c B d a) :
    Calls Try.prog 25 #[a.val A c B d] w fun e w' => e = .returned (.bool (auOk a)) ∧ Below w.heap.size w w' := by
  obtain ⟨cl, cm, dl, dm, hrows, -⟩ := ha
  unfold AG.Au.val
  obtain ⟨w0, hw0, hz0, hB0, hS⟩ := boxed w #[Value.int IntKind.i64 a.al, Value.slice A a.nx.length c, Value.slice B a.ac.length d] 26
  have hr0 := hid (hrows.later hB0)
  have p0 := hS 0 _ rfl _ (Below.refl _ _)
  have p1 := hS 1 _ rfl _ (Below.refl _ _)
  have p2 := hS 2 _ rfl _ (Below.refl _ _)
  replace hrows := hid hrows
  go_enter Try.func25, Try.ntmps25
  go_wp2_with fail
  refine (l1Alphabet_any a.al w0).mono ?_
  rintro e w1 ⟨rfl, rfl⟩
  cases hal : alphaOk a.al
  case false =>
    have hno := hid (auOk_no (a := a) (by rw [hal]; simp))
    replace hal := hid hal
    go_wp2
    go_ret
    exact ⟨ret_bool (by rw [hno.out]), hB0⟩
  case true =>
  have hal' := hid hal
  clear hal
  by_cases hn1 : 1 ≤ a.nx.length
  case neg =>
    have hno := hid (auOk_no (a := a) (by omega))
    have ht : ((a.nx.length : Int) < 1) := by omega
    go_wp2
    go_ret
    exact ⟨ret_bool (by rw [hno.out]), hB0⟩
  by_cases hn2 : a.nx.length ≤ 12
  case neg =>
    have hno := hid (auOk_no (a := a) (by omega))
    have ht : ¬ ((a.nx.length : Int) < 1) := by omega
    have ht2 : ((12 : Int) < (a.nx.length : Int)) := by omega
    go_wp2
    go_ret
    exact ⟨ret_bool (by rw [hno.out]), hB0⟩
  have ht : ¬ ((a.nx.length : Int) < 1) := by omega
  have ht2 : ¬ ((12 : Int) < (a.nx.length : Int)) := by omega
  by_cases hn3 : a.ac.length = a.nx.length
  case neg =>
    have hno := hid (auOk_no (a := a) (fun h => hn3 h.2.2.2.1))
    have ht3 : ((a.ac.length : Int) != (a.nx.length : Int)) = true := by simp; omega
    replace hn3 := hid hn3
    go_wp2
    go_ret
    exact ⟨ret_bool (by rw [hno.out]), hB0⟩
  have ht3 : ((a.ac.length : Int) != (a.nx.length : Int)) = false := by simp; omega
  replace hn3 := hid hn3
  obtain ⟨L, hL⟩ : ∃ L, Hid (L = (letters a.al).length) := ⟨_, hid rfl⟩
  have hL6 : L ≤ 6 := by rw [hL.out]; exact lettersTo_len a.al 6
  go_wp2_with fail
  clear p0 p1 p2
  go_loopw [4] (fun iv wr => ∃ i : Nat, iv = .int .i64 (i : Nat) ∧ i ≤ a.nx.length ∧ (∀ r ∈ a.nx.take i, rowOk L a.nx.length r) ∧ Below w0.heap.size w0 wr) (fun iv _ => a.nx.length - (intOf iv).toNat)
  case atStart => exact ⟨0, rfl, by omega, by simp, Below.refl _ _⟩
  case round =>
    obtain ⟨i, rfl, hi, hok, hb⟩ := hrel
    have hBr := hB0.trans (hb.mono hB0.size)
    by_cases hlt : i < a.nx.length
    · obtain ⟨b, o, hA, hbB, hE⟩ := hr0.out (by omega)
      subst hA
      obtain ⟨Ai, ci, e0, h1, h2, h3⟩ := hE i hlt
      rw [← hb.cell (by simpa using hbB)] at e0
      obtain ⟨r, hr⟩ : ∃ r, Hid (r = a.nx[i]) := ⟨_, hid rfl⟩
      rw [← hr.out] at e0 h1 h3
      have hmem : Hid (r ∈ a.nx) := hid (by rw [hr.out]; exact List.getElem_mem _)
      have k1 : (0 : Int) ≤ (i : Int) ∧ (i : Int) < (a.nx.length : Int) := by omega
      have h3' := hid h3
      replace hE := hid hE
      replace hok := hid hok
      clear h3
      have hF : ∀ x, Below (w.heap.size + 1) w0 (Fam wr.heap.size wr x) := fun x => (hb.trans ((Fam.below _ _ x).mono hb.size)).mono hz0
      have y0 := fun x => hS 0 _ rfl _ (hF x)
      have y1 := fun x => hS 1 _ rfl _ (hF x)
      have y2 := fun x => (Fam.below wr.heap.size wr x).cell (World.block_lt_of_cell? _ _ e0) |>.trans e0
      obtain ⟨R, hR⟩ : ∃ R, Hid (R = rowOkB L a.nx.length r) := ⟨_, hid rfl⟩
      have hrd := hid (h3'.out.later hb)
      replace hF := hid hF
      clear e0
      go_wp2_with fail
      refine wp_region_grow 12 wr.heap.size wr (fun i u w' => if i = 7 then OwnNats w' wr.heap.size u (letters a.al) else u = .bool R) (by kernel_rfl) (by kernel_rfl) (Nat.le_refl _) (Below.refl _ _) ?_
      simp only [List.take_succ_cons, List.take_zero, List.drop_succ_cons, List.drop_zero]
      (repeat (refine grow_quiet (by rfl) (by rfl) (by rfl) ?_; intro K hK; go_big_quiet_op; go_big_quiet_on))
      refine grow_call (by rfl) (by rfl) (fun u v v' hb h => ?_) (fun wq hbq _ => ?_) fun u hu => ?_
      · exact own_keep h (.of_below (K := fun _ => False) hb) fun _ _ h => h
      · go_simp
        refine ⟨rfl, (l1Letters_any a.al wq).mono ?_⟩
        rintro e w5 ⟨v, rfl, ho, hb5⟩
        exact ⟨v, rfl, hb5, own_base ho hbq.size⟩
      obtain ⟨wx, hbx, hux⟩ := hu
      obtain ⟨AL, cL, rfl, hcL, hcL'⟩ := own_slice hux
      rw [← hL.out] at hcL ⊢
      clear hux hbx
      simp only [Act.put, List.setIfInBounds_toArray, List.set_cons_zero, List.set_cons_succ]
      (repeat (refine grow_quiet (by rfl) (by rfl) (by rfl) ?_; intro K hK; go_big_quiet_op; go_big_quiet_on))
      refine grow_val (.bool R) (by rfl) (by rfl) rfl (fun wq hbq _ => ?_) ?_
      · have hrq := hid (hrd.out.later hbq)
        go_simp
        refine ⟨rfl, (l3Row_any r Ai ci L a.nx.length wq h1 h2 hrq.out).mono ?_⟩
        rintro e w6 ⟨rfl, hb6⟩
        exact ⟨by rw [hR.out], hb6⟩
      simp only [Act.put, List.setIfInBounds_toArray, List.set_cons_zero, List.set_cons_succ]
      (repeat (refine grow_quiet (by rfl) (by rfl) (by rfl) ?_; intro K hK; go_big_quiet_op; go_big_quiet_on))
      refine grow_nil ?_
      intro w7 hb7 hf
      clear hf y0 y1 y2
      have hb27 := hb.trans (hb7.mono hb.size)
      have hB7 := hB0.trans (hb27.mono hB0.size)
      cases R
      · have hno := hid (auOk_no (a := a) (fun h => by
          have h5 := rowOkB_iff.2 (h.2.2.2.2 r hmem.out)
          rw [← hL.out, ← hR.out] at h5
          cases h5))
        go_wp2_with fail
        go_ret
        exact ⟨ret_bool (by rw [hno.out]), hB7⟩
      · have hro := hid (rowOkB_iff.1 hR.out.symm)
        go_wp2_with fail
        go_roundw
        case rel =>
          refine ⟨i + 1, by go_num, by omega, fun y hy => ?_, hb27⟩
          rw [List.take_succ_eq_append_getElem hlt, List.mem_append, List.mem_singleton, ← hr.out] at hy
          rcases hy with hy | rfl
          · exact hok.out y hy
          · exact hro.out
        case measure => simp [intOf]; omega
    · rw [List.take_of_length_le (by omega)] at hok
      have hyes := hid ((auOk_iff a).2 ⟨hal'.out, hn1, hn2, hn3.out, by rw [← hL.out]; exact hok⟩)
      replace hok := hid hok
      go_wp2
      go_ret
      exact ⟨ret_bool (by rw [hyes.out]), hBr⟩


end Go.Proofs.Ytdkjnemakkppfaa

/- The drawing kit: l3Texts, l3Parse, FormatAutomaton. -/
namespace Go.Proofs.Ytdkjnemakkppfaa
open Go.RowKit Go.BigFrame AG

theorem texts_post3 (w : World) (T : TypeId) (cs : Array Value) (e : Ending) (he : e = .returned (.slice (some ⟨w.heap.size, 0, none⟩) 12 12)) (hn : cs.size = 12) (h : cs.toList.all isText = true) :
    ∃ xs : List ByteArray, xs.length = 12 ∧ (∀ x ∈ xs, x.size ≤ 60) ∧ e = .returned (.slice (some ⟨w.heap.size, 0, none⟩) 12 12) ∧ (∀ i (hi : i < xs.length), (w.alloc (.cells cs T)).cell? ⟨w.heap.size, 0 + i, none⟩ = some (.string xs[i])) ∧ w.heap.size < (w.alloc (.cells cs T)).heap.size ∧ Below w.heap.size w (w.alloc (.cells cs T)) := by
  obtain ⟨xs, h1, h2, h3⟩ := texts_of w T cs h
  exact ⟨xs, h1.trans hn, h2, he, h3, by simp, (Below.refl _ _).alloc (Nat.le_refl _) _⟩
set_option maxHeartbeats 1000000 in
theorem l3Texts_any (w : World) :
    Calls Try.prog 45 #[] w fun e w' => ∃ xs : List ByteArray, xs.length = 12 ∧ (∀ x ∈ xs, x.size ≤ 60) ∧ e = .returned (.slice (some ⟨w.heap.size, 0, none⟩) 12 12) ∧ (∀ i (hi : i < xs.length), w'.cell? ⟨w.heap.size, 0 + i, none⟩ = some (.string xs[i])) ∧ w.heap.size < w'.heap.size ∧ Below w.heap.size w w' := by
  go_enter Try.func45, Try.ntmps45
  go_wp2
  go_ret
  exact texts_post3 w _ _ _ rfl rfl (by kernel_rfl)

def PrsPost (w : World) (e : Ending) (w' : World) : Prop := ∃ (v : Value) (ns : List Int) (ok : Bool), e = .returned (.tuple #[v, .bool ok]) ∧ w'.ownsRow w.heap.size 3 1 v ns.length (intVals ns) ∧ ns.length ≤ 2000 ∧ Below w.heap.size w w'
set_option maxRecDepth 100000 in
set_option maxHeartbeats 4000000 in
theorem l3Parse_any (s : ByteArray) (w : World) (hz : s.size ≤ 1000) : Calls Try.prog 56 #[.string s] w (PrsPost w) := by
  obtain ⟨i0, hi0, hz0, hz1, hz2⟩ := info_parts infoInt
  obtain ⟨wB, hwB, hzB, hBB, -⟩ := boxed w #[] 3
  have hrow0 : Hid (wB.ownsRow w.heap.size 3 1 (.slice (some ⟨w.heap.size, 0, none⟩) 0 0) 0 (intVals [])) := hid ⟨rfl, .inr ⟨w.heap.size, 0, #[], rfl, Nat.le_refl _, by rw [← hwB]; exact Blk.new w 3 #[], Nat.le_refl _, Nat.zero_le _, rfl, rfl⟩⟩
  go_enter Try.func56, Try.ntmps56
  by_cases hs : s.size = 0
  · have hse : (s.toList == []) = true := by
      have : s = ⟨#[]⟩ := by
        apply ByteArray.ext
        exact Array.eq_empty_of_size_eq_zero hs
      rw [this, ByteArray.toList_eq]; rfl
    replace hs := hid hs
    go_wp2_with fail
    go_ret2
    exact ⟨_, [], true, rfl, hrow0.out, by simp, hBB⟩
  · have hse : (s.toList == []) = false := by
      rw [beq_eq_false_iff_ne]
      intro h
      apply hs
      have := congrArg List.length h
      rw [ByteArray.toList_eq] at this
      simpa using this
    replace hs := hid hs
    go_wp2_with fail
    refine (l19Cut_any s 44 wB (by omega)).mono ?_
    rintro e w1 ⟨pv, ps, rfl, hcut⟩
    have hb1 := hcut.below
    have hplen := hcut.len
    obtain ⟨Ap, cp, hpv, hcp, hcp'⟩ := own_slice hcut.own
    subst hpv
    have hrow1 := hid (own_later_ hrow0.out hb1)
    have hB1 := hBB.trans (hb1.mono hBB.size)
    replace hcut := hid hcut
    go_wp2_with fail
    go_loopw [4, 6] (fun ov iv wr => ∃ (ns : List Int), iv = .int .i64 (ns.length : Nat) ∧ ns.length ≤ ps.length ∧ wr.ownsRow w.heap.size 3 1 ov ns.length (intVals ns) ∧ OwnStrs wr wB.heap.size (.slice Ap ps.length cp) ps ∧ Below w.heap.size w wr) (fun _ iv _ => ps.length - (intOf iv).toNat)
    case atStart => exact ⟨[], rfl, by simp, hrow1.out, hcut.out.own, hB1⟩
    case round =>
      obtain ⟨ns, rfl, hi, ho, hps, hb⟩ := hrel
      obtain ⟨Ao, co, rfl, hco, hco'⟩ := own_slice ho
      by_cases hlt : ns.length < ps.length
      · obtain ⟨gp, cap, hve, hg1, hg2, -, -, hP⟩ := own_strs hps (by omega)
        injection hve with hv1 hv2 hv3
        subst hv1
        subst hv3
        have s0 := hP ns.length hlt
        have hsm : (ps[ns.length]'hlt).size ≤ 1000 := by have := hcut.out.small _ (List.getElem_mem hlt); omega
        obtain ⟨x, hx⟩ : ∃ x, Hid (x = ps[ns.length]'hlt) := ⟨_, hid rfl⟩
        rw [← hx.out] at s0 hsm
        have k1 : (0 : Int) ≤ (ns.length : Int) ∧ (ns.length : Int) < (ps.length : Int) := by omega
        replace hP := hid hP
        replace ho := hid ho
        replace hps := hid hps
        go_wp2_with fail
        refine (l19Num_any x wr (by omega)).mono ?_
        rintro e w' ⟨n, fine, rfl, rfl⟩
        cases fine
        · go_wp2_with fail
          go_ret2
          exact ⟨_, [], false, rfl, World.ownsRow_nil _ _ _ _, by simp, hb⟩
        · have hzr := hb.size
          go_wp2_with (at_builtin; refine wpList_append_own_at _ rfl _ _ 40 rfl w.heap.size 3 i0 (.int .i64 0) 1 8 Try.underlying40 hi0 hz0 hz1 hz2 rfl (by decide) _ _ _ rfl (ho.out.alloc _) ⟨wr.heap.size, 0, none⟩ 1 1 [.int .i64 n] rfl rfl (cell_one_new _ _ _) (by intro u hu; simp at hu; subst hu; rfl) (by unfold maxLen; omega) (by omega) (by simp; omega) ?_; intro v5 w5 hO5 hg5 _ hat5; obtain ⟨A5, c5, ev5, -, -⟩ := own_slice hO5; subst ev5; replace hO5 := hid hO5; replace hg5 := hid hg5; replace hat5 := hid hat5)
          have hkk : Hid (KeepB (fun b => (Value.slice Ao ns.length co).ownBlock = some b) wr w5) := hid (((KeepB.refl _ wr).alloc _).grown hg5.out fun k hk _ => hk)
          have hps5 := hid (own_keep hps.out hkk.out fun g hg e => own_ne_own hps.out ho.out (by decide) g g hg e rfl)
          have hb5 := hid (hkk.out.below hb hb.size fun b e => own_block ho.out b e)
          go_roundw
          case rel => exact ⟨ns ++ [n], by rw [List.length_append]; go_num, by rw [List.length_append]; exact hlt, by rw [append_snoc_int, List.length_append]; exact hO5.out, hps5.out, hb5.out⟩
          case measure => simp [intOf]; omega
      · go_wp2_with fail
        go_ret2
        exact ⟨_, ns, true, rfl, ho, by have := hplen; omega, hb⟩

set_option maxRecDepth 100000 in
set_option maxHeartbeats 4000000 in
theorem formatAutomaton_any (a : Au) (A B : Option Addr) (c d : Nat) (w : World) (ha : AuAt w A c B d a) :
    Calls Try.prog 57 #[a.val A c B d] w fun e w' => ∃ x : ByteArray, e = .returned (.string x) ∧ Below w.heap.size w w' := by
  obtain ⟨w0, hw0, hz0, hB0, hS⟩ := boxed w #[Value.int IntKind.i64 a.al, Value.slice A a.nx.length c, Value.slice B a.ac.length d] 26
  have ha0 := hid (ha.later hB0)
  have p0 := hS 0 _ rfl _ (Below.refl _ _)
  have p1 := hS 1 _ rfl _ (Below.refl _ _)
  have p2 := hS 2 _ rfl _ (Below.refl _ _)
  replace ha := hid ha
  unfold AG.Au.val
  go_enter Try.func57, Try.ntmps57
  go_wp2_with fail
  refine (specAutomatonValid_any a A B c d w0 ha0.out).mono ?_
  rintro e w1 ⟨rfl, hb1⟩
  have hB1 := hB0.trans (hb1.mono hB0.size)
  have hC1 := hb1.mono hz0
  clear p0 p1 p2
  cases hok : auOk a
  · replace hok := hid hok
    go_wp2_with fail
    go_ret
    exact ⟨_, rfl, hB1⟩
  obtain ⟨-, hn1, hn12, hn3, hrow⟩ := (auOk_iff a).1 hok
  have hok' := hid hok
  replace hn3 := hid hn3
  have hL6 : Hid (∀ r ∈ a.nx, r.length ≤ 6) := hid fun r hr => by rw [(hrow r hr).1]; exact letters_len6 a.al
  replace hrow := hid hrow
  clear hok
  have p0 := hS 0 _ rfl _ hC1
  have hz1 := hb1.size
  go_wp2_with fail
  refine (formatAlpha_any a.al w1).mono ?_
  rintro e w2 ⟨x, rfl, hx0, hb2⟩
  have hB2 := hB1.trans (hb2.mono hB1.size)
  have hC2 := hC1.trans (hb2.mono (by omega))
  have ha2 := hid (ha0.out.later (hb1.trans (hb2.mono hz1)))
  have hz2 := hb2.size
  clear p0
  have p1 := hS 1 _ rfl _ hC2
  go_wp2_with fail
  clear p1
  go_loopw [3, 4] (fun ov iv wr => ∃ (i : Nat) (x : ByteArray), iv = .int .i64 (i : Nat) ∧ ov = .string x ∧ x.size ≤ 6 + i * 10000 ∧ i ≤ a.nx.length ∧ Below w2.heap.size w2 wr) (fun _ iv _ => a.nx.length - (intOf iv).toNat)
  case atStart => exact ⟨0, _, rfl, rfl, by omega, by omega, Below.refl _ _⟩
  case round =>
    clear hx0
    obtain ⟨i, x, rfl, rfl, hxi, hi, hb⟩ := hrel
    have hCr := hC2.trans (hb.mono (by omega))
    have hBr := hB2.trans (hb.mono hB2.size)
    have p1 := hS 1 _ rfl _ hCr
    have p2 := hS 2 _ rfl _ hCr
    by_cases hlt : i < a.nx.length
    · obtain ⟨bA, oA, hAe, hbA, hEA⟩ := ha2.out.acc (by have := hn3.out; omega)
      have hla := hn3.out
      have hda := ha2.out.dl
      subst hAe
      obtain ⟨t, c0⟩ : ∃ t, wr.cell? ⟨bA, oA + i, none⟩ = some (.bool t) := ⟨_, by rw [hb.cell (by simpa using hbA)]; exact hEA i (by omega)⟩
      obtain ⟨bR, oR, hRe, hbR, hER⟩ := ha2.out.rows (by omega)
      subst hRe
      obtain ⟨Ai, ci, r0, h1, h2, h3⟩ := hER i hlt
      rw [← hb.cell (by simpa using hbR)] at r0
      obtain ⟨r, hr⟩ : ∃ r, Hid (r = a.nx[i]) := ⟨_, hid rfl⟩
      have hrr := hrow.out _ (List.getElem_mem hlt)
      rw [← hr.out] at r0 h1 h3 hrr
      obtain ⟨-, hrin⟩ := hrr
      have k1 : (0 : Int) ≤ (i : Int) ∧ (i : Int) < (a.nx.length : Int) := by omega
      have k2 : (i : Int) < (a.ac.length : Int) := by omega
      clear hla
      replace hEA := hid hEA
      replace hER := hid hER
      replace h3 := hid h3
      replace hrin := hid hrin
      obtain ⟨wo, rfl⟩ : ∃ wo : World, wo = wr := ⟨_, rfl⟩
      cases t
      all_goals
        go_wp2_with fail
        go_loopw [3, 6] (fun ov kv wr => ∃ (k : Nat) (x : ByteArray), kv = .int .i64 (k : Nat) ∧ ov = .string x ∧ x.size ≤ 8 + i * 10000 + k * 1002 ∧ k ≤ r.length ∧ Below w2.heap.size w2 wr) (fun _ kv _ => r.length - (intOf kv).toNat)
        case atStart => exact ⟨0, _, rfl, rfl, by rw [ByteArray.size_append]; show x.size + 2 ≤ _; omega, by omega, hb⟩
        case round =>
          clear c0 r0 p1 p2 hxi
          obtain ⟨k, x, rfl, rfl, hxk, hk, hbk⟩ := hrel
          have hCk := hC2.trans (hbk.mono (by omega))
          have p1 := hS 1 _ rfl _ hCk
          obtain ⟨Ai', ci', r0, -, -, h3'⟩ := hER.out i hlt
          rw [← hbk.cell (by simpa using hbR), ← hr.out] at r0
          rw [← hr.out] at h3'
          have hrl6 := hL6.out r (by rw [hr.out]; exact List.getElem_mem _)
          by_cases hkl : k < r.length
          · obtain ⟨bi, oi, hie, hbi, hEi⟩ := h3' (by omega)
            subst hie
            have i0 := hEi k hkl
            rw [← hbk.cell (by simpa using hbi)] at i0
            obtain ⟨y0, y1⟩ := hrin.out _ (List.getElem_mem hkl)
            obtain ⟨y, hy⟩ : ∃ y, Hid (y = r[k]) := ⟨_, hid rfl⟩
            rw [← hy.out] at i0 y0 y1
            obtain ⟨yn, rfl⟩ := Int.eq_ofNat_of_zero_le y0
            have kx : (0 : Int) ≤ (k : Int) ∧ (k : Int) < (r.length : Int) := by omega
            have hyn : yn ≤ 1000 := by omega
            replace hEi := hid hEi
            by_cases hk0 : 0 < k
            all_goals
              go_wp2_with fail
              refine (l19Dec_any yn hyn wr).mono ?_
              rintro e w5 ⟨z, rfl, hz, hb5⟩
              have hbk5 := hbk.trans (hb5.mono hbk.size)
              have hzs : z.size ≤ 1001 := hz
              clear i0 r0 p1
              go_wp2_with fail
              go_roundw
              case rel => exact ⟨k + 1, _, by go_num, rfl, by simp only [ByteArray.size_append]; first | (show x.size + 1 + z.size ≤ _; omega) | omega, by omega, hbk5⟩
              case measure => simp [intOf]; omega
          · go_wp2_with fail
            go_roundw
            case rel => exact ⟨i + 1, x, by go_num, rfl, by omega, by omega, hbk⟩
            case measure => simp [intOf]; omega
    · go_wp2_with fail
      go_ret
      exact ⟨_, rfl, hBr⟩

end Go.Proofs.Ytdkjnemakkppfaa
