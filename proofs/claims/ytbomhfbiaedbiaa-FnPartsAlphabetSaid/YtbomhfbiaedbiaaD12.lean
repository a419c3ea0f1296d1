/- The drawing kit: l7Draw, l7Wrong. -/
import Derived.Test.YtbomhfbiaedbiaaD11
namespace Go.Proofs.Ytbomhfbiaedbiaa
open Go.RowKit Go.BigFrame AG

theorem infoSy : (Try.prog.info? 28).map (fun i => (i.zero, i.size, i.bytes)) = some (some (.agg #[.int .i64 0, .int .i64 0, .slice none 0 0]), 3, 40) := by kernel_rfl

/-- A system and where its edges lie. -/
structure SyV where
  s : Sy
  A : Option Addr
  c : Nat
def sysCells : List SyV → List Value
  | [] => []
  | x :: xs => .int .i64 x.s.al :: .int .i64 x.s.st :: .slice x.A x.s.es.length x.c :: sysCells xs
theorem sysCells_append : ∀ ps qs : List SyV, sysCells (ps ++ qs) = sysCells ps ++ sysCells qs
  | [], _ => rfl
  | p :: ps, qs => by rw [List.cons_append, sysCells, sysCells_append ps qs]; rfl
theorem sysCells_at : ∀ (ps : List SyV) (i : Nat) (h : i < ps.length), (sysCells ps)[i * 3]? = some (.int .i64 ps[i].s.al) ∧ (sysCells ps)[i * 3 + 1]? = some (.int .i64 ps[i].s.st) ∧ (sysCells ps)[i * 3 + 2]? = some (.slice ps[i].A ps[i].s.es.length ps[i].c)
  | p :: ps, 0, _ => ⟨rfl, rfl, rfl⟩
  | p :: ps, i + 1, h => by
    have := sysCells_at ps i (by simpa using h)
    rw [show (i + 1) * 3 = i * 3 + 1 + 1 + 1 from by omega]
    exact this

/-- One system of a list that the call owns: its edges lie apart. -/
structure SyIn (w : World) (R L : Nat) (v : Value) (x : SyV) : Prop where
  le : x.s.es.length ≤ x.c
  top : x.c ≤ 9223372036854775807
  len : x.s.es.length ≤ L
  at_ : EdsAt w w.heap.size x.A x.s.es
  far : 0 < x.s.es.length → ∃ b o, x.A = some ⟨b, o, none⟩ ∧ b < w.heap.size ∧ v.ownBlock ≠ some b ∧ R < b
/-- A list of systems that the call owns. -/
structure LstSt (w wr : World) (R P L : Nat) (v : Value) (xs : List SyV) : Prop where
  own : wr.ownsRow w.heap.size 28 3 v xs.length (sysCells xs)
  each : ∀ x ∈ xs, SyIn wr R L v x
  rd : RdUp wr R P
  keep : KeepB (fun b => b = R) w wr

theorem SyIn.keep {w w' : World} {R L : Nat} {v : Value} {x : SyV} {K : Nat → Prop} (h : SyIn w R L v x) (hk : KeepB K w w') (hK : ∀ b, K b → b = R ∨ v.ownBlock = some b) : SyIn w' R L v x := by
  refine ⟨h.le, h.top, h.len, fun hn => ?_, fun hn => ?_⟩
  · obtain ⟨b, o, hA, hlt, hne, hR⟩ := h.far hn
    obtain ⟨b', o', hA', -, hE⟩ := h.at_ hn
    rw [hA] at hA'
    cases hA'
    have hnb : ¬ K b := fun hk => by rcases hK b hk with e | e; omega; exact hne e
    refine ⟨b, o, hA, Nat.lt_of_lt_of_le hlt hk.size, fun i hi => ?_⟩
    rw [KeepB.cell_ hk hlt hnb, KeepB.cell_ hk hlt hnb, KeepB.cell_ hk hlt hnb]
    exact hE i hi
  · obtain ⟨b, o, hA, hlt, hne, hR⟩ := h.far hn
    exact ⟨b, o, hA, Nat.lt_of_lt_of_le hlt hk.size, hne, hR⟩
theorem LstSt.call {w wr w1 : World} {R P P' L : Nat} {v : Value} {xs : List SyV} (h : LstSt w wr R P L v xs) (hk : KeepB (fun b => b = R) wr w1) (hr : RdUp w1 R P') (hR : R < w.heap.size) : LstSt w w1 R P' L v xs :=
  ⟨own_keep h.own hk (fun g hg => by have := (World.ownsRow.lt h.own g hg).1; omega), fun x hx => (h.each x hx).keep hk fun _ e => .inl e, hr, h.keep.trans hk⟩
theorem LstSt.later {w wr w1 : World} {R P L : Nat} {v : Value} {xs : List SyV} (h : LstSt w wr R P L v xs) (hb : Below wr.heap.size wr w1) (hR : R < w.heap.size) : LstSt w w1 R P L v xs := h.call (KeepB.of_below hb) (h.rd.later hb) hR
theorem LstSt.more {w wr : World} {R P P' L L' : Nat} {v : Value} {xs : List SyV} (h : LstSt w wr R P L v xs) (hP : P ≤ P') (hL : L ≤ L') : LstSt w wr R P' L' v xs :=
  ⟨h.own, fun x hx => ⟨(h.each x hx).le, (h.each x hx).top, by have := (h.each x hx).len; omega, (h.each x hx).at_, (h.each x hx).far⟩, h.rd.more hP, h.keep⟩
theorem LstSt.add {w wr w1 : World} {R P L : Nat} {v v' : Value} {xs : List SyV} {x : SyV} (h : LstSt w wr R P L v xs) (hR : R < w.heap.size) (hx : SyIn wr R L v x)
    (hown : w1.ownsRow w.heap.size 28 3 v' (xs.length + 1) (sysCells xs ++ [.int .i64 x.s.al, .int .i64 x.s.st, .slice x.A x.s.es.length x.c])) (hg : wr.grownBy w1 v.ownBlock) (hat : v'.ownBlock = v.ownBlock ∨ v'.ownBlock = some wr.heap.size) :
    LstSt w w1 R P L v' (xs ++ [x]) := by
  have hv : ∀ k, v.ownBlock = some k → w.heap.size ≤ k := fun k hk => (World.ownsRow.lt h.own k hk).1
  have k1 : KeepB (fun b => v.ownBlock = some b) wr w1 := (KeepB.refl _ wr).grown hg (fun k hk _ => hk)
  have key : ∀ y, SyIn wr R L v y → SyIn w1 R L v' y := fun y hy => by
    have h1 := hy.keep k1 fun b hb => .inr hb
    refine ⟨h1.le, h1.top, h1.len, h1.at_, fun hn => ?_⟩
    obtain ⟨b, o, hA, hlt, hne, hRb⟩ := hy.far hn
    refine ⟨b, o, hA, Nat.lt_of_lt_of_le hlt k1.size, ?_, hRb⟩
    rcases hat with e | e
    · rw [e]; exact hne
    · rw [e]; intro e'; injection e' with e'; omega
  refine ⟨?_, fun y hy => ?_, h.rd.keep k1 (fun k hk => by have := hv k hk; omega), h.keep.grown hg (fun k hk hlt => by have := hv k hk; omega)⟩
  · have e : (xs ++ [x]).length = xs.length + 1 := by simp
    rw [e, sysCells_append]
    exact hown
  · rcases List.mem_append.1 hy with hy | hy
    · exact key y (h.each y hy)
    · rw [List.mem_singleton.1 hy]; exact key x hx
/-- A system that has just been drawn. -/
theorem SyIn.new {w wr w1 : World} {R P L : Nat} {v : Value} {xs : List SyV} {s : Sy} {A : Option Addr} {c : Nat} (h : LstSt w wr R P L v xs) (h1 : s.es.length ≤ c) (h2 : c ≤ 9223372036854775807) (h3 : s.es.length ≤ L) (h4 : EdsAt w1 w1.heap.size A s.es) (h5 : FreshA wr.heap.size A) (hR : R < w.heap.size) : SyIn w1 R L v ⟨s, A, c⟩ :=
  ⟨h1, h2, h3, h4, fun hn => by
    obtain ⟨b, o, hA, hlt, -⟩ := h4 hn
    have h6 := h5 b o hA
    have h7 := h.keep.size
    exact ⟨b, o, hA, hlt, fun e => by have := (World.ownsRow.lt h.own b e).2; omega, by omega⟩⟩
theorem LstSt.read {w wr : World} {R P L : Nat} {v : Value} {xs : List SyV} (h : LstSt w wr R P L v xs) : ∃ A c, v = .slice A xs.length c ∧ xs.length ≤ c ∧ c ≤ 9223372036854775807 ∧ SysAt wr wr.heap.size A (xs.map (·.s)) := by
  by_cases hn : xs.length = 0
  · obtain ⟨A, c, hv, h1, h2⟩ := own_slice h.own
    exact ⟨A, c, hv, h1, h2, fun hl => by simp at hl; omega⟩
  · obtain ⟨g, cap, hv, h1, h2, h3, h4, h5⟩ := own_shape h.own (by omega)
    refine ⟨_, cap, hv, h3, h4, fun _ => ⟨g, 0, rfl, h2, fun i hi => ?_⟩⟩
    have hi' : i < xs.length := by simpa using hi
    obtain ⟨a0, a1, a2⟩ := sysCells_at xs i hi'
    have hx := h.each xs[i] (List.getElem_mem _)
    simp only [List.getElem_map, Nat.zero_add]
    exact ⟨h5 _ _ a0, h5 _ _ a1, xs[i].A, xs[i].c, h5 _ _ a2, hx.le, hx.top, hx.at_⟩

def LsUp (w0 : World) (R P L : Nat) (e : Ending) (w' : World) : Prop := ∃ v xs, e = .returned v ∧ xs.length ≤ 10 ∧ LstSt w0 w' R P L v xs

set_option maxRecDepth 100000 in
set_option maxHeartbeats 8000000 in
theorem l7Draw_up (R P : Nat) (w : World) (hP : P + 3000000 ≤ 1125899906842624) (hr : RdUp w R P) :
    Calls Try.prog 14 #[.pointer (some ⟨R, 0, none⟩)] w fun e w' => ∃ v xs, e = .returned v ∧ 1 ≤ xs.length ∧ xs.length ≤ 3 ∧ LstSt w w' R (P + 30000) 1536 v xs := by
  obtain ⟨i0, hi, hz0, hz1, hz2⟩ := info_parts infoSy
  have hR := hr.lt
  have h0 : LstSt w (w.alloc (.cells #[] 28)) R P 1536 (.slice (some ⟨w.heap.size, 0, none⟩) 0 0) [] :=
    ⟨⟨rfl, .inr ⟨w.heap.size, 0, #[], rfl, Nat.le_refl _, heap_alloc_self _ _, Nat.le_refl _, Nat.zero_le _, rfl, rfl⟩⟩, fun x hx => (by cases hx), hr.later ((Below.refl _ _).alloc (Nat.le_refl _) _), (KeepB.refl _ _).alloc _⟩
  generalize hw0 : w.alloc (.cells #[] 28) = w0 at h0
  replace hr := hid hr
  replace h0 := hid h0
  go_enter Try.func14, Try.ntmps14
  go_wp2_with fail
  refine (num_lit R P [2, 2, 3, 1] w0 _ (by decide) (by decide) (by omega) h0.out.rd).mono ?_
  rintro e w1 ⟨n, hn, rfl, hr1, hk1⟩
  have hn1 : 1 ≤ n ∧ n ≤ 3 := by simp at hn; omega
  obtain ⟨m, rfl⟩ := Int.eq_ofNat_of_zero_le (show 0 ≤ n by omega)
  have h1 := hid (h0.out.call hk1 hr1 hR)
  clear hn hr1 hk1 h0 hw0
  have hm1 : 1 ≤ m ∧ m ≤ 3 := by omega
  go_wp2_with fail
  go_loopw [3, 4] (fun v i wr => ∃ (k : Nat) (xs : List SyV), i = .int .i64 k ∧ k + xs.length = m ∧ LstSt w wr R (P + 1 + xs.length * 5000) 1536 v xs) (fun _ i _ => (intOf i).toNat)
  case atStart => exact ⟨m, [], rfl, by simp, h1.out⟩
  case round =>
    obtain ⟨k, xs, rfl, hk, hs⟩ := hrel
    by_cases hk0 : 0 < k
    · have hs' := hid hs
      clear hs
      have hk0' : (0 : Int) < (k : Int) := by omega
      go_wp2_with fail
      refine (l2Small_up R (P + 1 + xs.length * 5000) wr (by omega) hs'.out.rd).mono ?_
      rintro e w2 ⟨s, A, c, rfl, a1, a2, a3, a4, a5, a6, a7⟩
      unfold Sy.val
      have h2 := hid (hs'.out.call a7 a6 hR)
      have hx2 := hid (SyIn.new hs'.out a1 a2 a3 a4 a5 hR)
      have hkr2 := hid a7
      have hz7 := a7.size
      clear a4 a5 a6 a7
      have hnb := Blk.new w2 28 #[.int .i64 s.al, .int .i64 s.st, .slice A s.es.length c]
      have hba : Below w2.heap.size w2 (w2.alloc (.cells #[.int .i64 s.al, .int .i64 s.st, .slice A s.es.length c] 28)) := (Below.refl _ _).alloc (Nat.le_refl _) _
      have hbs : w2.heap.size < (w2.alloc (.cells #[.int .i64 s.al, .int .i64 s.st, .slice A s.es.length c] 28)).heap.size := by simp
      generalize hwa : w2.alloc (.cells #[.int .i64 s.al, .int .i64 s.st, .slice A s.es.length c] 28) = wa at hnb hba hbs
      have h3 := hid (h2.out.later hba hR)
      have hx3 := hid (hx2.out.keep (KeepB.of_below (K := fun b => b = R) hba) fun _ e => .inl e)
      have hbg : w.heap.size ≤ w2.heap.size := h2.out.keep.size
      clear h2 hx2
      go_wp2_with fail
      refine (pick_up R (P + 1 + xs.length * 5000 + 2000) 3 wa (by omega) (by omega) h3.out.rd).mono ?_
      rintro e w3 ⟨j, rfl, hj0, hj1, hr4, hk4⟩
      have h4 := hid (h3.out.call hk4 hr4 hR)
      have hx4 := hid (hx3.out.keep hk4 fun _ e => .inl e)
      have hnb4 := hid (hnb.keep hk4 (by omega))
      have hk4s := hk4.size
      have hkr4 : KeepB (fun b => b = R) wr w3 := ((hkr2.out.trans (KeepB.of_below hba)).trans hk4)
      clear hr4 hk4 h3 hx3 hj1 hwa hba hnb
      by_cases hj : j = 0
      · subst hj
        go_wp2_with fail
        refine (l2Draw_up R (P + 1 + xs.length * 5000 + 2001) w3 (by omega) h4.out.rd).mono ?_
        rintro e w5 ⟨s', A', c', rfl, a1, a2, a3, a4, a5, a6, a7⟩
        unfold Sy.val
        have h5 := hid (h4.out.call a7 a6 hR)
        have hx5 := SyIn.new h4.out a1 a2 a3 a4 a5 hR
        have hnb5 := hnb4.out.keep a7 (by omega)
        have hlt5 := hnb5.lt
        have d0 := hnb5.cell 0
        have d1 := hnb5.cell 1
        have d2 := hnb5.cell 2
        have f0 := hnb5.frozen 0
        have f1 := hnb5.frozen 1
        have f2 := hnb5.frozen 2
        simp only [List.getElem?_toArray, List.getElem?_cons_zero, List.getElem?_cons_succ] at d0 d1 d2
        have hsz5 := a7.size
        have hkr5 : KeepB (fun b => b = R) wr w5 := (hkr4.trans a7)
        have hE5 := hid a4
        have hF5 := hid a5
        clear a4 a5 a6 a7 h4 hx4 hnb4
        obtain ⟨w6, hw6⟩ : ∃ w6, ((w5.setCell ⟨w2.heap.size, 0, none⟩ (.int .i64 s'.al)).setCell ⟨w2.heap.size, 1, none⟩ (.int .i64 s'.st)).setCell ⟨w2.heap.size, 2, none⟩ (.slice A' s'.es.length c') = w6 := ⟨_, rfl⟩
        have hb6 : Blk w6 w2.heap.size 28 #[.int .i64 s'.al, .int .i64 s'.st, .slice A' s'.es.length c'] := by
          rw [← hw6]
          simpa using ((hnb5.set_ 0 (.int .i64 s'.al)).set_ 1 (.int .i64 s'.st)).set_ 2 (.slice A' s'.es.length c')
        have hkw : KeepB (fun b => b = R) wr w6 := by
          rw [← hw6]
          exact (((hkr5.setCell _ _ (by simp; omega)).setCell _ _ (by simp; omega)).setCell _ _ (by simp; omega))
        have hkk : KeepB (fun b => b = w2.heap.size) w5 w6 := by
          rw [← hw6]
          exact (((KeepB.refl _ w5).setCell _ _ (by simp)).setCell _ _ (by simp)).setCell _ _ (by simp)
        have hE6 : EdsAt w6 w6.heap.size A' s'.es := by
          rw [← hw6]
          have hne : ∀ b o, A' = some ⟨b, o, none⟩ → 0 < s'.es.length → b ≠ w2.heap.size := fun b o hA _ => by have := hF5.out b o hA; omega
          simpa [World.setCell] using ((hE5.out.stored _ hne).stored _ hne).stored _ hne
        have hs6 := hid (hs'.out.call hkw (h5.out.rd.keep hkk (by omega)) hR)
        have hx6 := hid (SyIn.new (w1 := w6) hs'.out a1 a2 a3 hE6 (fun b o hA => by have := hF5.out b o hA; omega) hR)
        replace hb6 := hid hb6
        clear hkw hkk hE6 hnb5 h5 hx5
        have c0 := hb6.out.cell 0
        have c1 := hb6.out.cell 1
        have c2 := hb6.out.cell 2
        simp only [List.getElem?_toArray, List.getElem?_cons_zero, List.getElem?_cons_succ] at c0 c1 c2
        have hgl := hb6.out.lt
        have hown := hid hs6.out.own
        go_wp2_with (at_builtin; refine wpList_append_own_at _ (by rfl) _ _ 23 (by rfl) w.heap.size 28 i0 (.agg #[.int .i64 0, .int .i64 0, .slice none 0 0]) 3 40 Try.underlying23 hi hz0 hz1 hz2 rfl (by decide) _ xs.length (sysCells xs) (by rfl) (hown.out.alloc _) ⟨w6.heap.size, 0, none⟩ 1 1 [.int .i64 s'.al, .int .i64 s'.st, .slice A' s'.es.length c'] (by rfl) (by rfl) (World.news_of_block (heap_alloc_new w6 _)) ?c1 ?c3 ?c4 ?c5 ?_)
        case c1 => simp [Value.oneCell']
        case c3 => unfold maxLen; omega
        case c4 => omega
        case c5 => have := hs6.out.keep.size; simp; omega
        intro v9 w9 hown9 hgrow9 hnil9 hat9
        have hL := hs6.out.later ((Below.refl _ w6).alloc (Nat.le_refl _) (.cells #[.int .i64 s'.al, .int .i64 s'.st, .slice A' s'.es.length c'] 28)) hR
        have hX := hx6.out.keep (KeepB.of_below (K := fun b => b = R) ((Below.refl _ w6).alloc (Nat.le_refl _) (.cells #[.int .i64 s'.al, .int .i64 s'.st, .slice A' s'.es.length c'] 28))) fun _ e => .inl e
        have hfin := hid ((hL.add hR hX hown9 hgrow9 (by rw [World.size_alloc]; exact hat9)).more (P' := P + 1 + (xs.length + 1) * 5000) (L' := 1536) (by omega) (by omega))
        clear hown9 hgrow9 hnil9 hat9 hL hX c0 c1 c2
        go_wp2_with fail
        go_roundw
        case rel => exact ⟨k - 1, xs ++ [⟨s', A', c'⟩], by go_num, by simp; omega, by rw [show (xs ++ [(⟨s', A', c'⟩ : SyV)]).length = xs.length + 1 from by simp]; exact hfin.out⟩
        case measure => simp [intOf]; omega
      · have hjb : ((j : Int) == 0) = false := by simpa using hj
        replace hj := hid hj
        have c0 := hnb4.out.cell 0
        have c1 := hnb4.out.cell 1
        have c2 := hnb4.out.cell 2
        simp only [List.getElem?_toArray, List.getElem?_cons_zero, List.getElem?_cons_succ] at c0 c1 c2
        have hgl := hnb4.out.lt
        have hown := hid h4.out.own
        go_wp2_with (at_builtin; refine wpList_append_own_at _ (by rfl) _ _ 23 (by rfl) w.heap.size 28 i0 (.agg #[.int .i64 0, .int .i64 0, .slice none 0 0]) 3 40 Try.underlying23 hi hz0 hz1 hz2 rfl (by decide) _ xs.length (sysCells xs) (by rfl) (hown.out.alloc _) ⟨w3.heap.size, 0, none⟩ 1 1 [.int .i64 s.al, .int .i64 s.st, .slice A s.es.length c] (by rfl) (by rfl) (World.news_of_block (heap_alloc_new w3 _)) ?c1 ?c3 ?c4 ?c5 ?_)
        case c1 => simp [Value.oneCell']
        case c3 => unfold maxLen; omega
        case c4 => omega
        case c5 => have := h4.out.keep.size; simp; omega
        intro v9 w9 hown9 hgrow9 hnil9 hat9
        have hL := h4.out.later ((Below.refl _ w3).alloc (Nat.le_refl _) (.cells #[.int .i64 s.al, .int .i64 s.st, .slice A s.es.length c] 28)) hR
        have hX := hx4.out.keep (KeepB.of_below (K := fun b => b = R) ((Below.refl _ w3).alloc (Nat.le_refl _) (.cells #[.int .i64 s.al, .int .i64 s.st, .slice A s.es.length c] 28))) fun _ e => .inl e
        have hfin := hid ((hL.add hR hX hown9 hgrow9 (by rw [World.size_alloc]; exact hat9)).more (P' := P + 1 + (xs.length + 1) * 5000) (L' := 1536) (by omega) (by omega))
        clear hown9 hgrow9 hnil9 hat9 hL hX c0 c1 c2
        go_wp2_with fail
        go_roundw
        case rel => exact ⟨k - 1, xs ++ [⟨s, A, c⟩], by go_num, by simp; omega, by rw [show (xs ++ [(⟨s, A, c⟩ : SyV)]).length = xs.length + 1 from by simp]; exact hfin.out⟩
        case measure => simp [intOf]; omega
    · obtain rfl : k = 0 := by omega
      go_wp2_with fail
      go_ret
      exact ⟨_, xs, rfl, by omega, by omega, hs.more (by omega) (by omega)⟩

end Go.Proofs.Ytbomhfbiaedbiaa
