/- Lemmas, part 4: several texts in one. -/
import Derived.Test.YtdkjnemakkppfaaDoorV3
import Derived.Test.YtdkjnemakkppfaaDoorV2
import Derived.Test.YtdkjnemakkppfaaDoorV1
import Derived.Test.YtdkjnemakkppfaaDoorProg
import Derived.Deep.DeepCutAuto
set_option linter.unusedSimpArgs false
set_option linter.unusedVariables false

/- The program's numbered: the walk. -/
namespace Go.Proofs.YtdkjnemakkppfaaDoor
open Go.RowKit Go.BigFrame Go.Maps AG

theorem NumMem.fs {w wr : World} {B : Nat} {ns : List Nat} {vR : Value} {xs : List RowV} {fs fs' : List (Value × List Value)} {m : Nat} {D : DataW Unit} (h : NumMem w wr B ns vR xs fs m D) (hf : Fam3 wr w.heap.size fs → Fam3 wr w.heap.size fs')   : NumMem w wr B ns vR xs fs' m D :=
  ⟨h.below, hf h.fam, h.tab, h.map_, h.ix, h.num, h.geB⟩
theorem NumMem.own {w wr : World} {B : Nat} {ns : List Nat} {vR : Value} {xs : List RowV} {fs : List (Value × List Value)} {m : Nat} {D : DataW Unit} {v : Value} {row : List Nat} (h : NumMem w wr B ns vR xs fs m D) (hf : (v, natVals row) ∈ fs) : wr.ownsRow w.heap.size 3 1 v row.length (natVals row) := by
  have := h.fam.rows _ hf
  rwa [natVals_len] at this
end Go.Proofs.YtdkjnemakkppfaaDoor

/- The program's ProjectSystem: its closure. -/
namespace Go.Proofs.YtdkjnemakkppfaaDoor
open Go.RowKit Go.BigFrame Go.Maps AG

theorem AuOwn.nil (w : World) (base : Nat) : AuOwn w base (.slice none 0 0) (.slice none 0 0) auNil [] :=
  ⟨⟨World.ownsRow_nil _ _ _ _, fun x hx => (by cases hx), List.Pairwise.nil⟩, rfl, World.ownsRow_nil _ _ _ _⟩
theorem AuOwn.setFar {w : World} {base : Nat} {v1 v2 : Value} {a : Au} {xs : List RowV} (h : AuOwn w base v1 v2 a xs) {g i : Nat} (hg : g < base) (v : Value) : AuOwn (w.setCell ⟨g, i, none⟩ v) base v1 v2 a xs := by
  have hk : KeepB (fun b => b = g) w (w.setCell ⟨g, i, none⟩ v) := (KeepB.refl _ w).setCell _ _ fun _ => rfl
  exact ⟨h.rows.keep hk (fun b hb e => by have := own_block h.rows.own b hb; omega) (fun x hx b hb e => by have := own_block (h.rows.rows x hx) b hb; omega), h.eq, own_keep h.acc hk fun b hb e => by have := own_block h.acc b hb; omega⟩

end Go.Proofs.YtdkjnemakkppfaaDoor

/- The program's ProjectSystem and Determinize. -/
namespace Go.Proofs.YtdkjnemakkppfaaDoor
open Go.RowKit Go.BigFrame Go.Maps AG

theorem infoBool : (Tryd.prog.info? 4).map (fun i => (i.zero, i.size, i.bytes)) = some (some (.bool false), 1, 1) := by kernel_rfl
end Go.Proofs.YtdkjnemakkppfaaDoor

/- The reference's SystemValid returns sysOk. -/
namespace Go.Proofs.YtdkjnemakkppfaaDoor
open Go.RowKit Go.BigFrame AG

attribute [local go_sem] Fam.below

set_option maxHeartbeats 1000000 in
theorem specSystemValid_any (s : Sy) (A : Option Addr) (c : Nat) (w : World) (hl : s.es.length ≤ c) (hc : c ≤ 9223372036854775807) (hr : EdsAt w w.heap.size A s.es) :
    Calls Tryd.prog 28 #[s.val A c] w fun e w' => e = .returned (.bool (sysOk s)) ∧ Below w.heap.size w w' := by
  unfold Sy.val
  by_cases ha : alphaOk s.al = true
  · by_cases h1 : 1 ≤ s.st ∧ s.st ≤ 16
    · obtain ⟨h1, h2⟩ := h1
      go_enter Tryd.func28, Tryd.ntmps28
      go_wp2_with (go_at_call 70; refine (l1Alphabet_any _ _).mono ?_; rintro e w' ⟨rfl, rfl⟩)
      obtain ⟨w0, hw0, hz0, hB0, hS0, hS1, hS2⟩ := boxed3 w (Value.int IntKind.i64 s.al) (Value.int IntKind.i64 s.st) (Value.slice A s.es.length c) 28
      rw [hw0]
      replace hw0 := hid hw0
      go_loopw [3] (fun i wr => ∃ k : Nat, i = .int .i64 k ∧ k ≤ s.es.length ∧ edgesOkTo s.al s.st s.es k ∧ Below (w.heap.size + 1) w0 wr) (fun i _ => s.es.length - (intOf i).toNat)
      case atStart => exact ⟨0, rfl, by omega, by intro i _ h; omega, Below.refl _ _⟩
      case round =>
        obtain ⟨k, rfl, hk, hok, hb⟩ := hrel
        by_cases hlt : k < s.es.length
        · obtain ⟨b, o, rfl, hB, hE⟩ := hr.get hB0 (Nat.le_succ w.heap.size) hlt
          obtain ⟨e0, e1, e2⟩ := hE k hlt
          have hnot : ¬ edgesOkTo s.al s.st s.es (k + 1) → sysOk s = false := fun h => by
            unfold sysOk
            rw [decide_eq_false_iff_not]
            rintro ⟨_, _, _, h'⟩
            exact h fun i hi _ => h' i hi hi
          by_cases hek : edgeOk s.al s.st s.es[k] = true
          · by_cases hk0 : k = 0
            · subst hk0
              simp only [Nat.zero_mul, Nat.add_zero] at e0 e1 e2
              have hok' : edgesOkTo s.al s.st s.es (0 + 1) := fun i hi hi' => by
                obtain rfl : i = 0 := by omega
                exact ⟨hek, fun j _ h => by omega⟩
              replace hE := hid hE
              replace hr := hid hr
              replace hok := hid hok
              replace hok' := hid hok'
              replace hnot := hid hnot
              replace hek := hid hek
              go_wp2_with fail
              refine wp_region_fam _ _ (by kernel_rfl) (by kernel_rfl) hb ?_
              repeat (go_big_quiet_step ((refine (l2Edge_any _ _ s.es[0] _).mono ?_; rintro e w1 ⟨rfl, hb1⟩; exact ⟨by rw [hek.out], Fam.next hz0 hb1⟩)))
              refine wpQuiet_nil ?_
              intro w2 hw2
              replace hw2 := Fam.out hw2
              go_wp2
              go_roundw
              case rel => exact ⟨1, by go_num, by omega, hok'.out, hw2⟩
              case measure => simp [intOf]; omega
            · obtain ⟨j, rfl⟩ : ∃ j, k = j + 1 := ⟨k - 1, by omega⟩
              obtain ⟨p0, p1, p2⟩ := hE j (by omega)
              replace hE := hid hE
              replace hr := hid hr
              have hyes : edgeLt s.es[j] s.es[j + 1] = true → edgesOkTo s.al s.st s.es (j + 1 + 1) := fun h i hi hi' => by
                by_cases e : i = j + 1
                · subst e
                  exact ⟨hek, fun m hm e => by obtain rfl : m = j := by omega
                                               exact h⟩
                · exact hok i hi (by omega)
              cases hlt' : edgeLt s.es[j] s.es[j + 1]
              all_goals
                replace hok := hid hok
                replace hnot := hid hnot
                replace hyes := hid hyes
                replace hek := hid hek
                replace hlt' := hid hlt'
                go_wp2_with fail
                refine wp_region_fam _ _ (by kernel_rfl) (by kernel_rfl) hb ?_
                repeat (go_big_quiet_step (first | (go_at_call 71; refine (l2Edge_any _ _ s.es[j + 1] _).mono ?_; rintro e w1 ⟨rfl, hb1⟩; exact ⟨by rw [hek.out], Fam.next hz0 hb1⟩) | (go_at_call 72; refine (l2Before_any s.es[j] s.es[j + 1] _).mono ?_; rintro e w1 ⟨rfl, hb1⟩; exact ⟨by rw [hlt'.out], Fam.next hz0 hb1⟩)))
                refine wpQuiet_nil ?_
                intro w2 hw2
                replace hw2 := Fam.out hw2
                go_wp2
              · go_ret
                have hfin := hnot.out fun h => by have := (h (j + 1) hlt (by omega)).2 j (by omega) rfl; rw [hlt'.out] at this; cases this
                exact ⟨by rw [hfin]; rfl, hB0.trans (hw2.mono (by omega))⟩
              · go_roundw
                case rel => exact ⟨j + 1 + 1, by go_num, by omega, hyes.out hlt'.out, hw2⟩
                case measure => simp [intOf]; omega
          · replace hE := hid hE
            replace hr := hid hr
            replace hok := hid hok
            replace hek : edgeOk s.al s.st s.es[k] = false := by simpa using hek
            have hfin := hid (hnot fun h => by have := (h k hlt (by omega)).1; rw [this] at hek; cases hek)
            clear hnot
            replace hek := hid hek
            go_wp2_with fail
            refine wp_region_fam _ _ (by kernel_rfl) (by kernel_rfl) hb ?_
            repeat (go_big_quiet_step ((refine (l2Edge_any _ _ s.es[k] _).mono ?_; rintro e w1 ⟨rfl, hb1⟩; exact ⟨by rw [hek.out], Fam.next hz0 hb1⟩)))
            refine wpQuiet_nil ?_
            intro w2 hw2
            replace hw2 := Fam.out hw2
            go_wp2
            go_ret
            exact ⟨by rw [hfin.out]; rfl, hB0.trans (hw2.mono (by omega))⟩
        · have hfin : Hid (sysOk s = true) := hid (by
            unfold sysOk
            rw [decide_eq_true_iff]
            exact ⟨ha, h1, h2, fun i hi hi' => hok i hi (by omega)⟩)
          replace hok := hid hok
          go_wp2
          go_ret
          exact ⟨by rw [hfin.out]; rfl, hB0.trans (hb.mono (by omega))⟩
    · have hfin : Hid (sysOk s = false) := hid (by
        unfold sysOk
        rw [decide_eq_false_iff_not]
        rintro ⟨_, h2, h3, _⟩
        omega)
      go_enter Tryd.func28, Tryd.ntmps28
      go_wp2_with (go_at_call 70; refine (l1Alphabet_any _ _).mono ?_; rintro e w' ⟨rfl, rfl⟩)
      all_goals
        go_ret
        exact ⟨by rw [hfin.out]; rfl, by (repeat (first | exact Below.refl _ _ | assumption | refine Below.drew ?_ | refine Below.alloc ?_ (by first | omega | (simp; done) | (simp; omega)) _ | refine Below.setCell ?_ (by first | omega | (simp; done) | (simp; omega)) _))⟩
  · have hfin : Hid (sysOk s = false) := hid (by
      unfold sysOk
      rw [decide_eq_false_iff_not]
      rintro ⟨h, _⟩
      exact ha h)
    go_enter Tryd.func28, Tryd.ntmps28
    go_wp2_with (go_at_call 70; refine (l1Alphabet_any _ _).mono ?_; rintro e w' ⟨rfl, rfl⟩)
    all_goals
      go_ret
      exact ⟨by rw [hfin.out]; rfl, by (repeat (first | exact Below.refl _ _ | assumption | refine Below.drew ?_ | refine Below.alloc ?_ (by first | omega | (simp; done) | (simp; omega)) _ | refine Below.setCell ?_ (by first | omega | (simp; done) | (simp; omega)) _))⟩

end Go.Proofs.YtdkjnemakkppfaaDoor

/- The reference's FirstTraceOutside. -/
namespace Go.Proofs.YtdkjnemakkppfaaDoor
open Go.RowKit Go.BigFrame AG

/-- What the search holds: seen pairs, their words. -/
structure Srch (s t : Sy) (B : Nat) (wr : World) (sv wv : Value) (ps : List (Nat × Nat)) (ws : List (List Nat)) (i k : Nat) : Prop where
  own1 : wr.ownsRow B 90 2 sv ps.length (pairCells ps)
  own2 : wr.ownsRow B 9 1 wv ws.length (ws.map fun r => Value.string (wordS r))
  ne : sv.ownBlock ≠ wv.ownBlock
  pb : PB s t (letters s.al) ps ws i k
  pre : ∀ j (hj : j < ps.length), j < i → ps[j].2 ≠ 0
  pos : 0 < ps.length

theorem PairsAt.later {w w' : World} {A : Option Addr} {ps : List (Nat × Nat)} (h : PairsAt w w.heap.size A ps) (hb : Below w.heap.size w w') : PairsAt w' w'.heap.size A ps := fun hl => by
  obtain ⟨b, o, hA, hb', hE⟩ := h hl
  exact ⟨b, o, hA, Nat.lt_of_lt_of_le hb' hb.size, fun i hi => by rw [hb.cell (by simpa using hb'), hb.cell (by simpa using hb')]; exact hE i hi⟩

theorem Blk.news {w : World} {g : Nat} {T : TypeId} {x : Value} (h : w.heap[g]? = some (.cells #[x] T (0, 0))) : ∀ j u, [x][j]? = some u → w.cell? ((⟨g, 0, none⟩ : Addr).add j) = some u := by
  intro j u hj
  match j, hj with
  | 0, hj =>
    simp at hj
    subst hj
    simp [Addr.add, World.cell?, h]

theorem Srch.later {s t : Sy} {B : Nat} {wr w' : World} {sv wv : Value} {ps : List (Nat × Nat)} {ws : List (List Nat)} {i k k' : Nat} (h : Srch s t B wr sv wv ps ws i k) (hb : Below wr.heap.size wr w') (hp : PB s t (letters s.al) ps ws i k') : Srch s t B w' sv wv ps ws i k' :=
  ⟨own_later h.own1 hb, own_later h.own2 hb, h.ne, hp, h.pre, h.pos⟩

theorem Srch.add {s t : Sy} {B : Nat} {wr w2 w8 w9 w10 w11 : World} {sv wv v9 v11 : Value} {ps : List (Nat × Nat)} {ws : List (List Nat)} {i k Z V l : Nat} {o1 : Obj} {S : ByteArray} (h : Srch s t B wr sv wv ps ws i k) (hB : Below B w2 wr) (hBs : B ≤ w2.heap.size)
    (hi : i < ps.length) (hi' : i < ws.length) (hk : k < (letters s.al).length) (hst : stepP s t ps[i] (letters s.al)[k] = (Z, V)) (hZ : Z ≠ 0) (hnew : (Z, V) ∉ ps) (hl : l = (letters s.al)[k]) (hS : S = wordS (l :: ws[i])) (h8 : Below wr.heap.size wr w8)
    (hO9 : w9.ownsRow B 90 2 v9 (ps.length + 1) (pairCells ps ++ [.int .i64 (Z : Nat), .int .i64 (V : Nat)])) (hg9 : (w8.alloc o1).grownBy w9 sv.ownBlock) (hat9 : v9.ownBlock = sv.ownBlock ∨ v9.ownBlock = some (w8.alloc o1).heap.size) (h10 : Below w9.heap.size w9 w10)
    (hO11 : w11.ownsRow B 9 1 v11 (ws.length + 1) (ws.map (fun r => Value.string (wordS r)) ++ [.string S])) (hg11 : w10.grownBy w11 wv.ownBlock) (hat11 : v11.ownBlock = wv.ownBlock ∨ v11.ownBlock = some w10.heap.size) :
    Srch s t B w11 v9 v11 (ps ++ [(Z, V)]) (ws ++ [l :: ws[i]]) i (k + 1) ∧ Below B w2 w11 := by
  have z8 := h8.size
  have z9 := hg9.size
  have z10 := h10.size
  have z11 := hg11.size
  simp only [World.size_alloc] at z9 hat9
  have hneW : v9.ownBlock ≠ wv.ownBlock := by
    rcases hat9 with e | e
    · rw [e]; exact h.ne
    · rw [e]
      intro e'
      have := (h.own2.lt _ e'.symm).2
      omega
  have hO1 : w11.ownsRow B 90 2 v9 (ps.length + 1) (pairCells ps ++ [.int .i64 (Z : Nat), .int .i64 (V : Nat)]) := (own_later hO9 h10).kept hg11 (.inr hneW)
  have hp := h.pb.add (letters_sorted _) hi hi' hk (by rw [hst]; exact hZ) (by rw [hst]; exact hnew)
  rw [hst, ← hl] at hp
  refine ⟨⟨?_, ?_, ?_, hp, ?_, by simp⟩, ?_⟩
  · have : (ps ++ [(Z, V)]).length = ps.length + 1 := by simp
    rw [this, pairCells_append]
    exact hO1
  · have : (ws ++ [l :: ws[i]]).length = ws.length + 1 := by simp
    rw [this, List.map_append, List.map_cons, List.map_nil, ← hS]
    exact hO11
  · intro e
    rcases hat11 with e' | e'
    · exact hneW (e.trans e')
    · have := (hO9.lt _ (e.trans e')).2
      omega
  · intro j hj hji
    have hj' : j < ps.length := by omega
    rw [List.getElem_append_left hj']
    exact h.pre j hj' hji
  · have b8 : Below B w2 (w8.alloc o1) := (hB.trans (h8.mono (Nat.le_trans hBs hB.size))).alloc (by have := hB.size; omega) _
    have b9 : Below B w2 w9 := b8.grown hg9 (by have := b8.size; omega) (fun k hk => (h.own1.lt k hk).1)
    have b10 : Below B w2 w10 := b9.trans (h10.mono (by have := b9.size; omega))
    exact b10.grown hg11 (by have := b10.size; omega) (fun k hk => (h.own2.lt k hk).1)

end Go.Proofs.YtdkjnemakkppfaaDoor

/- The reference's l6Subsets. -/
namespace Go.Proofs.YtdkjnemakkppfaaDoor
open Go.RowKit Go.BigFrame Go.Maps AG

/-- What l6Subsets holds in memory. -/
structure L6 (w2 wr : World) (gO : Nat) (al : Int) (vR : Value) (xs : List RowV) (vA : Value) (acs : List Bool) (fs : List (Value × List Value)) : Prop where
  below : Below w2.heap.size w2 wr
  ge : w2.heap.size ≤ gO
  fam : Fam3 wr w2.heap.size fs
  tab : wr.ownsRow w2.heap.size 48 1 vR xs.length (rowVals xs)
  acc : wr.ownsRow w2.heap.size 4 1 vA acs.length (boolVals acs)
  blk : Blk wr gO 101 #[.int .i64 al, vR, vA]
section
variable {w2 wr w1 w' : World} {gO : Nat} {al : Int} {vR vA : Value} {xs : List RowV} {acs : List Bool} {fs l1 l2 : List (Value × List Value)} {f : Value × List Value}
theorem L6.later (h : L6 w2 wr gO al vR xs vA acs fs) (hb : Below wr.heap.size wr w') : L6 w2 w' gO al vR xs vA acs fs :=
  ⟨h.below.trans (hb.mono h.below.size), h.ge, h.fam.later hb, own_later_ h.tab hb, own_later_ h.acc hb, h.blk.below hb h.blk.lt⟩
theorem L6.own {v : Value} {row : List Nat} (h : L6 w2 wr gO al vR xs vA acs fs) (hf : (v, natVals row) ∈ fs) : wr.ownsRow w2.heap.size 3 1 v row.length (natVals row) := by
  have := h.fam.rows _ hf
  rwa [natVals_len] at this
theorem L6.app {v' : Value} {ys' : List Value} {o : Obj} (h : L6 w2 wr gO al vR xs vA acs (l1 ++ f :: l2)) (hg : (wr.alloc o).grownBy w1 f.1.ownBlock)
    (ho : w1.ownsRow w2.heap.size 3 1 v' ys'.length ys') (hat : v'.ownBlock = f.1.ownBlock ∨ v'.ownBlock = some (wr.alloc o).heap.size) : L6 w2 w1 gO al vR xs vA acs (l1 ++ (v', ys') :: l2) := by
  have hf := h.fam.rows f (by simp)
  have hkA : KeepB (fun b => f.1.ownBlock = some b) wr w1 := ((KeepB.refl _ wr).alloc o).grown hg fun k hk _ => hk
  exact ⟨hkA.below h.below h.below.size fun b e => own_block hf b e, h.ge, h.fam.app hg ho hat, own_keep h.tab hkA fun g hg e => own_ne_own h.tab hf (by decide) g g hg e rfl, own_keep h.acc hkA fun g hg e => own_ne_own h.acc hf (by decide) g g hg e rfl, h.blk.keep hkA fun e => own_ne hf h.blk (by decide) _ e rfl⟩
/-- The row goes into the table. -/
theorem L6.row {row : List Nat} {vR' : Value} {A : Option Addr} {c : Nat} {o : Obj} (h : L6 w2 wr gO al vR xs vA acs (f :: (.slice A row.length c, natVals row) :: famOf xs)) (hg : (wr.alloc o).grownBy w1 vR.ownBlock)
    (ho : w1.ownsRow w2.heap.size 48 1 vR' (xs.length + 1) (rowVals xs ++ [.slice A row.length c])) : L6 w2 (w1.setCell ⟨gO, 1, none⟩ vR') gO al vR' (xs ++ [⟨row.map fun (n : Nat) => (n : Int), A, c⟩]) vA acs (f :: famOf (xs ++ [⟨row.map fun (n : Nat) => (n : Int), A, c⟩])) := by
  have hkA : KeepB (fun b => vR.ownBlock = some b) wr w1 := ((KeepB.refl _ wr).alloc o).grown hg fun k hk _ => hk
  have hblk1 : Blk w1 gO 101 #[.int .i64 al, vR, vA] := h.blk.keep hkA fun e => own_ne h.tab h.blk (by decide) _ e rfl
  have hkB : KeepB (fun b => b = gO) w1 (w1.setCell ⟨gO, 1, none⟩ vR') := (KeepB.refl _ w1).setCell _ _ fun _ => rfl
  have hb1 : Below w2.heap.size w2 w1 := hkA.below h.below h.below.size fun b e => own_block h.tab b e
  refine ⟨hkB.below hb1 hb1.size fun b e => by rw [e]; exact h.ge, h.ge, ?_, ?_, ?_, by simpa using hblk1.set_ 1 vR'⟩
  · have h1 := h.fam.keep hkA fun f hf g hg e => own_ne_own h.tab (h.fam.rows f hf) (by decide) g g e hg rfl
    exact (h1.keep hkB fun f hf g hg e => own_ne (h1.rows f hf) hblk1 (by decide) g hg e).into
  · have h2 : w1.ownsRow w2.heap.size 48 1 vR' (xs ++ [(⟨row.map fun (n : Nat) => (n : Int), A, c⟩ : RowV)]).length (rowVals (xs ++ [⟨row.map fun (n : Nat) => (n : Int), A, c⟩])) := by
      unfold rowVals at ho ⊢
      rw [List.length_append, List.map_append]
      unfold RowV.v at ho ⊢
      simpa using ho
    exact own_keep h2 hkB (own_ne h2 hblk1 (by decide))
  · have h3 := own_keep h.acc hkA fun g hg e => own_ne_own h.acc h.tab (by decide) g g hg e rfl
    exact own_keep h3 hkB (own_ne h3 hblk1 (by decide))
/-- Whether a node is accepting. -/
theorem L6.put {vA' : Value} {t : Bool} (h : L6 w2 wr gO al vR xs vA acs fs) (hg : wr.grownBy w1 vA.ownBlock)
    (ho : w1.ownsRow w2.heap.size 4 1 vA' (acs.length + 1) (boolVals acs ++ [.bool t])) : L6 w2 (w1.setCell ⟨gO, 2, none⟩ vA') gO al vR xs vA' (acs ++ [t]) fs := by
  have hkA : KeepB (fun b => vA.ownBlock = some b) wr w1 := (KeepB.refl _ wr).grown hg fun k hk _ => hk
  have hblk1 : Blk w1 gO 101 #[.int .i64 al, vR, vA] := h.blk.keep hkA fun e => own_ne h.acc h.blk (by decide) _ e rfl
  have hkB : KeepB (fun b => b = gO) w1 (w1.setCell ⟨gO, 2, none⟩ vA') := (KeepB.refl _ w1).setCell _ _ fun _ => rfl
  have hb1 : Below w2.heap.size w2 w1 := hkA.below h.below h.below.size fun b e => own_block h.acc b e
  refine ⟨hkB.below hb1 hb1.size fun b e => by rw [e]; exact h.ge, h.ge, ?_, ?_, ?_, by simpa using hblk1.set_ 2 vA'⟩
  · have h1 := h.fam.keep hkA fun f hf g hg e => own_ne_own h.acc (h.fam.rows f hf) (by decide) g g e hg rfl
    exact h1.keep hkB fun f hf g hg e => own_ne (h1.rows f hf) hblk1 (by decide) g hg e
  · have h3 := own_keep h.tab hkA fun g hg e => own_ne_own h.tab h.acc (by decide) g g hg e rfl
    exact own_keep h3 hkB (own_ne h3 hblk1 (by decide))
  · have h2 : w1.ownsRow w2.heap.size 4 1 vA' (acs ++ [t]).length (boolVals (acs ++ [t])) := by
      unfold boolVals at ho ⊢
      rw [List.length_append, List.map_append]
      exact ho
    exact own_keep h2 hkB (own_ne h2 hblk1 (by decide))
/-- A fresh empty row. -/
theorem Fam3.fresh {w : World} {base : Nat} {f : Value × List Value} {fs : List (Value × List Value)} (h : Fam3 w base (f :: fs)) (hb : base ≤ w.heap.size) : Fam3 (w.alloc (.cells #[] 3)) base (f :: (.slice (some ⟨w.heap.size, 0, none⟩) 0 0, []) :: fs) := by
  have hl := h.later ((Below.refl _ w).alloc (Nat.le_refl _) (.cells #[] 3))
  have hlt : ∀ y ∈ f :: fs, ∀ g, y.1.ownBlock = some g → g < w.heap.size := fun y hy g e => ((h.rows y hy).lt g e).2
  obtain ⟨h2, h3⟩ := hl
  rw [List.pairwise_cons] at h3
  refine ⟨fun y hy => ?_, ?_⟩
  · rw [List.mem_cons, List.mem_cons] at hy
    rcases hy with rfl | rfl | hy
    · exact h2 _ List.mem_cons_self
    · exact ⟨rfl, .inr ⟨w.heap.size, 0, #[], rfl, hb, heap_alloc_self _ _, Nat.le_refl _, Nat.zero_le _, rfl, rfl⟩⟩
    · exact h2 y (List.mem_cons_of_mem _ hy)
  · rw [List.pairwise_cons, List.pairwise_cons]
    refine ⟨fun y hy k e e' => ?_, ⟨fun y hy k e e' => ?_, h3.2⟩⟩
    · rcases List.mem_cons.1 hy with rfl | hy
      · have := hlt f List.mem_cons_self k e
        injection e' with e'
        simp at e'
        omega
      · exact h3.1 y hy k e e'
    · have := hlt y (List.mem_cons_of_mem _ hy) k e'
      injection e with e
      simp at e
      omega
theorem L6.fresh (h : L6 w2 wr gO al vR xs vA acs (f :: fs)) : L6 w2 (wr.alloc (.cells #[] 3)) gO al vR xs vA acs (f :: (.slice (some ⟨wr.heap.size, 0, none⟩) 0 0, []) :: fs) :=
  have hb : Below wr.heap.size wr (wr.alloc (.cells #[] 3)) := (Below.refl _ wr).alloc (Nat.le_refl _) _
  ⟨h.below.trans (hb.mono h.below.size), h.ge, h.fam.fresh h.below.size, own_later_ h.tab hb, own_later_ h.acc hb, h.blk.below hb h.blk.lt⟩
end
theorem OwnN.read {w : World} {B : Nat} {v : Value} {ns : List Nat} (h : w.ownsRow B 3 1 v ns.length (natVals ns)) : ∃ A c, v = .slice A ns.length c ∧ ns.length ≤ c ∧ c ≤ 9223372036854775807 ∧ NatsAt w w.heap.size A ns := OwnNats.read h

end Go.Proofs.YtdkjnemakkppfaaDoor

/- The laws' own functions on systems: sizes, copies, comparisons. -/
namespace Go.Proofs.YtdkjnemakkppfaaDoor
open Go.RowKit Go.BigFrame AG

set_option maxHeartbeats 400000 in
theorem szEdgeS_any (A : Option Addr) (n c : Nat) (left : Int) (w : World) (hn : n ≤ 9223372036854775807) (h0 : 0 ≤ left) (h1 : left ≤ 9223372036854775807) :
    Calls Tryd.prog 27 #[.slice A n c, .int .i64 left] w fun e w' => e = .returned (.int .i64 (sz1 n left)) ∧ w = w' := by
  go_enter Tryd.func27, Tryd.ntmps27
  go_wp2
  all_goals go_ret
  all_goals exact ⟨ret_int (by unfold sz1; split <;> omega), rfl⟩

set_option maxHeartbeats 400000 in
theorem szSystem_any (s : Sy) (A : Option Addr) (c : Nat) (left : Int) (w : World) (hn : s.es.length ≤ 9223372036854775807) (h0 : 0 ≤ left) (h1 : left ≤ 9223372036854775807) :
    Calls Tryd.prog 9 #[s.val A c, .int .i64 left] w fun e w' => e = .returned (.int .i64 (sz1 s.es.length left)) ∧ Below w.heap.size w w' := by
  unfold Sy.val
  go_enter Tryd.func9, Tryd.ntmps9
  go_wp2_with (go_at_call 27; refine (szEdgeS_any _ _ _ _ _ hn h0 h1).mono ?_; rintro e w' ⟨rfl, rfl⟩)
  all_goals go_ret
  all_goals exact ⟨ret_int (by unfold sz1 at *; split <;> simp_all <;> omega), by (repeat (first | exact Below.refl _ _ | assumption | refine Below.drew ?_ | refine Below.alloc ?_ (by first | omega | (simp; done) | (simp; omega)) _ | refine Below.setCell ?_ (by first | omega | (simp; done) | (simp; omega)) _))⟩


set_option maxHeartbeats 400000 in
theorem toEdge_any (a : Ed) (w : World) :
    Calls Tryd.prog 75 #[a.val] w fun e w' => e = .returned a.val ∧ Below w.heap.size w w' := by
  unfold Ed.val
  go_enter Tryd.func75, Tryd.ntmps75
  go_wp2
  exact bodyPost_ret (v := .agg #[.int .i64 a.f, .int .i64 a.l, .int .i64 a.t]) (by simp [results, Tryd.results75, go_sem]) rfl ⟨rfl, by (repeat (first | exact Below.refl _ _ | assumption | refine Below.drew ?_ | refine Below.alloc ?_ (by first | omega | (simp; done) | (simp; omega)) _ | refine Below.setCell ?_ (by first | omega | (simp; done) | (simp; omega)) _))⟩

theorem infoEdge : (Tryd.prog.info? 59).map (fun i => (i.zero, i.size, i.bytes)) = some (some (.agg #[.int .i64 0, .int .i64 0, .int .i64 0]), 3, 24) := by kernel_rfl

set_option maxHeartbeats 1000000 in
theorem toEdgeS_any (es : List Ed) (A : Option Addr) (c : Nat) (w : World) (hn : es.length ≤ 1048576) (hl : es.length ≤ c) (hc : c ≤ 9223372036854775807) (hr : EdsAt w w.heap.size A es) :
    Calls Tryd.prog 35 #[.slice A es.length c] w (EdsPost es w) := by
  replace hr := hid hr
  obtain ⟨i0, hi, hz0, hz1, hz2⟩ := info_parts infoEdge
  have hmk := fun W => run_make_rowN (P := Tryd.prog) 26 59 i0 _ Tryd.underlying26 hi hz0 .i64 .i64 es.length es.length (Nat.le_refl _) (by rw [hz2]; omega) (by omega) W
  rw [hz1] at hmk
  clear hz1 hz0 hz2 hi
  go_enter Tryd.func35, Tryd.ntmps35
  go_wp2
  have hblk0 := Blk.new w 59 (madeCells #[Value.int IntKind.i64 0, Value.int IntKind.i64 0, Value.int IntKind.i64 0] (es.length * 3))
  have hin0 : EdsIn (madeCells #[Value.int IntKind.i64 0, Value.int IntKind.i64 0, Value.int IntKind.i64 0] (es.length * 3)) es 0 := ⟨size_madeCells _ _, fun i _ h => by omega⟩
  replace hblk0 := hid hblk0
  replace hin0 := hid hin0
  go_loopw [4] (fun i wr => ∃ (k : Nat) (cs : Array Value), i = .int .i64 k ∧ k ≤ es.length ∧ EdsIn cs es k ∧ Blk wr w.heap.size 59 cs ∧ Below w.heap.size w wr) (fun i _ => es.length - (intOf i).toNat)
  case atStart => exact ⟨0, _, rfl, by omega, hin0.out, hblk0.out, by (repeat (first | exact Below.refl _ _ | assumption | refine Below.drew ?_ | refine Below.alloc ?_ (by first | omega | (simp; done) | (simp; omega)) _ | refine Below.setCell ?_ (by first | omega | (simp; done) | (simp; omega)) _))⟩
  case round =>
    obtain ⟨k, cs, rfl, hk, hin, hblk, hb⟩ := hrel
    by_cases hlt : k < es.length
    · obtain ⟨b, o, rfl, hB, hE⟩ := hr.out.get (Below.refl _ _) (Nat.le_refl _) hlt
      obtain ⟨e0, e1, e2⟩ := hE k hlt
      have hsz := hin.1
      have hg := hblk.lt
      have hnx := hid (hin.next hlt)
      replace hblk := hid hblk
      replace hin := hid hin
      replace hE := hid hE
      go_wp2_with (go_at_call 75; refine (toEdge_any es[k] _).mono ?_; rintro e w1 ⟨rfl, hb1⟩; obtain ⟨hbl1, ⟨v0, d0⟩, ⟨v1, d1⟩, ⟨v2, d2⟩, z0, z1, z2⟩ := hblk.out.three hb1 hg (i := k * 3) (by omega); unfold Ed.val; replace hbl1 := hid hbl1)
      have hb2 := hb.trans (hb1.mono hb.size)
      go_roundw
      case rel => exact ⟨k + 1, _, by go_num, by omega, hnx.out, ((hbl1.out.set_ _ _).set_ _ _).set_ _ _, by (repeat (first | exact Below.refl _ _ | assumption | refine Below.drew ?_ | refine Below.alloc ?_ (by first | omega | (simp; done) | (simp; omega)) _ | refine Below.setCell ?_ (by first | omega | (simp; done) | (simp; omega)) _))⟩
      case measure => simp [intOf]; omega
    · obtain rfl : k = es.length := by omega
      have hat := hid (hin.at_ hblk)
      replace hblk := hid hblk
      replace hin := hid hin
      go_wp2
      go_ret
      exact ⟨_, rfl, hat.out, fun b o e => by injection e with e; injection e with e; omega, hb⟩

set_option maxHeartbeats 400000 in
theorem toSystem_any (s : Sy) (A : Option Addr) (c : Nat) (w : World) (hn : s.es.length ≤ 1048576) (hl : s.es.length ≤ c) (hc : c ≤ 9223372036854775807) (hr : EdsAt w w.heap.size A s.es) :
    Calls Tryd.prog 11 #[s.val A c] w (SyPost s w) := by
  unfold Sy.val
  replace hr := hid hr
  go_enter Tryd.func11, Tryd.ntmps11
  go_wp2_with fail
  obtain ⟨w0, hw0⟩ : ∃ w0, ((w.alloc (Obj.cells #[Value.int IntKind.i64 s.al, Value.int IntKind.i64 s.st, Value.slice A s.es.length c] 24)).alloc (Obj.cells #[Value.int IntKind.i64 0, Value.int IntKind.i64 0, Value.slice none 0 0] 28)).alloc
      (Obj.cells #[Value.int IntKind.i64 s.al, Value.int IntKind.i64 s.st, Value.slice none 0 0] 28) = w0 := ⟨_, rfl⟩
  have hz : w0.heap.size = w.heap.size + 3 := by rw [← hw0]; simp
  have hB0 : Below w.heap.size w w0 := by rw [← hw0]; (repeat (first | exact Below.refl _ _ | assumption | refine Below.drew ?_ | refine Below.alloc ?_ (by first | omega | (simp; done) | (simp; omega)) _ | refine Below.setCell ?_ (by first | omega | (simp; done) | (simp; omega)) _))
  have k1 : Blk w0 (w.heap.size + 1) 28 #[Value.int IntKind.i64 0, Value.int IntKind.i64 0, Value.slice none 0 0] := by
    rw [← hw0]
    refine Blk.alloc ?_ _
    have := Blk.new (w.alloc (Obj.cells #[Value.int IntKind.i64 s.al, Value.int IntKind.i64 s.st, Value.slice A s.es.length c] 24)) 28 #[Value.int IntKind.i64 0, Value.int IntKind.i64 0, Value.slice none 0 0]
    simpa using this
  have k2 : Blk w0 (w.heap.size + 1 + 1) 28 #[Value.int IntKind.i64 s.al, Value.int IntKind.i64 s.st, Value.slice none 0 0] := by
    rw [← hw0]
    have := Blk.new ((w.alloc (Obj.cells #[Value.int IntKind.i64 s.al, Value.int IntKind.i64 s.st, Value.slice A s.es.length c] 24)).alloc (Obj.cells #[Value.int IntKind.i64 0, Value.int IntKind.i64 0, Value.slice none 0 0] 28)) 28 #[Value.int IntKind.i64 s.al, Value.int IntKind.i64 s.st, Value.slice none 0 0]
    simpa using this
  rw [hw0]
  clear hw0
  have hr0 : EdsAt w0 w0.heap.size A s.es := hr.out.later hB0
  refine (toEdgeS_any s.es A c w0 hn hl hc hr0).mono ?_
  rintro e w1 ⟨A', rfl, hA', hfr, hb1⟩
  have hk1 := k1.below hb1 (by omega)
  have hk2 := k2.below hb1 (by omega)
  have c0 : w1.cell? ⟨w.heap.size + 1, 0, none⟩ = some (.int .i64 0) := by rw [hk1.cell]; rfl
  have c1 : w1.cell? ⟨w.heap.size + 1, 1, none⟩ = some (.int .i64 0) := by rw [hk1.cell]; rfl
  have c2 : w1.cell? ⟨w.heap.size + 1, 2, none⟩ = some (.slice none 0 0) := by rw [hk1.cell]; rfl
  have d0 : w1.cell? ⟨w.heap.size + 1 + 1, 0, none⟩ = some (.int .i64 s.al) := by rw [hk2.cell]; rfl
  have d1 : w1.cell? ⟨w.heap.size + 1 + 1, 1, none⟩ = some (.int .i64 s.st) := by rw [hk2.cell]; rfl
  have d2 : w1.cell? ⟨w.heap.size + 1 + 1, 2, none⟩ = some (.slice none 0 0) := by rw [hk2.cell]; rfl
  have y0 := hk1.frozen 0
  have y1 := hk1.frozen 1
  have y2 := hk1.frozen 2
  have y3 := hk2.frozen 2
  have hB1 : Below w.heap.size w w1 := hB0.trans (hb1.mono (by omega))
  rw [hz] at hfr
  clear k1 k2 hr0
  replace hk1 := hid hk1
  replace hk2 := hid hk2
  replace hA' := hid hA'
  replace hfr := hid hfr
  replace hz := hid hz
  go_wp2
  refine bodyPost_ret (v := .agg #[.int .i64 s.al, .int .i64 s.st, .slice A' s.es.length s.es.length]) (by simp [results, Tryd.results11, go_sem, c0, c1, c2]) rfl ⟨A', rfl, ?_, fun b o e => by have := hfr.out b o e; omega, by (repeat (first | exact Below.refl _ _ | assumption | refine Below.drew ?_ | refine Below.alloc ?_ (by first | omega | (simp; done) | (simp; omega)) _ | refine Below.setCell ?_ (by first | omega | (simp; done) | (simp; omega)) _))⟩
  have e1 := hA'.out.setFar hfr.out (g := w.heap.size + 1 + 1) (i := 2) (.slice A' s.es.length s.es.length) (by omega)
  have e2 := e1.setFar hfr.out (g := w.heap.size + 1) (i := 0) (.int .i64 s.al) (by omega)
  have e3 := e2.setFar hfr.out (g := w.heap.size + 1) (i := 1) (.int .i64 s.st) (by omega)
  exact e3.setFar hfr.out (g := w.heap.size + 1) (i := 2) _ (by omega)


set_option maxHeartbeats 400000 in
theorem eqEdge_any (a b : Ed) (w : World) :
    Calls Tryd.prog 81 #[a.val, b.val] w fun e w' => e = .returned (.bool (decide (a = b))) ∧ Below w.heap.size w w' := by
  obtain ⟨af, al, at_⟩ := a
  obtain ⟨bf, bl, bt⟩ := b
  unfold Ed.val
  go_enter Tryd.func81, Tryd.ntmps81
  go_wp2
  all_goals go_ret
  all_goals exact ⟨ret_bool (by simp_all), by (repeat (first | exact Below.refl _ _ | assumption | refine Below.drew ?_ | refine Below.alloc ?_ (by first | omega | (simp; done) | (simp; omega)) _ | refine Below.setCell ?_ (by first | omega | (simp; done) | (simp; omega)) _))⟩

set_option maxHeartbeats 1000000 in
theorem eqEdgeS_any (es fs : List Ed) (A B : Option Addr) (c d : Nat) (w : World) (hn : es.length ≤ c) (hc : c ≤ 9223372036854775807) (hm : fs.length ≤ d) (_hd : d ≤ 9223372036854775807) (hr : EdsAt w w.heap.size A es) (hs : EdsAt w w.heap.size B fs) :
    Calls Tryd.prog 42 #[.slice A es.length c, .slice B fs.length d] w fun e w' => e = .returned (.bool (decide (es = fs))) ∧ Below w.heap.size w w' := by
  replace hr := hid hr
  replace hs := hid hs
  by_cases hlen : es.length = fs.length
  · go_enter Tryd.func42, Tryd.ntmps42
    go_wp2
    go_loopw [5] (fun i wr => ∃ k : Nat, i = .int .i64 k ∧ k ≤ es.length ∧ (∀ i (h : i < es.length) (h' : i < fs.length), i < k → es[i] = fs[i]) ∧ Below w.heap.size w wr) (fun i _ => es.length - (intOf i).toNat)
    case atStart => exact ⟨0, rfl, by omega, by intro i _ _ h; omega, Below.refl _ _⟩
    case round =>
      obtain ⟨k, rfl, hk, heq, hb⟩ := hrel
      by_cases hlt : k < es.length
      · obtain ⟨b, o, rfl, hB, hE⟩ := hr.out.get (Below.refl _ _) (Nat.le_refl _) hlt
        obtain ⟨b', o', rfl, hB', hF⟩ := hs.out.get (Below.refl _ _) (Nat.le_refl _) (show k < fs.length by omega)
        obtain ⟨e0, e1, e2⟩ := hE k hlt
        obtain ⟨f0, f1, f2⟩ := hF k (by omega)
        replace hE := hid hE
        replace hF := hid hF
        have hB1 := hid hB
        have g0 := fun x => e0 _ (Fam.below _ _ x)
        have g1 := fun x => e1 _ (Fam.below _ _ x)
        have g2 := fun x => e2 _ (Fam.below _ _ x)
        have i0 := fun x => f0 _ (Fam.below _ _ x)
        have i1 := fun x => f1 _ (Fam.below _ _ x)
        have i2 := fun x => f2 _ (Fam.below _ _ x)
        cases hq : decide (es[k] = fs[k])
        all_goals
          replace hq := hid hq
          replace heq := hid heq
          go_wp2_with fail
          refine wp_region_fam w.heap.size w (by kernel_rfl) (by kernel_rfl) hb ?_
          (repeat (go_big_quiet_step ((refine (eqEdge_any es[k] fs[k] _).mono ?_; rintro e w1 ⟨rfl, hb1⟩; exact ⟨by rw [hq.out], Fam.next (Nat.le_refl _) hb1⟩))))
          refine wpQuiet_nil ?_
          intro w2 hw2
          replace hw2 := Fam.out hw2
          go_wp2
        · go_ret
          exact ⟨ret_bool (by
            have := hq.out
            rw [decide_eq_false_iff_not] at this
            rw [eq_comm, decide_eq_false_iff_not]
            intro h
            subst h
            exact this rfl), hw2⟩
        · go_roundw
          case rel =>
            refine ⟨k + 1, by go_num, by omega, fun i hi hi' hik => ?_, hw2⟩
            by_cases e : i = k
            · subst e; exact of_decide_eq_true hq.out
            · exact heq.out i hi hi' (by omega)
          case measure => simp [intOf]; omega
      · replace heq := hid heq
        go_wp2
        go_ret
        exact ⟨ret_bool (by
          rw [eq_comm, decide_eq_true_iff]
          exact List.ext_getElem hlen fun i hi hi' => heq.out i hi hi' (by omega)), hb⟩
  · go_enter Tryd.func42, Tryd.ntmps42
    go_wp2
    go_ret
    exact ⟨ret_bool (by rw [eq_comm, decide_eq_false_iff_not]; intro h; exact hlen (by rw [h])), Below.refl _ _⟩

set_option maxHeartbeats 1000000 in
theorem eqSystem_any (s t : Sy) (A B : Option Addr) (c d : Nat) (w : World) (hn : s.es.length ≤ c) (hc : c ≤ 9223372036854775807) (hm : t.es.length ≤ d) (hd : d ≤ 9223372036854775807) (hr : EdsAt w w.heap.size A s.es) (hs : EdsAt w w.heap.size B t.es) :
    Calls Tryd.prog 13 #[s.val A c, t.val B d] w fun e w' => e = .returned (.bool (decide (s = t))) ∧ Below w.heap.size w w' := by
  obtain ⟨sa, ss, se⟩ := s
  obtain ⟨ta, ts, te⟩ := t
  dsimp only at hn hm hr hs
  have hsp : Hid (decide (({ al := sa, st := ss, es := se } : Sy) = { al := ta, st := ts, es := te }) = (decide (sa = ta) && (decide (ss = ts) && decide (se = te)))) := hid (by simp)
  unfold Sy.val
  replace hr := hid hr
  replace hs := hid hs
  go_enter Tryd.func13, Tryd.ntmps13
  go_wp2_with (refine (eqEdgeS_any se te A B c d _ hn hc hm hd (hr.out.later (by (repeat (first | exact Below.refl _ _ | assumption | refine Below.drew ?_ | refine Below.alloc ?_ (by first | omega | (simp; done) | (simp; omega)) _ | refine Below.setCell ?_ (by first | omega | (simp; done) | (simp; omega)) _)))) (hs.out.later (by (repeat (first | exact Below.refl _ _ | assumption | refine Below.drew ?_ | refine Below.alloc ?_ (by first | omega | (simp; done) | (simp; omega)) _ | refine Below.setCell ?_ (by first | omega | (simp; done) | (simp; omega)) _))))).mono ?_; rintro e w' ⟨rfl, hb⟩)
  all_goals
    go_ret
    exact ⟨ret_bool (by rw [hsp.out]; simp_all), by first | ((repeat (first | exact Below.refl _ _ | assumption | refine Below.drew ?_ | refine Below.alloc ?_ (by first | omega | (simp; done) | (simp; omega)) _ | refine Below.setCell ?_ (by first | omega | (simp; done) | (simp; omega)) _)); done) | exact Below.trans (by (repeat (first | exact Below.refl _ _ | assumption | refine Below.drew ?_ | refine Below.alloc ?_ (by first | omega | (simp; done) | (simp; omega)) _ | refine Below.setCell ?_ (by first | omega | (simp; done) | (simp; omega)) _))) (hb.mono (by first | (simp; done) | (simp; omega)))⟩


end Go.Proofs.YtdkjnemakkppfaaDoor

/- Copies of systems whose edges may be written; marks in systems. -/
namespace Go.Proofs.YtdkjnemakkppfaaDoor
open Go.RowKit Go.BigFrame AG

/-- The edges lie in a block that may be written. -/
def WrB (w : World) (A : Option Addr) (n : Nat) : Prop := ∀ b o, A = some ⟨b, o, none⟩ → o = 0 ∧ ∃ cs, Blk w b 59 cs ∧ n * 3 ≤ cs.size
theorem WrB.setFar {w : World} {n m : Nat} {A : Option Addr} (h : WrB w A n) (hf : FreshA m A) {g i : Nat} (v : Value) (hg : g < m) : WrB (w.setCell ⟨g, i, none⟩ v) A n := fun b o hA => by
  obtain ⟨h1, cs, h2, h3⟩ := h b o hA
  have := hf b o hA
  exact ⟨h1, cs, (Below.heap_setCell w ⟨g, i, none⟩ v b (by simp; omega)).trans h2, h3⟩
theorem WrB.later {w w' : World} {A : Option Addr} {n : Nat} (h : WrB w A n) (hb : Below w.heap.size w w') : WrB w' A n := fun b o hA => by
  obtain ⟨h1, cs, h2, h3⟩ := h b o hA
  exact ⟨h1, cs, h2.below hb h2.lt, h3⟩
def EdsPostW (es : List Ed) (w : World) (e : Ending) (w' : World) : Prop := ∃ A, e = .returned (.slice A es.length es.length) ∧ EdsAt w' w'.heap.size A es ∧ FreshA w.heap.size A ∧ WrB w' A es.length ∧ Below w.heap.size w w'
def SyPostW (s : Sy) (w : World) (e : Ending) (w' : World) : Prop := ∃ A, e = .returned (s.val A s.es.length) ∧ EdsAt w' w'.heap.size A s.es ∧ FreshA w.heap.size A ∧ WrB w' A s.es.length ∧ Below w.heap.size w w'

set_option maxHeartbeats 1000000 in
theorem toEdgeSW_any (es : List Ed) (A : Option Addr) (c : Nat) (w : World) (hn : es.length ≤ 1048576) (hl : es.length ≤ c) (hc : c ≤ 9223372036854775807) (hr : EdsAt w w.heap.size A es) :
    Calls Tryd.prog 35 #[.slice A es.length c] w (EdsPostW es w) := by
  replace hr := hid hr
  obtain ⟨i0, hi, hz0, hz1, hz2⟩ := info_parts infoEdge
  have hmk := fun W => run_make_rowN (P := Tryd.prog) 26 59 i0 _ Tryd.underlying26 hi hz0 .i64 .i64 es.length es.length (Nat.le_refl _) (by rw [hz2]; omega) (by omega) W
  rw [hz1] at hmk
  clear hz1 hz0 hz2 hi
  go_enter Tryd.func35, Tryd.ntmps35
  go_wp2
  have hblk0 := Blk.new w 59 (madeCells #[Value.int IntKind.i64 0, Value.int IntKind.i64 0, Value.int IntKind.i64 0] (es.length * 3))
  have hin0 : EdsIn (madeCells #[Value.int IntKind.i64 0, Value.int IntKind.i64 0, Value.int IntKind.i64 0] (es.length * 3)) es 0 := ⟨size_madeCells _ _, fun i _ h => by omega⟩
  replace hblk0 := hid hblk0
  replace hin0 := hid hin0
  go_loopw [4] (fun i wr => ∃ (k : Nat) (cs : Array Value), i = .int .i64 k ∧ k ≤ es.length ∧ EdsIn cs es k ∧ Blk wr w.heap.size 59 cs ∧ Below w.heap.size w wr) (fun i _ => es.length - (intOf i).toNat)
  case atStart => exact ⟨0, _, rfl, by omega, hin0.out, hblk0.out, by (repeat (first | exact Below.refl _ _ | assumption | refine Below.drew ?_ | refine Below.alloc ?_ (by first | omega | (simp; done) | (simp; omega)) _ | refine Below.setCell ?_ (by first | omega | (simp; done) | (simp; omega)) _))⟩
  case round =>
    obtain ⟨k, cs, rfl, hk, hin, hblk, hb⟩ := hrel
    by_cases hlt : k < es.length
    · obtain ⟨b, o, rfl, hB, hE⟩ := hr.out.get (Below.refl _ _) (Nat.le_refl _) hlt
      obtain ⟨e0, e1, e2⟩ := hE k hlt
      have hsz := hin.1
      have hg := hblk.lt
      have hnx := hid (hin.next hlt)
      replace hblk := hid hblk
      replace hin := hid hin
      replace hE := hid hE
      go_wp2_with (go_at_call 75; refine (toEdge_any es[k] _).mono ?_; rintro e w1 ⟨rfl, hb1⟩; obtain ⟨hbl1, ⟨v0, d0⟩, ⟨v1, d1⟩, ⟨v2, d2⟩, z0, z1, z2⟩ := hblk.out.three hb1 hg (i := k * 3) (by omega); unfold Ed.val; replace hbl1 := hid hbl1)
      have hb2 := hb.trans (hb1.mono hb.size)
      go_roundw
      case rel => exact ⟨k + 1, _, by go_num, by omega, hnx.out, ((hbl1.out.set_ _ _).set_ _ _).set_ _ _, by (repeat (first | exact Below.refl _ _ | assumption | refine Below.drew ?_ | refine Below.alloc ?_ (by first | omega | (simp; done) | (simp; omega)) _ | refine Below.setCell ?_ (by first | omega | (simp; done) | (simp; omega)) _))⟩
      case measure => simp [intOf]; omega
    · obtain rfl : k = es.length := by omega
      have hat := hid (hin.at_ hblk)
      replace hblk := hid hblk
      replace hin := hid hin
      go_wp2
      go_ret
      exact ⟨_, rfl, hat.out, fun b o e => by injection e with e; injection e with e; omega, (fun b o e => by
        injection e with e
        injection e with e1 e2
        subst e1
        exact ⟨e2.symm, cs, hblk.out, by have := hin.out.1; omega⟩), hb⟩

set_option maxHeartbeats 400000 in
theorem toSystemW_any (s : Sy) (A : Option Addr) (c : Nat) (w : World) (hn : s.es.length ≤ 1048576) (hl : s.es.length ≤ c) (hc : c ≤ 9223372036854775807) (hr : EdsAt w w.heap.size A s.es) :
    Calls Tryd.prog 11 #[s.val A c] w (SyPostW s w) := by
  unfold Sy.val
  replace hr := hid hr
  go_enter Tryd.func11, Tryd.ntmps11
  go_wp2_with fail
  obtain ⟨w0, hw0⟩ : ∃ w0, ((w.alloc (Obj.cells #[Value.int IntKind.i64 s.al, Value.int IntKind.i64 s.st, Value.slice A s.es.length c] 24)).alloc (Obj.cells #[Value.int IntKind.i64 0, Value.int IntKind.i64 0, Value.slice none 0 0] 28)).alloc
      (Obj.cells #[Value.int IntKind.i64 s.al, Value.int IntKind.i64 s.st, Value.slice none 0 0] 28) = w0 := ⟨_, rfl⟩
  have hz : w0.heap.size = w.heap.size + 3 := by rw [← hw0]; simp
  have hB0 : Below w.heap.size w w0 := by rw [← hw0]; (repeat (first | exact Below.refl _ _ | assumption | refine Below.drew ?_ | refine Below.alloc ?_ (by first | omega | (simp; done) | (simp; omega)) _ | refine Below.setCell ?_ (by first | omega | (simp; done) | (simp; omega)) _))
  have k1 : Blk w0 (w.heap.size + 1) 28 #[Value.int IntKind.i64 0, Value.int IntKind.i64 0, Value.slice none 0 0] := by
    rw [← hw0]
    refine Blk.alloc ?_ _
    have := Blk.new (w.alloc (Obj.cells #[Value.int IntKind.i64 s.al, Value.int IntKind.i64 s.st, Value.slice A s.es.length c] 24)) 28 #[Value.int IntKind.i64 0, Value.int IntKind.i64 0, Value.slice none 0 0]
    simpa using this
  have k2 : Blk w0 (w.heap.size + 1 + 1) 28 #[Value.int IntKind.i64 s.al, Value.int IntKind.i64 s.st, Value.slice none 0 0] := by
    rw [← hw0]
    have := Blk.new ((w.alloc (Obj.cells #[Value.int IntKind.i64 s.al, Value.int IntKind.i64 s.st, Value.slice A s.es.length c] 24)).alloc (Obj.cells #[Value.int IntKind.i64 0, Value.int IntKind.i64 0, Value.slice none 0 0] 28)) 28 #[Value.int IntKind.i64 s.al, Value.int IntKind.i64 s.st, Value.slice none 0 0]
    simpa using this
  rw [hw0]
  clear hw0
  have hr0 : EdsAt w0 w0.heap.size A s.es := hr.out.later hB0
  refine (toEdgeSW_any s.es A c w0 hn hl hc hr0).mono ?_
  rintro e w1 ⟨A', rfl, hA', hfr, hwr, hb1⟩
  have hk1 := k1.below hb1 (by omega)
  have hk2 := k2.below hb1 (by omega)
  have c0 : w1.cell? ⟨w.heap.size + 1, 0, none⟩ = some (.int .i64 0) := by rw [hk1.cell]; rfl
  have c1 : w1.cell? ⟨w.heap.size + 1, 1, none⟩ = some (.int .i64 0) := by rw [hk1.cell]; rfl
  have c2 : w1.cell? ⟨w.heap.size + 1, 2, none⟩ = some (.slice none 0 0) := by rw [hk1.cell]; rfl
  have d0 : w1.cell? ⟨w.heap.size + 1 + 1, 0, none⟩ = some (.int .i64 s.al) := by rw [hk2.cell]; rfl
  have d1 : w1.cell? ⟨w.heap.size + 1 + 1, 1, none⟩ = some (.int .i64 s.st) := by rw [hk2.cell]; rfl
  have d2 : w1.cell? ⟨w.heap.size + 1 + 1, 2, none⟩ = some (.slice none 0 0) := by rw [hk2.cell]; rfl
  have y0 := hk1.frozen 0
  have y1 := hk1.frozen 1
  have y2 := hk1.frozen 2
  have y3 := hk2.frozen 2
  have hB1 : Below w.heap.size w w1 := hB0.trans (hb1.mono (by omega))
  rw [hz] at hfr
  clear k1 k2 hr0
  replace hk1 := hid hk1
  replace hk2 := hid hk2
  replace hA' := hid hA'
  replace hfr := hid hfr
  replace hwr := hid hwr
  replace hz := hid hz
  go_wp2
  refine bodyPost_ret (v := .agg #[.int .i64 s.al, .int .i64 s.st, .slice A' s.es.length s.es.length]) (by simp [results, Tryd.results11, go_sem, c0, c1, c2]) rfl ⟨A', rfl, ?_, fun b o e => by have := hfr.out b o e; omega, ?_, by (repeat (first | exact Below.refl _ _ | assumption | refine Below.drew ?_ | refine Below.alloc ?_ (by first | omega | (simp; done) | (simp; omega)) _ | refine Below.setCell ?_ (by first | omega | (simp; done) | (simp; omega)) _))⟩
  rotate_left
  · have e1 := hwr.out.setFar hfr.out (g := w.heap.size + 1 + 1) (i := 2) (.slice A' s.es.length s.es.length) (by omega)
    have e2 := e1.setFar hfr.out (g := w.heap.size + 1) (i := 0) (.int .i64 s.al) (by omega)
    have e3 := e2.setFar hfr.out (g := w.heap.size + 1) (i := 1) (.int .i64 s.st) (by omega)
    exact e3.setFar hfr.out (g := w.heap.size + 1) (i := 2) _ (by omega)
  have e1 := hA'.out.setFar hfr.out (g := w.heap.size + 1 + 1) (i := 2) (.slice A' s.es.length s.es.length) (by omega)
  have e2 := e1.setFar hfr.out (g := w.heap.size + 1) (i := 0) (.int .i64 s.al) (by omega)
  have e3 := e2.setFar hfr.out (g := w.heap.size + 1) (i := 1) (.int .i64 s.st) (by omega)
  exact e3.setFar hfr.out (g := w.heap.size + 1) (i := 2) _ (by omega)


set_option maxRecDepth 100000 in
set_option maxHeartbeats 1000000 in
theorem markEdgeS_any (A : Option Addr) (n c : Nat) (es : List Ed) (k : Int) (w : World) (hn : es.length = n) (h0 : 0 ≤ k) (h1 : k + 3 * n ≤ 1152921504606846976) (hcn : n ≤ c) (hcm : c ≤ 9223372036854775807) (hr : EdsAt w w.heap.size A es) (hw : WrB w A n) :
    Calls Tryd.prog 43 #[.slice A n c, .int .i64 k] w fun e w' => e = .returned (.int .i64 (k + 3 * n)) ∧ KeepB (fun b => 0 < n ∧ ∃ o, A = some ⟨b, o, none⟩) w w' := by
  by_cases hn0 : n = 0
  · replace hr := hid hr
    replace hw := hid hw
    subst hn0
    go_enter Tryd.func43, Tryd.ntmps43
    go_wp2
    go_loopw [1, 5] (fun kv i wr => kv = .int .i64 k ∧ i = .int .i64 0 ∧ wr = w) (fun _ _ _ => 0)
    case atStart => exact ⟨rfl, rfl, rfl⟩
    case round =>
      obtain ⟨rfl, rfl, rfl⟩ := hrel
      go_wp2
      go_ret
      exact ⟨ret_int (by omega), KeepB.refl _ _⟩
  · obtain ⟨b, o, rfl, -, -⟩ := hr (by omega)
    obtain ⟨rfl, cur, hblk, hsz⟩ := hw b o rfl
    clear hr hw
    replace hblk := hid hblk
    go_enter Tryd.func43, Tryd.ntmps43
    go_wp2
    go_loopw [1, 5] (fun kv i wr => ∃ (j : Nat) (cs : Array Value), kv = .int .i64 (k + 3 * j) ∧ i = .int .i64 (j : Nat) ∧ j ≤ n ∧ Blk wr b 59 cs ∧ cs.size = cur.size ∧ KeepB (fun x => x = b) w wr) (fun _ i _ => n - (intOf i).toNat)
    case atStart => exact ⟨0, cur, by simp, rfl, by omega, hblk.out, rfl, KeepB.refl _ _⟩
    case round =>
      obtain ⟨j, cs, rfl, rfl, hj, hbr, hs, hkp⟩ := hrel
      by_cases hlt : j < n
      · obtain ⟨v0, d0⟩ := hbr.some_ (i := j * 3) (by omega)
        obtain ⟨v1, d1⟩ := hbr.some_ (i := j * 3 + 1) (by omega)
        obtain ⟨v2, d2⟩ := hbr.some_ (i := j * 3 + 2) (by omega)
        have z0 := hbr.frozen (j * 3)
        have z1 := hbr.frozen (j * 3 + 1)
        have z2 := hbr.frozen (j * 3 + 2)
        have k1 : (0 : Int) ≤ (j : Int) ∧ (j : Int) < (n : Int) := by omega
        replace hbr := hid hbr
        go_wp2
        go_roundw
        case rel => exact ⟨j + 1, _, by go_num, by go_num, by omega, ((hbr.out.set_ _ _).set_ _ _).set_ _ _, by simpa using hs, ((hkp.setCell _ _ fun _ => rfl).setCell _ _ fun _ => rfl).setCell _ _ fun _ => rfl⟩
        case measure => simp [intOf]; omega
      · obtain rfl : j = n := by omega
        replace hbr := hid hbr
        go_wp2
        go_ret
        exact ⟨rfl, hkp.mono fun x e => ⟨by omega, 0, by rw [e]⟩⟩

set_option maxRecDepth 100000 in
set_option maxHeartbeats 1000000 in
theorem markSystem_any (s : Sy) (A : Option Addr) (c : Nat) (k : Int) (w : World) (h0 : 0 ≤ k) (h1 : k + 3 * s.es.length ≤ 1152921504606846976) (hcn : s.es.length ≤ c) (hcm : c ≤ 9223372036854775807) (hr : EdsAt w w.heap.size A s.es) (hw : WrB w A s.es.length) :
    Calls Tryd.prog 14 #[s.val A c, .int .i64 k] w fun e w' => e = .returned (.int .i64 (k + 3 * s.es.length)) ∧ KeepB (fun b => 0 < s.es.length ∧ ∃ o, A = some ⟨b, o, none⟩) w w' := by
  unfold Sy.val
  obtain ⟨w0, hw0, hz0, hB0, hS0, hS1, hS2⟩ := boxed3 w (Value.int IntKind.i64 s.al) (Value.int IntKind.i64 s.st) (Value.slice A s.es.length c) 28
  have p2 := hS2 _ (Below.refl _ _)
  have hr0 := hid (hr.later hB0)
  have hw0' := hid (hw.later hB0)
  replace hr := hid hr
  replace hw := hid hw
  go_enter Tryd.func14, Tryd.ntmps14
  go_wp2_with fail
  refine (markEdgeS_any A s.es.length c s.es k w0 rfl h0 h1 hcn hcm hr0.out hw0'.out).mono ?_
  rintro e w1 ⟨rfl, hk1⟩
  have hk := (KeepB.of_below (K := fun b => 0 < s.es.length ∧ ∃ o, A = some ⟨b, o, none⟩) hB0).trans hk1
  go_wp2
  go_ret
  exact ⟨rfl, hk⟩

end Go.Proofs.YtdkjnemakkppfaaDoor

/- Plain: a system with only its reached states does the same. -/
namespace AG

theorem edgeLt_iff (a b : Ed) : edgeLt a b = true ↔ a.f < b.f ∨ (a.f = b.f ∧ (a.l < b.l ∨ (a.l = b.l ∧ a.t < b.t))) := by
  unfold edgeLt
  by_cases h1 : a.f = b.f
  · by_cases h2 : a.l = b.l
    · simp [h1, h2]
    · simp [h1, h2]
  · simp [h1]
theorem edgeLt_trans {a b c : Ed} (h : edgeLt a b = true) (k : edgeLt b c = true) : edgeLt a c = true := by
  rw [edgeLt_iff] at h k ⊢
  omega
theorem edges_pairwise {s : Sy} (h : sysOk s = true) : s.es.Pairwise fun a b => edgeLt a b = true := by
  rw [List.pairwise_iff_getElem]
  intro i j hi hj hij
  induction j with
  | zero => omega
  | succ j ih =>
    have h1 := sysOk_lt h (i := j) (by omega)
    by_cases e : i = j
    · subst e; exact h1
    · exact edgeLt_trans (ih (by omega) (by omega)) h1
end AG

/- Words as bytes: their letters, their alphabets, what is left of them, the states behind them. -/
namespace AG

def lOk (x : Int) : Bool := decide (0 ≤ x ∧ x < 6)
end AG

/- Plain: one part alone. -/
namespace AG

theorem allAl_one {s : Sy} (h : sysOk s = true) : allAl [s] = s.al := by
  have r := sysOk_alpha h
  show orB 0 s.al = s.al
  unfold orB
  simp
  omega
theorem allAl_two {s : Sy} (h : sysOk s = true) : allAl [s, s] = s.al := by
  have r := sysOk_alpha h
  have h0 : orB 0 s.al = s.al := allAl_one h
  show orB (orB 0 s.al) s.al = s.al
  rw [h0]
  unfold orB
  rw [Nat.or_self]
  omega
end AG

/- Plain: words as lists: prefixes, restrictions of restrictions, lists of systems in another order, words that are merged. -/
namespace AG

/-- The letter of a byte, -1 if there is none. -/
def bl (b : UInt8) : Int := if lOk ((b.toNat : Int) - 97) = true then (b.toNat : Int) - 97 else -1
end AG

/- Plain: the words over some letters in their order, and the first trace outside among them. -/
namespace Go.Proofs.YtdkjnemakkppfaaDoor
open AG

theorem letters_ok {A : Int} {l : Nat} : l ∈ letters A ↔ l < 6 ∧ Has A l = true := by
  unfold letters lettersTo
  rw [List.mem_filter, List.mem_range]
end Go.Proofs.YtdkjnemakkppfaaDoor

/- The program's tableOf. -/
namespace Go.Proofs.YtdkjnemakkppfaaDoor
open Go.RowKit Go.BigFrame AG

/-- The table of an automaton: where each letter leads from each of n states. -/
def TabA (w : World) (g n : Nat) (a : Au) : Prop := g < w.heap.size ∧ ∀ q l, q < n → l < 6 → w.cell? ⟨g, q * 6 + l, none⟩ = some (.int .i64 (goA a q l : Nat))
theorem TabA.later {w w' : World} {g n : Nat} {a : Au} (h : TabA w g n a) (hb : Below w.heap.size w w') : TabA w' g n a := ⟨Nat.lt_of_lt_of_le h.1 hb.size, fun q l h1 h2 => by rw [hb.cell (by simpa using h.1)]; exact h.2 q l h1 h2⟩
/-- Every row has as many entries as there are letters, and they are no negative numbers. -/
def tabOk (a : Au) : Prop := ∀ r ∈ a.nx, r.length = (letters a.al).length ∧ ∀ q ∈ r, 0 ≤ q
/-- .. when i letters of the row have been entered. -/
def goK (a : Au) (q i l : Nat) : Int := if l ∈ (letters a.al).take i then (a.nx.getD q []).getD ((letters a.al).idxOf l) 0 else (q : Int)
theorem goK_done {a : Au} (h : tabOk a) {q l : Nat} (hq : q < a.nx.length) : goK a q (letters a.al).length l = ((goA a q l : Nat) : Int) := by
  unfold goK goA
  rw [List.take_length]
  split
  · rename_i hl
    have hg : a.nx.getD q [] = a.nx[q] := by rw [List.getD_eq_getElem?_getD, List.getElem?_eq_getElem hq]; rfl
    obtain ⟨h1, h2⟩ := h a.nx[q] (List.getElem_mem _)
    have hk : (letters a.al).idxOf l < (a.nx[q]).length := by rw [h1]; exact List.idxOf_lt_length_iff.2 hl
    rw [hg]
    have : (a.nx[q]).getD ((letters a.al).idxOf l) 0 = (a.nx[q])[(letters a.al).idxOf l] := by rw [List.getD_eq_getElem?_getD, List.getElem?_eq_getElem hk]; rfl
    rw [this, Int.toNat_of_nonneg (h2 _ (List.getElem_mem _))]
  · rfl
/-- The cells of the table: q rows are done, of the next one those that f says. -/
structure TabSt (cs : Array Value) (n : Nat) (a : Au) (q : Nat) (f : Nat → Option Int) : Prop where
  size : cs.size = n * 6
  rows : ∀ p l, p < q → l < 6 → cs[p * 6 + l]? = some (.int .i64 (goA a p l : Nat))
  row : ∀ l v, l < 6 → f l = some v → cs[q * 6 + l]? = some (.int .i64 v)
theorem TabSt.set_ {cs : Array Value} {n : Nat} {a : Au} {q l : Nat} {f f' : Nat → Option Int} {v : Int} (h : TabSt cs n a q f) (hq : q < n) (hl : l < 6) (hf : ∀ k, k ≠ l → f' k = f k) (hv : f' l = some v) : TabSt (cs.setIfInBounds (q * 6 + l) (.int .i64 v)) n a q f' := by
  refine ⟨by simpa using h.size, fun p k hp hk => ?_, fun k u hk hu => ?_⟩
  · rw [Array.getElem?_setIfInBounds_ne (by omega)]
    exact h.rows p k hp hk
  · by_cases e : k = l
    · subst e
      rw [hv] at hu
      injection hu with hu
      subst hu
      rw [Array.getElem?_setIfInBounds_self_of_lt (by rw [h.size]; omega)]
    · rw [Array.getElem?_setIfInBounds_ne (by omega)]
      exact h.row k u hk (by rw [← hf k e]; exact hu)
theorem TabSt.over {cs : Array Value} {n : Nat} {a : Au} {q : Nat} (h : TabSt cs n a q (fun l => some (goK a q (letters a.al).length l))) (ht : tabOk a) (hq : q < a.nx.length) : TabSt cs n a (q + 1) (fun _ => none) := by
  refine ⟨h.size, fun p l hp hl => ?_, fun l v _ hv => by cases hv⟩
  by_cases e : p = q
  · subst e
    rw [h.row l _ hl rfl, goK_done ht hq]
  · exact h.rows p l (by omega) hl

end Go.Proofs.YtdkjnemakkppfaaDoor
