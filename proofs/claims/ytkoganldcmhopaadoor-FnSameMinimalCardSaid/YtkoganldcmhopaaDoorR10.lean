/- Lemmas, part 10: several texts in one. -/
import Derived.Test.YtkoganldcmhopaaDoorR9
import Derived.Test.YtkoganldcmhopaaDoorR3
import Derived.Test.YtkoganldcmhopaaDoorR8
import Derived.Deep.DeepCutAuto
import Derived.Test.YtkoganldcmhopaaDoorR5
import Derived.Test.YtkoganldcmhopaaDoorR2
import Derived.Test.YtkoganldcmhopaaDoorR4
import Derived.Test.YtkoganldcmhopaaDoorR6
import Derived.Test.YtkoganldcmhopaaDoorCards
import Derived.Test.YtkoganldcmhopaaDoorTie
import Derived.WalkKit
import Derived.ProofKit
import Derived.OpenShut
import Derived.Deep.DeepHandedRow
import Derived.Lib.LaidTab
import Derived.Stop.LaidErr
import Derived.Test.YtkoganldcmhopaaDoorR1
import Derived.Lib.ItoaNum
import Derived.Lib.ItoaWalk
import Derived.Lib.Strings
import Derived.BigCall
import Derived.Maps.OwnSet
import Derived.Lib.SliceRun
import Derived.Test.YtkoganldcmhopaaDoorR7
set_option linter.unusedSimpArgs false
set_option linter.unusedVariables false

/- A system with only some of its states: the program's subSystem, the reference's l2Keep. -/
namespace Go.Proofs.YtkoganldcmhopaaDoor
open Go.RowKit Go.BigFrame AG

/-- The result under way: its own block gs, its edges a row that the call owns. -/
structure SubSt (w0 wr : World) (gs : Nat) (al st : Int) (v : Value) (es : List Ed) : Prop where
  blk : Blk wr gs 30 #[.int .i64 al, .int .i64 st, v]
  own : wr.ownsRow w0.heap.size 66 3 v es.length (edCells es)
  low : w0.heap.size ≤ gs
  keep : Below w0.heap.size w0 wr
theorem SubSt.later {w0 wr w1 : World} {gs : Nat} {al st : Int} {v : Value} {es : List Ed} (h : SubSt w0 wr gs al st v es) (hb : Below wr.heap.size wr w1) : SubSt w0 w1 gs al st v es :=
  ⟨h.blk.below hb h.blk.lt, own_later h.own hb, h.low, h.keep.trans (hb.mono h.keep.size)⟩
theorem SubSt.add {w0 wr w1 : World} {gs gg cap : Nat} {al st : Int} {v : Value} {es : List Ed} {x : Ed} (h : SubSt w0 wr gs al st v es)
    (hown : w1.ownsRow w0.heap.size 66 3 (.slice (some ⟨gg, 0, none⟩) (es.length + 1) cap) (es.length + 1) (edCells es ++ [.int .i64 x.f, .int .i64 x.l, .int .i64 x.t])) (hg : wr.grownBy w1 v.ownBlock) :
    SubSt w0 (w1.setCell ⟨gs, 2, none⟩ (.slice (some ⟨gg, 0, none⟩) (es.length + 1) cap)) gs al st (.slice (some ⟨gg, 0, none⟩) (es.length + 1) cap) (es ++ [x]) := by
  have hne : v.ownBlock ≠ some gs := fun e => own_ne h.own h.blk (by decide) gs e rfl
  have hb1 : Blk w1 gs 30 #[.int .i64 al, .int .i64 st, v] := by
    have := hg.block gs h.blk.lt (Ne.symm hne)
    exact this.trans h.blk
  have hne2 : (Value.slice (some ⟨gg, 0, none⟩) (es.length + 1) cap).ownBlock ≠ some gs := fun e => own_ne hown hb1 (by decide) gs e rfl
  refine ⟨by simpa using hb1.set_ 2 (.slice (some ⟨gg, 0, none⟩) (es.length + 1) cap), ?_, h.low, ?_⟩
  · have e : (es ++ [x]).length = es.length + 1 := by simp
    rw [e, edCells_append]
    exact ownsRow_setCell_other hown hne2 _
  · exact Below.setCell (h.keep.grown hg h.keep.size (fun k hk => (h.own.lt k hk).1)) (by have := h.low; simpa using this) _

end Go.Proofs.YtkoganldcmhopaaDoor

/- The reference's SystemOf. -/
namespace Go.Proofs.YtkoganldcmhopaaDoor
open Go.RowKit Go.BigFrame AG

def SoPost (w : World) (x : Sy) (ok : Bool) (e : Ending) (w' : World) : Prop := ∃ (A : Option Addr) (c : Nat), e = .returned (.tuple #[x.val A c, .bool ok]) ∧ x.es.length ≤ c ∧ c ≤ 9223372036854775807 ∧ EdsAt w' w'.heap.size A x.es ∧ FreshA w.heap.size A ∧ Below w.heap.size w w'
def SoOwn (w : World) (x : Sy) (ok : Bool) (e : Ending) (w' : World) : Prop := ∃ (A : Option Addr) (c : Nat), e = .returned (.tuple #[x.val A c, .bool ok]) ∧ OwnEds w' w.heap.size (.slice A x.es.length c) x.es ∧ Below w.heap.size w w'
theorem SoOwn.read {w : World} {x : Sy} {ok : Bool} {e : Ending} {w' : World} (h : SoOwn w x ok e w') : SoPost w x ok e w' := by
  obtain ⟨A, c, h1, h2, h3⟩ := h
  obtain ⟨A', c', e', k1, k2, k3, k4⟩ := OwnEds.read h2
  cases e'
  exact ⟨A, c, h1, k1, k2, k3, k4, h3⟩

/-- The system under way, and the letters. -/
structure SoSt (w0 wr : World) (gs : Nat) (al st : Int) (v : Value) (es : List Ed) (lv : Value) (L : List Nat) : Prop where
  sub : SubSt w0 wr gs al st v es
  list : OwnNats wr w0.heap.size lv L
theorem SoSt.later {w0 wr w1 : World} {gs : Nat} {al st : Int} {v lv : Value} {es : List Ed} {L : List Nat} (h : SoSt w0 wr gs al st v es lv L) (hb : Below wr.heap.size wr w1) : SoSt w0 w1 gs al st v es lv L := ⟨h.sub.later hb, own_later h.list hb⟩
theorem SoSt.add {w0 wr w1 : World} {gs gg cap : Nat} {al st : Int} {v lv : Value} {es : List Ed} {L : List Nat} {x : Ed} (h : SoSt w0 wr gs al st v es lv L)
    (hown : w1.ownsRow w0.heap.size 66 3 (.slice (some ⟨gg, 0, none⟩) (es.length + 1) cap) (es.length + 1) (edCells es ++ [.int .i64 x.f, .int .i64 x.l, .int .i64 x.t])) (hg : wr.grownBy w1 v.ownBlock) :
    SoSt w0 (w1.setCell ⟨gs, 2, none⟩ (.slice (some ⟨gg, 0, none⟩) (es.length + 1) cap)) gs al st (.slice (some ⟨gg, 0, none⟩) (es.length + 1) cap) (es ++ [x]) lv L := by
  have hbl : wr.grownBy w1 v.ownBlock := hg
  refine ⟨h.sub.add hown hg, ?_⟩
  have k2 : KeepB (fun b => v.ownBlock = some b ∨ b = gs) wr (w1.setCell ⟨gs, 2, none⟩ (.slice (some ⟨gg, 0, none⟩) (es.length + 1) cap)) := ((((KeepB.refl _ wr).grown hg (fun k hk _ => hk)).mono fun _ h => .inl h).setCell _ _ fun _ => .inr rfl)
  exact own_keep h.list k2 fun g hg hk => by
    rcases hk with hk | hk
    · exact own_ne_own h.list h.sub.own (by decide) g g hg hk rfl
    · exact own_ne h.list h.sub.blk (by decide) g hg hk

theorem soS_zero {a : Au} (h : soOk a = false) : soS a = ⟨0, 0, []⟩ := by unfold soS; rw [h]; rfl

end Go.Proofs.YtkoganldcmhopaaDoor

/- The program's SystemOf. -/
namespace Go.Proofs.YtkoganldcmhopaaDoor
open Go.RowKit Go.BigFrame AG

structure SoSt2 (w0 wr : World) (gs : Nat) (al st : Int) (v : Value) (es : List Ed) (lv : Value) (L : List Nat) (mv : Value) (M : List Nat) : Prop where
  so : SoSt w0 wr gs al st v es lv L
  mem : OwnNats wr w0.heap.size mv M
theorem SoSt2.later {w0 wr w1 : World} {gs : Nat} {al st : Int} {v lv mv : Value} {es : List Ed} {L M : List Nat} (h : SoSt2 w0 wr gs al st v es lv L mv M) (hb : Below wr.heap.size wr w1) : SoSt2 w0 w1 gs al st v es lv L mv M := ⟨h.so.later hb, own_later h.mem hb⟩
theorem SoSt2.add {w0 wr w1 : World} {gs gg cap : Nat} {al st : Int} {v lv mv : Value} {es : List Ed} {L M : List Nat} {x : Ed} (h : SoSt2 w0 wr gs al st v es lv L mv M)
    (hown : w1.ownsRow w0.heap.size 66 3 (.slice (some ⟨gg, 0, none⟩) (es.length + 1) cap) (es.length + 1) (edCells es ++ [.int .i64 x.f, .int .i64 x.l, .int .i64 x.t])) (hg : wr.grownBy w1 v.ownBlock) :
    SoSt2 w0 (w1.setCell ⟨gs, 2, none⟩ (.slice (some ⟨gg, 0, none⟩) (es.length + 1) cap)) gs al st (.slice (some ⟨gg, 0, none⟩) (es.length + 1) cap) (es ++ [x]) lv L mv M :=
  ⟨h.so.add hown hg, (SoSt.add (lv := mv) (L := M) ⟨h.so.sub, h.mem⟩ hown hg).list⟩

theorem trim_take_hit {R : Nat} {E T : List Ed} {e : Ed} (h : keptE R e = true) : trimEs R (E ++ (T ++ [e])) = trimEs R (E ++ T) ++ [trimE R e] := by
  rw [← List.append_assoc, trimEs_append]
  unfold trimEs
  rw [List.filter_cons_of_pos h]
  rfl
theorem trim_take_miss {R : Nat} {E T : List Ed} {e : Ed} (h : keptE R e = false) : trimEs R (E ++ (T ++ [e])) = trimEs R (E ++ T) := by
  rw [← List.append_assoc, trimEs_append, trimEs_none (es := [e]) (fun x hx => by rw [List.mem_singleton.1 hx]; exact h), List.append_nil]

theorem flat_len6 (A : Int) (g : Nat → List Int) : ∀ (ms : List Nat) , (ms.flatMap fun q => rowEs (letters A) q (g q)).length ≤ ms.length * 6
  | [] => Nat.le_refl _
  | m :: ms => by
    have ih := flat_len6 A g ms
    have h6 := letters_len6 A
    rw [List.flatMap_cons, List.length_append, List.length_cons, rowEs_len]
    omega
set_option maxRecDepth 100000 in
set_option maxHeartbeats 8000000 in
theorem implSystemOf_any (a : Au) (A B : Option Addr) (c d : Nat) (w : World) (hT : Tab w) (ha : AuAt w A c B d a) :
    Calls Tryd.prog 16 #[a.val A c B d] w (SoOwn w (soS a) (soOk a)) := by
  obtain ⟨i0, hi0, hz0', hz1', hz2'⟩ := info_parts infoEd
  obtain ⟨w0, hw0, hz0, hB0, hS, -⟩ := boxed2 w #[Value.int IntKind.i64 a.al, Value.slice A a.nx.length c, Value.slice B a.ac.length d] 26 #[Value.int IntKind.i64 0, Value.int IntKind.i64 0, Value.slice none 0 0] 30
  have hres : Blk w0 (w.heap.size + 1) 30 #[Value.int IntKind.i64 0, Value.int IntKind.i64 0, Value.slice none 0 0] := by
    rw [← hw0]
    have := Blk.new (w.alloc (.cells #[Value.int IntKind.i64 a.al, Value.slice A a.nx.length c, Value.slice B a.ac.length d] 26)) 30 #[Value.int IntKind.i64 0, Value.int IntKind.i64 0, Value.slice none 0 0]
    simpa using this
  have ha0 := hid (ha.later hB0)
  have p0 := hS 0 _ rfl _ (Below.refl _ _)
  have p1 := hS 1 _ rfl _ (Below.refl _ _)
  have p2 := hS 2 _ rfl _ (Below.refl _ _)
  replace ha := hid ha
  replace hres := hid hres
  replace hT := hid hT
  unfold AG.Au.val
  go_enter Tryd.func16, Tryd.ntmps16
  go_wp2_with fail
  refine (implAutomatonValid_any a A B c d w0 ha0.out).mono ?_
  rintro e w1 ⟨rfl, hb1⟩
  have hB1 := hB0.trans (hb1.mono hB0.size)
  have hC1 := hb1.mono hz0
  have ha1 := hid (ha0.out.later hb1)
  have hz1 := hb1.size
  have hzero : soOk a = false → SoOwn w (soS a) (soOk a) (.returned (.tuple #[.agg #[.int .i64 0, .int .i64 0, .slice none 0 0], .bool false])) (((w1.setCell ⟨w.heap.size + 1, 0, none⟩ (.int .i64 0)).setCell ⟨w.heap.size + 1, 1, none⟩ (.int .i64 0)).setCell ⟨w.heap.size + 1, 2, none⟩ (.slice none 0 0)) := fun h => by
    rw [soS_zero h, h]
    exact ⟨none, 0, rfl, World.ownsRow_nil _ _ _ _, ((hB1.setCell (by simp) _).setCell (by simp) _).setCell (by simp) _⟩
  have hrb := hres.out.below hb1 hres.out.lt
  have d0 := hrb.cell 0
  have d1 := hrb.cell 1
  have d2 := hrb.cell 2
  have f0 := hrb.frozen 0
  have f1 := hrb.frozen 1
  have f2 := hrb.frozen 2
  have hlt1 := hrb.lt
  simp only [List.getElem?_toArray, List.getElem?_cons_zero, List.getElem?_cons_succ] at d0 d1 d2
  replace hzero := hid hzero
  replace hrb := hid hrb
  clear p0 p1 p2 hw0
  cases hok : auOk a
  · have hno := hid (hzero.out (by unfold soOk; rw [hok]; rfl))
    replace hok := hid hok
    go_wp2
    refine bodyPost_ret (v := .tuple #[.agg #[.int .i64 0, .int .i64 0, .slice none 0 0], .bool false]) (by simp [results, Tryd.results16, go_sem, d0, d1, d2]) rfl ?_
    exact hno.out
  obtain ⟨-, hn1, hn12, hn3, -⟩ := (auOk_iff a).1 hok
  obtain ⟨bA, oA, hAe, hbA, hEA⟩ := ha1.out.acc (by omega)
  subst hAe
  have hac0 := hEA 0 (by omega)
  rw [Nat.add_zero] at hac0
  have hso : Hid (soOk a = a.ac[0]) := hid (by
    unfold soOk
    rw [hok, Bool.true_and, List.getD_eq_getElem?_getD, List.getElem?_eq_getElem (by omega)]
    rfl)
  obtain ⟨t, ht⟩ : ∃ t, t = a.ac[0] := ⟨_, rfl⟩
  rw [← ht] at hac0 hso
  have hok' := hid hok
  have hac12 : a.ac.length ≤ 12 := by omega
  have hn3' := hid hn3
  have hal0 : (0 : Int) < (a.ac.length : Int) := by omega
  have p2 := hS 2 _ rfl _ hC1
  replace hEA := hid hEA
  clear hok hn3 ht
  cases t
  · have hno := hid (hzero.out hso.out)
    go_wp2
    refine bodyPost_ret (v := .tuple #[.agg #[.int .i64 0, .int .i64 0, .slice none 0 0], .bool false]) (by simp [results, Tryd.results16, go_sem, d0, d1, d2]) rfl ?_
    exact hno.out
  clear hzero d0 d1 d2 f0 f1 f2
  have hpar := hid (fun (wr : World) (hb : Below w1.heap.size w1 wr) => And.intro (hS 0 _ rfl _ (hC1.trans (hb.mono (by omega)))) (And.intro (hS 1 _ rfl _ (hC1.trans (hb.mono (by omega)))) (hS 2 _ rfl _ (hC1.trans (hb.mono (by omega))))))
  go_wp2_with fail
  clear hac0
  go_loopw [4, 27] (fun sv iv wr => ∃ i : Nat, iv = .int .i64 (i : Nat) ∧ i ≤ a.ac.length ∧ sv = .int .i64 (accSet a i : Nat) ∧ wr = w1) (fun _ iv _ => a.ac.length - (intOf iv).toNat)
  case atStart => exact ⟨0, rfl, by omega, rfl, rfl⟩
  case round =>
    clear p2
    obtain ⟨i, rfl, hi, rfl, rfl⟩ := hrel
    have hlt2 := accSet_lt a i
    by_cases hlt : i < a.ac.length
    · have c0 := hEA.out i hlt
      have hsucc : Hid (accSet a (i + 1) = if a.ac[i] = true then accSet a i ||| 2 ^ i else accSet a i) := hid (by
        show (if a.ac.getD i false = true then _ else _) = _
        rw [List.getD_eq_getElem?_getD, List.getElem?_eq_getElem hlt]
        rfl)
      obtain ⟨t, ht⟩ : ∃ t, t = a.ac[i] := ⟨_, rfl⟩
      rw [← ht] at c0 hsucc
      have k1 : (0 : Int) ≤ (i : Int) ∧ (i : Int) < (a.ac.length : Int) := by omega
      clear ht
      have hpw : 2 ^ i ≤ 2 ^ 12 := Nat.pow_le_pow_right (by omega) (by omega)
      cases t
      · have hs : Hid (accSet a (i + 1) = accSet a i) := hid (by rw [hsucc.out]; simp)
        clear hpw hlt2
        go_wp2_with fail
        go_roundw
        case rel => exact ⟨i + 1, by go_num, by omega, by rw [hs.out], by first | rfl | trivial⟩
        case measure => simp [intOf]; omega
      · have hs : Hid (accSet a (i + 1) = accSet a i ||| 2 ^ i) := hid (by rw [hsucc.out]; simp)
        have f1 := wrap_pow (n := i) (by omega)
        obtain ⟨S, hSs⟩ : ∃ S, Hid (S = accSet a i) := ⟨_, hid rfl⟩
        rw [← hSs.out] at hlt2 hs ⊢
        obtain ⟨P, hP⟩ : ∃ P, Hid (P = 2 ^ i) := ⟨_, hid rfl⟩
        rw [← hP.out] at hlt2 hs hpw f1
        have hor := bits_orN S P (by omega) (by omega)
        go_wp2_with fail
        go_roundw
        case rel => exact ⟨i + 1, by go_num, by omega, by rw [hs.out], by first | rfl | trivial⟩
        case measure => simp [intOf]; omega
    · obtain rfl : i = a.ac.length := by omega
      obtain ⟨wz, rfl⟩ : ∃ wz : World, wz = wr := ⟨_, rfl⟩
      obtain ⟨R, hR⟩ : ∃ R, Hid (R = accS a) := ⟨_, hid rfl⟩
      have hRe : Hid (accSet a a.ac.length = R) := hid (by rw [hR.out]; unfold accS; rw [hn3'.out])
      rw [hRe.out]
      have hR16 : R < 65536 := by rw [hR.out]; exact accS_lt hok'.out
      obtain ⟨p0, p1, p2⟩ := hpar.out _ (Below.refl _ _)
      have q0 := GK.BI.cell p0
      have q1 := GK.BI.cell p1
      clear hlt2 hlt hi
      go_upto_region 10 with fail
      clear p0 p1 p2
      refine GK.wp_region 9 [9] 200 (KeepB fun _ => False) (GK.BI wz) (fun _ u _ => u = .int .i64 ((rankN R a.nx.length : Nat) : Int)) (by kernel_rfl) (by kernel_rfl) (GK.BI.way wz) (by decide) (Below.refl _ _).drew ?_
      simp only [List.take_succ_cons, List.take_zero]
      (repeat (refine GK.grow_quiet wz (by rfl) (by rfl) ?_; intro K hK; go_big_quiet_op; go_big_quiet_on))
      refine GK.grow_val (.int .i64 ((rankN R a.nx.length : Nat) : Int)) (by rfl) rfl (fun m wq hm2 hbq _ => ?_) ?_
      · go_simp
        exact ⟨rfl, (implRank_any R a.nx.length wq hR16 (by omega)).mono fun e w' ⟨h1, h2⟩ => ⟨h1, GK.BI.after hbq (by rw [← h2]; exact Below.refl _ _)⟩⟩
      simp only [Act.put, List.setIfInBounds_toArray, List.set_cons_zero, List.set_cons_succ]
      (repeat (refine GK.grow_quiet wz (by rfl) (by rfl) ?_; intro K hK; go_big_quiet_op; go_big_quiet_on))
      refine GK.grow_new (K := fun _ => False) (by rfl) _ (fun b => .pointer (some ⟨b, 0, none⟩)) 30 #[.int .i64 0, .int .i64 0, .slice none 0 0] (fun _ => by go_simp) rfl (fun _ _ o h => GK.BI.alloc o h) (fun _ _ h => GK.BI.size h) (fun _ h => h.elim) (fun gs hgs => ?_)
      simp only [Act.put, List.setIfInBounds_toArray, List.set_cons_zero, List.set_cons_succ]
      refine GK.grow_nil ?_
      intro w2 hw2 hf
      simp only [List.filterMap_cons, List.filterMap_nil, List.getElem?_cons_zero, List.getElem?_cons_succ]
      obtain ⟨gs', e1, -, hblk⟩ := hf _ List.mem_cons_self
      cases e1
      replace hw2 : Below wz.heap.size wz w2 := hw2
      clear hf q0 q1
      have hblk' : Blk w2 gs 30 #[.int .i64 0, .int .i64 0, .slice none 0 0] := hblk
      have hgl := hblk'.lt
      have c0 := hblk'.cell 0
      have c1 := hblk'.cell 1
      have c2 := hblk'.cell 2
      have f0 := hblk'.frozen 0
      have f1 := hblk'.frozen 1
      have f2 := hblk'.frozen 2
      simp only [List.getElem?_toArray, List.getElem?_cons_zero, List.getElem?_cons_succ] at c0 c1 c2
      have hS1 : Hid (SubSt wz (((w2.setCell ⟨gs, 0, none⟩ (.int .i64 a.al)).setCell ⟨gs, 1, none⟩ (.int .i64 ((rankN R a.nx.length : Nat) : Int))).setCell ⟨gs, 2, none⟩ (.slice none 0 0)) gs a.al ((rankN R a.nx.length : Nat) : Int) (.slice none 0 0) []) := hid
        ⟨by simpa using ((hblk'.set_ 0 (.int .i64 a.al)).set_ 1 (.int .i64 ((rankN R a.nx.length : Nat) : Int))).set_ 2 (.slice none 0 0), World.ownsRow_nil _ _ _ _, hgs,
          ((hw2.setCell (by simpa using hgs) _).setCell (by simpa using hgs) _).setCell (by simpa using hgs) _⟩
      obtain ⟨w3, hw3⟩ : ∃ w3, ((w2.setCell ⟨gs, 0, none⟩ (.int .i64 a.al)).setCell ⟨gs, 1, none⟩ (.int .i64 ((rankN R a.nx.length : Nat) : Int))).setCell ⟨gs, 2, none⟩ (.slice none 0 0) = w3 := ⟨_, rfl⟩
      rw [hw3] at hS1
      obtain ⟨p0, p1, p2⟩ := hpar.out _ hS1.out.keep
      replace hblk := hid hblk
      clear hblk'
      clear p1 p2
      have hz13 := hS1.out.keep.size
      go_wp2_with fail
      refine (lettersOf_any a.al w3).mono ?_
      rintro e w4 ⟨lv, rfl, hown4, hb4⟩
      obtain ⟨AL, cL, rfl, hcL, hcL'⟩ := own_slice hown4
      obtain ⟨L, hL⟩ : ∃ L, Hid (L = letters a.al) := ⟨_, hid rfl⟩
      rw [← hL.out] at hown4 hcL ⊢
      have hS4 := hid (SoSt.mk (hS1.out.later hb4) (own_base hown4 hz13))
      have hb14 := hS4.out.sub.keep
      have hT4 := hid (hT.out.later (hB1.trans (hb14.mono hB1.size)))
      clear hown4 p0 hw3 c0 c1 c2 f0 f1 f2
      go_wp2_with fail
      refine (members_any R hR16 w4 hT4.out).mono ?_
      rintro e w5 ⟨mv, rfl, hown5, hb5⟩
      obtain ⟨AM, cM, rfl, hcM, hcM'⟩ := own_slice hown5
      obtain ⟨M, hM⟩ : ∃ M, Hid (M = memL R) := ⟨_, hid rfl⟩
      rw [← hM.out] at hown5 hcM ⊢
      have hS5 : Hid (SoSt2 wz w5 gs a.al ((rankN R a.nx.length : Nat) : Int) (.slice none 0 0) (trimEs R (gotTo a 0)) (.slice AL L.length cL) L (.slice AM M.length cM) M) := hid (SoSt2.mk (hS4.out.later hb5) (own_base hown5 hb14.size))
      have hM16 : M.length ≤ 16 := by rw [hM.out]; exact memL_len R
      have hL6 : L.length ≤ 6 := by rw [hL.out]; exact letters_len6 a.al
      have hMR : Hid (∀ q ∈ M, q < a.nx.length ∧ R.testBit q = true) := hid fun q hq => by
        rw [hM.out, memL_mem] at hq
        have h2 := hq.2
        rw [hR.out] at h2
        exact ⟨((accS_bit hok'.out q).1 h2).1, hq.2⟩
      clear hown5
      go_wp2_with fail
      go_loopw [52] (fun iv wx => ∃ (i : Nat) (v : Value), iv = .int .i64 (i : Nat) ∧ i ≤ M.length ∧ SoSt2 wz wx gs a.al ((rankN R a.nx.length : Nat) : Int) v (trimEs R (gotTo a i)) (.slice AL L.length cL) L (.slice AM M.length cM) M) (fun iv _ => M.length - (intOf iv).toNat)
      case atStart => exact ⟨0, _, rfl, by omega, hS5.out⟩
      case round =>
        obtain ⟨i, v, rfl, hi', hs⟩ := hrel
        by_cases hlt : i < M.length
        · obtain ⟨gm, cm', hve, -, -, -, -, hcell⟩ := own_nats hs.mem (by omega)
          injection hve with e1 e2 e3
          subst e1
          subst e3
          have l0 := hcell i hlt
          obtain ⟨hq1, hq2⟩ := hMR.out _ (List.getElem_mem hlt)
          have hsucc : Hid (gotTo a (i + 1) = gotTo a i ++ rowEs L M[i] a.nx[M[i]]) := hid (by
            have h1 : i < (memL (accS a)).length := by rw [← hR.out, ← hM.out]; exact hlt
            have h2 : (memL (accS a))[i] = M[i] := by simp only [hM.out, hR.out]
            rw [gotTo_succ h1 (by rw [h2]; exact hq1), ← hL.out]
            simp only [h2])
          obtain ⟨e1, hrl, hrin⟩ := row_at hok'.out hq1
          rw [← hL.out] at hrl
          obtain ⟨bR, oR, hRe', hbR, hER⟩ := ha1.out.rows (by omega)
          subst hRe'
          obtain ⟨Ai, ci, r0, h1, h2, h3⟩ := hER M[i] hq1
          rw [← hs.so.sub.keep.cell (by simpa using hbR)] at r0
          obtain ⟨q, hq⟩ : ∃ q, q = M[i] := ⟨_, rfl⟩
          obtain ⟨r, hr⟩ : ∃ r, r = a.nx[M[i]] := ⟨_, rfl⟩
          rw [← hr] at r0 h1 h3 hrl hrin hsucc
          rw [← hq] at l0 hq1 hq2 r0 hsucc
          have hrmem : Hid (r = a.nx[q]) := hid (by simp only [hr, hq])
          have p1 := (hpar.out _ hs.so.sub.keep).2.1
          have k1 : (0 : Int) ≤ (i : Int) ∧ (i : Int) < (M.length : Int) := by omega
          have k2 : (0 : Int) ≤ (q : Int) ∧ (q : Int) < (a.nx.length : Int) := by omega
          have hq16 : q < 16 := by omega
          have hs' := hid hs
          replace hcell := hid hcell
          replace hER := hid hER
          replace h3 := hid h3
          replace hrin := hid hrin
          replace e1 := hid e1
          clear hs
          replace hr := hid hr
          replace hq := hid hq
          go_wp2_with fail
          obtain ⟨wo, rfl⟩ : ∃ wo : World, wo = wr := ⟨_, rfl⟩
          go_loopw [62] (fun jv wx => ∃ (j : Nat) (v : Value), jv = .int .i64 (j : Nat) ∧ j ≤ r.length ∧ SoSt2 wz wx gs a.al ((rankN R a.nx.length : Nat) : Int) v (trimEs R (gotTo a i ++ (rowEs L q r).take j)) (.slice AL L.length cL) L (.slice (some ⟨gm, 0, none⟩) M.length cM) M) (fun jv _ => r.length - (intOf jv).toNat)
          case atStart => exact ⟨0, v, rfl, by omega, by rw [List.take_zero, List.append_nil]; exact hs'.out⟩
          case round =>
            clear l0 r0 p1 hs'
            obtain ⟨j, v, rfl, hj, hs⟩ := hrel
            by_cases hjl : j < r.length
            · obtain ⟨bi, oi, hie, hbi, hEi⟩ := h3.out (by omega)
              subst hie
              have i0c := hEi j hjl
              rw [← hs.so.sub.keep.cell (by simpa using hbi)] at i0c
              obtain ⟨t0, t1⟩ := hrin.out _ (List.getElem_mem hjl)
              have hek : Hid ((rowEs L q r).take (j + 1) = (rowEs L q r).take j ++ [⟨(q : Int), (L[j]'(by omega) : Int), r[j]⟩]) := hid (rowEs_take L q r (by omega) hjl)
              obtain ⟨tz, htz⟩ : ∃ tz, Hid (tz = r[j]) := ⟨_, hid rfl⟩
              obtain ⟨l, hll⟩ : ∃ l, Hid (l = L[j]'(by omega)) := ⟨_, hid rfl⟩
              rw [← htz.out] at i0c t0 t1 hek
              rw [← hll.out] at hek
              obtain ⟨tn, rfl⟩ := Int.eq_ofNat_of_zero_le t0
              have htn : tn < a.nx.length := by omega
              have htn16 : tn < 16 := by omega
              have c0 := hEA.out tn (by have := hn3'.out; omega)
              rw [← hs.so.sub.keep.cell (by simpa using hbA)] at c0
              have htb : Hid (R.testBit tn = a.ac[tn]'(by have := hn3'.out; omega)) := hid (by
                rw [Bool.eq_iff_iff, hR.out, accS_bit hok'.out, List.getD_eq_getElem?_getD, List.getElem?_eq_getElem (by have := hn3'.out; omega)]
                exact ⟨fun h => h.2, fun h => ⟨htn, h⟩⟩)
              obtain ⟨tb, htb'⟩ : ∃ tb, Hid (tb = a.ac[tn]'(by have := hn3'.out; omega)) := ⟨_, hid rfl⟩
              rw [← htb'.out] at c0 htb
              have hkept : Hid (keptE R ⟨(q : Int), (l : Int), (tn : Int)⟩ = tb) := hid (by
                unfold keptE
                dsimp only
                rw [Int.toNat_natCast, Int.toNat_natCast, hq2, htb.out, Bool.true_and])
              have htrim : Hid (trimE R ⟨(q : Int), (l : Int), (tn : Int)⟩ = ⟨((rankN R q : Nat) : Int), (l : Int), ((rankN R tn : Nat) : Int)⟩) := hid rfl
              have k3 : (0 : Int) ≤ (j : Int) ∧ (j : Int) < (r.length : Int) := by omega
              have k4 : (0 : Int) ≤ (tn : Int) ∧ (tn : Int) < (a.ac.length : Int) := by have := hn3'.out; omega
              have k5 : (j : Int) < (L.length : Int) := by omega
              have p2 := (hpar.out _ hs.so.sub.keep).2.2
              replace hEi := hid hEi
              obtain ⟨E, hE⟩ : ∃ E, Hid (E = trimEs R (gotTo a i ++ (rowEs L q r).take j)) := ⟨_, hid rfl⟩
              cases tb
              · have hnx : Hid (trimEs R (gotTo a i ++ (rowEs L q r).take (j + 1)) = trimEs R (gotTo a i ++ (rowEs L q r).take j)) := hid (by rw [hek.out, trim_take_miss hkept.out])
                replace hs := hid hs
                go_wp2_with fail
                go_roundw
                case rel => exact ⟨j + 1, v, by go_num, by omega, by rw [hnx.out]; exact hs.out⟩
                case measure => simp [intOf]; omega
              · have hnx : Hid (trimEs R (gotTo a i ++ (rowEs L q r).take (j + 1)) = E ++ [⟨((rankN R q : Nat) : Int), (l : Int), ((rankN R tn : Nat) : Int)⟩]) := hid (by rw [hek.out, trim_take_hit hkept.out, htrim.out, hE.out])
                rw [← hE.out] at hs
                have hEl : E.length ≤ 10000 := by
                  have h1 := trimEs_len R (gotTo a i ++ (rowEs L q r).take j)
                  rw [← hE.out, List.length_append, List.length_take] at h1
                  have h2 : (gotTo a i).length ≤ i * 6 := by
                    unfold gotTo
                    refine Nat.le_trans (flat_len6 a.al (fun q => a.nx.getD q []) _) (Nat.mul_le_mul_right 6 ?_)
                    rw [List.length_take]
                    omega
                  omega
                obtain ⟨gl, cl, hve, -, -, -, -, hlcell⟩ := own_nats hs.so.list (by omega)
                injection hve with e1' e2' e3'
                subst e1'
                subst e3'
                have l0 := hlcell j (by omega)
                rw [← hll.out] at l0
                have c2 := hs.so.sub.blk.cell 2
                simp only [List.getElem?_toArray, List.getElem?_cons_zero, List.getElem?_cons_succ] at c2
                have q0 := GK.BI.cell c2
                have q1 := GK.BI.cell l0
                replace hs := hid hs
                replace hlcell := hid hlcell
                go_upto_region 19 with fail
                clear c2 l0 i0c c0 p2
                refine GK.wp_region 14 [14, 15, 16] 200 (KeepB fun _ => False) (GK.BI wr) (fun i u _ => u = .int .i64 (((if i = 4 then rankN R q else rankN R tn) : Nat) : Int)) (by kernel_rfl) (by kernel_rfl) (GK.BI.way wr) (by decide) (Below.refl _ _).drew ?_
                simp only [List.take_succ_cons, List.take_zero]
                (repeat (refine GK.grow_quiet wr (by rfl) (by rfl) ?_; intro K hK; go_big_quiet_op; go_big_quiet_on))
                refine GK.grow_val (.int .i64 ((rankN R q : Nat) : Int)) (by rfl) rfl (fun m wq hm2 hbq _ => ?_) ?_
                · go_simp
                  exact ⟨rfl, (implRank_any R q wq hR16 (by omega)).mono fun e w' ⟨h1, h2⟩ => ⟨h1, GK.BI.after hbq (by rw [← h2]; exact Below.refl _ _)⟩⟩
                simp only [Act.put, List.setIfInBounds_toArray, List.set_cons_zero, List.set_cons_succ]
                (repeat (refine GK.grow_quiet wr (by rfl) (by rfl) ?_; intro K hK; go_big_quiet_op; go_big_quiet_on))
                refine GK.grow_val (.int .i64 ((rankN R tn : Nat) : Int)) (by rfl) rfl (fun m wq hm2 hbq _ => ?_) ?_
                · go_simp
                  exact ⟨rfl, (implRank_any R tn wq hR16 (by omega)).mono fun e w' ⟨h1, h2⟩ => ⟨h1, GK.BI.after hbq (by rw [← h2]; exact Below.refl _ _)⟩⟩
                simp only [Act.put, List.setIfInBounds_toArray, List.set_cons_zero, List.set_cons_succ]
                (repeat (refine GK.grow_quiet wr (by rfl) (by rfl) ?_; intro K hK; go_big_quiet_op; go_big_quiet_on))
                refine GK.grow_new (K := fun _ => False) (by rfl) _ (fun b => .slice (some ⟨b, 0, none⟩) 1 1) 66 #[.int .i64 ((rankN R q : Nat) : Int), .int .i64 (l : Nat), .int .i64 ((rankN R tn : Nat) : Int)] (fun _ => by go_simp) rfl (fun _ _ o h => GK.BI.alloc o h) (fun _ _ h => GK.BI.size h) (fun _ h => h.elim) (fun bb hbb2 => ?_)
                simp only [Act.put, List.setIfInBounds_toArray, List.set_cons_zero, List.set_cons_succ]
                refine GK.grow_nil ?_
                intro w6 hw6 hf
                obtain ⟨g', hge, hge2, hblk6⟩ := hf _ List.mem_cons_self
                cases hge
                clear hf
                simp only [List.filterMap_cons, List.filterMap_nil, List.getElem?_cons_zero, List.getElem?_cons_succ]
                replace hw6 : Below wr.heap.size wr w6 := hw6
                have hS6 := hid (hs.out.later hw6)
                have hown6 := hS6.out.so.sub.own
                have hbl6 := hS6.out.so.sub.blk.lt
                have ag : v.ownBlock ≠ some gs := fun e => own_ne hS6.out.so.sub.own hS6.out.so.sub.blk (by decide) gs e rfl
                have c2 := hS6.out.so.sub.blk.cell 2
                have f2 := hS6.out.so.sub.blk.frozen 2
                simp only [List.getElem?_toArray, List.getElem?_cons_zero, List.getElem?_cons_succ] at c2
                clear q0 q1
                refine wpList_append_lies _ (by rfl) _ _ 28 (by rfl) wz.heap.size 66 i0 (.agg #[.int .i64 0, .int .i64 0, .int .i64 0]) 3 24 Tryd.underlying28 hi0 hz0' hz1' hz2' rfl (by decide) v E.length (edCells E) (by rfl) hown6 ⟨bb, 0, none⟩ 1 1 [.int .i64 ((rankN R q : Nat) : Int), .int .i64 (l : Nat), .int .i64 ((rankN R tn : Nat) : Int)] (by rfl) (by rfl) (World.news_of_block hblk6) ?c1 (by omega) ?c3 ?c4 ?c5 w6.heap.size rfl ?_
                case c1 => simp [Value.oneCell']
                case c3 => unfold maxLen; omega
                case c4 => omega
                case c5 => have := hS6.out.so.sub.keep.size; omega
                intro gg cap w7 hown7 hgrow hat hlt7
                have c2' : w7.cell? ⟨gs, 2, none⟩ = some v := by rw [hgrow.cell_far _ (by simpa using hbl6) (Ne.symm ag)]; exact c2
                have f2' : w7.frozen? ⟨gs, 2, none⟩ = false := by rw [hgrow.frozen_far _ (by simpa using hbl6) (Ne.symm ag)]; exact f2
                have hfin := hid (hS6.out.add (x := ⟨((rankN R q : Nat) : Int), (l : Int), ((rankN R tn : Nat) : Int)⟩) hown7 hgrow)
                have hz7 := hgrow.size
                clear hown6 hown7 hgrow c2 f2
                go_wp2_with fail
                go_roundw
                case rel => exact ⟨j + 1, _, by go_num, by omega, by rw [hnx.out]; exact hfin.out⟩
                case measure => simp [intOf]; omega
            · obtain rfl : j = r.length := by omega
              have hfin : Hid (trimEs R (gotTo a i ++ (rowEs L q r).take r.length) = trimEs R (gotTo a (i + 1))) := hid (by
                rw [hsucc.out, List.take_of_length_le (by rw [rowEs_len]; omega)])
              replace hs := hid hs
              go_wp2_with fail
              go_roundw
              case rel => exact ⟨i + 1, v, by go_num, by omega, by rw [← hfin.out]; exact hs.out⟩
              case measure => simp [intOf]; omega
        · obtain rfl : i = M.length := by omega
          have hall : Hid (trimEs R (gotTo a M.length) = (soS a).es) := hid (by
            have h1 : M.length = (memL (accS a)).length := by rw [hM.out, hR.out]
            rw [h1, hR.out, gotTo_all hok'.out, soS_eq hso.out]
            rfl)
          rw [hall.out] at hs
          obtain ⟨Av, cv, hve, hv1, hv2⟩ := own_slice hs.so.sub.own
          subst hve
          have hbr := hs.so.sub.keep
          have c0 := hs.so.sub.blk.cell 0
          have c1 := hs.so.sub.blk.cell 1
          have c2 := hs.so.sub.blk.cell 2
          have hrb3 := hrb.out.below hbr hlt1
          have d0 := hrb3.cell 0
          have d1 := hrb3.cell 1
          have d2 := hrb3.cell 2
          have f0 := hrb3.frozen 0
          have f1 := hrb3.frozen 1
          have f2 := hrb3.frozen 2
          simp only [List.getElem?_toArray, List.getElem?_cons_zero, List.getElem?_cons_succ] at c0 c1 c2 d0 d1 d2
          have hlt3 := hrb3.lt
          have hzw1 := hB1.size
          have hox : OwnEds wr wz.heap.size (.slice Av (soS a).es.length cv) (soS a).es := hs.so.sub.own
          have hal2 : (soS a).al = a.al := soS_al hso.out
          have hst2 : (soS a).st = ((rankN R a.nx.length : Nat) : Int) := by rw [soS_eq hso.out, hR.out]; rfl
          obtain ⟨x, hx⟩ : ∃ x, x = soS a := ⟨_, rfl⟩
          rw [← hx] at hox hal2 hst2 c2 ⊢
          rw [← hal2] at c0
          rw [← hst2] at c1
          have hfin : Hid (SoOwn w (soS a) (soOk a) (.returned (.tuple #[.agg #[.int .i64 x.al, .int .i64 x.st, .slice Av x.es.length cv], .bool true])) (((wr.setCell ⟨w.heap.size + 1, 0, none⟩ (.int .i64 x.al)).setCell ⟨w.heap.size + 1, 1, none⟩ (.int .i64 x.st)).setCell ⟨w.heap.size + 1, 2, none⟩ (.slice Av x.es.length cv))) := hid (by
            rw [hso.out, ← hx]
            refine ⟨Av, cv, rfl, ?_, ?_⟩
            · have hne : ∀ g, (Value.slice Av x.es.length cv).ownBlock = some g → g ≠ w.heap.size + 1 := fun g hg => by
                have := (hox.lt g hg).1
                omega
              have hk : KeepB (fun b => b = w.heap.size + 1) wr (((wr.setCell ⟨w.heap.size + 1, 0, none⟩ (.int .i64 x.al)).setCell ⟨w.heap.size + 1, 1, none⟩ (.int .i64 x.st)).setCell ⟨w.heap.size + 1, 2, none⟩ (.slice Av x.es.length cv)) := (((KeepB.refl _ wr).setCell _ _ (by simp)).setCell _ _ (by simp)).setCell _ _ (by simp)
              exact own_base (own_keep hox hk hne) (by omega)
            · exact (((hB1.trans (hbr.mono hB1.size)).setCell (by simp) _).setCell (by simp) _).setCell (by simp) _)
          replace hs := hid hs
          replace hx := hid hx
          clear hrb3 hox hal2 hst2
          go_wp2
          refine bodyPost_ret (v := .tuple #[.agg #[.int .i64 x.al, .int .i64 x.st, .slice Av x.es.length cv], .bool true]) (by simp [results, Tryd.results16, go_sem, d0, d1, d2]) rfl ?_
          exact hfin.out

end Go.Proofs.YtkoganldcmhopaaDoor

/- The two tables of math/bits that the cards list: what a walk reads of them, and a world that holds them. -/
namespace Go.Proofs.YtkoganldcmhopaaDoor
open Go.ChangeShapes Go.WideShapes Go.ChangeAt Go.RowKit AG

theorem g64 : Tryd.prog.globalNamed "math/bits.deBruijn64tab" = some 1 := by kernel_rfl
theorem g64Type : (Tryd.prog.globals[1]?).map (·.type) = some 177 := by kernel_rfl
theorem g64Under : Tryd.prog.underlying 177 = some (.array 64 5) := by kernel_rfl
theorem u8Under : Tryd.prog.underlying 5 = some (.int .u8) := by kernel_rfl
theorem u8Cells : Tryd.prog.cellsOf 5 = 1 := by kernel_rfl
theorem g64Cells : Tryd.prog.cellsOf 177 = 64 := by kernel_rfl

def layTab (zs : List Nat) : Obj → Obj
  | .cells _ t frozen => .cells (zs.map fun n => Value.int .u8 (Int.ofNat n)).toArray t frozen
  | o => o

theorem tab_of_laid3 {W : World} (h : laidMetH Tryd.prog [("math/bits.deBruijn32tab", Rows.laid_math_bits_deBruijn32tab), ("math/bits.deBruijn64tab", Rows.laid_math_bits_deBruijn64tab), ("internal/strconv.uint64pow10", Rows.laid_internal_strconv_uint64pow10)] W) : Tab W := by
  have h1 : laidMet Tryd.prog [("math/bits.deBruijn32tab", Rows.laid_math_bits_deBruijn32tab), ("math/bits.deBruijn64tab", Rows.laid_math_bits_deBruijn64tab), ("internal/strconv.uint64pow10", Rows.laid_internal_strconv_uint64pow10)] W := h
  have h2 : laidMet Tryd.prog (("math/bits.deBruijn64tab", Lib.tabData .u8 (Lib.deBruijn64tab.map Int.ofNat)) :: [("internal/strconv.uint64pow10", Rows.laid_internal_strconv_uint64pow10)]) W := laidMet.tail h1
  have h3 := Lib.tabIs_of_head g64 g64Type g64Under u8Under u8Cells g64Cells h2
  intro j hj
  rw [h3.cell g64 j (by simpa using hj)]
  simp [List.getD, hj]
def layTabW (zs : List Nat) : Obj → Obj
  | .cells _ t frozen => .cells (zs.map fun n => Value.int .u64 (Int.ofNat n)).toArray t frozen
  | o => o
/-- The same, and the table of powers of ten. -/
noncomputable def laidWorld3 (os : Os) : World :=
  { World.holding Tryd.prog os ⟨#[], #[], []⟩ with heap := (((World.holding Tryd.prog os ⟨#[], #[], []⟩).heap.modify 0 (layTab Lib.deBruijn32tab)).modify 1 (layTab Lib.deBruijn64tab)).modify 2 (layTabW ((List.range 20).map fun i => 10 ^ i)) }

end Go.Proofs.YtkoganldcmhopaaDoor

/- The reference's l5Order. -/
namespace Go.Proofs.YtkoganldcmhopaaDoor
open Go.RowKit Go.BigFrame Go.Maps AG

/-- A list of numbers under way. -/
structure OrdSt (w0 wr : World) (v : Value) (ns : List Nat) : Prop where
  below : Below w0.heap.size w0 wr
  own : wr.ownsRow w0.heap.size 3 1 v ns.length (natVals ns)
theorem OrdSt.later {w0 wr w' : World} {v : Value} {ns : List Nat} (h : OrdSt w0 wr v ns) (hb : Below wr.heap.size wr w') : OrdSt w0 w' v ns := ⟨h.below.trans (hb.mono h.below.size), own_later_ h.own hb⟩
theorem OrdSt.app {w0 wr w1 : World} {v v' : Value} {ns : List Nat} {o : Obj} {x : Nat} (h : OrdSt w0 wr v ns) (hg : (wr.alloc o).grownBy w1 v.ownBlock)
    (ho : w1.ownsRow w0.heap.size 3 1 v' (ns.length + 1) (natVals ns ++ [.int .i64 (x : Nat)])) : OrdSt w0 w1 v' (ns ++ [x]) := by
  have hkA : KeepB (fun b => v.ownBlock = some b) wr w1 := ((KeepB.refl _ wr).alloc o).grown hg fun k hk _ => hk
  refine ⟨hkA.below h.below h.below.size fun b e => own_block h.own b e, ?_⟩
  rw [List.length_append]
  unfold natVals at ho ⊢
  simpa using ho
theorem OrdSt.new (w0 : World) (x : Nat) : OrdSt w0 (w0.alloc (.cells #[.int .i64 (x : Nat)] 3)) (.slice (some ⟨w0.heap.size, 0, none⟩) 1 1) [x] :=
  ⟨(Below.refl _ _).alloc (Nat.le_refl _) _, ⟨rfl, .inr ⟨w0.heap.size, 1, #[.int .i64 (x : Nat)], rfl, Nat.le_refl _, heap_alloc_self _ _, Nat.le_refl _, by unfold maxLen; omega, rfl, rfl⟩⟩⟩
/-- A row of a table, read. -/
theorem row_read {w0 : World} {A : Option Addr} {rs : List (List Int)} {q : Nat} (h : RowsAt w0 w0.heap.size A rs) (hq : q < rs.length) :
    ∃ (b o : Nat) (r : List Int) (Ai : Option Addr) (ci : Nat), A = some ⟨b, o, none⟩ ∧ b < w0.heap.size ∧ Hid (r = rs[q]) ∧ Hid (∀ wr, Below w0.heap.size w0 wr → wr.cell? ⟨b, o + q, none⟩ = some (.slice Ai r.length ci)) ∧ r.length ≤ ci ∧ ci ≤ 9223372036854775807 ∧ Hid (IntsAt w0 w0.heap.size Ai r) := by
  obtain ⟨b, o, hA, hlt, hE⟩ := h (by omega)
  obtain ⟨Ai, ci, h1, h2, h3, h4⟩ := hE q hq
  exact ⟨b, o, rs[q], Ai, ci, hA, hlt, hid rfl, hid fun wr hb => (hb.cell (p := ⟨b, o + q, none⟩) (by simpa using hlt)).trans h1, h2, h3, hid h4⟩
end Go.Proofs.YtkoganldcmhopaaDoor

/- The reference's l5Trim. -/
namespace Go.Proofs.YtkoganldcmhopaaDoor
open Go.RowKit Go.BigFrame Go.Maps AG

/-- No list. -/
def nilF : Value × List Value := (.slice none 0 0, [])
theorem L6.start (w1 : World) (al : Int) : L6 w1 (w1.alloc (.cells #[.int .i64 al, .slice none 0 0, .slice none 0 0] 26)) w1.heap.size al (.slice none 0 0) [] (.slice none 0 0) [] (nilF :: famOf []) := by
  refine ⟨(Below.refl _ _).alloc (Nat.le_refl _) _, Nat.le_refl _, ⟨fun f hf => ?_, ?_⟩, World.ownsRow_nil _ _ _ _, World.ownsRow_nil _ _ _ _, Blk.new _ _ _⟩
  · change f ∈ [nilF] at hf
    rw [List.mem_singleton] at hf
    subst hf
    exact World.ownsRow_nil _ _ _ _
  · exact List.pairwise_singleton _ _

end Go.Proofs.YtkoganldcmhopaaDoor

/- The reference's l5Same. -/
namespace Go.Proofs.YtkoganldcmhopaaDoor
open Go.RowKit Go.BigFrame Go.Maps AG

/-- What is known of an automaton's rows. -/
structure RowP (a : Au) (nx : Nat → Nat → Nat) (L : List Nat) : Prop where
  row : ∀ q (h : q < a.nx.length), (a.nx[q]).length = L.length
  at_ : ∀ q (h : q < a.nx.length) k (hk : k < L.length) (hk' : k < (a.nx[q]).length), (a.nx[q])[k] = ((nx q L[k] : Nat) : Int)
  go : ∀ q, q < a.nx.length → ∀ l, nx q l < a.nx.length
  six : L.length ≤ 6
  sig : ∀ (c : List Nat) p q, p < a.nx.length → q < a.nx.length → (sigA a c p = sigA a c q ↔ c.getD p 0 = c.getD q 0 ∧ ∀ l ∈ L, c.getD (nx p l) 0 = c.getD (nx q l) 0)
  sigF : ∀ (c : List Nat) q, q < a.nx.length → sigA a c q = c.getD q 0 :: L.map fun l => c.getD (nx q l) 0
theorem rowP {a : Au} (hok : auOk a = true) : RowP a (goA a) (letters a.al) :=
  ⟨fun q h => (row_at hok h).2.1, fun q h k hk hk' => (goA_at hok h hk hk').symm, fun q h l => goA_lt hok h, letters_len6 _, fun c p q hp hq => sigA_eq hok c hp hq, fun c q hq => by
    obtain ⟨e1, e2, -⟩ := row_at hok hq
    unfold sigA
    rw [e1]
    congr 1
    refine List.ext_getElem (by simp [e2]) fun k h1 h2 => ?_
    rw [List.getElem_map, List.getElem_map]
    have hk : k < (letters a.al).length := by simpa using h2
    have hk' : k < (a.nx[q]).length := by rw [e2]; exact hk
    rw [← goA_at hok hq hk hk']
    rfl⟩
theorem getD_at {c : List Nat} {i : Nat} (h : i < c.length) : c.getD i 0 = c[i] := by
  rw [List.getD_eq_getElem?_getD, List.getElem?_eq_getElem h]
  rfl

end Go.Proofs.YtkoganldcmhopaaDoor

/- The reference's l5Refine. -/
namespace Go.Proofs.YtkoganldcmhopaaDoor
open Go.RowKit Go.BigFrame Go.Maps AG

def idxL {α : Type} [DecidableEq α] (l : List α) (x : α) : Nat := l.idxOf x
theorem idxL_lt {α : Type} [DecidableEq α] {l : List α} {x : α} (h : x ∈ l) : idxL l x < l.length := List.idxOf_lt_length_iff.2 h
theorem numb_snocL {α : Type} [DecidableEq α] (ks : List α) (k : α) : numb (ks ++ [k]) = numb ks ++ [if k ∈ ks then idxL (dd ks) k else (dd ks).length] := numb_snoc ks k
theorem keys_take {a : Au} (c : List Nat) {i : Nat} (hi : i < a.nx.length) : (keysA a c).take (i + 1) = (keysA a c).take i ++ [sigA a c i] := by
  rw [List.take_succ_eq_append_getElem (by rw [keysA_len]; exact hi), keysA_get]
end Go.Proofs.YtkoganldcmhopaaDoor

/- The reference's l5Minimal. -/
namespace Go.Proofs.YtkoganldcmhopaaDoor
open Go.RowKit Go.BigFrame Go.Maps AG

def MinsTo (a : Au) (w : World) (e : Ending) (w' : World) : Prop :=
  Below w.heap.size w w' ∧ ∃ v1 v2 xs, e = .returned (.agg #[.int .i64 a.al, v1, v2]) ∧ AuOwn w' w.heap.size v1 v2 (minA a) xs
/-- What is known of the classes of an automaton. -/
structure QuoP (x : Au) (nx : Nat → Nat → Nat) (L : List Nat) : Prop where
  len : (clsA x).length = x.nx.length
  rep : ∀ j, j < clsC x → j ∈ clsA x ∧ (clsA x).idxOf j = repA x j ∧ repA x j < x.nx.length
  row : ∀ j, j < clsC x → quotRow x j = (L.map fun l => cA x (nx (repA x j) l)).map fun (n : Nat) => (n : Int)
  cls : ∀ t (h : t < (clsA x).length), (clsA x)[t] = cA x t
  le : clsC x ≤ x.nx.length
theorem quoP {x : Au} (hok : auOk x = true) : QuoP x (goA x) (letters x.al) := by
  refine ⟨clsA_len x, fun j hj => ⟨numb_hits _ hj, rfl, (repA_lt hj).1⟩, fun j hj => ?_, fun t h => clsA_get x h, clsC_le x⟩
  have hq := (repA_lt hj).1
  obtain ⟨e1, e2, e3⟩ := row_at hok hq
  unfold quotRow
  rw [e1]
  refine List.ext_getElem (by simp [e2]) fun k h1 h2 => ?_
  rw [List.getElem_map, List.getElem_map, List.getElem_map]
  have hk : k < (letters x.al).length := by simpa using h2
  have hk' : k < (x.nx[repA x j]).length := by rw [e2]; exact hk
  rw [← goA_at hok hq hk hk']
  rfl

end Go.Proofs.YtkoganldcmhopaaDoor

/- The reference's MinimizeAutomaton and IsMinimal. -/
namespace Go.Proofs.YtkoganldcmhopaaDoor
open Go.RowKit Go.BigFrame Go.Maps AG

noncomputable def minX (a : Au) : Au := if auOk a = true then minA a else auNil
end Go.Proofs.YtkoganldcmhopaaDoor

/- The library's strconv.Itoa at small numbers. -/
namespace Go.Proofs.YtkoganldcmhopaaDoor
open Go.RowKit Go.BigFrame AG

theorem ba_of (x : ByteArray) (l : List UInt8) (h : x.data.toList = l) : x = baOf l := by
  subst h
  cases x
  simp [baOf]
theorem decL_dec {i : Nat} (h : i < 100) : Lib.decDigits i = decL i := by
  unfold decL
  by_cases h10 : i < 10
  · rw [if_pos h10, Lib.decDigits_one h10]
  · rw [if_neg h10, Lib.decDigits_two h10 h]

set_option maxHeartbeats 2000000 in
set_option maxRecDepth 100000 in
theorem small_any (i : Nat) (h : i < 100) (w : World) :
    Calls Tryd.prog 207 #[.int .i64 (i : Nat)] w fun e w' => e = .returned (.string (baOf (decL i))) ∧ w = w' := by
  have hd := hid (decL_dec h)
  go_enter Tryd.func207, Tryd.ntmps207
  go_name_bytes_deep 45 SM hSM
  have eSM : SM = Lib.smalls := by rw [← hSM]; decide +kernel
  subst eSM
  clear hSM
  go_name_bytes_deep 30 DG hDG
  have eDG : DG = Lib.digits36 := by rw [← hDG]; decide +kernel
  subst eDG
  clear hDG
  by_cases h10 : i < 10
  · have hsl : ∀ w, (Instr.slice 9 (.string Lib.digits36) (some (.int .i64 (i : Int))) (some (.int .i64 ((i : Int) + 1))) none).run Tryd.prog w = .ok (.string (Lib.digits36.extract i (i + 1))) w := fun w => by
      rw [run_slice_string w 9 Lib.digits36 .i64 .i64 _ _ Tryd.underlying9 (by omega) (by omega) (by rw [Lib.digits36_size]; omega), show ((i : Int)).toNat = i by omega, show ((i : Int) + 1).toNat = i + 1 by omega]
    go_wp2
    go_ret
    refine ⟨?_, by first | rfl | trivial⟩
    show Ending.returned (Value.string (Lib.digits36.extract i (i + 1))) = _
    rw [ba_of (Lib.digits36.extract i (i + 1)) (decL i) (by rw [Lib.extract_data, ← hd.out]; exact Lib.digits36_piece h10)]
  · have hsl : ∀ w, (Instr.slice 9 (.string Lib.smalls) (some (.int .i64 ((i : Int) * 2))) (some (.int .i64 ((i : Int) * 2 + 2))) none).run Tryd.prog w = .ok (.string (Lib.smalls.extract (i * 2) (i * 2 + 2))) w := fun w => by
      rw [run_slice_string w 9 Lib.smalls .i64 .i64 _ _ Tryd.underlying9 (by omega) (by omega) (by rw [Lib.smalls_size]; omega), show ((i : Int) * 2).toNat = i * 2 by omega, show ((i : Int) * 2 + 2).toNat = i * 2 + 2 by omega]
    go_wp2
    go_ret
    refine ⟨?_, by first | rfl | trivial⟩
    show Ending.returned (Value.string (Lib.smalls.extract (i * 2) (i * 2 + 2))) = _
    rw [ba_of (Lib.smalls.extract (i * 2) (i * 2 + 2)) (decL i) (by rw [Lib.extract_data, ← hd.out]; exact Lib.smalls_piece h10 h)]

set_option maxHeartbeats 2000000 in
set_option maxRecDepth 100000 in
theorem formatInt_any (i : Nat) (h : i < 100) (w : World) :
    Calls Tryd.prog 203 #[.int .i64 (i : Nat), .int .i64 10] w fun e w' => e = .returned (.string (baOf (decL i))) ∧ w = w' := by
  have k1 : (0 : Int) ≤ (i : Int) := by omega
  have k2 : (i : Int) < 100 := by omega
  go_enter Tryd.func203, Tryd.ntmps203
  go_wp2_with fail
  refine (small_any i h w).mono ?_
  rintro e w' ⟨rfl, rfl⟩
  go_wp2_with fail
  go_ret
  exact ⟨rfl, by first | rfl | trivial⟩
set_option maxHeartbeats 2000000 in
set_option maxRecDepth 100000 in
theorem itoaIn_any (i : Nat) (h : i < 100) (w : World) :
    Calls Tryd.prog 187 #[.int .i64 (i : Nat)] w fun e w' => e = .returned (.string (baOf (decL i))) ∧ w = w' := by
  go_enter Tryd.func187, Tryd.ntmps187
  go_wp2_with fail
  refine (formatInt_any i h w).mono ?_
  rintro e w' ⟨rfl, rfl⟩
  go_wp2_with fail
  go_ret
  exact ⟨rfl, by first | rfl | trivial⟩
set_option maxHeartbeats 2000000 in
set_option maxRecDepth 100000 in
theorem itoa_any (i : Nat) (h : i < 100) (w : World) :
    Calls Tryd.prog 157 #[.int .i64 (i : Nat)] w fun e w' => e = .returned (.string (baOf (decL i))) ∧ w = w' := by
  go_enter Tryd.func157, Tryd.ntmps157
  go_wp2_with fail
  refine (itoaIn_any i h w).mono ?_
  rintro e w' ⟨rfl, rfl⟩
  go_wp2_with fail
  go_ret
  exact ⟨rfl, by first | rfl | trivial⟩

end Go.Proofs.YtkoganldcmhopaaDoor

/- The program's classesOf. -/
namespace Go.Proofs.YtkoganldcmhopaaDoor
open Go.RowKit Go.BigFrame Go.Maps AG

theorem idxL_new {α : Type} [DecidableEq α] {l : List α} {x : α} (h : x ∉ l) : idxL (l ++ [x]) x = l.length := by
  unfold idxL
  rw [List.idxOf_append, if_neg h]
  simp
theorem idxL_old {α : Type} [DecidableEq α] {l m : List α} {x : α} (h : x ∈ l) : idxL (l ++ m) x = idxL l x := idx_pre h
theorem keyS_ne {x y : List UInt8} (h : x ≠ y) : Lit.string x ≠ Lit.string y := fun e => by
  injection e with e
  exact h e
/-- A map that has the numbers of the keys. -/
structure MapIxS (D : DataW Unit) (ks : List (List UInt8)) : Prop where
  isMap : Maps.IsMap D
  tidy : Maps.Tidy D
  has : ∀ x, Maps.has D (.string x) = decide (x ∈ ks)
  at_ : ∀ x ∈ ks, D.atKey (.string x) (.lit (.int .i64 0)) = .lit (.int .i64 ((idxL ks x : Nat) : Int))
  size : Maps.size D = ks.length
theorem MapIxS.empty : MapIxS (.map []) [] := ⟨Maps.isMap_empty, Maps.tidy_empty, fun T => by simp; rfl, fun T h => (by cases h), rfl⟩
theorem MapIxS.put {D : DataW Unit} {ks : List (List UInt8)} (h : MapIxS D ks) {k : List UInt8} (hk : k ∉ ks) : MapIxS (D.put (.string k) (.lit (.int .i64 ((ks.length : Nat) : Int)))) (ks ++ [k]) := by
  have hlit : WideAt.IsKeyLit (Lit.string k) := trivial
  refine ⟨h.isMap.put _ _, h.tidy.put hlit _, fun x => ?_, fun x hx => ?_, ?_⟩
  · by_cases e : x = k
    · subst e
      rw [Maps.has_put_same h.isMap hlit]
      simp
    · rw [Maps.has_put_other (keyS_ne e), h.has x]
      simp [e]
  · by_cases e : x = k
    · subst e
      rw [Maps.atKey_put_same h.isMap hlit, idxL_new hk]
    · have hx' : x ∈ ks := by
        rcases List.mem_append.1 hx with h | h
        · exact h
        · exact absurd (List.mem_singleton.1 h) e
      rw [Maps.atKey_put_other (keyS_ne e), h.at_ x hx', idxL_old hx']
  · rw [Maps.size_put h.tidy, h.has k, decide_eq_false hk, h.size]
    simp

/-- The keys as texts. -/
def keysT (a : Au) (c : List Nat) (q : Nat) : List (List UInt8) := ((keysA a c).take q).map keyL
theorem keysT_succ {a : Au} (c : List Nat) {q : Nat} (hq : q < a.nx.length) : keysT a c (q + 1) = keysT a c q ++ [keyL (sigA a c q)] := by
  unfold keysT
  rw [keys_take c hq, List.map_append]
  rfl
theorem keysT_len {a : Au} (c : List Nat) {q : Nat} (hq : q ≤ a.nx.length) : (keysT a c q).length = q := by
  unfold keysT
  rw [List.length_map, List.length_take, keysA_len]
  omega
theorem keysT_all {a : Au} {c : List Nat} (h : ∀ x ∈ c, x ≤ 12) : numb (keysT a c a.nx.length) = refA a c ∧ (dd (keysT a c a.nx.length)).length = refC a c := by
  unfold keysT
  rw [List.take_of_length_le (by rw [keysA_len]; exact Nat.le_refl _)]
  exact key_numb h
def nxtF (a : Au) (c : List Nat) (q p : Nat) : Nat := if p < q then (numb (keysT a c q)).getD p 0 else 0
theorem nxtF_old {a : Au} {c : List Nat} {q : Nat} (hq : q < a.nx.length) (p : Nat) (hp : p ≠ q) : nxtF a c (q + 1) p = nxtF a c q p := by
  unfold nxtF
  by_cases h : p < q
  · rw [if_pos h, if_pos (by omega), keysT_succ c hq, numb_snocL]
    rw [List.getD_eq_getElem?_getD, List.getD_eq_getElem?_getD, List.getElem?_append_left (by rw [numb_len, keysT_len c (by omega)]; exact h)]
  · rw [if_neg h, if_neg (by omega)]
theorem nxtF_new {a : Au} {c : List Nat} {q : Nat} (hq : q < a.nx.length) : nxtF a c (q + 1) q = if keyL (sigA a c q) ∈ keysT a c q then idxL (dd (keysT a c q)) (keyL (sigA a c q)) else (dd (keysT a c q)).length := by
  unfold nxtF
  rw [if_pos (by omega), keysT_succ c hq, numb_snocL]
  have hl : (numb (keysT a c q)).length = q := by rw [numb_len, keysT_len c (by omega)]
  rw [List.getD_eq_getElem?_getD, List.getElem?_append_right (by omega), hl]
  simp
theorem nxtF_all {a : Au} {c : List Nat} (h : ∀ x ∈ c, x ≤ 12) {p : Nat} (hp : p < a.nx.length) : nxtF a c a.nx.length p = (refA a c).getD p 0 := by
  unfold nxtF
  rw [if_pos hp, (keysT_all h).1]

theorem map_far {H : Type} {w : World} {P : Program} {k : TypeId} {R : Value → Option (DataW H × List MemPlace)} {b n : Nat} {D : DataW H} (h : w.ownsMap P k R b n D) (p : Addr) (v : Value) (hne : b ≠ p.block) : (w.setCell p v).ownsMap P k R b n D := by
  obtain ⟨es, clock, hb, F, hs, hD⟩ := h
  exact ⟨es, clock, (Below.heap_setCell _ _ _ _ hne).trans hb, F, hs, hD⟩

def ClsPost (a : Au) (w : World) (e : Ending) (w' : World) : Prop :=
  ∃ g, e = .returned (.slice (some ⟨g, 0, none⟩) a.nx.length a.nx.length) ∧ w.heap.size ≤ g ∧ NatsAt w' w'.heap.size (some ⟨g, 0, none⟩) (clsA a) ∧ Below w.heap.size w w'

theorem mapLawS : Keyed Tryd.prog 9 := string_keyed Tryd.underlying9

set_option maxRecDepth 100000 in
set_option maxHeartbeats 8000000 in
theorem classesOf_any (a : Au) (A B : Option Addr) (c d : Nat) (w : World) (hok : auOk a = true) (ha : AuAt w A c B d a) :
    Calls Tryd.prog 99 #[a.val A c B d] w (ClsPost a w) := by
  obtain ⟨-, hn1, hn12, hn3, -⟩ := (auOk_iff a).1 hok
  have hmm := @run_makeMap Tryd.prog
  obtain ⟨i0, hi, hz0', hz1, hz2⟩ := info_parts infoInt
  have hmk := fun W => run_make_rowN (P := Tryd.prog) 52 3 i0 _ Tryd.underlying52 hi hz0' .i64 .i64 a.nx.length a.nx.length (Nat.le_refl _) (by rw [hz2]; omega) (by omega) W
  rw [hz1] at hmk
  clear hz1 hz0' hz2 hi
  obtain ⟨w0, hw0, hz0, hB0, hS⟩ := boxed w #[Value.int IntKind.i64 a.al, Value.slice A a.nx.length c, Value.slice B a.ac.length d] 26
  have ha0 := hid (ha.later hB0)
  have p1 := hS 1 _ rfl _ (Below.refl _ _)
  have hSp := hid (fun w' (hb : Below w0.heap.size w0 w') => And.intro (hS 1 _ rfl w' (hb.mono hz0)) (hS 2 _ rfl w' (hb.mono hz0)))
  obtain ⟨L, nx, hP⟩ : ∃ L nx, Hid (RowP a nx L) := ⟨_, _, hid (rowP hok)⟩
  have hsix := hP.out.six
  have hok' := hid hok
  have hcn : a.nx.length * 1 = a.nx.length := Nat.mul_one _
  rw [hcn] at hmk
  have hzero : Hid (NumsIn (madeCells #[Value.int IntKind.i64 0] a.nx.length) a.nx.length (fun _ => 0)) := hid (by
    refine ⟨by rw [size_madeCells], fun p hp => ?_⟩
    have h1 := toList_madeCells_one (Value.int IntKind.i64 0) a.nx.length
    rw [← Array.getElem?_toList, h1, List.getElem?_replicate, if_pos hp]
    rfl)
  have hacl : a.ac.length = a.nx.length := hn3
  replace hacl := hid hacl
  clear hok hS hn3 hcn
  replace ha := hid ha
  unfold AG.Au.val
  go_enter Tryd.func99, Tryd.ntmps99
  go_upto_region 2 with fail
  obtain ⟨w2, hw2⟩ : ∃ w2, w0.alloc (.cells (madeCells #[Value.int IntKind.i64 0] a.nx.length) 3) = w2 := ⟨_, rfl⟩
  have hblk2 : Blk w2 w0.heap.size 3 (madeCells #[Value.int IntKind.i64 0] a.nx.length) := by rw [← hw2]; exact Blk.new _ _ _
  have hB2' : Below w0.heap.size w0 w2 := by rw [← hw2]; exact (Below.refl _ _).alloc (Nat.le_refl _) _
  rw [hw2]
  clear hw2 p1 hw0
  have hbl2 := hid hblk2
  have hz2 := hblk2.lt
  clear hblk2
  go_wp2_with fail
  go_loopw [21] (fun qv wr => ∃ (q : Nat) (ds : Array Value), qv = .int .i64 (q : Nat) ∧ q ≤ a.nx.length ∧ Blk wr w0.heap.size 3 ds ∧ NumsIn ds a.nx.length (fun p => if p < q then (cls0 a).getD p 0 else 0) ∧ KeepB (fun b => b = w0.heap.size) w2 wr) (fun qv _ => a.nx.length - (intOf qv).toNat)
  case atStart => exact ⟨0, _, rfl, Nat.zero_le _, hbl2.out, hzero.out.congr (fun p => by simp), KeepB.refl _ _⟩
  case round =>
    clear hbl2
    obtain ⟨q, ds, rfl, hq, hdk, hdi, hkp⟩ := hrel
    have hBm : Below w0.heap.size w0 wr := KeepB.below hB2' hkp hB2'.size fun b e => by omega
    have hzm := hBm.size
    by_cases hql : q < a.nx.length
    · obtain ⟨p1, p2⟩ := hSp.out wr hBm
      obtain ⟨bB, oB, hBe, hbB, hEB⟩ := (ha0.out.acc.later hBm) (by have := hacl.out; omega)
      subst hBe
      have hqa : q < a.ac.length := by have := hacl.out; omega
      have e0 := hEB q hqa
      have hc0 : Hid ((cls0 a).getD q 0 = if a.ac[q] = true then 1 else 0) := hid (by
        have h1 : (cls0 a)[q]? = some (if a.ac.getD q false = true then 1 else 0) := by
          show ((List.range a.nx.length).map fun q => if a.ac.getD q false = true then 1 else 0)[q]? = _
          simp [hql]
        rw [List.getD_eq_getElem?_getD, h1, List.getD_eq_getElem?_getD, List.getElem?_eq_getElem hqa]
        rfl)
      obtain ⟨t, ht⟩ : ∃ t, t = a.ac[q] := ⟨_, rfl⟩
      rw [← ht] at e0 hc0
      have k1 : (0 : Int) ≤ (q : Int) ∧ (q : Int) < (a.ac.length : Int) ∧ (q : Int) < (a.nx.length : Int) := by omega
      have hdk' := hid hdk
      have hdi' := hid hdi
      have hkp' := hid hkp
      replace hEB := hid hEB
      obtain ⟨v0, d0⟩ := hdk.some_ (i := q) (by rw [hdi.size]; exact hql)
      have z0 := hdk.frozen q
      clear ht hdk hdi hkp
      cases t
      · have hnx : Hid (NumsIn ds a.nx.length (fun p => if p < q + 1 then (cls0 a).getD p 0 else 0)) := hid (hdi'.out.congr fun p => by
          by_cases e : p = q
          · subst e
            rw [if_neg (by omega), if_pos (by omega), hc0.out]
            rfl
          · by_cases h : p < q
            · rw [if_pos h, if_pos (by omega)]
            · rw [if_neg h, if_neg (by omega)])
        clear d0 z0
        go_wp2_with fail
        go_roundw
        case rel => exact ⟨q + 1, ds, by go_num, by omega, hdk'.out, hnx.out, hkp'.out⟩
        case measure => simp [intOf]; omega
      · have hnx : Hid (NumsIn (ds.setIfInBounds q (.int .i64 1)) a.nx.length (fun p => if p < q + 1 then (cls0 a).getD p 0 else 0)) := hid (hdi'.out.set_ hql (by rw [if_pos (by omega), hc0.out]; rfl) fun p hp => by
          by_cases h : p < q
          · rw [if_pos h, if_pos (by omega)]
          · rw [if_neg h, if_neg (by omega)])
        have hbk2 := hid (hdk'.out.set_ q (.int .i64 1))
        have hkp2 := hid (hkp'.out.setCell ⟨w0.heap.size, q, none⟩ (.int .i64 1) fun _ => rfl)
        go_wp2_with fail
        go_roundw
        case rel => exact ⟨q + 1, _, by go_num, by omega, hbk2.out, hnx.out, hkp2.out⟩
        case measure => simp [intOf]; omega
    · obtain rfl : q = a.nx.length := by omega
      have hb3 := hBm
      have hC0 : Hid (∃ ds, Blk wr w0.heap.size 3 ds ∧ NumsIn ds a.nx.length (fun p => (clsI a 0).getD p 0)) := hid ⟨ds, hdk, hdi.size, fun p hp => by
        have h1 := hdi.at_ p hp
        rw [if_pos hp] at h1
        exact h1⟩
      replace hdk := hid hdk
      replace hdi := hid hdi
      replace hkp := hid hkp
      go_wp2_with fail
      obtain ⟨w3, rfl⟩ : ∃ w3 : World, w3 = wr := ⟨_, rfl⟩
      go_loopw [3, 5] (fun cv nv wr => ∃ (m g x : Nat) (cs : Array Value), cv = .slice (some ⟨g, 0, none⟩) a.nx.length a.nx.length ∧ nv = .int .i64 (x : Nat) ∧ x = cntI a m ∧ w0.heap.size ≤ g ∧ Blk wr g 3 cs ∧ NumsIn cs a.nx.length (fun p => (clsI a m).getD p 0) ∧ Below w0.heap.size w0 wr) (fun _ nv _ => a.nx.length - (intOf nv).toNat)
      case atStart =>
        obtain ⟨ds, h1, h2⟩ := hC0.out
        exact ⟨0, _, 0, ds, rfl, rfl, rfl, Nat.le_refl _, h1, h2, hb3⟩
      case round =>
        clear hC0
        obtain ⟨m, g, x, cs, rfl, rfl, hx, hg, hblk, hin, hb⟩ := hrel
        obtain ⟨wo, rfl⟩ : ∃ wo : World, wo = wr := ⟨_, rfl⟩
        obtain ⟨C, hC, hCle, hCnx, hCcnt⟩ : ∃ C, Hid (C = clsI a m) ∧ Hid (∀ y ∈ C, y ≤ 12) ∧ Hid (refA a C = clsI a (m + 1)) ∧ Hid (refC a C = cntI a (m + 1)) := ⟨_, hid rfl, hid (clsI_le hok'.out m), hid rfl, hid rfl⟩
        rw [← hC.out] at hin
        have hxn : x ≤ a.nx.length := by rw [hx]; exact cntI_le a m
        have hglt := hblk.lt
        have hzo := hb.size
        go_upto_region 11 with fail
        have hmade := World.ownsMap_made (H := Unit) wo Tryd.prog 9 (plainElem Tryd.prog 3)
        obtain ⟨w4, hw4⟩ : ∃ w4, wo.alloc (.map #[] 0) = w4 := ⟨_, rfl⟩
        have hB4 : Below wo.heap.size wo w4 := by rw [← hw4]; exact (Below.refl _ _).alloc (Nat.le_refl _) _
        have hz4 : w4.heap.size = wo.heap.size + 1 := by rw [← hw4]; simp
        rw [hw4] at hmade ⊢
        obtain ⟨w5, hw5⟩ : ∃ w5, w4.alloc (.cells (madeCells #[Value.int IntKind.i64 0] a.nx.length) 3) = w5 := ⟨_, rfl⟩
        have hmade5 := hmade.alloc (.cells (madeCells #[Value.int IntKind.i64 0] a.nx.length) 3)
        have hblk5 : Blk w5 w4.heap.size 3 (madeCells #[Value.int IntKind.i64 0] a.nx.length) := by rw [← hw5]; exact Blk.new _ _ _
        have hB45 : Below w4.heap.size w4 w5 := by rw [← hw5]; exact (Below.refl _ _).alloc (Nat.le_refl _) _
        have hB5 := hB4.trans (hB45.mono hB4.size)
        rw [hw5] at hmade5 ⊢
        rw [hz4] at hblk5
        have hz5 := hblk5.lt
        have hcls5 := hid (hblk.below hB5 hglt)
        have hbo5 := hb.trans (hB5.mono hzo)
        have hin' := hid hin
        obtain ⟨p1, p2⟩ := hSp.out w5 hbo5
        have hmade5' := hid hmade5
        have hbk5 := hid hblk5
        replace hblk := hid hblk
        replace hx := hid hx
        clear hw4 hw5 hmade hmade5 hblk5 hin hB45
        go_wp2_with fail
        go_loopw [40] (fun qv wr => ∃ (q : Nat) (D : DataW Unit) (ds : Array Value), qv = .int .i64 (q : Nat) ∧ q ≤ a.nx.length ∧ Blk wr (wo.heap.size + 1) 3 ds ∧ NumsIn ds a.nx.length (nxtF a C q) ∧ wr.ownsMap Tryd.prog 9 (plainElem Tryd.prog 3) wo.heap.size q D ∧ MapIxS D (dd (keysT a C q)) ∧ KeepB (fun b => b = wo.heap.size ∨ b = wo.heap.size + 1) w5 wr) (fun qv _ => a.nx.length - (intOf qv).toNat)
        case atStart => exact ⟨0, _, _, rfl, Nat.zero_le _, hbk5.out, hzero.out.congr (fun p => by simp [nxtF]), hmade5'.out, MapIxS.empty, KeepB.refl _ _⟩
        case round =>
          clear hbk5 hmade5' p1 p2
          obtain ⟨q, D, ds, rfl, hq, hdk, hdi, hmap, hix, hkp⟩ := hrel
          obtain ⟨wp, rfl⟩ : ∃ wp : World, wp = wr := ⟨_, rfl⟩
          have hBq : Below wo.heap.size wo wp := KeepB.below hB5 hkp hB5.size fun b e => by omega
          have hBp := hb.trans (hBq.mono hzo)
          have hzp := hBp.size
          have hzop := hBq.size
          have hcq := hid (hcls5.out.keep hkp (by omega))
          by_cases hql : q < a.nx.length
          · obtain ⟨bR, oR, r, Ai, ci, hRe, hbR, hr, hr0, h1, h2, h3⟩ := row_read ha0.out.rows hql
            subst hRe
            have r0 := hr0.out wp hBp
            have hrlen : r.length = L.length := by rw [hr.out]; exact hP.out.row q hql
            have hrk : Hid (∀ k (hk : k < L.length) (hk' : k < r.length), r[k] = ((nx q L[k] : Nat) : Int)) := hid (by
              have h := hP.out.at_ q hql
              rw [← hr.out] at h
              exact h)
            have hcell : Hid (∀ w', Below wp.heap.size wp w' → ∀ t, t < a.nx.length → w'.cell? ⟨g, t, none⟩ = some (.int .i64 (C.getD t 0 : Nat))) := hid fun w' hb' t ht => by
              rw [(hcq.out.below hb' hcq.out.lt).cell t]
              exact hin'.out.at_ t ht
            have c0 := hcell.out wp (Below.refl _ _) q hql
            obtain ⟨cq, hcq0⟩ : ∃ cq, Hid (cq = C.getD q 0) := ⟨_, hid rfl⟩
            rw [← hcq0.out] at c0
            have hcq12 : cq ≤ 12 := by rw [hcq0.out]; exact getD_le hCle.out q
            have hsig : Hid (sigA a C q = cq :: L.map fun l => C.getD (nx q l) 0) := hid (by rw [hP.out.sigF C q hql, hcq0.out])
            have k1 : (0 : Int) ≤ (q : Int) ∧ (q : Int) < (a.nx.length : Int) := by omega
            have hdk' := hid hdk
            have hdi' := hid hdi
            have hmap' := hid hmap
            have hix' := hid hix
            have hkp' := hid hkp
            have hko : Hid (baOf (keyL [cq]) = baOf (decL cq)) := hid (by simp [keyL, keyTl])
            clear hdk hdi hmap hix hkp
            go_wp2_with fail
            refine (itoa_any cq (by omega) wp).mono ?_
            rintro e w6 ⟨rfl, rfl⟩
            rw [← hko.out]
            go_wp2_with fail
            go_loopw [10, 52] (fun sv kv wr => ∃ (k : Nat) (ts : List Nat), sv = .string (baOf (keyL (cq :: ts))) ∧ kv = .int .i64 (k : Nat) ∧ k ≤ L.length ∧ ts = (L.take k).map (fun l => C.getD (nx q l) 0) ∧ Below wp.heap.size wp wr) (fun _ kv _ => L.length - (intOf kv).toNat)
            case atStart => exact ⟨0, [], rfl, rfl, Nat.zero_le _, by simp, Below.refl _ _⟩
            case round =>
              obtain ⟨k, ts, rfl, rfl, hk, hts, hbw⟩ := hrel
              have htl : ts.length = k := by rw [hts, List.length_map, List.length_take]; omega
              have hBw := hBp.trans (hbw.mono hzp)
              by_cases hkl : k < L.length
              · obtain ⟨bi, oi, hie, hbi, hEi⟩ := (h3.out.later hBw) (by omega)
                subst hie
                have e0 := hEi k (by omega)
                rw [hrk.out k hkl (by omega)] at e0
                have hzn := hP.out.go q hql L[k]
                obtain ⟨z, hz'⟩ : ∃ z, Hid (z = nx q L[k]) := ⟨_, hid rfl⟩
                rw [← hz'.out] at e0 hzn
                have e1 := hcell.out wr hbw z hzn
                obtain ⟨u, hu⟩ : ∃ u, Hid (u = C.getD z 0) := ⟨_, hid rfl⟩
                rw [← hu.out] at e1
                have hu12 : u ≤ 12 := by rw [hu.out]; exact getD_le hCle.out z
                have hts2 : Hid (ts ++ [u] = (L.take (k + 1)).map (fun l => C.getD (nx q l) 0)) := hid (by
                  rw [List.take_succ_eq_append_getElem hkl, List.map_append, ← hts, hu.out, hz'.out]
                  rfl)
                have hcat : Hid (baOf (keyL (cq :: ts)) ++ ((⟨#[44]⟩ : ByteArray) ++ baOf (decL u)) = baOf (keyL (cq :: (ts ++ [u])))) := hid (by
                  rw [keyL_snoc, show (⟨#[44]⟩ : ByteArray) = baOf [44] from rfl, baOf_append, baOf_append]
                  rfl)
                obtain ⟨S1, hS1⟩ : ∃ S, Hid (S = baOf (keyL (cq :: ts))) := ⟨_, hid rfl⟩
                obtain ⟨S2, hS2⟩ : ∃ S, Hid (S = baOf (decL u)) := ⟨_, hid rfl⟩
                have hs1 : S1.size ≤ 100 := by
                  rw [hS1.out, baOf_size]
                  have := keyL_len (cq :: ts)
                  rw [List.length_cons] at this
                  omega
                have hs2 : S2.size ≤ 100 := by
                  rw [hS2.out, baOf_size]
                  have := decL_len u
                  omega
                have hs3 : ((⟨#[44]⟩ : ByteArray) ++ S2).size ≤ 101 := by
                  rw [ByteArray.size_append]
                  show 1 + S2.size ≤ 101
                  omega
                rw [← hS1.out, ← hS2.out] at hcat
                rw [← hS1.out]
                have k2 : (0 : Int) ≤ (k : Int) ∧ (k : Int) < (r.length : Int) ∧ (0 : Int) ≤ (z : Int) ∧ (z : Int) < (a.nx.length : Int) := by omega
                have hit := hid (itoa_any u (by omega) wr)
                rw [← hS2.out] at hit
                replace hts := hid hts
                replace htl := hid htl
                replace hEi := hid hEi
                go_wp2_with fail
                refine hit.out.mono ?_
                rintro e w7 ⟨rfl, rfl⟩
                go_wp2_with fail
                go_roundw
                case rel => exact ⟨k + 1, ts ++ [u], by rw [hcat.out], by go_num, by omega, hts2.out, hbw⟩
                case measure => simp [intOf]; omega
              · obtain rfl : k = L.length := by omega
                have hkk0 : cq :: ts = sigA a C q := by
                  rw [hsig.out, hts, List.take_length]
                rw [hkk0]
                obtain ⟨kk, hkk⟩ : ∃ kk, Hid (kk = keyL (sigA a C q)) := ⟨_, hid rfl⟩
                obtain ⟨KS, hKS⟩ : ∃ S, Hid (S = baOf kk) := ⟨_, hid rfl⟩
                rw [← hkk.out, ← hKS.out]
                have hkl100 : kk.length ≤ 100 := by
                  rw [hkk.out, ← hkk0]
                  have := keyL_len (cq :: ts)
                  rw [List.length_cons] at this
                  omega
                have hkey : Hid (keyOf Tryd.prog 9 (.string KS) = some (.string kk)) := hid (by
                  rw [Go.WideMaps.keyOf_string_mk Tryd.underlying9 (by rw [hKS.out, baOf_size]; unfold maxLen; omega), hKS.out, baOf_list])
                have hmw := hid (hmap'.out.kept (grown_of_below hbw) (by simp))
                have hdw := hid (hdk'.out.below hbw hdk'.out.lt)
                have hkw := hid (hkp'.out.trans (.of_below hbw))
                have hsz : Hid (Maps.size D = (dd (keysT a C q)).length) := hid hix'.out.size
                obtain ⟨nn, hnn⟩ : ∃ nn, Hid (nn = (dd (keysT a C q)).length) := ⟨_, hid rfl⟩
                rw [← hnn.out] at hsz
                have hnnl : nn ≤ 12 := by
                  rw [hnn.out]
                  have h1 := dd_len (keysT a C q)
                  rw [keysT_len C hq] at h1
                  omega
                have hsuc := hid (keysT_succ C hql)
                have hold := hid (fun p (hp : p ≠ q) => nxtF_old (c := C) hql p hp)
                have hnew := hid (nxtF_new (c := C) hql)
                rw [← hkk.out] at hsuc hnew
                have hgN : wo.heap.size + 1 < wr.heap.size := by have := hbw.size; have := hdk'.out.lt; omega
                replace hts := hid hts
                replace htl := hid htl
                replace hkk0 := hid hkk0
                by_cases hmem : kk ∈ keysT a C q
                · have hhas : Hid (Maps.has D (.string kk) = true) := hid (by rw [hix'.out.has kk]; exact decide_eq_true ((dd_mem _ _).2 hmem))
                  obtain ⟨v, hv⟩ : ∃ v, Hid (v = idxL (dd (keysT a C q)) kk) := ⟨_, hid rfl⟩
                  have hvl : v < 13 := by
                    have h1 := idxL_lt ((dd_mem _ _).2 hmem)
                    rw [← hv.out, ← hnn.out] at h1
                    omega
                  have hat : Hid (D.atKey (.string kk) (.lit (.int .i64 0)) = .lit (.int .i64 ((v : Nat) : Int))) := hid (by rw [hix'.out.at_ kk ((dd_mem _ _).2 hmem), hv.out])
                  have hnx : Hid (NumsIn (ds.setIfInBounds q (.int .i64 (v : Nat))) a.nx.length (nxtF a C (q + 1))) := hid (hdi'.out.set_ hql (by rw [hnew.out, if_pos hmem, hv.out]) hold.out)
                  have hix2 : Hid (MapIxS D (dd (keysT a C (q + 1)))) := hid (by
                    rw [hsuc.out, dd_snoc, addD_old ((dd_mem _ _).2 hmem)]
                    exact hix'.out)
                  obtain ⟨v0, d0⟩ := hdw.out.some_ (i := q) (by rw [hdi'.out.size]; exact hql)
                  have z0 := hdw.out.frozen q
                  have hbk2 := hid (hdw.out.set_ q (.int .i64 (v : Nat)))
                  have hmp2 := hid ((map_far hmw.out ⟨wo.heap.size + 1, q, none⟩ (.int .i64 (v : Nat)) (by simp)).mono (Nat.le_succ q))
                  have hkp2 := hid (hkw.out.setCell ⟨wo.heap.size + 1, q, none⟩ (.int .i64 (v : Nat)) fun _ => .inr rfl)
                  replace hmem := hid hmem
                  go_wp2_with (at_lookup; refine wpList_lookup_own_ok_int _ rfl _ _ 132 rfl 9 3 .i64 mapLawS Tryd.underlying132 Tryd.underlying3 (zeroInt _) wo.heap.size q D rfl hmw.out _ _ rfl hkey.out ?_; intro c' hat' hwc'; obtain rfl : c' = (v : Int) := (by have e := hat'.symm.trans hat.out; injection e with e; injection e); rw [hhas.out])
                  go_roundw
                  case rel => exact ⟨q + 1, D, _, by go_num, by omega, hbk2.out, hnx.out, hmp2.out, hix2.out, hkp2.out⟩
                  case measure => simp [intOf]; omega
                · have hnd : kk ∉ dd (keysT a C q) := fun h => hmem ((dd_mem _ _).1 h)
                  have hhas : Hid (Maps.has D (.string kk) = false) := hid (by rw [hix'.out.has kk]; exact decide_eq_false hnd)
                  have hnx : Hid (NumsIn (ds.setIfInBounds q (.int .i64 (nn : Nat))) a.nx.length (nxtF a C (q + 1))) := hid (hdi'.out.set_ hql (by rw [hnew.out, if_neg hmem, hnn.out]) hold.out)
                  have hix2 : Hid (MapIxS (D.put (.string kk) (.lit (.int .i64 ((nn : Nat) : Int)))) (dd (keysT a C (q + 1)))) := hid (by
                    rw [hsuc.out, dd_snoc, addD_new hnd, hnn.out]
                    exact hix'.out.put hnd)
                  have hpl : plainElem (H := Unit) Tryd.prog 3 (.int .i64 (nn : Nat)) = some (.lit (.int .i64 ((nn : Nat) : Int)), []) := plainElem_int Tryd.underlying3 (wf64 (by omega) (by omega))
                  replace hmem := hid hmem
                  replace hnd := hid hnd
                  go_wp2_with (first
                    | (at_lookup; refine wpList_lookup_own_ok_int _ rfl _ _ 132 rfl 9 3 .i64 mapLawS Tryd.underlying132 Tryd.underlying3 (zeroInt _) wo.heap.size q D rfl hmw.out _ _ rfl hkey.out ?_; intro c' hat' hwc'; rw [hhas.out])
                    | (at_len; refine wpList_len_own _ rfl _ 132 rfl 9 3 Tryd.underlying132 _ wo.heap.size q D rfl hmw.out ?_; rw [hsz.out])
                    | (at_mapUpdate; refine wpList_mapUpdate_own _ rfl _ _ _ 132 rfl 9 3 mapLawS Tryd.underlying132 _ wo.heap.size q D rfl hmw.out (by unfold maxLen; omega) _ _ _ rfl rfl hkey.out _ [] hpl ?_; intro w9 hown9 hgrow9; have hk9 : KeepB (fun b => b = wo.heap.size) wr w9 := (KeepB.refl _ wr).grown hgrow9 (fun k hk _ => by injection hk with hk; exact hk.symm); have hb9 : Blk w9 (wo.heap.size + 1) 3 ds := hdw.out.keep hk9 (by omega); obtain ⟨v0, d0⟩ := hb9.some_ (i := q) (by rw [hdi'.out.size]; exact hql); have z0 := hb9.frozen q; have hbk2 := hid (hb9.set_ q (.int .i64 (nn : Nat))); have hmp2 := hid (map_far hown9 ⟨wo.heap.size + 1, q, none⟩ (.int .i64 (nn : Nat)) (by simp)); have hkp2 := hid ((hkw.out.trans (hk9.mono fun b h => .inl h)).setCell ⟨wo.heap.size + 1, q, none⟩ (.int .i64 (nn : Nat)) fun _ => .inr rfl); replace hb9 := hid hb9; clear hown9 hgrow9 hk9))
                  go_roundw
                  case rel => exact ⟨q + 1, _, _, by go_num, by omega, hbk2.out, hnx.out, hmp2.out, hix2.out, hkp2.out⟩
                  case measure => simp [intOf]; omega
          · obtain rfl : q = a.nx.length := by omega
            obtain ⟨y, hy⟩ : ∃ y, Hid (y = cntI a (m + 1)) := ⟨_, hid rfl⟩
            have hall := hid (keysT_all (a := a) hCle.out)
            have hsz : Hid (Maps.size D = y) := hid (by rw [hix.size, hall.out.2, hCcnt.out, hy.out])
            have hyl : y ≤ a.nx.length := by rw [hy.out]; exact cntI_le a _
            have hxy : x ≤ y := by rw [hx.out, hy.out]; exact cntI_mono a m
            have hnin : Hid (NumsIn ds a.nx.length (fun p => (clsI a (m + 1)).getD p 0)) := hid ⟨hdi.size, fun p hp => by
              rw [hdi.at_ p hp, nxtF_all hCle.out hp, hCnx.out]⟩
            have hmw := hid hmap
            have hdw := hid hdk
            have hB := hB0.trans (hBp.mono hB0.size)
            replace hkp := hid hkp
            clear hdk hdi hmap hix
            by_cases hxe : y = x
            · have hq1 : ((y : Int) == (x : Int)) = true := by simp; omega
              have hm : m ≠ 0 := by
                rintro rfl
                have h0 : cntI a 0 = 0 := rfl
                have h1 := cntI_one hok'.out
                have h2 := hx.out
                have h3 := hy.out
                rw [h0] at h2
                rw [Nat.zero_add] at h3
                omega
              obtain ⟨m', hm'⟩ : ∃ m', m = m' + 1 := ⟨m - 1, by omega⟩
              have hstop := hid (cls_stop hok'.out (i := m') (by
                have h2 := hx.out
                have h3 := hy.out
                rw [hm'] at h2 h3
                rw [show m' + 2 = m' + 1 + 1 from rfl, ← h3, ← h2]
                omega))
              have hfin : Hid (NatsAt wp wp.heap.size (some ⟨wo.heap.size + 1, 0, none⟩) (clsA a)) := hid (fun hl => ⟨wo.heap.size + 1, 0, rfl, hdw.out.lt, fun i hi => by
                have hil : i < a.nx.length := by rw [clsA_len] at hi; exact hi
                rw [Nat.zero_add, hdw.out.cell i, hnin.out.at_ i hil]
                rw [hm', show m' + 1 + 1 = m' + 2 from rfl, hstop.out.1, getD_at hi]⟩)
              replace hxe := hid hxe
              replace hm' := hid hm'
              go_wp2_with (at_len; refine wpList_len_own _ rfl _ 132 rfl 9 3 Tryd.underlying132 _ wo.heap.size a.nx.length D rfl hmw.out ?_; rw [hsz.out])
              go_ret
              exact ⟨_, rfl, by omega, hfin.out, hB⟩
            · have hq1 : ((y : Int) == (x : Int)) = false := by simp; omega
              go_wp2_with (at_len; refine wpList_len_own _ rfl _ 132 rfl 9 3 Tryd.underlying132 _ wo.heap.size a.nx.length D rfl hmw.out ?_; rw [hsz.out])
              go_roundw
              case rel => exact ⟨m + 1, wo.heap.size + 1, y, ds, rfl, rfl, hy.out, by omega, hdw.out, hnin.out, hBp⟩
              case measure => simp [intOf]; omega

end Go.Proofs.YtkoganldcmhopaaDoor

/- The program's minimize, MinimizeAutomaton, IsMinimal. -/
namespace Go.Proofs.YtkoganldcmhopaaDoor
open Go.RowKit Go.BigFrame Go.Maps AG

set_option maxRecDepth 100000 in
set_option maxHeartbeats 4000000 in
theorem minimize_any (a : Au) (A B : Option Addr) (c d : Nat) (w : World) (hok : auOk a = true) (ha : AuAt w A c B d a) :
    Calls Tryd.prog 95 #[a.val A c B d] w (MinsTo a w) := by
  obtain ⟨-, hn1, hn12, hn3, -⟩ := (auOk_iff a).1 hok
  obtain ⟨i0, hi, hz0, hz1, hz2⟩ := info_parts infoInt
  obtain ⟨j0, hj0, hy0, hy1, hy2⟩ := info_parts infoInts
  obtain ⟨b0, hbi, hb0, hb1', hb2'⟩ := info_parts infoBool
  obtain ⟨w0, hw0, hzz0, hB0, hS, -⟩ := boxed2 w #[Value.int IntKind.i64 a.al, Value.slice A a.nx.length c, Value.slice B a.ac.length d] 26 #[Value.int IntKind.i64 0, Value.slice none 0 0, Value.slice none 0 0] 26
  have hres : Blk w0 (w.heap.size + 1) 26 #[Value.int IntKind.i64 0, Value.slice none 0 0, Value.slice none 0 0] := by
    rw [← hw0]
    have := Blk.new (w.alloc (.cells #[Value.int IntKind.i64 a.al, Value.slice A a.nx.length c, Value.slice B a.ac.length d] 26)) 26 #[Value.int IntKind.i64 0, Value.slice none 0 0, Value.slice none 0 0]
    simpa using this
  have ha0 := hid (ha.later hB0)
  have p0 := hS 0 _ rfl _ (Below.refl _ _)
  have p1 := hS 1 _ rfl _ (Below.refl _ _)
  have p2 := hS 2 _ rfl _ (Below.refl _ _)
  have hcls := hid (classesOf_any a A B c d w0 hok ha0.out)
  obtain ⟨L, nx, hP, hQ⟩ : ∃ L nx, Hid (RowP a nx L) ∧ Hid (QuoP a nx L) := ⟨_, _, hid (rowP hok), hid (quoP hok)⟩
  have hqok := hid (quotA_ok hok)
  obtain ⟨tx, htx⟩ := trimOpt_some hqok.out
  replace htx := hid htx
  have hn3' := hid hn3
  have hclt : Hid (∀ t, t < a.nx.length → cA a t < clsC a) := hid fun t h => cA_lt h
  clear hok hn3
  replace ha := hid ha
  replace hres := hid hres
  unfold AG.Au.val
  unfold AG.Au.val at hcls
  go_enter Tryd.func95, Tryd.ntmps95
  go_wp2_with fail
  refine hcls.out.mono ?_
  rintro e w1 ⟨g, rfl, hg0, hNC, hb1⟩
  have hB1 := hB0.trans (hb1.mono hB0.size)
  have hz01 := hb1.size
  have hU1 := hid (fun w' (hb : Below w1.heap.size w1 w') => And.intro (hS 1 _ rfl w' ((hb1.trans (hb.mono hz01)).mono hzz0)) (hS 2 _ rfl w' ((hb1.trans (hb.mono hz01)).mono hzz0)))
  have q0 := hS 0 _ rfl w1 (hb1.mono hzz0)
  have ha1 := hid (ha0.out.later hb1)
  have hres1 := hid (hres.out.below hb1 hres.out.lt)
  have hst0 := hid (L6.start w1 a.al)
  obtain ⟨bO, oO, hAe, hgl, hEO⟩ := hNC (by rw [hQ.out.len]; omega)
  injection hAe with e1
  injection e1 with e1 e2
  subst e1
  subst e2
  have hcell : Hid (∀ w', Below w1.heap.size w1 w' → ∀ t, t < a.nx.length → w'.cell? ⟨g, t, none⟩ = some (.int .i64 (cA a t : Nat))) := hid fun w' hb t ht => by
    have h1 := hEO t (by rw [hQ.out.len]; exact ht)
    rw [Nat.zero_add, hQ.out.cls t (by rw [hQ.out.len]; exact ht)] at h1
    exact (hb.cell (p := ⟨g, t, none⟩) (by simpa using hgl)).trans h1
  clear p0 p1 p2 hcls hNC hEO hw0 hS
  go_wp2_with fail
  go_loopw [17] (fun qv wr => ∃ (q m : Nat) (vR vA : Value) (xs : List RowV), qv = .int .i64 (q : Nat) ∧ q ≤ a.nx.length ∧ m = clsTo a q ∧ m ≤ q ∧ L6 w1 wr w1.heap.size a.al vR xs vA ((List.range m).map fun j => a.ac.getD (repA a j) false) (nilF :: famOf xs) ∧ xs.map (·.r) = (List.range m).map (quotRow a)) (fun qv _ => a.nx.length - (intOf qv).toNat)
  case atStart => exact ⟨0, 0, _, _, [], rfl, Nat.zero_le _, (clsTo_zero a).symm, Nat.zero_le _, hst0.out, rfl⟩
  case round =>
    clear hst0 q0
    obtain ⟨q, m, vR, vA, xs, rfl, hq, hm, hmq, hst, hxs⟩ := hrel
    have hxl : xs.length = m := by
      have := congrArg List.length hxs
      rw [List.length_map, List.length_map, List.length_range] at this
      omega
    obtain ⟨AR, cR, rfl, -, -⟩ := own_slice hst.tab
    obtain ⟨AA, cA', rfl, -, -⟩ := own_slice hst.acc
    have hxl4 : xs.length ≤ 12 := by omega
    replace hxs := hid hxs
    obtain ⟨acs, hacs⟩ : ∃ acs, Hid (acs = (List.range m).map fun j => a.ac.getD (repA a j) false) := ⟨_, hid rfl⟩
    rw [← hacs.out] at hst
    have hal2 : acs.length ≤ 12 := by rw [hacs.out, List.length_map, List.length_range]; omega
    have hBm := hst.below
    have hszm := hBm.size
    by_cases hql : q < a.nx.length
    · have hstep := clsTo_step hql
      rw [← hm] at hstep
      have c0 := hcell.out wr hBm q hql
      obtain ⟨cq, hcq⟩ : ∃ cq, Hid (cq = cA a q) := ⟨_, hid rfl⟩
      rw [← hcq.out] at c0 hstep
      have d1 := hst.blk.cell 1
      simp only [List.getElem?_toArray, List.getElem?_cons_zero, List.getElem?_cons_succ] at d1
      have k1 : (0 : Int) ≤ (q : Int) ∧ (q : Int) < (a.nx.length : Int) := by omega
      have hm' := hid hm
      rcases hstep with ⟨hlt, hto⟩ | ⟨heq, hto, hrep⟩
      · have hl1 : ((cq : Int) < (xs.length : Int)) := by omega
        have hst' := hid hst
        replace hto := hid hto
        replace hm := hid hm
        replace hxl := hid hxl
        clear hst
        go_wp2_with fail
        go_roundw
        case rel => exact ⟨q + 1, m, _, _, xs, by go_num, by omega, by rw [hto.out], by omega, by have := hst'.out; rw [hacs.out] at this; exact this, hxs.out⟩
        case measure => simp [intOf]; omega
      · have hl1 : ¬ ((cq : Int) < (xs.length : Int)) := by omega
        have hqa : q < a.ac.length := by have := hn3'.out; omega
        have hmc : m < clsC a := by rw [← heq, hcq.out]; exact hclt.out q hql
        have hfr := hid (hst.fs_ fun h => h.nil_)
        obtain ⟨p1, p2⟩ := hU1.out wr hBm
        obtain ⟨bR, oR, r, Ai, ci, hRe, hbR, hr, hr0, h1, h2, h3⟩ := row_read ha1.out.rows hql
        subst hRe
        have r0 := hr0.out wr hBm
        have hrlen : r.length = L.length := by rw [hr.out]; exact hP.out.row q hql
        have hsix := hP.out.six
        have hrk : Hid (∀ k (hk : k < L.length) (hk' : k < r.length), r[k] = ((nx q L[k] : Nat) : Int)) := hid (by
          have h := hP.out.at_ q hql
          rw [← hr.out] at h
          exact h)
        have hQr := hid (hQ.out.row m hmc)
        rw [hrep] at hQr
        replace hst := hid hst
        replace hto := hid hto
        replace hm := hid hm
        replace heq := hid heq
        replace hrep := hid hrep
        replace hxl := hid hxl
        replace hBm := hid hBm
        go_wp2_with fail
        obtain ⟨wo, rfl⟩ : ∃ wo : World, wo = wr := ⟨_, rfl⟩
        go_loopw [7, 33] (fun vW kv wr => ∃ (k : Nat) (row : List Nat) (AW : Option Addr) (cW : Nat), vW = .slice AW row.length cW ∧ kv = .int .i64 (k : Nat) ∧ k ≤ L.length ∧ row = (L.take k).map (fun l => cA a (nx q l)) ∧ L6 w1 wr w1.heap.size a.al (.slice AR xs.length cR) xs (.slice AA acs.length cA') acs (nilF :: (.slice AW row.length cW, natVals row) :: famOf xs)) (fun _ kv _ => L.length - (intOf kv).toNat)
        case atStart => exact ⟨0, [], _, 0, rfl, rfl, Nat.zero_le _, by simp, hfr.out⟩
        case round =>
          clear hfr c0 d1 p1 p2 r0
          obtain ⟨k, row, AW, cW, rfl, rfl, hk, hrow, hst2⟩ := hrel
          have hrl : row.length = k := by rw [hrow, List.length_map, List.length_take]; omega
          have hBm := hst2.below
          have hszm := hBm.size
          have hrl4 : row.length ≤ 6 := by omega
          by_cases hkl : k < L.length
          · obtain ⟨bi, oi, hie, hbi', hEi⟩ := (h3.out.later hBm) (by omega)
            subst hie
            have e0 := hEi k (by omega)
            rw [hrk.out k hkl (by omega)] at e0
            have hzn := hP.out.go q hql L[k]
            obtain ⟨z, hz'⟩ : ∃ z, Hid (z = nx q L[k]) := ⟨_, hid rfl⟩
            rw [← hz'.out] at e0 hzn
            have o0 := hcell.out wr hBm z hzn
            obtain ⟨t, ht⟩ : ∃ t, Hid (t = cA a z) := ⟨_, hid rfl⟩
            rw [← ht.out] at o0
            have hrow2 : Hid (row ++ [t] = (L.take (k + 1)).map (fun l => cA a (nx q l))) := hid (by
              rw [List.take_succ_eq_append_getElem hkl, List.map_append, ← hrow, ht.out, hz'.out]
              rfl)
            have k2 : (0 : Int) ≤ (k : Int) ∧ (k : Int) < (r.length : Int) ∧ (0 : Int) ≤ (z : Int) ∧ (z : Int) < (a.nx.length : Int) := by omega
            have hoW := hid (hst2.own (v := .slice AW row.length cW) (row := row) (List.mem_cons_of_mem _ List.mem_cons_self))
            replace hst2 := hid hst2
            replace hrl := hid hrl
            replace hrow := hid hrow
            replace hEi := hid hEi
            replace hBm := hid hBm
            go_wp2_with (at_builtin; refine wpList_append_own_at _ rfl _ _ 52 rfl w1.heap.size 3 i0 (.int .i64 0) 1 8 Tryd.underlying52 hi hz0 hz1 hz2 rfl (by decide) _ _ _ rfl (hoW.out.alloc _) ⟨wr.heap.size, 0, none⟩ 1 1 [.int .i64 (t : Nat)] rfl rfl (cell_one_new _ _ _) (by intro u hu; simp at hu; subst hu; rfl) (by unfold maxLen; omega) (by omega) (by first | omega | (simp; omega)) ?_; intro v8 w8 hO8 hg8 _ hat8; obtain ⟨Av8, cv8, ev8, -, -⟩ := own_slice hO8; subst ev8; replace hO8 := hid hO8; replace hg8 := hid hg8; replace hat8 := hid hat8)
            have hst8 := hid (hst2.out.app (l1 := [nilF]) (ys' := natVals (row ++ [t])) hg8.out (by rw [natVals_len, List.length_append]; have := hO8.out; unfold natVals at this ⊢; simpa using this) hat8.out)
            go_roundw
            case rel => exact ⟨k + 1, row ++ [t], _, _, by rw [List.length_append]; rfl, by go_num, by omega, hrow2.out, by have := hst8.out; rw [List.length_append]; exact this⟩
            case measure => simp [intOf]; omega
          · obtain rfl : k = L.length := by omega
            have hxs2 : Hid ((xs ++ [(⟨row.map fun (n : Nat) => (n : Int), AW, cW⟩ : RowV)]).map (·.r) = (List.range (m + 1)).map (quotRow a)) := hid (by
              have h1 := hrow
              rw [List.take_length] at h1
              rw [List.map_append, hxs.out, List.range_succ, List.map_append, List.map_singleton, List.map_singleton, hQr.out, h1])
            obtain ⟨tb, htb⟩ : ∃ tb, Hid (tb = a.ac[q]) := ⟨_, hid rfl⟩
            have hacs2 : Hid (acs ++ [tb] = (List.range (m + 1)).map fun j => a.ac.getD (repA a j) false) := hid (by
              rw [hacs.out, List.range_succ, List.map_append, List.map_singleton, hrep.out, htb.out, List.getD_eq_getElem?_getD, List.getElem?_eq_getElem hqa]
              rfl)
            obtain ⟨bB, oB, hBe, hbB, hEB⟩ := ha1.out.acc (by omega)
            subst hBe
            have hEB' := hid hEB
            replace hrl := hid hrl
            replace hrow := hid hrow
            replace hBm := hid hBm
            clear hEB
            have c1 := hst2.blk.cell 1
            simp only [List.getElem?_toArray, List.getElem?_cons_zero, List.getElem?_cons_succ] at c1
            have hoR := hid hst2.tab
            have hbk := hid hst2.blk
            have hgO := hst2.blk.lt
            have hszr := hst2.below.size
            have hst2' := hid hst2
            clear hst2
            go_wp2_with (at_builtin; refine wpList_append_own_at _ rfl _ _ 23 rfl w1.heap.size 52 j0 (.slice none 0 0) 1 24 Tryd.underlying23 hj0 hy0 hy1 hy2 rfl (by decide) _ _ _ rfl (hoR.out.alloc _) ⟨wr.heap.size, 0, none⟩ 1 1 [.slice AW row.length cW] rfl rfl (cell_one_new _ _ _) (by intro u hu; simp at hu; subst hu; rfl) (by unfold maxLen; omega) (by omega) (by first | omega | (simp; omega)) ?_; intro v5 w5 hO5 hg5 _ hat5; obtain ⟨Av5, cv5, ev5, -, -⟩ := own_slice hO5; subst ev5; have hbk5 : Blk w5 w1.heap.size 26 #[.int .i64 a.al, .slice AR xs.length cR, .slice AA acs.length cA'] := (hbk.out.alloc _).keep ((KeepB.refl (fun b => (Value.slice AR xs.length cR).ownBlock = some b) _).grown hg5 (fun k hk _ => hk)) (fun e => own_ne hoR.out hbk.out (by decide) _ e rfl); have d1 := hbk5.cell 1; have z1 := hbk5.frozen 1; simp only [List.getElem?_toArray, List.getElem?_cons_zero, List.getElem?_cons_succ] at d1; have hst5 := hid (hst2'.out.row hg5 (by have := hO5; simpa using this)); replace hbk5 := hid hbk5; clear hO5 hg5 hat5)
            obtain ⟨w6, hw6⟩ : ∃ w6, w5.setCell ⟨w1.heap.size, 1, none⟩ (.slice Av5 (xs.length + 1) cv5) = w6 := ⟨_, rfl⟩
            rw [hw6] at hst5 ⊢
            have hst6 := hst5.out
            have hB6 := hst6.below
            have hz6 := hB6.size
            have c2 := hst6.blk.cell 2
            simp only [List.getElem?_toArray, List.getElem?_cons_zero, List.getElem?_cons_succ] at c2
            have hgO6 := hst6.blk.lt
            have x0 : ∀ x', (Fam w6.heap.size w6 x').cell? ⟨w1.heap.size, 2, none⟩ = some (.slice AA acs.length cA') := fun x' => by rw [(Fam.below w6.heap.size w6 x').cell (by simpa using hgO6)]; exact c2
            obtain ⟨p1, p2⟩ := hU1.out w6 hB6
            have e1 := (hB6.cell (p := ⟨bB, oB + q, none⟩) (by simpa using hbB)).trans (hEB'.out q hqa)
            rw [← htb.out] at e1
            have hlw6 : w.heap.size < w6.heap.size := by omega
            have hbB6 : bB < w6.heap.size := by omega
            have x1 : ∀ x', (Fam w6.heap.size w6 x').cell? ⟨w.heap.size, 2, none⟩ = some (.slice (some ⟨bB, oB, none⟩) a.ac.length d) := fun x' => by rw [(Fam.below w6.heap.size w6 x').cell (by simpa using hlw6)]; exact p2
            have x3 : ∀ x', (Fam w6.heap.size w6 x').cell? ⟨bB, oB + q, none⟩ = some (.bool tb) := fun x' => by rw [(Fam.below w6.heap.size w6 x').cell (by simpa using hbB6)]; exact e1
            have k3 : (0 : Int) ≤ (q : Int) ∧ (q : Int) < (a.ac.length : Int) := by omega
            clear p1 p2 e1
            have hst6' := hid hst6
            replace hB6 := hid hB6
            clear hw6 hst5 hst6 c1 c2 d1 z1
            refine wp_region_grow 8 w6.heap.size w6 (fun _ _ _ => True) (by kernel_rfl) (by kernel_rfl) (Nat.le_refl _) (Below.refl _ _) ?_
            simp only [List.take_succ_cons, List.take_zero, List.drop_succ_cons, List.drop_zero]
            (repeat (refine grow_quiet (by rfl) (by rfl) (by rfl) ?_; intro K hK; go_big_quiet_op; go_big_quiet_on))
            refine grow_new (by rfl) (fun b => .slice (some ⟨b, 0, none⟩) 1 1) 4 #[.bool tb] (fun _ => by go_simp) (fun _ => rfl) (Nat.le_refl _) fun g3 hg3 => ?_
            simp only [Act.put, List.setIfInBounds_toArray, List.set_cons_zero, List.set_cons_succ]
            refine grow_nil ?_
            intro w7 hb7 hf
            obtain ⟨g3', hge, -, hblk3⟩ := hf _ List.mem_cons_self
            cases hge
            have hnew3 := hid (Blk.news hblk3)
            clear hblk3 hf x0 x1 x3
            have hst7 := hst6'.out.later hb7
            have hoA := hid hst7.acc
            have hz7 := hst7.below.size
            have hbk7 := hid hst7.blk
            have hgO7 := hst7.blk.lt
            have hst7' := hid hst7
            clear hst7
            go_wp2_with (at_builtin; refine wpList_append_own_at _ rfl _ _ 24 rfl w1.heap.size 4 b0 (.bool false) 1 1 Tryd.underlying24 hbi hb0 hb1' hb2' rfl (by decide) _ _ _ rfl (hoA.out) ⟨g3, 0, none⟩ 1 1 [.bool tb] rfl rfl hnew3.out (by intro u hu; simp at hu; subst hu; rfl) (by unfold maxLen; omega) (by omega) (by first | omega | (simp; omega)) ?_; intro v8 w8 hO8 hg8 _ hat8; obtain ⟨Av8, cv8, ev8, -, -⟩ := own_slice hO8; subst ev8; have hbk8 : Blk w8 w1.heap.size 26 _ := hbk7.out.keep ((KeepB.refl (fun b => (Value.slice AA acs.length cA').ownBlock = some b) _).grown hg8 (fun k hk _ => hk)) (fun e => own_ne hoA.out hbk7.out (by decide) _ e rfl); have d2 := hbk8.cell 2; have z2 := hbk8.frozen 2; simp only [List.getElem?_toArray, List.getElem?_cons_zero, List.getElem?_cons_succ] at d2; have hst8 := hid (hst7'.out.put (t := tb) hg8 hO8); replace hbk8 := hid hbk8; clear hO8 hg8 hat8)
            go_roundw
            case rel =>
              have h8 := hst8.out
              rw [hacs2.out] at h8
              exact ⟨q + 1, m + 1, _, _, _, by go_num, by omega, by rw [hto.out], by omega, h8, hxs2.out⟩
            case measure => simp [intOf]; omega
    · obtain rfl : q = a.nx.length := by omega
      have hme : Hid (m = clsC a) := hid (by rw [hm, clsTo_all])
      have hro := hid (hst.fam.rowsOwn hst.tab)
      have hac := hst.acc
      have hbk := hst.blk
      have d0 := hbk.cell 0
      have d1 := hbk.cell 1
      have d2 := hbk.cell 2
      simp only [List.getElem?_toArray, List.getElem?_cons_zero, List.getElem?_cons_succ] at d0 d1 d2
      have hau : Hid (AuOwn wr w1.heap.size (.slice AR xs.length cR) (.slice AA acs.length cA') (quotA a) xs) := hid (by
        have h1 := hacs.out
        have h2 := hxs.out
        rw [hme.out] at h1 h2
        refine ⟨hro.out, h2, ?_⟩
        show wr.ownsRow w1.heap.size 4 1 _ ((List.range (clsC a)).map fun j => a.ac.getD (repA a j) false).length (boolVals ((List.range (clsC a)).map fun j => a.ac.getD (repA a j) false))
        rw [← h1]
        exact hac)
      obtain ⟨A9, c9, B9, d9, he1, he2, hat9⟩ := hau.out.at_
      injection he1 with f1 f2 f3
      injection he2 with f4 f5 f6
      subst f1 f3 f4 f6
      have htr := hid (trim_any (quotA a) AR AA cR cA' tx wr hqok.out htx.out hat9)
      unfold AG.Au.val at htr
      rw [← f2, ← f5, show (quotA a).al = a.al from rfl] at htr
      have hBr := hB1.trans (hBm.mono hB1.size)
      have hresr := hid (hres1.out.below hBm hres1.out.lt)
      replace hst := hid hst
      replace hac := hid hac
      replace hbk := hid hbk
      replace hBm := hid hBm
      replace hat9 := hid hat9
      replace f2 := hid f2
      replace f5 := hid f5
      replace hm := hid hm
      replace hxl := hid hxl
      go_wp2_with fail
      refine htr.out.mono ?_
      rintro e w9 ⟨hb9, v1, v2, ys, rfl, hau9⟩
      rw [show trimA (quotA a) = minA a from rfl, show (quotA a).al = a.al from rfl] at *
      obtain ⟨b, hb⟩ : ∃ b, Hid (b = minA a) := ⟨_, hid rfl⟩
      rw [← hb.out] at hau9
      obtain ⟨A', c', B', d', rfl, rfl, -⟩ := hau9.at_
      have hres9 := hresr.out.below hb9 hresr.out.lt
      have q0 := hres9.cell 0
      have q1 := hres9.cell 1
      have q2 := hres9.cell 2
      have f0 := hres9.frozen 0
      have f1 := hres9.frozen 1
      have f2 := hres9.frozen 2
      simp only [List.getElem?_toArray, List.getElem?_cons_zero, List.getElem?_cons_succ] at q0 q1 q2
      have hB9 := hBr.trans (hb9.mono hBr.size)
      have hz9 := hb9.size
      have hlt2 : w.heap.size + 1 < wr.heap.size := by omega
      replace hau9 := hid hau9
      replace hres9 := hid hres9
      clear d0 d1 d2 htr
      go_wp2
      refine bodyPost_ret (v := .agg #[.int .i64 a.al, .slice A' b.nx.length c', .slice B' b.ac.length d']) (by simp [results, Tryd.results95, go_sem, q0, q1, q2]) rfl ?_
      refine ⟨by (repeat (first | exact Below.refl _ _ | assumption | refine Below.drew ?_ | refine Below.alloc ?_ (by first | omega | (simp; done) | (simp; omega)) _ | refine Below.setCell ?_ (by first | omega | (simp; done) | (simp; omega)) _)), _, _, ys, rfl, ?_⟩
      rw [← hb.out]
      exact (((hau9.out.setFar hlt2 _).setFar hlt2 _).setFar hlt2 _).base (by omega)

set_option maxRecDepth 100000 in
set_option maxHeartbeats 4000000 in
theorem implMinimizeAutomaton_any (a : Au) (A B : Option Addr) (c d : Nat) (w : World) (ha : AuAt w A c B d a) :
    Calls Tryd.prog 37 #[a.val A c B d] w (PrPost w (minX a) (auOk a)) := by
  obtain ⟨w0, hw0, hz0, hB0, hS, -⟩ := boxed2 w #[Value.int IntKind.i64 a.al, Value.slice A a.nx.length c, Value.slice B a.ac.length d] 26 #[Value.int IntKind.i64 0, Value.slice none 0 0, Value.slice none 0 0] 26
  have hres : Blk w0 (w.heap.size + 1) 26 #[Value.int IntKind.i64 0, Value.slice none 0 0, Value.slice none 0 0] := by
    rw [← hw0]
    have := Blk.new (w.alloc (.cells #[Value.int IntKind.i64 a.al, Value.slice A a.nx.length c, Value.slice B a.ac.length d] 26)) 26 #[Value.int IntKind.i64 0, Value.slice none 0 0, Value.slice none 0 0]
    simpa using this
  have ha0 := hid (ha.later hB0)
  have p0 := hS 0 _ rfl _ (Below.refl _ _)
  have p1 := hS 1 _ rfl _ (Below.refl _ _)
  have p2 := hS 2 _ rfl _ (Below.refl _ _)
  obtain ⟨ok, hok⟩ : ∃ ok, Hid (ok = auOk a) := ⟨_, hid rfl⟩
  obtain ⟨b, hb⟩ : ∃ b, Hid (b = minX a) := ⟨_, hid rfl⟩
  replace ha := hid ha
  replace hres := hid hres
  rw [← hb.out, ← hok.out]
  unfold AG.Au.val
  go_enter Tryd.func37, Tryd.ntmps37
  go_wp2_with fail
  refine (implAutomatonValid_any a A B c d w0 ha0.out).mono ?_
  rintro e w1 ⟨rfl, hb1⟩
  rw [← hok.out]
  have hB1 := hB0.trans (hb1.mono hB0.size)
  have hz1 := hb1.size
  have hC1 := hb1.mono hz0
  clear p0 p1 p2 hw0
  cases hokc : ok
  case false =>
    have hbn : Hid (b = auNil) := hid (by rw [hb.out]; unfold minX; rw [← hok.out, hokc]; rfl)
    have hresr := hres.out.below hb1 hres.out.lt
    have q0 := hresr.cell 0
    have q1 := hresr.cell 1
    have q2 := hresr.cell 2
    have f0 := hresr.frozen 0
    have f1 := hresr.frozen 1
    have f2 := hresr.frozen 2
    simp only [List.getElem?_toArray, List.getElem?_cons_zero, List.getElem?_cons_succ] at q0 q1 q2
    subst hokc
    replace hresr := hid hresr
    go_wp2
    refine bodyPost_ret (v := .tuple #[.agg #[.int .i64 0, .slice none 0 0, .slice none 0 0], .bool false]) (by simp [results, Tryd.results37, go_sem, q0, q1, q2]) rfl ?_
    rw [hbn.out]
    exact ⟨by (repeat (first | exact Below.refl _ _ | assumption | refine Below.drew ?_ | refine Below.alloc ?_ (by first | omega | (simp; done) | (simp; omega)) _ | refine Below.setCell ?_ (by first | omega | (simp; done) | (simp; omega)) _)), _, _, _, rfl, AuOwn.nil _ _⟩
  case true =>
  have hoT := hok.out
  rw [hokc] at hoT
  have hbm : Hid (b = minA a) := hid (by rw [hb.out]; unfold minX; rw [← hoT]; rfl)
  have hbal : Hid (b.al = a.al) := hid (by rw [hbm.out]; exact minA_al hoT.symm)
  have hmin := hid (minimize_any a A B c d w1 hoT.symm (ha0.out.later hb1))
  replace hoT := hid hoT
  subst hokc
  have p0 := hS 0 _ rfl _ hC1
  have p1 := hS 1 _ rfl _ hC1
  have p2 := hS 2 _ rfl _ hC1
  go_wp2_with fail
  refine hmin.out.mono ?_
  rintro e w2 ⟨hb2, v1, v2, xs, rfl, hau⟩
  rw [← hbm.out] at hau
  obtain ⟨A', c', B', d', rfl, rfl, -⟩ := hau.at_
  have hresr := hres.out.below (hb1.trans (hb2.mono hz1)) hres.out.lt
  have hB2 := hB1.trans (hb2.mono hB1.size)
  have hz2 := hb2.size
  have q0 := hresr.cell 0
  have q1 := hresr.cell 1
  have q2 := hresr.cell 2
  have f0 := hresr.frozen 0
  have f1 := hresr.frozen 1
  have f2 := hresr.frozen 2
  simp only [List.getElem?_toArray, List.getElem?_cons_zero, List.getElem?_cons_succ] at q0 q1 q2
  have hlt2 : w.heap.size + 1 < w1.heap.size := by omega
  replace hau := hid hau
  replace hresr := hid hresr
  clear p0 p1 p2 hS hmin
  go_wp2
  refine bodyPost_ret (v := .tuple #[.agg #[.int .i64 a.al, .slice A' b.nx.length c', .slice B' b.ac.length d'], .bool true]) (by simp [results, Tryd.results37, go_sem, q0, q1, q2]) rfl ?_
  exact ⟨by (repeat (first | exact Below.refl _ _ | assumption | refine Below.drew ?_ | refine Below.alloc ?_ (by first | omega | (simp; done) | (simp; omega)) _ | refine Below.setCell ?_ (by first | omega | (simp; done) | (simp; omega)) _)), _, _, xs, by rw [hbal.out], (((hau.out.setFar hlt2 _).setFar hlt2 _).setFar hlt2 _).base (by omega)⟩

end Go.Proofs.YtkoganldcmhopaaDoor

/- The laws of least automata. -/
namespace Go.Proofs.YtkoganldcmhopaaDoor
open Go.RowKit Go.BigFrame Go.Maps AG

theorem minX_ok {a : Au} (h : auOk a = true) : minX a = minA a := by unfold minX; rw [if_pos h]
end Go.Proofs.YtkoganldcmhopaaDoor
