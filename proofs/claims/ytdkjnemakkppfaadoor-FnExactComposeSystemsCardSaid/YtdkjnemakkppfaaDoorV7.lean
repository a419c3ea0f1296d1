/- Lemmas, part 7: several texts in one. -/
import Derived.Test.YtdkjnemakkppfaaDoorV6
import Derived.Test.YtdkjnemakkppfaaDoorV5
import Derived.Test.YtdkjnemakkppfaaDoorV3
import Derived.Test.YtdkjnemakkppfaaDoorV4
import Derived.Test.YtdkjnemakkppfaaDoorV1
import Derived.Deep.DeepCutAuto
import Derived.Test.YtdkjnemakkppfaaDoorV2
set_option linter.unusedSimpArgs false
set_option linter.unusedVariables false

/- The search over systems that run together. -/
namespace Go.Proofs.YtdkjnemakkppfaaDoor
open Go.RowKit Go.BigFrame AG

def chTo (s : Sy) (q l k : Nat) : List Nat := ((s.es.take k).filter fun e => e.f.toNat == q && e.l.toNat == l).map (fun e => e.t.toNat)
theorem chTo_hit {s : Sy} {q l k : Nat} (hk : k < s.es.length) (h1 : s.es[k].f.toNat = q) (h2 : s.es[k].l.toNat = l) : chTo s q l (k + 1) = chTo s q l k ++ [s.es[k].t.toNat] := by
  unfold chTo
  rw [List.take_succ_eq_append_getElem hk, List.filter_append, List.map_append]
  simp [h1, h2]
theorem chTo_miss {s : Sy} {q l k : Nat} (hk : k < s.es.length) (h : ¬ (s.es[k].f.toNat = q ∧ s.es[k].l.toNat = l)) : chTo s q l (k + 1) = chTo s q l k := by
  unfold chTo
  rw [List.take_succ_eq_append_getElem hk, List.filter_append, List.map_append]
  have : List.filter (fun e => e.f.toNat == q && e.l.toNat == l) [s.es[k]] = [] := by
    rw [List.filter_cons_of_neg (by simpa using h)]
    rfl
  rw [this]
  simp
theorem chTo_all {s : Sy} {q l : Nat} (h : Has s.al l = true) : chTo s q l s.es.length = chP1 s q l := by
  unfold chTo chP1
  rw [List.take_length, if_pos h]
theorem chTo_len {s : Sy} (hs : sysOk s = true) {q l : Nat} (h : Has s.al l = true) (k : Nat) : (chTo s q l k).length ≤ 16 := by
  refine Nat.le_trans ?_ (chP1_len hs q l)
  rw [← chTo_all h]
  unfold chTo
  rw [List.length_map, List.length_map, List.take_length]
  exact ((List.take_sublist _ _).filter _).length_le

set_option maxRecDepth 100000 in
set_option maxHeartbeats 4000000 in
theorem l4Sizes_sys (xs : List Sy) (AP : Option Addr) (cP : Nat) (c2 : Value) (lt kd gl : Int) (w : World) (h3 : xs.length ≤ 3) (hall : xs.all sysOk = true) (ha : SysAt w w.heap.size AP xs) :
    Calls Tryd.prog 29 #[netV (.slice AP xs.length cP) (.slice none 0 0) c2 lt kd gl] w fun e w' => ∃ v, e = .returned v ∧ OwnNats w' w.heap.size v (szP xs) ∧ Below w.heap.size w w' := by
  obtain ⟨i0, hi, hz0, hz1, hz2⟩ := info_parts infoInt
  obtain ⟨w0, hw0, hzz0, hB0, hSb⟩ := boxed w #[.slice AP xs.length cP, .slice none 0 0, c2, .int .i64 lt, .int .i64 kd, .int .i64 gl] 50
  have ha0 := hid (ha.later hB0)
  have hSp := hid (fun w' (hb : Below w0.heap.size w0 w') => And.intro (hSb 0 _ rfl w' (hb.mono hzz0)) (hSb 1 _ rfl w' (hb.mono hzz0)))
  have hst0 := hid (OrdSt.new0 w0)
  replace ha := hid ha
  replace hall := hid hall
  clear hSb
  unfold netV
  go_enter Tryd.func29, Tryd.ntmps29
  go_upto_region 2 with fail
  obtain ⟨w1, hw1⟩ : ∃ w1, w0.alloc (.cells #[] 3) = w1 := ⟨_, rfl⟩
  rw [hw1] at hst0 ⊢
  clear hw1 hw0
  obtain ⟨p0, p1⟩ := hSp.out w1 hst0.out.below
  go_wp2_with fail
  clear p0 p1
  go_loopw [3, 4] (fun ov iv wr => ∃ (i : Nat) (out : List Nat) (AO : Option Addr) (cO : Nat), ov = .slice AO out.length cO ∧ iv = .int .i64 (i : Nat) ∧ i ≤ xs.length ∧ out = (xs.take i).map (fun s => s.st.toNat) ∧ OrdSt w0 wr (.slice AO out.length cO) out) (fun _ iv _ => xs.length - (intOf iv).toNat)
  case atStart => exact ⟨0, [], _, _, rfl, rfl, Nat.zero_le _, by simp, hst0.out⟩
  case round =>
    clear hst0
    obtain ⟨i, out, AO, cO, rfl, rfl, hi1, hout, hst⟩ := hrel
    have hBm := hst.below
    have hszm := hBm.size
    obtain ⟨p0, p1⟩ := hSp.out wr hBm
    have hol : out.length ≤ 3 := by rw [hout, List.length_map, List.length_take]; omega
    by_cases hil : i < xs.length
    · obtain ⟨b, o, Ai, ci, hAe, hbb, c0, c1, c2', hAl, hAc, hEd⟩ := (ha0.out.later hBm).get hil
      subst hAe
      have q1 := c1 wr (Below.refl _ _)
      have hst1 := sysOk_st (List.all_eq_true.1 hall.out _ (List.getElem_mem hil))
      obtain ⟨n, hn⟩ := Int.eq_ofNat_of_zero_le (show 0 ≤ xs[i].st by omega)
      rw [hn] at q1
      have hnx : Hid (out ++ [n] = (xs.take (i + 1)).map (fun s => s.st.toNat)) := hid (by rw [List.take_succ_eq_append_getElem hil, List.map_append, ← hout]; simp [hn])
      have k1 : (0 : Int) ≤ (i : Int) ∧ (i : Int) < (xs.length : Int) := by omega
      have hst' := hid hst
      replace hout := hid hout
      replace hn := hid hn
      replace hEd := hid hEd
      clear c0 c1 c2' hst hst1
      go_wp2_with (at_builtin; refine wpList_append_own_at _ rfl _ _ 48 rfl w0.heap.size 3 i0 (.int .i64 0) 1 8 Tryd.underlying48 hi hz0 hz1 hz2 rfl (by decide) _ _ _ rfl (hst'.out.own.alloc _) ⟨wr.heap.size, 0, none⟩ 1 1 [.int .i64 (n : Nat)] rfl rfl (cell_one_new _ _ _) (by intro u hu; simp at hu; subst hu; rfl) (by unfold maxLen; omega) (by omega) (by first | omega | (simp; omega)) ?_; intro v7 w7 hO7 hg7 _ hat7; obtain ⟨Av7, cv7, ev7, -, -⟩ := own_slice hO7; subst ev7; have hst7 := hid (hst'.out.app (x := n) hg7 hO7); clear hO7 hg7 hat7)
      go_roundw
      case rel => exact ⟨i + 1, out ++ [n], _, _, by rw [List.length_append]; rfl, by go_num, by omega, hnx.out, by have := hst7.out; rw [List.length_append]; exact this⟩
      case measure => simp [intOf]; omega
    · obtain rfl : i = xs.length := by omega
      rw [List.take_length] at hout
      have hfin : Hid (OwnNats wr w.heap.size (.slice AO out.length cO) (szP xs)) := hid (by unfold szP; rw [← hout]; exact own_base hst.own hB0.size)
      have hB := hB0.trans (hst.below.mono hB0.size)
      replace hst := hid hst
      replace hout := hid hout
      go_wp2_with fail
      obtain ⟨wo, rfl⟩ : ∃ wo : World, wo = wr := ⟨_, rfl⟩
      go_loopw [3, 5] (fun ov iv wr => ov = .slice AO out.length cO ∧ iv = .int .i64 0 ∧ wo = wr) (fun _ _ _ => 0)
      case atStart => exact ⟨rfl, rfl, by first | rfl | trivial⟩
      case round =>
        obtain ⟨rfl, rfl, rfl⟩ := hrel
        go_wp2_with fail
        go_ret
        exact ⟨_, rfl, hfin.out, hB⟩

set_option maxRecDepth 100000 in
set_option maxHeartbeats 4000000 in
theorem l4Choices_sys (xs : List Sy) (AP : Option Addr) (cP : Nat) (c2 : Value) (lt kd gl : Int) (i q l : Nat) (w : World) (hall : xs.all sysOk = true) (hi : i < xs.length) (hq : q < 16) (hl : l < 6) (ha : SysAt w w.heap.size AP xs) :
    Calls Tryd.prog 74 #[netV (.slice AP xs.length cP) (.slice none 0 0) c2 lt kd gl, .int .i64 (i : Nat), .int .i64 (q : Nat), .int .i64 (l : Nat)] w fun e w' => ∃ v, e = .returned v ∧ OwnNats w' w.heap.size v (chP1 xs[i] q l) ∧ Below w.heap.size w w' := by
  obtain ⟨i0, hi0, hz0, hz1, hz2⟩ := info_parts infoInt
  obtain ⟨w0, hw0, hzz0, hB0, hSb⟩ := boxed w #[.slice AP xs.length cP, .slice none 0 0, c2, .int .i64 lt, .int .i64 kd, .int .i64 gl] 50
  have ha0 := ha.later hB0
  have hso := hid (List.all_eq_true.1 hall _ (List.getElem_mem hi))
  obtain ⟨b, o, Ai, ci, hAe, hbb, c0, c1, c2', hAl, hAc, hEd⟩ := ha0.get hi
  subst hAe
  obtain ⟨s, hse⟩ : ∃ s, Hid (s = xs[i]) := ⟨_, hid rfl⟩
  rw [← hse.out] at c0 c1 c2' hAl hEd hso ⊢
  have hSp := hid (fun w' (hb : Below w0.heap.size w0 w') => And.intro (hSb 0 _ rfl w' (hb.mono hzz0)) (And.intro (c0 w' hb) (c2' w' hb)))
  obtain ⟨p0, d0, d2⟩ := hSp.out w0 (Below.refl _ _)
  have hE0 := hid hEd
  have k1 : (0 : Int) ≤ (i : Int) ∧ (i : Int) < (xs.length : Int) := by omega
  have k2 : ¬ ((xs.length : Int) ≤ (i : Int)) := by omega
  replace ha := hid ha
  replace ha0 := hid ha0
  clear hSb hall hEd c0 c1 c2'
  unfold netV
  go_enter Tryd.func74, Tryd.ntmps74
  go_wp2_with fail
  clear hw0
  refine (l1Has_any s.al l w0 (by omega) (by omega)).mono ?_
  rintro e w5 ⟨rfl, rfl⟩
  rw [Int.toNat_natCast]
  cases hH : Has s.al l with
  | false =>
    have hfin := hid (show OwnNats (w0.alloc (.cells #[.int .i64 (q : Nat)] 3)) w.heap.size (.slice (some ⟨w0.heap.size, 0, none⟩) 1 1) (chP1 s q l) from by unfold chP1; rw [if_neg (by rw [hH]; decide)]; exact own_base (OrdSt.new w0 q).own (by omega))
    have hB := hid (hB0.trans (((Below.refl _ _).alloc (Nat.le_refl _) (.cells #[.int .i64 (q : Nat)] 3)).mono hB0.size))
    replace hH := hid hH
    go_wp2_with fail
    go_ret
    exact ⟨_, rfl, hfin.out, hB.out⟩
  | true =>
    have hfin := hid (chTo_all (q := q) hH)
    have hlen := hid (chTo_len hso.out (q := q) hH)
    have hst0 := hid (OrdSt.new0 w0)
    have hin := hid (sysOk_in hso.out)
    replace hH := hid hH
    have hEs : Hid (EdsAt w0 w0.heap.size Ai s.es) := hid (by rw [hse.out]; exact (show EdsAt w0 w0.heap.size Ai xs[i].es from by rw [← hse.out]; exact hE0.out))
    clear p0 d0 d2
    go_upto_region 6 with fail
    obtain ⟨w1, hw1⟩ : ∃ w1, w0.alloc (.cells #[] 3) = w1 := ⟨_, rfl⟩
    rw [hw1] at hst0 ⊢
    clear hw1
    obtain ⟨p0, d0, d2⟩ := hSp.out w1 hst0.out.below
    go_wp2_with fail
    clear p0 d0 d2
    go_loopw [9, 11] (fun ov kv wr => ∃ (k : Nat) (out : List Nat) (AO : Option Addr) (cO : Nat), ov = .slice AO out.length cO ∧ kv = .int .i64 (k : Nat) ∧ k ≤ s.es.length ∧ out = chTo s q l k ∧ OrdSt w0 wr (.slice AO out.length cO) out) (fun _ kv _ => s.es.length - (intOf kv).toNat)
    case atStart => exact ⟨0, [], _, _, rfl, rfl, Nat.zero_le _, by simp [chTo], hst0.out⟩
    case round =>
      clear hst0
      obtain ⟨k, out, AO, cO, rfl, rfl, hk, hout, hst⟩ := hrel
      have hBm := hst.below
      have hszm := hBm.size
      have hol : out.length ≤ 16 := by rw [hout]; exact hlen.out k
      by_cases hkl : k < s.es.length
      · obtain ⟨be, oe, hAe, hbe, hEe⟩ := hEs.out (by omega)
        subst hAe
        obtain ⟨c0, c1, c2'⟩ := hEe k hkl
        rw [← hBm.cell (by simpa using hbe)] at c0 c1 c2'
        obtain ⟨i1, i2, i3, i4, i5, i6, -⟩ := hin.out _ (List.getElem_mem hkl)
        obtain ⟨ef, hef⟩ := Int.eq_ofNat_of_zero_le i1
        obtain ⟨el, hel⟩ := Int.eq_ofNat_of_zero_le i5
        obtain ⟨et, het⟩ := Int.eq_ofNat_of_zero_le i3
        rw [hef] at c0
        rw [hel] at c1
        rw [het] at c2'
        have g1 : s.es[k].f.toNat = ef := by omega
        have g2 : s.es[k].l.toNat = el := by omega
        have g3 : s.es[k].t.toNat = et := by omega
        have hhit := hid (fun h1 h2 => chTo_hit (q := q) (l := l) hkl h1 h2)
        have hmiss := hid (fun h => chTo_miss (q := q) (l := l) hkl h)
        rw [g1, g2, g3] at hhit
        rw [g1, g2] at hmiss
        have k3 : (0 : Int) ≤ (k : Int) ∧ (k : Int) < (s.es.length : Int) := by omega
        have hst' := hid hst
        replace hout := hid hout
        replace hEe := hid hEe
        clear hst hef hel het g1 g2 g3 i1 i2 i3 i4 i5 i6
        by_cases h1 : ef = q
        · by_cases h2 : el = l
          · subst h1
            subst h2
            have hnx : Hid (out ++ [et] = chTo s ef el (k + 1)) := hid (by rw [hhit.out rfl rfl, hout.out])
            clear hhit hmiss
            go_wp2_with (at_builtin; refine wpList_append_own_at _ rfl _ _ 48 rfl w0.heap.size 3 i0 (.int .i64 0) 1 8 Tryd.underlying48 hi0 hz0 hz1 hz2 rfl (by decide) _ _ _ rfl (hst'.out.own.alloc _) ⟨wr.heap.size, 0, none⟩ 1 1 [.int .i64 (et : Nat)] rfl rfl (cell_one_new _ _ _) (by intro u hu; simp at hu; subst hu; rfl) (by unfold maxLen; omega) (by omega) (by first | omega | (simp; omega)) ?_; intro v7 w7 hO7 hg7 _ hat7; obtain ⟨Av7, cv7, ev7, -, -⟩ := own_slice hO7; subst ev7; have hst7 := hid (hst'.out.app (x := et) hg7 hO7); clear hO7 hg7 hat7)
            go_roundw
            case rel => exact ⟨k + 1, out ++ [et], _, _, by rw [List.length_append]; rfl, by go_num, by omega, hnx.out, by have := hst7.out; rw [List.length_append]; exact this⟩
            case measure => simp [intOf]; omega
          · have hnx : Hid (out = chTo s q l (k + 1)) := hid (by rw [hmiss.out (fun h => h2 h.2), hout.out])
            subst h1
            have h2' : ((el : Int) == (l : Int)) = false := by simp; omega
            have h2'' : ¬ ((el : Int) = (l : Int)) := by omega
            clear hhit hmiss
            go_wp2_with fail
            go_roundw
            case rel => exact ⟨k + 1, out, _, _, rfl, by go_num, by omega, hnx.out, hst'.out⟩
            case measure => simp [intOf]; omega
        · have hnx : Hid (out = chTo s q l (k + 1)) := hid (by rw [hmiss.out (fun h => h1 h.1), hout.out])
          have h1' : ((ef : Int) == (q : Int)) = false := by simp; omega
          have h1'' : ¬ ((ef : Int) = (q : Int)) := by omega
          clear hhit hmiss
          go_wp2_with fail
          go_roundw
          case rel => exact ⟨k + 1, out, _, _, rfl, by go_num, by omega, hnx.out, hst'.out⟩
          case measure => simp [intOf]; omega
      · obtain rfl : k = s.es.length := by omega
        rw [hfin.out] at hout
        have hB := hB0.trans (hst.below.mono hB0.size)
        have hown := hid (own_base hst.own (show w.heap.size ≤ w0.heap.size from hB0.size))
        replace hst := hid hst
        replace hout := hid hout
        go_wp2_with fail
        go_ret
        exact ⟨_, rfl, by rw [← hout.out]; exact hown.out, hB⟩


end Go.Proofs.YtdkjnemakkppfaaDoor

/- The reference's DeadlockOf. -/
namespace Go.Proofs.YtdkjnemakkppfaaDoor
open Go.RowKit Go.BigFrame AG

theorem netOk_sys (xs : List Sy) (AP : Option Addr) (cP : Nat) (c2 : Value) (lt kd gl : Int) (w : World) (h3 : xs.length ≤ 3) (hall : xs.all sysOk = true) (ha : SysAt w w.heap.size AP xs) :
    NetOk w (netV (.slice AP xs.length cP) (.slice none 0 0) c2 lt kd gl) (szP xs) (chP xs) := by
  have hat : ∀ {i} (hi : i < xs.length), (szP xs).getD i 1 = xs[i].st.toNat := fun {i} hi => by
    unfold szP
    rw [List.getD_eq_getElem?_getD, List.getElem?_map, List.getElem?_eq_getElem hi]
    rfl
  have hlen : (szP xs).length = xs.length := by unfold szP; rw [List.length_map]
  refine ⟨by rw [hlen]; exact h3, szP_ok hall, fun i q l => ?_, fun i hi q hq l x hx => ?_, fun w' i q l hb hi hq hl => ?_⟩
  · unfold chP
    split
    · next s hs => exact chP1_len (List.all_eq_true.1 hall s (List.mem_of_getElem? hs)) q l
    · simp
  · rw [hlen] at hi
    rw [hat hi] at hq ⊢
    rw [chP_at hi] at hx
    exact chP1_lt (List.all_eq_true.1 hall _ (List.getElem_mem hi)) hq x hx
  · rw [hlen] at hi
    rw [hat hi] at hq
    rw [chP_at hi]
    have hst := sysOk_st (List.all_eq_true.1 hall _ (List.getElem_mem hi))
    exact l4Choices_sys xs AP cP c2 lt kd gl i q l w' hall hi (by omega) hl (ha.later hb)


end Go.Proofs.YtdkjnemakkppfaaDoor

/- What ComposeSystems holds in memory: a list of nodes and a map of numbers. -/
namespace Go.Proofs.YtdkjnemakkppfaaDoor
open Go.RowKit Go.BigFrame Go.Maps AG

/-- A map as a function. -/
structure MapF (D : DataW Unit) (f : Nat → Option Nat) : Prop where
  isMap : Maps.IsMap D
  has : ∀ T : Nat, Maps.has D (.int .i64 (T : Int)) = (f T).isSome
  at_ : ∀ T q, f T = some q → D.atKey (.int .i64 (T : Int)) (.lit (.int .i64 0)) = .lit (.int .i64 ((q : Nat) : Int))
theorem MapF.empty : MapF (.map []) (fun _ => none) := ⟨Maps.isMap_empty, fun T => rfl, fun T q h => (by cases h)⟩
theorem MapF.put {D : DataW Unit} {f : Nat → Option Nat} (h : MapF D f) (T q : Nat) : MapF (D.put (.int .i64 (T : Int)) (.lit (.int .i64 ((q : Nat) : Int)))) (fun x => if x = T then some q else f x) := by
  refine ⟨h.isMap.put _ _, fun x => ?_, fun x r hx => ?_⟩
  · by_cases e : x = T
    · subst e
      rw [Maps.has_put_same h.isMap (show WideAt.IsKeyLit (Lit.int .i64 (x : Int)) from trivial), if_pos rfl]
      rfl
    · rw [Maps.has_put_other (key_ne e), h.has x, if_neg e]
  · by_cases e : x = T
    · subst e
      rw [if_pos rfl] at hx
      injection hx with hx
      subst hx
      rw [Maps.atKey_put_same h.isMap (show WideAt.IsKeyLit (Lit.int .i64 (x : Int)) from trivial)]
    · rw [if_neg e] at hx
      rw [Maps.atKey_put_other (key_ne e), h.at_ x r hx]
theorem MapF.congr {D : DataW Unit} {f g : Nat → Option Nat} (h : MapF D f) (e : ∀ x, f x = g x) : MapF D g := by
  have : f = g := funext e
  rw [← this]
  exact h

structure CmSt (w wr : World) (B : Nat) (vP : Value) (ps : List Nat) (m : Nat) (D : DataW Unit) (f : Nat → Option Nat) : Prop where
  below : Below w.heap.size w wr
  own : wr.ownsRow w.heap.size 3 1 vP ps.length (natVals ps)
  map_ : wr.ownsMap Tryd.prog 3 (plainElem Tryd.prog 3) B m D
  ix : MapF D f
  geB : w.heap.size ≤ B
section
variable {w wr w1 : World} {B : Nat} {vP v' : Value} {ps : List Nat} {m : Nat} {D D' : DataW Unit} {f : Nat → Option Nat} {T q : Nat} {o : Obj}
theorem CmSt.later (h : CmSt w wr B vP ps m D f) (hb : Below wr.heap.size wr w1) : CmSt w w1 B vP ps m D f :=
  ⟨h.below.trans (hb.mono h.below.size), own_later_ h.own hb, h.map_.kept (grown_of_below hb) (by simp), h.ix, h.geB⟩
theorem CmSt.ne (h : CmSt w wr B vP ps m D f) : vP.ownBlock ≠ some B := fun e => own_ne_map h.own h.map_ B e rfl
/-- A node more. -/
theorem CmSt.app (h : CmSt w wr B vP ps m D f) (hg : (wr.alloc o).grownBy w1 vP.ownBlock) (ho : w1.ownsRow w.heap.size 3 1 v' (ps.length + 1) (natVals ps ++ [.int .i64 (T : Nat)])) : CmSt w w1 B v' (ps ++ [T]) m D f := by
  have hkA : KeepB (fun b => vP.ownBlock = some b) wr w1 := ((KeepB.refl _ wr).alloc o).grown hg fun k hk _ => hk
  refine ⟨hkA.below h.below h.below.size fun b e => own_block h.own b e, ?_, (h.map_.alloc o).kept hg fun e => h.ne e.symm, h.ix, h.geB⟩
  rw [List.length_append]
  unfold natVals at ho ⊢
  rw [List.map_append]
  exact ho
/-- A number is set. -/
theorem CmSt.put (h : CmSt w wr B vP ps m D f) (hm : w1.ownsMap Tryd.prog 3 (plainElem Tryd.prog 3) B (m + 1) (D.put (.int .i64 (T : Int)) (.lit (.int .i64 ((q : Nat) : Int))))) (hg : wr.grownBy w1 (some B)) :
    CmSt w w1 B vP ps (m + 1) (D.put (.int .i64 (T : Int)) (.lit (.int .i64 ((q : Nat) : Int)))) (fun x => if x = T then some q else f x) := by
  have hkA : KeepB (fun b => b = B) wr w1 := (KeepB.refl _ wr).grown hg fun k hk _ => by injection hk with hk; exact hk.symm
  exact ⟨hkA.below h.below h.below.size fun b e => by rw [e]; exact h.geB, own_keep h.own hkA fun g hg e => own_ne_map h.own h.map_ g hg e, hm, h.ix.put T q, h.geB⟩
end

/-- The nodes that have a number. -/
def memF (ps : List Nat) (x : Nat) : Option Nat := if x ∈ ps then some 0 else none
/-- The first i nodes have their own numbers. -/
def numF (ps : List Nat) (i : Nat) (x : Nat) : Option Nat := if x ∈ ps.take i then some (ps.idxOf x) else memF ps x
theorem memF_snoc (ps : List Nat) (T : Nat) (x : Nat) : (if x = T then some 0 else memF ps x) = memF (ps ++ [T]) x := by
  unfold memF
  by_cases e : x = T
  · simp [e]
  · simp [e]
theorem numF_zero (ps : List Nat) (x : Nat) : numF ps 0 x = memF ps x := by unfold numF; simp
theorem numF_next {ps : List Nat} (hnd : ps.Nodup) {i : Nat} (hi : i < ps.length) (x : Nat) : (if x = ps[i] then some i else numF ps i x) = numF ps (i + 1) x := by
  unfold numF
  by_cases e : x = ps[i]
  · subst e
    rw [if_pos rfl, if_pos (by rw [List.take_succ_eq_append_getElem hi]; exact List.mem_append_right _ (List.mem_singleton.2 rfl)), hnd.idxOf_getElem i hi]
  · rw [if_neg e]
    have : x ∈ ps.take (i + 1) ↔ x ∈ ps.take i := by rw [List.take_succ_eq_append_getElem hi, List.mem_append, List.mem_singleton]; simp [e]
    by_cases h : x ∈ ps.take i
    · rw [if_pos h, if_pos (this.2 h)]
    · rw [if_neg h, if_neg (fun k => h (this.1 k))]
theorem numF_all {ps : List Nat} {x : Nat} (h : x ∈ ps) : numF ps ps.length x = some (ps.idxOf x) := by unfold numF; rw [List.take_length, if_pos h]
/-- The number of a node in the sorted list is its rank. -/
theorem idx_rank {ss : List Sy} (hall : ss.all sysOk = true) {n : Nat} (h : Rn ss n) : (rnL ss).idxOf n = rkN ss n := by
  have hm := (rnL_mem hall).2 h
  obtain ⟨i, hi, rfl⟩ := List.getElem_of_mem hm
  rw [rnL_get hall hi, (show (rnL ss).Nodup from (rnL_sorted ss).imp fun h => Nat.ne_of_lt h).idxOf_getElem i hi]
/-- The search begins. -/
theorem RnB.start (ss : List Sy) : RnB ss [0] 0 := ⟨by simp, by simp, fun p hp => by rw [List.mem_singleton.1 hp]; exact Rn.zero ss, fun j _ h => by omega⟩

/-- A round of the search under way: the letters before the k-th and the first j nodes of the k-th are gone through. -/
structure RnR (ss : List Sy) (ps : List Nat) (i n k j : Nat) : Prop where
  base : RnB ss ps i
  at_ : ps[i]? = some n
  letters : ∀ a (h : a < (AG.letters (allAl ss)).length), a < k → ∀ m ∈ nxParts ss n ((AG.letters (allAl ss))[a]), m ∈ ps
  nodes : ∀ h : k < (AG.letters (allAl ss)).length, ∀ m ∈ (nxParts ss n ((AG.letters (allAl ss))[k])).take j, m ∈ ps
theorem RnR.reached {ss : List Sy} {ps : List Nat} {i n k j : Nat} (h : RnR ss ps i n k j) : Rn ss n := h.base.sound _ (List.mem_of_getElem? h.at_)
theorem RnR.lt {ss : List Sy} {ps : List Nat} {i n k j : Nat} (h : RnR ss ps i n k j) : i < ps.length := by
  have := h.at_
  rw [List.getElem?_eq_some_iff] at this
  exact this.1
theorem RnR.start {ss : List Sy} {ps : List Nat} {i n : Nat} (h : RnB ss ps i) (hi : ps[i]? = some n) : RnR ss ps i n 0 0 := ⟨h, hi, fun a _ h => by omega, fun _ m hm => by simp at hm⟩
theorem RnR.old {ss : List Sy} {ps : List Nat} {i n k j : Nat} (h : RnR ss ps i n k j) (hk : k < (AG.letters (allAl ss)).length) (hj : j < (nxParts ss n ((AG.letters (allAl ss))[k])).length) (hm : (nxParts ss n ((AG.letters (allAl ss))[k]))[j] ∈ ps) : RnR ss ps i n k (j + 1) :=
  ⟨h.base, h.at_, h.letters, fun hk' m hm' => by
    rw [List.take_succ_eq_append_getElem hj, List.mem_append, List.mem_singleton] at hm'
    rcases hm' with h1 | rfl
    · exact h.nodes hk' m h1
    · exact hm⟩
theorem RnR.new {ss : List Sy} {ps : List Nat} {i n k j : Nat} (h : RnR ss ps i n k j) (hk : k < (AG.letters (allAl ss)).length) (hj : j < (nxParts ss n ((AG.letters (allAl ss))[k])).length) (hm : (nxParts ss n ((AG.letters (allAl ss))[k]))[j] ∉ ps) : RnR ss (ps ++ [(nxParts ss n ((AG.letters (allAl ss))[k]))[j]]) i n k (j + 1) := by
  have hlt := h.lt
  have hget : ∀ a (ha : a < ps.length) (ha' : a < (ps ++ [(nxParts ss n ((AG.letters (allAl ss))[k]))[j]]).length), (ps ++ [(nxParts ss n ((AG.letters (allAl ss))[k]))[j]])[a] = ps[a] := fun a ha _ => List.getElem_append_left ha
  have hR : Rn ss (nxParts ss n ((AG.letters (allAl ss))[k]))[j] := h.reached.step (List.getElem_mem hk) (List.getElem_mem hj)
  refine ⟨⟨?_, List.mem_append_left _ h.base.zero, fun p hp => ?_, fun a ha hai l hl m hm' => ?_⟩, ?_, fun a ha hak m hm' => ?_, fun hk' m hm' => ?_⟩
  · rw [List.nodup_append]
    exact ⟨h.base.nodup, by simp, fun a ha b hb e => hm (by rw [← List.mem_singleton.1 hb, ← e]; exact ha)⟩
  · rcases List.mem_append.1 hp with hp | hp
    · exact h.base.sound p hp
    · rw [List.mem_singleton.1 hp]; exact hR
  · rw [hget a (by omega) ha] at hm'
    exact List.mem_append_left _ (h.base.done a (by omega) hai l hl m hm')
  · rw [List.getElem?_append_left hlt]; exact h.at_
  · exact List.mem_append_left _ (h.letters a ha hak m hm')
  · rw [List.take_succ_eq_append_getElem hj, List.mem_append, List.mem_singleton] at hm'
    rcases hm' with h1 | rfl
    · exact List.mem_append_left _ (h.nodes hk' m h1)
    · exact List.mem_append_right _ (List.mem_singleton.2 rfl)
theorem RnR.letter {ss : List Sy} {ps : List Nat} {i n k j : Nat} (h : RnR ss ps i n k j) (hk : k < (AG.letters (allAl ss)).length) (hj : j = (nxParts ss n ((AG.letters (allAl ss))[k])).length) : RnR ss ps i n (k + 1) 0 :=
  ⟨h.base, h.at_, fun a ha hak m hm => by
    by_cases e : a = k
    · subst e
      exact h.nodes hk m (by rw [List.take_of_length_le (Nat.le_of_eq hj.symm)]; exact hm)
    · exact h.letters a ha (by omega) m hm, fun _ m hm => by simp at hm⟩
theorem RnR.next {ss : List Sy} {ps : List Nat} {i n j : Nat} (h : RnR ss ps i n (AG.letters (allAl ss)).length j) : RnB ss ps (i + 1) :=
  ⟨h.base.nodup, h.base.zero, h.base.sound, fun a ha hai l hl m hm => by
    by_cases e : a = i
    · subst e
      obtain ⟨b, hb, rfl⟩ := List.getElem_of_mem hl
      have hn : ps[a] = n := by
        have := h.at_
        rw [List.getElem?_eq_getElem ha] at this
        exact Option.some.inj this
      rw [hn] at hm
      exact h.letters b hb hb m hm
    · exact h.base.done a ha (by omega) l hl m hm⟩
theorem RnR.few {ss : List Sy} (hall : ss.all sysOk = true) {ps : List Nat} {i n k j : Nat} (h : RnR ss ps i n k j) : ps.length ≤ prodL (szP ss) := Nat.le_trans (h.base.many hall) (rnL_le ss)

end Go.Proofs.YtdkjnemakkppfaaDoor

/- Plain: the edges of a composition under way; tables of truth values and ranks. -/
namespace Go.Proofs.YtdkjnemakkppfaaDoor
open AG

noncomputable def mkE (ss : List Sy) (n l m : Nat) : Ed := ⟨(rkN ss n : Int), (l : Int), (rkN ss m : Int)⟩
noncomputable def rowTo (ss : List Sy) (n k : Nat) : List Ed := ((letters (allAl ss)).take k).flatMap fun l => (nxParts ss n l).map (mkE ss n l)
theorem rowTo_zero (ss : List Sy) (n : Nat) : rowTo ss n 0 = [] := rfl
theorem rowTo_succ {ss : List Sy} {n k : Nat} (hk : k < (letters (allAl ss)).length) : rowTo ss n (k + 1) = rowTo ss n k ++ (nxParts ss n (letters (allAl ss))[k]).map (mkE ss n (letters (allAl ss))[k]) := by
  unfold rowTo
  rw [List.take_succ_eq_append_getElem hk, List.flatMap_append]
  simp
theorem rowTo_all (ss : List Sy) (n : Nat) : rowTo ss n (letters (allAl ss)).length = cmRow ss n := by
  unfold rowTo cmRow
  rw [List.take_length]
  rfl
theorem map_take_snoc {α β : Type} {l : List α} {f : α → β} {j : Nat} (h : j < l.length) : (l.take (j + 1)).map f = (l.take j).map f ++ [f l[j]] := by
  rw [List.take_succ_eq_append_getElem h, List.map_append]
  rfl
open Classical in
noncomputable def rnTo (ss : List Sy) (i : Nat) : List Nat := (List.range i).filter fun n => decide (Rn ss n)
open Classical in
theorem rnTo_succ (ss : List Sy) (i : Nat) : (Rn ss i → rnTo ss (i + 1) = rnTo ss i ++ [i]) ∧ (¬ Rn ss i → rnTo ss (i + 1) = rnTo ss i) := by
  unfold rnTo
  rw [List.range_succ, List.filter_append]
  constructor
  · intro h; simp [h]
  · intro h; simp [h]
theorem rnTo_all (ss : List Sy) : rnTo ss (prodL (szP ss)) = rnL ss := rfl
noncomputable def esTo (ss : List Sy) (ps : List Nat) : List Ed := ps.flatMap (cmRow ss)
theorem esTo_snoc (ss : List Sy) (ps : List Nat) (n : Nat) : esTo ss (ps ++ [n]) = esTo ss ps ++ cmRow ss n := by unfold esTo; rw [List.flatMap_append]; simp
theorem esTo_all (ss : List Sy) : esTo ss (rnL ss) = cmEs ss := rfl
theorem flat_le {α β : Type} (l : List α) (f : α → List β) (k : Nat) (h : ∀ a ∈ l, (f a).length ≤ k) : (l.flatMap f).length ≤ l.length * k := by
  induction l with
  | nil => simp
  | cons a l ih =>
    rw [List.flatMap_cons, List.length_append, List.length_cons, Nat.add_mul]
    have := h a List.mem_cons_self
    have := ih fun b hb => h b (List.mem_cons_of_mem _ hb)
    omega
theorem nxParts_le {ss : List Sy} (hall : ss.all sysOk = true) (h3 : ss.length ≤ 3) (n l : Nat) : (nxParts ss n l).length ≤ 4096 := by
  obtain ⟨-, -, h, -⟩ := pst_ok hall l n ss.length (Nat.le_refl _)
  have h2 : 16 ^ ss.length ≤ 16 ^ 3 := Nat.pow_le_pow_right (by decide) h3
  unfold nxParts
  omega
theorem cmRow_le {ss : List Sy} (hall : ss.all sysOk = true) (h3 : ss.length ≤ 3) (n : Nat) : (cmRow ss n).length ≤ 24576 := by
  unfold cmRow
  have h6 : (letters (allAl ss)).length ≤ 6 := lettersTo_len _ 6
  refine Nat.le_trans (flat_le _ _ 4096 fun l _ => by rw [List.length_map]; exact nxParts_le hall h3 n l) ?_
  omega
theorem rowTo_le {ss : List Sy} (hall : ss.all sysOk = true) (h3 : ss.length ≤ 3) (n k : Nat) : (rowTo ss n k).length ≤ 24576 := by
  unfold rowTo
  have h6 : ((letters (allAl ss)).take k).length ≤ 6 := by rw [List.length_take]; have : (letters (allAl ss)).length ≤ 6 := lettersTo_len _ 6; omega
  refine Nat.le_trans (flat_le _ _ 4096 fun l _ => by rw [List.length_map]; exact nxParts_le hall h3 n l) ?_
  omega
theorem esTo_le {ss : List Sy} (hall : ss.all sysOk = true) (h3 : ss.length ≤ 3) (ps : List Nat) : (esTo ss ps).length ≤ ps.length * 24576 := flat_le _ _ _ fun n _ => cmRow_le hall h3 n

/- Truth values in a table. -/
open Classical in
noncomputable def rnB (ss : List Sy) : List Bool := (List.range (prodL (szP ss))).map fun n => decide (Rn ss n)
open Classical in
theorem rnB_len (ss : List Sy) : (rnB ss).length = prodL (szP ss) := by unfold rnB; rw [List.length_map, List.length_range]
open Classical in
theorem rnB_at {ss : List Sy} {i : Nat} (h : i < (rnB ss).length) : (rnB ss)[i] = decide (Rn ss i) := by simp only [rnB, List.getElem_map, List.getElem_range]
/-- How many of the first n are true. -/
def cntT (bs : List Bool) (n : Nat) : Nat := ((bs.take n).filter fun b => b).length
theorem cntT_succ {bs : List Bool} {n : Nat} (h : n < bs.length) : cntT bs (n + 1) = cntT bs n + if bs[n] = true then 1 else 0 := by
  unfold cntT
  rw [List.take_succ_eq_append_getElem h, List.filter_append, List.length_append]
  cases bs[n] <;> rfl
theorem cntT_le (bs : List Bool) (n : Nat) : cntT bs n ≤ n := by
  unfold cntT
  refine Nat.le_trans (List.length_filter_le _ _) ?_
  rw [List.length_take]
  omega
theorem cntT_rank (ss : List Sy) : ∀ n, n ≤ prodL (szP ss) → cntT (rnB ss) n = rkN ss n
  | 0, _ => rfl
  | n + 1, h => by
    have hl : n < (rnB ss).length := by rw [rnB_len]; omega
    rw [cntT_succ hl, cntT_rank ss n (by omega), rnB_at hl]
    by_cases hr : Rn ss n
    · rw [if_pos (by simpa using hr), (rkN_succ ss n).1 hr]
    · rw [if_neg (by simpa using hr), (rkN_succ ss n).2 hr, Nat.add_zero]
/-- Where more than sixteen nodes are found the systems cannot be composed. -/
theorem many_bad {s t : Sy} (hs : sysOk s = true) (ht : sysOk t = true) {ps : List Nat} {i : Nat} (h : RnB [s, t] ps i) (hm : 16 < ps.length) : cmOk s t = false := by
  have := h.many (all_two hs ht)
  unfold cmOk
  rw [hs, ht, decide_eq_false (by omega)]
  rfl

end Go.Proofs.YtdkjnemakkppfaaDoor

/- The reference's pairs of states that are reached. -/
namespace Go.Proofs.YtdkjnemakkppfaaDoor
open Go.RowKit Go.BigFrame AG

set_option maxRecDepth 100000 in
set_option maxHeartbeats 4000000 in
theorem l7Rank_any (bs : List Bool) (A : Option Addr) (c n : Nat) (w : World) (hn : n ≤ bs.length) (hl : bs.length ≤ 4096) (hc : bs.length ≤ c) (hc' : c ≤ 9223372036854775807) (hr : BoolsAt w w.heap.size A bs) :
    Calls Tryd.prog 31 #[.slice A bs.length c, .int .i64 (n : Nat)] w fun e w' => e = .returned (.int .i64 (cntT bs n : Nat)) ∧ w' = w := by
  replace hr := hid hr
  go_enter Tryd.func31, Tryd.ntmps31
  go_wp2_with fail
  go_loopw [5, 6] (fun ov iv wr => ∃ i : Nat, iv = .int .i64 (i : Nat) ∧ ov = .int .i64 (cntT bs i : Nat) ∧ i ≤ n ∧ w = wr) (fun _ iv _ => n - (intOf iv).toNat)
  case atStart => exact ⟨0, rfl, rfl, Nat.zero_le _, by first | rfl | trivial⟩
  case round =>
    obtain ⟨i, rfl, rfl, hi, rfl⟩ := hrel
    obtain ⟨q, hq⟩ : ∃ q, Hid (q = cntT bs i) := ⟨_, hid rfl⟩
    have hqi : q ≤ 4096 := by rw [hq.out]; have := cntT_le bs i; omega
    rw [← hq.out]
    by_cases hin : i < n
    · obtain ⟨b, o, hA, hb, hE⟩ := hr.out (by omega)
      subst hA
      have hib : i < bs.length := by omega
      have c0 := hE i hib
      have hs := hid (cntT_succ hib)
      rw [← hq.out] at hs
      have k1 : (0 : Int) ≤ (i : Int) ∧ (i : Int) < (bs.length : Int) := by omega
      obtain ⟨v, hv⟩ : ∃ v, Hid (v = bs[i]) := ⟨_, hid rfl⟩
      rw [← hv.out] at c0 hs
      replace hE := hid hE
      cases v with
      | true =>
        go_wp2_with fail
        go_roundw
        case rel => exact ⟨i + 1, by go_num, by rw [hs.out]; go_num, hin, by first | rfl | trivial⟩
        case measure => simp [intOf]; omega
      | false =>
        go_wp2_with fail
        go_roundw
        case rel => exact ⟨i + 1, by go_num, by rw [hs.out]; rfl, hin, by first | rfl | trivial⟩
        case measure => simp [intOf]; omega
    · obtain rfl : i = n := by omega
      go_wp2_with fail
      go_ret
      have hq' := hq.out
      subst hq'
      exact ⟨rfl, rfl⟩

/-- A list of nodes, other lists of numbers and a table of what lies in the list, under way. -/
structure PaF (w0 wr : World) (g N : Nat) (v : Value) (ps qs : List Nat) (fs : List NLeaf) : Prop where
  below : Below w0.heap.size w0 wr
  fam : FamG wr w0.heap.size (leafT (v, ps) :: fs.map leafT)
  geg : w0.heap.size ≤ g
  tab : ∃ cs, Blk wr g 4 cs ∧ cs.size = N ∧ ∀ p, p < N → cs[p]? = some (.bool (decide (p ∈ qs)))
theorem natVals_length (ns : List Nat) : (natVals ns).length = ns.length := by unfold natVals; rw [List.length_map]
section
variable {w0 wr w' w1 : World} {g N : Nat} {v v' vM : Value} {ps qs M : List Nat} {x : Nat} {o : Obj} {fs : List NLeaf}
theorem PaF.later (h : PaF w0 wr g N v ps qs fs) (hb : Below wr.heap.size wr w') : PaF w0 w' g N v ps qs fs := by
  obtain ⟨cs, b, s, c⟩ := h.tab
  exact ⟨h.below.trans (hb.mono h.below.size), h.fam.later hb, h.geg, cs, b.below hb b.lt, s, c⟩
theorem PaF.set_ (h : PaF w0 wr g N v ps qs fs) (hx : x < N) : PaF w0 (wr.setCell ⟨g, x, none⟩ (.bool true)) g N v ps (qs ++ [x]) fs := by
  obtain ⟨cs, b, s, c⟩ := h.tab
  have hk : KeepB (fun b => b = g) wr (wr.setCell ⟨g, x, none⟩ (.bool true)) := (KeepB.refl _ wr).setCell _ _ fun _ => rfl
  refine ⟨hk.below h.below h.below.size fun b e => by rw [e]; exact h.geg, h.fam.keep hk fun f hf k e he => ?_, h.geg, _, b.set_ _ _, by simpa using s, fun p hp => ?_⟩
  · have ht : f.1 = 3 := by
      rcases List.mem_cons.1 hf with rfl | hf
      · rfl
      · obtain ⟨y, -, rfl⟩ := List.mem_map.1 hf; rfl
    exact own_ne (h.fam.rows f hf) b (by rw [ht]; decide) k e he
  by_cases e : p = x
  · subst e
    rw [Array.getElem?_setIfInBounds_self_of_lt (by omega)]
    simp
  · rw [Array.getElem?_setIfInBounds_ne (Ne.symm e), c p hp]
    simp [e]
theorem PaF.own (h : PaF w0 wr g N v ps qs fs) : OwnNats wr w0.heap.size v ps := by
  have := h.fam.rows (leafT (v, ps)) List.mem_cons_self
  unfold leafT at this
  simp only [natVals_length] at this
  exact this
theorem PaF.get (h : PaF w0 wr g N v ps qs fs) (hm : (vM, M) ∈ fs) : OwnNats wr w0.heap.size vM M := by
  have := h.fam.rows (leafT (vM, M)) (List.mem_cons_of_mem _ (List.mem_map.2 ⟨_, hm, rfl⟩))
  unfold leafT at this
  simp only [natVals_length] at this
  exact this
theorem PaF.app (h : PaF w0 wr g N v ps qs fs) (hg : (wr.alloc o).grownBy w1 v.ownBlock) (ho : w1.ownsRow w0.heap.size 3 1 v' (ps.length + 1) (natVals ps ++ [.int .i64 (x : Nat)])) (hat : v'.ownBlock = v.ownBlock ∨ v'.ownBlock = some (wr.alloc o).heap.size) : PaF w0 w1 g N v' (ps ++ [x]) qs fs := by
  obtain ⟨cs, b, s, c⟩ := h.tab
  have hkA : KeepB (fun b => v.ownBlock = some b) wr w1 := ((KeepB.refl _ wr).alloc o).grown hg fun k hk _ => hk
  have hb1 : Below wr.heap.size wr (wr.alloc o) := (Below.refl _ _).alloc (Nat.le_refl _) _
  have hF := (h.fam.later hb1).app0 (l1 := []) (f := leafT (v, ps)) (l2 := fs.map leafT) (v' := v') (ys' := natVals (ps ++ [x])) hg (by
    rw [natVals_length, List.length_append]
    unfold natVals at ho ⊢
    rw [List.map_append]
    exact ho) hat
  exact ⟨hkA.below h.below h.below.size fun b e => own_block h.own b e, hF, h.geg, cs, b.keep hkA fun e => own_ne h.own b (by decide) g e rfl, s, c⟩
theorem PaF.add (h : PaF w0 wr g N v ps qs fs) (hb : Below wr.heap.size wr w') (ho : OwnNats w' wr.heap.size vM M) : PaF w0 w' g N v ps qs ((vM, M) :: fs) := by
  have hl := h.later hb
  refine ⟨hl.below, ?_, hl.geg, hl.tab⟩
  have := h.fam.add (t := 3) (v := vM) (ys := natVals M) hb h.below.size (by rw [natVals_length]; exact ho)
  exact this.perm (List.Perm.swap _ _ _)
theorem PaF.drop (h : PaF w0 wr g N v ps qs ((vM, M) :: fs)) : PaF w0 wr g N v ps qs fs := by
  refine ⟨h.below, ⟨fun f hf => h.fam.rows f ?_, ?_⟩, h.geg, h.tab⟩
  · rcases List.mem_cons.1 hf with rfl | hf
    · exact List.mem_cons_self
    · exact List.mem_cons_of_mem _ (List.mem_cons_of_mem _ hf)
  · exact h.fam.apart.sublist (List.Sublist.cons_cons _ (List.Sublist.cons _ (List.Sublist.refl _)))
theorem PaF.cell (h : PaF w0 wr g N v ps qs fs) (hx : x < N) : wr.cell? ⟨g, x, none⟩ = some (.bool (decide (x ∈ qs))) := by
  obtain ⟨cs, b, s, c⟩ := h.tab
  rw [b.cell]
  exact c x hx
theorem PaF.frozen (h : PaF w0 wr g N v ps qs fs) (i : Nat) : wr.frozen? ⟨g, i, none⟩ = false := by
  obtain ⟨cs, b, s, c⟩ := h.tab
  exact b.frozen i
theorem PaF.lt (h : PaF w0 wr g N v ps qs fs) : g < wr.heap.size := by
  obtain ⟨cs, b, s, c⟩ := h.tab
  exact b.lt
end

end Go.Proofs.YtdkjnemakkppfaaDoor

/- The reference's l7Pairs. -/
namespace Go.Proofs.YtdkjnemakkppfaaDoor
open Go.RowKit Go.BigFrame AG

set_option maxRecDepth 100000 in
set_option maxHeartbeats 16000000 in
theorem l7Pairs_any (ss : List Sy) (AP A : Option Addr) (cP c : Nat) (c2 : Value) (kd gl : Int) (w : World) (h2 : ss.length = 2) (hall : ss.all sysOk = true) (ha : SysAt w w.heap.size AP ss) (hsc : (szP ss).length ≤ c) (hc : c ≤ 9223372036854775807) (hr : NatsAt w w.heap.size A (szP ss)) :
    Calls Tryd.prog 30 #[netV (.slice AP ss.length cP) (.slice none 0 0) c2 (allAl ss) kd gl, .slice A (szP ss).length c] w fun e w' => ∃ AB cB, e = .returned (.slice AB (rnB ss).length cB) ∧ (rnB ss).length ≤ cB ∧ cB ≤ 9223372036854775807 ∧ BoolsAt w' w'.heap.size AB (rnB ss) ∧ Below w.heap.size w w' := by
  obtain ⟨i0, hi, hz0, hz1, hz2⟩ := info_parts infoInt
  obtain ⟨b0, hbi, hb0, hb1', hb2⟩ := info_parts infoBool
  have hszl : (szP ss).length = 2 := by unfold szP; rw [List.length_map, h2]
  have hok := hid (szP_ok hall)
  have hs1 : Hid (∀ a ∈ szP ss, 1 ≤ a) := hid fun a ha => (hok.out a ha).1
  have hp4 := prodP_4096 hall (by omega)
  obtain ⟨N, hN⟩ : ∃ N, Hid (N = prodL (szP ss)) := ⟨_, hid rfl⟩
  rw [← hN.out] at hp4
  obtain ⟨hp1, hpl⟩ := hp4
  have hmk := fun W => run_make_rowN (P := Tryd.prog) 52 4 b0 _ Tryd.underlying52 hbi hb0 .i64 .i64 N N (Nat.le_refl _) (by rw [hb2]; omega) (by omega) W
  rw [hb1', Nat.mul_one] at hmk
  have hmk' : Hid (∀ W : World, (Instr.makeSlice 52 (.int .i64 (N : Int)) (.int .i64 (N : Int))).run Tryd.prog W = .ok (.slice (some ⟨W.heap.size, 0, none⟩) N N) (W.alloc (.cells (madeCells #[.bool false] N) 4))) := hid hmk
  clear hmk
  obtain ⟨lt, hlt⟩ : ∃ lt, Hid (lt = allAl ss) := ⟨_, hid rfl⟩
  obtain ⟨L, hL⟩ : ∃ L, Hid (L = letters lt) := ⟨_, hid rfl⟩
  have hL6 : L.length ≤ 6 := by rw [hL.out]; exact letters_len6 lt
  have hlL : Hid (∀ l ∈ L, l < 6) := hid fun l hl => by rw [hL.out] at hl; exact (letters_lt hl).1
  obtain ⟨w0, hw0, hzz0, hB0, hSb⟩ := boxed w #[.slice AP ss.length cP, .slice none 0 0, c2, .int .i64 (allAl ss), .int .i64 kd, .int .i64 gl] 50
  have hr0 := hid (hr.later hB0)
  have ha0 := hid (ha.later hB0)
  rw [← hlt.out] at hSb hw0 ⊢
  have hSp := hid (fun w' (hb : Below w0.heap.size w0 w') => And.intro (And.intro (hSb 0 _ rfl w' (hb.mono hzz0)) (And.intro (hSb 1 _ rfl w' (hb.mono hzz0)) (hSb 2 _ rfl w' (hb.mono hzz0)))) (And.intro (hSb 3 _ rfl w' (hb.mono hzz0)) (And.intro (hSb 4 _ rfl w' (hb.mono hzz0)) (hSb 5 _ rfl w' (hb.mono hzz0)))))
  obtain ⟨bA, oA, hAe, hbA, hEA⟩ := hr0.out (by omega)
  subst hAe
  have hA0 := hEA 0 (by omega)
  have hA1 := hEA 1 (by omega)
  obtain ⟨a, haE⟩ : ∃ a, Hid (a = (szP ss)[0]) := ⟨_, hid rfl⟩
  obtain ⟨b, hbE⟩ : ∃ b, Hid (b = (szP ss)[1]) := ⟨_, hid rfl⟩
  have ha16 : a ≤ 16 := by rw [haE.out]; exact (hok.out _ (List.getElem_mem _)).2
  have hb16 : b ≤ 16 := by rw [hbE.out]; exact (hok.out _ (List.getElem_mem _)).2
  have hNab : Hid (a * b = N) := hid (by
    rw [hN.out, haE.out, hbE.out]
    obtain ⟨x, y, hxy⟩ : ∃ x y, szP ss = [x, y] := by
      match szP ss, hszl with
      | [x, y], _ => exact ⟨x, y, rfl⟩
    have : prodL [x, y] = x * y := by show x * (y * 1) = x * y; rw [Nat.mul_one]
    simp only [hxy, this, List.getElem_cons_zero, List.getElem_cons_succ])
  rw [← haE.out] at hA0
  rw [← hbE.out] at hA1
  rw [Nat.add_zero] at hA0
  have e5 : wrap64 ((a : Int) * (b : Int)) = (N : Int) := by rw [← Int.natCast_mul, hNab.out]; exact IntWalk.wrap64_in _ ⟨by omega, by omega⟩
  have k1 : (0 : Int) < ((szP ss).length : Int) := by omega
  have k2 : (1 : Int) < ((szP ss).length : Int) := by omega
  replace hr := hid hr
  replace ha := hid ha
  replace h2 := hid h2
  clear haE hbE
  replace hszl := hid hszl
  replace hEA := hid hEA
  replace hall := hid hall
  clear hSb
  unfold netV
  go_enter Tryd.func30, Tryd.ntmps30
  go_upto_region 1 with fail
  try rw [hw0]
  have y0 : ∀ x', (Fam w0.heap.size w0 x').cell? ⟨bA, oA, none⟩ = some (.int .i64 (a : Nat)) := fun x' => by rw [(Fam.below w0.heap.size w0 x').cell (by simpa using hbA)]; exact hA0
  have y1 : ∀ x', (Fam w0.heap.size w0 x').cell? ⟨bA, oA + 1, none⟩ = some (.int .i64 (b : Nat)) := fun x' => by rw [(Fam.below w0.heap.size w0 x').cell (by simpa using hbA)]; exact hA1
  clear hA0 hA1
  refine wp_region_grow 9 w0.heap.size w0 (fun _ _ _ => True) (by kernel_rfl) (by kernel_rfl) (Nat.le_refl _) (Below.refl _ _) ?_
  simp only [List.take_succ_cons, List.take_zero, List.drop_succ_cons, List.drop_zero]
  (repeat (refine grow_quiet (by rfl) (by rfl) (by rfl) ?_; intro K hK; go_big_quiet_op; go_big_quiet_on))
  refine grow_new (by rfl) (fun g => .slice (some ⟨g, 0, none⟩) N N) 4 (madeCells #[.bool false] N) (fun W => by go_simp; rw [hmk'.out W]; rfl) (fun _ => rfl) (Nat.le_refl _) fun g hg => ?_
  simp only [Act.put, List.setIfInBounds_toArray, List.set_cons_zero, List.set_cons_succ]
  (repeat (refine grow_quiet (by rfl) (by rfl) (by rfl) ?_; intro K hK; go_big_quiet_op; go_big_quiet_on))
  refine grow_nil ?_
  intro w1 hb1 hf
  obtain ⟨g', hge, -, hblk1⟩ := hf _ List.mem_cons_self
  cases hge
  clear hf y0 y1 e5 hmk'
  have hgw : w0.heap.size ≤ g := by omega
  have hs0 := seen_start N
  obtain ⟨cs0, hcs0⟩ : ∃ cs, madeCells #[.bool false] N = cs := ⟨_, rfl⟩
  rw [hcs0] at hs0 hblk1
  have hblk1' : Blk w1 g 4 cs0 := hblk1
  have f0 := hblk1'.frozen 0
  obtain ⟨v0, d0⟩ := hblk1'.some_ (i := 0) (by rw [hs0.1]; omega)
  have k3 : (0 : Int) < (N : Int) := by omega
  replace hs0 := hid hs0
  replace hblk1' := hid hblk1'
  replace hb1 := hid hb1
  clear hblk1 hcs0
  go_upto_region 4 with fail
  obtain ⟨w3, hw3⟩ : ∃ w3, (w1.setCell ⟨g, 0, none⟩ (.bool true)).alloc (.cells #[.int .i64 0] 3) = w3 := ⟨_, rfl⟩
  obtain ⟨z1, hz1e⟩ : ∃ z1, w1.heap.size = z1 := ⟨_, rfl⟩
  have hP3 : Hid (PaF w0 w3 g N (.slice (some ⟨z1, 0, none⟩) 1 1) [0] [0] []) := hid (by
    rw [← hw3]
    have hbS : Below w0.heap.size w0 (w1.setCell ⟨g, 0, none⟩ (.bool true)) := hb1.out.setCell hgw _
    have hO := OrdSt.new (w1.setCell ⟨g, 0, none⟩ (.bool true)) 0
    rw [show (w1.setCell ⟨g, 0, none⟩ (.bool true)).heap.size = z1 from by rw [← hz1e]; simp] at hO
    refine ⟨hbS.trans (hO.below.mono hbS.size), FamG.start (own_base hO.own hbS.size), hgw, _, (hblk1'.out.set_ 0 (.bool true)).alloc _, by simpa using hs0.out.1, fun p hp => ?_⟩
    by_cases e : p = 0
    · subst e
      rw [Array.getElem?_setIfInBounds_self_of_lt (by rw [hs0.out.1]; omega)]
      simp
    · rw [Array.getElem?_setIfInBounds_ne (Ne.symm e), hs0.out.2 p hp]
      simp [e])
  rw [hw3, hz1e]
  clear hw3 hz1e f0 d0 hblk1' hs0
  obtain ⟨⟨p0, p1, p2⟩, p3, p4, p5⟩ := hSp.out w3 hP3.out.below
  go_wp2_with fail
  refine (l1Letters_any lt w3).mono ?_
  rintro e w4 ⟨vL, rfl, hoL, hb4⟩
  rw [← hL.out] at hoL
  obtain ⟨AL, cL, rfl, hcL, hcL', -⟩ := OwnNats.read hoL
  have hP4 := hid (hP3.out.add hb4 hoL)
  have hLe : Hid (L = AG.letters (allAl ss)) := hid (by rw [hL.out, hlt.out])
  clear p0 p1 p2 p3 p4 p5 hP3 hoL
  go_wp2_with fail
  go_loopw [6, 8] (fun lv iv wr => ∃ (i : Nat) (ps : List Nat) (A6 : Option Addr) (c6 : Nat), lv = .slice A6 ps.length c6 ∧ iv = .int .i64 (i : Nat) ∧ i ≤ ps.length ∧ RnB ss ps i ∧ PaF w0 wr g N (.slice A6 ps.length c6) ps ps [(.slice AL L.length cL, L)]) (fun _ iv _ => N - (intOf iv).toNat)
  case atStart => exact ⟨0, [0], _, _, rfl, rfl, Nat.zero_le _, RnB.start ss, hP4.out⟩
  case round =>
    clear hP4
    obtain ⟨i, ps, A6, c6, rfl, rfl, hi1, hB, hP⟩ := hrel
    have hpsN : ps.length ≤ N := by rw [hN.out]; exact Nat.le_trans (hB.many hall.out) (rnL_le ss)
    obtain ⟨A7, c7, e7, hc6, hc6', hps⟩ := OwnNats.read hP.own
    cases e7
    by_cases hil : i < ps.length
    · obtain ⟨b6, o6, hAe, hb6, hE6⟩ := hps (by omega)
      subst hAe
      have n0 := hE6 i hil
      obtain ⟨n, hn⟩ : ∃ n, Hid (n = ps[i]) := ⟨_, hid rfl⟩
      rw [← hn.out] at n0
      have hnR : Hid (Rn ss n) := hid (by rw [hn.out]; exact hB.sound _ (List.getElem_mem hil))
      have hn4 : n < N := by rw [hN.out]; exact hnR.out.lt hall.out
      have hR0 := hid (RnR.start hB (n := n) (by rw [List.getElem?_eq_getElem hil, hn.out]))
      have k4 : (0 : Int) ≤ (i : Int) ∧ (i : Int) < (ps.length : Int) := by omega
      have hr1 := hid (hr0.out.later hP.below)
      have hP' := hid hP
      have hzr := hP.below.size
      have hs3 : (szP ss).length ≤ 3 := by rw [hszl.out]; decide
      replace hE6 := hid hE6
      replace hps := hid hps
      replace hB := hid hB
      clear hP
      go_wp2_with fail
      refine (l4Decode_any (szP ss) (some ⟨bA, oA, none⟩) c n wr hs1.out hs3 (by omega) hsc hc hr1.out).mono ?_
      rintro e w5 ⟨vS, rfl, hoS, hb5⟩
      obtain ⟨AS, cS, rfl, hcS, hcS', -⟩ := OwnNats.read hoS
      obtain ⟨qs, hqs⟩ : ∃ qs, Hid (qs = decS (szP ss) n) := ⟨_, hid rfl⟩
      rw [← hqs.out] at hoS hcS ⊢
      have hql : Hid (qs.length = (szP ss).length) := hid (by rw [hqs.out]; exact decS_len (szP ss) n)
      have hqlt : Hid (∀ j, j < (szP ss).length → qs.getD j 0 < (szP ss).getD j 1) := hid fun j hj => by
        rw [hqs.out, getD_at1 hj]
        exact decS_lt hs1.out n j hj
      have hnxq : Hid (∀ l, nxParts ss n l = nxK (szP ss) (fun j => chP ss j (qs.getD j 0) l) (szP ss).length) := hid fun l => by rw [hqs.out, ← nx_eq hall.out]; rfl
      have hP5 := hid (hP'.out.add hb5 hoS)
      clear hoS hP' n0
      go_wp2_with fail
      obtain ⟨wo, rfl⟩ : ∃ wo : World, wo = wr := ⟨_, rfl⟩
      go_loopw [6, 10] (fun lv kv wr => ∃ (k : Nat) (ps2 : List Nat) (A6 : Option Addr) (c6 : Nat), lv = .slice A6 ps2.length c6 ∧ kv = .int .i64 (k : Nat) ∧ k ≤ L.length ∧ RnR ss ps2 i n k 0 ∧ PaF w0 wr g N (.slice A6 ps2.length c6) ps2 ps2 [(.slice AS qs.length cS, qs), (.slice AL L.length cL, L)]) (fun _ kv _ => L.length - (intOf kv).toNat)
      case atStart => exact ⟨0, ps, _, _, rfl, rfl, Nat.zero_le _, hR0.out, hP5.out⟩
      case round =>
        clear hP5 hR0 hn hb6 hE6 hps hi1 hpsN hil k4
        obtain ⟨k, ps2, A9, c9, rfl, rfl, hk1, hR, hP⟩ := hrel
        by_cases hkl : k < L.length
        · obtain ⟨AL2, cL2, e7, -, -, hLN⟩ := OwnNats.read (hP.get (List.mem_cons_of_mem _ List.mem_cons_self))
          cases e7
          obtain ⟨bL, oL, hLE, hbL, hEL⟩ := hLN (by omega)
          subst hLE
          have l0 := hEL k hkl
          obtain ⟨l, hl⟩ : ∃ l, Hid (l = L[k]) := ⟨_, hid rfl⟩
          rw [← hl.out] at l0
          have hl6 : l < 6 := by rw [hl.out]; exact hlL.out _ (List.getElem_mem _)
          obtain ⟨AS2, cS2, e7, -, -, hSN⟩ := OwnNats.read (hP.get List.mem_cons_self)
          cases e7
          obtain ⟨M, hM⟩ : ∃ M, Hid (M = nxParts ss n l) := ⟨_, hid rfl⟩
          have hkk : k < (AG.letters (allAl ss)).length := by rw [← hLe.out]; exact hkl
          have hMe : Hid (M = nxParts ss n ((AG.letters (allAl ss))[k]'hkk)) := hid (by rw [hM.out, hl.out]; simp only [hLe.out])
          have hMlt : Hid (∀ m ∈ M, m < N) := hid fun m hm => by rw [hM.out] at hm; rw [hN.out]; exact nxParts_lt hall.out n l m hm
          have hold : Hid (∀ (ps : List Nat) (j : Nat) (hj : j < M.length), RnR ss ps i n k j → M[j] ∈ ps → RnR ss ps i n k (j + 1)) := hid (by have := hMe.out; subst this; exact fun ps j hj h hm => h.old hkk hj hm)
          have hnew : Hid (∀ (ps : List Nat) (j : Nat) (hj : j < M.length), RnR ss ps i n k j → M[j] ∉ ps → RnR ss (ps ++ [M[j]]) i n k (j + 1)) := hid (by have := hMe.out; subst this; exact fun ps j hj h hm => h.new hkk hj hm)
          have hend : Hid (∀ (ps : List Nat), RnR ss ps i n k M.length → RnR ss ps i n (k + 1) 0) := hid (by have := hMe.out; subst this; exact fun ps h => h.letter hkk rfl)
          have hzr2 := hP.below.size
          have hcl := hid (fun w' (hb : Below wr.heap.size wr w') => by
            have hbb := hP.below.trans (hb.mono hzr2)
            have h := l4Nexts_any (.slice AP ss.length cP) (.slice none 0 0) c2 lt kd gl (szP ss) qs (chP ss) (some ⟨bA, oA, none⟩) AS c cS l w' (netOk_sys ss AP cP c2 lt kd gl w' (by rw [h2.out]; decide) hall.out (ha0.out.later hbb)) hql.out hqlt.out hl6 hsc hc hcS hcS' (hr0.out.later hbb) (hSN.later hb)
            rw [← hnxq.out l, ← hM.out] at h
            unfold netV at h
            exact h)
          obtain ⟨⟨p0, p1, p2⟩, p3, p4, p5⟩ := hSp.out wr hP.below
          have hlw : w.heap.size < wr.heap.size := by omega
          have y0 : ∀ x', (Fam wr.heap.size wr x').cell? ⟨w.heap.size, 0, none⟩ = some (.slice AP ss.length cP) := fun x' => by rw [(Fam.below wr.heap.size wr x').cell (by simpa using hlw)]; exact p0
          have y1 : ∀ x', (Fam wr.heap.size wr x').cell? ⟨w.heap.size, 1, none⟩ = some (.slice none 0 0) := fun x' => by rw [(Fam.below wr.heap.size wr x').cell (by simpa using hlw)]; exact p1
          have y2 : ∀ x', (Fam wr.heap.size wr x').cell? ⟨w.heap.size, 2, none⟩ = some c2 := fun x' => by rw [(Fam.below wr.heap.size wr x').cell (by simpa using hlw)]; exact p2
          have y3 : ∀ x', (Fam wr.heap.size wr x').cell? ⟨w.heap.size, 3, none⟩ = some (.int .i64 lt) := fun x' => by rw [(Fam.below wr.heap.size wr x').cell (by simpa using hlw)]; exact p3
          have y4 : ∀ x', (Fam wr.heap.size wr x').cell? ⟨w.heap.size, 4, none⟩ = some (.int .i64 kd) := fun x' => by rw [(Fam.below wr.heap.size wr x').cell (by simpa using hlw)]; exact p4
          have y5 : ∀ x', (Fam wr.heap.size wr x').cell? ⟨w.heap.size, 5, none⟩ = some (.int .i64 gl) := fun x' => by rw [(Fam.below wr.heap.size wr x').cell (by simpa using hlw)]; exact p5
          have y6 : ∀ x', (Fam wr.heap.size wr x').cell? ⟨bL, oL + k, none⟩ = some (.int .i64 (l : Nat)) := fun x' => by rw [(Fam.below wr.heap.size wr x').cell (by simpa using hbL)]; exact l0
          have k5 : (0 : Int) ≤ (k : Int) ∧ (k : Int) < (L.length : Int) := by omega
          have hP' := hid hP
          have hR' := hid hR
          replace hEL := hid hEL
          replace hLN := hid hLN
          replace hSN := hid hSN
          clear hP hR p0 p1 p2 p3 p4 p5 l0
          go_upto_region 12 with fail
          refine wp_region_grow 9 wr.heap.size wr (fun _ u w' => OwnNats w' wr.heap.size u M) (by kernel_rfl) (by kernel_rfl) (Nat.le_refl _) (Below.refl _ _) ?_
          simp only [List.take_succ_cons, List.take_zero, List.drop_succ_cons, List.drop_zero]
          (repeat (refine grow_quiet (by rfl) (by rfl) (by rfl) ?_; intro K hK; go_big_quiet_op; go_big_quiet_on))
          refine grow_call (by rfl) (by rfl) (fun u v v' hb h => own_keep h (.of_below (K := fun _ => False) hb) fun _ _ h => h) (fun wq hbq _ => ?_) fun u hu => ?_
          · go_simp
            refine ⟨rfl, (hcl.out wq hbq).mono ?_⟩
            rintro e w5 ⟨v, rfl, ho, hb5⟩
            exact ⟨v, rfl, hb5, own_base ho hbq.size⟩
          obtain ⟨wX, -, hoX⟩ := hu
          obtain ⟨AM, cM, rfl, hcM, hcM', -⟩ := OwnNats.read hoX
          clear hoX
          simp only [Act.put, List.setIfInBounds_toArray, List.set_cons_zero, List.set_cons_succ]
          (repeat (refine grow_quiet (by rfl) (by rfl) (by rfl) ?_; intro K hK; go_big_quiet_op; go_big_quiet_on))
          refine grow_nil ?_
          intro w7 hb7 hf
          have hoM : OwnNats w7 wr.heap.size (.slice AM M.length cM) M := hf _ List.mem_cons_self
          have hP7 := hid (hP'.out.add hb7 hoM)
          clear hf hoM y0 y1 y2 y3 y4 y5 y6 hcl hP' hLN hSN hEL hbL k5
          go_wp2_with fail
          obtain ⟨wo2, rfl⟩ : ∃ wo : World, wo = wr := ⟨_, rfl⟩
          go_loopw [6, 12] (fun lv jv wr => ∃ (j : Nat) (ps3 : List Nat) (A6 : Option Addr) (c6 : Nat), lv = .slice A6 ps3.length c6 ∧ jv = .int .i64 (j : Nat) ∧ j ≤ M.length ∧ RnR ss ps3 i n k j ∧ PaF w0 wr g N (.slice A6 ps3.length c6) ps3 ps3 [(.slice AM M.length cM, M), (.slice AS qs.length cS, qs), (.slice (some ⟨bL, oL, none⟩) L.length cL, L)]) (fun _ jv _ => M.length - (intOf jv).toNat)
          case atStart => exact ⟨0, ps2, _, _, rfl, rfl, Nat.zero_le _, hR'.out, hP7.out⟩
          case round =>
            clear hP7 hR'
            obtain ⟨j, ps3, A8, c8, rfl, rfl, hj1, hR, hP⟩ := hrel
            have hps3 : ps3.length ≤ 4096 := Nat.le_trans (hR.few hall.out) (by rw [← hN.out]; exact hpl)
            by_cases hjl : j < M.length
            · obtain ⟨AM2, cM2, e7, -, -, hMN⟩ := OwnNats.read (hP.get List.mem_cons_self)
              cases e7
              obtain ⟨bM, oM, hME, hbM, hEM⟩ := hMN (by omega)
              subst hME
              have m0 := hEM j hjl
              obtain ⟨m, hm⟩ : ∃ m, Hid (m = M[j]) := ⟨_, hid rfl⟩
              rw [← hm.out] at m0
              have hmN : m < N := by rw [hm.out]; exact hMlt.out _ (List.getElem_mem _)
              have d0 := hP.cell hmN
              have k6 : (0 : Int) ≤ (j : Int) ∧ (j : Int) < (M.length : Int) := by omega
              have k7 : (0 : Int) ≤ (m : Int) ∧ (m : Int) < (N : Int) := by omega
              have hzr3 := hP.below.size
              by_cases hmp : m ∈ ps3
              · rw [decide_eq_true hmp] at d0
                have hR2 := hid (hold.out ps3 j hjl hR (by rw [← hm.out]; exact hmp))
                have hP' := hid hP
                replace hmp := hid hmp
                replace hEM := hid hEM
                replace hMN := hid hMN
                clear hR hP
                go_wp2_with fail
                go_roundw
                case rel => exact ⟨j + 1, ps3, _, _, rfl, by go_num, hjl, hR2.out, hP'.out⟩
                case measure => simp [intOf]; omega
              · rw [decide_eq_false hmp] at d0
                have hR2 := hid (hnew.out ps3 j hjl hR (by rw [← hm.out]; exact hmp))
                rw [← hm.out] at hR2
                have f0 := hP.frozen m
                have hP8 := hid (hP.set_ hmN)
                have m1 : (wr.setCell ⟨g, m, none⟩ (.bool true)).cell? ⟨bM, oM + j, none⟩ = some (.int .i64 (m : Nat)) := by
                  obtain ⟨AM3, cM3, e7, -, -, hMN3⟩ := OwnNats.read (hP8.out.get List.mem_cons_self)
                  cases e7
                  obtain ⟨bM3, oM3, hME3, -, hEM3⟩ := hMN3 (by omega)
                  cases hME3
                  have h9 := hEM3 j hjl
                  rw [← hm.out] at h9
                  exact h9
                have hz8 : w0.heap.size ≤ (wr.setCell ⟨g, m, none⟩ (.bool true)).heap.size := hP8.out.below.size
                replace hmp := hid hmp
                replace hEM := hid hEM
                replace hMN := hid hMN
                clear hR hP
                go_upto_region 18 with fail
                obtain ⟨w8, hw8⟩ : ∃ w8, wr.setCell ⟨g, m, none⟩ (.bool true) = w8 := ⟨_, rfl⟩
                rw [hw8] at hP8 m1 hz8 ⊢
                clear d0 f0 m0 hw8
                go_wp2_with (at_builtin; refine wpList_append_own_at _ rfl _ _ 48 rfl w0.heap.size 3 i0 (.int .i64 0) 1 8 Tryd.underlying48 hi hz0 hz1 hz2 rfl (by decide) _ _ _ rfl (World.ownsRow.alloc hP8.out.own _) ⟨w8.heap.size, 0, none⟩ 1 1 [.int .i64 (m : Nat)] rfl rfl (cell_one_new _ _ _) (by intro u hu; simp at hu; subst hu; rfl) (by unfold maxLen; omega) (by omega) (by first | omega | (simp; omega)) ?_; intro v7 w7 hO7 hg7 _ hat7; obtain ⟨Av7, cv7, ev7, -, -⟩ := own_slice hO7; subst ev7; have hP9 := hid (hP8.out.app (x := m) hg7 hO7 hat7); clear hO7 hg7 hat7)
                go_roundw
                case rel => exact ⟨j + 1, ps3 ++ [m], _, _, by rw [List.length_append]; rfl, by go_num, hjl, hR2.out, by have := hP9.out; rw [List.length_append]; exact this⟩
                case measure => simp [intOf]; omega
            · obtain rfl : j = M.length := by omega
              have hR2 := hid (hend.out ps3 hR)
              have hP' := hid hP.drop
              clear hR hP
              go_wp2_with fail
              go_roundw
              case rel => exact ⟨k + 1, ps3, _, _, rfl, by go_num, hkl, hR2.out, hP'.out⟩
              case measure => simp [intOf]; omega
        · obtain rfl : k = L.length := by omega
          have hR2 := hid (show RnB ss ps2 (i + 1) from RnR.next (n := n) (j := 0) (by rw [← hLe.out]; exact hR))
          have hlt2 := hR.lt
          have hpsN : ps2.length ≤ N := by rw [hN.out]; exact hR.few hall.out
          have hP' := hid hP.drop
          clear hR hP
          go_wp2_with fail
          go_roundw
          case rel => exact ⟨i + 1, ps2, _, _, rfl, by go_num, hlt2, hR2.out, hP'.out⟩
          case measure => simp [intOf]; omega
    · obtain rfl : i = ps.length := by omega
      have hfin : Hid (∃ AB cB, Ending.returned (.slice (some ⟨g, 0, none⟩) N N) = Ending.returned (Value.slice AB (rnB ss).length cB) ∧ (rnB ss).length ≤ cB ∧ cB ≤ 9223372036854775807 ∧ BoolsAt wr wr.heap.size AB (rnB ss) ∧ Below w.heap.size w wr) := hid (by
        have hlen : (rnB ss).length = N := by rw [rnB_len, hN.out]
        refine ⟨some ⟨g, 0, none⟩, N, by rw [hlen], by omega, by omega, fun _ => ⟨g, 0, rfl, hP.lt, fun p hp => ?_⟩, hB0.trans (hP.below.mono hB0.size)⟩
        rw [Nat.zero_add, hP.cell (by omega), rnB_at]
        congr 2
        exact decide_eq_decide.2 (hB.all p))
      replace hP := hid hP
      replace hB := hid hB
      replace hps := hid hps
      go_wp2_with fail
      go_ret
      exact hfin.out

end Go.Proofs.YtdkjnemakkppfaaDoor

/- A system with only some of its states: the program's subSystem, the reference's l2Keep. -/
namespace Go.Proofs.YtdkjnemakkppfaaDoor
open Go.RowKit Go.BigFrame AG

/-- The result under way: its own block gs, its edges a row that the call owns. -/
structure SubSt (w0 wr : World) (gs : Nat) (al st : Int) (v : Value) (es : List Ed) : Prop where
  blk : Blk wr gs 28 #[.int .i64 al, .int .i64 st, v]
  own : wr.ownsRow w0.heap.size 59 3 v es.length (edCells es)
  low : w0.heap.size ≤ gs
  keep : Below w0.heap.size w0 wr
theorem SubSt.later {w0 wr w1 : World} {gs : Nat} {al st : Int} {v : Value} {es : List Ed} (h : SubSt w0 wr gs al st v es) (hb : Below wr.heap.size wr w1) : SubSt w0 w1 gs al st v es :=
  ⟨h.blk.below hb h.blk.lt, own_later h.own hb, h.low, h.keep.trans (hb.mono h.keep.size)⟩
theorem SubSt.add {w0 wr w1 : World} {gs gg cap : Nat} {al st : Int} {v : Value} {es : List Ed} {x : Ed} (h : SubSt w0 wr gs al st v es)
    (hown : w1.ownsRow w0.heap.size 59 3 (.slice (some ⟨gg, 0, none⟩) (es.length + 1) cap) (es.length + 1) (edCells es ++ [.int .i64 x.f, .int .i64 x.l, .int .i64 x.t])) (hg : wr.grownBy w1 v.ownBlock) :
    SubSt w0 (w1.setCell ⟨gs, 2, none⟩ (.slice (some ⟨gg, 0, none⟩) (es.length + 1) cap)) gs al st (.slice (some ⟨gg, 0, none⟩) (es.length + 1) cap) (es ++ [x]) := by
  have hne : v.ownBlock ≠ some gs := fun e => own_ne h.own h.blk (by decide) gs e rfl
  have hb1 : Blk w1 gs 28 #[.int .i64 al, .int .i64 st, v] := by
    have := hg.block gs h.blk.lt (Ne.symm hne)
    exact this.trans h.blk
  have hne2 : (Value.slice (some ⟨gg, 0, none⟩) (es.length + 1) cap).ownBlock ≠ some gs := fun e => own_ne hown hb1 (by decide) gs e rfl
  refine ⟨by simpa using hb1.set_ 2 (.slice (some ⟨gg, 0, none⟩) (es.length + 1) cap), ?_, h.low, ?_⟩
  · have e : (es ++ [x]).length = es.length + 1 := by simp
    rw [e, edCells_append]
    exact ownsRow_setCell_other hown hne2 _
  · exact Below.setCell (h.keep.grown hg h.keep.size (fun k hk => (h.own.lt k hk).1)) (by have := h.low; simpa using this) _

end Go.Proofs.YtdkjnemakkppfaaDoor

/- The reference's SystemOf. -/
namespace Go.Proofs.YtdkjnemakkppfaaDoor
open Go.RowKit Go.BigFrame AG

def SoPost (w : World) (x : Sy) (ok : Bool) (e : Ending) (w' : World) : Prop := ∃ (A : Option Addr) (c : Nat), e = .returned (.tuple #[x.val A c, .bool ok]) ∧ x.es.length ≤ c ∧ c ≤ 9223372036854775807 ∧ EdsAt w' w'.heap.size A x.es ∧ FreshA w.heap.size A ∧ Below w.heap.size w w'
def SoOwn (w : World) (x : Sy) (ok : Bool) (e : Ending) (w' : World) : Prop := ∃ (A : Option Addr) (c : Nat), e = .returned (.tuple #[x.val A c, .bool ok]) ∧ OwnEds w' w.heap.size (.slice A x.es.length c) x.es ∧ Below w.heap.size w w'
theorem SoOwn.read {w : World} {x : Sy} {ok : Bool} {e : Ending} {w' : World} (h : SoOwn w x ok e w') : SoPost w x ok e w' := by
  obtain ⟨A, c, h1, h2, h3⟩ := h
  obtain ⟨A', c', e', k1, k2, k3, k4⟩ := OwnEds.read h2
  cases e'
  exact ⟨A, c, h1, k1, k2, k3, k4, h3⟩

/-- The system under way, and the letters. -/
structure SoSt (w0 wr : World) (gs : Nat) (al st : Int) (v : Value) (es : List Ed) (lv : Value) (L : List Nat) : Prop where
  sub : SubSt w0 wr gs al st v es
  list : OwnNats wr w0.heap.size lv L
theorem SoSt.later {w0 wr w1 : World} {gs : Nat} {al st : Int} {v lv : Value} {es : List Ed} {L : List Nat} (h : SoSt w0 wr gs al st v es lv L) (hb : Below wr.heap.size wr w1) : SoSt w0 w1 gs al st v es lv L := ⟨h.sub.later hb, own_later h.list hb⟩
theorem SoSt.add {w0 wr w1 : World} {gs gg cap : Nat} {al st : Int} {v lv : Value} {es : List Ed} {L : List Nat} {x : Ed} (h : SoSt w0 wr gs al st v es lv L)
    (hown : w1.ownsRow w0.heap.size 59 3 (.slice (some ⟨gg, 0, none⟩) (es.length + 1) cap) (es.length + 1) (edCells es ++ [.int .i64 x.f, .int .i64 x.l, .int .i64 x.t])) (hg : wr.grownBy w1 v.ownBlock) :
    SoSt w0 (w1.setCell ⟨gs, 2, none⟩ (.slice (some ⟨gg, 0, none⟩) (es.length + 1) cap)) gs al st (.slice (some ⟨gg, 0, none⟩) (es.length + 1) cap) (es ++ [x]) lv L := by
  have hbl : wr.grownBy w1 v.ownBlock := hg
  refine ⟨h.sub.add hown hg, ?_⟩
  have k2 : KeepB (fun b => v.ownBlock = some b ∨ b = gs) wr (w1.setCell ⟨gs, 2, none⟩ (.slice (some ⟨gg, 0, none⟩) (es.length + 1) cap)) := ((((KeepB.refl _ wr).grown hg (fun k hk _ => hk)).mono fun _ h => .inl h).setCell _ _ fun _ => .inr rfl)
  exact own_keep h.list k2 fun g hg hk => by
    rcases hk with hk | hk
    · exact own_ne_own h.list h.sub.own (by decide) g g hg hk rfl
    · exact own_ne h.list h.sub.blk (by decide) g hg hk

end Go.Proofs.YtdkjnemakkppfaaDoor

/- The program's SystemOf. -/
namespace Go.Proofs.YtdkjnemakkppfaaDoor
open Go.RowKit Go.BigFrame AG

structure SoSt2 (w0 wr : World) (gs : Nat) (al st : Int) (v : Value) (es : List Ed) (lv : Value) (L : List Nat) (mv : Value) (M : List Nat) : Prop where
  so : SoSt w0 wr gs al st v es lv L
  mem : OwnNats wr w0.heap.size mv M
theorem SoSt2.later {w0 wr w1 : World} {gs : Nat} {al st : Int} {v lv mv : Value} {es : List Ed} {L M : List Nat} (h : SoSt2 w0 wr gs al st v es lv L mv M) (hb : Below wr.heap.size wr w1) : SoSt2 w0 w1 gs al st v es lv L mv M := ⟨h.so.later hb, own_later h.mem hb⟩
theorem SoSt2.add {w0 wr w1 : World} {gs gg cap : Nat} {al st : Int} {v lv mv : Value} {es : List Ed} {L M : List Nat} {x : Ed} (h : SoSt2 w0 wr gs al st v es lv L mv M)
    (hown : w1.ownsRow w0.heap.size 59 3 (.slice (some ⟨gg, 0, none⟩) (es.length + 1) cap) (es.length + 1) (edCells es ++ [.int .i64 x.f, .int .i64 x.l, .int .i64 x.t])) (hg : wr.grownBy w1 v.ownBlock) :
    SoSt2 w0 (w1.setCell ⟨gs, 2, none⟩ (.slice (some ⟨gg, 0, none⟩) (es.length + 1) cap)) gs al st (.slice (some ⟨gg, 0, none⟩) (es.length + 1) cap) (es ++ [x]) lv L mv M :=
  ⟨h.so.add hown hg, (SoSt.add (lv := mv) (L := M) ⟨h.so.sub, h.mem⟩ hown hg).list⟩

end Go.Proofs.YtdkjnemakkppfaaDoor

/- The reference's ComposeSystems. -/
namespace Go.Proofs.YtdkjnemakkppfaaDoor
open Go.RowKit Go.BigFrame AG

theorem two_at {w : World} {g : Nat} {s t : Sy} {A B : Option Addr} {c d : Nat} (hb : Blk w g 28 #[.int .i64 s.al, .int .i64 s.st, .slice A s.es.length c, .int .i64 t.al, .int .i64 t.st, .slice B t.es.length d])
    (hl : s.es.length ≤ c) (hc : c ≤ 9223372036854775807) (hm : t.es.length ≤ d) (hd : d ≤ 9223372036854775807) (hr : EdsAt w w.heap.size A s.es) (hr2 : EdsAt w w.heap.size B t.es) : SysAt w w.heap.size (some ⟨g, 0, none⟩) [s, t] := fun _ =>
  ⟨g, 0, rfl, hb.lt, fun i hi => by
    have h2 : i < 2 := hi
    rcases (show i = 0 ∨ i = 1 by omega) with rfl | rfl
    · exact ⟨hb.cell 0, hb.cell 1, A, c, hb.cell 2, hl, hc, hr⟩
    · exact ⟨hb.cell 3, hb.cell 4, B, d, hb.cell 5, hm, hd, hr2⟩⟩
theorem allAl_two {s t : Sy} (h : 0 ≤ s.al) : allAl [s, t] = orB s.al t.al := by
  show orB (orB 0 s.al) t.al = orB s.al t.al
  have : orB 0 s.al = s.al := by unfold orB; rw [show (0 : Int).toNat = 0 from rfl, Nat.zero_or]; omega
  rw [this]

set_option maxRecDepth 100000 in
set_option maxHeartbeats 16000000 in
theorem specComposeSystems_any (s t : Sy) (A B : Option Addr) (c d : Nat) (w : World) (hl : s.es.length ≤ c) (hc : c ≤ 9223372036854775807) (hm : t.es.length ≤ d) (hd : d ≤ 9223372036854775807) (hr : EdsAt w w.heap.size A s.es) (hr2 : EdsAt w w.heap.size B t.es) :
    Calls Tryd.prog 10 #[s.val A c, t.val B d] w (SoPost w (cmX s t) (cmOk s t)) := by
  obtain ⟨i0, hi, hz0', hz1', hz2'⟩ := info_parts infoEd
  unfold Sy.val
  have hsB := ((Blk.new w 28 #[.int .i64 s.al, .int .i64 s.st, .slice A s.es.length c]).alloc (.cells #[.int .i64 t.al, .int .i64 t.st, .slice B t.es.length d] 28)).alloc (.cells #[.int .i64 0, .int .i64 0, .slice none 0 0] 28)
  have htB := (Blk.new (w.alloc (.cells #[.int .i64 s.al, .int .i64 s.st, .slice A s.es.length c] 28)) 28 #[.int .i64 t.al, .int .i64 t.st, .slice B t.es.length d]).alloc (.cells #[.int .i64 0, .int .i64 0, .slice none 0 0] 28)
  have hrB := Blk.new ((w.alloc (.cells #[.int .i64 s.al, .int .i64 s.st, .slice A s.es.length c] 28)).alloc (.cells #[.int .i64 t.al, .int .i64 t.st, .slice B t.es.length d] 28)) 28 #[.int .i64 0, .int .i64 0, .slice none 0 0]
  have hB0 : Below w.heap.size w (((w.alloc (.cells #[.int .i64 s.al, .int .i64 s.st, .slice A s.es.length c] 28)).alloc (.cells #[.int .i64 t.al, .int .i64 t.st, .slice B t.es.length d] 28)).alloc (.cells #[.int .i64 0, .int .i64 0, .slice none 0 0] 28)) := (((Below.refl _ _).alloc (Nat.le_refl _) _).alloc (by simp) _).alloc (by simp; omega) _
  simp only [World.size_alloc] at htB hrB
  generalize hw0 : ((w.alloc (.cells #[.int .i64 s.al, .int .i64 s.st, .slice A s.es.length c] 28)).alloc (.cells #[.int .i64 t.al, .int .i64 t.st, .slice B t.es.length d] 28)).alloc (.cells #[.int .i64 0, .int .i64 0, .slice none 0 0] 28) = w0 at hsB htB hrB hB0
  have hs0 := hid (hr.later hB0)
  have ht0 := hid (hr2.later hB0)
  have p0 := hsB.cell 0
  have p1 := hsB.cell 1
  have p2 := hsB.cell 2
  simp only [List.getElem?_toArray, List.getElem?_cons_zero, List.getElem?_cons_succ] at p0 p1 p2
  replace hsB := hid hsB
  replace htB := hid htB
  replace hrB := hid hrB
  replace hr := hid hr
  replace hr2 := hid hr2
  go_enter Tryd.func10, Tryd.ntmps10
  go_wp2_with fail
  refine (specSystemValid_any s A c w0 hl hc hs0.out).mono ?_
  rintro e w1 ⟨rfl, hb1⟩
  have hB1 := hB0.trans (hb1.mono hB0.size)
  have hs1 := hid (hs0.out.later hb1)
  have ht1 := hid (ht0.out.later hb1)
  replace hsB := hid (hsB.out.below hb1 hsB.out.lt)
  replace htB := hid (htB.out.below hb1 htB.out.lt)
  replace hrB := hid (hrB.out.below hb1 hrB.out.lt)
  have hzero : cmOk s t = false → ∀ wx, Below w.heap.size w wx → SoPost w (cmX s t) (cmOk s t) (.returned (.tuple #[.agg #[.int .i64 0, .int .i64 0, .slice none 0 0], .bool false])) (((wx.setCell ⟨w.heap.size + 1 + 1, 0, none⟩ (.int .i64 0)).setCell ⟨w.heap.size + 1 + 1, 1, none⟩ (.int .i64 0)).setCell ⟨w.heap.size + 1 + 1, 2, none⟩ (.slice none 0 0)) := fun h wx hb => by
    rw [cmX_bad h, h]
    exact ⟨none, 0, rfl, Nat.le_refl _, by omega, fun h => by simp at h, fun b o h => (by cases h), ((hb.setCell (by simp; omega) _).setCell (by simp; omega) _).setCell (by simp; omega) _⟩
  have d0 := hrB.out.cell 0
  have d1 := hrB.out.cell 1
  have d2 := hrB.out.cell 2
  have f0 := hrB.out.frozen 0
  have f1 := hrB.out.frozen 1
  have f2 := hrB.out.frozen 2
  clear p0 p1 p2 hw0
  have q0 := htB.out.cell 0
  have q1 := htB.out.cell 1
  have q2 := htB.out.cell 2
  simp only [List.getElem?_toArray, List.getElem?_cons_zero, List.getElem?_cons_succ] at d0 d1 d2 q0 q1 q2
  replace hzero := hid hzero
  cases hok : sysOk s
  · have hno := hid (hzero.out (by unfold cmOk; rw [hok]; rfl) w1 hB1)
    replace hok := hid hok
    go_wp2
    refine bodyPost_ret (v := .tuple #[.agg #[.int .i64 0, .int .i64 0, .slice none 0 0], .bool false]) (by simp [results, Tryd.results10, go_sem, d0, d1, d2]) rfl ?_
    exact hno.out
  have hok' := hid hok
  clear hok
  go_wp2_with fail
  refine (specSystemValid_any t B d w1 hm hd ht1.out).mono ?_
  rintro e w2 ⟨rfl, hb2⟩
  have hB2 := hB1.trans (hb2.mono hB1.size)
  have hs2 := hid (hs1.out.later hb2)
  have ht2 := hid (ht1.out.later hb2)
  replace hsB := hid (hsB.out.below hb2 hsB.out.lt)
  replace htB := hid (htB.out.below hb2 htB.out.lt)
  replace hrB := hid (hrB.out.below hb2 hrB.out.lt)
  clear d0 d1 d2 f0 f1 f2 q0 q1 q2
  cases hok2 : sysOk t
  · have hno := hid (hzero.out (by unfold cmOk; rw [hok2, Bool.and_eq_false_iff]; right; rfl) w2 hB2)
    have d0 := hrB.out.cell 0
    have d1 := hrB.out.cell 1
    have d2 := hrB.out.cell 2
    have f0 := hrB.out.frozen 0
    have f1 := hrB.out.frozen 1
    have f2 := hrB.out.frozen 2
    simp only [List.getElem?_toArray, List.getElem?_cons_zero, List.getElem?_cons_succ] at d0 d1 d2
    replace hok2 := hid hok2
    go_wp2
    refine bodyPost_ret (v := .tuple #[.agg #[.int .i64 0, .int .i64 0, .slice none 0 0], .bool false]) (by simp [results, Tryd.results10, go_sem, d0, d1, d2]) rfl ?_
    exact hno.out
  have hall := all_two hok'.out hok2
  have hok2' := hid hok2
  have hsa := (sysOk_alpha hok'.out)
  have hta := (sysOk_alpha hok2)
  have hal : Hid (allAl [s, t] = orB s.al t.al) := hid (allAl_two hsa.1)
  obtain ⟨al, hale⟩ : ∃ al, Hid (al = allAl [s, t]) := ⟨_, hid rfl⟩
  have eor : bits .or .i64 s.al t.al = al := by rw [bits_or (by omega) (by omega), hale.out, hal.out]
  have p0 := hsB.out.cell 0
  have p1 := hsB.out.cell 1
  have p2 := hsB.out.cell 2
  have q0 := htB.out.cell 0
  have q1 := htB.out.cell 1
  have q2 := htB.out.cell 2
  simp only [List.getElem?_toArray, List.getElem?_cons_zero, List.getElem?_cons_succ] at p0 p1 p2 q0 q1 q2
  replace hall := hid hall
  have p0' : ∀ o, (w2.alloc o).cell? ⟨w.heap.size, 0, none⟩ = some (.int .i64 s.al) := fun o => by rw [((Below.refl _ w2).alloc (Nat.le_refl _) o).cell (by simpa using hsB.out.lt)]; exact p0
  have q0' : ∀ o, (w2.alloc o).cell? ⟨w.heap.size + 1, 0, none⟩ = some (.int .i64 t.al) := fun o => by rw [((Below.refl _ w2).alloc (Nat.le_refl _) o).cell (by simpa using htB.out.lt)]; exact q0
  clear hok2
  go_upto_region 4 with fail
  obtain ⟨bS, hbS⟩ : ∃ bS, w2.heap.size = bS := ⟨_, rfl⟩
  obtain ⟨w3, hw3⟩ : ∃ w3, (w2.alloc (.cells #[.int .i64 s.al, .int .i64 s.st, .slice A s.es.length c, .int .i64 t.al, .int .i64 t.st, .slice B t.es.length d] 28)).alloc (.cells #[.slice (some ⟨bS, 0, none⟩) 2 2, .slice none 0 0, .slice none 0 0, .int .i64 al, .int .i64 0, .int .i64 0] 50) = w3 := ⟨_, rfl⟩
  have hb3 : Below w2.heap.size w2 w3 := by rw [← hw3]; exact ((Below.refl _ _).alloc (Nat.le_refl _) _).alloc (by simp) _
  have hsysB : Blk w3 bS 28 #[.int .i64 s.al, .int .i64 s.st, .slice A s.es.length c, .int .i64 t.al, .int .i64 t.st, .slice B t.es.length d] := by rw [← hw3, ← hbS]; exact (Blk.new _ _ _).alloc _
  have hnetB : Blk w3 (bS + 1) 50 #[.slice (some ⟨bS, 0, none⟩) 2 2, .slice none 0 0, .slice none 0 0, .int .i64 al, .int .i64 0, .int .i64 0] := by
    rw [← hw3, ← hbS]
    have := Blk.new (w2.alloc (.cells #[.int .i64 s.al, .int .i64 s.st, .slice A s.es.length c, .int .i64 t.al, .int .i64 t.st, .slice B t.es.length d] 28)) 50 #[.slice (some ⟨w2.heap.size, 0, none⟩) 2 2, .slice none 0 0, .slice none 0 0, .int .i64 al, .int .i64 0, .int .i64 0]
    simpa using this
  obtain ⟨ss, hss⟩ : ∃ ss, Hid (ss = [s, t]) := ⟨_, hid rfl⟩
  have hlen : Hid (ss.length = 2) := hid (by rw [hss.out]; rfl)
  have hSys : Hid (SysAt w3 w3.heap.size (some ⟨bS, 0, none⟩) ss) := hid (by rw [hss.out]; exact two_at hsysB hl hc hm hd (hs2.out.later hb3) (ht2.out.later hb3))
  have hB3 := hB2.trans (hb3.mono hB2.size)
  rw [← hss.out] at hall hale
  have hnet := hid (fun (w' : World) (hb : Below w3.heap.size w3 w') => (show (w'.cell? ⟨bS + 1, 0, none⟩ = some (.slice (some ⟨bS, 0, none⟩) 2 2) ∧ w'.cell? ⟨bS + 1, 1, none⟩ = some (.slice none 0 0) ∧ w'.cell? ⟨bS + 1, 2, none⟩ = some (.slice none 0 0)) ∧ w'.cell? ⟨bS + 1, 3, none⟩ = some (.int .i64 al) ∧ w'.cell? ⟨bS + 1, 4, none⟩ = some (.int .i64 0) ∧ w'.cell? ⟨bS + 1, 5, none⟩ = some (.int .i64 0) from by
    have h := hnetB.below hb hnetB.lt
    exact ⟨⟨h.cell 0, h.cell 1, h.cell 2⟩, h.cell 3, h.cell 4, h.cell 5⟩))
  have hbSl : bS + 1 < w3.heap.size := hnetB.lt
  replace hrB := hid (hrB.out.below hb3 hrB.out.lt)
  rw [hbS, hw3]
  have hz4 := l4Sizes_sys ss (some ⟨bS, 0, none⟩) 2 (.slice none 0 0) al 0 0 w3 (by rw [hlen.out]; decide) hall.out hSys.out
  unfold netV at hz4
  rw [hlen.out] at hz4
  replace hz4 := hid hz4
  obtain ⟨⟨n0, n1, n2⟩, n3, n4, n5⟩ := hnet.out w3 (Below.refl _ _)
  clear hsB htB hs2 ht2 hs1 ht1 hs0 ht0 hsysB hnetB hw3 hb3 p0 p1 p2 q0 q1 q2 p0' q0' eor hb2 hb1 hB1 hB2
  replace hbS := hid hbS
  go_wp2_with fail
  refine hz4.out.mono ?_
  rintro e w4 ⟨vS, rfl, hoS, hb4⟩
  obtain ⟨AS, cS, rfl, hcS, hcS', hSN⟩ := OwnNats.read hoS
  have hz5 := l7Pairs_any ss (some ⟨bS, 0, none⟩) AS 2 cS (.slice none 0 0) 0 0 w4 hlen.out hall.out (hSys.out.later hb4) hcS hcS' hSN
  unfold netV at hz5
  rw [hlen.out, ← hale.out] at hz5
  replace hz5 := hid hz5
  have hSN4 := hid hSN
  have hB4 := hB3.trans (hb4.mono hB3.size)
  clear n0 n1 n2 n3 n4 n5 hz4 hSN hoS
  obtain ⟨⟨n0, n1, n2⟩, n3, n4, n5⟩ := hnet.out w4 hb4
  go_wp2_with fail
  refine hz5.out.mono ?_
  rintro e w5 ⟨AB, cB, rfl, hcB, hcB', hBN, hb5⟩
  have hB5 := hB4.trans (hb5.mono hB4.size)
  have hb35 := hb4.trans (hb5.mono hb4.size)
  have hSN5 := hid (hSN4.out.later hb5)
  have hBN5 := hid hBN
  have hSys5 := hid (hSys.out.later hb35)
  have hl4 : (rnB ss).length ≤ 4096 := by rw [rnB_len]; exact (prodP_4096 hall.out (by rw [hlen.out]; decide)).2
  obtain ⟨R, hR⟩ : ∃ R, Hid (R = (rnL ss).length) := ⟨_, hid rfl⟩
  have hcnt : Hid (cntT (rnB ss) (rnB ss).length = R) := hid (by rw [hR.out, cntT_rank ss _ (by rw [rnB_len]; exact Nat.le_refl _), rnB_len, rkN_all])
  have hRl : R ≤ 4096 := by rw [← hcnt.out]; exact Nat.le_trans (cntT_le _ _) hl4
  replace hrB := hid (hrB.out.below hb35 hrB.out.lt)
  clear n0 n1 n2 n3 n4 n5 hz5 hSN4 hSys hBN
  have n3 := (hnet.out w5 hb35).2.1
  have y3 : ∀ x', (Fam w5.heap.size w5 x').cell? ⟨bS + 1, 3, none⟩ = some (.int .i64 al) := fun x' => by rw [(Fam.below w5.heap.size w5 x').cell (by have := hb35.size; simp; omega)]; exact n3
  clear n3
  go_upto_region 6 with fail
  refine wp_region_grow 8 w5.heap.size w5 (fun _ u _ => u = .int .i64 (R : Nat)) (by kernel_rfl) (by kernel_rfl) (Nat.le_refl _) (Below.refl _ _) ?_
  simp only [List.take_succ_cons, List.take_zero, List.drop_succ_cons, List.drop_zero]
  (repeat (refine grow_quiet (by rfl) (by rfl) (by rfl) ?_; intro K hK; go_big_quiet_op; go_big_quiet_on))
  refine grow_val (.int .i64 (R : Nat)) (by rfl) (by rfl) rfl (fun wq hbq _ => ?_) ?_
  · go_simp
    refine ⟨rfl, (l7Rank_any (rnB ss) AB cB (rnB ss).length wq (Nat.le_refl _) hl4 hcB hcB' (hBN5.out.later hbq)).mono ?_⟩
    rintro e w6 ⟨rfl, rfl⟩
    exact ⟨by rw [hcnt.out], Below.refl _ _⟩
  simp only [Act.put, List.setIfInBounds_toArray, List.set_cons_zero, List.set_cons_succ]
  (repeat (refine grow_quiet (by rfl) (by rfl) (by rfl) ?_; intro K hK; go_big_quiet_op; go_big_quiet_on))
  refine grow_new (by rfl) (fun g => .pointer (some ⟨g, 0, none⟩)) 28 #[.int .i64 0, .int .i64 0, .slice none 0 0] (fun _ => by go_simp) (fun _ => rfl) (Nat.le_refl _) fun gs hgs => ?_
  simp only [Act.put, List.setIfInBounds_toArray, List.set_cons_zero, List.set_cons_succ]
  refine grow_nil ?_
  intro w6 hb6 hf
  obtain ⟨g', hge, hgs2, hblk6⟩ := hf _ List.mem_cons_self
  cases hge
  clear hf y3
  have hblk6' : Blk w6 gs 28 #[.int .i64 0, .int .i64 0, .slice none 0 0] := hblk6
  have d0 := hblk6'.cell 0
  have d1 := hblk6'.cell 1
  have d2 := hblk6'.cell 2
  have f0 := hblk6'.frozen 0
  have f1 := hblk6'.frozen 1
  have f2 := hblk6'.frozen 2
  simp only [List.getElem?_toArray, List.getElem?_cons_zero, List.getElem?_cons_succ] at d0 d1 d2
  replace hblk6' := hid hblk6'
  clear hblk6
  go_upto_region 7 with fail
  obtain ⟨w7, hw7⟩ : ∃ w7, ((w6.setCell ⟨gs, 0, none⟩ (.int .i64 al)).setCell ⟨gs, 1, none⟩ (.int .i64 (R : Nat))).setCell ⟨gs, 2, none⟩ (.slice none 0 0) = w7 := ⟨_, rfl⟩
  have hblk7 : Blk w7 gs 28 #[.int .i64 al, .int .i64 (R : Nat), .slice none 0 0] := by
    rw [← hw7]
    simpa using ((hblk6'.out.set_ 0 (.int .i64 al)).set_ 1 (.int .i64 (R : Nat))).set_ 2 (.slice none 0 0)
  have hb57 : Below w5.heap.size w5 w7 := by rw [← hw7]; exact ((hb6.setCell hgs _).setCell hgs _).setCell hgs _
  rw [hw7]
  have hS7 : Hid (SubSt w5 w7 gs al (R : Nat) (.slice none 0 0) []) := hid ⟨hblk7, World.ownsRow_nil _ _ _ _, hgs, hb57⟩
  have hB7 := hB5.trans (hb57.mono hB5.size)
  have hrB5 := hrB
  replace hrB := hid (hrB.out.below hb57 hrB.out.lt)
  have hokeq : Hid (cmOk s t = decide (R ≤ 16)) := hid (by unfold cmOk; rw [hok'.out, hok2'.out, hR.out, hss.out]; rfl)
  have c1 := hblk7.cell 1
  simp only [List.getElem?_toArray, List.getElem?_cons_zero, List.getElem?_cons_succ] at c1
  clear d0 d1 d2 f0 f1 f2 hw7 hblk6' hblk7
  by_cases hR16 : R ≤ 16
  case neg =>
    have h16 : (16 : Int) < (R : Int) := by omega
    have hno := hid (hzero.out (by rw [hokeq.out]; exact decide_eq_false hR16) w7 hB7)
    have d0 := hrB.out.cell 0
    have d1 := hrB.out.cell 1
    have d2 := hrB.out.cell 2
    have f0 := hrB.out.frozen 0
    have f1 := hrB.out.frozen 1
    have f2 := hrB.out.frozen 2
    simp only [List.getElem?_toArray, List.getElem?_cons_zero, List.getElem?_cons_succ] at d0 d1 d2
    go_wp2
    refine bodyPost_ret (v := .tuple #[.agg #[.int .i64 0, .int .i64 0, .slice none 0 0], .bool false]) (by simp [results, Tryd.results10, go_sem, d0, d1, d2]) rfl ?_
    exact hno.out
  have h16 : ¬ ((16 : Int) < (R : Int)) := by omega
  have hcok : Hid (cmOk s t = true) := hid (by rw [hokeq.out]; exact decide_eq_true hR16)
  have hb37 := hb35.trans (hb57.mono hb35.size)
  have n3 := (hnet.out w7 hb37).2.1
  have hb37' : Hid (Below w3.heap.size w3 w5) := hid hb35
  clear hzero
  go_wp2_with fail
  refine (l1Letters_any al w7).mono ?_
  rintro e w8 ⟨lv, rfl, hown8, hb8⟩
  have hs8 : SoSt w5 w8 gs al (R : Nat) (.slice none 0 0) (esTo ss (rnTo ss 0)) lv (letters al) := ⟨hS7.out.later hb8, own_base hown8 hb57.size⟩
  obtain ⟨AL, cL, rfl, hcL, hcL'⟩ := own_slice hown8
  obtain ⟨L, hL⟩ : ∃ L, Hid (L = letters al) := ⟨_, hid rfl⟩
  rw [← hL.out] at hs8 hcL ⊢
  have hL6 : L.length ≤ 6 := by rw [hL.out]; exact letters_len6 al
  have hlL : Hid (∀ l ∈ L, l < 6) := hid fun l hl => by rw [hL.out] at hl; exact (letters_lt hl).1
  have hLe : Hid (L = letters (allAl ss)) := hid (by rw [hL.out, hale.out])
  obtain ⟨N, hN⟩ : ∃ N, Hid (N = (rnB ss).length) := ⟨_, hid rfl⟩
  have hNP : Hid (N = prodL (szP ss)) := hid (by rw [hN.out, rnB_len])
  rw [← hN.out] at hl4 hcB ⊢
  have hrkL : Hid (∀ m, m ≤ N → ∀ wq, Below w5.heap.size w5 wq → Calls Tryd.prog 31 #[.slice AB N cB, .int .i64 (m : Nat)] wq fun e w' => e = .returned (.int .i64 (rkN ss m : Nat)) ∧ w' = wq) := hid fun m hm wq hbq => by
    have h := l7Rank_any (rnB ss) AB cB m wq (by rw [← hN.out]; exact hm) (by rw [← hN.out]; exact hl4) (by rw [← hN.out]; exact hcB) hcB' (hBN5.out.later hbq)
    rw [cntT_rank ss m (by rw [← hNP.out]; exact hm), ← hN.out] at h
    exact h
  replace hs8 := hid hs8
  clear hown8 n3 c1 hS7
  go_wp2_with fail
  go_loopw [11] (fun iv wr => ∃ (i : Nat) (v : Value), iv = .int .i64 (i : Nat) ∧ i ≤ N ∧ SoSt w5 wr gs al (R : Nat) v (esTo ss (rnTo ss i)) (.slice AL L.length cL) L) (fun iv _ => N - (intOf iv).toNat)
  case atStart => exact ⟨0, _, rfl, by omega, hs8.out⟩
  case round =>
    clear hs8
    obtain ⟨i, v, rfl, hi', hs⟩ := hrel
    by_cases hlt : i < N
    · have hib : i < (rnB ss).length := by rw [← hN.out]; exact hlt
      obtain ⟨bB, oB, hBe, hbB, hEB⟩ := (hBN5.out.later hs.sub.keep) (by omega)
      subst hBe
      have b0 := hEB i hib
      have hrt := hid (rnTo_succ ss i)
      obtain ⟨b, hb⟩ : ∃ b, Hid (b = (rnB ss)[i]) := ⟨_, hid rfl⟩
      rw [← hb.out] at b0
      have hbR : Hid (b = true ↔ Rn ss i) := hid (by rw [hb.out, rnB_at]; simp)
      have k1 : (0 : Int) ≤ (i : Int) ∧ (i : Int) < (N : Int) := by omega
      have hs' := hid hs
      replace hEB := hid hEB
      replace hib := hid hib
      cases b with
      | false =>
        have hnx : Hid (esTo ss (rnTo ss i) = esTo ss (rnTo ss (i + 1))) := hid (by rw [hrt.out.2 (fun h => by have := hbR.out.2 h; cases this)])
        clear hs
        by_cases hL0 : 0 < L.length
        · have k2 : (0 : Int) < (L.length : Int) := by omega
          go_wp2_with fail
          obtain ⟨wo, rfl⟩ : ∃ wo : World, wo = wr := ⟨_, rfl⟩
          go_loopw [12] (fun kv wr => kv = .int .i64 0 ∧ wo = wr) (fun _ _ => 0)
          case atStart => exact ⟨rfl, by first | rfl | trivial⟩
          case round =>
            obtain ⟨rfl, rfl⟩ := hrel
            go_wp2_with fail
            go_roundw
            case rel => exact ⟨i + 1, v, by go_num, by omega, by rw [← hnx.out]; exact hs'.out⟩
            case measure => simp [intOf]; omega
        · have k2 : ¬ ((0 : Int) < (L.length : Int)) := by omega
          go_wp2_with fail
          obtain ⟨wo, rfl⟩ : ∃ wo : World, wo = wr := ⟨_, rfl⟩
          go_loopw [12] (fun kv wr => kv = .int .i64 0 ∧ wo = wr) (fun _ _ => 0)
          case atStart => exact ⟨rfl, by first | rfl | trivial⟩
          case round =>
            obtain ⟨rfl, rfl⟩ := hrel
            go_wp2_with fail
            go_roundw
            case rel => exact ⟨i + 1, v, by go_num, by omega, by rw [← hnx.out]; exact hs'.out⟩
            case measure => simp [intOf]; omega
      | true =>
        have hRi := hbR.out.1 rfl
        have hnx : Hid (esTo ss (rnTo ss (i + 1)) = esTo ss (rnTo ss i) ++ cmRow ss i) := hid (by rw [hrt.out.1 hRi, esTo_snoc])
        have hrn16 : (rnTo ss i).length ≤ 16 := by
          have h1 : (rnTo ss i).length = rkN ss i := rfl
          have h2 := rkN_mono ss (show i ≤ prodL (szP ss) by rw [← hNP.out]; exact hi')
          rw [rkN_all, ← hR.out] at h2
          omega
        have h3 : ss.length ≤ 3 := by rw [hlen.out]; decide
        have hesI : (esTo ss (rnTo ss i)).length ≤ 393216 := by
          have := esTo_le hall.out h3 (rnTo ss i)
          have h4 : (rnTo ss i).length * 24576 ≤ 16 * 24576 := Nat.mul_le_mul_right _ hrn16
          omega
        obtain ⟨E0, hE0⟩ : ∃ E0, Hid (E0 = esTo ss (rnTo ss i)) := ⟨_, hid rfl⟩
        rw [← hE0.out] at hs' hnx hesI
        clear hs
        replace h3 := hid h3
        go_wp2_with fail
        obtain ⟨wo, rfl⟩ : ∃ wo : World, wo = wr := ⟨_, rfl⟩
        go_loopw [12] (fun kv wr => ∃ (k : Nat) (v : Value), kv = .int .i64 (k : Nat) ∧ k ≤ L.length ∧ SoSt w5 wr gs al (R : Nat) v (E0 ++ rowTo ss i k) (.slice AL L.length cL) L) (fun kv _ => L.length - (intOf kv).toNat)
        case atStart => exact ⟨0, v, rfl, by omega, by rw [rowTo_zero, List.append_nil]; exact hs'.out⟩
        case round =>
          clear hs' b0
          obtain ⟨k, v, rfl, hk, hs⟩ := hrel
          by_cases hlk : k < L.length
          · obtain ⟨AL2, cL2, e7, -, -, hLN⟩ := OwnNats.read hs.list
            cases e7
            obtain ⟨bL, oL, hLE, hbL, hEL⟩ := hLN (by omega)
            subst hLE
            have l0 := hEL k hlk
            obtain ⟨l, hl9⟩ : ∃ l, Hid (l = L[k]) := ⟨_, hid rfl⟩
            rw [← hl9.out] at l0
            have hl6 : l < 6 := by rw [hl9.out]; exact hlL.out _ (List.getElem_mem _)
            have b0 : wr.cell? ⟨bB, oB + i, none⟩ = some (.bool true) := by
              obtain ⟨bB2, oB2, e8, -, hEB2⟩ := (hBN5.out.later hs.sub.keep) (by rw [← hN.out]; omega)
              cases e8
              rw [hEB2 i hib.out, ← hb.out]
            obtain ⟨M, hM⟩ : ∃ M, Hid (M = nxParts ss i l) := ⟨_, hid rfl⟩
            have hMl : M.length ≤ 4096 := by rw [hM.out]; exact nxParts_le hall.out h3.out i l
            have hMlt : Hid (∀ m ∈ M, m < N) := hid fun m hm => by rw [hM.out] at hm; rw [hNP.out]; exact nxParts_lt hall.out i l m hm
            have hkk : k < (letters (allAl ss)).length := by rw [← hLe.out]; exact hlk
            have hrow : Hid (rowTo ss i (k + 1) = rowTo ss i k ++ M.map (mkE ss i l)) := hid (by rw [rowTo_succ hkk, hM.out, hl9.out]; simp only [hLe.out])
            have hrl := rowTo_le hall.out h3.out i k
            have hzr2 := hs.sub.keep.size
            have hbr := hs.sub.keep
            have hs1 : Hid (∀ a ∈ szP ss, 1 ≤ a) := hid fun a ha => (szP_ok hall.out a ha).1
            have hszl : (szP ss).length ≤ 3 := by unfold szP; rw [List.length_map, hlen.out]; decide
            have hNr : i ≤ 1000000 := by omega
            have hcd := hid (fun w' (hb : Below wr.heap.size wr w') => l4Decode_any (szP ss) AS cS i w' hs1.out hszl hNr hcS hcS' (hSN5.out.later (hbr.trans (hb.mono hzr2))))
            have hcl := hid (fun w' A6 c6 (hb : Below wr.heap.size wr w') (h4 : (szP ss).length ≤ c6) (h5 : c6 ≤ 9223372036854775807) (h6 : NatsAt w' w'.heap.size A6 (decS (szP ss) i)) => by
              have hbb := hbr.trans (hb.mono hzr2)
              have h := l4Nexts_any (.slice (some ⟨bS, 0, none⟩) ss.length 2) (.slice none 0 0) (.slice none 0 0) al 0 0 (szP ss) (decS (szP ss) i) (chP ss) AS A6 cS c6 l w' (netOk_sys ss (some ⟨bS, 0, none⟩) 2 (.slice none 0 0) al 0 0 w' h3.out hall.out (hSys5.out.later hbb)) (decS_len _ _) (fun j hj => by rw [getD_at1 hj]; exact decS_lt hs1.out i j hj) hl6 hcS hcS' (by rw [decS_len]; exact h4) h5 (hSN5.out.later hbb) h6
              have e1 : nxK (szP ss) (fun j => chP ss j ((decS (szP ss) i).getD j 0) l) (szP ss).length = M := by rw [hM.out, ← nx_eq hall.out]; rfl
              rw [e1, decS_len, hlen.out] at h
              unfold netV at h
              exact h)
            obtain ⟨⟨p0, p1, p2⟩, p3, p4, p5⟩ := hnet.out wr (hb37'.out.trans (hbr.mono hb37'.out.size))
            have hlw : bS + 1 < wr.heap.size := by have := hb37'.out.size; omega
            have y0 : ∀ x', (Fam wr.heap.size wr x').cell? ⟨bS + 1, 0, none⟩ = some (.slice (some ⟨bS, 0, none⟩) 2 2) := fun x' => by rw [(Fam.below wr.heap.size wr x').cell (by simpa using hlw)]; exact p0
            have y1 : ∀ x', (Fam wr.heap.size wr x').cell? ⟨bS + 1, 1, none⟩ = some (.slice none 0 0) := fun x' => by rw [(Fam.below wr.heap.size wr x').cell (by simpa using hlw)]; exact p1
            have y2 : ∀ x', (Fam wr.heap.size wr x').cell? ⟨bS + 1, 2, none⟩ = some (.slice none 0 0) := fun x' => by rw [(Fam.below wr.heap.size wr x').cell (by simpa using hlw)]; exact p2
            have y3 : ∀ x', (Fam wr.heap.size wr x').cell? ⟨bS + 1, 3, none⟩ = some (.int .i64 al) := fun x' => by rw [(Fam.below wr.heap.size wr x').cell (by simpa using hlw)]; exact p3
            have y4 : ∀ x', (Fam wr.heap.size wr x').cell? ⟨bS + 1, 4, none⟩ = some (.int .i64 0) := fun x' => by rw [(Fam.below wr.heap.size wr x').cell (by simpa using hlw)]; exact p4
            have y5 : ∀ x', (Fam wr.heap.size wr x').cell? ⟨bS + 1, 5, none⟩ = some (.int .i64 0) := fun x' => by rw [(Fam.below wr.heap.size wr x').cell (by simpa using hlw)]; exact p5
            have y6 : ∀ x', (Fam wr.heap.size wr x').cell? ⟨bL, oL + k, none⟩ = some (.int .i64 (l : Nat)) := fun x' => by rw [(Fam.below wr.heap.size wr x').cell (by simpa using hbL)]; exact l0
            have k5 : (0 : Int) ≤ (k : Int) ∧ (k : Int) < (L.length : Int) := by omega
            have hs' := hid hs
            replace hEL := hid hEL
            replace hLN := hid hLN
            clear hs p0 p1 p2 p3 p4 p5 l0
            go_upto_region 16 with fail
            refine wp_region_grow 11 wr.heap.size wr (fun i' u w' => if i' = 4 then ∃ A c, u = .slice A (szP ss).length c ∧ (szP ss).length ≤ c ∧ c ≤ 9223372036854775807 ∧ NatsAt w' w'.heap.size A (decS (szP ss) i) else OwnNats w' wr.heap.size u M) (by kernel_rfl) (by kernel_rfl) (Nat.le_refl _) (Below.refl _ _) ?_
            simp only [List.take_succ_cons, List.take_zero, List.drop_succ_cons, List.drop_zero]
            (repeat (refine grow_quiet (by rfl) (by rfl) (by rfl) ?_; intro K hK; go_big_quiet_op; go_big_quiet_on))
            refine grow_call (by rfl) (by rfl) (fun u v v' hb h => ?_) (fun wq hbq _ => ?_) fun u hu => ?_
            · obtain ⟨A, c, e, h1, h2, h⟩ := h
              exact ⟨A, c, e, h1, h2, h.later hb⟩
            · go_simp
              refine ⟨rfl, (hcd.out wq hbq).mono ?_⟩
              rintro e w5 ⟨v, rfl, ho, hb5⟩
              obtain ⟨A, c, rfl, h1, h2, h3⟩ := OwnNats.read ho
              refine ⟨_, rfl, hb5, A, c, ?_, by rw [← decS_len (szP ss) i]; exact h1, h2, h3⟩
              rw [decS_len]
            obtain ⟨wx, -, A5, c5, rfl, -, -, -⟩ := hu
            simp only [Act.put, List.setIfInBounds_toArray, List.set_cons_zero, List.set_cons_succ]
            (repeat (refine grow_quiet (by rfl) (by rfl) (by rfl) ?_; intro K hK; go_big_quiet_op; go_big_quiet_on))
            refine grow_call (by rfl) (by rfl) (fun u v v' hb h => own_keep (show OwnNats v wr.heap.size u M from h) (.of_below (K := fun _ => False) hb) fun _ _ h => h) (fun wq hbq hfx => ?_) fun u hu => ?_
            · obtain ⟨A6, c6, e3, h4, h5, h6⟩ := hfx _ List.mem_cons_self (by kernel_rfl)
              cases e3
              have h6' := hid h6
              clear h6 hfx
              go_simp
              refine ⟨rfl, (hcl.out wq A5 c5 hbq h4 h5 h6'.out).mono ?_⟩
              rintro e w5 ⟨v, rfl, ho, hb5⟩
              exact ⟨v, rfl, hb5, own_base ho hbq.size⟩
            obtain ⟨wX, -, hoX⟩ := hu
            obtain ⟨AM, cM, rfl, hcM, hcM', -⟩ := OwnNats.read (show OwnNats wX wr.heap.size _ M from hoX)
            clear hoX
            simp only [Act.put, List.setIfInBounds_toArray, List.set_cons_zero, List.set_cons_succ]
            (repeat (refine grow_quiet (by rfl) (by rfl) (by rfl) ?_; intro K hK; go_big_quiet_op; go_big_quiet_on))
            refine grow_nil ?_
            intro w9 hb9 hf
            have hoM : OwnNats w9 wr.heap.size (.slice AM M.length cM) M := hf _ List.mem_cons_self
            have hs9 : Hid (SoSt2 w5 w9 gs al (R : Nat) v (E0 ++ rowTo ss i k) (.slice (some ⟨bL, oL, none⟩) L.length cL) L (.slice AM M.length cM) M) := hid ⟨hs'.out.later hb9, own_base hoM hzr2⟩
            clear hf hoM y0 y1 y2 y3 y4 y5 y6 hcl hcd hs' hLN hEL hbL b0
            go_wp2_with fail
            obtain ⟨wo2, rfl⟩ : ∃ wo : World, wo = wr := ⟨_, rfl⟩
            go_loopw [14] (fun jv wr => ∃ (j : Nat) (v : Value), jv = .int .i64 (j : Nat) ∧ j ≤ M.length ∧ SoSt2 w5 wr gs al (R : Nat) v (E0 ++ rowTo ss i k ++ (M.take j).map (mkE ss i l)) (.slice (some ⟨bL, oL, none⟩) L.length cL) L (.slice AM M.length cM) M) (fun jv _ => M.length - (intOf jv).toNat)
            case atStart => exact ⟨0, v, rfl, by omega, by rw [List.take_zero, List.map_nil, List.append_nil]; exact hs9.out⟩
            case round =>
              clear hs9
              obtain ⟨j, v, rfl, hj, hs⟩ := hrel
              by_cases hjl : j < M.length
              · obtain ⟨AM2, cM2, e7, -, -, hMN⟩ := OwnNats.read hs.mem
                cases e7
                obtain ⟨bM, oM, hME, hbM, hEM⟩ := hMN (by omega)
                subst hME
                have m0 := hEM j hjl
                obtain ⟨m, hm9⟩ : ∃ m, Hid (m = M[j]) := ⟨_, hid rfl⟩
                rw [← hm9.out] at m0
                obtain ⟨AL2, cL2, e7, -, -, hLN⟩ := OwnNats.read hs.so.list
                cases e7
                obtain ⟨bL2, oL2, hLE, hbL, hEL⟩ := hLN (by omega)
                cases hLE
                have l0 := hEL k hlk
                rw [← hl9.out] at l0
                have hmN : m < N := by rw [hm9.out]; exact hMlt.out _ (List.getElem_mem _)
                have c2 := hs.so.sub.blk.cell 2
                simp only [List.getElem?_toArray, List.getElem?_cons_zero, List.getElem?_cons_succ] at c2
                have k6 : (0 : Int) ≤ (j : Int) ∧ (j : Int) < (M.length : Int) := by omega
                obtain ⟨es, hes⟩ : ∃ es, Hid (es = E0 ++ rowTo ss i k ++ (M.take j).map (mkE ss i l)) := ⟨_, hid rfl⟩
                have hesl : es.length ≤ 1000000 := by
                  rw [hes.out, List.length_append, List.length_append, List.length_map, List.length_take]
                  omega
                rw [← hes.out] at hs
                obtain ⟨ri, hri⟩ : ∃ r, Hid (r = rkN ss i) := ⟨_, hid rfl⟩
                obtain ⟨rm, hrm⟩ : ∃ r, Hid (r = rkN ss m) := ⟨_, hid rfl⟩
                have hek : Hid (E0 ++ rowTo ss i k ++ (M.take (j + 1)).map (mkE ss i l) = es ++ [⟨(ri : Int), (l : Int), (rm : Int)⟩]) := hid (by
                  rw [map_take_snoc hjl, ← List.append_assoc, ← hes.out, ← hm9.out, hri.out, hrm.out]
                  rfl)
                have hbr3 := hid hs.so.sub.keep
                have hkI := hid (fun wq (hb : Below wr.heap.size wr wq) => hrkL.out i hi' wq (hbr3.out.trans (hb.mono hbr3.out.size)))
                have hkM := hid (fun wq (hb : Below wr.heap.size wr wq) => hrkL.out m (Nat.le_of_lt hmN) wq (hbr3.out.trans (hb.mono hbr3.out.size)))
                rw [← hri.out] at hkI
                rw [← hrm.out] at hkM
                have q0 := GK.BI.cell c2
                have q1 := GK.BI.cell l0
                have q2 := GK.BI.cell m0
                have hs' := hid hs
                replace hEM := hid hEM
                replace hMN := hid hMN
                replace hEL := hid hEL
                replace hLN := hid hLN
                clear hs
                go_upto_region 20 with fail
                clear c2 l0 m0
                refine GK.wp_region 17 [17, 18, 19] 200 (KeepB fun _ => False) (GK.BI wr) (fun i' u _ => if i' = 4 then u = .int .i64 (ri : Nat) else u = .int .i64 (rm : Nat)) (by kernel_rfl) (by kernel_rfl) (GK.BI.way wr) (by decide) (Below.refl _ _).drew ?_
                simp only [List.take_succ_cons, List.take_zero]
                (repeat (refine GK.grow_quiet wr (by rfl) (by rfl) ?_; intro K hK; go_big_quiet_op; go_big_quiet_on))
                refine GK.grow_val (.int .i64 (ri : Nat)) (by rfl) rfl (fun m' wq hm2 hbq _ => ?_) ?_
                · go_simp
                  exact ⟨rfl, by
                    have hbq' : Below wr.heap.size wr wq := hbq
                    exact (hkI.out wq hbq').mono fun e w' ⟨h1, h2⟩ => ⟨h1, by rw [h2]; exact GK.BI.after hbq (Below.refl _ _)⟩⟩
                simp only [Act.put, List.setIfInBounds_toArray, List.set_cons_zero, List.set_cons_succ]
                (repeat (refine GK.grow_quiet wr (by rfl) (by rfl) ?_; intro K hK; go_big_quiet_op; go_big_quiet_on))
                refine GK.grow_val (.int .i64 (rm : Nat)) (by rfl) rfl (fun m' wq hm2 hbq _ => ?_) ?_
                · go_simp
                  exact ⟨rfl, by
                    have hbq' : Below wr.heap.size wr wq := hbq
                    exact (hkM.out wq hbq').mono fun e w' ⟨h1, h2⟩ => ⟨h1, by rw [h2]; exact GK.BI.after hbq (Below.refl _ _)⟩⟩
                simp only [Act.put, List.setIfInBounds_toArray, List.set_cons_zero, List.set_cons_succ]
                (repeat (refine GK.grow_quiet wr (by rfl) (by rfl) ?_; intro K hK; go_big_quiet_op; go_big_quiet_on))
                refine GK.grow_new (K := fun _ => False) (by rfl) _ (fun b => .slice (some ⟨b, 0, none⟩) 1 1) 59 #[.int .i64 (ri : Nat), .int .i64 (l : Nat), .int .i64 (rm : Nat)] (fun _ => by go_simp) rfl (fun _ _ o h => GK.BI.alloc o h) (fun _ _ h => GK.BI.size h) (fun _ h => h.elim) (fun bb hbb2 => ?_)
                simp only [Act.put, List.setIfInBounds_toArray, List.set_cons_zero, List.set_cons_succ]
                refine GK.grow_nil ?_
                intro w4' hw4 hf
                obtain ⟨g', hge, hge2, hblk4⟩ := hf _ List.mem_cons_self
                cases hge
                clear hf
                simp only [List.filterMap_cons, List.filterMap_nil, List.getElem?_cons_zero, List.getElem?_cons_succ]
                replace hw4 : Below wr.heap.size wr w4' := hw4
                have hS4 := hid (hs'.out.later hw4)
                have hown4 := hS4.out.so.sub.own
                have hbl4 := hS4.out.so.sub.blk.lt
                have ag : v.ownBlock ≠ some gs := fun e => own_ne hS4.out.so.sub.own hS4.out.so.sub.blk (by decide) gs e rfl
                have c2 := hS4.out.so.sub.blk.cell 2
                have f2 := hS4.out.so.sub.blk.frozen 2
                simp only [List.getElem?_toArray, List.getElem?_cons_zero, List.getElem?_cons_succ] at c2
                clear q0 q1 q2
                refine wpList_append_lies _ (by rfl) _ _ 26 (by rfl) w5.heap.size 59 i0 (.agg #[.int .i64 0, .int .i64 0, .int .i64 0]) 3 24 Tryd.underlying26 hi hz0' hz1' hz2' rfl (by decide) v es.length (edCells es) (by rfl) hown4 ⟨bb, 0, none⟩ 1 1 [.int .i64 (ri : Nat), .int .i64 (l : Nat), .int .i64 (rm : Nat)] (by rfl) (by rfl) (World.news_of_block hblk4) ?c1 (by omega) ?c3 ?c4 ?c5 w4'.heap.size rfl ?_
                case c1 => simp [Value.oneCell']
                case c3 => unfold maxLen; omega
                case c4 => omega
                case c5 => have := hS4.out.so.sub.keep.size; omega
                intro gg cap wE hown5 hgrow hat hlt5
                have c2' : wE.cell? ⟨gs, 2, none⟩ = some v := by rw [hgrow.cell_far _ (by simpa using hbl4) (Ne.symm ag)]; exact c2
                have f2' : wE.frozen? ⟨gs, 2, none⟩ = false := by rw [hgrow.frozen_far _ (by simpa using hbl4) (Ne.symm ag)]; exact f2
                have hfin := hid (hS4.out.add (x := ⟨(ri : Int), (l : Int), (rm : Int)⟩) hown5 hgrow)
                have hz5 := hgrow.size
                clear hown4 hown5 hgrow c2 f2
                go_wp2_with fail
                go_roundw
                case rel => exact ⟨j + 1, _, by go_num, by omega, by rw [hek.out]; exact hfin.out⟩
                case measure => simp [intOf]; omega
              · obtain rfl : j = M.length := by omega
                have hfin : Hid (SoSt w5 wr gs al (R : Nat) v (E0 ++ rowTo ss i (k + 1)) (.slice (some ⟨bL, oL, none⟩) L.length cL) L) := hid (by
                  rw [hrow.out, ← List.append_assoc]
                  have h9 := hs.so
                  rw [List.take_length] at h9
                  exact h9)
                replace hs := hid hs
                go_wp2_with fail
                go_roundw
                case rel => exact ⟨k + 1, v, by go_num, by omega, hfin.out⟩
                case measure => simp [intOf]; omega
          · obtain rfl : k = L.length := by omega
            have hfin : Hid (E0 ++ rowTo ss i L.length = esTo ss (rnTo ss (i + 1))) := hid (by rw [hnx.out, hLe.out, rowTo_all])
            replace hs := hid hs
            have k6 : ¬ ((L.length : Int) < (L.length : Int)) := by omega
            go_wp2_with fail
            go_roundw
            case rel => exact ⟨i + 1, v, by go_num, by omega, by rw [← hfin.out]; exact hs.out⟩
            case measure => simp [intOf]; omega
    · obtain rfl : i = N := by omega
      have hE : esTo ss (rnTo ss i) = cmEs ss := by rw [hNP.out, rnTo_all, esTo_all]
      rw [hE] at hs
      obtain ⟨es, hes⟩ : ∃ es, Hid (es = cmEs ss) := ⟨_, hid rfl⟩
      rw [← hes.out] at hs
      obtain ⟨Av, cv, hve, hv1, hv2⟩ := own_slice hs.sub.own
      subst hve
      obtain ⟨A2, c2', hve2, h1, h2, h3, h4⟩ := OwnEds.read (show OwnEds wr w5.heap.size (.slice Av es.length cv) es from hs.sub.own)
      cases hve2
      have hbr := hs.sub.keep
      have c0 := hs.sub.blk.cell 0
      have c1 := hs.sub.blk.cell 1
      have c2 := hs.sub.blk.cell 2
      have hrb := hrB5.out.below hbr hrB5.out.lt
      have d0 := hrb.cell 0
      have d1 := hrb.cell 1
      have d2 := hrb.cell 2
      have f0 := hrb.frozen 0
      have f1 := hrb.frozen 1
      have f2 := hrb.frozen 2
      simp only [List.getElem?_toArray, List.getElem?_cons_zero, List.getElem?_cons_succ] at c0 c1 c2 d0 d1 d2
      have hlt3 := hrb.lt
      have hg5 : w.heap.size + 1 + 1 < w5.heap.size := hrB5.out.lt
      have hfin : Hid (SoPost w (cmX s t) (cmOk s t) (.returned (.tuple #[.agg #[.int .i64 al, .int .i64 (R : Nat), .slice Av es.length cv], .bool true])) (((wr.setCell ⟨w.heap.size + 1 + 1, 0, none⟩ (.int .i64 al)).setCell ⟨w.heap.size + 1 + 1, 1, none⟩ (.int .i64 (R : Nat))).setCell ⟨w.heap.size + 1 + 1, 2, none⟩ (.slice Av es.length cv))) := hid (by
        have hne : ∀ b o, Av = some ⟨b, o, none⟩ → 0 < es.length → b ≠ w.heap.size + 1 + 1 := fun b o hA _ => by have := h4 b o hA; omega
        have e : cmSy ss = ⟨al, ((R : Nat) : Int), es⟩ := by unfold cmSy; rw [hale.out, hR.out, hes.out]
        rw [cmX_ok hcok.out, hcok.out, ← hss.out, e]
        have hB5s := hB5.size
        refine ⟨Av, cv, rfl, h1, h2, ?_, fun b o hA => by have := h4 b o hA; omega, ?_⟩
        · simpa [World.setCell] using ((h3.stored _ hne).stored _ hne).stored _ hne
        · exact (((hB5.trans (hbr.mono hB5.size)).setCell (by simp; omega) _).setCell (by simp; omega) _).setCell (by simp; omega) _)
      replace hs := hid hs
      replace h3 := hid h3
      clear hrb
      go_wp2
      refine bodyPost_ret (v := .tuple #[.agg #[.int .i64 al, .int .i64 (R : Nat), .slice Av es.length cv], .bool true]) (by simp [results, Tryd.results10, go_sem, d0, d1, d2]) rfl ?_
      exact hfin.out

end Go.Proofs.YtdkjnemakkppfaaDoor

/- A drawn statement that makes a system's block and stores a result into it: what stays whatever its operations do. -/
namespace Go.Proofs.YtdkjnemakkppfaaDoor
open Go.RowKit Go.BigFrame AG

/-- A block of a system that was made since. -/
def SysB (B : Nat) (w : World) (k : Nat) : Prop := B ≤ k ∧ ∃ (x y : Int) (A : Option Addr) (n c : Nat), w.heap[k]? = some (.cells #[.int .i64 x, .int .i64 y, .slice A n c] 28 (0, 0))
/-- A block that holds the system X. -/
def LaidSy (X : Sy) (w : World) (b : Nat) : Prop := ∃ (A : Option Addr) (c : Nat), w.heap[b]? = some (.cells #[.int .i64 X.al, .int .i64 X.st, .slice A X.es.length c] 28 (0, 0)) ∧ X.es.length ≤ c ∧ c ≤ 9223372036854775807 ∧ EdsAt w w.heap.size A X.es
structure SG (B : Nat) (X : Sy) (w w' : World) : Prop where
  os : w'.os = w.os
  tape : w'.tape = w.tape
  output : w'.output = w.output
  size : w.heap.size ≤ w'.heap.size
  block : ∀ k, k < w.heap.size → w'.heap[k]? = w.heap[k]? ∨ SysB B w k ∧ SysB B w' k
  laid : ∀ b, LaidSy X w b → LaidSy X w' b
theorem EdsAt.not_sys {B : Nat} {w : World} {b o : Nat} {es : List Ed} (hl : 0 < es.length) (hE : ∀ i (h : i < es.length), w.cell? ⟨b, o + i * 3, none⟩ = some (.int .i64 es[i].f) ∧ w.cell? ⟨b, o + i * 3 + 1, none⟩ = some (.int .i64 es[i].l) ∧ w.cell? ⟨b, o + i * 3 + 2, none⟩ = some (.int .i64 es[i].t)) : ¬ SysB B w b := by
  rintro ⟨_, x, y, A, n, c, hh⟩
  have hb : Blk w b 28 #[.int .i64 x, .int .i64 y, .slice A n c] := hh
  have h2 := (hE 0 hl).2.2
  rw [hb.cell] at h2
  rcases (show o = 0 ∨ 1 ≤ o by omega) with e | e
  · subst e; simp at h2
  · rw [Array.getElem?_eq_none (by simp; omega)] at h2; cases h2
theorem heap_cell {w w' : World} {b : Nat} (e : w'.heap[b]? = w.heap[b]?) (o : Nat) : w'.cell? ⟨b, o, none⟩ = w.cell? ⟨b, o, none⟩ := by simp only [World.cell?, e]
theorem EdsAt.sg {B : Nat} {X : Sy} {w w' : World} {A : Option Addr} {es : List Ed} (h : EdsAt w w.heap.size A es) (k : SG B X w w') : EdsAt w' w'.heap.size A es := fun hl => by
  obtain ⟨b, o, e, hb, hE⟩ := h hl
  have hh := (k.block b hb).resolve_right fun h => EdsAt.not_sys hl hE h.1
  refine ⟨b, o, e, Nat.lt_of_lt_of_le hb k.size, fun i hi => ?_⟩
  rw [heap_cell hh, heap_cell hh, heap_cell hh]
  exact hE i hi
theorem SG.of_below {B : Nat} {X : Sy} {w w' : World} (h : Below w.heap.size w w') : SG B X w w' := by
  refine ⟨h.os, h.tape, h.output, h.size, fun k hk => .inl (h.block k hk), fun b hb => ?_⟩
  obtain ⟨A, c, h1, h2, h3, h4⟩ := hb
  exact ⟨A, c, (h.block b (Array.getElem?_eq_some_iff.1 h1).1).trans h1, h2, h3, h4.later h⟩
theorem SG.refl {B : Nat} {X : Sy} (w : World) : SG B X w w := .of_below (Below.refl _ _)
theorem SG.trans {B : Nat} {X : Sy} {a b c : World} (h : SG B X a b) (k : SG B X b c) : SG B X a c := by
  refine ⟨k.os.trans h.os, k.tape.trans h.tape, k.output.trans h.output, Nat.le_trans h.size k.size, fun i hi => ?_, fun b hb => k.laid b (h.laid b hb)⟩
  rcases h.block i hi with h1 | h1
  · rcases k.block i (Nat.lt_of_lt_of_le hi h.size) with h2 | h2
    · exact .inl (h2.trans h1)
    · refine .inr ⟨?_, h2.2⟩
      obtain ⟨e, x, y, A, n, c, hh⟩ := h2.1
      exact ⟨e, x, y, A, n, c, h1.symm.trans hh⟩
  · rcases k.block i (Nat.lt_of_lt_of_le hi h.size) with h2 | h2
    · refine .inr ⟨h1.1, ?_⟩
      obtain ⟨e, x, y, A, n, c, hh⟩ := h1.2
      exact ⟨e, x, y, A, n, c, h2.trans hh⟩
    · exact .inr ⟨h1.1, h2.2⟩
theorem SG.sysB {B : Nat} {X : Sy} {w w' : World} {b : Nat} (h : SysB B w b) (k : SG B X w w') : SysB B w' b := by
  obtain ⟨e, x, y, A, n, c, hh⟩ := h
  rcases k.block b (Array.getElem?_eq_some_iff.1 hh).1 with h1 | h1
  · exact ⟨e, x, y, A, n, c, h1.trans hh⟩
  · exact h1.2
/-- The result is stored. -/
theorem SG.store {B : Nat} {X : Sy} {w : World} {b : Nat} {A : Option Addr} {c : Nat} (h : SysB B w b) (h1 : X.es.length ≤ c) (h2 : c ≤ 9223372036854775807) (hE : EdsAt w w.heap.size A X.es) :
    SG B X w (((w.setCell ⟨b, 0, none⟩ (.int .i64 X.al)).setCell ⟨b, 1, none⟩ (.int .i64 X.st)).setCell ⟨b, 2, none⟩ (.slice A X.es.length c)) ∧ LaidSy X (((w.setCell ⟨b, 0, none⟩ (.int .i64 X.al)).setCell ⟨b, 1, none⟩ (.int .i64 X.st)).setCell ⟨b, 2, none⟩ (.slice A X.es.length c)) b := by
  have hk : KeepB (fun k => k = b) w (((w.setCell ⟨b, 0, none⟩ (.int .i64 X.al)).setCell ⟨b, 1, none⟩ (.int .i64 X.st)).setCell ⟨b, 2, none⟩ (.slice A X.es.length c)) := (((KeepB.refl (fun k => k = b) w).setCell ⟨b, 0, none⟩ (.int .i64 X.al) fun _ => rfl).setCell ⟨b, 1, none⟩ (.int .i64 X.st) fun _ => rfl).setCell ⟨b, 2, none⟩ (.slice A X.es.length c) fun _ => rfl
  have h' := h
  obtain ⟨e, x, y, A', n, c', hh⟩ := h
  have hb : Blk w b 28 #[.int .i64 x, .int .i64 y, .slice A' n c'] := hh
  have hb2 : Blk (((w.setCell ⟨b, 0, none⟩ (.int .i64 X.al)).setCell ⟨b, 1, none⟩ (.int .i64 X.st)).setCell ⟨b, 2, none⟩ (.slice A X.es.length c)) b 28 #[.int .i64 X.al, .int .i64 X.st, .slice A X.es.length c] := by
    simpa using ((hb.set_ 0 (.int .i64 X.al)).set_ 1 (.int .i64 X.st)).set_ 2 (.slice A X.es.length c)
  have hed : ∀ {A0 : Option Addr} {es : List Ed}, EdsAt w w.heap.size A0 es → EdsAt (((w.setCell ⟨b, 0, none⟩ (.int .i64 X.al)).setCell ⟨b, 1, none⟩ (.int .i64 X.st)).setCell ⟨b, 2, none⟩ (.slice A X.es.length c)) (((w.setCell ⟨b, 0, none⟩ (.int .i64 X.al)).setCell ⟨b, 1, none⟩ (.int .i64 X.st)).setCell ⟨b, 2, none⟩ (.slice A X.es.length c)).heap.size A0 es := fun {A0 es} h0 hl => by
    obtain ⟨b', o, e', hb', hE'⟩ := h0 hl
    have hne : ¬ b' = b := fun e2 => EdsAt.not_sys (B := B) hl hE' (by rw [e2]; exact h')
    have hh' := hk.block b' hb' hne
    refine ⟨b', o, e', Nat.lt_of_lt_of_le hb' hk.size, fun i hi => ?_⟩
    rw [heap_cell hh', heap_cell hh', heap_cell hh']
    exact hE' i hi
  have hl : LaidSy X (((w.setCell ⟨b, 0, none⟩ (.int .i64 X.al)).setCell ⟨b, 1, none⟩ (.int .i64 X.st)).setCell ⟨b, 2, none⟩ (.slice A X.es.length c)) b := ⟨A, c, hb2, h1, h2, hed hE⟩
  refine ⟨⟨hk.os, hk.tape, hk.output, hk.size, fun k hk' => ?_, fun b' hb' => ?_⟩, hl⟩
  · by_cases e2 : k = b
    · subst e2
      exact .inr ⟨h', e, _, _, _, _, _, hb2⟩
    · exact .inl (hk.block k hk' e2)
  · by_cases e2 : b' = b
    · rw [e2]; exact hl
    · obtain ⟨A0, c0, g1, g2, g3, g4⟩ := hb'
      exact ⟨A0, c0, (hk.block b' (Array.getElem?_eq_some_iff.1 g1).1 e2).trans g1, g2, g3, hed g4⟩
theorem SG.way {w0 : World} {B : Nat} {X : Sy} : AG.Way (SG B X) (GK.BI w0) := ⟨SG.refl, fun _ _ _ h k => h.trans k, fun _ _ h => h⟩

/-- An operation that is no call, of which a lasting fact is told. -/
theorem GK.grow_fact {P : Program} {ops : Array Oper} {M : Nat} {S : World → World → Prop} {I : Nat → World → Prop} {sp : Nat → Value → World → Prop} {w0 : World} {Q : List (Nat × (World → Prop)) → Act → Prop} {o : Oper} {rest : List Oper} {i : Nat} {Γ : List (Nat × (World → Prop))} {a : Act}
    (Z : Value → World → Prop) (hw : Region.wanted o (yielded ops a.tmps) = true) (hs : ∀ u, GK.Steady S (Z u))
    (hr : ∀ m w, m < M → I m w → FactsAt .any ops i Γ w → fnUpon (fun u w' => (S w w' ∧ I (m + 1) w') ∧ Z u w') ((execOp a.eval o).run P w))
    (h : ∀ u, (∃ m w', I m w' ∧ Z u w') → GK.wpGrow P ops S I M w0 sp Q rest (i + 1) ((i, Z u) :: Γ) (a.put o.dst u)) : GK.wpGrow P ops S I M w0 sp Q (o :: rest) i Γ a := by
  unfold GK.wpGrow GK.Res
  rw [if_pos hw]
  exact .inr (.inl ⟨Z, hs, hr, (fun h => by cases h), fun u _ hu => h u (hu rfl)⟩)

end Go.Proofs.YtdkjnemakkppfaaDoor
