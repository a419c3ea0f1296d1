/- Lemmas, part 11: several texts in one. -/
import Derived.Test.YtjhlbeamfngebaaDoorX10
import Derived.Test.YtjhlbeamfngebaaDoorX6
import Derived.Test.YtjhlbeamfngebaaDoorX8
import Derived.Test.YtjhlbeamfngebaaDoorX9
import Derived.Test.YtjhlbeamfngebaaDoorX3
import Derived.Test.YtjhlbeamfngebaaDoorX1
import Derived.ProofKit
import Derived.Deep.Slices
import Derived.Deep.Fields
import Derived.ChangeSame
import Derived.ChangeSlices
import Derived.Lib.SmallJoins
set_option linter.unusedSimpArgs false
set_option linter.unusedVariables false

/- The reference's l4First. -/
namespace Go.Proofs.YtjhlbeamfngebaaDoor
open Go.RowKit Go.BigFrame AG

theorem prodT_past {ss : List Nat} : ∀ j, prodT ss (ss.length + j) = prodT ss ss.length
  | 0 => rfl
  | j + 1 => by
    rw [← Nat.add_assoc, prodT, prodT_past j, List.getD_eq_getElem?_getD, List.getElem?_eq_none (by omega), Option.getD_none, Nat.mul_one]
theorem prodT_4096 {ss : List Nat} (h3 : ss.length ≤ 3) (hs : ∀ a ∈ ss, a ≤ 16) (k : Nat) : prodT ss k ≤ 4096 := by
  have key : ∀ k, k ≤ 3 → prodT ss k ≤ 4096 := fun k hk => Nat.le_trans (prodT_le hs (by decide) k) (Nat.le_trans (Nat.pow_le_pow_right (by decide) hk) (by decide))
  by_cases h : k ≤ ss.length
  · exact key k (by omega)
  · have := prodT_past (ss := ss) (k - ss.length)
    rw [show ss.length + (k - ss.length) = k from by omega] at this
    rw [this]
    exact key _ h3
theorem encK_lt {ss qs : List Nat} (hl : qs.length = ss.length) (hq : ∀ i, i < ss.length → qs.getD i 0 < ss.getD i 1) : ∀ k, encK ss qs k < prodT ss k
  | 0 => Nat.zero_lt_one
  | k + 1 => by
    have h1 := encK_lt hl hq k
    have h2 : qs.getD k 0 < ss.getD k 1 := by
      by_cases h : k < ss.length
      · exact hq k h
      · rw [List.getD_eq_getElem?_getD, List.getD_eq_getElem?_getD, List.getElem?_eq_none (by omega), List.getElem?_eq_none (by omega)]
        exact Nat.zero_lt_one
    rw [encK, prodT]
    have h3 : (encK ss qs k + 1) * ss.getD k 1 ≤ prodT ss k * ss.getD k 1 := Nat.mul_le_mul_right _ h1
    rw [Nat.add_mul] at h3
    omega

/-- What the search asks of a product, with its sizes and its goals. -/
structure SrchNet (w0 : World) (nv : Value) (lt : Int) (ss : List Nat) (ch : Nat → Nat → Nat → List Nat) (fd : Nat → Bool) : Prop where
  net : NetOk w0 nv ss ch
  sizes : ∀ w', Below w0.heap.size w0 w' → Calls Tryd.prog 130 #[nv] w' fun e w'' => ∃ v, e = .returned v ∧ OwnNats w'' w'.heap.size v ss ∧ Below w'.heap.size w' w''
  found : ∀ w' n A c B d, Below w0.heap.size w0 w' → n < prodL ss → ss.length ≤ c → c ≤ 9223372036854775807 → (letters lt).length ≤ d → d ≤ 9223372036854775807 → NatsAt w' w'.heap.size A (decS ss n) → Tab2 w' w'.heap.size B (movT ss ch (letters lt) n) →
    Calls Tryd.prog 132 #[nv, .slice A ss.length c, .slice B (letters lt).length d] w' fun e w'' => e = .returned (.bool (fd n)) ∧ Below w'.heap.size w' w''

set_option maxRecDepth 100000 in
set_option maxHeartbeats 16000000 in
theorem l4First_any (c0 c1 : Value) (lt kd gl : Int) (ss qs : List Nat) (ch : Nat → Nat → Nat → List Nat) (fd : Nat → Bool) (AS : Option Addr) (cS : Nat) (w : World) (hS : SrchNet w (netV c0 c1 (.slice AS qs.length cS) lt kd gl) lt ss ch fd)
    (hql : qs.length = ss.length) (hqd : qs.length ≤ cS) (hcS : cS ≤ 9223372036854775807) (hq : ∀ i, i < ss.length → qs.getD i 0 < ss.getD i 1) (hr2 : NatsAt w w.heap.size AS qs) :
    Calls Tryd.prog 74 #[netV c0 c1 (.slice AS qs.length cS) lt kd gl] w fun e w' => ∃ o, e = .returned (pathV o) ∧ PathPost (fun m => m ∈ [encK ss qs ss.length]) (letters lt) (nxN ss ch) (fun n => fd n = true) o ∧ Below w.heap.size w w' := by
  obtain ⟨i0, hi, hz0', hz1, hz2⟩ := info_parts infoInt
  have hlen3 := hS.net.len3
  have hs1 : Hid (∀ a ∈ ss, 1 ≤ a) := hid fun a ha => (hS.net.size a ha).1
  have hs16 : Hid (∀ a ∈ ss, a ≤ 16) := hid fun a ha => (hS.net.size a ha).2
  have hpT := hid (prodT_4096 hlen3 hs16.out)
  have hpL : Hid (prodT ss ss.length = prodL ss) := hid (prodT_all ss)
  have hp1 : 1 ≤ prodL ss := prodL_pos hs1.out
  have hpl : prodL ss ≤ 4096 := by rw [← hpL.out]; exact hpT.out _
  have heL := hid (encK_lt hql hq)
  have hchlt := hid hS.net.chlt
  obtain ⟨w0, hw0, hzz0, hB0, hSb⟩ := boxed w #[c0, c1, .slice AS qs.length cS, .int .i64 lt, .int .i64 kd, .int .i64 gl] 93
  have hNet := hid (show SrchNet w0 (netV c0 c1 (.slice AS qs.length cS) lt kd gl) lt ss ch fd from ⟨hS.net.later hB0, fun w' hb => hS.sizes w' (hB0.trans (hb.mono hB0.size)), fun w' n A c B d hb => hS.found w' n A c B d (hB0.trans (hb.mono hB0.size))⟩)
  have hr20 := hid (hr2.later hB0)
  have hSp := hid (fun w' (hb : Below w0.heap.size w0 w') => And.intro (And.intro (hSb 0 _ rfl w' (hb.mono hzz0)) (And.intro (hSb 1 _ rfl w' (hb.mono hzz0)) (hSb 2 _ rfl w' (hb.mono hzz0)))) (And.intro (hSb 3 _ rfl w' (hb.mono hzz0)) (And.intro (hSb 4 _ rfl w' (hb.mono hzz0)) (hSb 5 _ rfl w' (hb.mono hzz0)))))
  have hmk := fun W => run_make_rowN (P := Tryd.prog) 72 3 i0 _ Tryd.underlying72 hi hz0' .i64 .i64 (prodL ss) (prodL ss) (Nat.le_refl _) (by rw [hz2]; omega) (by omega) W
  rw [hz1] at hmk
  clear hS hSb hz1 hz0' hz2 hi
  replace hr2 := hid hr2
  replace hq := hid hq
  obtain ⟨N, hN⟩ : ∃ N, Hid (N = prodL ss) := ⟨_, hid rfl⟩
  rw [← hN.out] at hmk hp1 hpl hpL
  obtain ⟨L, hL⟩ : ∃ L, Hid (L = letters lt) := ⟨_, hid rfl⟩
  have hL6 : L.length ≤ 6 := by rw [hL.out]; exact letters_len6 lt
  have hlL : Hid (∀ l ∈ L, l < 6) := hid fun l hl => by rw [hL.out] at hl; exact (letters_lt hl).1
  have hLs : Hid (L.Pairwise (· < ·)) := hid (by rw [hL.out]; exact letters_sorted lt)
  obtain ⟨nx, hnx⟩ : ∃ nx, Hid (nx = nxN ss ch) := ⟨_, hid rfl⟩
  have hlt : Hid (∀ n, n < N → ∀ l ∈ L, ∀ m ∈ nx n l, m < N) := hid fun n _ l _ m hm => by
    rw [hnx.out] at hm
    rw [hN.out]
    exact nxN_lt hs1.out hchlt.out n l m hm
  rw [← hL.out, ← hnx.out]
  obtain ⟨s, hs⟩ : ∃ s, Hid (s = encK ss qs ss.length) := ⟨_, hid rfl⟩
  have hsN : s < N := by rw [hs.out, ← hpL.out]; exact heL.out _
  rw [← hs.out]
  have nvw : netV c0 c1 (.slice AS qs.length cS) lt kd gl = .agg #[c0, c1, .slice AS qs.length cS, .int .i64 lt, .int .i64 kd, .int .i64 gl] := rfl
  have hfnd : Hid (∀ w' n A c B d, Below w0.heap.size w0 w' → n < N → ss.length ≤ c → c ≤ 9223372036854775807 → L.length ≤ d → d ≤ 9223372036854775807 → NatsAt w' w'.heap.size A (decS ss n) → Tab2 w' w'.heap.size B (L.map fun l => nx n l) →
    Calls Tryd.prog 132 #[netV c0 c1 (.slice AS qs.length cS) lt kd gl, .slice A ss.length c, .slice B L.length d] w' fun e w'' => e = .returned (.bool (fd n)) ∧ Below w'.heap.size w' w'') := hid (by
      rw [hL.out, hnx.out, hN.out]
      exact hNet.out.found)
  have hqs1k : Hid (∀ a ∈ qs, a ≤ 1000) := hid fun a ha => by
    obtain ⟨i, hi, rfl⟩ := List.mem_iff_getElem.1 ha
    have h1 := hq.out i (by omega)
    rw [getD_at1 hi, getD_at1 (show i < ss.length by omega)] at h1
    have h2 := hs16.out _ (List.getElem_mem (show i < ss.length by omega))
    omega
  rw [nvw] at hNet hfnd ⊢
  replace hql := hid hql
  clear nvw
  go_enter Tryd.func74, Tryd.ntmps74
  go_upto_region 1 with fail
  obtain ⟨⟨p0, p1, p2⟩, p3, p4, p5⟩ := hSp.out w0 (Below.refl _ _)
  go_wp2_with fail
  clear hw0
  refine (hNet.out.sizes w0 (Below.refl _ _)).mono ?_
  rintro e w1 ⟨vS, rfl, hoS, hb1⟩
  obtain ⟨A1, k1, rfl, hk1, hk1', hS1⟩ := OwnNats.read hoS
  have hS1' := hid hS1
  clear hoS hS1 p0 p1 p2 p3 p4 p5
  go_wp2_with fail
  go_loopw [5, 6] (fun tv iv wr => ∃ i t : Nat, tv = .int .i64 (t : Nat) ∧ iv = .int .i64 (i : Nat) ∧ i ≤ ss.length ∧ t = prodT ss i ∧ w1 = wr) (fun _ iv _ => ss.length - (intOf iv).toNat)
  case atStart => exact ⟨0, 1, rfl, rfl, Nat.zero_le _, rfl, by first | rfl | trivial⟩
  case round =>
    obtain ⟨i, t, rfl, rfl, hi1, ht, rfl⟩ := hrel
    by_cases hil : i < ss.length
    · obtain ⟨b, o, hAe, hbb, hE⟩ := hS1'.out (by omega)
      subst hAe
      have a0 := hE i hil
      obtain ⟨a, ha⟩ : ∃ a, Hid (a = ss[i]) := ⟨_, hid rfl⟩
      rw [← ha.out] at a0
      have hal : a ≤ 16 := by rw [ha.out]; exact hs16.out _ (List.getElem_mem _)
      have htl : t ≤ 4096 := by rw [ht]; exact hpT.out i
      have hk : (0 : Int) ≤ (i : Int) ∧ (i : Int) < (ss.length : Int) := by omega
      obtain ⟨P, hP⟩ : ∃ P, Hid (P = t * a) := ⟨_, hid rfl⟩
      have hPl : P ≤ 65536 := by rw [hP.out]; exact Nat.le_trans (Nat.mul_le_mul htl hal) (by decide)
      have e5 : wrap64 ((t : Int) * (a : Int)) = (P : Int) := by rw [← Int.natCast_mul, ← hP.out]; exact IntWalk.wrap64_in _ ⟨by omega, by omega⟩
      have hnxt : Hid (P = prodT ss (i + 1)) := hid (by rw [hP.out, prodT, ← ht, ha.out, getD_at1 hil])
      replace ht := hid ht
      replace hE := hid hE
      have hi2 : i + 1 ≤ ss.length := hil
      clear hPl hal htl
      go_wp2_with fail
      go_roundw
      case rel => exact ⟨i + 1, P, by rw [e5], by go_num, hi2, hnxt.out, by first | rfl | trivial⟩
      case measure => simp [intOf]; omega
    · obtain rfl : i = ss.length := by omega
      rw [hpL.out] at ht
      subst t
      obtain ⟨⟨p0, p1, p2⟩, p3, p4, p5⟩ := hSp.out w1 hb1
      go_wp2_with fail
      refine (l4Moves_any c0 c1 (.slice AS qs.length cS) lt kd gl ss ch A1 k1 N w1 (hNet.out.net.later hb1) hpl hk1 hk1' hS1'.out).mono ?_
      rintro e w2 ⟨AT, cT, rfl, hcT, hcT', hTab, hb2⟩
      rw [← hL.out] at hTab
      have hTab' : Hid (Tab3 w2 w2.heap.size AT ((List.range N).map fun n => L.map fun l => nx n l)) := hid (by rw [hnx.out]; exact hTab)
      have hB2 := hb1.trans (hb2.mono hb1.size)
      clear p0 p1 p2 p3 p4 p5 hTab
      go_upto_region 9 with fail
      obtain ⟨w3, hw3⟩ : ∃ w3, w2.alloc (.cells (madeCells #[Value.int IntKind.i64 0] N) 3) = w3 := ⟨_, rfl⟩
      obtain ⟨g, hg⟩ : ∃ g, Hid (g = w2.heap.size) := ⟨_, hid rfl⟩
      have hblk3 : Blk w3 g 3 (madeCells #[Value.int IntKind.i64 0] N) := by rw [← hw3, hg.out]; exact Blk.new _ _ _
      have hb3 : Below w2.heap.size w2 w3 := by rw [← hw3]; exact (Below.refl _ _).alloc (Nat.le_refl _) _
      have hsz3 : (madeCells #[Value.int IntKind.i64 0] N).size = N := by simp [madeCells]
      rw [hw3, ← hg.out]
      have hblk3' := hid hblk3
      replace hsz3 := hid hsz3
      clear hw3 hmk hblk3
      generalize madeCells #[Value.int IntKind.i64 0] N = cs0 at hblk3' hsz3
      go_wp2_with fail
      go_loopw [9] (fun iv wr => ∃ (n : Nat) (cs : Array Value), iv = .int .i64 (n : Nat) ∧ n ≤ N ∧ Blk wr g 3 cs ∧ cs.size = N ∧ (∀ p, p < n → cs[p]? = some (.int .i64 (encD (lay L nx fd 0 p)))) ∧ KeepB (fun b => b = g) w3 wr) (fun iv _ => N - (intOf iv).toNat)
      case atStart => exact ⟨0, cs0, rfl, Nat.zero_le _, hblk3'.out, hsz3.out, fun p hp => absurd hp (Nat.not_lt_zero _), KeepB.refl _ _⟩
      case round =>
        clear hblk3' hsz3
        obtain ⟨n, cs, rfl, hn1, hblk, hsz, hcs, hkp⟩ := hrel
        have hB23 : Below w2.heap.size w2 wr := hkp.below hb3 hb3.size (fun k (e : k = g) => by rw [e, hg.out]; exact Nat.le_refl _)
        have hBr := hB2.trans (hB23.mono hB2.size)
        by_cases hnN : n < N
        · have f0 := hblk.frozen n
          obtain ⟨v0, d0⟩ := hblk.some_ (i := n) (by omega)
          have k2 : (0 : Int) ≤ (n : Int) ∧ (n : Int) < (N : Int) := by omega
          have hblk' := hid hblk
          have hkp' := hid hkp
          replace hsz := hid hsz
          replace hcs := hid hcs
          clear hblk hkp
          go_upto_region 13 with fail
          obtain ⟨w4, hw4⟩ : ∃ w4, wr.setCell ⟨g, n, none⟩ (.int .i64 (-1)) = w4 := ⟨_, rfl⟩
          have hblk4 : Hid (Blk w4 g 3 (cs.setIfInBounds n (.int .i64 (-1)))) := hid (by rw [← hw4]; exact hblk'.out.set_ _ _)
          have hkp4 : Hid (KeepB (fun b => b = g) w3 w4) := hid (by rw [← hw4]; exact hkp'.out.setCell _ _ fun _ => rfl)
          rw [hw4]
          have hB24 : Below w2.heap.size w2 w4 := hkp4.out.below hb3 hb3.size (fun k (e : k = g) => by rw [e, hg.out]; exact Nat.le_refl _)
          have hB4 := hB2.trans (hB24.mono hB2.size)
          have hS4 := hid (hS1'.out.later ((hb2.trans (hB24.mono hb2.size))))
          obtain ⟨bM, oM, rs, Ai, ci, hMe, hbM, hrs, r0, h1, h2, h3⟩ := (hTab'.out.later hB24).get (i := n) (by simpa using hnN)
          subst hMe
          have hrs' : Hid (rs = L.map fun l => nx n l) := hid (by rw [hrs.out]; simp)
          have hrl : rs.length = L.length := by rw [hrs'.out, List.length_map]
          rw [hrl] at r0 h1
          replace h3 : Hid (Tab2 w4 w4.heap.size Ai (L.map fun l => nx n l)) := hid (by rw [← hrs'.out]; exact h3.out)
          clear hrs hrs' hrl
          obtain ⟨⟨p0, p1, p2⟩, p3, p4, p5⟩ := hSp.out w4 hB4
          have hlw : w.heap.size < w4.heap.size := by have := hB4.size; omega
          have y0 : ∀ x', (Fam w4.heap.size w4 x').cell? ⟨w.heap.size, 0, none⟩ = some c0 := fun x' => by rw [(Fam.below w4.heap.size w4 x').cell (by simpa using hlw)]; exact p0
          have y1 : ∀ x', (Fam w4.heap.size w4 x').cell? ⟨w.heap.size, 1, none⟩ = some c1 := fun x' => by rw [(Fam.below w4.heap.size w4 x').cell (by simpa using hlw)]; exact p1
          have y2 : ∀ x', (Fam w4.heap.size w4 x').cell? ⟨w.heap.size, 2, none⟩ = some (.slice AS qs.length cS) := fun x' => by rw [(Fam.below w4.heap.size w4 x').cell (by simpa using hlw)]; exact p2
          have y3 : ∀ x', (Fam w4.heap.size w4 x').cell? ⟨w.heap.size, 3, none⟩ = some (.int .i64 lt) := fun x' => by rw [(Fam.below w4.heap.size w4 x').cell (by simpa using hlw)]; exact p3
          have y4 : ∀ x', (Fam w4.heap.size w4 x').cell? ⟨w.heap.size, 4, none⟩ = some (.int .i64 kd) := fun x' => by rw [(Fam.below w4.heap.size w4 x').cell (by simpa using hlw)]; exact p4
          have y5 : ∀ x', (Fam w4.heap.size w4 x').cell? ⟨w.heap.size, 5, none⟩ = some (.int .i64 gl) := fun x' => by rw [(Fam.below w4.heap.size w4 x').cell (by simpa using hlw)]; exact p5
          have y6 : ∀ x', (Fam w4.heap.size w4 x').cell? ⟨bM, oM + n, none⟩ = some (.slice Ai L.length ci) := fun x' => by rw [(Fam.below w4.heap.size w4 x').cell (by simpa using hbM)]; exact r0
          obtain ⟨v, hv⟩ : ∃ v, Hid (v = fd n) := ⟨_, hid rfl⟩
          clear p0 p1 p2 p3 p4 p5 r0 d0 f0 hw4
          refine wp_region_grow 9 w4.heap.size w4 (fun i u w' => if i = 3 then ∃ A c, u = .slice A ss.length c ∧ ss.length ≤ c ∧ c ≤ 9223372036854775807 ∧ NatsAt w' w'.heap.size A (decS ss n) else u = .bool v) (by kernel_rfl) (by kernel_rfl) (Nat.le_refl _) (Below.refl _ _) ?_
          simp only [List.take_succ_cons, List.take_zero, List.drop_succ_cons, List.drop_zero]
          (repeat (refine grow_quiet (by rfl) (by rfl) (by rfl) ?_; intro K hK; go_big_quiet_op; go_big_quiet_on))
          refine grow_call (by rfl) (by rfl) (fun u v v' hb h => ?_) (fun wq hbq _ => ?_) fun u hu => ?_
          · obtain ⟨A, c, e, h1, h2, h⟩ := h
            exact ⟨A, c, e, h1, h2, h.later hb⟩
          · go_simp
            refine ⟨rfl, (l4Decode_any ss A1 k1 n wq hs1.out hlen3 (by omega) hk1 hk1' (hS4.out.later hbq)).mono ?_⟩
            rintro e w5 ⟨v, rfl, ho, hb5⟩
            obtain ⟨A, c, rfl, h1, h2, h3⟩ := OwnNats.read ho
            refine ⟨_, rfl, hb5, A, c, ?_, by rw [← decS_len ss n]; exact h1, h2, h3⟩
            rw [decS_len]
          obtain ⟨wx, -, A5, c5, rfl, -, -, -⟩ := hu
          simp only [Act.put, List.setIfInBounds_toArray, List.set_cons_zero, List.set_cons_succ]
          (repeat (refine grow_quiet (by rfl) (by rfl) (by rfl) ?_; intro K hK; go_big_quiet_op; go_big_quiet_on))
          refine grow_val (.bool v) (by rfl) (by rfl) rfl (fun wq hbq hfx => ?_) ?_
          · obtain ⟨A6, c6, e3, h4, h5, h6⟩ := hfx _ List.mem_cons_self (by kernel_rfl)
            cases e3
            have h6' := hid h6
            clear h6 hfx
            go_simp
            refine ⟨rfl, (hfnd.out wq n A5 c5 Ai ci (hB4.trans (hbq.mono hB4.size)) hnN h4 h5 h1 h2 h6'.out (h3.out.later hbq)).mono ?_⟩
            rintro e w6 ⟨rfl, hb6⟩
            exact ⟨by rw [hv.out], hb6⟩
          simp only [Act.put, List.setIfInBounds_toArray, List.set_cons_zero, List.set_cons_succ]
          (repeat (refine grow_quiet (by rfl) (by rfl) (by rfl) ?_; intro K hK; go_big_quiet_op; go_big_quiet_on))
          refine grow_nil ?_
          intro w7 hb7 hf
          clear hf y0 y1 y2 y3 y4 y5 y6
          have hblk7 := hblk4.out.below hb7 hblk4.out.lt
          have hkp7 : KeepB (fun b => b = g) w3 w7 := hkp4.out.trans (.of_below hb7)
          have hlay : Hid (lay L nx fd 0 n = if v = true then some 0 else none) := hid (by rw [hv.out]; rfl)
          have f0 := hblk7.frozen n
          obtain ⟨v0, d0⟩ := hblk7.some_ (i := n) (by simpa using (by have := hsz.out; omega : n < cs.size))
          have hblk7' := hid hblk7
          have hkp7' := hid hkp7
          clear hblk7 hkp7
          cases v with
          | true =>
            go_wp2_with fail
            go_roundw
            case rel =>
              refine ⟨n + 1, _, by go_num, by omega, hblk7'.out.set_ _ _, by simpa using hsz.out, fun p hp => ?_, hkp7'.out.setCell _ _ fun _ => rfl⟩
              by_cases e : p = n
              · subst e
                rw [Array.getElem?_setIfInBounds_self_of_lt (by simpa using (by have := hsz.out; omega : p < cs.size)), hlay.out, if_pos rfl]
                rfl
              · rw [Array.getElem?_setIfInBounds_ne (Ne.symm e), Array.getElem?_setIfInBounds_ne (Ne.symm e)]
                exact hcs.out p (by omega)
            case measure => simp [intOf]; omega
          | false =>
            go_wp2_with fail
            go_roundw
            case rel =>
              refine ⟨n + 1, _, by go_num, by omega, hblk7'.out, by simpa using hsz.out, fun p hp => ?_, hkp7'.out⟩
              by_cases e : p = n
              · subst e
                rw [Array.getElem?_setIfInBounds_self_of_lt (by have := hsz.out; omega), hlay.out, if_neg (by intro h; cases h)]
                rfl
              · rw [Array.getElem?_setIfInBounds_ne (Ne.symm e)]
                exact hcs.out p (by omega)
            case measure => simp [intOf]; omega
        · obtain rfl : n = N := by omega
          have hdist : Hid (DistAt wr g n (lay L nx fd 0) cs) := hid ⟨hblk, hsz, hcs⟩
          have hkp' := hid hkp
          clear hblk hsz hcs hkp hn1 hnN
          go_wp2_with fail
          refine (l4Dist_any L nx fd AT cT g n cs w2 wr hcT hcT' hpl hB23 (by rw [hg.out]; exact Nat.le_refl _) hTab'.out hL6 hlt.out hdist.out).mono ?_
          rintro e w5 ⟨D, cs5, rfl, hst, hDn, hda, hk5⟩
          have hB25 : Below w2.heap.size w2 w5 := hk5.below hB23 hB23.size (fun k (e : k = g) => by rw [e, hg.out]; exact Nat.le_refl _)
          have hB5 := hB2.trans (hB25.mono hB2.size)
          have hda' := hid hda
          have hst' := hid hst
          obtain ⟨⟨p0, p1, p2⟩, p3, p4, p5⟩ := hSp.out w5 hB5
          clear hdist hda hst hk5
          go_wp2_with fail
          refine (l4Encode_any ss qs A1 AS k1 cS w5 (fun a ha => by have := hs16.out a ha; omega) hqs1k.out (fun k => by have h1 := heL.out k; have h2 := hpT.out k; omega) hql.out hk1 hk1' hqd hcS (hS1'.out.later (hb2.trans (hB25.mono hb2.size))) (hr20.out.later hB5)).mono ?_
          rintro e w6 ⟨rfl, hb6⟩
          rw [← hs.out]
          have hB6 := hB5.trans (hb6.mono hB5.size)
          clear p0 p1 p2 p3 p4 p5
          go_upto_region 17 with fail
          obtain ⟨w7, hw7⟩ : ∃ w7, w6.alloc (.cells #[Value.int IntKind.i64 (s : Nat)] 3) = w7 := ⟨_, rfl⟩
          obtain ⟨ga, hga⟩ : ∃ ga, Hid (ga = w6.heap.size) := ⟨_, hid rfl⟩
          have hb7 : Below w6.heap.size w6 w7 := by rw [← hw7]; exact (Below.refl _ _).alloc (Nat.le_refl _) _
          have ha7 : w7.cell? ⟨ga, 0, none⟩ = some (.int .i64 (s : Nat)) := by
            have h : Blk w7 ga 3 #[Value.int IntKind.i64 (s : Nat)] := by rw [← hw7, hga.out]; exact Blk.new _ _ _
            rw [h.cell]
            rfl
          have hgl : ga < w7.heap.size := by rw [← hw7, hga.out]; simp
          rw [hw7, ← hga.out]
          clear hw7
          have hB7 := hB6.trans (hb7.mono hB6.size)
          obtain ⟨⟨p0, p1, p2⟩, p3, p4, p5⟩ := hSp.out w7 hB7
          go_wp2_with fail
          refine (l1Letters_any lt w7).mono ?_
          rintro e w8 ⟨vL, rfl, hoL, hb8⟩
          rw [← hL.out] at hoL
          obtain ⟨AL, cL, rfl, hcL, hcL', hLL⟩ := OwnNats.read hoL
          have hLL' := hid hLL
          have hB58 : Below w5.heap.size w5 w8 := hb6.trans ((hb7.trans (hb8.mono hb7.size)).mono hb6.size)
          have hB8 := hB5.trans (hB58.mono hB5.size)
          have hda8 : Hid (DistAt w8 g n (lay L nx fd D) cs5) := hid ⟨hda'.out.1.below hB58 hda'.out.1.lt, hda'.out.2⟩
          have hT8 := hid (hTab'.out.later (hB25.trans (hB58.mono hB25.size)))
          have a0 := (hb8.cell (p := ⟨ga, 0, none⟩) (by simpa using hgl)).trans ha7
          have d0 : w8.cell? ⟨g, s, none⟩ = some (.int .i64 (encD (lay L nx fd D s))) := by rw [hda8.out.1.cell]; exact hda8.out.2.2 s hsN
          have hga8 : ga < w8.heap.size := by have := hb8.size; omega
          obtain ⟨x, hx⟩ : ∃ x, Hid (x = encD (lay L nx fd D s)) := ⟨_, hid rfl⟩
          rw [← hx.out] at d0
          have k3 : (0 : Int) ≤ (s : Int) ∧ (s : Int) < (n : Int) := by omega
          clear p0 p1 p2 p3 p4 p5 hoL hLL ha7
          go_wp2_with fail
          clear d0
          obtain ⟨ls, hls⟩ : ∃ ls, Hid (ls = lay L nx fd D s) := ⟨_, hid rfl⟩
          have hBw : Below w.heap.size w w8 := hB0.trans (hB8.mono hB0.size)
          cases ls with
          | none =>
            obtain rfl : x = -1 := by rw [hx.out, ← hls.out]; rfl
            have hno := hid (first_none hst'.out hlt.out hsN hls.out.symm)
            clear a0
            go_loopw [12, 13] (fun ov dv wr => ov = .string ⟨#[]⟩ ∧ dv = .int .i64 (-1) ∧ w8 = wr) (fun _ _ _ => 0)
            case atStart => exact ⟨rfl, rfl, by first | rfl | trivial⟩
            case round =>
              obtain ⟨rfl, rfl, rfl⟩ := hrel
              go_wp2_with fail
              refine bodyPost_ret (v := .tuple #[.string ⟨#[]⟩, .bool false]) (by simp [results, Tryd.results74, go_sem]) rfl ?_
              exact ⟨none, rfl, hno.out, hBw⟩
          | some D0 =>
            obtain rfl : x = (D0 : Int) := by rw [hx.out, ← hls.out]; rfl
            have h0 : Hid (lay L nx fd D s = some D0) := hid hls.out.symm
            have hF0 := hid (Fwd.start h0.out)
            have hat8 : Hid (NatsAt w8 w8.heap.size (some ⟨ga, 0, none⟩) [s]) := hid fun _ => ⟨ga, 0, rfl, hga8, fun i hi => by
              obtain rfl : i = 0 := by simpa using hi
              exact a0⟩
            clear a0
            go_loopw [10, 12, 13] (fun av ov dv wr => ∃ (d : Nat) (r at_ : List Nat) (Aa : Option Addr) (ca : Nat), av = .slice Aa at_.length ca ∧ ov = .string (wordS r) ∧ dv = .int .i64 (d : Nat) ∧ Fwd L nx fd D s D0 r at_ d ∧ at_.length ≤ ca ∧ ca ≤ 9223372036854775807 ∧ NatsAt wr wr.heap.size Aa at_ ∧ Below w8.heap.size w8 wr) (fun _ _ dv _ => (intOf dv).toNat)
            case atStart => exact ⟨D0, [], [s], some ⟨ga, 0, none⟩, 1, rfl, rfl, rfl, hF0.out, Nat.le_refl _, by omega, hat8.out, Below.refl _ _⟩
            case round =>
              clear hat8 hF0
              obtain ⟨d, r, at_, Aa, ca, rfl, rfl, rfl, hF, hca, hca', hat, hbr⟩ := hrel
              cases d with
              | zero =>
                have hfw := hid (hF.done hst'.out hlt.out hsN h0.out)
                replace hF := hid hF
                go_wp2_with fail
                refine bodyPost_ret (v := .tuple #[.string (wordS r), .bool true]) (by simp [results, Tryd.results74, go_sem]) rfl ?_
                exact ⟨some r, rfl, hfw.out, hBw.trans (hbr.mono hBw.size)⟩
              | succ d =>
                have hatl : ∀ m ∈ at_, m < n := fun m hm => RW_lt hlt.out hsN ((hF.mem m).1 hm).1
                have hsome := hid hF.some_
                have hgw : g < wr.heap.size := by have h1 := hda8.out.1.lt; have h2 := hbr.size; omega
                have hclo : Hid (∀ w' k (hk : k < L.length), Below wr.heap.size wr w' → Calls Tryd.prog 136 #[.slice AT n cT, .slice (some ⟨g, 0, none⟩) n n, .slice Aa at_.length ca, .int .i64 (k : Nat), .int .i64 (d : Nat)] w' fun e w'' => ∃ A' c', e = .returned (.slice A' (clo L nx fd D at_ L[k] d).length c') ∧ (clo L nx fd D at_ L[k] d).length ≤ c' ∧ c' ≤ 9223372036854775807 ∧ NatsAt w'' w''.heap.size A' (clo L nx fd D at_ L[k] d) ∧ Below w'.heap.size w' w'') := hid fun w' k hk hb => by
                  have hbw : Below w8.heap.size w8 w' := hbr.trans (hb.mono hbr.size)
                  exact l4Closer_any L nx (lay L nx fd D) at_ AT Aa cT ca g n k d w' hcT hcT' hpl (hT8.out.later hbw) (by have := hb.size; omega) (fun m hm => by rw [(hda8.out.1.below hbw hda8.out.1.lt).cell]; exact hda8.out.2.2 m hm) hlt.out (hat.later hb) hatl hca hca' hk hL6
                have hF' := hid hF
                have hat' := hid hat
                have k4 : (0 : Int) < (d : Int) + 1 := by omega
                have hd1 : d ≤ 4096 := by have h1 := hF.len; have h2 := lay_le h0.out; omega
                have hL0 : 0 < L.length := by obtain ⟨k, hk, -⟩ := hsome.out; omega
                have hc0 := hclo.out wr 0 hL0 (Below.refl _ _)
                obtain ⟨ms0, hms0⟩ : ∃ ms, Hid (ms = clo L nx fd D at_ L[0] d) := ⟨_, hid rfl⟩
                rw [← hms0.out, show ((0 : Nat) : Int) = 0 from rfl] at hc0
                have hc0' := hid hc0
                have hbr' := hid hbr
                clear hF hat hatl hc0
                go_wp2_with fail
                refine hc0'.out.mono ?_
                rintro e w9 ⟨A9, c9, rfl, h1, h2, h3, hb9⟩
                have h3' := hid h3
                clear h3 hc0'
                go_wp2_with fail
                obtain ⟨wo, rfl⟩ : ∃ wo : World, wo = wr := ⟨_, rfl⟩
                go_loopw [14, 15] (fun kv nv wr => ∃ (k : Nat) (hk : k < L.length) (ms : List Nat) (An : Option Addr) (cn : Nat), kv = .int .i64 (k : Nat) ∧ nv = .slice An ms.length cn ∧ Hid (ms = clo L nx fd D at_ L[k] d) ∧ Hid (∀ j (hj : j < L.length), j < k → clo L nx fd D at_ L[j] d = []) ∧ ms.length ≤ cn ∧ cn ≤ 9223372036854775807 ∧ Hid (NatsAt wr wr.heap.size An ms) ∧ Below wo.heap.size wo wr) (fun kv _ _ => L.length - (intOf kv).toNat)
                case atStart => exact ⟨0, hL0, ms0, A9, c9, rfl, rfl, hms0, hid fun j _ h => absurd h (Nat.not_lt_zero _), h1, h2, h3', hb9⟩
                case round =>
                  clear hms0 h3' hb9
                  obtain ⟨k, hk, ms, An, cn, rfl, rfl, hms, hmin, h1, h2, h3, hbk⟩ := hrel
                  by_cases hmz : ms.length = 0
                  · have hk1 : k + 1 < L.length := by
                      obtain ⟨k0, hk0, hne⟩ := hsome.out
                      have h9 : ¬ k0 < k := fun h => hne (hmin.out k0 hk0 h)
                      have h10 : k0 ≠ k := fun h => by
                        subst h
                        exact hne (by rw [← hms.out]; exact List.eq_nil_of_length_eq_zero hmz)
                      omega
                    have hmin' : Hid (∀ j (hj : j < L.length), j < k + 1 → clo L nx fd D at_ L[j] d = []) := hid fun j hj hjk => by
                      by_cases e : j = k
                      · subst e
                        rw [← hms.out]
                        exact List.eq_nil_of_length_eq_zero hmz
                      · exact hmin.out j hj (by omega)
                    have hc1 := hclo.out wr (k + 1) hk1 hbk
                    obtain ⟨ms1, hms1⟩ : ∃ ms, Hid (ms = clo L nx fd D at_ L[k + 1] d) := ⟨_, hid rfl⟩
                    rw [← hms1.out, show ((k + 1 : Nat) : Int) = (k : Int) + 1 from by omega] at hc1
                    have hc1' := hid hc1
                    clear hc1
                    go_wp2_with fail
                    refine hc1'.out.mono ?_
                    rintro e w9 ⟨A9, c9, rfl, h4, h5, h6, hb9⟩
                    have h6' := hid h6
                    clear h6
                    go_wp2_with fail
                    go_roundw
                    case rel => exact ⟨k + 1, hk1, ms1, A9, c9, by go_num, rfl, hms1, hmin', h4, h5, h6', hbk.trans (hb9.mono hbk.size)⟩
                    case measure => simp [intOf]; omega
                  · have hq9 : ((ms.length : Int) == 0) = false := by
                      rw [Bool.eq_false_iff]
                      intro h
                      have := beq_iff_eq.1 h
                      omega
                    have hF2 := hid (hF'.out.next hst'.out hlt.out hsN hLs.out h0.out hk (by rw [← hms.out]; intro h; exact hmz (by rw [h]; rfl)) hmin.out)
                    obtain ⟨l, hl⟩ : ∃ l, Hid (l = L[k]) := ⟨_, hid rfl⟩
                    have hl6 : l < 6 := by rw [hl.out]; exact hlL.out _ (List.getElem_mem hk)
                    have hbw : Below w8.heap.size w8 wr := hbr'.out.trans (hbk.mono hbr'.out.size)
                    obtain ⟨bL, oL, hLe, hbL, hEL⟩ := (hLL'.out.later hbw) (by omega)
                    subst hLe
                    have l0 := hEL k hk
                    rw [← hl.out] at l0
                    rw [← hms.out, ← hl.out] at hF2
                    have k5 : (0 : Int) ≤ (k : Int) ∧ (k : Int) < (L.length : Int) := by omega
                    replace hEL := hid hEL
                    go_wp2_with fail
                    refine (l1Text_any l hl6 wr).mono ?_
                    rintro e w10 ⟨rfl, hb10⟩
                    have hwz : ¬ (9223372036854775807 < (wordS r).size + 1) := by
                      rw [wordS_size]
                      have h1 := hF'.out.len
                      have h2 := lay_le h0.out
                      omega
                    go_wp2_with fail
                    go_roundw
                    case rel => exact ⟨d, l :: r, ms, An, cn, rfl, by rw [wordS_cons], by go_num, hF2.out, h1, h2, h3.out.later hb10, hbw.trans (hb10.mono hbw.size)⟩
                    case measure => simp [intOf]

end Go.Proofs.YtjhlbeamfngebaaDoor

/- The search over automata. -/
namespace Go.Proofs.YtjhlbeamfngebaaDoor
open Go.RowKit Go.BigFrame AG

/-- A list of automata in memory. -/
def AusAt (w : World) (g : Nat) (xs : List Au) : Prop := g < w.heap.size ∧ ∀ i (h : i < xs.length), ∃ A c B d, w.cell? ⟨g, i * 3, none⟩ = some (.int .i64 xs[i].al) ∧
  w.cell? ⟨g, i * 3 + 1, none⟩ = some (.slice A xs[i].nx.length c) ∧ w.cell? ⟨g, i * 3 + 2, none⟩ = some (.slice B xs[i].ac.length d) ∧ AuAt w A c B d xs[i]
theorem AusAt.later {w w' : World} {g : Nat} {xs : List Au} (h : AusAt w g xs) (hb : Below w.heap.size w w') : AusAt w' g xs :=
  ⟨Nat.lt_of_lt_of_le h.1 hb.size, fun i hi => by
    obtain ⟨A, c, B, d, h1, h2, h3, h4⟩ := h.2 i hi
    exact ⟨A, c, B, d, (hb.cell (by simpa using h.1)).trans h1, (hb.cell (by simpa using h.1)).trans h2, (hb.cell (by simpa using h.1)).trans h3, h4.later hb⟩⟩

set_option maxRecDepth 100000 in
set_option maxHeartbeats 4000000 in
theorem l4Sizes_aut (xs : List Au) (g : Nat) (c2 : Value) (lt kd gl : Int) (w : World) (h3 : xs.length ≤ 3) (ha : AusAt w g xs) :
    Calls Tryd.prog 130 #[netV (.slice none 0 0) (.slice (some ⟨g, 0, none⟩) xs.length xs.length) c2 lt kd gl] w fun e w' => ∃ v, e = .returned v ∧ OwnNats w' w.heap.size v (xs.map fun a => a.nx.length) ∧ Below w.heap.size w w' := by
  obtain ⟨i0, hi, hz0, hz1, hz2⟩ := info_parts infoInt
  obtain ⟨w0, hw0, hzz0, hB0, hSb⟩ := boxed w #[.slice none 0 0, .slice (some ⟨g, 0, none⟩) xs.length xs.length, c2, .int .i64 lt, .int .i64 kd, .int .i64 gl] 93
  have ha0 := hid (ha.later hB0)
  have hSp := hid (fun w' (hb : Below w0.heap.size w0 w') => And.intro (hSb 0 _ rfl w' (hb.mono hzz0)) (hSb 1 _ rfl w' (hb.mono hzz0)))
  have hst0 := hid (OrdSt.new0 w0)
  replace ha := hid ha
  clear hSb
  unfold netV
  go_enter Tryd.func130, Tryd.ntmps130
  go_upto_region 2 with fail
  obtain ⟨w1, hw1⟩ : ∃ w1, w0.alloc (.cells #[] 3) = w1 := ⟨_, rfl⟩
  rw [hw1] at hst0 ⊢
  clear hw1 hw0
  obtain ⟨p0, p1⟩ := hSp.out w1 hst0.out.below
  go_wp2_with fail
  go_loopw [3, 4] (fun ov iv wr => ov = .slice (some ⟨w0.heap.size, 0, none⟩) 0 0 ∧ iv = .int .i64 0 ∧ w1 = wr) (fun _ _ _ => 0)
  case atStart => exact ⟨rfl, rfl, by first | rfl | trivial⟩
  case round =>
    obtain ⟨rfl, rfl, rfl⟩ := hrel
    go_wp2_with fail
    clear p0 p1
    go_loopw [3, 5] (fun ov iv wr => ∃ (i : Nat) (out : List Nat) (AO : Option Addr) (cO : Nat), ov = .slice AO out.length cO ∧ iv = .int .i64 (i : Nat) ∧ i ≤ xs.length ∧ out = (xs.take i).map (fun a => a.nx.length) ∧ OrdSt w0 wr (.slice AO out.length cO) out) (fun _ iv _ => xs.length - (intOf iv).toNat)
    case atStart => exact ⟨0, [], _, _, rfl, rfl, Nat.zero_le _, by simp, hst0.out⟩
    case round =>
      clear hst0
      obtain ⟨i, out, AO, cO, rfl, rfl, hi1, hout, hst⟩ := hrel
      have hBm := hst.below
      have hszm := hBm.size
      obtain ⟨p0, p1⟩ := hSp.out wr hBm
      have hol : out.length ≤ 3 := by rw [hout, List.length_map, List.length_take]; omega
      by_cases hil : i < xs.length
      · obtain ⟨A, c, B, d, q0, q1, q2, q3⟩ := (ha0.out.later hBm).2 i hil
        have hsm := hid q3
        obtain ⟨n, hn⟩ : ∃ n, Hid (n = xs[i].nx.length) := ⟨_, hid rfl⟩
        rw [← hn.out] at q1
        have hnx : Hid (out ++ [n] = (xs.take (i + 1)).map (fun a => a.nx.length)) := hid (by rw [List.take_succ_eq_append_getElem hil, List.map_append, ← hout, hn.out]; rfl)
        have k1 : (0 : Int) ≤ (i : Int) ∧ (i : Int) < (xs.length : Int) := by omega
        have hst' := hid hst
        replace hout := hid hout
        clear q0 q2 q3 hst
        go_wp2_with (at_builtin; refine wpList_append_own_at _ rfl _ _ 72 rfl w0.heap.size 3 i0 (.int .i64 0) 1 8 Tryd.underlying72 hi hz0 hz1 hz2 rfl (by decide) _ _ _ rfl (hst'.out.own.alloc _) ⟨wr.heap.size, 0, none⟩ 1 1 [.int .i64 (n : Nat)] rfl rfl (cell_one_new _ _ _) (by intro u hu; simp at hu; subst hu; rfl) (by unfold maxLen; omega) (by omega) (by first | omega | (simp; omega)) ?_; intro v7 w7 hO7 hg7 _ hat7; obtain ⟨Av7, cv7, ev7, -, -⟩ := own_slice hO7; subst ev7; have hst7 := hid (hst'.out.app (x := n) hg7 hO7); clear hO7 hg7 hat7)
        go_roundw
        case rel => exact ⟨i + 1, out ++ [n], _, _, by rw [List.length_append]; rfl, by go_num, by omega, hnx.out, by have := hst7.out; rw [List.length_append]; exact this⟩
        case measure => simp [intOf]; omega
      · obtain rfl : i = xs.length := by omega
        rw [List.take_length] at hout
        have hfin : Hid (OwnNats wr w.heap.size (.slice AO out.length cO) (xs.map fun a => a.nx.length)) := hid (by rw [← hout]; exact own_base hst.own hB0.size)
        have hB := hB0.trans (hst.below.mono hB0.size)
        replace hst := hid hst
        replace hout := hid hout
        go_wp2_with fail
        go_ret
        exact ⟨_, rfl, hfin.out, hB⟩

set_option maxRecDepth 100000 in
set_option maxHeartbeats 2000000 in
theorem l1Place_any (A : Int) (n : Nat) (hn : n < 6) (w : World) :
    Calls Tryd.prog 204 #[.int .i64 A, .int .i64 (n : Nat)] w fun e w' => e = .returned (.int .i64 ((lettersTo A n).length : Nat)) ∧ w = w' := by
  go_enter Tryd.func204, Tryd.ntmps204
  go_wp2_with fail
  go_loopw [5, 6] (fun cv iv wr => ∃ (k m : Nat), cv = .int .i64 (m : Nat) ∧ iv = .int .i64 (k : Nat) ∧ k ≤ n ∧ m = (lettersTo A k).length ∧ w = wr) (fun _ iv _ => n - (intOf iv).toNat)
  case atStart => exact ⟨0, 0, rfl, rfl, Nat.zero_le _, rfl, by first | rfl | trivial⟩
  case round =>
    obtain ⟨k, m, rfl, rfl, hk, hm, rfl⟩ := hrel
    have hml : m ≤ 6 := by have := lettersTo_len A k; omega
    by_cases hkn : k < n
    · have hnx := hid (lettersTo_succ A k)
      replace hm := hid hm
      go_wp2_with fail
      refine (l1Has_any A k w (by omega) (by omega)).mono ?_
      rintro e w5 ⟨rfl, rfl⟩
      rw [Int.toNat_natCast]
      cases hH : Has A k with
      | true =>
        have hm2 : Hid (m + 1 = (lettersTo A (k + 1)).length) := hid (by rw [hnx.out, hH, if_pos rfl, List.length_append, ← hm.out]; rfl)
        replace hH := hid hH
        go_wp2_with fail
        go_roundw
        case rel => exact ⟨k + 1, m + 1, by go_num, by go_num, by omega, hm2.out, by first | rfl | trivial⟩
        case measure => simp [intOf]; omega
      | false =>
        have hm2 : Hid (m = (lettersTo A (k + 1)).length) := hid (by rw [hnx.out, hH, if_neg (by intro h; cases h), ← hm.out])
        replace hH := hid hH
        go_wp2_with fail
        go_roundw
        case rel => exact ⟨k + 1, m, rfl, by go_num, by omega, hm2.out, by first | rfl | trivial⟩
        case measure => simp [intOf]; omega
    · obtain rfl : k = n := by omega
      replace hm := hid hm
      go_wp2_with fail
      go_ret
      exact ⟨congrArg (fun m : Nat => Ending.returned (.int .i64 (m : Int))) hm.out, by first | rfl | trivial⟩

theorem lettersTo_split {A : Int} {l : Nat} (h : Has A l = true) : ∀ j, ∃ rest, lettersTo A (l + 1 + j) = lettersTo A l ++ l :: rest
  | 0 => ⟨[], by rw [Nat.add_zero, lettersTo_succ, if_pos h]⟩
  | j + 1 => by
    obtain ⟨r, e⟩ := lettersTo_split h j
    rw [← Nat.add_assoc, lettersTo_succ]
    split
    · exact ⟨r ++ [l + 1 + j], by rw [e, List.append_assoc]; rfl⟩
    · exact ⟨r, e⟩
theorem place_idx {A : Int} {l : Nat} (h : l ∈ letters A) : (lettersTo A l).length = (letters A).idxOf l := by
  obtain ⟨h6, hh⟩ := letters_lt h
  obtain ⟨r, e⟩ := lettersTo_split hh (6 - (l + 1))
  rw [show l + 1 + (6 - (l + 1)) = 6 from by omega] at e
  have hno : l ∉ lettersTo A l := fun hm => by
    unfold lettersTo at hm
    rw [List.mem_filter, List.mem_range] at hm
    omega
  unfold letters
  rw [e, List.idxOf_append, if_neg hno]
  simp

set_option maxRecDepth 100000 in
set_option maxHeartbeats 4000000 in
theorem l3Go_any (a : Au) (A B : Option Addr) (c d q l : Nat) (w : World) (hok : auOk a = true) (hq : q < a.nx.length) (hl : l < 6) (ha : AuAt w A c B d a) :
    Calls Tryd.prog 198 #[a.val A c B d, .int .i64 (q : Nat), .int .i64 (l : Nat)] w fun e w' => e = .returned (.int .i64 (goA a q l : Nat)) ∧ Below w.heap.size w w' := by
  obtain ⟨w0, hw0, hzz0, hB0, hS⟩ := boxed w #[Value.int IntKind.i64 a.al, Value.slice A a.nx.length c, Value.slice B a.ac.length d] 26
  have ha0 := hid (ha.later hB0)
  have p0 := hS 0 _ rfl w0 (Below.refl _ _)
  have hS1 := hid (fun w' (hb : Below w0.heap.size w0 w') => And.intro (hS 0 _ rfl w' (hb.mono hzz0)) (hS 1 _ rfl w' (hb.mono hzz0)))
  have hok' := hid hok
  replace ha := hid ha
  clear hS hok
  unfold AG.Au.val
  go_enter Tryd.func198, Tryd.ntmps198
  go_wp2_with fail
  clear hw0
  refine (l1Has_any a.al l w0 (by omega) (by omega)).mono ?_
  rintro e w5 ⟨rfl, rfl⟩
  rw [Int.toNat_natCast]
  cases hH : Has a.al l with
  | false =>
    have hg : Hid (goA a q l = q) := hid (by
      unfold goA
      rw [if_neg]
      intro h
      rw [(letters_lt h).2] at hH
      cases hH)
    replace hH := hid hH
    go_wp2_with fail
    go_ret
    exact ⟨by rw [hg.out]; rfl, hB0⟩
  | true =>
    have hmem : l ∈ letters a.al := by
      unfold letters lettersTo
      rw [List.mem_filter, List.mem_range]
      exact ⟨hl, hH⟩
    obtain ⟨m, hm⟩ : ∃ m, Hid (m = (lettersTo a.al l).length) := ⟨_, hid rfl⟩
    have hmi : m = (letters a.al).idxOf l := by rw [hm.out]; exact place_idx hmem
    have hml : m < (letters a.al).length := by rw [hmi]; exact List.idxOf_lt_length_iff.2 hmem
    have hget : (letters a.al)[m] = l := by
      simp only [hmi]
      exact List.getElem_idxOf _
    obtain ⟨-, hrl0, -⟩ := row_at hok'.out hq
    have hgo := goA_at hok'.out hq hml (by omega)
    rw [hget] at hgo
    obtain ⟨bR, oR, r, Ai, ci, hRe, hbR, hr, hr0, h1, h2, h3⟩ := row_read ha0.out.rows hq
    subst hRe
    have hrl : m < r.length := by rw [hr.out]; omega
    obtain ⟨bi, oi, hie, hbi, hEi⟩ := h3.out (by omega)
    subst hie
    have c0 := hEi m hrl
    rw [show r[m] = ((goA a q l : Nat) : Int) from by rw [hgo]; simp only [hr.out]] at c0
    obtain ⟨G, hG⟩ : ∃ G, Hid (G = goA a q l) := ⟨_, hid rfl⟩
    rw [← hG.out] at c0
    have r0 := hr0.out w0 (Below.refl _ _)
    obtain ⟨p0', p1⟩ := hS1.out w0 (Below.refl _ _)
    have hlw : w.heap.size < w0.heap.size := by omega
    have y0 : ∀ x', (Fam w0.heap.size w0 x').cell? ⟨w.heap.size, 0, none⟩ = some (.int .i64 a.al) := fun x' => by rw [(Fam.below w0.heap.size w0 x').cell (by simpa using hlw)]; exact p0'
    have y1 : ∀ x', (Fam w0.heap.size w0 x').cell? ⟨w.heap.size, 1, none⟩ = some (.slice (some ⟨bR, oR, none⟩) a.nx.length c) := fun x' => by rw [(Fam.below w0.heap.size w0 x').cell (by simpa using hlw)]; exact p1
    have y2 : ∀ x', (Fam w0.heap.size w0 x').cell? ⟨bR, oR + q, none⟩ = some (.slice (some ⟨bi, oi, none⟩) r.length ci) := fun x' => by rw [(Fam.below w0.heap.size w0 x').cell (by simpa using hbR)]; exact r0
    have y3 : ∀ x', (Fam w0.heap.size w0 x').cell? ⟨bi, oi + m, none⟩ = some (.int .i64 (G : Nat)) := fun x' => by rw [(Fam.below w0.heap.size w0 x').cell (by simpa using hbi)]; exact c0
    have k1 : (0 : Int) ≤ (q : Int) ∧ (q : Int) < (a.nx.length : Int) ∧ (0 : Int) ≤ (m : Int) ∧ (m : Int) < (r.length : Int) := by omega
    replace hH := hid hH
    replace hEi := hid hEi
    clear p0 p0' p1 c0 r0 hget hgo hmem hmi hrl0 hml
    go_upto_region 3 with fail
    refine wp_region_grow 12 w0.heap.size w0 (fun _ u _ => u = .int .i64 (m : Nat)) (by kernel_rfl) (by kernel_rfl) (Nat.le_refl _) (Below.refl _ _) ?_
    simp only [List.take_succ_cons, List.take_zero, List.drop_succ_cons, List.drop_zero]
    (repeat (refine grow_quiet (by rfl) (by rfl) (by rfl) ?_; intro K hK; go_big_quiet_op; go_big_quiet_on))
    refine grow_val (.int .i64 (m : Nat)) (by rfl) (by rfl) rfl (fun wq hbq _ => ?_) ?_
    · go_simp
      refine ⟨rfl, (l1Place_any a.al l hl wq).mono ?_⟩
      rintro e w6 ⟨rfl, rfl⟩
      exact ⟨by rw [hm.out], Below.refl _ _⟩
    simp only [Act.put, List.setIfInBounds_toArray, List.set_cons_zero, List.set_cons_succ]
    (repeat (refine grow_quiet (by rfl) (by rfl) (by rfl) ?_; intro K hK; go_big_quiet_op; go_big_quiet_on))
    refine grow_nil ?_
    intro w7 hb7 hf
    clear hf y0 y1 y2 y3
    go_wp2_with fail
    go_ret
    exact ⟨by rw [hG.out]; rfl, hB0.trans (hb7.mono hB0.size)⟩

set_option maxRecDepth 100000 in
set_option maxHeartbeats 4000000 in
theorem l4Choices_aut (xs : List Au) (g : Nat) (c2 : Value) (lt kd gl : Int) (i q l : Nat) (w : World) (h3 : xs.length ≤ 3) (hok : ∀ a ∈ xs, auOk a = true) (hi : i < xs.length) (hq : q < xs[i].nx.length) (hl : l < 6) (ha : AusAt w g xs) :
    Calls Tryd.prog 191 #[netV (.slice none 0 0) (.slice (some ⟨g, 0, none⟩) xs.length xs.length) c2 lt kd gl, .int .i64 (i : Nat), .int .i64 (q : Nat), .int .i64 (l : Nat)] w fun e w' => ∃ v, e = .returned v ∧ OwnNats w' w.heap.size v [goA xs[i] q l] ∧ Below w.heap.size w w' := by
  obtain ⟨w0, hw0, hzz0, hB0, hSb⟩ := boxed w #[.slice none 0 0, .slice (some ⟨g, 0, none⟩) xs.length xs.length, c2, .int .i64 lt, .int .i64 kd, .int .i64 gl] 93
  have ha0 := ha.later hB0
  obtain ⟨A, c, B, d, q0, q1, q2, q3⟩ := ha0.2 i hi
  have hok' := hid (hok _ (List.getElem_mem hi))
  obtain ⟨a, hae⟩ : ∃ a, Hid (a = xs[i]) := ⟨_, hid rfl⟩
  rw [← hae.out] at q0 q1 q2 q3 hok' hq ⊢
  have hx := hid q3
  have p0 := hSb 0 _ rfl w0 (Below.refl _ _)
  have p1 := hSb 1 _ rfl w0 (Below.refl _ _)
  have k1 : (0 : Int) ≤ (i : Int) ∧ (i : Int) < (xs.length : Int) := by omega
  have k2 : ¬ ((i : Int) < 0) := by omega
  replace ha := hid ha
  replace ha0 := hid ha0
  clear hSb hok q3
  unfold netV
  go_enter Tryd.func191, Tryd.ntmps191
  go_wp2_with fail
  refine (l3Go_any a A B c d q l w0 hok'.out hq hl hx.out).mono ?_
  rintro e w5 ⟨rfl, hb5⟩
  have hfin := hid (show OwnNats (w5.alloc (.cells #[.int .i64 (goA a q l : Nat)] 3)) w.heap.size (.slice (some ⟨w5.heap.size, 0, none⟩) 1 1) [goA a q l] from own_base (OrdSt.new w5 (goA a q l)).own (by have := hb5.size; omega))
  have hB := hid ((hB0.trans (hb5.mono hB0.size)).trans (((Below.refl _ _).alloc (Nat.le_refl _) (.cells #[.int .i64 (goA a q l : Nat)] 3)).mono (by have := hb5.size; omega)))
  go_wp2_with fail
  go_ret
  exact ⟨_, rfl, hfin.out, hB.out⟩

end Go.Proofs.YtjhlbeamfngebaaDoor

/- The search over automata: the goals. -/
namespace Go.Proofs.YtjhlbeamfngebaaDoor
open Go.RowKit Go.BigFrame AG

set_option maxRecDepth 100000 in
set_option maxHeartbeats 4000000 in
theorem l4Ok_aut (xs : List Au) (g : Nat) (c2 : Value) (lt kd gl : Int) (qs : List Nat) (Aq : Option Addr) (cq i : Nat) (w : World) (h3 : xs.length ≤ 3) (hi : i < xs.length) (hql : qs.length = xs.length) (hq : qs[i]'(by omega) < xs[i].ac.length) (ha : AusAt w g xs) (hr : NatsAt w w.heap.size Aq qs) :
    Calls Tryd.prog 176 #[netV (.slice none 0 0) (.slice (some ⟨g, 0, none⟩) xs.length xs.length) c2 lt kd gl, .slice Aq qs.length cq, .int .i64 (i : Nat)] w fun e w' => e = .returned (.bool (xs[i].ac[qs[i]'(by omega)])) ∧ Below w.heap.size w w' := by
  obtain ⟨w0, hw0, hzz0, hB0, hSb⟩ := boxed w #[.slice none 0 0, .slice (some ⟨g, 0, none⟩) xs.length xs.length, c2, .int .i64 lt, .int .i64 kd, .int .i64 gl] 93
  obtain ⟨A, c, B, d, q0, q1, q2, q3⟩ := (ha.later hB0).2 i hi
  have hgl := (ha.later hB0).1
  obtain ⟨bQ, oQ, hQe, hbQ, hEQ⟩ := (hr.later hB0) (by omega)
  subst hQe
  have r0 := hEQ i (by omega)
  obtain ⟨q, hqq⟩ : ∃ q, Hid (q = qs[i]'(by omega)) := ⟨_, hid rfl⟩
  obtain ⟨bB, oB, hBe, hbB, hEB⟩ := q3.acc (by omega)
  subst hBe
  have b0 := hEB _ hq
  obtain ⟨t, ht⟩ : ∃ t, Hid (t = xs[i].ac[qs[i]'(by omega)]) := ⟨_, hid rfl⟩
  rw [← ht.out] at b0 ⊢
  obtain ⟨m, hm⟩ : ∃ m, Hid (m = xs[i].ac.length) := ⟨_, hid rfl⟩
  rw [← hm.out] at q2 hq
  rw [← hqq.out] at r0 b0 hq
  have p0 := hSb 0 _ rfl w0 (Below.refl _ _)
  have p1 := hSb 1 _ rfl w0 (Below.refl _ _)
  have hlw : w.heap.size < w0.heap.size := by omega
  have y0 : ∀ x', (Fam w0.heap.size w0 x').cell? ⟨w.heap.size, 0, none⟩ = some (.slice none 0 0) := fun x' => by rw [(Fam.below w0.heap.size w0 x').cell (by simpa using hlw)]; exact p0
  have y1 : ∀ x', (Fam w0.heap.size w0 x').cell? ⟨w.heap.size, 1, none⟩ = some (.slice (some ⟨g, 0, none⟩) xs.length xs.length) := fun x' => by rw [(Fam.below w0.heap.size w0 x').cell (by simpa using hlw)]; exact p1
  have y2 : ∀ x', (Fam w0.heap.size w0 x').cell? ⟨g, i * 3 + 2, none⟩ = some (.slice (some ⟨bB, oB, none⟩) m d) := fun x' => by rw [(Fam.below w0.heap.size w0 x').cell (by simpa using hgl)]; exact q2
  have y3 : ∀ x', (Fam w0.heap.size w0 x').cell? ⟨bQ, oQ + i, none⟩ = some (.int .i64 (q : Nat)) := fun x' => by rw [(Fam.below w0.heap.size w0 x').cell (by simpa using hbQ)]; exact r0
  have y4 : ∀ x', (Fam w0.heap.size w0 x').cell? ⟨bB, oB + q, none⟩ = some (.bool t) := fun x' => by rw [(Fam.below w0.heap.size w0 x').cell (by simpa using hbB)]; exact b0
  have k1 : (0 : Int) ≤ (i : Int) ∧ (i : Int) < (xs.length : Int) ∧ (i : Int) < (qs.length : Int) ∧ (0 : Int) ≤ (q : Int) ∧ (q : Int) < (m : Int) := by omega
  clear hSb p0 p1 q0 q1 q2 q3 r0 b0 hEQ hEB ha hr
  unfold netV
  go_enter Tryd.func176, Tryd.ntmps176
  go_upto_region 1 with fail
  (try rw [hw0])
  refine wp_region_fam w0.heap.size w0 (by kernel_rfl) (by kernel_rfl) (Below.refl _ _) ?_
  (repeat (go_big_quiet_step (fail)))
  refine wpQuiet_nil ?_
  intro w5 hw5
  replace hw5 := Fam.out hw5
  clear y0 y1 y2 y3 y4
  go_wp2_with fail
  go_ret
  exact ⟨rfl, hB0.trans (hw5.mono hB0.size)⟩

set_option maxRecDepth 100000 in
set_option maxHeartbeats 4000000 in
theorem l4Found_differ (xs : List Au) (g : Nat) (c2 : Value) (lt gl : Int) (qs : List Nat) (Aq B : Option Addr) (cq n d : Nat) (w : World) (h3 : xs.length ≤ 3) (h2 : 2 ≤ xs.length) (hql : qs.length = xs.length) (hq0 : qs[0]'(by omega) < xs[0].ac.length) (hq1 : qs[1]'(by omega) < xs[1].ac.length) (ha : AusAt w g xs) (hr : NatsAt w w.heap.size Aq qs) :
    Calls Tryd.prog 132 #[netV (.slice none 0 0) (.slice (some ⟨g, 0, none⟩) xs.length xs.length) c2 lt 1 gl, .slice Aq qs.length cq, .slice B n d] w fun e w' => e = .returned (.bool (xs[0].ac[qs[0]'(by omega)] != xs[1].ac[qs[1]'(by omega)])) ∧ Below w.heap.size w w' := by
  obtain ⟨w0, hw0, hzz0, hB0, hSb⟩ := boxed w #[.slice none 0 0, .slice (some ⟨g, 0, none⟩) xs.length xs.length, c2, .int .i64 lt, .int .i64 1, .int .i64 gl] 93
  have k0 := hid fun w' (hb : Below w0.heap.size w0 w') => l4Ok_aut xs g c2 lt 1 gl qs Aq cq 0 w' h3 (by omega) hql hq0 (ha.later (hB0.trans (hb.mono hB0.size))) (hr.later (hB0.trans (hb.mono hB0.size)))
  have k1 := hid fun w' (hb : Below w0.heap.size w0 w') => l4Ok_aut xs g c2 lt 1 gl qs Aq cq 1 w' h3 (by omega) hql hq1 (ha.later (hB0.trans (hb.mono hB0.size))) (hr.later (hB0.trans (hb.mono hB0.size)))
  obtain ⟨s, hs⟩ : ∃ s, Hid (s = xs[0].ac[qs[0]'(by omega)]) := ⟨_, hid rfl⟩
  obtain ⟨t, ht⟩ : ∃ t, Hid (t = xs[1].ac[qs[1]'(by omega)]) := ⟨_, hid rfl⟩
  rw [← hs.out] at k0 ⊢
  rw [← ht.out] at k1 ⊢
  clear hs ht hq0 hq1
  have p0 := hSb 0 _ rfl w0 (Below.refl _ _)
  have p1 := hSb 1 _ rfl w0 (Below.refl _ _)
  have p2 := hSb 2 _ rfl w0 (Below.refl _ _)
  have p3 := hSb 3 _ rfl w0 (Below.refl _ _)
  have p4 : w0.cell? ⟨w.heap.size, 4, none⟩ = some (.int .i64 1) := hSb 4 _ rfl w0 (Below.refl _ _)
  have p5 := hSb 5 _ rfl w0 (Below.refl _ _)
  have hlw : w.heap.size < w0.heap.size := by omega
  have y0 : ∀ x', (Fam w0.heap.size w0 x').cell? ⟨w.heap.size, 0, none⟩ = some (.slice none 0 0) := fun x' => by rw [(Fam.below w0.heap.size w0 x').cell (by simpa using hlw)]; exact p0
  have y1 : ∀ x', (Fam w0.heap.size w0 x').cell? ⟨w.heap.size, 1, none⟩ = some (.slice (some ⟨g, 0, none⟩) xs.length xs.length) := fun x' => by rw [(Fam.below w0.heap.size w0 x').cell (by simpa using hlw)]; exact p1
  have y2 : ∀ x', (Fam w0.heap.size w0 x').cell? ⟨w.heap.size, 2, none⟩ = some c2 := fun x' => by rw [(Fam.below w0.heap.size w0 x').cell (by simpa using hlw)]; exact p2
  have y3 : ∀ x', (Fam w0.heap.size w0 x').cell? ⟨w.heap.size, 3, none⟩ = some (.int .i64 lt) := fun x' => by rw [(Fam.below w0.heap.size w0 x').cell (by simpa using hlw)]; exact p3
  have y4 : ∀ x', (Fam w0.heap.size w0 x').cell? ⟨w.heap.size, 4, none⟩ = some (.int .i64 1) := fun x' => by rw [(Fam.below w0.heap.size w0 x').cell (by simpa using hlw)]; exact p4
  have y5 : ∀ x', (Fam w0.heap.size w0 x').cell? ⟨w.heap.size, 5, none⟩ = some (.int .i64 gl) := fun x' => by rw [(Fam.below w0.heap.size w0 x').cell (by simpa using hlw)]; exact p5
  replace ha := hid ha
  replace hr := hid hr
  replace hql := hid hql
  clear hSb p0 p1 p2 p3 p5
  unfold netV at k0 k1 ⊢
  go_enter Tryd.func132, Tryd.ntmps132
  go_upto_region 5 with fail
  (try rw [hw0])
  clear hw0 p4
  refine wp_region_grow 7 w0.heap.size w0 (fun i u _ => if i = 2 then u = .bool s else u = .bool t) (by kernel_rfl) (by kernel_rfl) (Nat.le_refl _) (Below.refl _ _) ?_
  simp only [List.take_succ_cons, List.take_zero, List.drop_succ_cons, List.drop_zero]
  (repeat (refine grow_quiet (by rfl) (by rfl) (by rfl) ?_; intro K hK; go_big_quiet_op; go_big_quiet_on))
  refine grow_val (.bool s) (by rfl) (by rfl) rfl (fun wq hbq _ => ?_) ?_
  · go_simp
    refine ⟨rfl, (k0.out wq hbq).mono ?_⟩
    rintro e w6 ⟨rfl, hb6⟩
    exact ⟨rfl, hb6⟩
  simp only [Act.put, List.setIfInBounds_toArray, List.set_cons_zero, List.set_cons_succ]
  (repeat (refine grow_quiet (by rfl) (by rfl) (by rfl) ?_; intro K hK; go_big_quiet_op; go_big_quiet_on))
  refine grow_val (.bool t) (by rfl) (by rfl) rfl (fun wq hbq _ => ?_) ?_
  · go_simp
    refine ⟨rfl, (k1.out wq hbq).mono ?_⟩
    rintro e w6 ⟨rfl, hb6⟩
    exact ⟨rfl, hb6⟩
  simp only [Act.put, List.setIfInBounds_toArray, List.set_cons_zero, List.set_cons_succ]
  (repeat (refine grow_quiet (by rfl) (by rfl) (by rfl) ?_; intro K hK; go_big_quiet_op; go_big_quiet_on))
  refine grow_nil ?_
  intro w7 hb7 hf
  clear hf y0 y1 y2 y3 y4 y5
  go_wp2_with fail
  go_ret
  exact ⟨by first | rfl | trivial, hB0.trans (hb7.mono hB0.size)⟩

end Go.Proofs.YtjhlbeamfngebaaDoor

/- The search over two automata: plain, and its contracts. -/
namespace Go.Proofs.YtjhlbeamfngebaaDoor
open Go.RowKit Go.BigFrame AG

/- Two ways to write the steps that agree on the nodes below N. -/
theorem RW_cong {I : Nat → Prop} {L : List Nat} {nx nx' : Nat → Nat → List Nat} {N : Nat} (h : ∀ n, n < N → ∀ l ∈ L, nx n l = nx' n l ∧ ∀ m ∈ nx n l, m < N) (hI : ∀ n, I n → n < N) : ∀ (r : List Nat) (n : Nat), RW I L nx r n → n < N ∧ RW I L nx' r n
  | [], n, hn => ⟨hI n hn, hn⟩
  | l :: r, n, hn => by
    obtain ⟨hl, m, hm, hx⟩ := hn
    obtain ⟨h1, h2⟩ := RW_cong h hI r m hm
    obtain ⟨e, hlt⟩ := h m h1 l hl
    exact ⟨hlt n hx, hl, m, h2, by rw [← e]; exact hx⟩
theorem PathPost_cong {I : Nat → Prop} {L : List Nat} {nx nx' : Nat → Nat → List Nat} {N : Nat} {G G' : Nat → Prop} (h : ∀ n, n < N → ∀ l ∈ L, nx n l = nx' n l ∧ ∀ m ∈ nx n l, m < N) (hI : ∀ n, I n → n < N) (hG : ∀ n, n < N → (G n ↔ G' n)) {o : Option (List Nat)} (hp : PathPost I L nx G o) : PathPost I L nx' G' o := by
  have h' : ∀ n, n < N → ∀ l ∈ L, nx' n l = nx n l ∧ ∀ m ∈ nx' n l, m < N := fun n hn l hl => ⟨((h n hn l hl).1).symm, by rw [← (h n hn l hl).1]; exact (h n hn l hl).2⟩
  cases o with
  | none =>
    intro q n hq hg
    obtain ⟨h1, h2⟩ := RW_cong h' hI q n hq
    exact hp q n h2 ((hG n h1).2 hg)
  | some r =>
    obtain ⟨⟨n, hn, hg⟩, h2⟩ := hp
    obtain ⟨k1, k2⟩ := RW_cong h hI r n hn
    refine ⟨⟨n, k2, (hG n k1).1 hg⟩, fun q m hq hg' => ?_⟩
    obtain ⟨j1, j2⟩ := RW_cong h' hI q m hq
    exact h2 q m j2 ((hG m j1).2 hg')

/-- The states to which a letter leads a member of a list of automata. -/
def chA (xs : List Au) (i q l : Nat) : List Nat := match xs[i]? with | some a => [goA a q l] | none => []
theorem chA_at {xs : List Au} {i : Nat} (h : i < xs.length) (q l : Nat) : chA xs i q l = [goA xs[i] q l] := by unfold chA; rw [List.getElem?_eq_getElem h]
theorem decS_two {m n : Nat} (k : Nat) : decS [m, n] k = [k / n % m, k % n] := by simp [decS, prodL]
theorem nxN_two {a b : Au} {n : Nat} (hn : n < a.nx.length * b.nx.length) (l : Nat) : nxN [a.nx.length, b.nx.length] (chA [a, b]) n l = [goB a b n l] := by
  have h1 : n / b.nx.length < a.nx.length := Nat.div_lt_of_lt_mul (by rw [Nat.mul_comm]; exact hn)
  unfold nxN
  rw [decS_two]
  simp [nxK, stepN, chA, goB, Nat.mod_eq_of_lt h1]
theorem doub_of_net {a b : Au} (ha : auOk a = true) (hb : auOk b = true) {g : Bool → Bool → Bool} {o : Option (List Nat)} (h : PathPost (fun m => m ∈ [encK [a.nx.length, b.nx.length] [0, 0] 2]) (letters a.al) (nxN [a.nx.length, b.nx.length] (chA [a, b])) (fun n => goalB a b g n = true) o) : DoubP a b g 0 o := by
  obtain ⟨-, h1, -⟩ := (auOk_iff a).1 ha
  obtain ⟨-, h2, -⟩ := (auOk_iff b).1 hb
  rw [encK_zero (by intro q hq; simpa using hq)] at h
  refine PathPost_cong (N := a.nx.length * b.nx.length) (fun n hn l _ => ⟨nxN_two hn l, fun m hm => ?_⟩) (fun n hn => ?_) (fun n _ => Iff.rfl) h
  · rw [nxN_two hn l] at hm
    rw [List.mem_singleton.1 hm]
    exact goB_lt ha hb hn
  · rw [List.mem_singleton.1 hn]
    exact Nat.mul_pos h1 h2

theorem netOk_aut (xs : List Au) (g : Nat) (c2 : Value) (lt kd gl : Int) (w : World) (h3 : xs.length ≤ 3) (hok : ∀ a ∈ xs, auOk a = true) (ha : AusAt w g xs) :
    NetOk w (netV (.slice none 0 0) (.slice (some ⟨g, 0, none⟩) xs.length xs.length) c2 lt kd gl) (xs.map fun a => a.nx.length) (chA xs) := by
  have hat : ∀ {i}, i < xs.length → (xs.map fun a => a.nx.length).getD i 1 = (xs[i]?.getD ⟨0, [], []⟩).nx.length := fun {i} hi => by
    rw [List.getD_eq_getElem?_getD, List.getElem?_map, List.getElem?_eq_getElem hi]
    rfl
  refine ⟨by rw [List.length_map]; exact h3, fun n hn => ?_, fun i q l => ?_, fun i hi q hq l x hx => ?_, fun w' i q l hb hi hq hl => ?_⟩
  · obtain ⟨a, hm, rfl⟩ := List.mem_map.1 hn
    obtain ⟨-, h1, h2, -⟩ := (auOk_iff a).1 (hok a hm)
    exact ⟨h1, by omega⟩
  · unfold chA
    split <;> simp
  · rw [List.length_map] at hi
    rw [hat hi, List.getElem?_eq_getElem hi, Option.getD_some] at hq ⊢
    rw [chA_at hi, List.mem_singleton] at hx
    rw [hx]
    exact goA_lt (hok _ (List.getElem_mem hi)) hq
  · rw [List.length_map] at hi
    rw [hat hi, List.getElem?_eq_getElem hi, Option.getD_some] at hq
    rw [chA_at hi]
    exact l4Choices_aut xs g c2 lt kd gl i q l w' h3 hok hi hq hl (ha.later hb)

end Go.Proofs.YtjhlbeamfngebaaDoor

/- The reference's search over two automata. -/
namespace Go.Proofs.YtjhlbeamfngebaaDoor
open Go.RowKit Go.BigFrame AG

theorem AusAt.two {w : World} {g : Nat} {a b : Au} {A B A' B' : Option Addr} {c d c' d' : Nat} (h : Blk w g 26 #[.int .i64 a.al, .slice A a.nx.length c, .slice B a.ac.length d, .int .i64 b.al, .slice A' b.nx.length c', .slice B' b.ac.length d']) (ha : AuAt w A c B d a) (hb : AuAt w A' c' B' d' b) : AusAt w g [a, b] :=
  ⟨h.lt, fun i hi => match i, hi with
    | 0, _ => ⟨A, c, B, d, h.cell 0, h.cell 1, h.cell 2, ha⟩
    | 1, _ => ⟨A', c', B', d', h.cell 3, h.cell 4, h.cell 5, hb⟩
    | i + 2, hi => absurd hi (by simp)⟩
theorem goalB_at {a b : Au} (g : Bool → Bool → Bool) (ha : auOk a = true) (hb : auOk b = true) {n : Nat} (hn : n < a.nx.length * b.nx.length) : ∃ (h1 : n / b.nx.length % a.nx.length < a.ac.length) (h2 : n % b.nx.length < b.ac.length), goalB a b g n = g (a.ac[n / b.nx.length % a.nx.length]) (b.ac[n % b.nx.length]) := by
  obtain ⟨-, -, -, e1, -⟩ := (auOk_iff a).1 ha
  obtain ⟨-, h0, -, e2, -⟩ := (auOk_iff b).1 hb
  have h1 : n / b.nx.length < a.nx.length := Nat.div_lt_of_lt_mul (by rw [Nat.mul_comm]; exact hn)
  have h2 : n % b.nx.length < b.nx.length := Nat.mod_lt _ h0
  have e3 := Nat.mod_eq_of_lt h1
  refine ⟨by omega, by omega, ?_⟩
  unfold goalB
  rw [List.getD_eq_getElem?_getD, List.getD_eq_getElem?_getD, List.getElem?_eq_getElem (by omega), List.getElem?_eq_getElem (by omega)]
  simp only [e3, Option.getD_some]

set_option maxRecDepth 100000 in
set_option maxHeartbeats 4000000 in
theorem l4Two_any (a b : Au) (A B A' B' : Option Addr) (c d c' d' : Nat) (w : World) (ha : AuAt w A c B d a) (hb : AuAt w A' c' B' d' b) :
    Calls Tryd.prog 49 #[a.val A c B d, b.val A' c' B' d'] w fun e w' => e = .returned (.bool (cmpAu a b)) ∧ Below w.heap.size w w' := by
  obtain ⟨w0, hw0, hz0, hB0, hS, hU⟩ := boxed2 w #[Value.int IntKind.i64 a.al, Value.slice A a.nx.length c, Value.slice B a.ac.length d] 26 #[Value.int IntKind.i64 b.al, Value.slice A' b.nx.length c', Value.slice B' b.ac.length d'] 26
  have ha0 := hid (ha.later hB0)
  have hb0 := hid (hb.later hB0)
  have p0 := hS 0 _ rfl _ (Below.refl _ _)
  have p1 := hS 1 _ rfl _ (Below.refl _ _)
  have p2 := hS 2 _ rfl _ (Below.refl _ _)
  replace ha := hid ha
  replace hb := hid hb
  unfold AG.Au.val
  go_enter Tryd.func49, Tryd.ntmps49
  go_wp2_with fail
  refine (specAutomatonValid_any a A B c d w0 ha0.out).mono ?_
  rintro e w1 ⟨rfl, hb1⟩
  clear p0 p1 p2
  have hB1 := hB0.trans (hb1.mono hB0.size)
  have hC1 := hb1.mono hz0
  cases hca : auOk a
  · have hfin : Hid (cmpAu a b = false) := hid (by unfold cmpAu; rw [hca]; rfl)
    replace hca := hid hca
    go_wp2_with fail
    go_ret
    exact ⟨ret_bool (by rw [hfin.out]), hB1⟩
  have q0 := hU 0 _ rfl _ hC1
  have q1 := hU 1 _ rfl _ hC1
  have q2 := hU 2 _ rfl _ hC1
  have hfin : Hid (cmpAu a b = (auOk b && decide (a.al = b.al))) := hid (by unfold cmpAu; rw [hca]; rfl)
  replace hca := hid hca
  go_wp2_with fail
  refine (specAutomatonValid_any b A' B' c' d' w1 (hb0.out.later hb1)).mono ?_
  rintro e w2 ⟨rfl, hb2⟩
  clear q0 q1 q2
  have hB2 := hB1.trans (hb2.mono hB1.size)
  have hC2 := hC1.trans (hb2.mono (by have := hC1.size; omega))
  cases hcb : auOk b
  · have hcb' := hid hcb
    go_wp2_with fail
    go_ret
    exact ⟨ret_bool (by rw [hfin.out, hcb]; rfl), hB2⟩
  have p0 := hS 0 _ rfl _ hC2
  have q0 := hU 0 _ rfl _ hC2
  obtain ⟨t, ht⟩ : ∃ t, (a.al == b.al) = t := ⟨_, rfl⟩
  have htt : Hid (decide (a.al = b.al) = t) := hid (by rw [← ht]; rfl)
  replace hcb := hid hcb
  go_wp2_with fail
  go_ret
  exact ⟨ret_bool (by rw [hfin.out, hcb.out, htt.out, Bool.true_and]), hB2⟩

set_option maxRecDepth 100000 in
set_option maxHeartbeats 4000000 in
theorem agTwo_any (a b : Au) (A B A' B' : Option Addr) (c d c' d' : Nat) (w : World) (ha : AuAt w A c B d a) (hb : AuAt w A' c' B' d' b) :
    Calls Tryd.prog 15 #[a.val A c B d, b.val A' c' B' d'] w fun e w' => e = .returned (.bool (cmpAu a b)) ∧ Below w.heap.size w w' := by
  obtain ⟨w0, hw0, hz0, hB0, hS, hU⟩ := boxed2 w #[Value.int IntKind.i64 a.al, Value.slice A a.nx.length c, Value.slice B a.ac.length d] 26 #[Value.int IntKind.i64 b.al, Value.slice A' b.nx.length c', Value.slice B' b.ac.length d'] 26
  have ha0 := hid (ha.later hB0)
  have hb0 := hid (hb.later hB0)
  have p0 := hS 0 _ rfl _ (Below.refl _ _)
  have p1 := hS 1 _ rfl _ (Below.refl _ _)
  have p2 := hS 2 _ rfl _ (Below.refl _ _)
  replace ha := hid ha
  replace hb := hid hb
  unfold AG.Au.val
  go_enter Tryd.func15, Tryd.ntmps15
  go_wp2_with fail
  refine (implAutomatonValid_any a A B c d w0 ha0.out).mono ?_
  rintro e w1 ⟨rfl, hb1⟩
  clear p0 p1 p2
  have hB1 := hB0.trans (hb1.mono hB0.size)
  have hC1 := hb1.mono hz0
  cases hca : auOk a
  · have hfin : Hid (cmpAu a b = false) := hid (by unfold cmpAu; rw [hca]; rfl)
    replace hca := hid hca
    go_wp2_with fail
    go_ret
    exact ⟨ret_bool (by rw [hfin.out]), hB1⟩
  have q0 := hU 0 _ rfl _ hC1
  have q1 := hU 1 _ rfl _ hC1
  have q2 := hU 2 _ rfl _ hC1
  have hfin : Hid (cmpAu a b = (auOk b && decide (a.al = b.al))) := hid (by unfold cmpAu; rw [hca]; rfl)
  replace hca := hid hca
  go_wp2_with fail
  refine (implAutomatonValid_any b A' B' c' d' w1 (hb0.out.later hb1)).mono ?_
  rintro e w2 ⟨rfl, hb2⟩
  clear q0 q1 q2
  have hB2 := hB1.trans (hb2.mono hB1.size)
  have hC2 := hC1.trans (hb2.mono (by have := hC1.size; omega))
  cases hcb : auOk b
  · have hcb' := hid hcb
    go_wp2_with fail
    go_ret
    exact ⟨ret_bool (by rw [hfin.out, hcb]; rfl), hB2⟩
  have p0 := hS 0 _ rfl _ hC2
  have q0 := hU 0 _ rfl _ hC2
  obtain ⟨t, ht⟩ : ∃ t, (a.al == b.al) = t := ⟨_, rfl⟩
  have htt : Hid (decide (a.al = b.al) = t) := hid (by rw [← ht]; rfl)
  replace hcb := hid hcb
  go_wp2_with fail
  go_ret
  exact ⟨ret_bool (by rw [hfin.out, hcb.out, htt.out, Bool.true_and]), hB2⟩

theorem srch_DifferOf (a b : Au) (g : Nat) (AS : Option Addr) (cS : Nat) (lt gl : Int) (w : World) (hok1 : auOk a = true) (hok2 : auOk b = true) (ha : AusAt w g [a, b]) :
    SrchNet w (netV (.slice none 0 0) (.slice (some ⟨g, 0, none⟩) 2 2) (.slice AS 2 cS) lt 1 gl) lt [a.nx.length, b.nx.length] (chA [a, b]) (goalB a b fun x y => x != y) := by
  have hok : ∀ x ∈ [a, b], auOk x = true := fun x hx => by
    rcases List.mem_cons.1 hx with rfl | hx
    · exact hok1
    · rw [List.mem_singleton.1 hx]; exact hok2
  refine ⟨netOk_aut [a, b] g _ lt 1 gl w (by simp) hok ha, fun w' hb => l4Sizes_aut [a, b] g _ lt 1 gl w' (by simp) (ha.later hb), fun w' n A c B d hb hn _ _ _ _ h1 _ => ?_⟩
  obtain ⟨q1, q2, e⟩ := goalB_at (fun x y => x != y) hok1 hok2 (n := n) (by simpa [prodL] using hn)
  rw [e]
  rw [decS_two] at h1
  exact l4Found_differ [a, b] g _ lt gl [n / b.nx.length % a.nx.length, n % b.nx.length] A B c (letters lt).length d w' (by simp) (by simp) (by simp) q1 q2 (ha.later hb) h1

set_option maxRecDepth 100000 in
set_option maxHeartbeats 4000000 in
theorem specDifferOf_any (a b : Au) (A B A' B' : Option Addr) (c d c' d' : Nat) (w : World) (ha : AuAt w A c B d a) (hb : AuAt w A' c' B' d' b) :
    Calls Tryd.prog 48 #[a.val A c B d, b.val A' c' B' d'] w (FoundPost a b (fun x y => x != y) w) := by
  obtain ⟨w0, hw0, hz0, hB0, hS, hU⟩ := boxed2 w #[Value.int IntKind.i64 a.al, Value.slice A a.nx.length c, Value.slice B a.ac.length d] 26 #[Value.int IntKind.i64 b.al, Value.slice A' b.nx.length c', Value.slice B' b.ac.length d'] 26
  have ha0 := hid (ha.later hB0)
  have hb0 := hid (hb.later hB0)
  have p0 := hS 0 _ rfl _ (Below.refl _ _)
  have p1 := hS 1 _ rfl _ (Below.refl _ _)
  have p2 := hS 2 _ rfl _ (Below.refl _ _)
  have q0 := hU 0 _ rfl _ (Below.refl _ _)
  have q1 := hU 1 _ rfl _ (Below.refl _ _)
  have q2 := hU 2 _ rfl _ (Below.refl _ _)
  replace ha := hid ha
  replace hb := hid hb
  unfold AG.Au.val
  go_enter Tryd.func48, Tryd.ntmps48
  go_wp2_with fail
  refine (l4Two_any a b A B A' B' c d c' d' w0 ha0.out hb0.out).mono ?_
  rintro e w1 ⟨rfl, hb1⟩
  have hB1 := hB0.trans (hb1.mono hB0.size)
  have hC1 := hb1.mono hz0
  clear p0 p1 p2 q0 q1 q2
  cases hc : cmpAu a b
  · have hc' := hid hc
    clear hc
    go_wp2_with fail
    go_ret2
    exact ⟨none, rfl, ⟨fun h => (by rw [hc'.out] at h; cases h), fun _ => rfl⟩, hB1⟩
  obtain ⟨k1, k2, k3⟩ := cmpAu_parts hc
  have hc' := hid hc
  clear hc
  replace k1 := hid k1
  replace k2 := hid k2
  replace k3 := hid k3
  have ha1 := hid (ha0.out.later hb1)
  have hb1' := hid (hb0.out.later hb1)
  have p0 := hS 0 _ rfl _ hC1
  have p1 := hS 1 _ rfl _ hC1
  have p2 := hS 2 _ rfl _ hC1
  have q0 := hU 0 _ rfl _ hC1
  have q1 := hU 1 _ rfl _ hC1
  have q2 := hU 2 _ rfl _ hC1
  have hlw : w.heap.size < w1.heap.size ∧ w.heap.size + 1 < w1.heap.size := by have := hC1.size; have := hB0.size; omega
  obtain ⟨hlw1, hlw2⟩ := hlw
  go_wp2_with fail
  obtain ⟨W, hW⟩ : ∃ W, (w1.alloc (.cells #[.int .i64 a.al, .slice A a.nx.length c, .slice B a.ac.length d, .int .i64 b.al, .slice A' b.nx.length c', .slice B' b.ac.length d'] 26)).alloc (.cells #[.int .i64 0, .int .i64 0] 3) = W := ⟨_, rfl⟩
  rw [hW]
  have hbW : Below w1.heap.size w1 W := by rw [← hW]; exact ((Below.refl _ _).alloc (Nat.le_refl _) _).alloc (by simp) _
  have hblk : Blk W w1.heap.size 26 #[.int .i64 a.al, .slice A a.nx.length c, .slice B a.ac.length d, .int .i64 b.al, .slice A' b.nx.length c', .slice B' b.ac.length d'] := by rw [← hW]; exact (Blk.new _ _ _).alloc _
  have hblk2 : Blk W (w1.heap.size + 1) 3 #[.int .i64 0, .int .i64 0] := by rw [← hW]; simpa using Blk.new (w1.alloc (.cells #[.int .i64 a.al, .slice A a.nx.length c, .slice B a.ac.length d, .int .i64 b.al, .slice A' b.nx.length c', .slice B' b.ac.length d'] 26)) 3 #[.int .i64 0, .int .i64 0]
  have hS := srch_DifferOf a b w1.heap.size (some ⟨w1.heap.size + 1, 0, none⟩) 2 a.al 0 W k1.out k2.out (AusAt.two hblk (ha1.out.later hbW) (hb1'.out.later hbW))
  have hqs : NatsAt W W.heap.size (some ⟨w1.heap.size + 1, 0, none⟩) [0, 0] := fun _ => ⟨w1.heap.size + 1, 0, rfl, hblk2.lt, fun i hi => match i, hi with
    | 0, _ => hblk2.cell 0
    | 1, _ => hblk2.cell 1
    | i + 2, hi => absurd hi (by simp)⟩
  have z1 := ((auOk_iff a).1 k1.out).2.1
  have z2 := ((auOk_iff b).1 k2.out).2.1
  refine (l4First_any (.slice none 0 0) (.slice (some ⟨w1.heap.size, 0, none⟩) 2 2) a.al 1 0 [a.nx.length, b.nx.length] [0, 0] (chA [a, b]) (goalB a b fun x y => x != y) (some ⟨w1.heap.size + 1, 0, none⟩) 2 W hS rfl (by decide) (by decide) (fun i hi => match i, hi with
    | 0, _ => z1
    | 1, _ => z2
    | i + 2, hi => absurd hi (by simp)) hqs).mono ?_
  rintro e w2 ⟨o, rfl, hout, hb2⟩
  replace hout := doub_of_net k1.out k2.out hout
  replace hb2 := hbW.trans (hb2.mono hbW.size)
  clear hS hqs hblk hblk2 hbW hW z1 z2
  obtain ⟨Sv, Fv, hpv⟩ : ∃ Sv Fv, pathV o = .tuple #[.string Sv, .bool Fv] := ⟨_, _, rfl⟩
  rw [hpv]
  have hpv' := hid hpv
  replace hout := hid hout
  have hB2 := hB1.trans (hb2.mono hB1.size)
  clear hpv p0 p1 p2 q0 q1 q2
  go_wp2_with fail
  go_ret2
  exact ⟨o, by rw [hpv'.out]; rfl, ⟨fun _ => hout.out, fun h => (by rw [hc'.out] at h; cases h)⟩, hB2⟩


set_option maxRecDepth 100000 in
set_option maxHeartbeats 4000000 in
theorem specSameLanguage_any (a b : Au) (A B A' B' : Option Addr) (c d c' d' : Nat) (w : World) (ha : AuAt w A c B d a) (hb : AuAt w A' c' B' d' b) :
    Calls Tryd.prog 13 #[a.val A c B d, b.val A' c' B' d'] w (fun e w' => e = .returned (.bool (sameLB a b)) ∧ Below w.heap.size w w') := by
  obtain ⟨w0, hw0, hz0, hB0, hS, hU⟩ := boxed2 w #[Value.int IntKind.i64 a.al, Value.slice A a.nx.length c, Value.slice B a.ac.length d] 26 #[Value.int IntKind.i64 b.al, Value.slice A' b.nx.length c', Value.slice B' b.ac.length d'] 26
  have ha0 := hid (ha.later hB0)
  have hb0 := hid (hb.later hB0)
  have p0 := hS 0 _ rfl _ (Below.refl _ _)
  have p1 := hS 1 _ rfl _ (Below.refl _ _)
  have p2 := hS 2 _ rfl _ (Below.refl _ _)
  have q0 := hU 0 _ rfl _ (Below.refl _ _)
  have q1 := hU 1 _ rfl _ (Below.refl _ _)
  have q2 := hU 2 _ rfl _ (Below.refl _ _)
  replace ha := hid ha
  replace hb := hid hb
  unfold AG.Au.val
  go_enter Tryd.func13, Tryd.ntmps13
  go_wp2_with fail
  refine (specDifferOf_any a b A B A' B' c d c' d' w0 ha0.out hb0.out).mono ?_
  rintro e w1 ⟨o, rfl, hf, hb1⟩
  obtain ⟨Sv, Fv, hpv, hFv⟩ : ∃ Sv Fv, pathV o = .tuple #[.string Sv, .bool Fv] ∧ Fv = o.isSome := ⟨_, _, rfl, rfl⟩
  rw [hpv]
  have hB1 := hB0.trans (hb1.mono hB0.size)
  have hC1 := hb1.mono hz0
  replace hf := hid hf
  replace hFv := hid hFv
  clear p0 p1 p2 q0 q1 q2 hpv
  have p0 := hS 0 _ rfl _ hC1
  have p1 := hS 1 _ rfl _ hC1
  have p2 := hS 2 _ rfl _ hC1
  have q0 := hU 0 _ rfl _ hC1
  have q1 := hU 1 _ rfl _ hC1
  have q2 := hU 2 _ rfl _ hC1
  go_wp2_with fail
  refine (l4Two_any a b A B A' B' c d c' d' w1 (ha0.out.later hb1) (hb0.out.later hb1)).mono ?_
  rintro e w2 ⟨rfl, hb2⟩
  have hB2 := hB1.trans (hb2.mono hB1.size)
  clear p0 p1 p2 q0 q1 q2
  obtain ⟨cb, hcb⟩ : ∃ cb, Hid (cb = cmpAu a b) := ⟨_, hid rfl⟩
  rw [← hcb.out]
  cases cb
  · go_wp2_with fail
    go_ret
    exact ⟨ret_bool (by rw [same_found hf.out, ← hcb.out, ← hFv.out]; simp), hB2⟩
  · go_wp2_with fail
    go_ret
    exact ⟨ret_bool (by rw [same_found hf.out, ← hcb.out, ← hFv.out]; simp), hB2⟩


end Go.Proofs.YtjhlbeamfngebaaDoor

/- The laws FnMinimalLeast, FnMinimalUnique. -/
namespace Go.Proofs.YtjhlbeamfngebaaDoor
open Go.RowKit Go.BigFrame Go.Maps AG

theorem minX_yes {a : Au} (h : auOk a = true) : minX a = minA a := by unfold minX; rw [if_pos h]
theorem same_mins2 {a b : Au} (h : cmpAu a b = true) : sameLB a b = decide (minX a = minX b) := by
  obtain ⟨ha, hb, hal⟩ := cmpAu_parts h
  rw [minX_yes ha, minX_yes hb, Bool.eq_iff_iff, sameLB_iff, decide_eq_true_iff]
  constructor
  · rintro ⟨-, h2⟩
    exact min_unique ha hb hal h2
  · intro e
    refine ⟨h, fun r hr => ?_⟩
    rw [← acc_min ha hr, e, acc_min hb (by rw [← hal]; exact hr)]
theorem min_le2 {a b : Au} (h : sameLB a b = true) : auOk a = true ∧ (minX a).nx.length ≤ a.nx.length ∧ (minX a).nx.length ≤ b.nx.length := by
  have hc := (sameLB_iff.1 h).1
  obtain ⟨ha, hb, -⟩ := cmpAu_parts hc
  have e := same_mins2 hc
  rw [h] at e
  have e2 : minX a = minX b := of_decide_eq_true e.symm
  refine ⟨ha, by rw [minX_yes ha]; exact minA_le ha, ?_⟩
  rw [e2, minX_yes hb]
  exact minA_le hb
theorem same_no {a b : Au} (h : cmpAu a b = false) : sameLB a b = false := by
  cases hs : sameLB a b with
  | false => rfl
  | true => rw [(sameLB_iff.1 hs).1] at h; cases h

set_option maxRecDepth 100000 in
set_option maxHeartbeats 16000000 in
theorem FnMinimalLeast_any (A : Option Addr) (n c : Nat) (w : World) (hn : n ≤ c) (hc : c ≤ 9223372036854775807) (hT : Tab w) (hx : CodeAt w A n) :
    Calls Tryd.prog 3 #[.slice A n c] w fun e w' => e = .returned (.bool true) ∧ Below w.heap.size w w' := by
  replace hT := hid hT
  replace hx := hid hx
  by_cases hlen : 1048576 < n
  · have hgt : (1048576 : Int) < (n : Int) := by omega
    go_enter Tryd.func3, Tryd.ntmps3
    go_wp2
    go_ret
    exact ⟨rfl, Below.refl _ _⟩
  have hgt : ¬ ((1048576 : Int) < (n : Int)) := by omega
  go_enter Tryd.func3, Tryd.ntmps3
  go_wp2_with fail
  have BW_w : Below w.heap.size w w := Below.refl _ _
  refine (drawSameLanguage_any A n c w hn hc hx.out).mono ?_
  rintro e w1 ⟨a, b, Aa, Ba, Ab, Bb, ca, da, cb, db, rfl, ta, tb, hb_w1⟩
  unfold AG.Au.val
  have BW_w1 := BW_w.trans (hb_w1.mono BW_w.size)
  replace ta := hid ta
  have BTa_w1 : Below w1.heap.size w1 w1 := Below.refl _ _
  replace tb := hid tb
  have BTb_w1 : Below w1.heap.size w1 w1 := Below.refl _ _
  go_upto_region 4 with fail
  obtain ⟨w2, hw_w2, hz_w2, hb_w2, hS_w2, hU_w2⟩ := boxed2 w1 #[.int .i64 a.al, .slice Aa a.nx.length ca, .slice Ba a.ac.length da] 26 #[.int .i64 b.al, .slice Ab b.nx.length cb, .slice Bb b.ac.length db] 26
  rw [hw_w2]
  clear hw_w2
  have ha0 := fun w' (hb : Below w2.heap.size w2 w') => hS_w2 0 _ rfl w' (hb.mono hz_w2)
  have ha1 := fun w' (hb : Below w2.heap.size w2 w') => hS_w2 1 _ rfl w' (hb.mono hz_w2)
  have ha2 := fun w' (hb : Below w2.heap.size w2 w') => hS_w2 2 _ rfl w' (hb.mono hz_w2)
  replace ha0 := hid ha0
  replace ha1 := hid ha1
  replace ha2 := hid ha2
  have hb0 := fun w' (hb : Below w2.heap.size w2 w') => hU_w2 0 _ rfl w' (hb.mono hz_w2)
  have hb1 := fun w' (hb : Below w2.heap.size w2 w') => hU_w2 1 _ rfl w' (hb.mono hz_w2)
  have hb2 := fun w' (hb : Below w2.heap.size w2 w') => hU_w2 2 _ rfl w' (hb.mono hz_w2)
  replace hb0 := hid hb0
  replace hb1 := hid hb1
  replace hb2 := hid hb2
  clear hS_w2 hU_w2
  have BW_w2 := BW_w1.trans (hb_w2.mono BW_w1.size)
  have BTa_w2 := BTa_w1.trans (hb_w2.mono BTa_w1.size)
  have BTb_w2 := BTb_w1.trans (hb_w2.mono BTb_w1.size)
  have Ba_w2 : Below w2.heap.size w2 w2 := Below.refl _ _
  have Bb_w2 : Below w2.heap.size w2 w2 := Below.refl _ _
  obtain ⟨D, hD⟩ : ∃ D, Hid (D = sameLB a b) := ⟨_, hid rfl⟩
  have hoo : (D != D) = false := by simp
  have hoe : (D == D) = true := by simp
  have pa0 := ha0.out _ Ba_w2
  have pa1 := ha1.out _ Ba_w2
  have pa2 := ha2.out _ Ba_w2
  have pb0 := hb0.out _ Bb_w2
  have pb1 := hb1.out _ Bb_w2
  have pb2 := hb2.out _ Bb_w2
  go_wp2_with fail
  refine (implSameLanguage_any a b Aa Ba Ab Bb ca da cb db w2 (ta.out.later BTa_w2) (tb.out.later BTb_w2)).mono ?_
  clear pa0 pa1 pa2 pb0 pb1 pb2
  rintro e w3 ⟨rfl, hb_w3⟩
  have BW_w3 := BW_w2.trans (hb_w3.mono BW_w2.size)
  have BTa_w3 := BTa_w2.trans (hb_w3.mono BTa_w2.size)
  have BTb_w3 := BTb_w2.trans (hb_w3.mono BTb_w2.size)
  have Ba_w3 := Ba_w2.trans (hb_w3.mono Ba_w2.size)
  have Bb_w3 := Bb_w2.trans (hb_w3.mono Bb_w2.size)
  rw [← hD.out]
  have pa0 := ha0.out _ Ba_w3
  have pa1 := ha1.out _ Ba_w3
  have pa2 := ha2.out _ Ba_w3
  have pb0 := hb0.out _ Bb_w3
  have pb1 := hb1.out _ Bb_w3
  have pb2 := hb2.out _ Bb_w3
  go_wp2_with fail
  refine (specSameLanguage_any a b Aa Ba Ab Bb ca da cb db w3 (ta.out.later BTa_w3) (tb.out.later BTb_w3)).mono ?_
  clear pa0 pa1 pa2 pb0 pb1 pb2
  rintro e w4 ⟨rfl, hb_w4⟩
  have BW_w4 := BW_w3.trans (hb_w4.mono BW_w3.size)
  have BTa_w4 := BTa_w3.trans (hb_w4.mono BTa_w3.size)
  have BTb_w4 := BTb_w3.trans (hb_w4.mono BTb_w3.size)
  have Ba_w4 := Ba_w3.trans (hb_w4.mono Ba_w3.size)
  have Bb_w4 := Bb_w3.trans (hb_w4.mono Bb_w3.size)
  rw [← hD.out]
  cases hdc : D
  case false =>
    subst hdc
    have pa0 := ha0.out _ Ba_w4
    have pa1 := ha1.out _ Ba_w4
    have pa2 := ha2.out _ Ba_w4
    have pb0 := hb0.out _ Bb_w4
    have pb1 := hb1.out _ Bb_w4
    have pb2 := hb2.out _ Bb_w4
    go_wp2_with fail
    refine (specSameLanguage_any a b Aa Ba Ab Bb ca da cb db w4 (ta.out.later BTa_w4) (tb.out.later BTb_w4)).mono ?_
    clear pa0 pa1 pa2 pb0 pb1 pb2
    rintro e w5 ⟨rfl, hb_w5⟩
    have BW_w5 := BW_w4.trans (hb_w5.mono BW_w4.size)
    have BTa_w5 := BTa_w4.trans (hb_w5.mono BTa_w4.size)
    have BTb_w5 := BTb_w4.trans (hb_w5.mono BTb_w4.size)
    have Ba_w5 := Ba_w4.trans (hb_w5.mono Ba_w4.size)
    have Bb_w5 := Bb_w4.trans (hb_w5.mono Bb_w4.size)
    rw [← hD.out]
    go_wp2_with fail
    go_ret
    exact ⟨rfl, BW_w5⟩
  case true =>
  obtain ⟨haok', hl1, hl2⟩ := min_le2 (hD.out.symm.trans hdc)
  have haok : Hid (true = auOk a) := hid haok'.symm
  clear haok'
  obtain ⟨p, hp⟩ : ∃ p, Hid (p = minX a) := ⟨_, hid rfl⟩
  rw [← hp.out] at hl1 hl2
  have k1 : (p.nx.length : Int) ≤ (a.nx.length : Int) := by omega
  have k2 : (p.nx.length : Int) ≤ (b.nx.length : Int) := by omega
  clear hl1 hl2
  subst hdc
  have pa0 := ha0.out _ Ba_w4
  have pa1 := ha1.out _ Ba_w4
  have pa2 := ha2.out _ Ba_w4
  go_wp2_with fail
  have hc_x := hid (implMinimizeAutomaton_any a Aa Ba ca da w4 (ta.out.later BTa_w4))
  rw [← hp.out, ← haok.out] at hc_x
  refine hc_x.out.mono ?_
  clear hc_x
  clear pa0 pa1 pa2
  rintro e w6 ⟨hb_w6, v1, v2, xs, rfl, hau⟩
  obtain ⟨Ax, cx, Bx, dx, rfl, rfl, tx⟩ := hau.at_
  replace tx := hid tx
  clear hau
  have BW_w6 := BW_w4.trans (hb_w6.mono BW_w4.size)
  have BTa_w6 := BTa_w4.trans (hb_w6.mono BTa_w4.size)
  have BTb_w6 := BTb_w4.trans (hb_w6.mono BTb_w4.size)
  have Ba_w6 := Ba_w4.trans (hb_w6.mono Ba_w4.size)
  have Bb_w6 := Bb_w4.trans (hb_w6.mono Bb_w4.size)
  have BTx_w6 : Below w6.heap.size w6 w6 := Below.refl _ _
  go_upto_region 8 with fail
  obtain ⟨w7, hw_w7, hz_w7, hb_w7, hS_w7⟩ := boxed w6 #[.int .i64 p.al, .slice Ax p.nx.length cx, .slice Bx p.ac.length dx] 26
  rw [hw_w7]
  clear hw_w7
  have hx0 := fun w' (hb : Below w7.heap.size w7 w') => hS_w7 0 _ rfl w' (hb.mono hz_w7)
  have hx1 := fun w' (hb : Below w7.heap.size w7 w') => hS_w7 1 _ rfl w' (hb.mono hz_w7)
  have hx2 := fun w' (hb : Below w7.heap.size w7 w') => hS_w7 2 _ rfl w' (hb.mono hz_w7)
  replace hx0 := hid hx0
  replace hx1 := hid hx1
  replace hx2 := hid hx2
  clear hS_w7
  have BW_w7 := BW_w6.trans (hb_w7.mono BW_w6.size)
  have BTa_w7 := BTa_w6.trans (hb_w7.mono BTa_w6.size)
  have BTb_w7 := BTb_w6.trans (hb_w7.mono BTb_w6.size)
  have Ba_w7 := Ba_w6.trans (hb_w7.mono Ba_w6.size)
  have Bb_w7 := Bb_w6.trans (hb_w7.mono Bb_w6.size)
  have BTx_w7 := BTx_w6.trans (hb_w7.mono BTx_w6.size)
  have Bx_w7 : Below w7.heap.size w7 w7 := Below.refl _ _
  have px0 := hx0.out _ Bx_w7
  have px1 := hx1.out _ Bx_w7
  have px2 := hx2.out _ Bx_w7
  have pa0 := ha0.out _ Ba_w7
  have pa1 := ha1.out _ Ba_w7
  have pa2 := ha2.out _ Ba_w7
  have pb0 := hb0.out _ Bb_w7
  have pb1 := hb1.out _ Bb_w7
  have pb2 := hb2.out _ Bb_w7
  go_wp2_with fail
  go_ret
  exact ⟨rfl, BW_w7⟩

set_option maxRecDepth 100000 in
set_option maxHeartbeats 16000000 in
theorem FnMinimalUnique_any (A : Option Addr) (n c : Nat) (w : World) (hn : n ≤ c) (hc : c ≤ 9223372036854775807) (hT : Tab w) (hx : CodeAt w A n) :
    Calls Tryd.prog 4 #[.slice A n c] w fun e w' => e = .returned (.bool true) ∧ Below w.heap.size w w' := by
  replace hT := hid hT
  replace hx := hid hx
  by_cases hlen : 1048576 < n
  · have hgt : (1048576 : Int) < (n : Int) := by omega
    go_enter Tryd.func4, Tryd.ntmps4
    go_wp2
    go_ret
    exact ⟨rfl, Below.refl _ _⟩
  have hgt : ¬ ((1048576 : Int) < (n : Int)) := by omega
  go_enter Tryd.func4, Tryd.ntmps4
  go_wp2_with fail
  have BW_w : Below w.heap.size w w := Below.refl _ _
  refine (drawSameLanguage_any A n c w hn hc hx.out).mono ?_
  rintro e w1 ⟨a, b, Aa, Ba, Ab, Bb, ca, da, cb, db, rfl, ta, tb, hb_w1⟩
  unfold AG.Au.val
  have BW_w1 := BW_w.trans (hb_w1.mono BW_w.size)
  replace ta := hid ta
  have BTa_w1 : Below w1.heap.size w1 w1 := Below.refl _ _
  replace tb := hid tb
  have BTb_w1 : Below w1.heap.size w1 w1 := Below.refl _ _
  go_upto_region 4 with fail
  obtain ⟨w2, hw_w2, hz_w2, hb_w2, hS_w2, hU_w2⟩ := boxed2 w1 #[.int .i64 a.al, .slice Aa a.nx.length ca, .slice Ba a.ac.length da] 26 #[.int .i64 b.al, .slice Ab b.nx.length cb, .slice Bb b.ac.length db] 26
  rw [hw_w2]
  clear hw_w2
  have ha0 := fun w' (hb : Below w2.heap.size w2 w') => hS_w2 0 _ rfl w' (hb.mono hz_w2)
  have ha1 := fun w' (hb : Below w2.heap.size w2 w') => hS_w2 1 _ rfl w' (hb.mono hz_w2)
  have ha2 := fun w' (hb : Below w2.heap.size w2 w') => hS_w2 2 _ rfl w' (hb.mono hz_w2)
  replace ha0 := hid ha0
  replace ha1 := hid ha1
  replace ha2 := hid ha2
  have hb0 := fun w' (hb : Below w2.heap.size w2 w') => hU_w2 0 _ rfl w' (hb.mono hz_w2)
  have hb1 := fun w' (hb : Below w2.heap.size w2 w') => hU_w2 1 _ rfl w' (hb.mono hz_w2)
  have hb2 := fun w' (hb : Below w2.heap.size w2 w') => hU_w2 2 _ rfl w' (hb.mono hz_w2)
  replace hb0 := hid hb0
  replace hb1 := hid hb1
  replace hb2 := hid hb2
  clear hS_w2 hU_w2
  have BW_w2 := BW_w1.trans (hb_w2.mono BW_w1.size)
  have BTa_w2 := BTa_w1.trans (hb_w2.mono BTa_w1.size)
  have BTb_w2 := BTb_w1.trans (hb_w2.mono BTb_w1.size)
  have Ba_w2 : Below w2.heap.size w2 w2 := Below.refl _ _
  have Bb_w2 : Below w2.heap.size w2 w2 := Below.refl _ _
  obtain ⟨D, hD⟩ : ∃ D, Hid (D = sameLB a b) := ⟨_, hid rfl⟩
  have hoo : (D != D) = false := by simp
  have hoe : (D == D) = true := by simp
  have pa0 := ha0.out _ Ba_w2
  have pa1 := ha1.out _ Ba_w2
  have pa2 := ha2.out _ Ba_w2
  have pb0 := hb0.out _ Bb_w2
  have pb1 := hb1.out _ Bb_w2
  have pb2 := hb2.out _ Bb_w2
  go_wp2_with fail
  refine (implSameLanguage_any a b Aa Ba Ab Bb ca da cb db w2 (ta.out.later BTa_w2) (tb.out.later BTb_w2)).mono ?_
  clear pa0 pa1 pa2 pb0 pb1 pb2
  rintro e w3 ⟨rfl, hb_w3⟩
  have BW_w3 := BW_w2.trans (hb_w3.mono BW_w2.size)
  have BTa_w3 := BTa_w2.trans (hb_w3.mono BTa_w2.size)
  have BTb_w3 := BTb_w2.trans (hb_w3.mono BTb_w2.size)
  have Ba_w3 := Ba_w2.trans (hb_w3.mono Ba_w2.size)
  have Bb_w3 := Bb_w2.trans (hb_w3.mono Bb_w2.size)
  rw [← hD.out]
  have pa0 := ha0.out _ Ba_w3
  have pa1 := ha1.out _ Ba_w3
  have pa2 := ha2.out _ Ba_w3
  have pb0 := hb0.out _ Bb_w3
  have pb1 := hb1.out _ Bb_w3
  have pb2 := hb2.out _ Bb_w3
  go_wp2_with fail
  refine (specSameLanguage_any a b Aa Ba Ab Bb ca da cb db w3 (ta.out.later BTa_w3) (tb.out.later BTb_w3)).mono ?_
  clear pa0 pa1 pa2 pb0 pb1 pb2
  rintro e w4 ⟨rfl, hb_w4⟩
  have BW_w4 := BW_w3.trans (hb_w4.mono BW_w3.size)
  have BTa_w4 := BTa_w3.trans (hb_w4.mono BTa_w3.size)
  have BTb_w4 := BTb_w3.trans (hb_w4.mono BTb_w3.size)
  have Ba_w4 := Ba_w3.trans (hb_w4.mono Ba_w3.size)
  have Bb_w4 := Bb_w3.trans (hb_w4.mono Bb_w3.size)
  rw [← hD.out]
  obtain ⟨C, hC⟩ : ∃ C, Hid (C = cmpAu a b) := ⟨_, hid rfl⟩
  have pa0 := ha0.out _ Ba_w4
  have pa1 := ha1.out _ Ba_w4
  have pa2 := ha2.out _ Ba_w4
  have pb0 := hb0.out _ Bb_w4
  have pb1 := hb1.out _ Bb_w4
  have pb2 := hb2.out _ Bb_w4
  go_wp2_with fail
  refine (agTwo_any a b Aa Ba Ab Bb ca da cb db w4 (ta.out.later BTa_w4) (tb.out.later BTb_w4)).mono ?_
  clear pa0 pa1 pa2 pb0 pb1 pb2
  rintro e w5 ⟨rfl, hb_w5⟩
  have BW_w5 := BW_w4.trans (hb_w5.mono BW_w4.size)
  have BTa_w5 := BTa_w4.trans (hb_w5.mono BTa_w4.size)
  have BTb_w5 := BTb_w4.trans (hb_w5.mono BTb_w4.size)
  have Ba_w5 := Ba_w4.trans (hb_w5.mono Ba_w4.size)
  have Bb_w5 := Bb_w4.trans (hb_w5.mono Bb_w4.size)
  rw [← hC.out]
  cases hcc : C
  case false =>
    have hD0 : D = false := by rw [hD.out]; exact same_no (hC.out.symm.trans hcc)
    subst hcc
    subst hD0
    have pa0 := ha0.out _ Ba_w5
    have pa1 := ha1.out _ Ba_w5
    have pa2 := ha2.out _ Ba_w5
    have pb0 := hb0.out _ Bb_w5
    have pb1 := hb1.out _ Bb_w5
    have pb2 := hb2.out _ Bb_w5
    go_wp2_with fail
    refine (specSameLanguage_any a b Aa Ba Ab Bb ca da cb db w5 (ta.out.later BTa_w5) (tb.out.later BTb_w5)).mono ?_
    clear pa0 pa1 pa2 pb0 pb1 pb2
    rintro e w6 ⟨rfl, hb_w6⟩
    have BW_w6 := BW_w5.trans (hb_w6.mono BW_w5.size)
    have BTa_w6 := BTa_w5.trans (hb_w6.mono BTa_w5.size)
    have BTb_w6 := BTb_w5.trans (hb_w6.mono BTb_w5.size)
    have Ba_w6 := Ba_w5.trans (hb_w6.mono Ba_w5.size)
    have Bb_w6 := Bb_w5.trans (hb_w6.mono Bb_w5.size)
    rw [← hD.out]
    go_wp2_with fail
    go_ret
    exact ⟨rfl, BW_w6⟩
  case true =>
  obtain ⟨ha1, hb1, -⟩ := cmpAu_parts (hC.out.symm.trans hcc)
  have haok : Hid (true = auOk a) := hid ha1.symm
  have hbok : Hid (true = auOk b) := hid hb1.symm
  clear ha1 hb1
  obtain ⟨p, hp⟩ : ∃ p, Hid (p = minX a) := ⟨_, hid rfl⟩
  obtain ⟨q, hq⟩ : ∃ q, Hid (q = minX b) := ⟨_, hid rfl⟩
  have hDD : (decide (p = q) == D) = true := by
    rw [hp.out, hq.out, hD.out, same_mins2 (hC.out.symm.trans hcc)]
    simp
  replace hDD := hid hDD
  obtain ⟨E, hE⟩ : ∃ E, Hid (E = decide (p = q)) := ⟨_, hid rfl⟩
  rw [← hE.out] at hDD
  have hDD' := hDD.out
  subst hcc
  clear hoo hoe
  have pa0 := ha0.out _ Ba_w5
  have pa1 := ha1.out _ Ba_w5
  have pa2 := ha2.out _ Ba_w5
  go_wp2_with fail
  have hc_x := hid (implMinimizeAutomaton_any a Aa Ba ca da w5 (ta.out.later BTa_w5))
  rw [← hp.out, ← haok.out] at hc_x
  refine hc_x.out.mono ?_
  clear hc_x
  clear pa0 pa1 pa2
  rintro e w7 ⟨hb_w7, v1, v2, xs, rfl, hau⟩
  obtain ⟨Ax, cx, Bx, dx, rfl, rfl, tx⟩ := hau.at_
  replace tx := hid tx
  clear hau
  have BW_w7 := BW_w5.trans (hb_w7.mono BW_w5.size)
  have BTa_w7 := BTa_w5.trans (hb_w7.mono BTa_w5.size)
  have BTb_w7 := BTb_w5.trans (hb_w7.mono BTb_w5.size)
  have Ba_w7 := Ba_w5.trans (hb_w7.mono Ba_w5.size)
  have Bb_w7 := Bb_w5.trans (hb_w7.mono Bb_w5.size)
  have BTx_w7 : Below w7.heap.size w7 w7 := Below.refl _ _
  go_upto_region 8 with fail
  obtain ⟨w8, hw_w8, hz_w8, hb_w8, hS_w8⟩ := boxed w7 #[.int .i64 p.al, .slice Ax p.nx.length cx, .slice Bx p.ac.length dx] 26
  rw [hw_w8]
  clear hw_w8
  have hx0 := fun w' (hb : Below w8.heap.size w8 w') => hS_w8 0 _ rfl w' (hb.mono hz_w8)
  have hx1 := fun w' (hb : Below w8.heap.size w8 w') => hS_w8 1 _ rfl w' (hb.mono hz_w8)
  have hx2 := fun w' (hb : Below w8.heap.size w8 w') => hS_w8 2 _ rfl w' (hb.mono hz_w8)
  replace hx0 := hid hx0
  replace hx1 := hid hx1
  replace hx2 := hid hx2
  clear hS_w8
  have BW_w8 := BW_w7.trans (hb_w8.mono BW_w7.size)
  have BTa_w8 := BTa_w7.trans (hb_w8.mono BTa_w7.size)
  have BTb_w8 := BTb_w7.trans (hb_w8.mono BTb_w7.size)
  have Ba_w8 := Ba_w7.trans (hb_w8.mono Ba_w7.size)
  have Bb_w8 := Bb_w7.trans (hb_w8.mono Bb_w7.size)
  have BTx_w8 := BTx_w7.trans (hb_w8.mono BTx_w7.size)
  have Bx_w8 : Below w8.heap.size w8 w8 := Below.refl _ _
  have pb0 := hb0.out _ Bb_w8
  have pb1 := hb1.out _ Bb_w8
  have pb2 := hb2.out _ Bb_w8
  go_wp2_with fail
  have hc_y := hid (implMinimizeAutomaton_any b Ab Bb cb db w8 (tb.out.later BTb_w8))
  rw [← hq.out, ← hbok.out] at hc_y
  refine hc_y.out.mono ?_
  clear hc_y
  clear pb0 pb1 pb2
  rintro e w9 ⟨hb_w9, v1, v2, xs, rfl, hau⟩
  obtain ⟨Ay, cy, By, dy, rfl, rfl, ty⟩ := hau.at_
  replace ty := hid ty
  clear hau
  have BW_w9 := BW_w8.trans (hb_w9.mono BW_w8.size)
  have BTa_w9 := BTa_w8.trans (hb_w9.mono BTa_w8.size)
  have BTb_w9 := BTb_w8.trans (hb_w9.mono BTb_w8.size)
  have Ba_w9 := Ba_w8.trans (hb_w9.mono Ba_w8.size)
  have Bb_w9 := Bb_w8.trans (hb_w9.mono Bb_w8.size)
  have BTx_w9 := BTx_w8.trans (hb_w9.mono BTx_w8.size)
  have Bx_w9 := Bx_w8.trans (hb_w9.mono Bx_w8.size)
  have BTy_w9 : Below w9.heap.size w9 w9 := Below.refl _ _
  go_upto_region 9 with fail
  obtain ⟨w10, hw_w10, hz_w10, hb_w10, hS_w10⟩ := boxed w9 #[.int .i64 q.al, .slice Ay q.nx.length cy, .slice By q.ac.length dy] 26
  rw [hw_w10]
  clear hw_w10
  have hy0 := fun w' (hb : Below w10.heap.size w10 w') => hS_w10 0 _ rfl w' (hb.mono hz_w10)
  have hy1 := fun w' (hb : Below w10.heap.size w10 w') => hS_w10 1 _ rfl w' (hb.mono hz_w10)
  have hy2 := fun w' (hb : Below w10.heap.size w10 w') => hS_w10 2 _ rfl w' (hb.mono hz_w10)
  replace hy0 := hid hy0
  replace hy1 := hid hy1
  replace hy2 := hid hy2
  clear hS_w10
  have BW_w10 := BW_w9.trans (hb_w10.mono BW_w9.size)
  have BTa_w10 := BTa_w9.trans (hb_w10.mono BTa_w9.size)
  have BTb_w10 := BTb_w9.trans (hb_w10.mono BTb_w9.size)
  have Ba_w10 := Ba_w9.trans (hb_w10.mono Ba_w9.size)
  have Bb_w10 := Bb_w9.trans (hb_w10.mono Bb_w9.size)
  have BTx_w10 := BTx_w9.trans (hb_w10.mono BTx_w9.size)
  have Bx_w10 := Bx_w9.trans (hb_w10.mono Bx_w9.size)
  have BTy_w10 := BTy_w9.trans (hb_w10.mono BTy_w9.size)
  have By_w10 : Below w10.heap.size w10 w10 := Below.refl _ _
  have px0 := hx0.out _ Bx_w10
  have px1 := hx1.out _ Bx_w10
  have px2 := hx2.out _ Bx_w10
  have py0 := hy0.out _ By_w10
  have py1 := hy1.out _ By_w10
  have py2 := hy2.out _ By_w10
  go_wp2_with fail
  refine (agAutomata_any p q Ax Bx Ay By cx dx cy dy w10 (tx.out.later BTx_w10) (ty.out.later BTy_w10)).mono ?_
  clear px0 px1 px2 py0 py1 py2
  rintro e w11 ⟨rfl, hb_w11⟩
  have BW_w11 := BW_w10.trans (hb_w11.mono BW_w10.size)
  have BTa_w11 := BTa_w10.trans (hb_w11.mono BTa_w10.size)
  have BTb_w11 := BTb_w10.trans (hb_w11.mono BTb_w10.size)
  have Ba_w11 := Ba_w10.trans (hb_w11.mono Ba_w10.size)
  have Bb_w11 := Bb_w10.trans (hb_w11.mono Bb_w10.size)
  have BTx_w11 := BTx_w10.trans (hb_w11.mono BTx_w10.size)
  have Bx_w11 := Bx_w10.trans (hb_w11.mono Bx_w10.size)
  have BTy_w11 := BTy_w10.trans (hb_w11.mono BTy_w10.size)
  have By_w11 := By_w10.trans (hb_w11.mono By_w10.size)
  rw [← hE.out]
  go_wp2_with fail
  go_ret
  exact ⟨by first | rfl | (rw [hDD']), BW_w11⟩

end Go.Proofs.YtjhlbeamfngebaaDoor

/- How a slice of edges, a system, a slice of systems read as data: opened to cells. -/
namespace AG
open Go Go.RowKit Go.ChangeShapes Go.WideShapes Go.Deep

section
variable {H : Type} {enc : TypeId × Value → H} {P : Program} {w : World} {base : Nat} {spare : Nat → Bool} {held : Bool}
theorem add_at (b o n : Nat) : (⟨b, o, none⟩ : Addr).add n = ⟨b, o + n, none⟩ := by
  unfold Addr.add
  split
  · subst_vars; rfl
  · rfl

end

section
variable {H : Type} {enc : TypeId × Value → H} {P : Program}
/-- An argument reads behind the call as it did. -/
theorem trod_later {t : TypeId} (hl : laidOutB P = true) (hr : P.readableRec t = true) (hrow : t < P.types.size) {W W' : World} {v : Value} {d : DataW H} {ps : List MemPlace} {sp : Nat → Bool}
    (h : DataW.Trod enc P W 0 (fun _ => true) true t v d ps) (hb : Below W.heap.size W W') (hlt : ∀ x ∈ ps, x.block < W.heap.size) (hsp : ∀ x ∈ ps, sp x.block = true) : DataW.Trod enc P W' 0 sp true t v d ps :=
  WideElems.Trod_stays hl hr hrow h (fun x hx => hb.same (hlt x hx)) hsp
/-- The row's last step where of the world behind the call 'Below' is known. -/
theorem post_of_below {f : Func} {s : ChangeSpec} {apart fresh handsOn again : Bool} {W W' : World} {args : Array Value} {v : Value} {ds gs : List (DataW H)} {before pa pv : List MemPlace}
    (hW : DataW.Whole enc P f.params.toList s.vars apart W args.toList ds gs before)
    (hres : ∀ (b : Nat) (sp : Nat → Bool) (hd : Bool), DataW.TrodAll enc P W' b sp hd f.resultTypes.toList (v.resultList f.resultTypes.size) (s.fn H (ds ++ gs)).results [])
    (hargs : ∀ sp : Nat → Bool, (∀ p ∈ before, sp p.block = true) → DataW.TrodAll enc P W' 0 sp true f.params.toList args.toList (s.fn H (ds ++ gs)).args pa)
    (hvars : ∀ sp : Nat → Bool, (∀ p ∈ before, sp p.block = true) → DataW.TrodVars enc P W' sp s.vars (s.fn H (ds ++ gs)).vars pv)
    (hps : before = pa ++ pv) (hb : Below W.heap.size W W')
    (hok : ∀ (j : Nat) (t : TypeId) (r : Value), f.resultTypes[j]? = some t → (v.resultList f.resultTypes.size)[j]? = some r → Value.okWide P W' .any 0 t r) :
    s.post enc P f apart fresh handsOn again W args v W' := by
  have hlt : ∀ p ∈ before, p.block < W.heap.size := fun p hp => hW.lt p hp
  have hold : ∀ p ∈ before, (fun b => decide (b < W.heap.size)) p.block = true := fun p hp => by simpa using hlt p hp
  refine ⟨ds, gs, before, [], pa, pv, hW, hres _ _ _, hargs _ hold, hvars _ hold, World.keptBut_mono (fun p hp => ⟨hp, ?_⟩) (hb.frame (· ∈ before)), fun _ => ?_⟩
  · rw [hps, List.mem_append] at hp
    exact Or.inr hp
  · obtain ⟨_, _, _, _, _, hz, hn⟩ := hW
    refine ⟨hok, _, _, ([] ++ pa) ++ pv, ⟨[] ++ pa, pv, trodAll_append (hargs _ (fun _ _ => rfl)) (hres _ _ _), hvars _ (fun _ _ => rfl), rfl, ?_, ?_⟩, ?_⟩
    · intro b off hp
      have hin : MemPlace.cell b off ∈ before := by rw [hps]; simpa using hp
      rw [hb.frozen (hlt _ hin)]
      exact hz b off hin
    · intro ha
      have := hn ha
      rw [hps] at this
      simpa using this
    · intro p hp _
      rw [hps]
      simpa using hp
end
end AG

/- A slice of bytes that came in. -/
namespace Go.Proofs.YtjhlbeamfngebaaDoor
open Go.RowKit Go.ChangeShapes Go.WideShapes AG

theorem cells_u8 : Tryd.prog.cellsOf 5 = 1 := by kernel_rfl

theorem open_code {H : Type} {enc : TypeId × Value → H} {W : World} {A : Option Addr} {n c fuel : Nat} {x : DataW H × List MemPlace} (h : DataW.trod enc Tryd.prog W 0 (fun _ => true) true fuel 22 [.slice A n c] = some x) :
    n ≤ c ∧ c ≤ 9223372036854775807 ∧ CodeAt W A n := by
  rcases open_ints Tryd.underlying22 Tryd.underlying5 cells_u8 h with ⟨hcs, _⟩ | ⟨a, len, cap, zs, hcs, _, hl, hm, hz, _, hcell, hwf⟩
  · simp only [List.cons.injEq, Value.slice.injEq, and_true] at hcs
    obtain ⟨rfl, rfl, rfl⟩ := hcs
    exact ⟨Nat.le_refl _, by omega, fun h => by omega⟩
  · simp only [List.cons.injEq, Value.slice.injEq, and_true] at hcs
    obtain ⟨rfl, rfl, rfl⟩ := hcs
    unfold maxLen at hm
    simp only [if_true] at hz
    refine ⟨hl, by omega, fun hn => ?_⟩
    obtain ⟨b, o, sp⟩ := a
    have hsp : sp = none := by simpa [Addr.add] using World.cell?_spot (hcell 0 (by omega))
    subst hsp
    refine ⟨b, o, rfl, World.block_lt_of_cell? _ _ (by simpa [Addr.add] using hcell 0 (by omega)), fun i hi => ?_⟩
    have h1 := hcell i (by omega)
    rw [add_at] at h1
    have hmem : zs.getD i 0 ∈ zs := by
      have : i < zs.length := by omega
      rw [List.getD_eq_getElem?_getD, List.getElem?_eq_getElem this]
      exact List.getElem_mem _
    have h2 := hwf _ hmem
    have h3 : 0 ≤ zs.getD i 0 ∧ zs.getD i 0 < 256 := by
      have h4 : IntKind.u8.min ≤ zs.getD i 0 ∧ zs.getD i 0 ≤ IntKind.u8.max := by simpa [Lit.wf] using h2
      have e1 : IntKind.u8.min = 0 := by decide
      have e2 : IntKind.u8.max = 255 := by decide
      omega
    obtain ⟨y, hy⟩ := Int.eq_ofNat_of_zero_le h3.1
    rw [hy] at h1
    exact ⟨y, by omega, h1⟩

end Go.Proofs.YtjhlbeamfngebaaDoor

/- Closed facts on the whole program, each a lemma of its own: the rows of all laws of the seat use them. -/
namespace Go.Proofs.YtjhlbeamfngebaaDoor
open Go.ChangeShapes Go.WideShapes Go.ChangeAt Go.RowKit AG
theorem and2 {a b : Bool} (h : a = true) (k : b = true) : (a && b) = true := by rw [h, k]; rfl
theorem whLaid : laidOutB Tryd.prog = true := by kernel_rfl
theorem whRowed : mapsRowed Tryd.prog = true := by kernel_rfl
theorem whHeard : Tryd.prog.stopsHeard = true := by kernel_rfl
theorem whMay : Tryd.prog.mayEnter = true := by kernel_rfl
theorem whLift : Tryd.prog.liftsFinal = false := by kernel_rfl
theorem whMake : (Tryd.prog.make == some Rows.fnDeadlockLeastRow.make) = true := by kernel_rfl
theorem whMain : Tryd.prog.mainIs = some (Rows.fnDeadlockLeastCard.stood.harness.1, Rows.fnDeadlockLeastCard.stood.harness.2.toList) := by kernel_rfl
theorem whLooks : false = Tryd.prog.looks [] := by kernel_rfl
end Go.Proofs.YtjhlbeamfngebaaDoor
