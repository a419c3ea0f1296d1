/- Lemmas, part 8: several texts in one. -/
import Derived.Test.YtjhlbeamfngebaaDoorZ7
import Derived.Test.YtjhlbeamfngebaaDoorZ4
import Derived.Test.YtjhlbeamfngebaaDoorZ3
import Derived.Test.YtjhlbeamfngebaaDoorZ2
import Derived.Test.YtjhlbeamfngebaaDoorZ1
import Derived.ProofKit
import Derived.Deep.Slices
import Derived.Deep.Fields
import Derived.ChangeSame
import Derived.Test.YtjhlbeamfngebaaDoorZ5
import Derived.ChangeSlices
import Derived.BigRegion
import Derived.Laws.IdiomStrings
import Derived.Laws.BytesString
import Derived.Maps.AppendAt
import Derived.Deep.Quiet
set_option linter.unusedSimpArgs false
set_option linter.unusedVariables false

/- The reference's l4First. -/
namespace Go.Proofs.YtjhlbeamfngebaaDoor
open Go.RowKit Go.BigFrame AG

theorem prodT_past {ss : List Nat} : ∀ j, prodT ss (ss.length + j) = prodT ss ss.length
  | 0 => rfl
  | j + 1 => by
    rw [← Nat.add_assoc, prodT, prodT_past j, List.getD_eq_getElem?_getD, List.getElem?_eq_none (by omega), Option.getD_none, Nat.mul_one]
theorem prodT_4096 {ss : List Nat} (h3 : ss.length ≤ 3) (hs : ∀ a ∈ ss, a ≤ 16) (k : Nat) : prodT ss k ≤ 4096 := by
  have key : ∀ k, k ≤ 3 → prodT ss k ≤ 4096 := fun k hk => Nat.le_trans (prodT_le hs (by decide) k) (Nat.le_trans (Nat.pow_le_pow_right (by decide) hk) (by decide))
  by_cases h : k ≤ ss.length
  · exact key k (by omega)
  · have := prodT_past (ss := ss) (k - ss.length)
    rw [show ss.length + (k - ss.length) = k from by omega] at this
    rw [this]
    exact key _ h3
theorem encK_lt {ss qs : List Nat} (hl : qs.length = ss.length) (hq : ∀ i, i < ss.length → qs.getD i 0 < ss.getD i 1) : ∀ k, encK ss qs k < prodT ss k
  | 0 => Nat.zero_lt_one
  | k + 1 => by
    have h1 := encK_lt hl hq k
    have h2 : qs.getD k 0 < ss.getD k 1 := by
      by_cases h : k < ss.length
      · exact hq k h
      · rw [List.getD_eq_getElem?_getD, List.getD_eq_getElem?_getD, List.getElem?_eq_none (by omega), List.getElem?_eq_none (by omega)]
        exact Nat.zero_lt_one
    rw [encK, prodT]
    have h3 : (encK ss qs k + 1) * ss.getD k 1 ≤ prodT ss k * ss.getD k 1 := Nat.mul_le_mul_right _ h1
    rw [Nat.add_mul] at h3
    omega

/-- What the search asks of a product, with its sizes and its goals. -/
structure SrchNet (w0 : World) (nv : Value) (lt : Int) (ss : List Nat) (ch : Nat → Nat → Nat → List Nat) (fd : Nat → Bool) : Prop where
  net : NetOk w0 nv ss ch
  sizes : ∀ w', Below w0.heap.size w0 w' → Calls Tryd.prog 130 #[nv] w' fun e w'' => ∃ v, e = .returned v ∧ OwnNats w'' w'.heap.size v ss ∧ Below w'.heap.size w' w''
  found : ∀ w' n A c B d, Below w0.heap.size w0 w' → n < prodL ss → ss.length ≤ c → c ≤ 9223372036854775807 → (letters lt).length ≤ d → d ≤ 9223372036854775807 → NatsAt w' w'.heap.size A (decS ss n) → Tab2 w' w'.heap.size B (movT ss ch (letters lt) n) →
    Calls Tryd.prog 132 #[nv, .slice A ss.length c, .slice B (letters lt).length d] w' fun e w'' => e = .returned (.bool (fd n)) ∧ Below w'.heap.size w' w''

set_option maxRecDepth 100000 in
set_option maxHeartbeats 16000000 in
theorem l4First_any (c0 c1 : Value) (lt kd gl : Int) (ss qs : List Nat) (ch : Nat → Nat → Nat → List Nat) (fd : Nat → Bool) (AS : Option Addr) (cS : Nat) (w : World) (hS : SrchNet w (netV c0 c1 (.slice AS qs.length cS) lt kd gl) lt ss ch fd)
    (hql : qs.length = ss.length) (hqd : qs.length ≤ cS) (hcS : cS ≤ 9223372036854775807) (hq : ∀ i, i < ss.length → qs.getD i 0 < ss.getD i 1) (hr2 : NatsAt w w.heap.size AS qs) :
    Calls Tryd.prog 74 #[netV c0 c1 (.slice AS qs.length cS) lt kd gl] w fun e w' => ∃ o, e = .returned (pathV o) ∧ PathPost (fun m => m ∈ [encK ss qs ss.length]) (letters lt) (nxN ss ch) (fun n => fd n = true) o ∧ Below w.heap.size w w' := by
  obtain ⟨i0, hi, hz0', hz1, hz2⟩ := info_parts infoInt
  have hlen3 := hS.net.len3
  have hs1 : Hid (∀ a ∈ ss, 1 ≤ a) := hid fun a ha => (hS.net.size a ha).1
  have hs16 : Hid (∀ a ∈ ss, a ≤ 16) := hid fun a ha => (hS.net.size a ha).2
  have hpT := hid (prodT_4096 hlen3 hs16.out)
  have hpL : Hid (prodT ss ss.length = prodL ss) := hid (prodT_all ss)
  have hp1 : 1 ≤ prodL ss := prodL_pos hs1.out
  have hpl : prodL ss ≤ 4096 := by rw [← hpL.out]; exact hpT.out _
  have heL := hid (encK_lt hql hq)
  have hchlt := hid hS.net.chlt
  obtain ⟨w0, hw0, hzz0, hB0, hSb⟩ := boxed w #[c0, c1, .slice AS qs.length cS, .int .i64 lt, .int .i64 kd, .int .i64 gl] 93
  have hNet := hid (show SrchNet w0 (netV c0 c1 (.slice AS qs.length cS) lt kd gl) lt ss ch fd from ⟨hS.net.later hB0, fun w' hb => hS.sizes w' (hB0.trans (hb.mono hB0.size)), fun w' n A c B d hb => hS.found w' n A c B d (hB0.trans (hb.mono hB0.size))⟩)
  have hr20 := hid (hr2.later hB0)
  have hSp := hid (fun w' (hb : Below w0.heap.size w0 w') => And.intro (And.intro (hSb 0 _ rfl w' (hb.mono hzz0)) (And.intro (hSb 1 _ rfl w' (hb.mono hzz0)) (hSb 2 _ rfl w' (hb.mono hzz0)))) (And.intro (hSb 3 _ rfl w' (hb.mono hzz0)) (And.intro (hSb 4 _ rfl w' (hb.mono hzz0)) (hSb 5 _ rfl w' (hb.mono hzz0)))))
  have hmk := fun W => run_make_rowN (P := Tryd.prog) 72 3 i0 _ Tryd.underlying72 hi hz0' .i64 .i64 (prodL ss) (prodL ss) (Nat.le_refl _) (by rw [hz2]; omega) (by omega) W
  rw [hz1] at hmk
  clear hS hSb hz1 hz0' hz2 hi
  replace hr2 := hid hr2
  replace hq := hid hq
  obtain ⟨N, hN⟩ : ∃ N, Hid (N = prodL ss) := ⟨_, hid rfl⟩
  rw [← hN.out] at hmk hp1 hpl hpL
  obtain ⟨L, hL⟩ : ∃ L, Hid (L = letters lt) := ⟨_, hid rfl⟩
  have hL6 : L.length ≤ 6 := by rw [hL.out]; exact letters_len6 lt
  have hlL : Hid (∀ l ∈ L, l < 6) := hid fun l hl => by rw [hL.out] at hl; exact (letters_lt hl).1
  have hLs : Hid (L.Pairwise (· < ·)) := hid (by rw [hL.out]; exact letters_sorted lt)
  obtain ⟨nx, hnx⟩ : ∃ nx, Hid (nx = nxN ss ch) := ⟨_, hid rfl⟩
  have hlt : Hid (∀ n, n < N → ∀ l ∈ L, ∀ m ∈ nx n l, m < N) := hid fun n _ l _ m hm => by
    rw [hnx.out] at hm
    rw [hN.out]
    exact nxN_lt hs1.out hchlt.out n l m hm
  rw [← hL.out, ← hnx.out]
  obtain ⟨s, hs⟩ : ∃ s, Hid (s = encK ss qs ss.length) := ⟨_, hid rfl⟩
  have hsN : s < N := by rw [hs.out, ← hpL.out]; exact heL.out _
  rw [← hs.out]
  have nvw : netV c0 c1 (.slice AS qs.length cS) lt kd gl = .agg #[c0, c1, .slice AS qs.length cS, .int .i64 lt, .int .i64 kd, .int .i64 gl] := rfl
  have hfnd : Hid (∀ w' n A c B d, Below w0.heap.size w0 w' → n < N → ss.length ≤ c → c ≤ 9223372036854775807 → L.length ≤ d → d ≤ 9223372036854775807 → NatsAt w' w'.heap.size A (decS ss n) → Tab2 w' w'.heap.size B (L.map fun l => nx n l) →
    Calls Tryd.prog 132 #[netV c0 c1 (.slice AS qs.length cS) lt kd gl, .slice A ss.length c, .slice B L.length d] w' fun e w'' => e = .returned (.bool (fd n)) ∧ Below w'.heap.size w' w'') := hid (by
      rw [hL.out, hnx.out, hN.out]
      exact hNet.out.found)
  have hqs1k : Hid (∀ a ∈ qs, a ≤ 1000) := hid fun a ha => by
    obtain ⟨i, hi, rfl⟩ := List.mem_iff_getElem.1 ha
    have h1 := hq.out i (by omega)
    rw [getD_at1 hi, getD_at1 (show i < ss.length by omega)] at h1
    have h2 := hs16.out _ (List.getElem_mem (show i < ss.length by omega))
    omega
  rw [nvw] at hNet hfnd ⊢
  replace hql := hid hql
  clear nvw
  go_enter Tryd.func74, Tryd.ntmps74
  go_upto_region 1 with fail
  obtain ⟨⟨p0, p1, p2⟩, p3, p4, p5⟩ := hSp.out w0 (Below.refl _ _)
  go_wp2_with fail
  clear hw0
  refine (hNet.out.sizes w0 (Below.refl _ _)).mono ?_
  rintro e w1 ⟨vS, rfl, hoS, hb1⟩
  obtain ⟨A1, k1, rfl, hk1, hk1', hS1⟩ := OwnNats.read hoS
  have hS1' := hid hS1
  clear hoS hS1 p0 p1 p2 p3 p4 p5
  go_wp2_with fail
  go_loopw [5, 6] (fun tv iv wr => ∃ i t : Nat, tv = .int .i64 (t : Nat) ∧ iv = .int .i64 (i : Nat) ∧ i ≤ ss.length ∧ t = prodT ss i ∧ w1 = wr) (fun _ iv _ => ss.length - (intOf iv).toNat)
  case atStart => exact ⟨0, 1, rfl, rfl, Nat.zero_le _, rfl, by first | rfl | trivial⟩
  case round =>
    obtain ⟨i, t, rfl, rfl, hi1, ht, rfl⟩ := hrel
    by_cases hil : i < ss.length
    · obtain ⟨b, o, hAe, hbb, hE⟩ := hS1'.out (by omega)
      subst hAe
      have a0 := hE i hil
      obtain ⟨a, ha⟩ : ∃ a, Hid (a = ss[i]) := ⟨_, hid rfl⟩
      rw [← ha.out] at a0
      have hal : a ≤ 16 := by rw [ha.out]; exact hs16.out _ (List.getElem_mem _)
      have htl : t ≤ 4096 := by rw [ht]; exact hpT.out i
      have hk : (0 : Int) ≤ (i : Int) ∧ (i : Int) < (ss.length : Int) := by omega
      obtain ⟨P, hP⟩ : ∃ P, Hid (P = t * a) := ⟨_, hid rfl⟩
      have hPl : P ≤ 65536 := by rw [hP.out]; exact Nat.le_trans (Nat.mul_le_mul htl hal) (by decide)
      have e5 : wrap64 ((t : Int) * (a : Int)) = (P : Int) := by rw [← Int.natCast_mul, ← hP.out]; exact IntWalk.wrap64_in _ ⟨by omega, by omega⟩
      have hnxt : Hid (P = prodT ss (i + 1)) := hid (by rw [hP.out, prodT, ← ht, ha.out, getD_at1 hil])
      replace ht := hid ht
      replace hE := hid hE
      have hi2 : i + 1 ≤ ss.length := hil
      clear hPl hal htl
      go_wp2_with fail
      go_roundw
      case rel => exact ⟨i + 1, P, by rw [e5], by go_num, hi2, hnxt.out, by first | rfl | trivial⟩
      case measure => simp [intOf]; omega
    · obtain rfl : i = ss.length := by omega
      rw [hpL.out] at ht
      subst t
      obtain ⟨⟨p0, p1, p2⟩, p3, p4, p5⟩ := hSp.out w1 hb1
      go_wp2_with fail
      refine (l4Moves_any c0 c1 (.slice AS qs.length cS) lt kd gl ss ch A1 k1 N w1 (hNet.out.net.later hb1) hpl hk1 hk1' hS1'.out).mono ?_
      rintro e w2 ⟨AT, cT, rfl, hcT, hcT', hTab, hb2⟩
      rw [← hL.out] at hTab
      have hTab' : Hid (Tab3 w2 w2.heap.size AT ((List.range N).map fun n => L.map fun l => nx n l)) := hid (by rw [hnx.out]; exact hTab)
      have hB2 := hb1.trans (hb2.mono hb1.size)
      clear p0 p1 p2 p3 p4 p5 hTab
      go_upto_region 9 with fail
      obtain ⟨w3, hw3⟩ : ∃ w3, w2.alloc (.cells (madeCells #[Value.int IntKind.i64 0] N) 3) = w3 := ⟨_, rfl⟩
      obtain ⟨g, hg⟩ : ∃ g, Hid (g = w2.heap.size) := ⟨_, hid rfl⟩
      have hblk3 : Blk w3 g 3 (madeCells #[Value.int IntKind.i64 0] N) := by rw [← hw3, hg.out]; exact Blk.new _ _ _
      have hb3 : Below w2.heap.size w2 w3 := by rw [← hw3]; exact (Below.refl _ _).alloc (Nat.le_refl _) _
      have hsz3 : (madeCells #[Value.int IntKind.i64 0] N).size = N := by simp [madeCells]
      rw [hw3, ← hg.out]
      have hblk3' := hid hblk3
      replace hsz3 := hid hsz3
      clear hw3 hmk hblk3
      generalize madeCells #[Value.int IntKind.i64 0] N = cs0 at hblk3' hsz3
      go_wp2_with fail
      go_loopw [9] (fun iv wr => ∃ (n : Nat) (cs : Array Value), iv = .int .i64 (n : Nat) ∧ n ≤ N ∧ Blk wr g 3 cs ∧ cs.size = N ∧ (∀ p, p < n → cs[p]? = some (.int .i64 (encD (lay L nx fd 0 p)))) ∧ KeepB (fun b => b = g) w3 wr) (fun iv _ => N - (intOf iv).toNat)
      case atStart => exact ⟨0, cs0, rfl, Nat.zero_le _, hblk3'.out, hsz3.out, fun p hp => absurd hp (Nat.not_lt_zero _), KeepB.refl _ _⟩
      case round =>
        clear hblk3' hsz3
        obtain ⟨n, cs, rfl, hn1, hblk, hsz, hcs, hkp⟩ := hrel
        have hB23 : Below w2.heap.size w2 wr := hkp.below hb3 hb3.size (fun k (e : k = g) => by rw [e, hg.out]; exact Nat.le_refl _)
        have hBr := hB2.trans (hB23.mono hB2.size)
        by_cases hnN : n < N
        · have f0 := hblk.frozen n
          obtain ⟨v0, d0⟩ := hblk.some_ (i := n) (by omega)
          have k2 : (0 : Int) ≤ (n : Int) ∧ (n : Int) < (N : Int) := by omega
          have hblk' := hid hblk
          have hkp' := hid hkp
          replace hsz := hid hsz
          replace hcs := hid hcs
          clear hblk hkp
          go_upto_region 13 with fail
          obtain ⟨w4, hw4⟩ : ∃ w4, wr.setCell ⟨g, n, none⟩ (.int .i64 (-1)) = w4 := ⟨_, rfl⟩
          have hblk4 : Hid (Blk w4 g 3 (cs.setIfInBounds n (.int .i64 (-1)))) := hid (by rw [← hw4]; exact hblk'.out.set_ _ _)
          have hkp4 : Hid (KeepB (fun b => b = g) w3 w4) := hid (by rw [← hw4]; exact hkp'.out.setCell _ _ fun _ => rfl)
          rw [hw4]
          have hB24 : Below w2.heap.size w2 w4 := hkp4.out.below hb3 hb3.size (fun k (e : k = g) => by rw [e, hg.out]; exact Nat.le_refl _)
          have hB4 := hB2.trans (hB24.mono hB2.size)
          have hS4 := hid (hS1'.out.later ((hb2.trans (hB24.mono hb2.size))))
          obtain ⟨bM, oM, rs, Ai, ci, hMe, hbM, hrs, r0, h1, h2, h3⟩ := (hTab'.out.later hB24).get (i := n) (by simpa using hnN)
          subst hMe
          have hrs' : Hid (rs = L.map fun l => nx n l) := hid (by rw [hrs.out]; simp)
          have hrl : rs.length = L.length := by rw [hrs'.out, List.length_map]
          rw [hrl] at r0 h1
          replace h3 : Hid (Tab2 w4 w4.heap.size Ai (L.map fun l => nx n l)) := hid (by rw [← hrs'.out]; exact h3.out)
          clear hrs hrs' hrl
          obtain ⟨⟨p0, p1, p2⟩, p3, p4, p5⟩ := hSp.out w4 hB4
          have hlw : w.heap.size < w4.heap.size := by have := hB4.size; omega
          have y0 : ∀ x', (Fam w4.heap.size w4 x').cell? ⟨w.heap.size, 0, none⟩ = some c0 := fun x' => by rw [(Fam.below w4.heap.size w4 x').cell (by simpa using hlw)]; exact p0
          have y1 : ∀ x', (Fam w4.heap.size w4 x').cell? ⟨w.heap.size, 1, none⟩ = some c1 := fun x' => by rw [(Fam.below w4.heap.size w4 x').cell (by simpa using hlw)]; exact p1
          have y2 : ∀ x', (Fam w4.heap.size w4 x').cell? ⟨w.heap.size, 2, none⟩ = some (.slice AS qs.length cS) := fun x' => by rw [(Fam.below w4.heap.size w4 x').cell (by simpa using hlw)]; exact p2
          have y3 : ∀ x', (Fam w4.heap.size w4 x').cell? ⟨w.heap.size, 3, none⟩ = some (.int .i64 lt) := fun x' => by rw [(Fam.below w4.heap.size w4 x').cell (by simpa using hlw)]; exact p3
          have y4 : ∀ x', (Fam w4.heap.size w4 x').cell? ⟨w.heap.size, 4, none⟩ = some (.int .i64 kd) := fun x' => by rw [(Fam.below w4.heap.size w4 x').cell (by simpa using hlw)]; exact p4
          have y5 : ∀ x', (Fam w4.heap.size w4 x').cell? ⟨w.heap.size, 5, none⟩ = some (.int .i64 gl) := fun x' => by rw [(Fam.below w4.heap.size w4 x').cell (by simpa using hlw)]; exact p5
          have y6 : ∀ x', (Fam w4.heap.size w4 x').cell? ⟨bM, oM + n, none⟩ = some (.slice Ai L.length ci) := fun x' => by rw [(Fam.below w4.heap.size w4 x').cell (by simpa using hbM)]; exact r0
          obtain ⟨v, hv⟩ : ∃ v, Hid (v = fd n) := ⟨_, hid rfl⟩
          clear p0 p1 p2 p3 p4 p5 r0 d0 f0 hw4
          refine wp_region_grow 9 w4.heap.size w4 (fun i u w' => if i = 3 then ∃ A c, u = .slice A ss.length c ∧ ss.length ≤ c ∧ c ≤ 9223372036854775807 ∧ NatsAt w' w'.heap.size A (decS ss n) else u = .bool v) (by kernel_rfl) (by kernel_rfl) (Nat.le_refl _) (Below.refl _ _) ?_
          simp only [List.take_succ_cons, List.take_zero, List.drop_succ_cons, List.drop_zero]
          (repeat (refine grow_quiet (by rfl) (by rfl) (by rfl) ?_; intro K hK; go_big_quiet_op; go_big_quiet_on))
          refine grow_call (by rfl) (by rfl) (fun u v v' hb h => ?_) (fun wq hbq _ => ?_) fun u hu => ?_
          · obtain ⟨A, c, e, h1, h2, h⟩ := h
            exact ⟨A, c, e, h1, h2, h.later hb⟩
          · go_simp
            refine ⟨rfl, (l4Decode_any ss A1 k1 n wq hs1.out hlen3 (by omega) hk1 hk1' (hS4.out.later hbq)).mono ?_⟩
            rintro e w5 ⟨v, rfl, ho, hb5⟩
            obtain ⟨A, c, rfl, h1, h2, h3⟩ := OwnNats.read ho
            refine ⟨_, rfl, hb5, A, c, ?_, by rw [← decS_len ss n]; exact h1, h2, h3⟩
            rw [decS_len]
          obtain ⟨wx, -, A5, c5, rfl, -, -, -⟩ := hu
          simp only [Act.put, List.setIfInBounds_toArray, List.set_cons_zero, List.set_cons_succ]
          (repeat (refine grow_quiet (by rfl) (by rfl) (by rfl) ?_; intro K hK; go_big_quiet_op; go_big_quiet_on))
          refine grow_val (.bool v) (by rfl) (by rfl) rfl (fun wq hbq hfx => ?_) ?_
          · obtain ⟨A6, c6, e3, h4, h5, h6⟩ := hfx _ List.mem_cons_self (by kernel_rfl)
            cases e3
            have h6' := hid h6
            clear h6 hfx
            go_simp
            refine ⟨rfl, (hfnd.out wq n A5 c5 Ai ci (hB4.trans (hbq.mono hB4.size)) hnN h4 h5 h1 h2 h6'.out (h3.out.later hbq)).mono ?_⟩
            rintro e w6 ⟨rfl, hb6⟩
            exact ⟨by rw [hv.out], hb6⟩
          simp only [Act.put, List.setIfInBounds_toArray, List.set_cons_zero, List.set_cons_succ]
          (repeat (refine grow_quiet (by rfl) (by rfl) (by rfl) ?_; intro K hK; go_big_quiet_op; go_big_quiet_on))
          refine grow_nil ?_
          intro w7 hb7 hf
          clear hf y0 y1 y2 y3 y4 y5 y6
          have hblk7 := hblk4.out.below hb7 hblk4.out.lt
          have hkp7 : KeepB (fun b => b = g) w3 w7 := hkp4.out.trans (.of_below hb7)
          have hlay : Hid (lay L nx fd 0 n = if v = true then some 0 else none) := hid (by rw [hv.out]; rfl)
          have f0 := hblk7.frozen n
          obtain ⟨v0, d0⟩ := hblk7.some_ (i := n) (by simpa using (by have := hsz.out; omega : n < cs.size))
          have hblk7' := hid hblk7
          have hkp7' := hid hkp7
          clear hblk7 hkp7
          cases v with
          | true =>
            go_wp2_with fail
            go_roundw
            case rel =>
              refine ⟨n + 1, _, by go_num, by omega, hblk7'.out.set_ _ _, by simpa using hsz.out, fun p hp => ?_, hkp7'.out.setCell _ _ fun _ => rfl⟩
              by_cases e : p = n
              · subst e
                rw [Array.getElem?_setIfInBounds_self_of_lt (by simpa using (by have := hsz.out; omega : p < cs.size)), hlay.out, if_pos rfl]
                rfl
              · rw [Array.getElem?_setIfInBounds_ne (Ne.symm e), Array.getElem?_setIfInBounds_ne (Ne.symm e)]
                exact hcs.out p (by omega)
            case measure => simp [intOf]; omega
          | false =>
            go_wp2_with fail
            go_roundw
            case rel =>
              refine ⟨n + 1, _, by go_num, by omega, hblk7'.out, by simpa using hsz.out, fun p hp => ?_, hkp7'.out⟩
              by_cases e : p = n
              · subst e
                rw [Array.getElem?_setIfInBounds_self_of_lt (by have := hsz.out; omega), hlay.out, if_neg (by intro h; cases h)]
                rfl
              · rw [Array.getElem?_setIfInBounds_ne (Ne.symm e)]
                exact hcs.out p (by omega)
            case measure => simp [intOf]; omega
        · obtain rfl : n = N := by omega
          have hdist : Hid (DistAt wr g n (lay L nx fd 0) cs) := hid ⟨hblk, hsz, hcs⟩
          have hkp' := hid hkp
          clear hblk hsz hcs hkp hn1 hnN
          go_wp2_with fail
          refine (l4Dist_any L nx fd AT cT g n cs w2 wr hcT hcT' hpl hB23 (by rw [hg.out]; exact Nat.le_refl _) hTab'.out hL6 hlt.out hdist.out).mono ?_
          rintro e w5 ⟨D, cs5, rfl, hst, hDn, hda, hk5⟩
          have hB25 : Below w2.heap.size w2 w5 := hk5.below hB23 hB23.size (fun k (e : k = g) => by rw [e, hg.out]; exact Nat.le_refl _)
          have hB5 := hB2.trans (hB25.mono hB2.size)
          have hda' := hid hda
          have hst' := hid hst
          obtain ⟨⟨p0, p1, p2⟩, p3, p4, p5⟩ := hSp.out w5 hB5
          clear hdist hda hst hk5
          go_wp2_with fail
          refine (l4Encode_any ss qs A1 AS k1 cS w5 (fun a ha => by have := hs16.out a ha; omega) hqs1k.out (fun k => by have h1 := heL.out k; have h2 := hpT.out k; omega) hql.out hk1 hk1' hqd hcS (hS1'.out.later (hb2.trans (hB25.mono hb2.size))) (hr20.out.later hB5)).mono ?_
          rintro e w6 ⟨rfl, hb6⟩
          rw [← hs.out]
          have hB6 := hB5.trans (hb6.mono hB5.size)
          clear p0 p1 p2 p3 p4 p5
          go_upto_region 17 with fail
          obtain ⟨w7, hw7⟩ : ∃ w7, w6.alloc (.cells #[Value.int IntKind.i64 (s : Nat)] 3) = w7 := ⟨_, rfl⟩
          obtain ⟨ga, hga⟩ : ∃ ga, Hid (ga = w6.heap.size) := ⟨_, hid rfl⟩
          have hb7 : Below w6.heap.size w6 w7 := by rw [← hw7]; exact (Below.refl _ _).alloc (Nat.le_refl _) _
          have ha7 : w7.cell? ⟨ga, 0, none⟩ = some (.int .i64 (s : Nat)) := by
            have h : Blk w7 ga 3 #[Value.int IntKind.i64 (s : Nat)] := by rw [← hw7, hga.out]; exact Blk.new _ _ _
            rw [h.cell]
            rfl
          have hgl : ga < w7.heap.size := by rw [← hw7, hga.out]; simp
          rw [hw7, ← hga.out]
          clear hw7
          have hB7 := hB6.trans (hb7.mono hB6.size)
          obtain ⟨⟨p0, p1, p2⟩, p3, p4, p5⟩ := hSp.out w7 hB7
          go_wp2_with fail
          refine (l1Letters_any lt w7).mono ?_
          rintro e w8 ⟨vL, rfl, hoL, hb8⟩
          rw [← hL.out] at hoL
          obtain ⟨AL, cL, rfl, hcL, hcL', hLL⟩ := OwnNats.read hoL
          have hLL' := hid hLL
          have hB58 : Below w5.heap.size w5 w8 := hb6.trans ((hb7.trans (hb8.mono hb7.size)).mono hb6.size)
          have hB8 := hB5.trans (hB58.mono hB5.size)
          have hda8 : Hid (DistAt w8 g n (lay L nx fd D) cs5) := hid ⟨hda'.out.1.below hB58 hda'.out.1.lt, hda'.out.2⟩
          have hT8 := hid (hTab'.out.later (hB25.trans (hB58.mono hB25.size)))
          have a0 := (hb8.cell (p := ⟨ga, 0, none⟩) (by simpa using hgl)).trans ha7
          have d0 : w8.cell? ⟨g, s, none⟩ = some (.int .i64 (encD (lay L nx fd D s))) := by rw [hda8.out.1.cell]; exact hda8.out.2.2 s hsN
          have hga8 : ga < w8.heap.size := by have := hb8.size; omega
          obtain ⟨x, hx⟩ : ∃ x, Hid (x = encD (lay L nx fd D s)) := ⟨_, hid rfl⟩
          rw [← hx.out] at d0
          have k3 : (0 : Int) ≤ (s : Int) ∧ (s : Int) < (n : Int) := by omega
          clear p0 p1 p2 p3 p4 p5 hoL hLL ha7
          go_wp2_with fail
          clear d0
          obtain ⟨ls, hls⟩ : ∃ ls, Hid (ls = lay L nx fd D s) := ⟨_, hid rfl⟩
          have hBw : Below w.heap.size w w8 := hB0.trans (hB8.mono hB0.size)
          cases ls with
          | none =>
            obtain rfl : x = -1 := by rw [hx.out, ← hls.out]; rfl
            have hno := hid (first_none hst'.out hlt.out hsN hls.out.symm)
            clear a0
            go_loopw [12, 13] (fun ov dv wr => ov = .string ⟨#[]⟩ ∧ dv = .int .i64 (-1) ∧ w8 = wr) (fun _ _ _ => 0)
            case atStart => exact ⟨rfl, rfl, by first | rfl | trivial⟩
            case round =>
              obtain ⟨rfl, rfl, rfl⟩ := hrel
              go_wp2_with fail
              refine bodyPost_ret (v := .tuple #[.string ⟨#[]⟩, .bool false]) (by simp [results, Tryd.results74, go_sem]) rfl ?_
              exact ⟨none, rfl, hno.out, hBw⟩
          | some D0 =>
            obtain rfl : x = (D0 : Int) := by rw [hx.out, ← hls.out]; rfl
            have h0 : Hid (lay L nx fd D s = some D0) := hid hls.out.symm
            have hF0 := hid (Fwd.start h0.out)
            have hat8 : Hid (NatsAt w8 w8.heap.size (some ⟨ga, 0, none⟩) [s]) := hid fun _ => ⟨ga, 0, rfl, hga8, fun i hi => by
              obtain rfl : i = 0 := by simpa using hi
              exact a0⟩
            clear a0
            go_loopw [10, 12, 13] (fun av ov dv wr => ∃ (d : Nat) (r at_ : List Nat) (Aa : Option Addr) (ca : Nat), av = .slice Aa at_.length ca ∧ ov = .string (wordS r) ∧ dv = .int .i64 (d : Nat) ∧ Fwd L nx fd D s D0 r at_ d ∧ at_.length ≤ ca ∧ ca ≤ 9223372036854775807 ∧ NatsAt wr wr.heap.size Aa at_ ∧ Below w8.heap.size w8 wr) (fun _ _ dv _ => (intOf dv).toNat)
            case atStart => exact ⟨D0, [], [s], some ⟨ga, 0, none⟩, 1, rfl, rfl, rfl, hF0.out, Nat.le_refl _, by omega, hat8.out, Below.refl _ _⟩
            case round =>
              clear hat8 hF0
              obtain ⟨d, r, at_, Aa, ca, rfl, rfl, rfl, hF, hca, hca', hat, hbr⟩ := hrel
              cases d with
              | zero =>
                have hfw := hid (hF.done hst'.out hlt.out hsN h0.out)
                replace hF := hid hF
                go_wp2_with fail
                refine bodyPost_ret (v := .tuple #[.string (wordS r), .bool true]) (by simp [results, Tryd.results74, go_sem]) rfl ?_
                exact ⟨some r, rfl, hfw.out, hBw.trans (hbr.mono hBw.size)⟩
              | succ d =>
                have hatl : ∀ m ∈ at_, m < n := fun m hm => RW_lt hlt.out hsN ((hF.mem m).1 hm).1
                have hsome := hid hF.some_
                have hgw : g < wr.heap.size := by have h1 := hda8.out.1.lt; have h2 := hbr.size; omega
                have hclo : Hid (∀ w' k (hk : k < L.length), Below wr.heap.size wr w' → Calls Tryd.prog 136 #[.slice AT n cT, .slice (some ⟨g, 0, none⟩) n n, .slice Aa at_.length ca, .int .i64 (k : Nat), .int .i64 (d : Nat)] w' fun e w'' => ∃ A' c', e = .returned (.slice A' (clo L nx fd D at_ L[k] d).length c') ∧ (clo L nx fd D at_ L[k] d).length ≤ c' ∧ c' ≤ 9223372036854775807 ∧ NatsAt w'' w''.heap.size A' (clo L nx fd D at_ L[k] d) ∧ Below w'.heap.size w' w'') := hid fun w' k hk hb => by
                  have hbw : Below w8.heap.size w8 w' := hbr.trans (hb.mono hbr.size)
                  exact l4Closer_any L nx (lay L nx fd D) at_ AT Aa cT ca g n k d w' hcT hcT' hpl (hT8.out.later hbw) (by have := hb.size; omega) (fun m hm => by rw [(hda8.out.1.below hbw hda8.out.1.lt).cell]; exact hda8.out.2.2 m hm) hlt.out (hat.later hb) hatl hca hca' hk hL6
                have hF' := hid hF
                have hat' := hid hat
                have k4 : (0 : Int) < (d : Int) + 1 := by omega
                have hd1 : d ≤ 4096 := by have h1 := hF.len; have h2 := lay_le h0.out; omega
                have hL0 : 0 < L.length := by obtain ⟨k, hk, -⟩ := hsome.out; omega
                have hc0 := hclo.out wr 0 hL0 (Below.refl _ _)
                obtain ⟨ms0, hms0⟩ : ∃ ms, Hid (ms = clo L nx fd D at_ L[0] d) := ⟨_, hid rfl⟩
                rw [← hms0.out, show ((0 : Nat) : Int) = 0 from rfl] at hc0
                have hc0' := hid hc0
                have hbr' := hid hbr
                clear hF hat hatl hc0
                go_wp2_with fail
                refine hc0'.out.mono ?_
                rintro e w9 ⟨A9, c9, rfl, h1, h2, h3, hb9⟩
                have h3' := hid h3
                clear h3 hc0'
                go_wp2_with fail
                obtain ⟨wo, rfl⟩ : ∃ wo : World, wo = wr := ⟨_, rfl⟩
                go_loopw [14, 15] (fun kv nv wr => ∃ (k : Nat) (hk : k < L.length) (ms : List Nat) (An : Option Addr) (cn : Nat), kv = .int .i64 (k : Nat) ∧ nv = .slice An ms.length cn ∧ Hid (ms = clo L nx fd D at_ L[k] d) ∧ Hid (∀ j (hj : j < L.length), j < k → clo L nx fd D at_ L[j] d = []) ∧ ms.length ≤ cn ∧ cn ≤ 9223372036854775807 ∧ Hid (NatsAt wr wr.heap.size An ms) ∧ Below wo.heap.size wo wr) (fun kv _ _ => L.length - (intOf kv).toNat)
                case atStart => exact ⟨0, hL0, ms0, A9, c9, rfl, rfl, hms0, hid fun j _ h => absurd h (Nat.not_lt_zero _), h1, h2, h3', hb9⟩
                case round =>
                  clear hms0 h3' hb9
                  obtain ⟨k, hk, ms, An, cn, rfl, rfl, hms, hmin, h1, h2, h3, hbk⟩ := hrel
                  by_cases hmz : ms.length = 0
                  · have hk1 : k + 1 < L.length := by
                      obtain ⟨k0, hk0, hne⟩ := hsome.out
                      have h9 : ¬ k0 < k := fun h => hne (hmin.out k0 hk0 h)
                      have h10 : k0 ≠ k := fun h => by
                        subst h
                        exact hne (by rw [← hms.out]; exact List.eq_nil_of_length_eq_zero hmz)
                      omega
                    have hmin' : Hid (∀ j (hj : j < L.length), j < k + 1 → clo L nx fd D at_ L[j] d = []) := hid fun j hj hjk => by
                      by_cases e : j = k
                      · subst e
                        rw [← hms.out]
                        exact List.eq_nil_of_length_eq_zero hmz
                      · exact hmin.out j hj (by omega)
                    have hc1 := hclo.out wr (k + 1) hk1 hbk
                    obtain ⟨ms1, hms1⟩ : ∃ ms, Hid (ms = clo L nx fd D at_ L[k + 1] d) := ⟨_, hid rfl⟩
                    rw [← hms1.out, show ((k + 1 : Nat) : Int) = (k : Int) + 1 from by omega] at hc1
                    have hc1' := hid hc1
                    clear hc1
                    go_wp2_with fail
                    refine hc1'.out.mono ?_
                    rintro e w9 ⟨A9, c9, rfl, h4, h5, h6, hb9⟩
                    have h6' := hid h6
                    clear h6
                    go_wp2_with fail
                    go_roundw
                    case rel => exact ⟨k + 1, hk1, ms1, A9, c9, by go_num, rfl, hms1, hmin', h4, h5, h6', hbk.trans (hb9.mono hbk.size)⟩
                    case measure => simp [intOf]; omega
                  · have hq9 : ((ms.length : Int) == 0) = false := by
                      rw [Bool.eq_false_iff]
                      intro h
                      have := beq_iff_eq.1 h
                      omega
                    have hF2 := hid (hF'.out.next hst'.out hlt.out hsN hLs.out h0.out hk (by rw [← hms.out]; intro h; exact hmz (by rw [h]; rfl)) hmin.out)
                    obtain ⟨l, hl⟩ : ∃ l, Hid (l = L[k]) := ⟨_, hid rfl⟩
                    have hl6 : l < 6 := by rw [hl.out]; exact hlL.out _ (List.getElem_mem hk)
                    have hbw : Below w8.heap.size w8 wr := hbr'.out.trans (hbk.mono hbr'.out.size)
                    obtain ⟨bL, oL, hLe, hbL, hEL⟩ := (hLL'.out.later hbw) (by omega)
                    subst hLe
                    have l0 := hEL k hk
                    rw [← hl.out] at l0
                    rw [← hms.out, ← hl.out] at hF2
                    have k5 : (0 : Int) ≤ (k : Int) ∧ (k : Int) < (L.length : Int) := by omega
                    replace hEL := hid hEL
                    go_wp2_with fail
                    refine (l1Text_any l hl6 wr).mono ?_
                    rintro e w10 ⟨rfl, hb10⟩
                    have hwz : ¬ (9223372036854775807 < (wordS r).size + 1) := by
                      rw [wordS_size]
                      have h1 := hF'.out.len
                      have h2 := lay_le h0.out
                      omega
                    go_wp2_with fail
                    go_roundw
                    case rel => exact ⟨d, l :: r, ms, An, cn, rfl, by rw [wordS_cons], by go_num, hF2.out, h1, h2, h3.out.later hb10, hbw.trans (hb10.mono hbw.size)⟩
                    case measure => simp [intOf]

end Go.Proofs.YtjhlbeamfngebaaDoor

/- The search over automata. -/
namespace Go.Proofs.YtjhlbeamfngebaaDoor
open Go.RowKit Go.BigFrame AG

/-- A list of automata in memory. -/
def AusAt (w : World) (g : Nat) (xs : List Au) : Prop := g < w.heap.size ∧ ∀ i (h : i < xs.length), ∃ A c B d, w.cell? ⟨g, i * 3, none⟩ = some (.int .i64 xs[i].al) ∧
  w.cell? ⟨g, i * 3 + 1, none⟩ = some (.slice A xs[i].nx.length c) ∧ w.cell? ⟨g, i * 3 + 2, none⟩ = some (.slice B xs[i].ac.length d) ∧ AuAt w A c B d xs[i]
theorem AusAt.later {w w' : World} {g : Nat} {xs : List Au} (h : AusAt w g xs) (hb : Below w.heap.size w w') : AusAt w' g xs :=
  ⟨Nat.lt_of_lt_of_le h.1 hb.size, fun i hi => by
    obtain ⟨A, c, B, d, h1, h2, h3, h4⟩ := h.2 i hi
    exact ⟨A, c, B, d, (hb.cell (by simpa using h.1)).trans h1, (hb.cell (by simpa using h.1)).trans h2, (hb.cell (by simpa using h.1)).trans h3, h4.later hb⟩⟩

end Go.Proofs.YtjhlbeamfngebaaDoor

/- Plain: systems that run together: the nodes of both searches, how long first words are. -/
namespace Go.Proofs.YtjhlbeamfngebaaDoor
open AG

/- Two ways to write the steps that have the same members on the nodes below N. -/
theorem RW_mem {I : Nat → Prop} {L : List Nat} {nx nx' : Nat → Nat → List Nat} {N : Nat} (h : ∀ n, n < N → ∀ l ∈ L, ∀ m, (m ∈ nx n l ↔ m ∈ nx' n l) ∧ (m ∈ nx n l → m < N)) (hI : ∀ n, I n → n < N) : ∀ (r : List Nat) (n : Nat), RW I L nx r n → n < N ∧ RW I L nx' r n
  | [], n, hn => ⟨hI n hn, hn⟩
  | l :: r, n, hn => by
    obtain ⟨hl, m, hm, hx⟩ := hn
    obtain ⟨h1, h2⟩ := RW_mem h hI r m hm
    obtain ⟨e, hlt⟩ := h m h1 l hl n
    exact ⟨hlt hx, hl, m, h2, e.1 hx⟩
theorem PathPost_mem {I : Nat → Prop} {L : List Nat} {nx nx' : Nat → Nat → List Nat} {N : Nat} {G G' : Nat → Prop} (h : ∀ n, n < N → ∀ l ∈ L, ∀ m, (m ∈ nx n l ↔ m ∈ nx' n l) ∧ (m ∈ nx n l → m < N)) (hI : ∀ n, I n → n < N) (hG : ∀ n, n < N → (G n ↔ G' n)) {o : Option (List Nat)} (hp : PathPost I L nx G o) : PathPost I L nx' G' o := by
  have h' : ∀ n, n < N → ∀ l ∈ L, ∀ m, (m ∈ nx' n l ↔ m ∈ nx n l) ∧ (m ∈ nx' n l → m < N) := fun n hn l hl m => ⟨(h n hn l hl m).1.symm, fun hm => (h n hn l hl m).2 ((h n hn l hl m).1.2 hm)⟩
  cases o with
  | none =>
    intro q n hq hg
    obtain ⟨h1, h2⟩ := RW_mem h' hI q n hq
    exact hp q n h2 ((hG n h1).2 hg)
  | some r =>
    obtain ⟨⟨n, hn, hg⟩, h2⟩ := hp
    obtain ⟨k1, k2⟩ := RW_mem h hI r n hn
    refine ⟨⟨n, k2, (hG n k1).1 hg⟩, fun q m hq hg' => ?_⟩
    obtain ⟨j1, j2⟩ := RW_mem h' hI q m hq
    exact h2 q m j2 ((hG m j1).2 hg')
theorem PathPost_unique {I : Nat → Prop} {L : List Nat} {nx : Nat → Nat → List Nat} {G : Nat → Prop} {o o' : Option (List Nat)} (h : PathPost I L nx G o) (h' : PathPost I L nx G o') : o = o' := by
  cases o with
  | none =>
    cases o' with
    | none => rfl
    | some r =>
      obtain ⟨⟨n, hn, hg⟩, -⟩ := h'
      exact absurd hg (h r n hn)
  | some r =>
    cases o' with
    | none =>
      obtain ⟨⟨n, hn, hg⟩, -⟩ := h
      exact absurd hg (h' r n hn)
    | some q => rw [FirstW.unique h h']

/- How long a first word is. -/
theorem RW_path {I : Nat → Prop} {L : List Nat} {nx : Nat → Nat → List Nat} : ∀ (r : List Nat) (n : Nat), RW I L nx r n → ∃ ms : List Nat, ∃ hl : ms.length = r.length + 1, ∀ i (hi : i < ms.length), RW I L nx (r.drop i) ms[i] ∧ ∀ u, RW I L nx u ms[i] → RW I L nx (r.take i ++ u) n
  | [], n, h => ⟨[n], rfl, fun i hi => by
    obtain rfl : i = 0 := by simpa using hi
    exact ⟨h, fun u hu => hu⟩⟩
  | l :: r, n, h => by
    obtain ⟨hl, m, hm, hx⟩ := h
    obtain ⟨ms, hml, hms⟩ := RW_path r m hm
    refine ⟨n :: ms, by simp [hml], fun i hi => ?_⟩
    cases i with
    | zero => exact ⟨⟨hl, m, hm, hx⟩, fun u hu => hu⟩
    | succ i =>
      obtain ⟨h1, h2⟩ := hms i (by simpa using hi)
      exact ⟨h1, fun u hu => ⟨hl, m, h2 u hu, hx⟩⟩
theorem first_short {I : Nat → Prop} {L : List Nat} {nx : Nat → Nat → List Nat} {G : Nat → Prop} {N : Nat} {r : List Nat} (h : FirstW I L nx G r) (hN : ∀ q n, RW I L nx q n → n < N) : r.length < N := by
  obtain ⟨⟨n, hn, hg⟩, hmin⟩ := h
  obtain ⟨ms, hml, hms⟩ := RW_path r n hn
  have hnd : ms.Nodup := by
    rw [List.nodup_iff_pairwise_ne, List.pairwise_iff_getElem]
    intro i j hi hj hij e
    have h1 := (hms i hi).2 (r.drop j) (by rw [e]; exact (hms j hj).1)
    have h2 := hmin _ _ h1 hg
    have h3 : (r.take i ++ r.drop j).length < r.length := by
      rw [List.length_append, List.length_take, List.length_drop]
      omega
    have := rle_len h2
    omega
  have := nodup_bound N ms hnd fun x hx => by
    obtain ⟨i, hi, rfl⟩ := List.getElem_of_mem hx
    exact hN _ _ (hms i hi).1
  omega

/-- The sizes of some systems. -/
def szP (xs : List Sy) : List Nat := xs.map fun s => s.st.toNat
/-- The states to which the reference's edges lead from a state. -/
def chP1 (s : Sy) (q l : Nat) : List Nat := if Has s.al l = true then (s.es.filter fun e => e.f.toNat == q && e.l.toNat == l).map (fun e => e.t.toNat) else [q]
def chP (xs : List Sy) (i q l : Nat) : List Nat := match xs[i]? with | some s => chP1 s q l | none => []
theorem chP_at {xs : List Sy} {i : Nat} (h : i < xs.length) (q l : Nat) : chP xs i q l = chP1 xs[i] q l := by unfold chP; rw [List.getElem?_eq_getElem h]
theorem chP1_mem {s : Sy} (hs : sysOk s = true) {q l : Nat} (hq : q < s.st.toNat) (m : Nat) : m ∈ chP1 s q l ↔ m ∈ stepQ s q l := by
  unfold chP1 stepQ
  have h1 : HasZ s.al (l : Int) = Has s.al l := by unfold HasZ; simp
  rw [h1, Nat.mod_eq_of_lt hq]
  split
  · rw [memL_mem, mv_testBit, List.mem_map]
    constructor
    · rintro ⟨e, he, rfl⟩
      rw [List.mem_filter] at he
      simp only [Bool.and_eq_true, beq_iff_eq] at he
      have := sysOk_in hs e he.1
      exact ⟨by omega, by omega, e, he.1, he.2.1, he.2.2, rfl⟩
    · rintro ⟨-, -, e, he, h2, h3, h4⟩
      refine ⟨e, ?_, h4⟩
      rw [List.mem_filter]
      simp only [Bool.and_eq_true, beq_iff_eq]
      exact ⟨he, h2, h3⟩
  · rfl
theorem chP1_lt {s : Sy} (hs : sysOk s = true) {q l : Nat} (hq : q < s.st.toNat) : ∀ m ∈ chP1 s q l, m < s.st.toNat := fun m hm => stepQ_lt hs q l m ((chP1_mem hs hq m).1 hm)
theorem chP1_len {s : Sy} (hs : sysOk s = true) (q l : Nat) : (chP1 s q l).length ≤ 16 := by
  unfold chP1
  split
  · refine nodup_bound 16 _ ?_ ?_
    · have hp := (edges_pairwise hs).filter fun e => e.f.toNat == q && e.l.toNat == l
      rw [List.nodup_iff_pairwise_ne, List.pairwise_map]
      refine hp.imp_of_mem ?_
      intro a b ha hb hlt
      rw [List.mem_filter] at ha hb
      simp only [Bool.and_eq_true, beq_iff_eq] at ha hb
      have h1 := sysOk_in hs a ha.1
      have h2 := sysOk_in hs b hb.1
      have e1 : a.f = b.f := by omega
      have e2 : a.l = b.l := by omega
      unfold edgeLt at hlt
      rw [if_neg (by simpa using e1), if_neg (by simpa using e2)] at hlt
      have h3 := of_decide_eq_true hlt
      omega
    · intro x hx
      obtain ⟨e, he, rfl⟩ := List.mem_map.1 hx
      have := sysOk_in hs e (List.mem_filter.1 he).1
      omega
  · simp

/- The program's nodes, from the first system on. -/
theorem pst_cons (s : Sy) (ss : List Sy) (l node : Nat) : ∀ k, k ≤ ss.length → pst (s :: ss) l node k = pst ss l node k
  | 0, _ => rfl
  | k + 1, hk => by
    obtain ⟨h1, e1⟩ := pst_succ (ss := s :: ss) (l := l) (node := node) (k := k) (i := ss.length - k) (by simp; omega) (by simp; omega)
    obtain ⟨h2, e2⟩ := pst_succ (ss := ss) (l := l) (node := node) (k := k) (i := ss.length - 1 - k) (by omega) (by omega)
    rw [e1, e2, pst_cons s ss l node k (by omega)]
    congr 1
    rw [List.getElem_cons]
    split
    · omega
    · congr 1; omega
theorem pst_cons_last (s : Sy) (ss : List Sy) (l node : Nat) : pst (s :: ss) l node (ss.length + 1) = pstep s l (pst ss l node ss.length) := by
  obtain ⟨h1, e1⟩ := pst_succ (ss := s :: ss) (l := l) (node := node) (k := ss.length) (i := 0) (by simp) (by simp)
  rw [e1, pst_cons s ss l node _ (Nat.le_refl _)]
  rfl
theorem pst_parts : ∀ (ss : List Sy) (l node : Nat), (pst ss l node ss.length).wt = prodL (szP ss) ∧ (pst ss l node ss.length).nd = node / prodL (szP ss)
  | [], l, node => ⟨rfl, (Nat.div_one node).symm⟩
  | s :: ss, l, node => by
    obtain ⟨h1, h2⟩ := pst_parts ss l node
    show (pst (s :: ss) l node (ss.length + 1)).wt = s.st.toNat * prodL (szP ss) ∧ (pst (s :: ss) l node (ss.length + 1)).nd = node / (s.st.toNat * prodL (szP ss))
    rw [pst_cons_last]
    unfold pstep
    simp only
    rw [h1, h2]
    exact ⟨Nat.mul_comm _ _, by rw [Nat.div_div_eq_div_mul, Nat.mul_comm]⟩
theorem nxParts_cons (s : Sy) (ss : List Sy) (l node m : Nat) : m ∈ nxParts (s :: ss) node l ↔ ∃ q ∈ stepQ s (node / prodL (szP ss)) l, ∃ r ∈ nxParts ss node l, m = q * prodL (szP ss) + r := by
  unfold nxParts
  show m ∈ (pst (s :: ss) l node (ss.length + 1)).re ↔ _
  rw [pst_cons_last]
  obtain ⟨h1, h2⟩ := pst_parts ss l node
  unfold pstep joinN
  simp only
  rw [h1, h2, List.mem_flatMap]
  constructor
  · rintro ⟨q, hq, h⟩
    obtain ⟨r, hr, rfl⟩ := List.mem_map.1 h
    exact ⟨q, hq, r, hr, rfl⟩
  · rintro ⟨q, hq, r, hr, rfl⟩
    exact ⟨q, hq, List.mem_map_of_mem hr⟩

/- The reference's nodes, from the first system on. -/
theorem nxK_cons (a : Nat) (ss : List Nat) (C : Nat → List Nat) : ∀ (k m : Nat), m ∈ nxK (a :: ss) C (k + 1) ↔ ∃ q ∈ C 0, ∃ r ∈ nxK ss (fun i => C (i + 1)) k, m = q * prodT ss k + r
  | 0, m => by
    show m ∈ stepN a (C 0) [0] ↔ _
    rw [stepN_mem]
    constructor
    · rintro ⟨o, ho, x, hx, rfl⟩
      rw [List.mem_singleton.1 ho]
      exact ⟨x, hx, 0, List.mem_singleton.2 rfl, by simp [prodT]⟩
    · rintro ⟨q, hq, r, hr, rfl⟩
      rw [show r = 0 from List.mem_singleton.1 hr]
      exact ⟨0, List.mem_singleton.2 rfl, q, hq, by simp [prodT]⟩
  | k + 1, m => by
    show m ∈ stepN (ss.getD k 1) (C (k + 1)) (nxK (a :: ss) C (k + 1)) ↔ _
    rw [stepN_mem]
    constructor
    · rintro ⟨o, ho, x, hx, rfl⟩
      obtain ⟨q, hq, r, hr, rfl⟩ := (nxK_cons a ss C k o).1 ho
      refine ⟨q, hq, r * ss.getD k 1 + x, stepN_mem.2 ⟨r, hr, x, hx, rfl⟩, ?_⟩
      rw [prodT, Nat.add_mul, Nat.mul_assoc, Nat.add_assoc]
    · rintro ⟨q, hq, r', hr', rfl⟩
      obtain ⟨r, hr, x, hx, rfl⟩ := stepN_mem.1 hr'
      refine ⟨q * prodT ss k + r, (nxK_cons a ss C k _).2 ⟨q, hq, r, hr, rfl⟩, x, hx, ?_⟩
      rw [prodT, Nat.add_mul, Nat.mul_assoc, Nat.add_assoc]
theorem nxN_cons (a : Nat) (ss : List Nat) (ch : Nat → Nat → Nat → List Nat) (n l m : Nat) : m ∈ nxN (a :: ss) ch n l ↔ ∃ q ∈ ch 0 (n / prodL ss % a) l, ∃ r ∈ nxN ss (fun i => ch (i + 1)) n l, m = q * prodL ss + r := by
  unfold nxN
  show m ∈ nxK (a :: ss) _ (ss.length + 1) ↔ _
  rw [nxK_cons, prodT_all]
  rfl
/-- Both have the same nodes next to a node. -/
theorem nx_same : ∀ (xs : List Sy), xs.all sysOk = true → ∀ n l m, m ∈ nxN (szP xs) (chP xs) n l ↔ m ∈ nxParts xs n l
  | [], _, n, l, m => Iff.rfl
  | s :: ss, hall, n, l, m => by
    rw [List.all_cons, Bool.and_eq_true] at hall
    show m ∈ nxN (s.st.toNat :: szP ss) (chP (s :: ss)) n l ↔ _
    rw [nxN_cons, nxParts_cons]
    have hst := sysOk_st hall.1
    have hlt : n / prodL (szP ss) % s.st.toNat < s.st.toNat := Nat.mod_lt _ (by omega)
    have h1 : ∀ q, q ∈ chP (s :: ss) 0 (n / prodL (szP ss) % s.st.toNat) l ↔ q ∈ stepQ s (n / prodL (szP ss)) l := fun q => by
      rw [chP_at (by simp), List.getElem_cons_zero, chP1_mem hall.1 hlt]
      unfold stepQ
      rw [Nat.mod_mod]
    have h2 : ∀ r, r ∈ nxN (szP ss) (fun i => chP (s :: ss) (i + 1)) n l ↔ r ∈ nxParts ss n l := fun r => by
      rw [← nx_same ss hall.2 n l r]
      rfl
    constructor
    · rintro ⟨q, hq, r, hr, rfl⟩
      exact ⟨q, (h1 q).1 hq, r, (h2 r).1 hr, rfl⟩
    · rintro ⟨q, hq, r, hr, rfl⟩
      exact ⟨q, (h1 q).2 hq, r, (h2 r).2 hr, rfl⟩
theorem nxParts_lt {xs : List Sy} (hall : xs.all sysOk = true) (n l : Nat) : ∀ m ∈ nxParts xs n l, m < prodL (szP xs) := by
  obtain ⟨h1, h2, h3, h4⟩ := pst_ok hall l n xs.length (Nat.le_refl _)
  rw [(pst_parts xs l n).1] at h4
  exact h4
theorem szP_ok {xs : List Sy} (hall : xs.all sysOk = true) : ∀ a ∈ szP xs, 1 ≤ a ∧ a ≤ 16 := fun a ha => by
  obtain ⟨s, hs, rfl⟩ := List.mem_map.1 ha
  have := sysOk_st (List.all_eq_true.1 hall s hs)
  omega
theorem prodP_4096 {xs : List Sy} (hall : xs.all sysOk = true) (h3 : xs.length ≤ 3) : 1 ≤ prodL (szP xs) ∧ prodL (szP xs) ≤ 4096 := by
  refine ⟨prodL_pos fun a ha => (szP_ok hall a ha).1, ?_⟩
  have h1 := prodT_le (ss := szP xs) (b := 16) (fun a ha => (szP_ok hall a ha).2) (by decide) (szP xs).length
  rw [prodT_all] at h1
  have h2 : 16 ^ (szP xs).length ≤ 16 ^ 3 := Nat.pow_le_pow_right (by decide) (by unfold szP; rw [List.length_map]; exact h3)
  omega

/-- A node from which no letter leads on. -/
noncomputable def stuckP (ss : List Sy) (L : List Nat) (n : Nat) : Bool := L.all fun l => (nxParts ss n l).isEmpty
/-- What both searches for a deadlock hand back. -/
def DeadP (ss : List Sy) (o : Option (List Nat)) : Prop := PathPost (fun m => m ∈ [0]) (letters (allAl ss)) (nxParts ss) (fun n => stuckP ss (letters (allAl ss)) n = true) o
/-- A node from which no letter leads on, as the reference sees it. -/
def stuckN (ss : List Sy) (L : List Nat) (n : Nat) : Bool := L.all fun l => (nxN (szP ss) (chP ss) n l).isEmpty
theorem stuck_same {ss : List Sy} (hall : ss.all sysOk = true) (L : List Nat) (n : Nat) : stuckN ss L n = stuckP ss L n := by
  unfold stuckN stuckP
  congr 1
  funext l
  rw [Bool.eq_iff_iff, List.isEmpty_iff, List.isEmpty_iff, List.eq_nil_iff_forall_not_mem, List.eq_nil_iff_forall_not_mem]
  exact ⟨fun h m hm => h m ((nx_same ss hall n l m).2 hm), fun h m hm => h m ((nx_same ss hall n l m).1 hm)⟩
theorem dead_of_net {ss : List Sy} (hall : ss.all sysOk = true) {z : Nat} (hz : z = 0) {o : Option (List Nat)} (h : PathPost (fun m => m ∈ [z]) (letters (allAl ss)) (nxN (szP ss) (chP ss)) (fun n => stuckN ss (letters (allAl ss)) n = true) o) : DeadP ss o := by
  subst hz
  refine PathPost_mem (N := prodL (szP ss)) (fun n hn l _ m => ⟨nx_same ss hall n l m, fun hm => nxParts_lt hall n l m ((nx_same ss hall n l m).1 hm)⟩) (fun n hn => ?_) (fun n _ => by rw [stuck_same hall]) h
  rw [List.mem_singleton.1 hn]
  exact prodL_pos fun a ha => (szP_ok hall a ha).1

end Go.Proofs.YtjhlbeamfngebaaDoor

/- The search over systems that run together. -/
namespace Go.Proofs.YtjhlbeamfngebaaDoor
open Go.RowKit Go.BigFrame AG

def chTo (s : Sy) (q l k : Nat) : List Nat := ((s.es.take k).filter fun e => e.f.toNat == q && e.l.toNat == l).map (fun e => e.t.toNat)
theorem chTo_hit {s : Sy} {q l k : Nat} (hk : k < s.es.length) (h1 : s.es[k].f.toNat = q) (h2 : s.es[k].l.toNat = l) : chTo s q l (k + 1) = chTo s q l k ++ [s.es[k].t.toNat] := by
  unfold chTo
  rw [List.take_succ_eq_append_getElem hk, List.filter_append, List.map_append]
  simp [h1, h2]
theorem chTo_miss {s : Sy} {q l k : Nat} (hk : k < s.es.length) (h : ¬ (s.es[k].f.toNat = q ∧ s.es[k].l.toNat = l)) : chTo s q l (k + 1) = chTo s q l k := by
  unfold chTo
  rw [List.take_succ_eq_append_getElem hk, List.filter_append, List.map_append]
  have : List.filter (fun e => e.f.toNat == q && e.l.toNat == l) [s.es[k]] = [] := by
    rw [List.filter_cons_of_neg (by simpa using h)]
    rfl
  rw [this]
  simp
theorem chTo_all {s : Sy} {q l : Nat} (h : Has s.al l = true) : chTo s q l s.es.length = chP1 s q l := by
  unfold chTo chP1
  rw [List.take_length, if_pos h]
theorem chTo_len {s : Sy} (hs : sysOk s = true) {q l : Nat} (h : Has s.al l = true) (k : Nat) : (chTo s q l k).length ≤ 16 := by
  refine Nat.le_trans ?_ (chP1_len hs q l)
  rw [← chTo_all h]
  unfold chTo
  rw [List.length_map, List.length_map, List.take_length]
  exact ((List.take_sublist _ _).filter _).length_le

set_option maxRecDepth 100000 in
set_option maxHeartbeats 4000000 in
theorem l4Sizes_sys (xs : List Sy) (AP : Option Addr) (cP : Nat) (c2 : Value) (lt kd gl : Int) (w : World) (h3 : xs.length ≤ 3) (hall : xs.all sysOk = true) (ha : SysAt w w.heap.size AP xs) :
    Calls Tryd.prog 130 #[netV (.slice AP xs.length cP) (.slice none 0 0) c2 lt kd gl] w fun e w' => ∃ v, e = .returned v ∧ OwnNats w' w.heap.size v (szP xs) ∧ Below w.heap.size w w' := by
  obtain ⟨i0, hi, hz0, hz1, hz2⟩ := info_parts infoInt
  obtain ⟨w0, hw0, hzz0, hB0, hSb⟩ := boxed w #[.slice AP xs.length cP, .slice none 0 0, c2, .int .i64 lt, .int .i64 kd, .int .i64 gl] 93
  have ha0 := hid (ha.later hB0)
  have hSp := hid (fun w' (hb : Below w0.heap.size w0 w') => And.intro (hSb 0 _ rfl w' (hb.mono hzz0)) (hSb 1 _ rfl w' (hb.mono hzz0)))
  have hst0 := hid (OrdSt.new0 w0)
  replace ha := hid ha
  replace hall := hid hall
  clear hSb
  unfold netV
  go_enter Tryd.func130, Tryd.ntmps130
  go_upto_region 2 with fail
  obtain ⟨w1, hw1⟩ : ∃ w1, w0.alloc (.cells #[] 3) = w1 := ⟨_, rfl⟩
  rw [hw1] at hst0 ⊢
  clear hw1 hw0
  obtain ⟨p0, p1⟩ := hSp.out w1 hst0.out.below
  go_wp2_with fail
  clear p0 p1
  go_loopw [3, 4] (fun ov iv wr => ∃ (i : Nat) (out : List Nat) (AO : Option Addr) (cO : Nat), ov = .slice AO out.length cO ∧ iv = .int .i64 (i : Nat) ∧ i ≤ xs.length ∧ out = (xs.take i).map (fun s => s.st.toNat) ∧ OrdSt w0 wr (.slice AO out.length cO) out) (fun _ iv _ => xs.length - (intOf iv).toNat)
  case atStart => exact ⟨0, [], _, _, rfl, rfl, Nat.zero_le _, by simp, hst0.out⟩
  case round =>
    clear hst0
    obtain ⟨i, out, AO, cO, rfl, rfl, hi1, hout, hst⟩ := hrel
    have hBm := hst.below
    have hszm := hBm.size
    obtain ⟨p0, p1⟩ := hSp.out wr hBm
    have hol : out.length ≤ 3 := by rw [hout, List.length_map, List.length_take]; omega
    by_cases hil : i < xs.length
    · obtain ⟨b, o, Ai, ci, hAe, hbb, c0, c1, c2', hAl, hAc, hEd⟩ := (ha0.out.later hBm).get hil
      subst hAe
      have q1 := c1 wr (Below.refl _ _)
      have hst1 := sysOk_st (List.all_eq_true.1 hall.out _ (List.getElem_mem hil))
      obtain ⟨n, hn⟩ := Int.eq_ofNat_of_zero_le (show 0 ≤ xs[i].st by omega)
      rw [hn] at q1
      have hnx : Hid (out ++ [n] = (xs.take (i + 1)).map (fun s => s.st.toNat)) := hid (by rw [List.take_succ_eq_append_getElem hil, List.map_append, ← hout]; simp [hn])
      have k1 : (0 : Int) ≤ (i : Int) ∧ (i : Int) < (xs.length : Int) := by omega
      have hst' := hid hst
      replace hout := hid hout
      replace hn := hid hn
      replace hEd := hid hEd
      clear c0 c1 c2' hst hst1
      go_wp2_with (at_builtin; refine wpList_append_own_at _ rfl _ _ 72 rfl w0.heap.size 3 i0 (.int .i64 0) 1 8 Tryd.underlying72 hi hz0 hz1 hz2 rfl (by decide) _ _ _ rfl (hst'.out.own.alloc _) ⟨wr.heap.size, 0, none⟩ 1 1 [.int .i64 (n : Nat)] rfl rfl (cell_one_new _ _ _) (by intro u hu; simp at hu; subst hu; rfl) (by unfold maxLen; omega) (by omega) (by first | omega | (simp; omega)) ?_; intro v7 w7 hO7 hg7 _ hat7; obtain ⟨Av7, cv7, ev7, -, -⟩ := own_slice hO7; subst ev7; have hst7 := hid (hst'.out.app (x := n) hg7 hO7); clear hO7 hg7 hat7)
      go_roundw
      case rel => exact ⟨i + 1, out ++ [n], _, _, by rw [List.length_append]; rfl, by go_num, by omega, hnx.out, by have := hst7.out; rw [List.length_append]; exact this⟩
      case measure => simp [intOf]; omega
    · obtain rfl : i = xs.length := by omega
      rw [List.take_length] at hout
      have hfin : Hid (OwnNats wr w.heap.size (.slice AO out.length cO) (szP xs)) := hid (by unfold szP; rw [← hout]; exact own_base hst.own hB0.size)
      have hB := hB0.trans (hst.below.mono hB0.size)
      replace hst := hid hst
      replace hout := hid hout
      go_wp2_with fail
      obtain ⟨wo, rfl⟩ : ∃ wo : World, wo = wr := ⟨_, rfl⟩
      go_loopw [3, 5] (fun ov iv wr => ov = .slice AO out.length cO ∧ iv = .int .i64 0 ∧ wo = wr) (fun _ _ _ => 0)
      case atStart => exact ⟨rfl, rfl, by first | rfl | trivial⟩
      case round =>
        obtain ⟨rfl, rfl, rfl⟩ := hrel
        go_wp2_with fail
        go_ret
        exact ⟨_, rfl, hfin.out, hB⟩

set_option maxRecDepth 100000 in
set_option maxHeartbeats 4000000 in
theorem l4Choices_sys (xs : List Sy) (AP : Option Addr) (cP : Nat) (c2 : Value) (lt kd gl : Int) (i q l : Nat) (w : World) (hall : xs.all sysOk = true) (hi : i < xs.length) (hq : q < 16) (hl : l < 6) (ha : SysAt w w.heap.size AP xs) :
    Calls Tryd.prog 191 #[netV (.slice AP xs.length cP) (.slice none 0 0) c2 lt kd gl, .int .i64 (i : Nat), .int .i64 (q : Nat), .int .i64 (l : Nat)] w fun e w' => ∃ v, e = .returned v ∧ OwnNats w' w.heap.size v (chP1 xs[i] q l) ∧ Below w.heap.size w w' := by
  obtain ⟨i0, hi0, hz0, hz1, hz2⟩ := info_parts infoInt
  obtain ⟨w0, hw0, hzz0, hB0, hSb⟩ := boxed w #[.slice AP xs.length cP, .slice none 0 0, c2, .int .i64 lt, .int .i64 kd, .int .i64 gl] 93
  have ha0 := ha.later hB0
  have hso := hid (List.all_eq_true.1 hall _ (List.getElem_mem hi))
  obtain ⟨b, o, Ai, ci, hAe, hbb, c0, c1, c2', hAl, hAc, hEd⟩ := ha0.get hi
  subst hAe
  obtain ⟨s, hse⟩ : ∃ s, Hid (s = xs[i]) := ⟨_, hid rfl⟩
  rw [← hse.out] at c0 c1 c2' hAl hEd hso ⊢
  have hSp := hid (fun w' (hb : Below w0.heap.size w0 w') => And.intro (hSb 0 _ rfl w' (hb.mono hzz0)) (And.intro (c0 w' hb) (c2' w' hb)))
  obtain ⟨p0, d0, d2⟩ := hSp.out w0 (Below.refl _ _)
  have hE0 := hid hEd
  have k1 : (0 : Int) ≤ (i : Int) ∧ (i : Int) < (xs.length : Int) := by omega
  have k2 : ¬ ((xs.length : Int) ≤ (i : Int)) := by omega
  replace ha := hid ha
  replace ha0 := hid ha0
  clear hSb hall hEd c0 c1 c2'
  unfold netV
  go_enter Tryd.func191, Tryd.ntmps191
  go_wp2_with fail
  clear hw0
  refine (l1Has_any s.al l w0 (by omega) (by omega)).mono ?_
  rintro e w5 ⟨rfl, rfl⟩
  rw [Int.toNat_natCast]
  cases hH : Has s.al l with
  | false =>
    have hfin := hid (show OwnNats (w0.alloc (.cells #[.int .i64 (q : Nat)] 3)) w.heap.size (.slice (some ⟨w0.heap.size, 0, none⟩) 1 1) (chP1 s q l) from by unfold chP1; rw [if_neg (by rw [hH]; decide)]; exact own_base (OrdSt.new w0 q).own (by omega))
    have hB := hid (hB0.trans (((Below.refl _ _).alloc (Nat.le_refl _) (.cells #[.int .i64 (q : Nat)] 3)).mono hB0.size))
    replace hH := hid hH
    go_wp2_with fail
    go_ret
    exact ⟨_, rfl, hfin.out, hB.out⟩
  | true =>
    have hfin := hid (chTo_all (q := q) hH)
    have hlen := hid (chTo_len hso.out (q := q) hH)
    have hst0 := hid (OrdSt.new0 w0)
    have hin := hid (sysOk_in hso.out)
    replace hH := hid hH
    have hEs : Hid (EdsAt w0 w0.heap.size Ai s.es) := hid (by rw [hse.out]; exact (show EdsAt w0 w0.heap.size Ai xs[i].es from by rw [← hse.out]; exact hE0.out))
    clear p0 d0 d2
    go_upto_region 6 with fail
    obtain ⟨w1, hw1⟩ : ∃ w1, w0.alloc (.cells #[] 3) = w1 := ⟨_, rfl⟩
    rw [hw1] at hst0 ⊢
    clear hw1
    obtain ⟨p0, d0, d2⟩ := hSp.out w1 hst0.out.below
    go_wp2_with fail
    clear p0 d0 d2
    go_loopw [9, 11] (fun ov kv wr => ∃ (k : Nat) (out : List Nat) (AO : Option Addr) (cO : Nat), ov = .slice AO out.length cO ∧ kv = .int .i64 (k : Nat) ∧ k ≤ s.es.length ∧ out = chTo s q l k ∧ OrdSt w0 wr (.slice AO out.length cO) out) (fun _ kv _ => s.es.length - (intOf kv).toNat)
    case atStart => exact ⟨0, [], _, _, rfl, rfl, Nat.zero_le _, by simp [chTo], hst0.out⟩
    case round =>
      clear hst0
      obtain ⟨k, out, AO, cO, rfl, rfl, hk, hout, hst⟩ := hrel
      have hBm := hst.below
      have hszm := hBm.size
      have hol : out.length ≤ 16 := by rw [hout]; exact hlen.out k
      by_cases hkl : k < s.es.length
      · obtain ⟨be, oe, hAe, hbe, hEe⟩ := hEs.out (by omega)
        subst hAe
        obtain ⟨c0, c1, c2'⟩ := hEe k hkl
        rw [← hBm.cell (by simpa using hbe)] at c0 c1 c2'
        obtain ⟨i1, i2, i3, i4, i5, i6, -⟩ := hin.out _ (List.getElem_mem hkl)
        obtain ⟨ef, hef⟩ := Int.eq_ofNat_of_zero_le i1
        obtain ⟨el, hel⟩ := Int.eq_ofNat_of_zero_le i5
        obtain ⟨et, het⟩ := Int.eq_ofNat_of_zero_le i3
        rw [hef] at c0
        rw [hel] at c1
        rw [het] at c2'
        have g1 : s.es[k].f.toNat = ef := by omega
        have g2 : s.es[k].l.toNat = el := by omega
        have g3 : s.es[k].t.toNat = et := by omega
        have hhit := hid (fun h1 h2 => chTo_hit (q := q) (l := l) hkl h1 h2)
        have hmiss := hid (fun h => chTo_miss (q := q) (l := l) hkl h)
        rw [g1, g2, g3] at hhit
        rw [g1, g2] at hmiss
        have k3 : (0 : Int) ≤ (k : Int) ∧ (k : Int) < (s.es.length : Int) := by omega
        have hst' := hid hst
        replace hout := hid hout
        replace hEe := hid hEe
        clear hst hef hel het g1 g2 g3 i1 i2 i3 i4 i5 i6
        by_cases h1 : ef = q
        · by_cases h2 : el = l
          · subst h1
            subst h2
            have hnx : Hid (out ++ [et] = chTo s ef el (k + 1)) := hid (by rw [hhit.out rfl rfl, hout.out])
            clear hhit hmiss
            go_wp2_with (at_builtin; refine wpList_append_own_at _ rfl _ _ 72 rfl w0.heap.size 3 i0 (.int .i64 0) 1 8 Tryd.underlying72 hi0 hz0 hz1 hz2 rfl (by decide) _ _ _ rfl (hst'.out.own.alloc _) ⟨wr.heap.size, 0, none⟩ 1 1 [.int .i64 (et : Nat)] rfl rfl (cell_one_new _ _ _) (by intro u hu; simp at hu; subst hu; rfl) (by unfold maxLen; omega) (by omega) (by first | omega | (simp; omega)) ?_; intro v7 w7 hO7 hg7 _ hat7; obtain ⟨Av7, cv7, ev7, -, -⟩ := own_slice hO7; subst ev7; have hst7 := hid (hst'.out.app (x := et) hg7 hO7); clear hO7 hg7 hat7)
            go_roundw
            case rel => exact ⟨k + 1, out ++ [et], _, _, by rw [List.length_append]; rfl, by go_num, by omega, hnx.out, by have := hst7.out; rw [List.length_append]; exact this⟩
            case measure => simp [intOf]; omega
          · have hnx : Hid (out = chTo s q l (k + 1)) := hid (by rw [hmiss.out (fun h => h2 h.2), hout.out])
            subst h1
            have h2' : ((el : Int) == (l : Int)) = false := by simp; omega
            have h2'' : ¬ ((el : Int) = (l : Int)) := by omega
            clear hhit hmiss
            go_wp2_with fail
            go_roundw
            case rel => exact ⟨k + 1, out, _, _, rfl, by go_num, by omega, hnx.out, hst'.out⟩
            case measure => simp [intOf]; omega
        · have hnx : Hid (out = chTo s q l (k + 1)) := hid (by rw [hmiss.out (fun h => h1 h.1), hout.out])
          have h1' : ((ef : Int) == (q : Int)) = false := by simp; omega
          have h1'' : ¬ ((ef : Int) = (q : Int)) := by omega
          clear hhit hmiss
          go_wp2_with fail
          go_roundw
          case rel => exact ⟨k + 1, out, _, _, rfl, by go_num, by omega, hnx.out, hst'.out⟩
          case measure => simp [intOf]; omega
      · obtain rfl : k = s.es.length := by omega
        rw [hfin.out] at hout
        have hB := hB0.trans (hst.below.mono hB0.size)
        have hown := hid (own_base hst.own (show w.heap.size ≤ w0.heap.size from hB0.size))
        replace hst := hid hst
        replace hout := hid hout
        go_wp2_with fail
        go_ret
        exact ⟨_, rfl, by rw [← hout.out]; exact hown.out, hB⟩

set_option maxRecDepth 100000 in
set_option maxHeartbeats 4000000 in
theorem l4Found_stuck (c0 c1 c2 : Value) (lt gl : Int) (A B : Option Addr) (n c : Nat) (rs : List (List Nat)) (d : Nat) (w : World) (hl : rs.length ≤ d) (hd : d ≤ 9223372036854775807) (hr : Tab2 w w.heap.size B rs) :
    Calls Tryd.prog 132 #[netV c0 c1 c2 lt 4 gl, .slice A n c, .slice B rs.length d] w fun e w' => e = .returned (.bool (rs.all fun r => r.isEmpty)) ∧ Below w.heap.size w w' := by
  obtain ⟨w0, hw0, hzz0, hB0, hSb⟩ := boxed w #[c0, c1, c2, .int .i64 lt, .int .i64 4, .int .i64 gl] 93
  have p4 : w0.cell? ⟨w.heap.size, 4, none⟩ = some (.int .i64 4) := hSb 4 _ rfl w0 (Below.refl _ _)
  have hr0 := hid (hr.later hB0)
  replace hr := hid hr
  clear hSb
  unfold netV
  go_enter Tryd.func132, Tryd.ntmps132
  go_wp2_with fail
  clear hw0 p4
  go_loopw [7] (fun kv wr => ∃ k : Nat, kv = .int .i64 (k : Nat) ∧ k ≤ rs.length ∧ (rs.take k).all (fun r => r.isEmpty) = true ∧ w0 = wr) (fun kv _ => rs.length - (intOf kv).toNat)
  case atStart => exact ⟨0, rfl, Nat.zero_le _, by simp, by first | rfl | trivial⟩
  case round =>
    obtain ⟨k, rfl, hk, hall, rfl⟩ := hrel
    by_cases hkl : k < rs.length
    · obtain ⟨b, o, hA, hb, hE⟩ := hr0.out (by omega)
      subst hA
      obtain ⟨Ai, ci, e1, e2, e3, -⟩ := hE k hkl
      have k1 : (0 : Int) ≤ (k : Int) ∧ (k : Int) < (rs.length : Int) := by omega
      have hts := hid (show (rs.take (k + 1)).all (fun r => r.isEmpty) = rs[k].isEmpty from by rw [List.take_succ_eq_append_getElem hkl, List.all_append, hall]; simp)
      replace hE := hid hE
      replace hall := hid hall
      by_cases he : rs[k].length = 0
      · have hem : Hid (rs[k].isEmpty = true) := hid (by rw [List.isEmpty_iff]; exact List.eq_nil_of_length_eq_zero he)
        rw [he] at e1
        replace he := hid he
        go_wp2_with fail
        go_roundw
        case rel => exact ⟨k + 1, by go_num, by omega, by rw [hts.out, hem.out], by first | rfl | trivial⟩
        case measure => simp [intOf]; omega
      · have hem : Hid ((rs.all fun r => r.isEmpty) = false) := hid (by
          rw [List.all_eq_false]
          refine ⟨rs[k], List.getElem_mem hkl, ?_⟩
          rw [List.isEmpty_iff]
          intro h
          rw [h] at he
          exact he rfl)
        have hpos : (0 : Int) < (rs[k].length : Int) := by omega
        go_wp2_with fail
        go_ret
        exact ⟨by rw [hem.out]; rfl, hB0⟩
    · have hfin : Hid ((rs.all fun r => r.isEmpty) = true) := hid (by rw [List.take_of_length_le (by omega)] at hall; exact hall)
      replace hall := hid hall
      go_wp2_with fail
      go_ret
      exact ⟨by rw [hfin.out]; rfl, hB0⟩

end Go.Proofs.YtjhlbeamfngebaaDoor

/- Lists of systems: the program's areParts. -/
namespace Go.Proofs.YtjhlbeamfngebaaDoor
open Go.RowKit Go.BigFrame AG

set_option maxHeartbeats 400000 in
theorem areParts1_any (s : Sy) (A : Option Addr) (c : Nat) (w : World) (hl : s.es.length ≤ c) (hc : c ≤ 9223372036854775807) (hr : EdsAt w w.heap.size A s.es) :
    Calls Tryd.prog 139 #[s.val A c] w fun e w' => e = .returned (.bool (!sysOk s)) ∧ Below w.heap.size w w' := by
  unfold Sy.val
  go_enter Tryd.func139, Tryd.ntmps139
  go_wp2_with fail
  obtain ⟨w0, hw0, hz0, hB0, hS0, hS1, hS2⟩ := boxed3 w (Value.int IntKind.i64 s.al) (Value.int IntKind.i64 s.st) (Value.slice A s.es.length c) 37
  rw [hw0]
  have hr0 := hid ((hr.keep hB0).more (show w.heap.size ≤ w0.heap.size by omega))
  refine (implSystemValid_any s A c w0 hl hc hr0.out).mono ?_
  rintro e w1 ⟨rfl, hb1⟩
  go_wp2
  go_ret
  exact ⟨rfl, hB0.trans (hb1.mono (by omega))⟩

set_option maxHeartbeats 1000000 in
theorem indexFuncSys_any (ss : List Sy) (A : Option Addr) (c : Nat) (w : World) (hl : ss.length ≤ c) (hc : c ≤ 9223372036854775807) (hr : SysAt w w.heap.size A ss) :
    Calls Tryd.prog 180 #[.slice A ss.length c, .func (.func 139) #[] #[]] w (IdxPost (!ss.all sysOk) w) := by
  go_enter Tryd.func180, Tryd.ntmps180
  go_wp2
  go_loopw [8] (fun i wr => ∃ k : Nat, i = .int .i64 k ∧ k ≤ ss.length ∧ (ss.take k).all sysOk = true ∧ Below w.heap.size w wr) (fun i _ => ss.length - (intOf i).toNat)
  case atStart => exact ⟨0, rfl, by omega, by simp, Below.refl _ _⟩
  case round =>
    obtain ⟨k, rfl, hk, hok, hb⟩ := hrel
    by_cases hlt : k < ss.length
    · obtain ⟨b, o, Ai, ci, rfl, hB, c0, c1, c2, hAl, hAc, hAe⟩ := hr.get hlt
      have hts := take_snoc ss k hlt
      have hAe' : EdsAt wr wr.heap.size Ai ss[k].es := (hAe.keep hb).more hb.size
      replace hAe' := hid hAe'
      replace hr := hid hr
      replace hok := hid hok
      replace hts := hid hts
      cases hs : sysOk ss[k]
      · replace hs := hid hs
        go_wp2_with (go_at_call 139; refine (areParts1_any ss[k] Ai ci _ hAl hAc hAe'.out).mono ?_; rintro e w' ⟨rfl, hb'⟩; rw [hs.out])
        go_ret
        refine ⟨k, rfl, ?_, hb.trans (hb'.mono hb.size)⟩
        have : ss.all sysOk = false := by
          rw [List.all_eq_false]
          exact ⟨ss[k], List.getElem_mem _, by rw [hs.out]; simp⟩
        rw [this]
        simp
      · replace hs := hid hs
        go_wp2_with (go_at_call 139; refine (areParts1_any ss[k] Ai ci _ hAl hAc hAe'.out).mono ?_; rintro e w' ⟨rfl, hb'⟩; rw [hs.out])
        go_roundw
        case rel => exact ⟨k + 1, by go_num, by omega, by rw [hts.out, List.all_append, hok.out]; simp [hs.out], hb.trans (hb'.mono hb.size)⟩
        case measure => simp [intOf]; omega
    · replace hok := hid hok
      go_wp2
      go_ret
      refine ⟨-1, rfl, ?_, hb⟩
      have : ss.all sysOk = true := by have := hok.out; rwa [List.take_of_length_le (by omega)] at this
      rw [this]
      simp

set_option maxHeartbeats 400000 in
theorem containsFuncSys_any (ss : List Sy) (A : Option Addr) (c : Nat) (w : World) (hl : ss.length ≤ c) (hc : c ≤ 9223372036854775807) (hr : SysAt w w.heap.size A ss) :
    Calls Tryd.prog 138 #[.slice A ss.length c, .func (.func 139) #[] #[]] w fun e w' => e = .returned (.bool (!ss.all sysOk)) ∧ Below w.heap.size w w' := by
  replace hr := hid hr
  go_enter Tryd.func138, Tryd.ntmps138
  go_wp2_with fail
  refine (indexFuncSys_any ss A c w hl hc hr.out).mono ?_
  rintro e w' ⟨r, rfl, hr', hb⟩
  replace hr' := hid hr'
  go_wp2
  go_ret
  exact ⟨by rw [← hr'.out]; rfl, hb⟩

set_option maxHeartbeats 400000 in
theorem areParts_any (ss : List Sy) (A : Option Addr) (c : Nat) (w : World) (hl : ss.length ≤ c) (hc : c ≤ 9223372036854775807) (hr : SysAt w w.heap.size A ss) :
    Calls Tryd.prog 76 #[.slice A ss.length c] w fun e w' => e = .returned (.bool (partsOk ss)) ∧ Below w.heap.size w w' := by
  replace hr := hid hr
  by_cases h1 : 1 ≤ ss.length
  · by_cases h3 : ss.length ≤ 3
    · go_enter Tryd.func76, Tryd.ntmps76
      go_wp2_with (refine (containsFuncSys_any ss A c w hl hc hr.out).mono ?_; rintro e w' ⟨rfl, hb⟩)
      go_ret
      exact ⟨ret_bool (by unfold partsOk; rw [decide_eq_true ⟨h1, h3⟩]; simp), hb⟩
    · go_enter Tryd.func76, Tryd.ntmps76
      go_wp2
      go_ret
      exact ⟨ret_bool (by unfold partsOk; rw [decide_eq_false (by omega)]; simp), Below.refl _ _⟩
  · go_enter Tryd.func76, Tryd.ntmps76
    go_wp2
    go_ret
    exact ⟨ret_bool (by unfold partsOk; rw [decide_eq_false (by omega)]; simp), Below.refl _ _⟩

end Go.Proofs.YtjhlbeamfngebaaDoor

/- Alphabets of lists of systems: both PartsAlphabet and SharedLetters. -/
namespace Go.Proofs.YtjhlbeamfngebaaDoor
open Go.RowKit Go.BigFrame AG

set_option maxHeartbeats 1000000 in
theorem implPartsAlphabet_any (ss : List Sy) (A : Option Addr) (c : Nat) (w : World) (hl : ss.length ≤ c) (hc : c ≤ 9223372036854775807) (hr : SysAt w w.heap.size A ss) :
    Calls Tryd.prog 32 #[.slice A ss.length c] w fun e w' => e = .returned (.int .i64 (partsAl ss)) ∧ Below w.heap.size w w' := by
  replace hr := hid hr
  cases hp : partsOk ss
  · replace hp := hid hp
    go_enter Tryd.func32, Tryd.ntmps32
    go_wp2_with (go_at_call 76; refine (areParts_any ss A c w hl hc hr.out).mono ?_; rintro e w' ⟨rfl, hb⟩; rw [hp.out])
    go_ret
    exact ⟨ret_int (by unfold partsAl; rw [hp.out]; rfl), hb⟩
  · have hall : ss.all sysOk = true := by unfold partsOk at hp; rw [Bool.and_eq_true] at hp; exact hp.2
    replace hp := hid hp
    replace hall := hid hall
    go_enter Tryd.func32, Tryd.ntmps32
    go_wp2_with (go_at_call 76; refine (areParts_any ss A c w hl hc hr.out).mono ?_; rintro e w' ⟨rfl, hb0⟩; rw [hp.out])
    go_loopw [3, 11] (fun a i wr => ∃ k : Nat, i = .int .i64 k ∧ k ≤ ss.length ∧ a = .int .i64 (allAl (ss.take k)) ∧ Below w.heap.size w wr) (fun _ i _ => ss.length - (intOf i).toNat)
    case atStart => exact ⟨0, rfl, by omega, rfl, hb0⟩
    case round =>
      obtain ⟨k, rfl, hk, rfl, hb⟩ := hrel
      by_cases hlt : k < ss.length
      · obtain ⟨b, o, Ai, ci, rfl, hB, c0, c1, c2, hAl, hAc, hAe⟩ := hr.out.get hlt
        have hzr := hb.size
        have hts := hid (take_snoc ss k hlt)
        have hrg := allAl_range _ (all_take _ _ k hall.out)
        have hs : sysOk ss[k] = true := List.all_eq_true.1 hall.out _ (List.getElem_mem _)
        have hal := sysOk_alpha hs
        have hor := hid (bits_or (a := allAl (ss.take k)) (b := ss[k].al) (by omega) (by omega))
        replace hs := hid hs
        replace hAe := hid hAe
        go_wp2
        go_roundw
        case rel => exact ⟨k + 1, by go_num, by omega, by rw [hts.out, allAl_snoc, hor.out], by (repeat (first | exact Below.refl _ _ | assumption | refine Below.drew ?_ | refine Below.alloc ?_ (by first | omega | (simp; done) | (simp; omega)) _ | refine Below.setCell ?_ (by first | omega | (simp; done) | (simp; omega)) _))⟩
        case measure => simp [intOf]; omega
      · go_wp2
        go_ret
        exact ⟨ret_int (by unfold partsAl; rw [hp.out, if_pos rfl, List.take_of_length_le (by omega)]), hb⟩


set_option maxHeartbeats 1000000 in
theorem specPartsAlphabet_any (ss : List Sy) (A : Option Addr) (c : Nat) (w : World) (_hl : ss.length ≤ c) (_hc : c ≤ 9223372036854775807) (hr : SysAt w w.heap.size A ss) :
    Calls Tryd.prog 73 #[.slice A ss.length c] w fun e w' => e = .returned (.int .i64 (partsAl ss)) ∧ Below w.heap.size w w' := by
  replace hr := hid hr
  by_cases h13 : 1 ≤ ss.length ∧ ss.length ≤ 3
  · obtain ⟨h1, h3⟩ := h13
    have hp : partsOk ss = ss.all sysOk := by unfold partsOk; rw [decide_eq_true ⟨h1, h3⟩]; rfl
    replace hp := hid hp
    go_enter Tryd.func73, Tryd.ntmps73
    go_wp2_with fail
    go_loopw [3, 4] (fun a i wr => ∃ k : Nat, i = .int .i64 k ∧ k ≤ ss.length ∧ a = .int .i64 (allAl (ss.take k)) ∧ (ss.take k).all sysOk = true ∧ Below w.heap.size w wr) (fun _ i _ => ss.length - (intOf i).toNat)
    case atStart => exact ⟨0, rfl, by omega, rfl, by simp, Below.refl _ _⟩
    case round =>
      obtain ⟨k, rfl, hk, rfl, hok, hb⟩ := hrel
      have hrg := allAl_range _ hok
      by_cases hlt : k < ss.length
      · obtain ⟨b, o, Ai, ci, rfl, hB, c0, c1, c2, hAl, hAc, hAe⟩ := hr.out.get hlt
        have hts := hid (take_snoc ss k hlt)
        have hAe' : EdsAt wr wr.heap.size Ai ss[k].es := (hAe.keep hb).more hb.size
        replace hAe := hid hAe'
        clear hAe'
        replace hok := hid hok
        cases hs : sysOk ss[k]
        · have hfin : Hid (partsAl ss = -1) := hid (by
            unfold partsAl
            rw [hp.out, if_neg]
            rw [List.all_eq_true]
            intro h
            have := h ss[k] (List.getElem_mem _)
            rw [hs] at this
            cases this)
          replace hs := hid hs
          go_wp2_with (go_at_call 129; refine (specSystemValid_any ss[k] Ai ci _ hAl hAc hAe.out).mono ?_; rintro e w' ⟨rfl, hb'⟩; rw [hs.out])
          go_ret
          exact ⟨by rw [hfin.out]; rfl, hb.trans (hb'.mono hb.size)⟩
        · have hal := sysOk_alpha hs
          have hor := hid (bits_or (a := allAl (ss.take k)) (b := ss[k].al) (by omega) (by omega))
          replace hs := hid hs
          go_wp2_with (go_at_call 129; refine (specSystemValid_any ss[k] Ai ci _ hAl hAc hAe.out).mono ?_; rintro e w' ⟨rfl, hb'⟩; rw [hs.out]; replace hb' := hb.trans (hb'.mono hb.size))
          go_roundw
          case rel => exact ⟨k + 1, by go_num, by omega, by rw [hts.out, allAl_snoc, hor.out], by rw [hts.out, List.all_append, hok.out]; simp [hs.out], hb'⟩
          case measure => simp [intOf]; omega
      · replace hok := hid hok
        go_wp2
        go_ret
        exact ⟨ret_int (by have := hok.out; rw [List.take_of_length_le (by omega)] at this; unfold partsAl; rw [hp.out, if_pos this, List.take_of_length_le (by omega)]), hb⟩
  · have hfin : Hid (partsAl ss = -1) := hid (by
      unfold partsAl partsOk
      rw [decide_eq_false h13]
      rfl)
    go_enter Tryd.func73, Tryd.ntmps73
    go_wp2
    all_goals
      go_ret
      exact ⟨by rw [hfin.out]; rfl, Below.refl _ _⟩

end Go.Proofs.YtjhlbeamfngebaaDoor

/- The reference's DeadlockOf. -/
namespace Go.Proofs.YtjhlbeamfngebaaDoor
open Go.RowKit Go.BigFrame AG

theorem netOk_sys (xs : List Sy) (AP : Option Addr) (cP : Nat) (c2 : Value) (lt kd gl : Int) (w : World) (h3 : xs.length ≤ 3) (hall : xs.all sysOk = true) (ha : SysAt w w.heap.size AP xs) :
    NetOk w (netV (.slice AP xs.length cP) (.slice none 0 0) c2 lt kd gl) (szP xs) (chP xs) := by
  have hat : ∀ {i} (hi : i < xs.length), (szP xs).getD i 1 = xs[i].st.toNat := fun {i} hi => by
    unfold szP
    rw [List.getD_eq_getElem?_getD, List.getElem?_map, List.getElem?_eq_getElem hi]
    rfl
  have hlen : (szP xs).length = xs.length := by unfold szP; rw [List.length_map]
  refine ⟨by rw [hlen]; exact h3, szP_ok hall, fun i q l => ?_, fun i hi q hq l x hx => ?_, fun w' i q l hb hi hq hl => ?_⟩
  · unfold chP
    split
    · next s hs => exact chP1_len (List.all_eq_true.1 hall s (List.mem_of_getElem? hs)) q l
    · simp
  · rw [hlen] at hi
    rw [hat hi] at hq ⊢
    rw [chP_at hi] at hx
    exact chP1_lt (List.all_eq_true.1 hall _ (List.getElem_mem hi)) hq x hx
  · rw [hlen] at hi
    rw [hat hi] at hq
    rw [chP_at hi]
    have hst := sysOk_st (List.all_eq_true.1 hall _ (List.getElem_mem hi))
    exact l4Choices_sys xs AP cP c2 lt kd gl i q l w' hall hi (by omega) hl (ha.later hb)

theorem srch_DeadlockOf (xs : List Sy) (AP : Option Addr) (cP : Nat) (c2 : Value) (lt gl : Int) (w : World) (h3 : xs.length ≤ 3) (hall : xs.all sysOk = true) (ha : SysAt w w.heap.size AP xs) :
    SrchNet w (netV (.slice AP xs.length cP) (.slice none 0 0) c2 lt 4 gl) lt (szP xs) (chP xs) (fun n => stuckN xs (letters lt) n) := by
  refine ⟨netOk_sys xs AP cP c2 lt 4 gl w h3 hall ha, fun w' hb => l4Sizes_sys xs AP cP c2 lt 4 gl w' h3 hall (ha.later hb), fun w' n A c B d hb hn _ _ hd hd' _ h2 => ?_⟩
  have := l4Found_stuck (.slice AP xs.length cP) (.slice none 0 0) c2 lt gl A B (szP xs).length c (movT (szP xs) (chP xs) (letters lt) n) d w' (by unfold movT; rw [List.length_map]; exact hd) hd' h2
  have e1 : (movT (szP xs) (chP xs) (letters lt) n).length = (letters lt).length := by unfold movT; rw [List.length_map]
  have e2 : ((movT (szP xs) (chP xs) (letters lt) n).all fun r => r.isEmpty) = stuckN xs (letters lt) n := by unfold movT stuckN; rw [List.all_map]; rfl
  rw [e1, e2] at this
  exact this

/-- What both programs hand back for the first deadlock of some systems. -/
def DeadPost (ss : List Sy) (w : World) (e : Ending) (w' : World) : Prop := ∃ o, e = .returned (pathV o) ∧ (partsOk ss = true → DeadP ss o) ∧ (partsOk ss = false → o = none) ∧ Below w.heap.size w w'

set_option maxRecDepth 100000 in
set_option maxHeartbeats 4000000 in
theorem specDeadlockOf_any (ss : List Sy) (A : Option Addr) (c : Nat) (w : World) (hl : ss.length ≤ c) (hc : c ≤ 9223372036854775807) (hr : SysAt w w.heap.size A ss) :
    Calls Tryd.prog 27 #[.slice A ss.length c] w (DeadPost ss w) := by
  obtain ⟨i0, hi, hz0, hz1, hz2⟩ := info_parts infoInt
  replace hr := hid hr
  cases hp : partsOk ss
  · have hpa : Hid (partsAl ss = -1) := hid (by unfold partsAl; rw [hp]; rfl)
    have hp' := hid hp
    clear hp
    go_enter Tryd.func27, Tryd.ntmps27
    go_wp2_with fail
    refine (specPartsAlphabet_any ss A c w hl hc hr.out).mono ?_
    rintro e w1 ⟨rfl, hb1⟩
    rw [hpa.out]
    go_wp2_with fail
    go_ret2
    exact ⟨none, rfl, fun h => (by rw [hp'.out] at h; cases h), fun _ => rfl, hb1⟩
  · have hpa : Hid (partsAl ss = allAl ss) := hid (by unfold partsAl; rw [hp]; rfl)
    have hall := partsOk_all hp
    have hra := allAl_range ss hall
    have h3 : ss.length ≤ 3 := by
      unfold partsOk at hp
      rw [Bool.and_eq_true, decide_eq_true_iff] at hp
      exact hp.1.2
    have hp' := hid hp
    have hall' := hid hall
    clear hp hall
    have hmk := fun W => run_make_rowN (P := Tryd.prog) 72 3 i0 _ Tryd.underlying72 hi hz0 .i64 .i64 ss.length ss.length (Nat.le_refl _) (by rw [hz2]; omega) (by omega) W
    rw [hz1] at hmk
    obtain ⟨al, hal⟩ : ∃ al, Hid (al = allAl ss) := ⟨_, hid rfl⟩
    rw [← hal.out] at hra hpa
    go_enter Tryd.func27, Tryd.ntmps27
    go_wp2_with fail
    refine (specPartsAlphabet_any ss A c w hl hc hr.out).mono ?_
    rintro e w1 ⟨rfl, hb1⟩
    rw [hpa.out]
    have hr1 := hid (hr.out.later hb1)
    go_wp2_with fail
    obtain ⟨W, hW⟩ : ∃ W, w1.alloc (.cells (madeCells #[Value.int IntKind.i64 0] ss.length) 3) = W := ⟨_, rfl⟩
    rw [hW]
    have hbW : Below w1.heap.size w1 W := by rw [← hW]; exact (Below.refl _ _).alloc (Nat.le_refl _) _
    have hblk : Blk W w1.heap.size 3 (madeCells #[Value.int IntKind.i64 0] ss.length) := by rw [← hW]; exact Blk.new _ _ _
    obtain ⟨qs, hqs⟩ : ∃ qs, Hid (qs = List.replicate ss.length 0) := ⟨_, hid rfl⟩
    have hqlen : qs.length = ss.length := by rw [hqs.out, List.length_replicate]
    have hq0 : ∀ q ∈ qs, q = 0 := fun q hq => by rw [hqs.out] at hq; exact (List.mem_replicate.1 hq).2
    have hqat : NatsAt W W.heap.size (some ⟨w1.heap.size, 0, none⟩) qs := fun _ => ⟨w1.heap.size, 0, rfl, hblk.lt, fun i hi => by
      have h0 : qs[i] = 0 := hq0 _ (List.getElem_mem hi)
      rw [h0, Nat.zero_add]
      have h1 := hblk.cell i
      rw [h1, ← Array.getElem?_toList, toList_madeCells_one]
      rw [List.getElem?_replicate, if_pos (by omega)]
      rfl⟩
    have hsz : (szP ss).length = ss.length := by unfold szP; rw [List.length_map]
    have hS := srch_DeadlockOf ss A c (.slice (some ⟨w1.heap.size, 0, none⟩) qs.length ss.length) al 0 W h3 hall'.out (hr1.out.later hbW)
    have hF := l4First_any (.slice A ss.length c) (.slice none 0 0) al 4 0 (szP ss) qs (chP ss) (fun n => stuckN ss (letters al) n) (some ⟨w1.heap.size, 0, none⟩) ss.length W hS (by omega) (by omega) (by omega) (fun i hi => by
      have h1 : qs.getD i 0 = 0 := by
        rw [List.getD_eq_getElem?_getD, List.getElem?_eq_getElem (by omega), Option.getD_some]
        exact hq0 _ (List.getElem_mem _)
      have h2 := (szP_ok hall'.out _ (List.getElem_mem hi)).1
      rw [h1, List.getD_eq_getElem?_getD, List.getElem?_eq_getElem hi, Option.getD_some]
      omega) hqat
    rw [hqlen] at hF
    refine hF.mono ?_
    rintro e w2 ⟨o, rfl, hout, hb2⟩
    rw [hal.out] at hout
    have hdead := hid (dead_of_net hall'.out (encK_zero hq0 _) hout)
    replace hb2 := hbW.trans (hb2.mono hbW.size)
    clear hS hF hqat hblk hbW hW hout hmk
    obtain ⟨Sv, Fv, hpv⟩ : ∃ Sv Fv, pathV o = .tuple #[.string Sv, .bool Fv] := ⟨_, _, rfl⟩
    rw [hpv]
    have hpv' := hid hpv
    have hB2 := hb1.trans (hb2.mono hb1.size)
    clear hpv
    go_wp2_with fail
    go_ret2
    exact ⟨o, by rw [hpv'.out]; rfl, fun _ => hdead.out, fun h => (by rw [hp'.out] at h; cases h), hB2⟩

end Go.Proofs.YtjhlbeamfngebaaDoor

/- Plain: the traces of systems that run together, and where they are stuck. -/
namespace Go.Proofs.YtjhlbeamfngebaaDoor
open AG

def flt (s : Sy) (r : List Nat) : List Nat := r.filter fun l => decide (l ∈ letters s.al)
theorem flt_cons (s : Sy) (l : Nat) (r : List Nat) : flt s (l :: r) = if l ∈ letters s.al then l :: flt s r else flt s r := by
  unfold flt
  rw [List.filter_cons]
  by_cases h : l ∈ letters s.al <;> simp [h]
theorem flt_mem {s : Sy} {r : List Nat} : ∀ l ∈ flt s r, l ∈ letters s.al := fun l hl => by
  unfold flt at hl
  simpa using (List.mem_filter.1 hl).2
theorem allAl_ok {ss : List Sy} (hall : ss.all sysOk = true) : alphaOk (allAl ss) = true := alphaOk_range.2 (allAl_range ss hall)

/-- Words of parts, seen by each part. -/
theorem trParts_wordS {ss : List Sy} {r : List Nat} (hp : partsOk ss = true) (hr : ∀ l ∈ r, l ∈ letters (allAl ss)) (hl : r.length ≤ 50000) : trParts ss (wordS r) = true ↔ ∀ s ∈ ss, setW s (flt s r) ≠ 0 := by
  have hall := partsOk_all hp
  have h6 : ∀ l ∈ r, l < 6 := fun l h => (letters_lt (hr l h)).1
  have hs : ∀ s ∈ ss, hasTr s (restr (wordS r) s.al) = decide (setW s (flt s r) ≠ 0) := fun s hs => by
    rw [restr_wordS h6]
    exact hasTr_wordS (List.all_eq_true.1 hall s hs) flt_mem (Nat.le_trans (List.length_filter_le _ _) hl)
  rw [trParts_list]
  constructor
  · rintro ⟨_, _, h⟩ s hm
    have := h s hm
    rw [hs s hm] at this
    exact of_decide_eq_true this
  · intro h
    refine ⟨hp, wordS_within (allAl_ok hall) hr hl, fun s hm => ?_⟩
    rw [hs s hm]
    exact decide_eq_true (h s hm)

/-- A node to which a word leads parts. -/
def PR : List Sy → List Nat → Nat → Prop
  | [], _, n => n = 0
  | s :: ss, r, n => ∃ q m, (setW s (flt s r)).testBit q = true ∧ PR ss r m ∧ n = q * prodL (szP ss) + m
theorem setW_bit {s : Sy} (hs : sysOk s = true) {r : List Nat} {q : Nat} (h : (setW s r).testBit q = true) : q < s.st.toNat :=
  testBit_lt (setW_small (sysOk_in hs) (sysOk_st hs).1 r) h
theorem PR_lt : ∀ {ss : List Sy}, ss.all sysOk = true → ∀ {r n}, PR ss r n → n < prodL (szP ss)
  | [], _, _, _, h => by rw [show _ = 0 from h]; exact Nat.one_pos
  | s :: ss, hall, r, n, ⟨q, m, hq, hm, e⟩ => by
    rw [List.all_cons, Bool.and_eq_true] at hall
    have h1 := PR_lt hall.2 hm
    have h2 := setW_bit hall.1 hq
    show n < s.st.toNat * prodL (szP ss)
    have h3 : (q + 1) * prodL (szP ss) ≤ s.st.toNat * prodL (szP ss) := Nat.mul_le_mul_right _ h2
    rw [Nat.add_mul] at h3
    omega
theorem nxParts_shift : ∀ (ss : List Sy) (q m l x : Nat), x ∈ nxParts ss (q * prodL (szP ss) + m) l ↔ x ∈ nxParts ss m l
  | [], q, m, l, x => Iff.rfl
  | s :: ss, q, m, l, x => by
    rw [nxParts_cons, nxParts_cons]
    by_cases h0 : prodL (szP ss) = 0
    · have e : q * prodL (szP (s :: ss)) + m = m := by
        show q * (s.st.toNat * prodL (szP ss)) + m = m
        rw [h0]; simp
      rw [e]
    · have e1 : (q * prodL (szP (s :: ss)) + m) / prodL (szP ss) = q * s.st.toNat + m / prodL (szP ss) := by
        show (q * (s.st.toNat * prodL (szP ss)) + m) / prodL (szP ss) = _
        rw [← Nat.mul_assoc, Nat.mul_comm _ (prodL (szP ss)), Nat.mul_add_div (by omega)]
      have e2 : ∀ y, y ∈ nxParts ss (q * prodL (szP (s :: ss)) + m) l ↔ y ∈ nxParts ss m l := fun y => by
        show y ∈ nxParts ss (q * (s.st.toNat * prodL (szP ss)) + m) l ↔ _
        rw [← Nat.mul_assoc]
        exact nxParts_shift ss _ m l y
      have e3 : stepQ s (q * s.st.toNat + m / prodL (szP ss)) l = stepQ s (m / prodL (szP ss)) l := by
        unfold stepQ
        rw [Nat.add_comm, Nat.mul_comm, Nat.add_mul_mod_self_left]
      rw [e1, e3]
      constructor
      · rintro ⟨a, ha, b, hb, e⟩; exact ⟨a, ha, b, (e2 b).1 hb, e⟩
      · rintro ⟨a, ha, b, hb, e⟩; exact ⟨a, ha, b, (e2 b).2 hb, e⟩
/-- One letter more, seen by one part. -/
theorem step_one {s : Sy} (hs : sysOk s = true) {l : Nat} (hl : l < 6) (r : List Nat) (t : Nat) : (setW s (flt s (l :: r))).testBit t = true ↔ ∃ q, (setW s (flt s r)).testBit q = true ∧ t ∈ stepQ s q l := by
  have hz : HasZ s.al (l : Int) = true ↔ l ∈ letters s.al := by
    rw [letters_ok]
    unfold HasZ
    simp [hl]
  rw [flt_cons]
  by_cases h : l ∈ letters s.al
  · rw [if_pos h]
    show (stepSet s (setW s (flt s r)) (l : Int)).testBit t = true ↔ _
    rw [← unionOf_mv s (sysOk_in hs), unionOf_testBit]
    constructor
    · rintro ⟨h1, q, h2, h3⟩
      refine ⟨q, h2, ?_⟩
      unfold stepQ
      rw [if_pos (hz.2 h), Nat.mod_eq_of_lt (setW_bit hs h2), memL_mem]
      exact ⟨h1, h3⟩
    · rintro ⟨q, h2, h3⟩
      unfold stepQ at h3
      rw [if_pos (hz.2 h), Nat.mod_eq_of_lt (setW_bit hs h2), memL_mem] at h3
      exact ⟨h3.1, q, h2, h3.2⟩
  · rw [if_neg h]
    constructor
    · intro h1
      refine ⟨t, h1, ?_⟩
      unfold stepQ
      rw [if_neg (fun k => h (hz.1 k)), Nat.mod_eq_of_lt (setW_bit hs h1), List.mem_singleton]
    · rintro ⟨q, h2, h3⟩
      unfold stepQ at h3
      rw [if_neg (fun k => h (hz.1 k)), Nat.mod_eq_of_lt (setW_bit hs h2), List.mem_singleton] at h3
      rw [h3]
      exact h2
theorem PR_nil : ∀ {ss : List Sy}, ss.all sysOk = true → ∀ n, PR ss [] n ↔ n = 0
  | [], _, n => Iff.rfl
  | s :: ss, hall, n => by
    rw [List.all_cons, Bool.and_eq_true] at hall
    show (∃ q m, (1 : Nat).testBit q = true ∧ PR ss [] m ∧ n = q * prodL (szP ss) + m) ↔ n = 0
    have hb : ∀ q, (1 : Nat).testBit q = true ↔ q = 0 := fun q => by
      have := Nat.testBit_two_pow (n := 0) (m := q)
      rw [show (1 : Nat) = 2 ^ 0 from rfl, this, decide_eq_true_iff]
      omega
    constructor
    · rintro ⟨q, m, h1, h2, e⟩
      rw [(hb q).1 h1, (PR_nil hall.2 m).1 h2] at e
      simpa using e
    · rintro rfl
      exact ⟨0, 0, (hb 0).2 rfl, (PR_nil hall.2 0).2 rfl, by simp⟩
theorem PR_cons : ∀ {ss : List Sy}, ss.all sysOk = true → ∀ {l : Nat}, l < 6 → ∀ (r : List Nat) (n : Nat), PR ss (l :: r) n ↔ ∃ m, PR ss r m ∧ n ∈ nxParts ss m l
  | [], _, l, _, r, n => by
    show n = 0 ↔ ∃ m, m = 0 ∧ n ∈ [0]
    simp
  | s :: ss, hall, l, hl, r, n => by
    rw [List.all_cons, Bool.and_eq_true] at hall
    have hp : 0 < prodL (szP ss) := prodL_pos fun a ha => (szP_ok hall.2 a ha).1
    have hdiv : ∀ q m, m < prodL (szP ss) → (q * prodL (szP ss) + m) / prodL (szP ss) = q := fun q m hm => by
      rw [Nat.mul_comm, Nat.mul_add_div hp, Nat.div_eq_of_lt hm, Nat.add_zero]
    constructor
    · rintro ⟨t, n', h1, h2, rfl⟩
      obtain ⟨q, h3, h4⟩ := (step_one hall.1 hl r t).1 h1
      obtain ⟨m, h5, h6⟩ := (PR_cons hall.2 hl r n').1 h2
      refine ⟨q * prodL (szP ss) + m, ⟨q, m, h3, h5, rfl⟩, ?_⟩
      rw [nxParts_cons, hdiv q m (PR_lt hall.2 h5)]
      exact ⟨t, h4, n', (nxParts_shift ss q m l n').2 h6, rfl⟩
    · rintro ⟨_, ⟨q, m, h3, h5, rfl⟩, hn⟩
      rw [nxParts_cons, hdiv q m (PR_lt hall.2 h5)] at hn
      obtain ⟨t, h4, n', h6, rfl⟩ := hn
      exact ⟨t, n', (step_one hall.1 hl r t).2 ⟨q, h3, h4⟩, (PR_cons hall.2 hl r n').2 ⟨m, h5, (nxParts_shift ss q m l n').1 h6⟩, rfl⟩
theorem RW_PR {ss : List Sy} (hall : ss.all sysOk = true) : ∀ (r : List Nat) (n : Nat), RW (fun m => m ∈ [0]) (letters (allAl ss)) (nxParts ss) r n ↔ (∀ l ∈ r, l ∈ letters (allAl ss)) ∧ PR ss r n
  | [], n => by
    show n ∈ [0] ↔ _
    rw [PR_nil hall, List.mem_singleton]
    exact ⟨fun h => ⟨fun l hl => (by cases hl), h⟩, fun h => h.2⟩
  | l :: r, n => by
    show (l ∈ letters (allAl ss) ∧ ∃ m, RW _ _ _ r m ∧ n ∈ nxParts ss m l) ↔ _
    constructor
    · rintro ⟨h1, m, h2, h3⟩
      obtain ⟨h4, h5⟩ := (RW_PR hall r m).1 h2
      refine ⟨fun x hx => ?_, (PR_cons hall (letters_lt h1).1 r n).2 ⟨m, h5, h3⟩⟩
      rcases List.mem_cons.1 hx with rfl | hx
      · exact h1
      · exact h4 x hx
    · rintro ⟨h1, h2⟩
      have hl := h1 l List.mem_cons_self
      obtain ⟨m, h3, h4⟩ := (PR_cons hall (letters_lt hl).1 r n).1 h2
      exact ⟨hl, m, (RW_PR hall r m).2 ⟨fun x hx => h1 x (List.mem_cons_of_mem _ hx), h3⟩, h4⟩
theorem PR_some : ∀ (ss : List Sy) (r : List Nat), (∃ n, PR ss r n) ↔ ∀ s ∈ ss, setW s (flt s r) ≠ 0
  | [], r => ⟨fun _ s hs => (by cases hs), fun _ => ⟨0, rfl⟩⟩
  | s :: ss, r => by
    constructor
    · rintro ⟨n, q, m, h1, h2, -⟩ x hx
      rcases List.mem_cons.1 hx with rfl | hx
      · intro h
        rw [h] at h1
        simp at h1
      · exact (PR_some ss r).1 ⟨m, h2⟩ x hx
    · intro h
      obtain ⟨m, hm⟩ := (PR_some ss r).2 fun x hx => h x (List.mem_cons_of_mem _ hx)
      obtain ⟨q, hq⟩ := Nat.exists_testBit_of_ne_zero (h s List.mem_cons_self)
      exact ⟨_, q, m, hq, hm, rfl⟩
/-- A word of parts leads to a node. -/
theorem tr_node {ss : List Sy} (hp : partsOk ss = true) {r : List Nat} (hr : ∀ l ∈ r, l ∈ letters (allAl ss)) (hl : r.length ≤ 50000) : trParts ss (wordS r) = true ↔ ∃ n, RW (fun m => m ∈ [0]) (letters (allAl ss)) (nxParts ss) r n := by
  rw [trParts_wordS hp hr hl, ← PR_some]
  constructor
  · rintro ⟨n, h⟩; exact ⟨n, (RW_PR (partsOk_all hp) r n).2 ⟨hr, h⟩⟩
  · rintro ⟨n, h⟩; exact ⟨n, ((RW_PR (partsOk_all hp) r n).1 h).2⟩
theorem tr_within {ss : List Sy} {x : ByteArray} (h : trParts ss x = true) : partsOk ss = true ∧ within x (allAl ss) = true := by
  obtain ⟨h1, h2, -⟩ := (trParts_list ss x).1 h
  exact ⟨h1, h2⟩
/-- A found word is a trace. -/
theorem dead_trace {ss : List Sy} (hp : partsOk ss = true) {r : List Nat} (h : DeadP ss (some r)) : trParts ss (wordS r) = true ∧ r.length < 4096 ∧ ∀ l ∈ r, l ∈ letters (allAl ss) := by
  have hall := partsOk_all hp
  have h3 : ss.length ≤ 3 := by
    unfold partsOk at hp
    rw [Bool.and_eq_true, decide_eq_true_iff] at hp
    exact hp.1.2
  have hl := first_short h (N := prodL (szP ss)) fun q n hq => PR_lt hall ((RW_PR hall q n).1 hq).2
  have h4 := (prodP_4096 hall h3).2
  obtain ⟨⟨n, hn, -⟩, -⟩ := h
  have hm := ((RW_PR hall r n).1 hn).1
  exact ⟨(tr_node hp hm (by omega)).2 ⟨n, hn⟩, by omega, hm⟩
theorem not_stuck {ss : List Sy} {L : List Nat} {n : Nat} (h : stuckP ss L n ≠ true) : ∃ l ∈ L, ∃ m, m ∈ nxParts ss n l := by
  unfold stuckP at h
  rw [ne_eq, Bool.not_eq_true, List.all_eq_false] at h
  obtain ⟨l, hl, h⟩ := h
  refine ⟨l, hl, ?_⟩
  cases e : nxParts ss n l with
  | nil => rw [e] at h; simp at h
  | cons m _ => exact ⟨m, List.mem_cons_self⟩
/-- A trace goes on where its node is not stuck. -/
theorem goes_on {ss : List Sy} (hp : partsOk ss = true) {r : List Nat} (hl : r.length < 50000) {n : Nat} (hn : RW (fun m => m ∈ [0]) (letters (allAl ss)) (nxParts ss) r n) (h : stuckP ss (letters (allAl ss)) n ≠ true) : ∃ c, c < 6 ∧ trParts ss (wordS r ++ ⟨#[letB c]⟩) = true := by
  obtain ⟨l, hl', m, hm⟩ := not_stuck h
  refine ⟨l, (letters_lt hl').1, ?_⟩
  rw [wordS_cons]
  have hr := ((RW_PR (partsOk_all hp) r n).1 hn).1
  refine (tr_node hp (fun x hx => ?_) (by simp; omega)).2 ⟨m, hl', n, hn, hm⟩
  rcases List.mem_cons.1 hx with rfl | hx
  · exact hl'
  · exact hr x hx
/-- Before the first deadlock parts can always go on. -/
theorem before_goes_on {ss : List Sy} {r q : List Nat} (h : DeadP ss (some r)) (hv : trParts ss (wordS q) = true) (hq : ∀ l ∈ q, l ∈ letters (allAl ss)) (hs : q.length < 50000) (hb : ¬ rle r q) : ∃ c, c < 6 ∧ trParts ss (wordS q ++ ⟨#[letB c]⟩) = true := by
  obtain ⟨hp, -⟩ := tr_within hv
  obtain ⟨n, hn⟩ := (tr_node hp hq (by omega)).1 hv
  exact goes_on hp hs hn fun hg => hb (h.2 q n hn hg)
end Go.Proofs.YtjhlbeamfngebaaDoor

/- How a slice of edges, a system, a slice of systems read as data: opened to cells. -/
namespace AG
open Go Go.RowKit Go.ChangeShapes Go.WideShapes Go.Deep

section
variable {H : Type} {enc : TypeId × Value → H} {P : Program} {w : World} {base : Nat} {spare : Nat → Bool} {held : Bool}
theorem add_at (b o n : Nat) : (⟨b, o, none⟩ : Addr).add n = ⟨b, o + n, none⟩ := by
  unfold Addr.add
  split
  · subst_vars; rfl
  · rfl

end

section
variable {H : Type} {enc : TypeId × Value → H} {P : Program}
/-- An argument reads behind the call as it did. -/
theorem trod_later {t : TypeId} (hl : laidOutB P = true) (hr : P.readableRec t = true) (hrow : t < P.types.size) {W W' : World} {v : Value} {d : DataW H} {ps : List MemPlace} {sp : Nat → Bool}
    (h : DataW.Trod enc P W 0 (fun _ => true) true t v d ps) (hb : Below W.heap.size W W') (hlt : ∀ x ∈ ps, x.block < W.heap.size) (hsp : ∀ x ∈ ps, sp x.block = true) : DataW.Trod enc P W' 0 sp true t v d ps :=
  WideElems.Trod_stays hl hr hrow h (fun x hx => hb.same (hlt x hx)) hsp
/-- The row's last step where of the world behind the call 'Below' is known. -/
theorem post_of_below {f : Func} {s : ChangeSpec} {apart fresh handsOn again : Bool} {W W' : World} {args : Array Value} {v : Value} {ds gs : List (DataW H)} {before pa pv : List MemPlace}
    (hW : DataW.Whole enc P f.params.toList s.vars apart W args.toList ds gs before)
    (hres : ∀ (b : Nat) (sp : Nat → Bool) (hd : Bool), DataW.TrodAll enc P W' b sp hd f.resultTypes.toList (v.resultList f.resultTypes.size) (s.fn H (ds ++ gs)).results [])
    (hargs : ∀ sp : Nat → Bool, (∀ p ∈ before, sp p.block = true) → DataW.TrodAll enc P W' 0 sp true f.params.toList args.toList (s.fn H (ds ++ gs)).args pa)
    (hvars : ∀ sp : Nat → Bool, (∀ p ∈ before, sp p.block = true) → DataW.TrodVars enc P W' sp s.vars (s.fn H (ds ++ gs)).vars pv)
    (hps : before = pa ++ pv) (hb : Below W.heap.size W W')
    (hok : ∀ (j : Nat) (t : TypeId) (r : Value), f.resultTypes[j]? = some t → (v.resultList f.resultTypes.size)[j]? = some r → Value.okWide P W' .any 0 t r) :
    s.post enc P f apart fresh handsOn again W args v W' := by
  have hlt : ∀ p ∈ before, p.block < W.heap.size := fun p hp => hW.lt p hp
  have hold : ∀ p ∈ before, (fun b => decide (b < W.heap.size)) p.block = true := fun p hp => by simpa using hlt p hp
  refine ⟨ds, gs, before, [], pa, pv, hW, hres _ _ _, hargs _ hold, hvars _ hold, World.keptBut_mono (fun p hp => ⟨hp, ?_⟩) (hb.frame (· ∈ before)), fun _ => ?_⟩
  · rw [hps, List.mem_append] at hp
    exact Or.inr hp
  · obtain ⟨_, _, _, _, _, hz, hn⟩ := hW
    refine ⟨hok, _, _, ([] ++ pa) ++ pv, ⟨[] ++ pa, pv, trodAll_append (hargs _ (fun _ _ => rfl)) (hres _ _ _), hvars _ (fun _ _ => rfl), rfl, ?_, ?_⟩, ?_⟩
    · intro b off hp
      have hin : MemPlace.cell b off ∈ before := by rw [hps]; simpa using hp
      rw [hb.frozen (hlt _ hin)]
      exact hz b off hin
    · intro ha
      have := hn ha
      rw [hps] at this
      simpa using this
    · intro p hp _
      rw [hps]
      simpa using hp
end
end AG

/- A slice of bytes that came in. -/
namespace Go.Proofs.YtjhlbeamfngebaaDoor
open Go.RowKit Go.ChangeShapes Go.WideShapes AG

theorem cells_u8 : Tryd.prog.cellsOf 5 = 1 := by kernel_rfl

theorem open_code {H : Type} {enc : TypeId × Value → H} {W : World} {A : Option Addr} {n c fuel : Nat} {x : DataW H × List MemPlace} (h : DataW.trod enc Tryd.prog W 0 (fun _ => true) true fuel 22 [.slice A n c] = some x) :
    n ≤ c ∧ c ≤ 9223372036854775807 ∧ CodeAt W A n := by
  rcases open_ints Tryd.underlying22 Tryd.underlying5 cells_u8 h with ⟨hcs, _⟩ | ⟨a, len, cap, zs, hcs, _, hl, hm, hz, _, hcell, hwf⟩
  · simp only [List.cons.injEq, Value.slice.injEq, and_true] at hcs
    obtain ⟨rfl, rfl, rfl⟩ := hcs
    exact ⟨Nat.le_refl _, by omega, fun h => by omega⟩
  · simp only [List.cons.injEq, Value.slice.injEq, and_true] at hcs
    obtain ⟨rfl, rfl, rfl⟩ := hcs
    unfold maxLen at hm
    simp only [if_true] at hz
    refine ⟨hl, by omega, fun hn => ?_⟩
    obtain ⟨b, o, sp⟩ := a
    have hsp : sp = none := by simpa [Addr.add] using World.cell?_spot (hcell 0 (by omega))
    subst hsp
    refine ⟨b, o, rfl, World.block_lt_of_cell? _ _ (by simpa [Addr.add] using hcell 0 (by omega)), fun i hi => ?_⟩
    have h1 := hcell i (by omega)
    rw [add_at] at h1
    have hmem : zs.getD i 0 ∈ zs := by
      have : i < zs.length := by omega
      rw [List.getD_eq_getElem?_getD, List.getElem?_eq_getElem this]
      exact List.getElem_mem _
    have h2 := hwf _ hmem
    have h3 : 0 ≤ zs.getD i 0 ∧ zs.getD i 0 < 256 := by
      have h4 : IntKind.u8.min ≤ zs.getD i 0 ∧ zs.getD i 0 ≤ IntKind.u8.max := by simpa [Lit.wf] using h2
      have e1 : IntKind.u8.min = 0 := by decide
      have e2 : IntKind.u8.max = 255 := by decide
      omega
    obtain ⟨y, hy⟩ := Int.eq_ofNat_of_zero_le h3.1
    rw [hy] at h1
    exact ⟨y, by omega, h1⟩

end Go.Proofs.YtjhlbeamfngebaaDoor

/- Both IsDeterministic return detB. -/
namespace Go.Proofs.YtjhlbeamfngebaaDoor
open Go.RowKit Go.BigFrame AG

theorem detAt.next {s : Sy} {S k : Nat} (h : detAt s S k) (hlt : k + 1 < s.es.length) (hn : ¬ (Has (S : Int) s.es[k].f.toNat = true ∧ s.es[k].f = s.es[k + 1].f ∧ s.es[k].l = s.es[k + 1].l)) : detAt s S (k + 1) := fun i hi hik => by
  by_cases e : i = k
  · subst e
    exact hn
  · exact h i hi (by omega)

end Go.Proofs.YtjhlbeamfngebaaDoor

/- Restricted words: the reference's RestrictWord, the program's restrict. -/
namespace Go.Proofs.YtjhlbeamfngebaaDoor
open Go.RowKit Go.BigFrame AG

theorem infoByte8 : (Tryd.prog.info? 5).map (fun i => (i.zero, i.size, i.bytes)) = some (some (.int .u8 0), 1, 1) := by kernel_rfl

def byteVals (l : List UInt8) : List Value := l.map fun b => Value.int .u8 (b.toNat : Int)

/-- string(b) of owned bytes. -/
theorem conv_own {w : World} {B : Nat} {v : Value} {l : List UInt8} (h : w.ownsRow B 5 1 v l.length (byteVals l)) : (convert 22 9 v).run Tryd.prog w = .ok (.string ⟨l.toArray⟩) w := by
  by_cases h0 : 0 < l.length
  · obtain ⟨g, cap, rfl, h1, h2, h3, h4, h5⟩ := own_shape h h0
    refine run_convert_bytes_back (P := Tryd.prog) w 22 9 5 ⟨g, 0, none⟩ cap l Tryd.underlying22 Tryd.underlying5 Tryd.underlying9 (fun j hj => ?_)
    have := h5 j (.int .u8 (l[j].toNat : Int)) (by unfold byteVals; simp [List.getElem?_eq_getElem hj])
    rw [show ((⟨g, 0, none⟩ : Addr).add j) = ⟨g, j, none⟩ from by unfold Addr.add; split <;> simp_all]
    exact this
  · obtain ⟨A, c, rfl, -, -⟩ := own_slice h
    obtain rfl : l = [] := List.length_eq_zero_iff.1 (by omega)
    rw [show ([] : List UInt8).length = 0 from rfl, run_convert_bytes_string w 22 9 5 A 0 c Tryd.underlying22 Tryd.underlying5 Tryd.underlying9]
    cases A <;> simp [Conv.bytesToString, loadCells]
    all_goals rfl

/-- A byte is appended. -/
theorem bytes_next {w wr w1 : World} {l : List UInt8} {b : UInt8} {n : Int} {v v' : Value} {c : Array Value} {t : TypeId} (hn : n = (b.toNat : Int)) (hB : w.heap.size ≤ wr.heap.size) (hown : wr.ownsRow w.heap.size 5 1 v l.length (byteVals l)) (hb : Below w.heap.size w wr)
    (hown' : w1.ownsRow w.heap.size 5 1 v' (l.length + 1) (byteVals l ++ [.int .u8 n])) (hgrow : (wr.alloc (.cells c t)).grownBy w1 v.ownBlock) :
    w1.ownsRow w.heap.size 5 1 v' (l ++ [b]).length (byteVals (l ++ [b])) ∧ Below w.heap.size w w1 := by
  subst hn
  refine ⟨?_, Below.grown (hb.alloc hB _) hgrow (by simp; omega) (own_block hown)⟩
  unfold byteVals at hown' ⊢
  rw [List.length_append, List.map_append]
  exact hown'

theorem keptTo_hit {s : ByteArray} {al : Int} {k : Nat} (h : HasZ al (ltr s k) = true) : keptTo s al (k + 1) = keptTo s al k ++ [s.data.getD k 0] := by rw [keptTo, if_pos h]
theorem keptTo_miss {s : ByteArray} {al : Int} {k : Nat} (h : HasZ al (ltr s k) = false) : keptTo s al (k + 1) = keptTo s al k := by rw [keptTo, if_neg (by rw [h]; simp)]
theorem byte_val (s : ByteArray) (k : Nat) : lz s k + 97 = ((s.data.getD k 0).toNat : Int) := by unfold lz; omega

set_option maxRecDepth 100000 in
set_option maxHeartbeats 2000000 in
theorem restrict_any (s : ByteArray) (al : Int) (w : World) (hz : s.size ≤ 50000) :
    Calls Tryd.prog 86 #[.string s, .int .i64 al] w fun e w' => e = .returned (.string (restr s al)) ∧ Below w.heap.size w w' := by
  obtain ⟨i0, hi, hz0, hz1, hz2⟩ := info_parts infoByte8
  go_enter Tryd.func86, Tryd.ntmps86
  go_wp2_with fail
  go_loopw [5, 9] (fun v i wr => ∃ k : Nat, i = .int .i64 k ∧ k ≤ s.size ∧ wr.ownsRow w.heap.size 5 1 v (keptTo s al k).length (byteVals (keptTo s al k)) ∧ Below w.heap.size w wr) (fun _ i _ => s.size - (intOf i).toNat)
  case atStart => exact ⟨0, rfl, by omega, World.ownsRow_nil _ _ _ _, Below.refl _ _⟩
  case round =>
    obtain ⟨k, rfl, hk, hown, hb⟩ := hrel
    have hzr := hb.size
    have hlen := keptTo_len s al k
    by_cases hlt : k < s.size
    · have h63 : ltr s k ≤ 63 := by unfold ltr lOk; split; rename_i h; have := of_decide_eq_true h; omega; omega
      cases hh : HasZ al (ltr s k)
      · have hnx := hid (keptTo_miss hh)
        replace hh := hid hh
        replace hown := hid hown
        go_wp2_with (first
          | (go_at_call 145; refine (letterAt_any s k _ hlt).mono ?_; rintro e w' ⟨rfl, rfl⟩)
          | (go_at_call 94; refine (has_any al _ _ h63).mono ?_; rintro e w' ⟨rfl, rfl⟩; rw [hh.out]))
        go_roundw
        case rel => exact ⟨k + 1, by go_num, by omega, by rw [hnx.out]; exact hown.out, hb⟩
        case measure => simp [intOf]; omega
      · have hnx := hid (keptTo_hit hh)
        have hbv := byte_at s k hlt
        have h0 : (0 : Int) ≤ (k : Int) ∧ (k : Int) < (s.size : Int) := by omega
        replace hh := hid hh
        go_wp2_with (first
          | (go_at_call 145; refine (letterAt_any s k _ hlt).mono ?_; rintro e w' ⟨rfl, rfl⟩)
          | (go_at_call 94; refine (has_any al _ _ h63).mono ?_; rintro e w' ⟨rfl, rfl⟩; rw [hh.out])
          | (at_builtin; refine wpList_append_own _ rfl _ _ 22 rfl w.heap.size 5 i0 (.int .u8 0) 1 1 Tryd.underlying22 hi hz0 hz1 hz2 rfl (by decide) _ _ _ rfl (hown.alloc _) ⟨wr.heap.size, 0, none⟩ 1 1 [.int .u8 (lz s k + 97)] rfl rfl (cell_one_new _ _ _) (by intro u hu; simp at hu; subst hu; rfl) (by unfold maxLen; omega) (by omega) (by simp; omega) ?_; intro v' w1 hown' hgrow _))
        have R := bytes_next (byte_val s k) hzr hown hb hown' hgrow
        clear hown' hgrow hown hb
        go_roundw
        case rel => exact ⟨k + 1, by go_num, by omega, by rw [hnx.out]; exact R.1, R.2⟩
        case measure => simp [intOf]; omega
    · obtain rfl : k = s.size := by omega
      have kc := conv_own hown
      replace hown := hid hown
      go_wp2
      go_ret
      exact ⟨rfl, hb⟩

end Go.Proofs.YtjhlbeamfngebaaDoor

/- The states behind a word: both StatesAfter and HasTrace. -/
namespace Go.Proofs.YtjhlbeamfngebaaDoor
open Go.RowKit Go.BigFrame AG

set_option maxRecDepth 100000 in
set_option maxHeartbeats 1000000 in
theorem implStatesAfter_any (s : Sy) (A : Option Addr) (c : Nat) (x : ByteArray) (w : World) (hz : x.size ≤ 9223372036854775807) (hl : s.es.length ≤ c) (hc : c ≤ 9223372036854775807) (hT : Tab w) (hr : EdsAt w w.heap.size A s.es) :
    Calls Tryd.prog 105 #[s.val A c, .string x] w fun e w' => e = .returned (.int .i64 (aft s x : Nat)) ∧ Below w.heap.size w w' := by
  unfold Sy.val
  replace hr := hid hr
  replace hT := hid hT
  cases hok : sysOk s
  · have hfin : Hid (aft s x = 0) := hid (by unfold aft; rw [hok]; rfl)
    replace hok := hid hok
    go_enter Tryd.func105, Tryd.ntmps105
    go_wp2_with fail
    obtain ⟨w0, hw0, hz0, hB0, hS0, hS1, hS2⟩ := boxed3 w (Value.int IntKind.i64 s.al) (Value.int IntKind.i64 s.st) (Value.slice A s.es.length c) 37
    rw [hw0]
    clear hw0
    have hr0 := hid ((hr.out.keep hB0).more (show w.heap.size ≤ w0.heap.size by omega))
    refine (implSystemValid_any s A c w0 hl hc hr0.out).mono ?_
    rintro e w1 ⟨rfl, hb1⟩
    rw [hok.out]
    have hB1 : Below w.heap.size w w1 := hB0.trans (hb1.mono (by omega))
    have hb1' := hb1.mono hz0
    go_wp2
    go_ret
    exact ⟨ret_int (by rw [hfin.out]; rfl), hB1⟩
  · cases hwi : within x s.al
    all_goals
      have hok2 := hid hok
      have hwi2 := hid hwi
      replace hok := hid hok
      replace hwi := hid hwi
      go_enter Tryd.func105, Tryd.ntmps105
      go_wp2_with fail
      obtain ⟨w0, hw0, hz0, hB0, hS0, hS1, hS2⟩ := boxed3 w (Value.int IntKind.i64 s.al) (Value.int IntKind.i64 s.st) (Value.slice A s.es.length c) 37
      rw [hw0]
      clear hw0
      have hr0 := hid ((hr.out.keep hB0).more (show w.heap.size ≤ w0.heap.size by omega))
      refine (implSystemValid_any s A c w0 hl hc hr0.out).mono ?_
      rintro e w1 ⟨rfl, hb1⟩
      rw [hok.out]
      have hB1 : Below w.heap.size w w1 := hB0.trans (hb1.mono (by omega))
      have hb1' := hb1.mono hz0
      have hr1 := hid (hr0.out.later hb1)
      have q0 := hS0 _ hb1'
      have q1 := hS1 _ hb1'
      have q2 := hS2 _ hb1'
    · have hfin : Hid (aft s x = 0) := hid (by unfold aft; rw [hok2.out, hwi2.out]; rfl)
      go_wp2_with (go_at_call 85; refine (implWordWithin_any x s.al _ hz).mono ?_; rintro e w' ⟨rfl, rfl⟩; rw [hwi.out])
      go_ret
      exact ⟨ret_int (by rw [hfin.out]; rfl), hB1⟩
    · have hfin : Hid (aft s x = runTo s x x.size) := hid (by unfold aft; rw [hok2.out, hwi2.out]; rfl)
      have h5 := within_size hwi2.out
      go_wp2_with (first
        | (go_at_call 85; refine (implWordWithin_any x s.al _ hz).mono ?_; rintro e w' ⟨rfl, rfl⟩; rw [hwi.out])
        | (go_at_call 97; refine (movesOf_any s A c _ (sysOk_in hok2.out) hl hc hr1.out).mono ?_; rintro e w2 ⟨g, rfl, hg, hb2⟩))
      have hB2 : Below w.heap.size w w2 := hB1.trans (hb2.mono hB1.size)
      have hT2 := hid (hT.out.later hB2)
      replace hg := hid hg
      go_loopw [6, 7] (fun st i wr => ∃ (T k : Nat), st = .int .i64 T ∧ i = .int .i64 k ∧ k ≤ x.size ∧ T = runTo s x k ∧ Below w2.heap.size w2 wr) (fun _ i _ => x.size - (intOf i).toNat)
      case atStart => exact ⟨1, 0, rfl, rfl, by omega, rfl, Below.refl _ _⟩
      case round =>
        obtain ⟨T, k, rfl, rfl, hk, hT', hb⟩ := hrel
        have hTl : T < 65536 := by rw [hT']; exact runTo_lt s x k
        replace hT' := hid hT'
        have hB3 : Below w.heap.size w wr := hB2.trans (hb.mono hB2.size)
        by_cases hlt : k < x.size
        · by_cases hT0 : T = 0
          · have hd : ((T : Int) != 0) = false := by subst hT0; rfl
            have hfin2 := hid (runTo_done (s := s) (w := x) (k := k) (by rw [← hT'.out]; exact hT0) hk)
            replace hT0 := hid hT0
            go_wp2
            go_ret
            exact ⟨ret_int (by rw [hfin.out, hfin2.out, hT0.out]), hB3⟩
          · have hd : ((T : Int) != 0) = true := by simpa using hT0
            replace hT0 := hid hT0
            have hlr := wordOk_at (within_word hwi2.out) hlt
            have hle := ltr_ok hlr
            obtain ⟨l, hll⟩ := Int.eq_ofNat_of_zero_le hlr.1
            have hl6 : l < 6 := by omega
            have hnx : Hid (unionOf (mv s) T l = runTo s x (k + 1)) := hid (by rw [runTo, unionOf_mv s (sysOk_in hok2.out), ← hll, hT'.out])
            have hle2 : Hid (ltr x k = (l : Int)) := hid (by rw [hle, hll])
            have hgr := hid (hg.out.later hb)
            have hTr := hid (hT2.out.later hb)
            have hzr := hb.size
            replace hll := hid hll
            replace hle := hid hle
            go_wp2_with (first
              | (go_at_call 145; refine (letterAt_any x k _ hlt).mono ?_; rintro e w' ⟨rfl, rfl⟩; rw [hle2.out])
              | (go_at_call 99; refine (step_any (mv s) g T l _ hl6 (fun q => mv_lt s q l) hTl hTr.out hgr.out).mono ?_; rintro e w3 ⟨rfl, hb3⟩))
            have hb4 := hb.trans (hb3.mono hzr)
            go_roundw
            case rel => exact ⟨_, k + 1, rfl, by go_num, by omega, hnx.out, hb4⟩
            case measure => simp [intOf]; omega
        · obtain rfl : k = x.size := by omega
          go_wp2
          go_ret
          exact ⟨ret_int (by rw [hfin.out, hT'.out]), hB3⟩

set_option maxRecDepth 100000 in
set_option maxHeartbeats 1000000 in
theorem implHasTrace_any (s : Sy) (A : Option Addr) (c : Nat) (x : ByteArray) (w : World) (hz : x.size ≤ 9223372036854775807) (hl : s.es.length ≤ c) (hc : c ≤ 9223372036854775807) (hT : Tab w) (hr : EdsAt w w.heap.size A s.es) :
    Calls Tryd.prog 43 #[s.val A c, .string x] w fun e w' => e = .returned (.bool (hasTr s x)) ∧ Below w.heap.size w w' := by
  unfold Sy.val
  replace hr := hid hr
  replace hT := hid hT
  have hfin : Hid (hasTr s x = ((aft s x : Int) != 0)) := hid (by unfold hasTr; rw [Bool.eq_iff_iff]; simp)
  go_enter Tryd.func43, Tryd.ntmps43
  go_wp2_with fail
  obtain ⟨w0, hw0, hz0, hB0, hS0, hS1, hS2⟩ := boxed3 w (Value.int IntKind.i64 s.al) (Value.int IntKind.i64 s.st) (Value.slice A s.es.length c) 37
  rw [hw0]
  clear hw0
  have hr0 := hid ((hr.out.keep hB0).more (show w.heap.size ≤ w0.heap.size by omega))
  have hT0 := hid (hT.out.later hB0)
  refine (implStatesAfter_any s A c x w0 hz hl hc hT0.out hr0.out).mono ?_
  rintro e w1 ⟨rfl, hb1⟩
  have hB1 : Below w.heap.size w w1 := hB0.trans (hb1.mono (by omega))
  go_wp2
  go_ret
  exact ⟨ret_bool (by rw [hfin.out]), hB1⟩

end Go.Proofs.YtjhlbeamfngebaaDoor

/- Both TraceOfParts. -/
namespace Go.Proofs.YtjhlbeamfngebaaDoor
open Go.RowKit Go.BigFrame AG

theorem restr_size (x : ByteArray) (al : Int) : (restr x al).size ≤ x.size := by
  have := keptTo_len x al x.size
  show (keptTo x al x.size).toArray.size ≤ x.size
  rw [List.size_toArray]
  exact this

theorem trParts_bad {ss : List Sy} {x : ByteArray} (h : partsOk ss = false) : trParts ss x = false := by
  unfold trParts
  exact decide_eq_false (fun g => by rw [h] at g; cases g.1)
theorem trParts_out {ss : List Sy} {x : ByteArray} (h : within x (allAl ss) = false) : trParts ss x = false := by
  unfold trParts
  exact decide_eq_false (fun g => by rw [h] at g; cases g.2.1)
theorem trParts_miss {ss : List Sy} {x : ByteArray} {k : Nat} (hk : k < ss.length) (h : hasTr ss[k] (restr x ss[k].al) = false) : trParts ss x = false := by
  unfold trParts
  exact decide_eq_false (fun g => by have := g.2.2 k hk; rw [h] at this; cases this)

set_option maxRecDepth 100000 in
set_option maxHeartbeats 1000000 in
theorem implTraceOfParts_any (ss : List Sy) (A : Option Addr) (c : Nat) (x : ByteArray) (w : World) (hz : x.size ≤ 9223372036854775807) (hl : ss.length ≤ c) (hc : c ≤ 9223372036854775807) (hT : Tab w) (hr : SysAt w w.heap.size A ss) :
    Calls Tryd.prog 33 #[.slice A ss.length c, .string x] w fun e w' => e = .returned (.bool (trParts ss x)) ∧ Below w.heap.size w w' := by
  replace hr := hid hr
  replace hT := hid hT
  cases hp : partsOk ss
  · have hfin := hid (trParts_bad (x := x) hp)
    replace hp := hid hp
    go_enter Tryd.func33, Tryd.ntmps33
    go_wp2_with (go_at_call 76; refine (areParts_any ss A c w hl hc hr.out).mono ?_; rintro e w1 ⟨rfl, hb1⟩; rw [hp.out])
    go_ret
    exact ⟨ret_bool (by rw [hfin.out]), hb1⟩
  · have hall : ss.all sysOk = true := by unfold partsOk at hp; rw [Bool.and_eq_true] at hp; exact hp.2
    have hal : Hid (partsAl ss = allAl ss) := hid (by unfold partsAl; rw [hp]; rfl)
    have hp2 := hid hp
    replace hp := hid hp
    replace hall := hid hall
    cases hwi : within x (allAl ss)
    · have hfin := hid (trParts_out hwi)
      replace hwi := hid hwi
      go_enter Tryd.func33, Tryd.ntmps33
      go_wp2_with (first
        | (go_at_call 76; refine (areParts_any ss A c w hl hc hr.out).mono ?_; rintro e w1 ⟨rfl, hb1⟩; rw [hp.out]; have hr1 := hid (hr.out.later hb1))
        | (go_at_call 32; refine (implPartsAlphabet_any ss A c _ hl hc hr1.out).mono ?_; rintro e w2 ⟨rfl, hb2⟩; rw [hal.out])
        | (go_at_call 85; refine (implWordWithin_any x _ _ hz).mono ?_; rintro e w' ⟨rfl, rfl⟩; rw [hwi.out]))
      go_ret
      exact ⟨ret_bool (by rw [hfin.out]), hb1.trans (hb2.mono hb1.size)⟩
    · have hwi2 := hid hwi
      have h5 := within_size hwi
      replace hwi := hid hwi
      go_enter Tryd.func33, Tryd.ntmps33
      go_wp2_with (first
        | (go_at_call 76; refine (areParts_any ss A c w hl hc hr.out).mono ?_; rintro e w1 ⟨rfl, hb1⟩; rw [hp.out]; have hr1 := hid (hr.out.later hb1))
        | (go_at_call 32; refine (implPartsAlphabet_any ss A c _ hl hc hr1.out).mono ?_; rintro e w2 ⟨rfl, hb2⟩; rw [hal.out])
        | (go_at_call 85; refine (implWordWithin_any x _ _ hz).mono ?_; rintro e w' ⟨rfl, rfl⟩; rw [hwi.out]))
      go_loopw [19] (fun i wr => ∃ k : Nat, i = .int .i64 k ∧ k ≤ ss.length ∧ (∀ j (hj : j < ss.length), j < k → hasTr ss[j] (restr x ss[j].al) = true) ∧ Below w.heap.size w wr) (fun i _ => ss.length - (intOf i).toNat)
      case atStart => exact ⟨0, rfl, by omega, fun j _ h => by omega, hb1.trans (hb2.mono hb1.size)⟩
      case round =>
        obtain ⟨k, rfl, hk, hbf, hb⟩ := hrel
        replace hbf := hid hbf
        by_cases hlt : k < ss.length
        · obtain ⟨b, o, Ai, ci, rfl, hB, c0, c1, c2, hAl, hAc, hAe⟩ := hr.out.get hlt
          have hs : sysOk ss[k] = true := List.all_eq_true.1 hall.out _ (List.getElem_mem _)
          have hks := sysOk_alpha hs
          have hrs := restr_size x ss[k].al
          have g0 := c0 _ hb
          have g1 := c1 _ hb
          have g2 := c2 _ hb
          replace hs := hid hs
          replace hAe := hid hAe
          cases hh : hasTr ss[k] (restr x ss[k].al)
          · have hfin := hid (trParts_miss hlt hh)
            replace hh := hid hh
            go_wp2_with fail
            obtain ⟨w0, hw0, hz0, hB0, hS0, hS1, hS2⟩ := boxed3 wr (Value.int IntKind.i64 ss[k].al) (Value.int IntKind.i64 ss[k].st) (Value.slice Ai ss[k].es.length ci) 37
            rw [hw0]
            clear hw0
            have hzr := hb.size
            have hBw := hb.trans (hB0.mono hzr)
            have f0 := fun y => hS0 _ ((Fam.below w0.heap.size w0 y).mono hz0)
            have f1 := fun y => hS1 _ ((Fam.below w0.heap.size w0 y).mono hz0)
            have f2 := fun y => hS2 _ ((Fam.below w0.heap.size w0 y).mono hz0)
            have hrF : ∀ y, Hid (EdsAt (Fam w0.heap.size w0 y) (Fam w0.heap.size w0 y).heap.size Ai ss[k].es) := fun y => hid (((hAe.out.later hBw).later (Fam.below _ _ y)))
            have hTF : ∀ y, Hid (Tab (Fam w0.heap.size w0 y)) := fun y => hid ((hT.out.later hBw).later (Fam.below _ _ y))
            refine wp_region_fam w0.heap.size w0 (by kernel_rfl) (by kernel_rfl) (Below.refl _ _) ?_
            (repeat (go_big_quiet_step ((first
              | (refine (restrict_any x ss[k].al _ h5).mono ?_; rintro e w1 ⟨rfl, hb1⟩; exact ⟨rfl, Fam.next (Nat.le_refl _) hb1⟩)
              | (refine (implHasTrace_any ss[k] Ai ci (restr x ss[k].al) _ (by omega) hAl hAc (hTF _).out (hrF _).out).mono ?_; rintro e w1 ⟨rfl, hb1⟩; exact ⟨by rw [hh.out], Fam.next (Nat.le_refl _) hb1⟩)))))
            refine wpQuiet_nil ?_
            intro w2 hw2
            replace hw2 := hBw.trans ((Fam.out hw2).mono (by omega))
            go_wp2
            go_ret
            exact ⟨ret_bool (by rw [hfin.out]), hw2⟩
          · replace hh := hid hh
            go_wp2_with fail
            obtain ⟨w0, hw0, hz0, hB0, hS0, hS1, hS2⟩ := boxed3 wr (Value.int IntKind.i64 ss[k].al) (Value.int IntKind.i64 ss[k].st) (Value.slice Ai ss[k].es.length ci) 37
            rw [hw0]
            clear hw0
            have hzr := hb.size
            have hBw := hb.trans (hB0.mono hzr)
            have f0 := fun y => hS0 _ ((Fam.below w0.heap.size w0 y).mono hz0)
            have f1 := fun y => hS1 _ ((Fam.below w0.heap.size w0 y).mono hz0)
            have f2 := fun y => hS2 _ ((Fam.below w0.heap.size w0 y).mono hz0)
            have hrF : ∀ y, Hid (EdsAt (Fam w0.heap.size w0 y) (Fam w0.heap.size w0 y).heap.size Ai ss[k].es) := fun y => hid (((hAe.out.later hBw).later (Fam.below _ _ y)))
            have hTF : ∀ y, Hid (Tab (Fam w0.heap.size w0 y)) := fun y => hid ((hT.out.later hBw).later (Fam.below _ _ y))
            refine wp_region_fam w0.heap.size w0 (by kernel_rfl) (by kernel_rfl) (Below.refl _ _) ?_
            (repeat (go_big_quiet_step ((first
              | (refine (restrict_any x ss[k].al _ h5).mono ?_; rintro e w1 ⟨rfl, hb1⟩; exact ⟨rfl, Fam.next (Nat.le_refl _) hb1⟩)
              | (refine (implHasTrace_any ss[k] Ai ci (restr x ss[k].al) _ (by omega) hAl hAc (hTF _).out (hrF _).out).mono ?_; rintro e w1 ⟨rfl, hb1⟩; exact ⟨by rw [hh.out], Fam.next (Nat.le_refl _) hb1⟩)))))
            refine wpQuiet_nil ?_
            intro w2 hw2
            replace hw2 := hBw.trans ((Fam.out hw2).mono (by omega))
            go_wp2
            go_roundw
            case rel => exact ⟨k + 1, by go_num, by omega, fun j hj hjk => by by_cases e : j = k; (subst e; exact hh.out); exact hbf.out j hj (by omega), hw2⟩
            case measure => simp [intOf]; omega
        · go_wp2
          go_ret
          exact ⟨ret_bool (by unfold trParts; exact (decide_eq_true ⟨hp2.out, hwi2.out, fun i hi => hbf.out i hi (by omega)⟩).symm), hb⟩

end Go.Proofs.YtjhlbeamfngebaaDoor
