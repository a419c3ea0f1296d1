/- Lemmas, part 10: several texts in one. -/
import Derived.Test.YtdkjnemakkppfaaT9
import Derived.Test.YtdkjnemakkppfaaT3
set_option linter.unusedSimpArgs false
set_option linter.unusedVariables false

/- The reference's l4Nexts. -/
namespace Go.Proofs.Ytdkjnemakkppfaa
open Go.RowKit Go.BigFrame AG

theorem OrdSt.app0 {w0 wr w1 : World} {v v' : Value} {ns : List Nat} {x : Nat} (h : OrdSt w0 wr v ns) (hg : wr.grownBy w1 v.ownBlock)
    (ho : w1.ownsRow w0.heap.size 3 1 v' (ns.length + 1) (natVals ns ++ [.int .i64 (x : Nat)])) : OrdSt w0 w1 v' (ns ++ [x]) := by
  have hkA : KeepB (fun b => v.ownBlock = some b) wr w1 := (KeepB.refl _ wr).grown hg fun k hk _ => hk
  refine ⟨hkA.below h.below h.below.size fun b e => own_block h.own b e, ?_⟩
  rw [List.length_append]
  unfold natVals at ho ⊢
  simpa using ho
def netV (c0 c1 c2 : Value) (lt kd gl : Int) : Value := .agg #[c0, c1, c2, .int .i64 lt, .int .i64 kd, .int .i64 gl]
/-- What the search asks of a product: the sizes of its members, the choices that a letter leaves to each of them. -/
structure NetOk (w0 : World) (nv : Value) (ss : List Nat) (ch : Nat → Nat → Nat → List Nat) : Prop where
  len3 : ss.length ≤ 3
  size : ∀ a ∈ ss, 1 ≤ a ∧ a ≤ 16
  chlen : ∀ i q l, (ch i q l).length ≤ 16
  chlt : ∀ i, i < ss.length → ∀ q, q < ss.getD i 1 → ∀ l, ∀ x ∈ ch i q l, x < ss.getD i 1
  call : ∀ w' i q l, Below w0.heap.size w0 w' → i < ss.length → q < ss.getD i 1 → l < 6 → Calls Try.prog 76 #[nv, .int .i64 (i : Nat), .int .i64 (q : Nat), .int .i64 (l : Nat)] w' fun e w'' => ∃ v, e = .returned v ∧ OwnNats w'' w'.heap.size v (ch i q l) ∧ Below w'.heap.size w' w''
theorem NetOk.later {w0 w1 : World} {nv : Value} {ss : List Nat} {ch : Nat → Nat → Nat → List Nat} (h : NetOk w0 nv ss ch) (hb : Below w0.heap.size w0 w1) : NetOk w1 nv ss ch :=
  ⟨h.len3, h.size, h.chlen, h.chlt, fun w' i q l hb' => h.call w' i q l (hb.trans (hb'.mono hb.size))⟩
theorem nxK_4096 {ss : List Nat} {C : Nat → List Nat} (hC : ∀ i, (C i).length ≤ 16) {k : Nat} (hk : k ≤ 3) : (nxK ss C k).length ≤ 4096 :=
  Nat.le_trans (nxK_len hC k) (Nat.le_trans (Nat.pow_le_pow_right (by decide) hk) (by decide))

set_option maxRecDepth 100000 in
set_option maxHeartbeats 8000000 in
theorem l4Nexts_any (c0 c1 c2 : Value) (lt kd gl : Int) (ss qs : List Nat) (ch : Nat → Nat → Nat → List Nat) (A B : Option Addr) (c d l : Nat) (w : World) (hN : NetOk w (netV c0 c1 c2 lt kd gl) ss ch) (hql : qs.length = ss.length) (hq : ∀ i, i < ss.length → qs.getD i 0 < ss.getD i 1) (hl : l < 6)
    (hsc : ss.length ≤ c) (hc : c ≤ 9223372036854775807) (hqd : qs.length ≤ d) (hd : d ≤ 9223372036854775807) (hr : NatsAt w w.heap.size A ss) (hr2 : NatsAt w w.heap.size B qs) :
    Calls Try.prog 72 #[netV c0 c1 c2 lt kd gl, .slice A ss.length c, .slice B qs.length d, .int .i64 (l : Nat)] w fun e w' => ∃ v, e = .returned v ∧ OwnNats w' w.heap.size v (nxK ss (fun i => ch i (qs.getD i 0) l) ss.length) ∧ Below w.heap.size w w' := by
  obtain ⟨i0, hi, hz0, hz1, hz2⟩ := info_parts infoInt
  have hlen3 := hN.len3
  obtain ⟨w0, hw0, hzz0, hB0, hS⟩ := boxed w #[c0, c1, c2, .int .i64 lt, .int .i64 kd, .int .i64 gl] 84
  have hN0 := hid (hN.later hB0)
  have hr0 := hid (hr.later hB0)
  have hr20 := hid (hr2.later hB0)
  have hSp := hid (fun w' (hb : Below w0.heap.size w0 w') => And.intro (And.intro (hS 0 _ rfl w' (hb.mono hzz0)) (And.intro (hS 1 _ rfl w' (hb.mono hzz0)) (hS 2 _ rfl w' (hb.mono hzz0)))) (And.intro (hS 3 _ rfl w' (hb.mono hzz0)) (And.intro (hS 4 _ rfl w' (hb.mono hzz0)) (hS 5 _ rfl w' (hb.mono hzz0)))))
  obtain ⟨C, hC⟩ : ∃ C : Nat → List Nat, Hid (C = fun i => ch i (qs.getD i 0) l) := ⟨_, hid rfl⟩
  rw [← hC.out]
  have hC16 : Hid (∀ i, (C i).length ≤ 16) := hid fun i => by rw [hC.out]; exact hN.chlen _ _ _
  have hClt : Hid (∀ i, i < ss.length → ∀ x ∈ C i, x < 16) := hid fun i hi x hx => by
    rw [hC.out] at hx
    have h1 := hN.chlt i hi _ (hq i hi) l x hx
    rw [getD_at1 hi] at h1
    have h2 := (hN.size _ (List.getElem_mem hi)).2
    omega
  have hcall := hid (fun w' i (hb : Below w0.heap.size w0 w') (hi : i < ss.length) => by
    have h := hN0.out.call w' i (qs.getD i 0) l hb hi (hq i hi) hl
    rw [show ch i (qs.getD i 0) l = C i from by rw [hC.out]] at h
    exact h)
  have hsz16 : Hid (∀ a ∈ ss, a ≤ 16) := hid fun a ha => (hN.size a ha).2
  have hnx := hid (fun k (hk : k ≤ 3) => nxK_4096 (ss := ss) hC16.out hk)
  have hnlt : Hid (∀ k, k ≤ ss.length → ∀ m ∈ nxK ss C k, m < 4096) := hid fun k hk m hm => by
    have h1 := nxK_lt (ss := ss) (C := C) hk (fun i hi x hx => by
      rw [hC.out] at hx
      exact hN.chlt i hi _ (hq i hi) l x hx) m hm
    have h2 := prodT_le (ss := ss) (b := 16) hsz16.out (by decide) k
    have h3 : 16 ^ k ≤ 16 ^ 3 := Nat.pow_le_pow_right (by decide) (by omega)
    have h4 : (16 : Nat) ^ 3 = 4096 := by decide
    omega
  have hst0 := hid (OrdSt.new w0 0)
  replace hql := hid hql
  replace hq := hid hq
  replace hr := hid hr
  replace hr2 := hid hr2
  clear hN hS
  unfold netV
  unfold netV at hcall
  go_enter Try.func72, Try.ntmps72
  go_wp2_with fail
  go_loopw [9, 10] (fun vO iv wr => ∃ (i : Nat) (out : List Nat) (AO : Option Addr) (cO : Nat), vO = .slice AO out.length cO ∧ iv = .int .i64 (i : Nat) ∧ i ≤ ss.length ∧ nxK ss C i = out ∧ OrdSt w0 wr (.slice AO out.length cO) out) (fun _ iv _ => ss.length - (intOf iv).toNat)
  case atStart => exact ⟨0, [0], _, _, rfl, rfl, Nat.zero_le _, rfl, hst0.out⟩
  case round =>
    clear hst0 hw0
    obtain ⟨i, out, AO, cO, rfl, rfl, hiN, ho, hst⟩ := hrel
    have hBm := hst.below
    have hszm := hBm.size
    by_cases hlt : i < ss.length
    · have hiq : i < qs.length := by have := hql.out; omega
      obtain ⟨bA, oA, hAe, hbA, hEA⟩ := (hr0.out.later hBm) (by omega)
      subst hAe
      obtain ⟨bQ, oQ, hQe, hbQ, hEQ⟩ := (hr20.out.later hBm) (by omega)
      subst hQe
      have q0 := hEQ i hiq
      obtain ⟨q, hqq⟩ : ∃ q, Hid (q = qs[i]) := ⟨_, hid rfl⟩
      rw [← hqq.out] at q0
      have hcl := hid (fun w' (hb : Below wr.heap.size wr w') => by
        have h := hcall.out w' i (hBm.trans (hb.mono hszm)) hlt
        rw [show qs.getD i 0 = q from by rw [getD_at1 hiq, hqq.out]] at h
        exact h)
      obtain ⟨⟨p0, p1, p2⟩, p3, p4, p5⟩ := hSp.out wr hBm
      have hlw : w.heap.size < wr.heap.size := by omega
      have y0 : ∀ x', (Fam wr.heap.size wr x').cell? ⟨w.heap.size, 0, none⟩ = some c0 := fun x' => by rw [(Fam.below wr.heap.size wr x').cell (by simpa using hlw)]; exact p0
      have y1 : ∀ x', (Fam wr.heap.size wr x').cell? ⟨w.heap.size, 1, none⟩ = some c1 := fun x' => by rw [(Fam.below wr.heap.size wr x').cell (by simpa using hlw)]; exact p1
      have y2 : ∀ x', (Fam wr.heap.size wr x').cell? ⟨w.heap.size, 2, none⟩ = some c2 := fun x' => by rw [(Fam.below wr.heap.size wr x').cell (by simpa using hlw)]; exact p2
      have y3 : ∀ x', (Fam wr.heap.size wr x').cell? ⟨w.heap.size, 3, none⟩ = some (.int .i64 lt) := fun x' => by rw [(Fam.below wr.heap.size wr x').cell (by simpa using hlw)]; exact p3
      have y4 : ∀ x', (Fam wr.heap.size wr x').cell? ⟨w.heap.size, 4, none⟩ = some (.int .i64 kd) := fun x' => by rw [(Fam.below wr.heap.size wr x').cell (by simpa using hlw)]; exact p4
      have y5 : ∀ x', (Fam wr.heap.size wr x').cell? ⟨w.heap.size, 5, none⟩ = some (.int .i64 gl) := fun x' => by rw [(Fam.below wr.heap.size wr x').cell (by simpa using hlw)]; exact p5
      have y6 : ∀ x', (Fam wr.heap.size wr x').cell? ⟨bQ, oQ + i, none⟩ = some (.int .i64 (q : Nat)) := fun x' => by rw [(Fam.below wr.heap.size wr x').cell (by simpa using hbQ)]; exact q0
      have k1 : (0 : Int) ≤ (i : Int) ∧ (i : Int) < (ss.length : Int) ∧ (i : Int) < (qs.length : Int) := by omega
      have hst' := hid hst
      replace ho := hid ho
      replace hEA := hid hEA
      replace hEQ := hid hEQ
      clear hst p0 p1 p2 p3 p4 p5 q0
      go_upto_region 5 with fail
      refine wp_region_grow 8 wr.heap.size wr (fun _ u w' => OwnNats w' wr.heap.size u (C i)) (by kernel_rfl) (by kernel_rfl) (Nat.le_refl _) (Below.refl _ _) ?_
      simp only [List.take_succ_cons, List.take_zero, List.drop_succ_cons, List.drop_zero]
      (repeat (refine grow_quiet (by rfl) (by rfl) (by rfl) ?_; intro K hK; go_big_quiet_op; go_big_quiet_on))
      refine grow_call (by rfl) (by rfl) (fun u v v' hb h => own_keep h (.of_below (K := fun _ => False) hb) fun _ _ h => h) (fun wq hbq _ => ?_) fun u hu => ?_
      · go_simp
        refine ⟨rfl, (hcl.out wq hbq).mono ?_⟩
        rintro e w5 ⟨v, rfl, ho, hb5⟩
        exact ⟨v, rfl, hb5, own_base ho hbq.size⟩
      obtain ⟨wX, -, hoX⟩ := hu
      obtain ⟨AC, cC, rfl, -, -, -⟩ := OwnNats.read hoX
      clear hoX
      simp only [Act.put, List.setIfInBounds_toArray, List.set_cons_zero, List.set_cons_succ]
      (repeat (refine grow_quiet (by rfl) (by rfl) (by rfl) ?_; intro K hK; go_big_quiet_op; go_big_quiet_on))
      refine grow_nil ?_
      intro w5 hb5 hf
      have hoC5 : OwnNats w5 wr.heap.size (.slice AC (C i).length cC) (C i) := hf _ List.mem_cons_self
      clear hf y0 y1 y2 y3 y4 y5 y6
      have hst5 := hid (hst'.out.later hb5)
      have hB5 := hst5.out.below
      have hz5 := hB5.size
      have hzr5 := hb5.size
      obtain ⟨a, ha⟩ : ∃ a, Hid (a = ss[i]) := ⟨_, hid rfl⟩
      have ha16 : a ≤ 16 := by rw [ha.out]; exact hsz16.out _ (List.getElem_mem _)
      obtain ⟨cs, hcs⟩ : ∃ cs, Hid (cs = C i) := ⟨_, hid rfl⟩
      have hcs16 : cs.length ≤ 16 := by rw [hcs.out]; exact hC16.out i
      have hcsl : Hid (∀ x ∈ cs, x < 16) := hid (by rw [hcs.out]; exact hClt.out i hlt)
      have hol : out.length ≤ 4096 := by rw [← ho.out]; exact hnx.out i (by omega)
      have houtl : Hid (∀ m ∈ out, m < 4096) := hid (by rw [← ho.out]; exact hnlt.out i (by omega))
      have hnew : Hid (stepN a cs out = nxK ss C (i + 1)) := hid (by rw [nxK, ho.out, getD_at1 hlt, ← ha.out, ← hcs.out])
      rw [← hcs.out] at hoC5 ⊢
      obtain ⟨AC', cC', e, -, -, hNC⟩ := OwnNats.read hoC5
      cases e
      obtain ⟨AO', cO', e, hcO, hcO', hNO⟩ := OwnN.read hst5.out.own
      cases e
      have hNC' := hid hNC
      have hNO' := hid hNO
      have hn0 := hid (OrdSt.new0 w5)
      replace hoC5 := hid hoC5
      clear hNC hNO
      go_wp2_with fail
      obtain ⟨wo, rfl⟩ : ∃ wo : World, wo = wr := ⟨_, rfl⟩
      go_loopw [12, 13] (fun vN kv wr => ∃ (k : Nat) (nx : List Nat) (AN : Option Addr) (cN : Nat), vN = .slice AN nx.length cN ∧ kv = .int .i64 (k : Nat) ∧ k ≤ out.length ∧ stepN a cs (out.take k) = nx ∧ OrdSt w5 wr (.slice AN nx.length cN) nx) (fun _ kv _ => out.length - (intOf kv).toNat)
      case atStart => exact ⟨0, [], _, _, rfl, rfl, Nat.zero_le _, by simp [stepN], hn0.out⟩
      case round =>
        clear hn0
        obtain ⟨k, nx, AN, cN, rfl, rfl, hk, hnxe, hsn⟩ := hrel
        have hnxl : nx.length ≤ 65536 := by
          rw [← hnxe, stepN_len, List.length_take]
          exact Nat.le_trans (Nat.mul_le_mul (Nat.le_trans (Nat.min_le_right _ _) hol) hcs16) (by decide)
        by_cases hkl : k < out.length
        · have hsn' := hid hsn
          obtain ⟨o, hoo⟩ : ∃ o, Hid (o = out[k]) := ⟨_, hid rfl⟩
          have ho4 : o < 4096 := by rw [hoo.out]; exact houtl.out _ (List.getElem_mem _)
          have hstp := hid (stepN_take (a := a) (c := cs) hkl)
          rw [hnxe, ← hoo.out] at hstp
          replace hnxe := hid hnxe
          clear hsn
          go_wp2_with fail
          obtain ⟨wp, rfl⟩ : ∃ wp : World, wp = wr := ⟨_, rfl⟩
          go_loopw [12, 14] (fun vN jv wr => ∃ (j : Nat) (ny : List Nat) (AN : Option Addr) (cN : Nat), vN = .slice AN ny.length cN ∧ jv = .int .i64 (j : Nat) ∧ j ≤ cs.length ∧ ny = nx ++ (cs.take j).map (fun x => o * a + x) ∧ OrdSt w5 wr (.slice AN ny.length cN) ny) (fun _ jv _ => cs.length - (intOf jv).toNat)
          case atStart => exact ⟨0, nx, _, _, rfl, rfl, Nat.zero_le _, by simp, hsn'.out⟩
          case round =>
            clear hsn'
            obtain ⟨j, ny, AN, cN, rfl, rfl, hj, hny, hsy⟩ := hrel
            have hnyl : ny.length ≤ 65600 := by
              rw [hny, List.length_append, List.length_map, List.length_take]
              omega
            have hBy := hsy.below
            have hzy := hBy.size
            by_cases hjl : j < cs.length
            · obtain ⟨bO, oO, hOe, hbO, hEO⟩ := hNO'.out (by omega)
              subst hOe
              obtain ⟨bC, oC, hCe, hbC, hEC⟩ := hNC'.out (by omega)
              subst hCe
              have o0 := (hBy.cell (p := ⟨bO, oO + k, none⟩) (by simpa using hbO)).trans (hEO k hkl)
              have c0' := (hBy.cell (p := ⟨bC, oC + j, none⟩) (by simpa using hbC)).trans (hEC j hjl)
              rw [← hoo.out] at o0
              obtain ⟨x, hxx⟩ : ∃ x, Hid (x = cs[j]) := ⟨_, hid rfl⟩
              rw [← hxx.out] at c0'
              have hx16 : x < 16 := by rw [hxx.out]; exact hcsl.out _ (List.getElem_mem _)
              have hBwr := hB5.trans (hBy.mono hz5)
              obtain ⟨bA2, oA2, hAe2, hbA2, hEA2⟩ := hr0.out (by omega)
              cases hAe2
              have a0 := (hBwr.cell (p := ⟨bA, oA + i, none⟩) (by simpa using hbA2)).trans (hEA2 i hlt)
              rw [← ha.out] at a0
              have hbO' : bO < wr.heap.size := by omega
              have hbC' : bC < wr.heap.size := by omega
              have hbA' : bA < wr.heap.size := by have := hBwr.size; omega
              have y0 : ∀ x', (Fam wr.heap.size wr x').cell? ⟨bO, oO + k, none⟩ = some (.int .i64 (o : Nat)) := fun x' => by rw [(Fam.below wr.heap.size wr x').cell (by simpa using hbO')]; exact o0
              have y1 : ∀ x', (Fam wr.heap.size wr x').cell? ⟨bC, oC + j, none⟩ = some (.int .i64 (x : Nat)) := fun x' => by rw [(Fam.below wr.heap.size wr x').cell (by simpa using hbC')]; exact c0'
              have y2 : ∀ x', (Fam wr.heap.size wr x').cell? ⟨bA, oA + i, none⟩ = some (.int .i64 (a : Nat)) := fun x' => by rw [(Fam.below wr.heap.size wr x').cell (by simpa using hbA')]; exact a0
              have k2 : (0 : Int) ≤ (k : Int) ∧ (k : Int) < (out.length : Int) ∧ (0 : Int) ≤ (j : Int) ∧ (j : Int) < (cs.length : Int) ∧ (0 : Int) ≤ (i : Int) ∧ (i : Int) < (ss.length : Int) := by omega
              have hj1 : j + 1 ≤ cs.length := hjl
              obtain ⟨P, hP⟩ : ∃ P, Hid (P = o * a) := ⟨_, hid rfl⟩
              have hPl : P ≤ 65536 := by rw [hP.out]; exact Nat.le_trans (Nat.mul_le_mul (Nat.le_of_lt ho4) ha16) (by decide)
              have hsum : P + x < 9223372036854775807 := by omega
              obtain ⟨Z, hZ⟩ : ∃ Z, Hid (Z = P + x) := ⟨_, hid rfl⟩
              have hny2 : Hid (ny ++ [Z] = nx ++ (cs.take (j + 1)).map (fun x => o * a + x)) := hid (by
                rw [List.take_succ_eq_append_getElem hjl, List.map_append, List.map_singleton, ← List.append_assoc, ← hny, ← hxx.out, ← hP.out, ← hZ.out])
              have hw7 := hid hsy
              have hAN : ny.length ≤ 65600 := hnyl
              replace hny := hid hny
              replace hEO := hid hEO
              replace hEC := hid hEC
              replace hEA2 := hid hEA2
              replace hBwr := hid hBwr
              replace hBy := hid hBy
              have e5 : wrap64 ((o : Int) * (a : Int)) = (P : Int) := by rw [← Int.natCast_mul, ← hP.out]; exact IntWalk.wrap64_in _ ⟨by omega, by omega⟩
              have e6 := wrap_addN P x hsum
              rw [← hZ.out] at e6
              clear hsy o0 c0' a0 hPl hsum ho4 ha16 hx16
              go_upto_region 13 with fail
              refine wp_region_grow 16 wr.heap.size wr (fun _ _ _ => True) (by kernel_rfl) (by kernel_rfl) (Nat.le_refl _) (Below.refl _ _) ?_
              simp only [List.take_succ_cons, List.take_zero, List.drop_succ_cons, List.drop_zero]
              (repeat (refine grow_quiet (by rfl) (by rfl) (by rfl) ?_; intro K hK; go_big_quiet_op; go_big_quiet_on))
              refine grow_new (by rfl) (fun b => .slice (some ⟨b, 0, none⟩) 1 1) 3 #[.int .i64 (Z : Nat)] (fun _ => by go_simp) (fun _ => rfl) (Nat.le_refl _) fun g3 hg3 => ?_
              simp only [Act.put, List.setIfInBounds_toArray, List.set_cons_zero, List.set_cons_succ]
              refine grow_nil ?_
              intro w7 hb7 hf
              obtain ⟨g3', hge, -, hblk3⟩ := hf _ List.mem_cons_self
              cases hge
              have hnew3 := hid (Blk.news hblk3)
              clear hblk3 hf y0 y1 y2 e5 e6
              have hst7 := hid (hw7.out.later hb7)
              have hz7 := hst7.out.below.size
              go_wp2_with (at_builtin; refine wpList_append_own_at _ rfl _ _ 40 rfl w5.heap.size 3 i0 (.int .i64 0) 1 8 Try.underlying40 hi hz0 hz1 hz2 rfl (by decide) _ _ _ rfl hst7.out.own ⟨g3, 0, none⟩ 1 1 [.int .i64 (Z : Nat)] rfl rfl hnew3.out (by intro u hu; simp at hu; subst hu; rfl) (by unfold maxLen; omega) (by omega) (by first | omega | (simp; omega)) ?_; intro v8 w8 hO8 hg8 _ hat8; obtain ⟨Av8, cv8, ev8, -, -⟩ := own_slice hO8; subst ev8; have hst8 := hid (hst7.out.app0 (x := Z) hg8 hO8); clear hO8 hg8 hat8)
              go_roundw
              case rel => exact ⟨j + 1, ny ++ [Z], _, _, by rw [List.length_append]; rfl, by go_num, by omega, hny2.out, by have := hst8.out; rw [List.length_append]; exact this⟩
              case measure => simp [intOf]; omega
            · obtain rfl : j = cs.length := by omega
              have hny3 : Hid (stepN a cs (out.take (k + 1)) = ny) := hid (by rw [hstp.out, hny, List.take_length])
              replace hny := hid hny
              have hsy' := hid hsy
              clear hsy
              go_wp2_with fail
              go_roundw
              case rel => exact ⟨k + 1, ny, _, _, rfl, by go_num, by omega, hny3.out, hsy'.out⟩
              case measure => simp [intOf]; omega
        · obtain rfl : k = out.length := by omega
          have hfin : Hid (nxK ss C (i + 1) = nx) := hid (by rw [← hnew.out, ← hnxe, List.take_length])
          have hst9 := hid (show OrdSt w0 wr (.slice AN nx.length cN) nx from ⟨hB5.trans (hsn.below.mono hz5), own_base hsn.own hz5⟩)
          replace hnxe := hid hnxe
          replace hsn := hid hsn
          go_wp2_with fail
          go_roundw
          case rel => exact ⟨i + 1, nx, _, _, rfl, by go_num, by omega, hfin.out, hst9.out⟩
          case measure => simp [intOf]; omega
    · obtain rfl : i = ss.length := by omega
      have hfin : Hid (OwnNats wr w.heap.size (.slice AO out.length cO) (nxK ss C ss.length)) := hid (by
        rw [ho]
        exact own_base hst.own hB0.size)
      have hB := hB0.trans (hst.below.mono hB0.size)
      have hge : ¬ ((ss.length : Int) < (qs.length : Int)) := by have := hql.out; omega
      replace hst := hid hst
      replace ho := hid ho
      go_wp2_with fail
      go_ret
      exact ⟨_, rfl, hfin.out, hB⟩

end Go.Proofs.Ytdkjnemakkppfaa

/- The reference's l4Moves. -/
namespace Go.Proofs.Ytdkjnemakkppfaa
open Go.RowKit Go.BigFrame AG

/-- Rows of several types that are owned, each in a block of its own. -/
structure FamG (w : World) (base : Nat) (fs : List (TypeId × Value × List Value)) : Prop where
  rows : ∀ f ∈ fs, w.ownsRow base f.1 1 f.2.1 f.2.2.length f.2.2
  apart : fs.Pairwise fun f g => ∀ k, f.2.1.ownBlock = some k → g.2.1.ownBlock ≠ some k
section
variable {w w1 w' : World} {base : Nat} {fs gs l1 l2 : List (TypeId × Value × List Value)} {f : TypeId × Value × List Value}
theorem FamG.keep {K : Nat → Prop} (h : FamG w base fs) (hk : KeepB K w w') (h2 : ∀ f ∈ fs, ∀ g, f.2.1.ownBlock = some g → ¬ K g) : FamG w' base fs :=
  ⟨fun f hf => own_keep (h.rows f hf) hk (h2 f hf), h.apart⟩
theorem FamG.later (h : FamG w base fs) (hb : Below w.heap.size w w') : FamG w' base fs := h.keep (.of_below (K := fun _ => False) hb) fun _ _ _ _ h => h
theorem FamG.perm (h : FamG w base fs) (hp : fs.Perm gs) : FamG w base gs :=
  ⟨fun f hf => h.rows f (hp.mem_iff.2 hf), (hp.pairwise_iff (fun {a b} h k e e' => h k e' e)).1 h.apart⟩
theorem FamG.lt (h : FamG w base fs) (hf : f ∈ fs) {g : Nat} (e : f.2.1.ownBlock = some g) : base ≤ g ∧ g < w.heap.size := (h.rows f hf).lt g e
theorem FamG.app0 {v' : Value} {ys' : List Value} (h : FamG w base (l1 ++ f :: l2)) (hg : w.grownBy w1 f.2.1.ownBlock)
    (ho : w1.ownsRow base f.1 1 v' ys'.length ys') (hat : v'.ownBlock = f.2.1.ownBlock ∨ v'.ownBlock = some w.heap.size) : FamG w1 base (l1 ++ (f.1, v', ys') :: l2) := by
  have hlt : ∀ y ∈ l1 ++ f :: l2, ∀ g, y.2.1.ownBlock = some g → g < w.heap.size := fun y hy g e => (h.lt hy e).2
  obtain ⟨h2, h3⟩ := h
  rw [List.pairwise_append, List.pairwise_cons] at h3
  have hkA : KeepB (fun b => f.2.1.ownBlock = some b) w w1 := (KeepB.refl _ w).grown hg fun k hk _ => hk
  refine ⟨fun y hy => ?_, ?_⟩
  · rw [List.mem_append, List.mem_cons] at hy
    rcases hy with hy | rfl | hy
    · exact own_keep (h2 y (by simp [hy])) hkA fun g hg e => h3.2.2 y hy f List.mem_cons_self g hg e
    · exact ho
    · exact own_keep (h2 y (by simp [hy])) hkA fun g hg e => h3.2.1.1 y hy g e hg
  · rw [List.pairwise_append, List.pairwise_cons]
    refine ⟨h3.1, ⟨fun y hy k e e' => ?_, h3.2.1.2⟩, fun a ha b hb k e e' => ?_⟩
    · have := hlt y (by simp [hy]) k e'
      rcases hat with h | h
      · exact h3.2.1.1 y hy k (by rw [← h]; exact e) e'
      · change v'.ownBlock = some k at e
        rw [h] at e; injection e with e; omega
    · have := hlt a (by simp [ha]) k e
      rcases List.mem_cons.1 hb with rfl | hb
      · change v'.ownBlock = some k at e'
        rcases hat with h | h
        · exact h3.2.2 a ha f List.mem_cons_self k e (by rw [← h]; exact e')
        · rw [h] at e'; injection e' with e'; omega
      · exact h3.2.2 a ha b (List.mem_cons_of_mem _ hb) k e e'
/-- A row that has been made since. -/
theorem FamG.add {t : TypeId} {v : Value} {ys : List Value} (h : FamG w base fs) (hb : Below w.heap.size w w') (hB : base ≤ w.heap.size) (ho : w'.ownsRow w.heap.size t 1 v ys.length ys) : FamG w' base ((t, v, ys) :: fs) := by
  have hl := h.later hb
  refine ⟨fun y hy => ?_, ?_⟩
  · rcases List.mem_cons.1 hy with rfl | hy
    · exact own_base ho hB
    · exact hl.rows y hy
  · rw [List.pairwise_cons]
    refine ⟨fun y hy k e e' => ?_, h.apart⟩
    have h1 := (ho.lt k e).1
    have h2 := (h.lt hy e').2
    omega
theorem FamG.start {t : TypeId} {v : Value} {ys : List Value} (ho : w.ownsRow base t 1 v ys.length ys) : FamG w base [(t, v, ys)] :=
  ⟨fun y hy => by rw [List.mem_singleton.1 hy]; exact ho, List.pairwise_singleton _ _⟩
end
theorem own_fresh (w : World) (t : TypeId) : (w.alloc (.cells #[] t)).ownsRow w.heap.size t 1 (.slice (some ⟨w.heap.size, 0, none⟩) 0 0) 0 [] :=
  ⟨rfl, .inr ⟨w.heap.size, 0, #[], rfl, Nat.le_refl _, heap_alloc_self _ _, Nat.le_refl _, Nat.zero_le _, rfl, rfl⟩⟩

abbrev NLeaf := Value × List Nat
abbrev NRow := Value × List NLeaf
def leafT (x : NLeaf) : TypeId × Value × List Value := (3, x.1, natVals x.2)
def rowT (r : NRow) : TypeId × Value × List Value := (40, r.1, r.2.map (·.1))
def famR (R : List NRow) : List (TypeId × Value × List Value) := R.flatMap fun r => rowT r :: r.2.map leafT
def outT (v : Value) (R : List NRow) : TypeId × Value × List Value := (23, v, R.map (·.1))
theorem famR_snoc (R : List NRow) (r : NRow) : famR (R ++ [r]) = famR R ++ rowT r :: r.2.map leafT := by
  unfold famR
  rw [List.flatMap_append]
  simp

/-- Lists of numbers, and lists of these, in memory. -/
def Tab2 (w : World) (B : Nat) (A : Option Addr) (rs : List (List Nat)) : Prop := 0 < rs.length → ∃ b o, A = some ⟨b, o, none⟩ ∧ b < B ∧ ∀ i (h : i < rs.length),
  ∃ Ai ci, w.cell? ⟨b, o + i, none⟩ = some (.slice Ai rs[i].length ci) ∧ rs[i].length ≤ ci ∧ ci ≤ 9223372036854775807 ∧ NatsAt w B Ai rs[i]
def Tab3 (w : World) (B : Nat) (A : Option Addr) (ts : List (List (List Nat))) : Prop := 0 < ts.length → ∃ b o, A = some ⟨b, o, none⟩ ∧ b < B ∧ ∀ i (h : i < ts.length),
  ∃ Ai ci, w.cell? ⟨b, o + i, none⟩ = some (.slice Ai ts[i].length ci) ∧ ts[i].length ≤ ci ∧ ci ≤ 9223372036854775807 ∧ Tab2 w B Ai ts[i]
theorem Tab2.later {w w' : World} {A : Option Addr} {rs : List (List Nat)} (h : Tab2 w w.heap.size A rs) (hb : Below w.heap.size w w') : Tab2 w' w'.heap.size A rs := fun hl => by
  obtain ⟨b, o, h1, h2, h3⟩ := h hl
  refine ⟨b, o, h1, Nat.lt_of_lt_of_le h2 hb.size, fun i hi => ?_⟩
  obtain ⟨Ai, ci, h4, h5, h6, h7⟩ := h3 i hi
  exact ⟨Ai, ci, by rw [hb.cell (by simpa using h2)]; exact h4, h5, h6, h7.later hb⟩
theorem Tab3.later {w w' : World} {A : Option Addr} {ts : List (List (List Nat))} (h : Tab3 w w.heap.size A ts) (hb : Below w.heap.size w w') : Tab3 w' w'.heap.size A ts := fun hl => by
  obtain ⟨b, o, h1, h2, h3⟩ := h hl
  refine ⟨b, o, h1, Nat.lt_of_lt_of_le h2 hb.size, fun i hi => ?_⟩
  obtain ⟨Ai, ci, h4, h5, h6, h7⟩ := h3 i hi
  exact ⟨Ai, ci, by rw [hb.cell (by simpa using h2)]; exact h4, h5, h6, h7.later hb⟩
/-- What is owned can be read. -/
theorem FamG.tab2 {w : World} {base : Nat} {fs : List (TypeId × Value × List Value)} (h : FamG w base fs) {r : NRow} (hr : rowT r ∈ fs) (hl : ∀ x ∈ r.2, leafT x ∈ fs) : ∃ A c, r.1 = .slice A (r.2.map (·.2)).length c ∧ (r.2.map (·.2)).length ≤ c ∧ c ≤ 9223372036854775807 ∧ Tab2 w w.heap.size A (r.2.map (·.2)) := by
  have ho := h.rows _ hr
  have e : (rowT r).2.2.length = (r.2.map (·.2)).length := by unfold rowT; simp
  rw [e] at ho
  obtain ⟨A, c, hv, h1, h2⟩ := own_slice ho
  refine ⟨A, c, hv, h1, h2, fun hlen => ?_⟩
  obtain ⟨g, cap, hv', -, hg, -, -, hc⟩ := own_shape ho hlen
  have hA : A = some ⟨g, 0, none⟩ := by
    have := hv.symm.trans hv'
    injection this
  refine ⟨g, 0, hA, hg, fun i hi => ?_⟩
  have hi' : i < r.2.length := by simpa using hi
  have hx := h.rows _ (hl _ (List.getElem_mem hi'))
  unfold leafT at hx
  rw [natVals_len] at hx
  obtain ⟨Ai, ci, he, h3, h4, h5⟩ := OwnN.read (show w.ownsRow base 3 1 _ _ (natVals _) from hx)
  refine ⟨Ai, ci, ?_, by rw [List.getElem_map]; exact h3, h4, by rw [List.getElem_map]; exact h5⟩
  rw [Nat.zero_add, hc i (r.2[i].1) (by unfold rowT; simp [hi']), he, List.getElem_map]
theorem FamG.tab3 {w : World} {base : Nat} {v : Value} {R : List NRow} (h : FamG w base (outT v R :: famR R)) : ∃ A c, v = .slice A (R.map fun r => r.2.map (·.2)).length c ∧ (R.map fun r => r.2.map (·.2)).length ≤ c ∧ c ≤ 9223372036854775807 ∧ Tab3 w w.heap.size A (R.map fun r => r.2.map (·.2)) := by
  have ho := h.rows _ List.mem_cons_self
  have e : (outT v R).2.2.length = (R.map fun r => r.2.map (·.2)).length := by unfold outT; simp
  rw [e] at ho
  obtain ⟨A, c, hv, h1, h2⟩ := own_slice ho
  refine ⟨A, c, hv, h1, h2, fun hlen => ?_⟩
  obtain ⟨g, cap, hv', -, hg, -, -, hc⟩ := own_shape ho hlen
  have hA : A = some ⟨g, 0, none⟩ := by
    have := hv.symm.trans hv'
    injection this
  refine ⟨g, 0, hA, hg, fun i hi => ?_⟩
  have hi' : i < R.length := by simpa using hi
  have hmem : ∀ f ∈ rowT R[i] :: R[i].2.map leafT, f ∈ outT v R :: famR R := fun f hf => List.mem_cons_of_mem _ (List.mem_flatMap.2 ⟨R[i], List.getElem_mem hi', hf⟩)
  obtain ⟨Ai, ci, he, h3, h4, h5⟩ := h.tab2 (r := R[i]) (hmem _ List.mem_cons_self) (fun x hx => hmem _ (List.mem_cons_of_mem _ (List.mem_map_of_mem hx)))
  refine ⟨Ai, ci, ?_, by rw [List.getElem_map]; exact h3, h4, by rw [List.getElem_map]; exact h5⟩
  rw [Nat.zero_add, hc i (R[i].1) (by unfold outT; simp [hi']), he, List.getElem_map]

theorem infoIntss : (Try.prog.info? 23).map (fun i => (i.zero, i.size, i.bytes)) = some (some (.slice none 0 0), 1, 24) := by kernel_rfl
/-- What l4Moves holds in memory. -/
structure MovSt (w0 wr : World) (v : Value) (R : List NRow) (rest : List (TypeId × Value × List Value)) : Prop where
  below : Below w0.heap.size w0 wr
  fam : FamG wr w0.heap.size (outT v R :: (rest ++ famR R))
theorem MovSt.later {w0 wr w' : World} {v : Value} {R : List NRow} {rest : List (TypeId × Value × List Value)} (h : MovSt w0 wr v R rest) (hb : Below wr.heap.size wr w') : MovSt w0 w' v R rest := ⟨h.below.trans (hb.mono h.below.size), h.fam.later hb⟩
/-- A fresh row. -/
theorem MovSt.fresh {w0 wr : World} {v : Value} {R : List NRow} (h : MovSt w0 wr v R []) : MovSt w0 (wr.alloc (.cells #[] 40)) v R [rowT (.slice (some ⟨wr.heap.size, 0, none⟩) 0 0, [])] := by
  have hb : Below wr.heap.size wr (wr.alloc (.cells #[] 40)) := (Below.refl _ _).alloc (Nat.le_refl _) _
  refine ⟨h.below.trans (hb.mono h.below.size), ?_⟩
  have := h.fam.add hb h.below.size (own_fresh wr 40)
  refine this.perm ?_
  exact List.Perm.swap _ _ _
/-- A list goes into the row. -/
theorem MovSt.leaf {w0 wr w7 w8 : World} {v vR vR' vL : Value} {R : List NRow} {lv : List NLeaf} {ns : List Nat} (h : MovSt w0 wr v R (rowT (vR, lv) :: lv.map leafT)) (hb : Below wr.heap.size wr w7) (hL : OwnNats w7 wr.heap.size vL ns) (hg : w7.grownBy w8 vR.ownBlock)
    (ho : w8.ownsRow w0.heap.size 40 1 vR' (lv.length + 1) (lv.map (·.1) ++ [vL])) (hat : vR'.ownBlock = vR.ownBlock ∨ vR'.ownBlock = some w7.heap.size) : MovSt w0 w8 v R (rowT (vR', lv ++ [(vL, ns)]) :: (lv ++ [(vL, ns)]).map leafT) := by
  have h1 := h.fam.add (t := 3) (ys := natVals ns) hb h.below.size (by rw [natVals_len]; exact hL)
  have h2 := h1.app0 (l1 := [(3, vL, natVals ns), outT v R]) (f := rowT (vR, lv)) (l2 := lv.map leafT ++ famR R) (v' := vR') (ys' := (lv ++ [(vL, ns)]).map (·.1)) hg (by
    rw [List.map_append, List.length_append, List.length_map]
    exact ho) hat
  have hk : KeepB (fun b => vR.ownBlock = some b) w7 w8 := (KeepB.refl _ w7).grown hg fun k hk _ => hk
  refine ⟨hk.below (h.below.trans (hb.mono h.below.size)) (Nat.le_trans h.below.size hb.size) fun b e => (h.fam.lt (f := rowT (vR, lv)) (by simp) e).1, h2.perm ?_⟩
  rw [show (lv ++ [(vL, ns)]).map leafT = lv.map leafT ++ [leafT (vL, ns)] from by rw [List.map_append]; rfl]
  show List.Perm (leafT (vL, ns) :: outT v R :: rowT (vR', lv ++ [(vL, ns)]) :: (lv.map leafT ++ famR R)) (outT v R :: ((rowT (vR', lv ++ [(vL, ns)]) :: (lv.map leafT ++ [leafT (vL, ns)])) ++ famR R))
  refine (List.Perm.swap _ _ _).trans (List.Perm.cons _ ?_)
  refine (List.Perm.swap _ _ _).trans (List.Perm.cons _ ?_)
  show List.Perm _ ((lv.map leafT ++ [leafT (vL, ns)]) ++ famR R)
  rw [List.append_assoc]
  exact List.perm_middle.symm
/-- The row goes into the table. -/
theorem MovSt.row {w0 wr w8 : World} {v v' vR : Value} {R : List NRow} {lv : List NLeaf} {o : Obj} (h : MovSt w0 wr v R (rowT (vR, lv) :: lv.map leafT)) (hg : (wr.alloc o).grownBy w8 v.ownBlock)
    (ho : w8.ownsRow w0.heap.size 23 1 v' (R.length + 1) (R.map (·.1) ++ [vR])) (hat : v'.ownBlock = v.ownBlock ∨ v'.ownBlock = some (wr.alloc o).heap.size) : MovSt w0 w8 v' (R ++ [(vR, lv)]) [] := by
  have hb : Below wr.heap.size wr (wr.alloc o) := (Below.refl _ _).alloc (Nat.le_refl _) _
  have h1 := (h.later hb).fam
  have h2 := h1.app0 (l1 := []) (f := outT v R) (v' := v') (ys' := (R ++ [(vR, lv)]).map (·.1)) hg (by
    rw [List.map_append, List.length_append, List.length_map]
    exact ho) hat
  have hk : KeepB (fun b => v.ownBlock = some b) (wr.alloc o) w8 := (KeepB.refl _ _).grown hg fun k hk _ => hk
  refine ⟨hk.below (h.below.trans (hb.mono h.below.size)) (Nat.le_trans h.below.size hb.size) fun b e => (h.fam.lt (f := outT v R) (by simp) e).1, h2.perm ?_⟩
  refine List.Perm.cons _ ?_
  rw [famR_snoc]
  exact List.perm_append_comm
/-- Lists of numbers that lie elsewhere. -/
theorem FamG.side {w w1 : World} {base : Nat} {fs : List (TypeId × Value × List Value)} {f : TypeId × Value × List Value} {vX : Value} {ns : List Nat} (h : FamG w base fs) (hf : f ∈ fs) (ht : 3 ≠ f.1) (hg : w.grownBy w1 f.2.1.ownBlock) (ho : OwnNats w base vX ns) : OwnNats w1 base vX ns := by
  have hk : KeepB (fun b => f.2.1.ownBlock = some b) w w1 := (KeepB.refl _ w).grown hg fun k hk _ => hk
  exact own_keep ho hk fun g hg e => own_ne_own ho (h.rows f hf) ht g g hg e rfl
def movT (ss : List Nat) (ch : Nat → Nat → Nat → List Nat) (L : List Nat) (n : Nat) : List (List Nat) := L.map fun l => nxN ss ch n l

set_option maxRecDepth 100000 in
set_option maxHeartbeats 8000000 in
theorem l4Moves_any (c0 c1 c2 : Value) (lt kd gl : Int) (ss : List Nat) (ch : Nat → Nat → Nat → List Nat) (A : Option Addr) (c total : Nat) (w : World) (hN : NetOk w (netV c0 c1 c2 lt kd gl) ss ch) (ht : total ≤ 4096)
    (hsc : ss.length ≤ c) (hc : c ≤ 9223372036854775807) (hr : NatsAt w w.heap.size A ss) :
    Calls Try.prog 63 #[netV c0 c1 c2 lt kd gl, .slice A ss.length c, .int .i64 (total : Nat)] w fun e w' => ∃ AT cT, e = .returned (.slice AT total cT) ∧ total ≤ cT ∧ cT ≤ 9223372036854775807 ∧ Tab3 w' w'.heap.size AT ((List.range total).map (movT ss ch (letters lt))) ∧ Below w.heap.size w w' := by
  obtain ⟨j0, hj0, hy0, hy1, hy2⟩ := info_parts infoInts
  obtain ⟨k0, hk0, hx0, hx1, hx2⟩ := info_parts infoIntss
  have hlen3 := hN.len3
  have hs1 : Hid (∀ a ∈ ss, 1 ≤ a) := hid fun a ha => (hN.size a ha).1
  obtain ⟨w0, hw0, hzz0, hB0, hS⟩ := boxed w #[c0, c1, c2, .int .i64 lt, .int .i64 kd, .int .i64 gl] 84
  have hN0 := hid (hN.later hB0)
  have hr0 := hid (hr.later hB0)
  have hSp := hid (fun w' (hb : Below w0.heap.size w0 w') => And.intro (And.intro (hS 0 _ rfl w' (hb.mono hzz0)) (And.intro (hS 1 _ rfl w' (hb.mono hzz0)) (hS 2 _ rfl w' (hb.mono hzz0)))) (And.intro (hS 3 _ rfl w' (hb.mono hzz0)) (And.intro (hS 4 _ rfl w' (hb.mono hzz0)) (hS 5 _ rfl w' (hb.mono hzz0)))))
  have hst0 := hid (own_fresh w0 23)
  obtain ⟨L, hL⟩ : ∃ L, Hid (L = letters lt) := ⟨_, hid rfl⟩
  have hL6 : L.length ≤ 6 := by rw [hL.out]; exact letters_len6 lt
  have hlL : Hid (∀ l ∈ L, l < 6) := hid fun l hl => by rw [hL.out] at hl; exact (letters_lt hl).1
  rw [← hL.out]
  replace hr := hid hr
  clear hN hS
  unfold netV
  go_enter Try.func63, Try.ntmps63
  go_upto_region 2 with fail
  obtain ⟨w1, hw1⟩ : ∃ w1, w0.alloc (.cells #[] 23) = w1 := ⟨_, rfl⟩
  have hb1 : Below w0.heap.size w0 w1 := by rw [← hw1]; exact (Below.refl _ _).alloc (Nat.le_refl _) _
  have hm1 : Hid (MovSt w0 w1 (.slice (some ⟨w0.heap.size, 0, none⟩) 0 0) [] []) := hid (by
    refine ⟨hb1, ?_⟩
    have h := hst0.out
    rw [hw1] at h
    exact FamG.start h)
  rw [hw1]
  have p3 := (hSp.out w1 hb1).2.1
  have hz01 := hb1.size
  clear hst0 hw1 hw0
  go_wp2_with fail
  refine (l1Letters_any lt w1).mono ?_
  rintro e w2 ⟨vL, rfl, hoL, hb2⟩
  rw [← hL.out] at hoL
  obtain ⟨AL, cL, rfl, hcL, hcL', hLL⟩ := OwnNats.read hoL
  have hm2 := hid (hm1.out.later hb2)
  have hoL2 := hid (own_base hoL hz01)
  clear hLL p3 hm1 hoL
  go_wp2_with fail
  go_loopw [7, 9] (fun vO iv wr => ∃ (i : Nat) (R : List NRow) (AO : Option Addr) (cO : Nat), vO = .slice AO R.length cO ∧ iv = .int .i64 (i : Nat) ∧ i ≤ total ∧ R.map (fun r => r.2.map (·.2)) = (List.range i).map (movT ss ch L) ∧ MovSt w0 wr (.slice AO R.length cO) R [] ∧ OwnNats wr w0.heap.size (.slice AL L.length cL) L) (fun _ iv _ => total - (intOf iv).toNat)
  case atStart => exact ⟨0, [], _, _, rfl, rfl, Nat.zero_le _, rfl, hm2.out, hoL2.out⟩
  case round =>
    clear hm2 hoL2
    obtain ⟨i, R, AO, cO, rfl, rfl, hiT, hR, hm, hoL⟩ := hrel
    have hRl : R.length = i := by
      have := congrArg List.length hR
      rw [List.length_map, List.length_map, List.length_range] at this
      exact this
    have hR4 : R.length ≤ 4096 := by omega
    have hBm := hm.below
    have hszm := hBm.size
    replace hR := hid hR
    by_cases hlt : i < total
    · have hm' := hid hm
      have hoL' := hid hoL
      have hrr := hid (hr0.out.later hBm)
      replace hRl := hid hRl
      clear hm hoL
      go_wp2_with fail
      refine (l4Decode_any ss A c i wr hs1.out hlen3 (by omega) hsc hc hrr.out).mono ?_
      rintro e w5 ⟨vS, rfl, hoS, hb5⟩
      obtain ⟨AS, cS, rfl, hcS, hcS', -⟩ := OwnNats.read hoS
      obtain ⟨qs, hqs⟩ : ∃ qs, Hid (qs = decS ss i) := ⟨_, hid rfl⟩
      rw [← hqs.out] at hoS hcS ⊢
      have hql : qs.length = ss.length := by rw [hqs.out]; exact decS_len ss i
      have hqlt : Hid (∀ j, j < ss.length → qs.getD j 0 < ss.getD j 1) := hid fun j hj => by
        rw [hqs.out, getD_at1 hj]
        exact decS_lt hs1.out i j hj
      have hnxq : Hid (∀ l, nxN ss ch i l = nxK ss (fun j => ch j (qs.getD j 0) l) ss.length) := hid fun l => by rw [hqs.out]; rfl
      have hoS' := hid (own_base hoS hszm)
      have hm5 := hid (hm'.out.later hb5).fresh
      have hbf : Below w5.heap.size w5 (w5.alloc (.cells #[] 40)) := (Below.refl _ _).alloc (Nat.le_refl _) _
      have hoL5 := hid (own_later_ (own_later_ hoL'.out hb5) hbf)
      have hoS5 := hid (own_later_ hoS'.out hbf)
      replace hql := hid hql
      clear hoS hbf
      go_wp2_with fail
      obtain ⟨wo, rfl⟩ : ∃ wo : World, wo = wr := ⟨_, rfl⟩
      go_loopw [11, 12] (fun vR kv wr => ∃ (k : Nat) (lv : List NLeaf) (AR : Option Addr) (cR : Nat), vR = .slice AR lv.length cR ∧ kv = .int .i64 (k : Nat) ∧ k ≤ L.length ∧ lv.map (·.2) = (L.take k).map (fun l => nxN ss ch i l) ∧ MovSt w0 wr (.slice AO R.length cO) R (rowT (.slice AR lv.length cR, lv) :: lv.map leafT) ∧ OwnNats wr w0.heap.size (.slice AL L.length cL) L ∧ OwnNats wr w0.heap.size (.slice AS qs.length cS) qs) (fun _ kv _ => L.length - (intOf kv).toNat)
      case atStart => exact ⟨0, [], _, _, rfl, rfl, Nat.zero_le _, by simp, hm5.out, hoL5.out, hoS5.out⟩
      case round =>
        clear hm5 hoL5 hoS5
        obtain ⟨k, lv, AR, cR, rfl, rfl, hk, hlv, hmr, hoLr, hoSr⟩ := hrel
        have hll : lv.length = k := by
          have := congrArg List.length hlv
          rw [List.length_map, List.length_map, List.length_take] at this
          omega
        have hl6 : lv.length ≤ 6 := by omega
        have hBr := hmr.below
        have hzr := hBr.size
        by_cases hkl : k < L.length
        · obtain ⟨AL2, cL2, e, -, -, hNL⟩ := OwnNats.read hoLr
          cases e
          obtain ⟨bL, oL, hLe, hbL, hEL⟩ := hNL (by omega)
          subst hLe
          have l0 := hEL k hkl
          obtain ⟨l, hle⟩ : ∃ l, Hid (l = L[k]) := ⟨_, hid rfl⟩
          rw [← hle.out] at l0
          have hl6' : l < 6 := by rw [hle.out]; exact hlL.out _ (List.getElem_mem _)
          obtain ⟨AS2, cS2, e, -, -, hNS⟩ := OwnNats.read hoSr
          cases e
          have hNS' := hid hNS
          have hcl := hid (fun w' (hb : Below wr.heap.size wr w') => by
            have h := l4Nexts_any c0 c1 c2 lt kd gl ss qs ch A (AS) c cS l w' (hN0.out.later (hBr.trans (hb.mono hzr))) hql.out hqlt.out hl6' hsc hc hcS hcS' (hr0.out.later (hBr.trans (hb.mono hzr))) (hNS'.out.later hb)
            rw [← hnxq.out l] at h
            unfold netV at h
            exact h)
          have hlv2 : Hid (∀ u : Value, (lv ++ [((u, nxN ss ch i l) : NLeaf)]).map (·.2) = (L.take (k + 1)).map (fun l => nxN ss ch i l)) := hid fun u => by
            rw [List.map_append, hlv, List.take_succ_eq_append_getElem hkl, List.map_append, hle.out]
            rfl
          obtain ⟨⟨p0, p1, p2⟩, p3, p4, p5⟩ := hSp.out wr hBr
          have hlw : w.heap.size < wr.heap.size := by omega
          have y0 : ∀ x', (Fam wr.heap.size wr x').cell? ⟨w.heap.size, 0, none⟩ = some c0 := fun x' => by rw [(Fam.below wr.heap.size wr x').cell (by simpa using hlw)]; exact p0
          have y1 : ∀ x', (Fam wr.heap.size wr x').cell? ⟨w.heap.size, 1, none⟩ = some c1 := fun x' => by rw [(Fam.below wr.heap.size wr x').cell (by simpa using hlw)]; exact p1
          have y2 : ∀ x', (Fam wr.heap.size wr x').cell? ⟨w.heap.size, 2, none⟩ = some c2 := fun x' => by rw [(Fam.below wr.heap.size wr x').cell (by simpa using hlw)]; exact p2
          have y3 : ∀ x', (Fam wr.heap.size wr x').cell? ⟨w.heap.size, 3, none⟩ = some (.int .i64 lt) := fun x' => by rw [(Fam.below wr.heap.size wr x').cell (by simpa using hlw)]; exact p3
          have y4 : ∀ x', (Fam wr.heap.size wr x').cell? ⟨w.heap.size, 4, none⟩ = some (.int .i64 kd) := fun x' => by rw [(Fam.below wr.heap.size wr x').cell (by simpa using hlw)]; exact p4
          have y5 : ∀ x', (Fam wr.heap.size wr x').cell? ⟨w.heap.size, 5, none⟩ = some (.int .i64 gl) := fun x' => by rw [(Fam.below wr.heap.size wr x').cell (by simpa using hlw)]; exact p5
          have y6 : ∀ x', (Fam wr.heap.size wr x').cell? ⟨bL, oL + k, none⟩ = some (.int .i64 (l : Nat)) := fun x' => by rw [(Fam.below wr.heap.size wr x').cell (by simpa using hbL)]; exact l0
          have k1 : (0 : Int) ≤ (k : Int) ∧ (k : Int) < (L.length : Int) := by omega
          have hmr' := hid hmr
          have hoLr' := hid hoLr
          have hoSr' := hid hoSr
          obtain ⟨ns, hns⟩ : ∃ ns, Hid (ns = nxN ss ch i l) := ⟨_, hid rfl⟩
          rw [← hns.out] at hcl hlv2
          replace hlv := hid hlv
          replace hll := hid hll
          replace hEL := hid hEL
          replace hNL := hid hNL
          replace hBr := hid hBr
          clear hmr hoLr hoSr hNS p0 p1 p2 p3 p4 p5 l0
          go_upto_region 11 with fail
          refine wp_region_grow 10 wr.heap.size wr (fun _ u w' => OwnNats w' wr.heap.size u ns) (by kernel_rfl) (by kernel_rfl) (Nat.le_refl _) (Below.refl _ _) ?_
          simp only [List.take_succ_cons, List.take_zero, List.drop_succ_cons, List.drop_zero]
          (repeat (refine grow_quiet (by rfl) (by rfl) (by rfl) ?_; intro K hK; go_big_quiet_op; go_big_quiet_on))
          refine grow_call (by rfl) (by rfl) (fun u v v' hb h => own_keep h (.of_below (K := fun _ => False) hb) fun _ _ h => h) (fun wq hbq _ => ?_) fun u hu => ?_
          · go_simp
            refine ⟨rfl, (hcl.out wq hbq).mono ?_⟩
            rintro e w5 ⟨v, rfl, ho, hb5⟩
            exact ⟨v, rfl, hb5, own_base ho hbq.size⟩
          obtain ⟨wX, -, hoX⟩ := hu
          obtain ⟨AC, cC, rfl, -, -, -⟩ := OwnNats.read hoX
          clear hoX
          simp only [Act.put, List.setIfInBounds_toArray, List.set_cons_zero, List.set_cons_succ]
          (repeat (refine grow_quiet (by rfl) (by rfl) (by rfl) ?_; intro K hK; go_big_quiet_op; go_big_quiet_on))
          refine grow_new (by rfl) (fun b => .slice (some ⟨b, 0, none⟩) 1 1) 40 #[.slice AC ns.length cC] (fun _ => by go_simp) (fun _ => rfl) (Nat.le_refl _) fun g3 hg3 => ?_
          simp only [Act.put, List.setIfInBounds_toArray, List.set_cons_zero, List.set_cons_succ]
          refine grow_nil ?_
          intro w7 hb7 hf
          obtain ⟨g3', hge, -, hblk3⟩ := hf _ List.mem_cons_self
          cases hge
          have hoC7 : OwnNats w7 wr.heap.size (.slice AC ns.length cC) ns := hf _ (List.mem_cons_of_mem _ List.mem_cons_self)
          have hnew3 := hid (Blk.news hblk3)
          have hfam7 := (hmr'.out.later hb7).fam
          have hoW := hfam7.rows (rowT (.slice AR lv.length cR, lv)) (by simp)
          have hoL7 := hid (own_later_ hoLr'.out hb7)
          have hoS7 := hid (own_later_ hoSr'.out hb7)
          have hz7 := hb7.size
          have hlm : Hid ((lv.map (·.1)).length = lv.length) := hid (by simp)
          replace hoC7 := hid hoC7
          replace hfam7 := hid hfam7
          have hoW' : Hid (w7.ownsRow w0.heap.size 40 1 (.slice AR lv.length cR) lv.length (lv.map (·.1))) := hid (by
            have h : w7.ownsRow w0.heap.size 40 1 (.slice AR lv.length cR) (lv.map (·.1)).length (lv.map (·.1)) := hoW
            rw [hlm.out] at h
            exact h)
          clear hblk3 hf y0 y1 y2 y3 y4 y5 y6 hoW
          go_wp2_with (at_builtin; refine wpList_append_own_at _ rfl _ _ 23 rfl w0.heap.size 40 j0 (.slice none 0 0) 1 24 Try.underlying23 hj0 hy0 hy1 hy2 rfl (by decide) _ _ _ rfl hoW'.out ⟨g3, 0, none⟩ 1 1 [.slice AC ns.length cC] rfl rfl hnew3.out (by intro u hu; simp at hu; subst hu; rfl) (by unfold maxLen; omega) (by omega) (by first | omega | (simp; omega)) ?_; intro v8 w8 hO8 hg8 _ hat8; obtain ⟨Av8, cv8, ev8, -, -⟩ := own_slice hO8; subst ev8; have hm8 := hid (hmr'.out.leaf hb7 hoC7.out hg8 hO8 hat8); have hoL8 := hid (hfam7.out.side (f := rowT (.slice AR lv.length cR, lv)) (by simp) (show 3 ≠ 40 from by decide) hg8 hoL7.out); have hoS8 := hid (hfam7.out.side (f := rowT (.slice AR lv.length cR, lv)) (by simp) (show 3 ≠ 40 from by decide) hg8 hoS7.out); clear hO8 hg8 hat8)
          go_roundw
          case rel => exact ⟨k + 1, lv ++ [(.slice AC ns.length cC, ns)], _, _, by rw [List.length_append]; rfl, by go_num, by omega, hlv2.out _, by have := hm8.out; rw [List.length_append]; exact this, hoL8.out, hoS8.out⟩
          case measure => simp [intOf]; omega
        · obtain rfl : k = L.length := by omega
          have hR2 : Hid ((R ++ [((.slice AR lv.length cR, lv) : NRow)]).map (fun r => r.2.map (·.2)) = (List.range (i + 1)).map (movT ss ch L)) := hid (by
            rw [List.map_append, hR.out, List.range_succ, List.map_append, List.map_singleton, List.map_singleton, hlv, List.take_length]
            rfl)
          have hb8 : Below wr.heap.size wr (wr.alloc (.cells #[.slice AR lv.length cR] 23)) := (Below.refl _ _).alloc (Nat.le_refl _) _
          have hfam7 := (hmr.later hb8).fam
          have hoW := hfam7.rows (outT (.slice AO R.length cO) R) (by simp)
          have hlm : Hid ((R.map (·.1)).length = R.length) := hid (by simp)
          have hoW' : Hid ((wr.alloc (.cells #[.slice AR lv.length cR] 23)).ownsRow w0.heap.size 23 1 (.slice AO R.length cO) R.length (R.map (·.1))) := hid (by
            have h : (wr.alloc (.cells #[.slice AR lv.length cR] 23)).ownsRow w0.heap.size 23 1 (.slice AO R.length cO) (R.map (·.1)).length (R.map (·.1)) := hoW
            rw [hlm.out] at h
            exact h)
          have hoL7 := hid (own_later_ hoLr hb8)
          have hmr' := hid hmr
          replace hfam7 := hid hfam7
          replace hlv := hid hlv
          replace hll := hid hll
          replace hoLr := hid hoLr
          replace hoSr := hid hoSr
          replace hBr := hid hBr
          clear hmr hoW hb8
          go_wp2_with (at_builtin; refine wpList_append_own_at _ rfl _ _ 95 rfl w0.heap.size 23 k0 (.slice none 0 0) 1 24 Try.underlying95 hk0 hx0 hx1 hx2 rfl (by decide) _ _ _ rfl hoW'.out ⟨wr.heap.size, 0, none⟩ 1 1 [.slice AR lv.length cR] rfl rfl (cell_one_new _ _ _) (by intro u hu; simp at hu; subst hu; rfl) (by unfold maxLen; omega) (by omega) (by first | omega | (simp; omega)) ?_; intro v8 w8 hO8 hg8 _ hat8; obtain ⟨Av8, cv8, ev8, -, -⟩ := own_slice hO8; subst ev8; have hm8 := hid (hmr'.out.row hg8 hO8 hat8); have hoL8 := hid (hfam7.out.side (f := outT (.slice AO R.length cO) R) (by simp) (show 3 ≠ 23 from by decide) hg8 hoL7.out); clear hO8 hg8 hat8)
          go_roundw
          case rel => exact ⟨i + 1, R ++ [(.slice AR lv.length cR, lv)], _, _, by rw [List.length_append]; rfl, by go_num, by omega, hR2.out, by have := hm8.out; rw [List.length_append]; exact this, hoL8.out⟩
          case measure => simp [intOf]; omega
    · obtain rfl : i = total := by omega
      have hfam := hm.fam
      rw [List.nil_append] at hfam
      obtain ⟨A9, c9, e, h1, h2, h3⟩ := hfam.tab3
      rw [hR.out] at e h1 h3
      rw [List.length_map, List.length_range] at e h1
      have hB := hB0.trans (hm.below.mono hB0.size)
      injection e with e1 e2 e3
      subst e1 e3
      replace h3 := hid h3
      replace hm := hid hm
      replace hoL := hid hoL
      replace hfam := hid hfam
      replace e2 := hid e2
      go_wp2_with fail
      go_ret
      exact ⟨AO, cO, congrArg (fun n : Nat => Ending.returned (.slice AO n cO)) e2.out, h1, h2, h3.out, hB⟩

end Go.Proofs.Ytdkjnemakkppfaa

/- The reference's l4Near, l4Dist. -/
namespace Go.Proofs.Ytdkjnemakkppfaa
open Go.RowKit Go.BigFrame AG

theorem Tab2.get {w : World} {B : Nat} {A : Option Addr} {rs : List (List Nat)} (h : Tab2 w B A rs) {i : Nat} (hi : i < rs.length) : ∃ (b o : Nat) (ns : List Nat) (Ai : Option Addr) (ci : Nat), A = some ⟨b, o, none⟩ ∧ b < B ∧ Hid (ns = rs[i]) ∧ w.cell? ⟨b, o + i, none⟩ = some (.slice Ai ns.length ci) ∧ ns.length ≤ ci ∧ ci ≤ 9223372036854775807 ∧ Hid (NatsAt w B Ai ns) := by
  obtain ⟨b, o, h1, h2, h3⟩ := h (by omega)
  obtain ⟨Ai, ci, h4, h5, h6, h7⟩ := h3 i hi
  exact ⟨b, o, rs[i], Ai, ci, h1, h2, hid rfl, h4, h5, h6, hid h7⟩
theorem Tab3.get {w : World} {B : Nat} {A : Option Addr} {ts : List (List (List Nat))} (h : Tab3 w B A ts) {i : Nat} (hi : i < ts.length) : ∃ (b o : Nat) (rs : List (List Nat)) (Ai : Option Addr) (ci : Nat), A = some ⟨b, o, none⟩ ∧ b < B ∧ Hid (rs = ts[i]) ∧ w.cell? ⟨b, o + i, none⟩ = some (.slice Ai rs.length ci) ∧ rs.length ≤ ci ∧ ci ≤ 9223372036854775807 ∧ Hid (Tab2 w B Ai rs) := by
  obtain ⟨b, o, h1, h2, h3⟩ := h (by omega)
  obtain ⟨Ai, ci, h4, h5, h6, h7⟩ := h3 i hi
  exact ⟨b, o, ts[i], Ai, ci, h1, h2, hid rfl, h4, h5, h6, hid h7⟩
def nearL (rs : List (List Nat)) (dv : Nat → Int) (d : Int) : Bool := rs.any fun ns => ns.any fun m => decide (dv m = d)
theorem nearL_yes {rs : List (List Nat)} {dv : Nat → Int} {d : Int} {i j : Nat} (hi : i < rs.length) (hj : j < (rs[i]).length) (h : dv (rs[i])[j] = d) : nearL rs dv d = true :=
  List.any_eq_true.2 ⟨rs[i], List.getElem_mem hi, List.any_eq_true.2 ⟨(rs[i])[j], List.getElem_mem hj, by simpa using h⟩⟩
theorem nearL_no {rs : List (List Nat)} {dv : Nat → Int} {d : Int} (h : ∀ i (hi : i < rs.length) j (hj : j < (rs[i]).length), dv (rs[i])[j] ≠ d) : nearL rs dv d = false := by
  rw [← Bool.not_eq_true]
  intro hx
  obtain ⟨ns, hns, h1⟩ := List.any_eq_true.1 hx
  obtain ⟨m, hm, h2⟩ := List.any_eq_true.1 h1
  obtain ⟨i, hi, rfl⟩ := List.mem_iff_getElem.1 hns
  obtain ⟨j, hj, rfl⟩ := List.mem_iff_getElem.1 hm
  exact h i hi j hj (by simpa using h2)

set_option maxRecDepth 100000 in
set_option maxHeartbeats 4000000 in
theorem l4Near_any (rs : List (List Nat)) (dv : Nat → Int) (d : Int) (A : Option Addr) (c g n : Nat) (w : World) (hl : rs.length ≤ c) (hc : c ≤ 9223372036854775807) (hn : n ≤ 1000000) (hr : Tab2 w w.heap.size A rs) (hlt : ∀ ns ∈ rs, ∀ m ∈ ns, m < n) (hd : ∀ m, m < n → w.cell? ⟨g, m, none⟩ = some (.int .i64 (dv m))) :
    Calls Try.prog 74 #[.slice A rs.length c, .slice (some ⟨g, 0, none⟩) n n, .int .i64 d] w fun e w' => e = .returned (.bool (nearL rs dv d)) ∧ w = w' := by
  replace hr := hid hr
  replace hlt := hid hlt
  replace hd := hid hd
  go_enter Try.func74, Try.ntmps74
  go_wp2_with fail
  go_loopw [7] (fun iv wr => ∃ i : Nat, iv = .int .i64 (i : Nat) ∧ i ≤ rs.length ∧ (∀ i' (hi : i' < rs.length), i' < i → ∀ j (hj : j < (rs[i']).length), dv (rs[i'])[j] ≠ d) ∧ w = wr) (fun iv _ => rs.length - (intOf iv).toNat)
  case atStart => exact ⟨0, rfl, Nat.zero_le _, fun i' _ h => absurd h (Nat.not_lt_zero _), by first | rfl | trivial⟩
  case round =>
    obtain ⟨i, rfl, hi, hno, rfl⟩ := hrel
    by_cases hil : i < rs.length
    · obtain ⟨b, o, ns, Ai, ci, hAe, hb, hns, r0, h1, h2, h3⟩ := hr.out.get hil
      subst hAe
      have hno' := hid hno
      have k1 : (0 : Int) ≤ (i : Int) ∧ (i : Int) < (rs.length : Int) := by omega
      clear hno
      go_wp2_with fail
      go_loopw [8] (fun jv wr => ∃ j : Nat, jv = .int .i64 (j : Nat) ∧ j ≤ ns.length ∧ (∀ j' (hj : j' < ns.length), j' < j → dv ns[j'] ≠ d) ∧ w = wr) (fun jv _ => ns.length - (intOf jv).toNat)
      case atStart => exact ⟨0, rfl, Nat.zero_le _, fun i' _ h => absurd h (Nat.not_lt_zero _), by first | rfl | trivial⟩
      case round =>
        obtain ⟨j, rfl, hj, hjn, rfl⟩ := hrel
        by_cases hjl : j < ns.length
        · obtain ⟨b2, o2, hAe2, hb2, hE2⟩ := h3.out (by omega)
          subst hAe2
          have e0 := hE2 j hjl
          obtain ⟨m, hm⟩ : ∃ m, Hid (m = ns[j]) := ⟨_, hid rfl⟩
          rw [← hm.out] at e0
          have hmn : m < n := hlt.out ns (by rw [hns.out]; exact List.getElem_mem _) m (by rw [hm.out]; exact List.getElem_mem _)
          have d0 := hd.out m hmn
          obtain ⟨x, hx⟩ : ∃ x, Hid (x = dv m) := ⟨_, hid rfl⟩
          rw [← hx.out] at d0
          have k2 : (0 : Int) ≤ (j : Int) ∧ (j : Int) < (ns.length : Int) ∧ (0 : Int) ≤ (m : Int) ∧ (m : Int) < (n : Int) := by omega
          have hjn' := hid hjn
          replace hE2 := hid hE2
          clear hjn
          by_cases hxd : x = d
          · have hq : (x == d) = true := by simpa using hxd
            have hyes := hid (nearL_yes (rs := rs) (dv := dv) (d := d) (i := i) (j := j) hil (by rw [← hns.out]; exact hjl) (by
              have h9 := hm.out
              simp only [hns.out] at h9
              rw [← h9, ← hx.out]
              exact hxd))
            replace hxd := hid hxd
            go_wp2_with fail
            go_ret
            exact ⟨ret_bool (by rw [hyes.out]), by first | rfl | trivial⟩
          · have hq : (x == d) = false := by simpa using hxd
            replace hxd := hid hxd
            go_wp2_with fail
            go_roundw
            case rel =>
              refine ⟨j + 1, by go_num, by omega, fun j' hj' hlt' => ?_, by first | rfl | trivial⟩
              by_cases e : j' = j
              · subst e
                rw [← hm.out, ← hx.out]
                exact hxd.out
              · exact hjn'.out j' hj' (by omega)
            case measure => simp [intOf]; omega
        · obtain rfl : j = ns.length := by omega
          have hjn' := hid hjn
          clear hjn
          go_wp2_with fail
          go_roundw
          case rel =>
            refine ⟨i + 1, by go_num, by omega, fun i' hi' hlt' => ?_, by first | rfl | trivial⟩
            by_cases e : i' = i
            · subst e
              intro j' hj'
              have h9 := hjn'.out
              simp only [hns.out] at h9
              exact h9 j' hj' hj'
            · exact hno'.out i' hi' (by omega)
          case measure => simp [intOf]; omega
    · obtain rfl : i = rs.length := by omega
      have hn0 := hid (nearL_no (rs := rs) (dv := dv) (d := d) fun i hi j hj => hno i hi hi j hj)
      replace hno := hid hno
      go_wp2_with fail
      go_ret
      exact ⟨ret_bool (by rw [hn0.out]), by first | rfl | trivial⟩

/-- A distance as a number: -1 for none. -/
def encD : Option Nat → Int
  | none => -1
  | some e => (e : Int)
theorem encD_at {x : Option Nat} {d : Nat} : encD x = (d : Int) ↔ x = some d := by
  cases x with
  | none =>
    constructor
    · intro h; change (-1 : Int) = (d : Int) at h; omega
    · intro h; cases h
  | some e =>
    constructor
    · intro h; change (e : Int) = (d : Int) at h; rw [show e = d from by omega]
    · intro h; injection h with h; rw [h]; rfl
/-- The distances while they are set: those below p are of the round d. -/
def mixD (L : List Nat) (nx : Nat → Nat → List Nat) (fd : Nat → Bool) (d p m : Nat) : Option Nat := if m < p then lay L nx fd (d + 1) m else lay L nx fd d m
theorem mix_at {L : List Nat} {nx : Nat → Nat → List Nat} {fd : Nat → Bool} {d p m : Nat} : mixD L nx fd d p m = some d ↔ lay L nx fd d m = some d := by
  unfold mixD
  split
  · constructor
    · intro h; exact lay_at h
    · intro h; exact lay_up h
  · exact Iff.rfl
theorem near_mix {L : List Nat} {nx : Nat → Nat → List Nat} {fd : Nat → Bool} {d p i : Nat} : nearL (L.map fun l => nx i l) (fun m => encD (mixD L nx fd d p m)) (d : Int) = nearB L nx (lay L nx fd d) d i := by
  rw [Bool.eq_iff_iff, near_iff]
  unfold nearL
  rw [List.any_eq_true]
  constructor
  · rintro ⟨ns, hns, h⟩
    obtain ⟨l, hl, rfl⟩ := List.mem_map.1 hns
    obtain ⟨m, hm, h2⟩ := List.any_eq_true.1 h
    exact ⟨l, hl, m, hm, mix_at.1 (encD_at.1 (by simpa using h2))⟩
  · rintro ⟨l, hl, m, hm, h⟩
    refine ⟨nx i l, List.mem_map_of_mem hl, List.any_eq_true.2 ⟨m, hm, ?_⟩⟩
    rw [decide_eq_true_eq]
    exact encD_at.2 (mix_at.2 h)

/-- The distances in memory. -/
def DistAt (w : World) (g N : Nat) (f : Nat → Option Nat) (cs : Array Value) : Prop := Blk w g 3 cs ∧ cs.size = N ∧ ∀ p, p < N → cs[p]? = some (.int .i64 (encD (f p)))
theorem mix_same {L : List Nat} {nx : Nat → Nat → List Nat} {fd : Nat → Bool} {d i : Nat} (h : lay L nx fd (d + 1) i = lay L nx fd d i) (m : Nat) : mixD L nx fd d (i + 1) m = mixD L nx fd d i m := by
  unfold mixD
  rcases Nat.lt_trichotomy m i with h1 | h1 | h1
  · rw [if_pos (by omega), if_pos h1]
  · subst h1
    rw [if_pos (by omega), if_neg (by omega), h]
  · rw [if_neg (by omega), if_neg (by omega)]
theorem DistAt.same {w : World} {g N : Nat} {L : List Nat} {nx : Nat → Nat → List Nat} {fd : Nat → Bool} {d i : Nat} {cs : Array Value} (h : DistAt w g N (mixD L nx fd d i) cs) (hl : lay L nx fd (d + 1) i = lay L nx fd d i) : DistAt w g N (mixD L nx fd d (i + 1)) cs :=
  ⟨h.1, h.2.1, fun p hp => by rw [mix_same hl]; exact h.2.2 p hp⟩
theorem DistAt.set {w : World} {g N : Nat} {L : List Nat} {nx : Nat → Nat → List Nat} {fd : Nat → Bool} {d i : Nat} {cs : Array Value} (h : DistAt w g N (mixD L nx fd d i) cs) (hi : i < N) (hl : lay L nx fd (d + 1) i = some (d + 1)) :
    DistAt (w.setCell ⟨g, i, none⟩ (.int .i64 ((d : Int) + 1))) g N (mixD L nx fd d (i + 1)) (cs.setIfInBounds i (.int .i64 ((d : Int) + 1))) := by
  refine ⟨h.1.set_ _ _, by simpa using h.2.1, fun p hp => ?_⟩
  by_cases e : i = p
  · subst e
    rw [Array.getElem?_setIfInBounds_self_of_lt (by rw [h.2.1]; exact hi)]
    unfold mixD
    rw [if_pos (by omega), hl]
    rfl
  · rw [Array.getElem?_setIfInBounds_ne e, h.2.2 p hp]
    unfold mixD
    by_cases h1 : p < i
    · rw [if_pos h1, if_pos (by omega)]
    · rw [if_neg h1, if_neg (by omega)]
theorem DistAt.round {w : World} {g N : Nat} {L : List Nat} {nx : Nat → Nat → List Nat} {fd : Nat → Bool} {d : Nat} {cs : Array Value} (h : DistAt w g N (mixD L nx fd d N) cs) : DistAt w g N (lay L nx fd (d + 1)) cs :=
  ⟨h.1, h.2.1, fun p hp => by rw [h.2.2 p hp]; unfold mixD; rw [if_pos hp]⟩
set_option maxRecDepth 100000 in
set_option maxHeartbeats 8000000 in
theorem l4Dist_any (L : List Nat) (nx : Nat → Nat → List Nat) (fd : Nat → Bool) (A : Option Addr) (c g N : Nat) (cs : Array Value) (wB w : World) (hc : N ≤ c) (hc' : c ≤ 9223372036854775807) (hN : N ≤ 4096) (hb : Below wB.heap.size wB w) (hg : wB.heap.size ≤ g) (hT : Tab3 wB wB.heap.size A ((List.range N).map fun n => L.map fun l => nx n l)) (hL6 : L.length ≤ 6)
    (hlt : ∀ n, n < N → ∀ l ∈ L, ∀ m ∈ nx n l, m < N) (hd : DistAt w g N (lay L nx fd 0) cs) :
    Calls Try.prog 66 #[.slice A N c, .slice (some ⟨g, 0, none⟩) N N] w fun e w' => ∃ D cs', e = .returned (.tuple #[]) ∧ Still L nx fd N D ∧ D ≤ N ∧ DistAt w' g N (lay L nx fd D) cs' ∧ KeepB (fun b => b = g) w w' := by
  replace hT := hid hT
  replace hlt := hid hlt
  replace hd := hid hd
  go_enter Try.func66, Try.ntmps66
  go_wp2_with fail
  go_loopw [4, 5] (fun bv dv wr => ∃ (b : Bool) (d : Nat) (cs : Array Value), bv = .bool b ∧ dv = .int .i64 ((d : Int) + 1) ∧ d ≤ N + 1 ∧ DistAt wr g N (lay L nx fd d) cs ∧ KeepB (fun b => b = g) w wr ∧ (b = true → d ≤ cntL L nx fd d N) ∧ (b = false → ∃ d', d = d' + 1 ∧ Still L nx fd N d')) (fun _ dv _ => N + 3 - (intOf dv).toNat)
  case atStart => exact ⟨true, 0, cs, rfl, rfl, by omega, hd.out, KeepB.refl _ _, fun _ => Nat.zero_le _, fun h => by cases h⟩
  case round =>
    clear hd
    obtain ⟨b, d, cs1, rfl, rfl, hdN, hda, hkp, hyes, hno⟩ := hrel
    cases b
    case false =>
      obtain ⟨d', rfl, hst⟩ := hno rfl
      have hda' : Hid (DistAt wr g N (lay L nx fd d') cs1) := hid ⟨hda.1, hda.2.1, fun p hp => by rw [← hst p hp]; exact hda.2.2 p hp⟩
      replace hst := hid hst
      replace hda := hid hda
      clear hyes hno
      go_wp2_with fail
      go_end0
      exact ⟨d', cs1, rfl, hst.out, by omega, hda'.out, hkp⟩
    case true =>
      have hcn := cntL_le (L := L) (nx := nx) (fd := fd) d N
      have hdn : d ≤ N := Nat.le_trans (hyes rfl) hcn
      have hy := hid (hyes rfl)
      have hda' := hid hda
      clear hyes hno hda hcn
      go_wp2_with fail
      obtain ⟨wo, rfl⟩ : ∃ wo : World, wo = wr := ⟨_, rfl⟩
      go_loopw [4, 6] (fun bv iv wr => ∃ (b : Bool) (i : Nat) (cs : Array Value), bv = .bool b ∧ iv = .int .i64 (i : Nat) ∧ i ≤ N ∧ DistAt wr g N (mixD L nx fd d i) cs ∧ KeepB (fun b => b = g) w wr ∧ (b = true → ∃ p, p < i ∧ lay L nx fd (d + 1) p ≠ lay L nx fd d p) ∧ (b = false → ∀ p, p < i → lay L nx fd (d + 1) p = lay L nx fd d p)) (fun _ iv _ => N - (intOf iv).toNat)
      case atStart => exact ⟨false, 0, cs1, rfl, rfl, Nat.zero_le _, ⟨hda'.out.1, hda'.out.2.1, fun p hp => by rw [hda'.out.2.2 p hp]; unfold mixD; rw [if_neg (by omega)]⟩, hkp, fun h => (by cases h), fun _ p hp => absurd hp (Nat.not_lt_zero _)⟩
      case round =>
        clear hda'
        obtain ⟨b, i, cs2, rfl, rfl, hi, hda, hkp2, hby, hbn⟩ := hrel
        have hB2 := hkp2.below hb hb.size (fun k (e : k = g) => by omega)
        by_cases hil : i < N
        · have c0 : wr.cell? ⟨g, i, none⟩ = some (.int .i64 (encD (mixD L nx fd d i i))) := by rw [hda.1.cell]; exact hda.2.2 i hil
          have hmi : mixD L nx fd d i i = lay L nx fd d i := by unfold mixD; rw [if_neg (Nat.lt_irrefl _)]
          rw [hmi] at c0
          clear hmi
          obtain ⟨x, hx⟩ : ∃ x, Hid (x = encD (lay L nx fd d i)) := ⟨_, hid rfl⟩
          rw [← hx.out] at c0
          have k1 : (0 : Int) ≤ (i : Int) ∧ (i : Int) < (N : Int) := by omega
          have hda' := hid hda
          have hkp' := hid hkp2
          have hby' := hid hby
          have hbn' := hid hbn
          obtain ⟨la, hla⟩ : ∃ la, Hid (la = lay L nx fd d i) := ⟨_, hid rfl⟩
          have hgz : g < wr.heap.size := hda.1.lt
          cases la with
          | some e =>
            have hx0 : ¬ (x < 0) := by rw [hx.out, ← hla.out]; show ¬ ((e : Int) < 0); omega
            have hsame := hid (show lay L nx fd (d + 1) i = lay L nx fd d i by rw [← hla.out]; exact lay_up hla.out.symm)
            clear hda hkp2 hby hbn hB2
            go_wp2_with fail
            go_roundw
            case rel =>
              refine ⟨b, i + 1, cs2, rfl, by go_num, by omega, hda'.out.same hsame.out, hkp'.out, fun h => ?_, fun h p hp => ?_⟩
              · obtain ⟨p, h1, h2⟩ := hby'.out h
                exact ⟨p, by omega, h2⟩
              · by_cases e : p = i
                · rw [e]; exact hsame.out
                · exact hbn'.out h p (by omega)
            case measure => simp [intOf]; omega
          | none =>
            have hx0 : x < 0 := by rw [hx.out, ← hla.out]; show (-1 : Int) < 0; omega
            have hTr := hT.out.later hB2
            obtain ⟨bM, oM, rs, Ai, ci, hAe, hbM, hrs, r0, h1, h2, h3⟩ := hTr.get (i := i) (by simpa using hil)
            subst hAe
            have hrs' : Hid (rs = L.map fun l => nx i l) := hid (by rw [hrs.out]; simp)
            have hnear := hid (near_mix (L := L) (nx := nx) (fd := fd) (d := d) (p := i) (i := i))
            rw [← hrs'.out] at hnear
            have hdv : Hid (∀ m, m < N → wr.cell? ⟨g, m, none⟩ = some (.int .i64 (encD (mixD L nx fd d i m)))) := hid fun m hm => by rw [hda.1.cell]; exact hda.2.2 m hm
            have hltr : Hid (∀ ns ∈ rs, ∀ m ∈ ns, m < N) := hid (by
              rw [hrs'.out]
              intro ns hns m hm
              obtain ⟨l, hl, rfl⟩ := List.mem_map.1 hns
              exact hlt.out i hil l hl m hm)
            clear hda hkp2 hby hbn hB2 hTr
            go_wp2_with fail
            refine (l4Near_any rs (fun m => encD (mixD L nx fd d i m)) _ Ai ci g N wr h1 h2 (by omega) h3.out hltr.out hdv.out).mono ?_
            rintro e w5 ⟨rfl, rfl⟩
            rw [hnear.out]
            cases hnb : nearB L nx (lay L nx fd d) d i with
            | true =>
              have hnew : Hid (lay L nx fd (d + 1) i = some (d + 1)) := hid (by rw [lay_succ, ← hla.out]; dsimp only; rw [if_pos hnb])
              have hne : Hid (lay L nx fd (d + 1) i ≠ lay L nx fd d i) := hid (by rw [hnew.out, ← hla.out]; intro h; cases h)
              replace hnb := hid hnb
              have s0 := Blk.some_ hda'.out.1 (i := i) (by rw [hda'.out.2.1]; exact hil)
              obtain ⟨sv, s0⟩ := s0
              have s1 := hda'.out.1.frozen i
              go_wp2_with fail
              go_roundw
              case rel => exact ⟨true, i + 1, _, rfl, by go_num, by omega, hda'.out.set hil hnew.out, hkp'.out.setCell _ _ (fun _ => rfl), fun _ => ⟨i, by omega, hne.out⟩, fun h => by cases h⟩
              case measure => simp [intOf]; omega
            | false =>
              have hsame : Hid (lay L nx fd (d + 1) i = lay L nx fd d i) := hid (by rw [lay_succ, ← hla.out]; dsimp only; rw [if_neg (by rw [hnb]; intro h; cases h)])
              replace hnb := hid hnb
              go_wp2_with fail
              go_roundw
              case rel =>
                refine ⟨b, i + 1, cs2, rfl, by go_num, by omega, hda'.out.same hsame.out, hkp'.out, fun h => ?_, fun h p hp => ?_⟩
                · obtain ⟨p, h1, h2⟩ := hby'.out h
                  exact ⟨p, by omega, h2⟩
                · by_cases e : p = i
                  · rw [e]; exact hsame.out
                  · exact hbn'.out h p (by omega)
              case measure => simp [intOf]; omega
        · obtain rfl : i = N := by omega
          have hda' := hid hda.round
          have hkp' := hid hkp2
          have hby' := hid hby
          have hbn' := hid hbn
          clear hda hkp2 hby hbn hB2
          go_wp2_with fail
          go_roundw
          case rel =>
            refine ⟨b, d + 1, cs2, rfl, by go_num, by omega, hda'.out, hkp'.out, fun h => ?_, fun h => ⟨d, rfl, fun p hp => hbn'.out h p hp⟩⟩
            have := cntL_grow (hby'.out h)
            have := hy.out
            omega
          case measure => simp [intOf]; omega

end Go.Proofs.Ytdkjnemakkppfaa

/- The reference's l4Closer. -/
namespace Go.Proofs.Ytdkjnemakkppfaa
open Go.RowKit Go.BigFrame AG

/-- Those of some nodes that are at a distance, once each. -/
def cls (f : Nat → Option Nat) (d : Nat) (xs : List Nat) : List Nat := dd (xs.filter fun m => decide (f m = some d))
theorem cls_off {f : Nat → Option Nat} {d : Nat} {xs : List Nat} {x : Nat} (h : f x ≠ some d) : cls f d (xs ++ [x]) = cls f d xs := by
  unfold cls
  rw [List.filter_append]
  simp [h]
theorem cls_old {f : Nat → Option Nat} {d : Nat} {xs : List Nat} {x : Nat} (h : f x = some d) (hm : x ∈ cls f d xs) : cls f d (xs ++ [x]) = cls f d xs := by
  unfold cls at hm ⊢
  rw [List.filter_append, show [x].filter (fun m => decide (f m = some d)) = [x] by simp [h], dd_snoc, addD_old hm]
theorem cls_new {f : Nat → Option Nat} {d : Nat} {xs : List Nat} {x : Nat} (h : f x = some d) (hm : x ∉ cls f d xs) : cls f d (xs ++ [x]) = cls f d xs ++ [x] := by
  unfold cls at hm ⊢
  rw [List.filter_append, show [x].filter (fun m => decide (f m = some d)) = [x] by simp [h], dd_snoc, addD_new hm]
theorem cls_len {f : Nat → Option Nat} {d N : Nat} {xs : List Nat} (h : ∀ x ∈ xs, x < N) : (cls f d xs).length ≤ N := by
  refine nodup_bound _ _ (dd_nodup _) fun x hx => ?_
  unfold cls at hx
  rw [dd_mem, List.mem_filter] at hx
  exact h x hx.1

set_option maxRecDepth 100000 in
set_option maxHeartbeats 8000000 in
theorem l4Closer_any (L : List Nat) (nx : Nat → Nat → List Nat) (f : Nat → Option Nat) (at_ : List Nat) (A Aa : Option Addr) (c ca g N kl d : Nat) (w : World) (hc : N ≤ c) (hc' : c ≤ 9223372036854775807) (hN : N ≤ 4096) (hT : Tab3 w w.heap.size A ((List.range N).map fun n => L.map fun l => nx n l))
    (hg : g < w.heap.size) (hd : ∀ m, m < N → w.cell? ⟨g, m, none⟩ = some (.int .i64 (encD (f m)))) (hlt : ∀ n, n < N → ∀ l ∈ L, ∀ m ∈ nx n l, m < N) (hat : NatsAt w w.heap.size Aa at_) (hatl : ∀ n ∈ at_, n < N) (hca : at_.length ≤ ca) (hca' : ca ≤ 9223372036854775807) (hkl : kl < L.length) (hL6 : L.length ≤ 6) :
    Calls Try.prog 68 #[.slice A N c, .slice (some ⟨g, 0, none⟩) N N, .slice Aa at_.length ca, .int .i64 (kl : Nat), .int .i64 (d : Nat)] w fun e w' => ∃ A' c', e = .returned (.slice A' (cls f d (at_.flatMap fun n => nx n L[kl])).length c') ∧ (cls f d (at_.flatMap fun n => nx n L[kl])).length ≤ c' ∧ c' ≤ 9223372036854775807 ∧ NatsAt w' w'.heap.size A' (cls f d (at_.flatMap fun n => nx n L[kl])) ∧ Below w.heap.size w w' := by
  obtain ⟨i0, hi, hz0, hz1, hz2⟩ := info_parts infoInt
  replace hT := hid hT
  replace hlt := hid hlt
  replace hd := hid hd
  replace hat := hid hat
  replace hatl := hid hatl
  have hst0 := hid (OrdSt.new0 w)
  obtain ⟨F, hF⟩ : ∃ F : Nat → List Nat, Hid (F = fun n => nx n L[kl]) := ⟨_, hid rfl⟩
  rw [← hF.out]
  have hFlt : Hid (∀ n, n < N → ∀ m ∈ F n, m < N) := hid fun n hn m hm => by
    rw [hF.out] at hm
    exact hlt.out n hn _ (List.getElem_mem hkl) m hm
  have hpre : Hid (∀ i m, m ∈ (at_.take i).flatMap F → m < N) := hid fun i m hm => by
    obtain ⟨n, hn, h2⟩ := List.mem_flatMap.1 hm
    exact hFlt.out n (hatl.out n (List.mem_of_mem_take hn)) m h2
  go_enter Try.func68, Try.ntmps68
  go_wp2_with fail
  go_loopw [11, 12] (fun ov iv wr => ∃ (i : Nat) (out : List Nat) (AO : Option Addr) (cO : Nat), ov = .slice AO out.length cO ∧ iv = .int .i64 (i : Nat) ∧ i ≤ at_.length ∧ out = cls f d ((at_.take i).flatMap F) ∧ OrdSt w wr (.slice AO out.length cO) out) (fun _ iv _ => at_.length - (intOf iv).toNat)
  case atStart => exact ⟨0, [], _, _, rfl, rfl, Nat.zero_le _, by simp [cls, dd_nil], hst0.out⟩
  case round =>
    clear hst0
    obtain ⟨i, out, AO, cO, rfl, rfl, hi1, hout, hst⟩ := hrel
    have hBm := hst.below
    have hszm := hBm.size
    by_cases hil : i < at_.length
    · obtain ⟨bA, oA, hAe, hbA, hEA⟩ := hat.out (by omega)
      subst hAe
      obtain ⟨n, hn⟩ : ∃ n, Hid (n = at_[i]) := ⟨_, hid rfl⟩
      have a0 := (hBm.cell (p := ⟨bA, oA + i, none⟩) (by simpa using hbA)).trans (hEA i hil)
      rw [← hn.out] at a0
      have hnN : n < N := by rw [hn.out]; exact hatl.out _ (List.getElem_mem hil)
      obtain ⟨bM, oM, rs, Ai, ci, hMe, hbM, hrs, r0, h1, h2, h3⟩ := hT.out.get (i := n) (by simpa using hnN)
      subst hMe
      have hrs' : Hid (rs = L.map fun l => nx n l) := hid (by rw [hrs.out]; simp)
      have hrl : rs.length = L.length := by rw [hrs'.out, List.length_map]
      obtain ⟨bR, oR, ms, Aj, cj, hRe, hbR, hms, s0, h4, h5, h6⟩ := h3.out.get (i := kl) (by omega)
      subst hRe
      replace r0 := (hBm.cell (p := ⟨bM, oM + n, none⟩) (by simpa using hbM)).trans r0
      replace s0 := (hBm.cell (p := ⟨bR, oR + kl, none⟩) (by simpa using hbR)).trans s0
      have hms' : Hid (ms = F n) := hid (by rw [hms.out, hF.out]; simp only [hrs'.out, List.getElem_map])
      have hmlt : Hid (∀ m ∈ ms, m < N) := hid (by rw [hms'.out]; exact hFlt.out n hnN)
      have k1 : (0 : Int) ≤ (i : Int) ∧ (i : Int) < (at_.length : Int) ∧ (0 : Int) ≤ (n : Int) ∧ (n : Int) < (N : Int) ∧ (0 : Int) ≤ (kl : Int) ∧ (kl : Int) < (rs.length : Int) := by omega
      have hst' := hid hst
      obtain ⟨pre, hpe⟩ : ∃ pre, Hid (pre = (at_.take i).flatMap F) := ⟨_, hid rfl⟩
      rw [← hpe.out] at hout
      have hprel : Hid (∀ m ∈ pre, m < N) := hid (by rw [hpe.out]; exact hpre.out i)
      have hsum : Hid ((at_.take (i + 1)).flatMap F = pre ++ ms) := hid (by rw [List.take_succ_eq_append_getElem hil, List.flatMap_append, ← hpe.out, ← hn.out, hms'.out]; simp)
      replace hout := hid hout
      replace hEA := hid hEA
      clear hst
      go_wp2_with fail
      obtain ⟨wo, rfl⟩ : ∃ wo : World, wo = wr := ⟨_, rfl⟩
      go_loopw [11, 14] (fun ov jv wr => ∃ (j : Nat) (out : List Nat) (AO : Option Addr) (cO : Nat), ov = .slice AO out.length cO ∧ jv = .int .i64 (j : Nat) ∧ j ≤ ms.length ∧ out = cls f d (pre ++ ms.take j) ∧ OrdSt w wr (.slice AO out.length cO) out) (fun _ jv _ => ms.length - (intOf jv).toNat)
      case atStart => exact ⟨0, out, _, _, rfl, rfl, Nat.zero_le _, by simpa using hout.out, hst'.out⟩
      case round =>
        clear hst'
        obtain ⟨j, out2, AO2, cO2, rfl, rfl, hj1, hout2, hst2⟩ := hrel
        have hBm2 := hst2.below
        have hszm2 := hBm2.size
        have hlen : out2.length ≤ 4096 := by
          rw [hout2]
          refine Nat.le_trans (cls_len (N := N) fun x hx => ?_) hN
          rcases List.mem_append.1 hx with h | h
          · exact hprel.out x h
          · exact hmlt.out x (List.mem_of_mem_take h)
        by_cases hjl : j < ms.length
        · obtain ⟨bJ, oJ, hJe, hbJ, hEJ⟩ := (h6.out.later hBm2) (by omega)
          subst hJe
          obtain ⟨m, hm⟩ : ∃ m, Hid (m = ms[j]) := ⟨_, hid rfl⟩
          have e0 := hEJ j hjl
          rw [← hm.out] at e0
          have hmN : m < N := by rw [hm.out]; exact hmlt.out _ (List.getElem_mem hjl)
          have d0 := (hBm2.cell (p := ⟨g, m, none⟩) (by simpa using hg)).trans (hd.out m hmN)
          obtain ⟨x, hx⟩ : ∃ x, Hid (x = encD (f m)) := ⟨_, hid rfl⟩
          rw [← hx.out] at d0
          have k2 : (0 : Int) ≤ (j : Int) ∧ (j : Int) < (ms.length : Int) ∧ (0 : Int) ≤ (m : Int) ∧ (m : Int) < (N : Int) := by omega
          have htk : Hid (pre ++ ms.take (j + 1) = pre ++ ms.take j ++ [m]) := hid (by rw [List.take_succ_eq_append_getElem hjl, ← hm.out, List.append_assoc])
          have hst2' := hid hst2
          replace hout2 := hid hout2
          replace hEJ := hid hEJ
          clear hst2
          by_cases hfm : f m = some d
          · have hxd : (x == (d : Int)) = true := by rw [hx.out, beq_iff_eq]; exact encD_at.2 hfm
            obtain ⟨A9, c9, he9, hc9, hc9', hN9⟩ := OwnN.read hst2'.out.own
            cases he9
            have hN9' := hid hN9
            replace hfm := hid hfm
            clear hN9
            go_wp2_with fail
            refine (l4In_any out2 m AO2 cO2 wr hc9 hc9' hN9'.out).mono ?_
            rintro e w7 ⟨rfl, rfl⟩
            by_cases hmem : m ∈ out2
            · have hadd : Hid (out2 = cls f d (pre ++ ms.take (j + 1))) := hid (by
                have h := hmem
                rw [hout2.out] at h
                rw [htk.out, cls_old hfm.out h, hout2.out])
              rw [decide_eq_true hmem]
              replace hmem := hid hmem
              go_wp2_with fail
              go_roundw
              case rel => exact ⟨j + 1, out2, _, _, rfl, by go_num, by omega, hadd.out, hst2'.out⟩
              case measure => simp [intOf]; omega
            · have hadd : Hid (out2 ++ [m] = cls f d (pre ++ ms.take (j + 1))) := hid (by
                have h := hmem
                rw [hout2.out] at h
                rw [htk.out, cls_new hfm.out h, hout2.out])
              rw [decide_eq_false hmem]
              replace hmem := hid hmem
              go_wp2_with (at_builtin; refine wpList_append_own_at _ rfl _ _ 40 rfl w.heap.size 3 i0 (.int .i64 0) 1 8 Try.underlying40 hi hz0 hz1 hz2 rfl (by decide) _ _ _ rfl (hst2'.out.own.alloc _) ⟨wr.heap.size, 0, none⟩ 1 1 [.int .i64 (m : Nat)] rfl rfl (cell_one_new _ _ _) (by intro u hu; simp at hu; subst hu; rfl) (by unfold maxLen; omega) (by omega) (by first | omega | (simp; omega)) ?_; intro v7 w7 hO7 hg7 _ hat7; obtain ⟨Av7, cv7, ev7, -, -⟩ := own_slice hO7; subst ev7; have hst7 := hid (hst2'.out.app (x := m) hg7 hO7); clear hO7 hg7 hat7)
              go_roundw
              case rel => exact ⟨j + 1, out2 ++ [m], _, _, by rw [List.length_append]; rfl, by go_num, by omega, hadd.out, by have := hst7.out; rw [List.length_append]; exact this⟩
              case measure => simp [intOf]; omega
          · have hxd : (x == (d : Int)) = false := by
              rw [hx.out, Bool.eq_false_iff]
              intro h
              exact hfm (encD_at.1 (beq_iff_eq.1 h))
            have hadd : Hid (out2 = cls f d (pre ++ ms.take (j + 1))) := hid (by rw [htk.out, cls_off hfm, hout2.out])
            replace hfm := hid hfm
            go_wp2_with fail
            go_roundw
            case rel => exact ⟨j + 1, out2, _, _, rfl, by go_num, by omega, hadd.out, hst2'.out⟩
            case measure => simp [intOf]; omega
        · obtain rfl : j = ms.length := by omega
          have hfin : Hid (out2 = cls f d ((at_.take (i + 1)).flatMap F)) := hid (by rw [hsum.out, hout2, List.take_length])
          have hst2' := hid hst2
          clear hst2 hout2
          go_wp2_with fail
          go_roundw
          case rel => exact ⟨i + 1, out2, _, _, rfl, by go_num, by omega, hfin.out, hst2'.out⟩
          case measure => simp [intOf]; omega
    · obtain rfl : i = at_.length := by omega
      rw [List.take_length] at hout
      obtain ⟨A9, c9, he9, hc9, hc9', hN9⟩ := OwnN.read hst.own
      cases he9
      rw [hout] at hc9 hN9
      replace hN9 := hid hN9
      replace hst := hid hst
      replace hout := hid hout
      go_wp2_with fail
      go_ret
      exact ⟨AO, cO, congrArg (fun xs : List Nat => Ending.returned (.slice AO xs.length cO)) hout.out, hc9, hc9', hN9.out, hBm⟩

end Go.Proofs.Ytdkjnemakkppfaa

/- The reference's l4First. -/
namespace Go.Proofs.Ytdkjnemakkppfaa
open Go.RowKit Go.BigFrame AG

theorem prodT_past {ss : List Nat} : ∀ j, prodT ss (ss.length + j) = prodT ss ss.length
  | 0 => rfl
  | j + 1 => by
    rw [← Nat.add_assoc, prodT, prodT_past j, List.getD_eq_getElem?_getD, List.getElem?_eq_none (by omega), Option.getD_none, Nat.mul_one]
theorem prodT_4096 {ss : List Nat} (h3 : ss.length ≤ 3) (hs : ∀ a ∈ ss, a ≤ 16) (k : Nat) : prodT ss k ≤ 4096 := by
  have key : ∀ k, k ≤ 3 → prodT ss k ≤ 4096 := fun k hk => Nat.le_trans (prodT_le hs (by decide) k) (Nat.le_trans (Nat.pow_le_pow_right (by decide) hk) (by decide))
  by_cases h : k ≤ ss.length
  · exact key k (by omega)
  · have := prodT_past (ss := ss) (k - ss.length)
    rw [show ss.length + (k - ss.length) = k from by omega] at this
    rw [this]
    exact key _ h3
theorem encK_lt {ss qs : List Nat} (hl : qs.length = ss.length) (hq : ∀ i, i < ss.length → qs.getD i 0 < ss.getD i 1) : ∀ k, encK ss qs k < prodT ss k
  | 0 => Nat.zero_lt_one
  | k + 1 => by
    have h1 := encK_lt hl hq k
    have h2 : qs.getD k 0 < ss.getD k 1 := by
      by_cases h : k < ss.length
      · exact hq k h
      · rw [List.getD_eq_getElem?_getD, List.getD_eq_getElem?_getD, List.getElem?_eq_none (by omega), List.getElem?_eq_none (by omega)]
        exact Nat.zero_lt_one
    rw [encK, prodT]
    have h3 : (encK ss qs k + 1) * ss.getD k 1 ≤ prodT ss k * ss.getD k 1 := Nat.mul_le_mul_right _ h1
    rw [Nat.add_mul] at h3
    omega

/-- What the search asks of a product, with its sizes and its goals. -/
structure SrchNet (w0 : World) (nv : Value) (lt : Int) (ss : List Nat) (ch : Nat → Nat → Nat → List Nat) (fd : Nat → Bool) : Prop where
  net : NetOk w0 nv ss ch
  sizes : ∀ w', Below w0.heap.size w0 w' → Calls Try.prog 62 #[nv] w' fun e w'' => ∃ v, e = .returned v ∧ OwnNats w'' w'.heap.size v ss ∧ Below w'.heap.size w' w''
  found : ∀ w' n A c B d, Below w0.heap.size w0 w' → n < prodL ss → ss.length ≤ c → c ≤ 9223372036854775807 → (letters lt).length ≤ d → d ≤ 9223372036854775807 → NatsAt w' w'.heap.size A (decS ss n) → Tab2 w' w'.heap.size B (movT ss ch (letters lt) n) →
    Calls Try.prog 64 #[nv, .slice A ss.length c, .slice B (letters lt).length d] w' fun e w'' => e = .returned (.bool (fd n)) ∧ Below w'.heap.size w' w''

set_option maxRecDepth 100000 in
set_option maxHeartbeats 16000000 in
theorem l4First_any (c0 c1 : Value) (lt kd gl : Int) (ss qs : List Nat) (ch : Nat → Nat → Nat → List Nat) (fd : Nat → Bool) (AS : Option Addr) (cS : Nat) (w : World) (hS : SrchNet w (netV c0 c1 (.slice AS qs.length cS) lt kd gl) lt ss ch fd)
    (hql : qs.length = ss.length) (hqd : qs.length ≤ cS) (hcS : cS ≤ 9223372036854775807) (hq : ∀ i, i < ss.length → qs.getD i 0 < ss.getD i 1) (hr2 : NatsAt w w.heap.size AS qs) :
    Calls Try.prog 53 #[netV c0 c1 (.slice AS qs.length cS) lt kd gl] w fun e w' => ∃ o, e = .returned (pathV o) ∧ PathPost (fun m => m ∈ [encK ss qs ss.length]) (letters lt) (nxN ss ch) (fun n => fd n = true) o ∧ Below w.heap.size w w' := by
  obtain ⟨i0, hi, hz0', hz1, hz2⟩ := info_parts infoInt
  have hlen3 := hS.net.len3
  have hs1 : Hid (∀ a ∈ ss, 1 ≤ a) := hid fun a ha => (hS.net.size a ha).1
  have hs16 : Hid (∀ a ∈ ss, a ≤ 16) := hid fun a ha => (hS.net.size a ha).2
  have hpT := hid (prodT_4096 hlen3 hs16.out)
  have hpL : Hid (prodT ss ss.length = prodL ss) := hid (prodT_all ss)
  have hp1 : 1 ≤ prodL ss := prodL_pos hs1.out
  have hpl : prodL ss ≤ 4096 := by rw [← hpL.out]; exact hpT.out _
  have heL := hid (encK_lt hql hq)
  have hchlt := hid hS.net.chlt
  obtain ⟨w0, hw0, hzz0, hB0, hSb⟩ := boxed w #[c0, c1, .slice AS qs.length cS, .int .i64 lt, .int .i64 kd, .int .i64 gl] 84
  have hNet := hid (show SrchNet w0 (netV c0 c1 (.slice AS qs.length cS) lt kd gl) lt ss ch fd from ⟨hS.net.later hB0, fun w' hb => hS.sizes w' (hB0.trans (hb.mono hB0.size)), fun w' n A c B d hb => hS.found w' n A c B d (hB0.trans (hb.mono hB0.size))⟩)
  have hr20 := hid (hr2.later hB0)
  have hSp := hid (fun w' (hb : Below w0.heap.size w0 w') => And.intro (And.intro (hSb 0 _ rfl w' (hb.mono hzz0)) (And.intro (hSb 1 _ rfl w' (hb.mono hzz0)) (hSb 2 _ rfl w' (hb.mono hzz0)))) (And.intro (hSb 3 _ rfl w' (hb.mono hzz0)) (And.intro (hSb 4 _ rfl w' (hb.mono hzz0)) (hSb 5 _ rfl w' (hb.mono hzz0)))))
  have hmk := fun W => run_make_rowN (P := Try.prog) 40 3 i0 _ Try.underlying40 hi hz0' .i64 .i64 (prodL ss) (prodL ss) (Nat.le_refl _) (by rw [hz2]; omega) (by omega) W
  rw [hz1] at hmk
  clear hS hSb hz1 hz0' hz2 hi
  replace hr2 := hid hr2
  replace hq := hid hq
  obtain ⟨N, hN⟩ : ∃ N, Hid (N = prodL ss) := ⟨_, hid rfl⟩
  rw [← hN.out] at hmk hp1 hpl hpL
  obtain ⟨L, hL⟩ : ∃ L, Hid (L = letters lt) := ⟨_, hid rfl⟩
  have hL6 : L.length ≤ 6 := by rw [hL.out]; exact letters_len6 lt
  have hlL : Hid (∀ l ∈ L, l < 6) := hid fun l hl => by rw [hL.out] at hl; exact (letters_lt hl).1
  have hLs : Hid (L.Pairwise (· < ·)) := hid (by rw [hL.out]; exact letters_sorted lt)
  obtain ⟨nx, hnx⟩ : ∃ nx, Hid (nx = nxN ss ch) := ⟨_, hid rfl⟩
  have hlt : Hid (∀ n, n < N → ∀ l ∈ L, ∀ m ∈ nx n l, m < N) := hid fun n _ l _ m hm => by
    rw [hnx.out] at hm
    rw [hN.out]
    exact nxN_lt hs1.out hchlt.out n l m hm
  rw [← hL.out, ← hnx.out]
  obtain ⟨s, hs⟩ : ∃ s, Hid (s = encK ss qs ss.length) := ⟨_, hid rfl⟩
  have hsN : s < N := by rw [hs.out, ← hpL.out]; exact heL.out _
  rw [← hs.out]
  have nvw : netV c0 c1 (.slice AS qs.length cS) lt kd gl = .agg #[c0, c1, .slice AS qs.length cS, .int .i64 lt, .int .i64 kd, .int .i64 gl] := rfl
  have hfnd : Hid (∀ w' n A c B d, Below w0.heap.size w0 w' → n < N → ss.length ≤ c → c ≤ 9223372036854775807 → L.length ≤ d → d ≤ 9223372036854775807 → NatsAt w' w'.heap.size A (decS ss n) → Tab2 w' w'.heap.size B (L.map fun l => nx n l) →
    Calls Try.prog 64 #[netV c0 c1 (.slice AS qs.length cS) lt kd gl, .slice A ss.length c, .slice B L.length d] w' fun e w'' => e = .returned (.bool (fd n)) ∧ Below w'.heap.size w' w'') := hid (by
      rw [hL.out, hnx.out, hN.out]
      exact hNet.out.found)
  have hqs1k : Hid (∀ a ∈ qs, a ≤ 1000) := hid fun a ha => by
    obtain ⟨i, hi, rfl⟩ := List.mem_iff_getElem.1 ha
    have h1 := hq.out i (by omega)
    rw [getD_at1 hi, getD_at1 (show i < ss.length by omega)] at h1
    have h2 := hs16.out _ (List.getElem_mem (show i < ss.length by omega))
    omega
  rw [nvw] at hNet hfnd ⊢
  replace hql := hid hql
  clear nvw
  go_enter Try.func53, Try.ntmps53
  go_upto_region 1 with fail
  obtain ⟨⟨p0, p1, p2⟩, p3, p4, p5⟩ := hSp.out w0 (Below.refl _ _)
  go_wp2_with fail
  clear hw0
  refine (hNet.out.sizes w0 (Below.refl _ _)).mono ?_
  rintro e w1 ⟨vS, rfl, hoS, hb1⟩
  obtain ⟨A1, k1, rfl, hk1, hk1', hS1⟩ := OwnNats.read hoS
  have hS1' := hid hS1
  clear hoS hS1 p0 p1 p2 p3 p4 p5
  go_wp2_with fail
  go_loopw [5, 6] (fun tv iv wr => ∃ i t : Nat, tv = .int .i64 (t : Nat) ∧ iv = .int .i64 (i : Nat) ∧ i ≤ ss.length ∧ t = prodT ss i ∧ w1 = wr) (fun _ iv _ => ss.length - (intOf iv).toNat)
  case atStart => exact ⟨0, 1, rfl, rfl, Nat.zero_le _, rfl, by first | rfl | trivial⟩
  case round =>
    obtain ⟨i, t, rfl, rfl, hi1, ht, rfl⟩ := hrel
    by_cases hil : i < ss.length
    · obtain ⟨b, o, hAe, hbb, hE⟩ := hS1'.out (by omega)
      subst hAe
      have a0 := hE i hil
      obtain ⟨a, ha⟩ : ∃ a, Hid (a = ss[i]) := ⟨_, hid rfl⟩
      rw [← ha.out] at a0
      have hal : a ≤ 16 := by rw [ha.out]; exact hs16.out _ (List.getElem_mem _)
      have htl : t ≤ 4096 := by rw [ht]; exact hpT.out i
      have hk : (0 : Int) ≤ (i : Int) ∧ (i : Int) < (ss.length : Int) := by omega
      obtain ⟨P, hP⟩ : ∃ P, Hid (P = t * a) := ⟨_, hid rfl⟩
      have hPl : P ≤ 65536 := by rw [hP.out]; exact Nat.le_trans (Nat.mul_le_mul htl hal) (by decide)
      have e5 : wrap64 ((t : Int) * (a : Int)) = (P : Int) := by rw [← Int.natCast_mul, ← hP.out]; exact IntWalk.wrap64_in _ ⟨by omega, by omega⟩
      have hnxt : Hid (P = prodT ss (i + 1)) := hid (by rw [hP.out, prodT, ← ht, ha.out, getD_at1 hil])
      replace ht := hid ht
      replace hE := hid hE
      have hi2 : i + 1 ≤ ss.length := hil
      clear hPl hal htl
      go_wp2_with fail
      go_roundw
      case rel => exact ⟨i + 1, P, by rw [e5], by go_num, hi2, hnxt.out, by first | rfl | trivial⟩
      case measure => simp [intOf]; omega
    · obtain rfl : i = ss.length := by omega
      rw [hpL.out] at ht
      subst t
      obtain ⟨⟨p0, p1, p2⟩, p3, p4, p5⟩ := hSp.out w1 hb1
      go_wp2_with fail
      refine (l4Moves_any c0 c1 (.slice AS qs.length cS) lt kd gl ss ch A1 k1 N w1 (hNet.out.net.later hb1) hpl hk1 hk1' hS1'.out).mono ?_
      rintro e w2 ⟨AT, cT, rfl, hcT, hcT', hTab, hb2⟩
      rw [← hL.out] at hTab
      have hTab' : Hid (Tab3 w2 w2.heap.size AT ((List.range N).map fun n => L.map fun l => nx n l)) := hid (by rw [hnx.out]; exact hTab)
      have hB2 := hb1.trans (hb2.mono hb1.size)
      clear p0 p1 p2 p3 p4 p5 hTab
      go_upto_region 9 with fail
      obtain ⟨w3, hw3⟩ : ∃ w3, w2.alloc (.cells (madeCells #[Value.int IntKind.i64 0] N) 3) = w3 := ⟨_, rfl⟩
      obtain ⟨g, hg⟩ : ∃ g, Hid (g = w2.heap.size) := ⟨_, hid rfl⟩
      have hblk3 : Blk w3 g 3 (madeCells #[Value.int IntKind.i64 0] N) := by rw [← hw3, hg.out]; exact Blk.new _ _ _
      have hb3 : Below w2.heap.size w2 w3 := by rw [← hw3]; exact (Below.refl _ _).alloc (Nat.le_refl _) _
      have hsz3 : (madeCells #[Value.int IntKind.i64 0] N).size = N := by simp [madeCells]
      rw [hw3, ← hg.out]
      have hblk3' := hid hblk3
      replace hsz3 := hid hsz3
      clear hw3 hmk hblk3
      generalize madeCells #[Value.int IntKind.i64 0] N = cs0 at hblk3' hsz3
      go_wp2_with fail
      go_loopw [9] (fun iv wr => ∃ (n : Nat) (cs : Array Value), iv = .int .i64 (n : Nat) ∧ n ≤ N ∧ Blk wr g 3 cs ∧ cs.size = N ∧ (∀ p, p < n → cs[p]? = some (.int .i64 (encD (lay L nx fd 0 p)))) ∧ KeepB (fun b => b = g) w3 wr) (fun iv _ => N - (intOf iv).toNat)
      case atStart => exact ⟨0, cs0, rfl, Nat.zero_le _, hblk3'.out, hsz3.out, fun p hp => absurd hp (Nat.not_lt_zero _), KeepB.refl _ _⟩
      case round =>
        clear hblk3' hsz3
        obtain ⟨n, cs, rfl, hn1, hblk, hsz, hcs, hkp⟩ := hrel
        have hB23 : Below w2.heap.size w2 wr := hkp.below hb3 hb3.size (fun k (e : k = g) => by rw [e, hg.out]; exact Nat.le_refl _)
        have hBr := hB2.trans (hB23.mono hB2.size)
        by_cases hnN : n < N
        · have f0 := hblk.frozen n
          obtain ⟨v0, d0⟩ := hblk.some_ (i := n) (by omega)
          have k2 : (0 : Int) ≤ (n : Int) ∧ (n : Int) < (N : Int) := by omega
          have hblk' := hid hblk
          have hkp' := hid hkp
          replace hsz := hid hsz
          replace hcs := hid hcs
          clear hblk hkp
          go_upto_region 13 with fail
          obtain ⟨w4, hw4⟩ : ∃ w4, wr.setCell ⟨g, n, none⟩ (.int .i64 (-1)) = w4 := ⟨_, rfl⟩
          have hblk4 : Hid (Blk w4 g 3 (cs.setIfInBounds n (.int .i64 (-1)))) := hid (by rw [← hw4]; exact hblk'.out.set_ _ _)
          have hkp4 : Hid (KeepB (fun b => b = g) w3 w4) := hid (by rw [← hw4]; exact hkp'.out.setCell _ _ fun _ => rfl)
          rw [hw4]
          have hB24 : Below w2.heap.size w2 w4 := hkp4.out.below hb3 hb3.size (fun k (e : k = g) => by rw [e, hg.out]; exact Nat.le_refl _)
          have hB4 := hB2.trans (hB24.mono hB2.size)
          have hS4 := hid (hS1'.out.later ((hb2.trans (hB24.mono hb2.size))))
          obtain ⟨bM, oM, rs, Ai, ci, hMe, hbM, hrs, r0, h1, h2, h3⟩ := (hTab'.out.later hB24).get (i := n) (by simpa using hnN)
          subst hMe
          have hrs' : Hid (rs = L.map fun l => nx n l) := hid (by rw [hrs.out]; simp)
          have hrl : rs.length = L.length := by rw [hrs'.out, List.length_map]
          rw [hrl] at r0 h1
          replace h3 : Hid (Tab2 w4 w4.heap.size Ai (L.map fun l => nx n l)) := hid (by rw [← hrs'.out]; exact h3.out)
          clear hrs hrs' hrl
          obtain ⟨⟨p0, p1, p2⟩, p3, p4, p5⟩ := hSp.out w4 hB4
          have hlw : w.heap.size < w4.heap.size := by have := hB4.size; omega
          have y0 : ∀ x', (Fam w4.heap.size w4 x').cell? ⟨w.heap.size, 0, none⟩ = some c0 := fun x' => by rw [(Fam.below w4.heap.size w4 x').cell (by simpa using hlw)]; exact p0
          have y1 : ∀ x', (Fam w4.heap.size w4 x').cell? ⟨w.heap.size, 1, none⟩ = some c1 := fun x' => by rw [(Fam.below w4.heap.size w4 x').cell (by simpa using hlw)]; exact p1
          have y2 : ∀ x', (Fam w4.heap.size w4 x').cell? ⟨w.heap.size, 2, none⟩ = some (.slice AS qs.length cS) := fun x' => by rw [(Fam.below w4.heap.size w4 x').cell (by simpa using hlw)]; exact p2
          have y3 : ∀ x', (Fam w4.heap.size w4 x').cell? ⟨w.heap.size, 3, none⟩ = some (.int .i64 lt) := fun x' => by rw [(Fam.below w4.heap.size w4 x').cell (by simpa using hlw)]; exact p3
          have y4 : ∀ x', (Fam w4.heap.size w4 x').cell? ⟨w.heap.size, 4, none⟩ = some (.int .i64 kd) := fun x' => by rw [(Fam.below w4.heap.size w4 x').cell (by simpa using hlw)]; exact p4
          have y5 : ∀ x', (Fam w4.heap.size w4 x').cell? ⟨w.heap.size, 5, none⟩ = some (.int .i64 gl) := fun x' => by rw [(Fam.below w4.heap.size w4 x').cell (by simpa using hlw)]; exact p5
          have y6 : ∀ x', (Fam w4.heap.size w4 x').cell? ⟨bM, oM + n, none⟩ = some (.slice Ai L.length ci) := fun x' => by rw [(Fam.below w4.heap.size w4 x').cell (by simpa using hbM)]; exact r0
          obtain ⟨v, hv⟩ : ∃ v, Hid (v = fd n) := ⟨_, hid rfl⟩
          clear p0 p1 p2 p3 p4 p5 r0 d0 f0 hw4
          refine wp_region_grow 9 w4.heap.size w4 (fun i u w' => if i = 3 then ∃ A c, u = .slice A ss.length c ∧ ss.length ≤ c ∧ c ≤ 9223372036854775807 ∧ NatsAt w' w'.heap.size A (decS ss n) else u = .bool v) (by kernel_rfl) (by kernel_rfl) (Nat.le_refl _) (Below.refl _ _) ?_
          simp only [List.take_succ_cons, List.take_zero, List.drop_succ_cons, List.drop_zero]
          (repeat (refine grow_quiet (by rfl) (by rfl) (by rfl) ?_; intro K hK; go_big_quiet_op; go_big_quiet_on))
          refine grow_call (by rfl) (by rfl) (fun u v v' hb h => ?_) (fun wq hbq _ => ?_) fun u hu => ?_
          · obtain ⟨A, c, e, h1, h2, h⟩ := h
            exact ⟨A, c, e, h1, h2, h.later hb⟩
          · go_simp
            refine ⟨rfl, (l4Decode_any ss A1 k1 n wq hs1.out hlen3 (by omega) hk1 hk1' (hS4.out.later hbq)).mono ?_⟩
            rintro e w5 ⟨v, rfl, ho, hb5⟩
            obtain ⟨A, c, rfl, h1, h2, h3⟩ := OwnNats.read ho
            refine ⟨_, rfl, hb5, A, c, ?_, by rw [← decS_len ss n]; exact h1, h2, h3⟩
            rw [decS_len]
          obtain ⟨wx, -, A5, c5, rfl, -, -, -⟩ := hu
          simp only [Act.put, List.setIfInBounds_toArray, List.set_cons_zero, List.set_cons_succ]
          (repeat (refine grow_quiet (by rfl) (by rfl) (by rfl) ?_; intro K hK; go_big_quiet_op; go_big_quiet_on))
          refine grow_val (.bool v) (by rfl) (by rfl) rfl (fun wq hbq hfx => ?_) ?_
          · obtain ⟨A6, c6, e3, h4, h5, h6⟩ := hfx _ List.mem_cons_self (by kernel_rfl)
            cases e3
            have h6' := hid h6
            clear h6 hfx
            go_simp
            refine ⟨rfl, (hfnd.out wq n A5 c5 Ai ci (hB4.trans (hbq.mono hB4.size)) hnN h4 h5 h1 h2 h6'.out (h3.out.later hbq)).mono ?_⟩
            rintro e w6 ⟨rfl, hb6⟩
            exact ⟨by rw [hv.out], hb6⟩
          simp only [Act.put, List.setIfInBounds_toArray, List.set_cons_zero, List.set_cons_succ]
          (repeat (refine grow_quiet (by rfl) (by rfl) (by rfl) ?_; intro K hK; go_big_quiet_op; go_big_quiet_on))
          refine grow_nil ?_
          intro w7 hb7 hf
          clear hf y0 y1 y2 y3 y4 y5 y6
          have hblk7 := hblk4.out.below hb7 hblk4.out.lt
          have hkp7 : KeepB (fun b => b = g) w3 w7 := hkp4.out.trans (.of_below hb7)
          have hlay : Hid (lay L nx fd 0 n = if v = true then some 0 else none) := hid (by rw [hv.out]; rfl)
          have f0 := hblk7.frozen n
          obtain ⟨v0, d0⟩ := hblk7.some_ (i := n) (by simpa using (by have := hsz.out; omega : n < cs.size))
          have hblk7' := hid hblk7
          have hkp7' := hid hkp7
          clear hblk7 hkp7
          cases v with
          | true =>
            go_wp2_with fail
            go_roundw
            case rel =>
              refine ⟨n + 1, _, by go_num, by omega, hblk7'.out.set_ _ _, by simpa using hsz.out, fun p hp => ?_, hkp7'.out.setCell _ _ fun _ => rfl⟩
              by_cases e : p = n
              · subst e
                rw [Array.getElem?_setIfInBounds_self_of_lt (by simpa using (by have := hsz.out; omega : p < cs.size)), hlay.out, if_pos rfl]
                rfl
              · rw [Array.getElem?_setIfInBounds_ne (Ne.symm e), Array.getElem?_setIfInBounds_ne (Ne.symm e)]
                exact hcs.out p (by omega)
            case measure => simp [intOf]; omega
          | false =>
            go_wp2_with fail
            go_roundw
            case rel =>
              refine ⟨n + 1, _, by go_num, by omega, hblk7'.out, by simpa using hsz.out, fun p hp => ?_, hkp7'.out⟩
              by_cases e : p = n
              · subst e
                rw [Array.getElem?_setIfInBounds_self_of_lt (by have := hsz.out; omega), hlay.out, if_neg (by intro h; cases h)]
                rfl
              · rw [Array.getElem?_setIfInBounds_ne (Ne.symm e)]
                exact hcs.out p (by omega)
            case measure => simp [intOf]; omega
        · obtain rfl : n = N := by omega
          have hdist : Hid (DistAt wr g n (lay L nx fd 0) cs) := hid ⟨hblk, hsz, hcs⟩
          have hkp' := hid hkp
          clear hblk hsz hcs hkp hn1 hnN
          go_wp2_with fail
          refine (l4Dist_any L nx fd AT cT g n cs w2 wr hcT hcT' hpl hB23 (by rw [hg.out]; exact Nat.le_refl _) hTab'.out hL6 hlt.out hdist.out).mono ?_
          rintro e w5 ⟨D, cs5, rfl, hst, hDn, hda, hk5⟩
          have hB25 : Below w2.heap.size w2 w5 := hk5.below hB23 hB23.size (fun k (e : k = g) => by rw [e, hg.out]; exact Nat.le_refl _)
          have hB5 := hB2.trans (hB25.mono hB2.size)
          have hda' := hid hda
          have hst' := hid hst
          obtain ⟨⟨p0, p1, p2⟩, p3, p4, p5⟩ := hSp.out w5 hB5
          clear hdist hda hst hk5
          go_wp2_with fail
          refine (l4Encode_any ss qs A1 AS k1 cS w5 (fun a ha => by have := hs16.out a ha; omega) hqs1k.out (fun k => by have h1 := heL.out k; have h2 := hpT.out k; omega) hql.out hk1 hk1' hqd hcS (hS1'.out.later (hb2.trans (hB25.mono hb2.size))) (hr20.out.later hB5)).mono ?_
          rintro e w6 ⟨rfl, hb6⟩
          rw [← hs.out]
          have hB6 := hB5.trans (hb6.mono hB5.size)
          clear p0 p1 p2 p3 p4 p5
          go_upto_region 17 with fail
          obtain ⟨w7, hw7⟩ : ∃ w7, w6.alloc (.cells #[Value.int IntKind.i64 (s : Nat)] 3) = w7 := ⟨_, rfl⟩
          obtain ⟨ga, hga⟩ : ∃ ga, Hid (ga = w6.heap.size) := ⟨_, hid rfl⟩
          have hb7 : Below w6.heap.size w6 w7 := by rw [← hw7]; exact (Below.refl _ _).alloc (Nat.le_refl _) _
          have ha7 : w7.cell? ⟨ga, 0, none⟩ = some (.int .i64 (s : Nat)) := by
            have h : Blk w7 ga 3 #[Value.int IntKind.i64 (s : Nat)] := by rw [← hw7, hga.out]; exact Blk.new _ _ _
            rw [h.cell]
            rfl
          have hgl : ga < w7.heap.size := by rw [← hw7, hga.out]; simp
          rw [hw7, ← hga.out]
          clear hw7
          have hB7 := hB6.trans (hb7.mono hB6.size)
          obtain ⟨⟨p0, p1, p2⟩, p3, p4, p5⟩ := hSp.out w7 hB7
          go_wp2_with fail
          refine (l1Letters_any lt w7).mono ?_
          rintro e w8 ⟨vL, rfl, hoL, hb8⟩
          rw [← hL.out] at hoL
          obtain ⟨AL, cL, rfl, hcL, hcL', hLL⟩ := OwnNats.read hoL
          have hLL' := hid hLL
          have hB58 : Below w5.heap.size w5 w8 := hb6.trans ((hb7.trans (hb8.mono hb7.size)).mono hb6.size)
          have hB8 := hB5.trans (hB58.mono hB5.size)
          have hda8 : Hid (DistAt w8 g n (lay L nx fd D) cs5) := hid ⟨hda'.out.1.below hB58 hda'.out.1.lt, hda'.out.2⟩
          have hT8 := hid (hTab'.out.later (hB25.trans (hB58.mono hB25.size)))
          have a0 := (hb8.cell (p := ⟨ga, 0, none⟩) (by simpa using hgl)).trans ha7
          have d0 : w8.cell? ⟨g, s, none⟩ = some (.int .i64 (encD (lay L nx fd D s))) := by rw [hda8.out.1.cell]; exact hda8.out.2.2 s hsN
          have hga8 : ga < w8.heap.size := by have := hb8.size; omega
          obtain ⟨x, hx⟩ : ∃ x, Hid (x = encD (lay L nx fd D s)) := ⟨_, hid rfl⟩
          rw [← hx.out] at d0
          have k3 : (0 : Int) ≤ (s : Int) ∧ (s : Int) < (n : Int) := by omega
          clear p0 p1 p2 p3 p4 p5 hoL hLL ha7
          go_wp2_with fail
          clear d0
          obtain ⟨ls, hls⟩ : ∃ ls, Hid (ls = lay L nx fd D s) := ⟨_, hid rfl⟩
          have hBw : Below w.heap.size w w8 := hB0.trans (hB8.mono hB0.size)
          cases ls with
          | none =>
            obtain rfl : x = -1 := by rw [hx.out, ← hls.out]; rfl
            have hno := hid (first_none hst'.out hlt.out hsN hls.out.symm)
            clear a0
            go_loopw [12, 13] (fun ov dv wr => ov = .string ⟨#[]⟩ ∧ dv = .int .i64 (-1) ∧ w8 = wr) (fun _ _ _ => 0)
            case atStart => exact ⟨rfl, rfl, by first | rfl | trivial⟩
            case round =>
              obtain ⟨rfl, rfl, rfl⟩ := hrel
              go_wp2_with fail
              refine bodyPost_ret (v := .tuple #[.string ⟨#[]⟩, .bool false]) (by simp [results, Try.results53, go_sem]) rfl ?_
              exact ⟨none, rfl, hno.out, hBw⟩
          | some D0 =>
            obtain rfl : x = (D0 : Int) := by rw [hx.out, ← hls.out]; rfl
            have h0 : Hid (lay L nx fd D s = some D0) := hid hls.out.symm
            have hF0 := hid (Fwd.start h0.out)
            have hat8 : Hid (NatsAt w8 w8.heap.size (some ⟨ga, 0, none⟩) [s]) := hid fun _ => ⟨ga, 0, rfl, hga8, fun i hi => by
              obtain rfl : i = 0 := by simpa using hi
              exact a0⟩
            clear a0
            go_loopw [10, 12, 13] (fun av ov dv wr => ∃ (d : Nat) (r at_ : List Nat) (Aa : Option Addr) (ca : Nat), av = .slice Aa at_.length ca ∧ ov = .string (wordS r) ∧ dv = .int .i64 (d : Nat) ∧ Fwd L nx fd D s D0 r at_ d ∧ at_.length ≤ ca ∧ ca ≤ 9223372036854775807 ∧ NatsAt wr wr.heap.size Aa at_ ∧ Below w8.heap.size w8 wr) (fun _ _ dv _ => (intOf dv).toNat)
            case atStart => exact ⟨D0, [], [s], some ⟨ga, 0, none⟩, 1, rfl, rfl, rfl, hF0.out, Nat.le_refl _, by omega, hat8.out, Below.refl _ _⟩
            case round =>
              clear hat8 hF0
              obtain ⟨d, r, at_, Aa, ca, rfl, rfl, rfl, hF, hca, hca', hat, hbr⟩ := hrel
              cases d with
              | zero =>
                have hfw := hid (hF.done hst'.out hlt.out hsN h0.out)
                replace hF := hid hF
                go_wp2_with fail
                refine bodyPost_ret (v := .tuple #[.string (wordS r), .bool true]) (by simp [results, Try.results53, go_sem]) rfl ?_
                exact ⟨some r, rfl, hfw.out, hBw.trans (hbr.mono hBw.size)⟩
              | succ d =>
                have hatl : ∀ m ∈ at_, m < n := fun m hm => RW_lt hlt.out hsN ((hF.mem m).1 hm).1
                have hsome := hid hF.some_
                have hgw : g < wr.heap.size := by have h1 := hda8.out.1.lt; have h2 := hbr.size; omega
                have hclo : Hid (∀ w' k (hk : k < L.length), Below wr.heap.size wr w' → Calls Try.prog 68 #[.slice AT n cT, .slice (some ⟨g, 0, none⟩) n n, .slice Aa at_.length ca, .int .i64 (k : Nat), .int .i64 (d : Nat)] w' fun e w'' => ∃ A' c', e = .returned (.slice A' (clo L nx fd D at_ L[k] d).length c') ∧ (clo L nx fd D at_ L[k] d).length ≤ c' ∧ c' ≤ 9223372036854775807 ∧ NatsAt w'' w''.heap.size A' (clo L nx fd D at_ L[k] d) ∧ Below w'.heap.size w' w'') := hid fun w' k hk hb => by
                  have hbw : Below w8.heap.size w8 w' := hbr.trans (hb.mono hbr.size)
                  exact l4Closer_any L nx (lay L nx fd D) at_ AT Aa cT ca g n k d w' hcT hcT' hpl (hT8.out.later hbw) (by have := hb.size; omega) (fun m hm => by rw [(hda8.out.1.below hbw hda8.out.1.lt).cell]; exact hda8.out.2.2 m hm) hlt.out (hat.later hb) hatl hca hca' hk hL6
                have hF' := hid hF
                have hat' := hid hat
                have k4 : (0 : Int) < (d : Int) + 1 := by omega
                have hd1 : d ≤ 4096 := by have h1 := hF.len; have h2 := lay_le h0.out; omega
                have hL0 : 0 < L.length := by obtain ⟨k, hk, -⟩ := hsome.out; omega
                have hc0 := hclo.out wr 0 hL0 (Below.refl _ _)
                obtain ⟨ms0, hms0⟩ : ∃ ms, Hid (ms = clo L nx fd D at_ L[0] d) := ⟨_, hid rfl⟩
                rw [← hms0.out, show ((0 : Nat) : Int) = 0 from rfl] at hc0
                have hc0' := hid hc0
                have hbr' := hid hbr
                clear hF hat hatl hc0
                go_wp2_with fail
                refine hc0'.out.mono ?_
                rintro e w9 ⟨A9, c9, rfl, h1, h2, h3, hb9⟩
                have h3' := hid h3
                clear h3 hc0'
                go_wp2_with fail
                obtain ⟨wo, rfl⟩ : ∃ wo : World, wo = wr := ⟨_, rfl⟩
                go_loopw [14, 15] (fun kv nv wr => ∃ (k : Nat) (hk : k < L.length) (ms : List Nat) (An : Option Addr) (cn : Nat), kv = .int .i64 (k : Nat) ∧ nv = .slice An ms.length cn ∧ Hid (ms = clo L nx fd D at_ L[k] d) ∧ Hid (∀ j (hj : j < L.length), j < k → clo L nx fd D at_ L[j] d = []) ∧ ms.length ≤ cn ∧ cn ≤ 9223372036854775807 ∧ Hid (NatsAt wr wr.heap.size An ms) ∧ Below wo.heap.size wo wr) (fun kv _ _ => L.length - (intOf kv).toNat)
                case atStart => exact ⟨0, hL0, ms0, A9, c9, rfl, rfl, hms0, hid fun j _ h => absurd h (Nat.not_lt_zero _), h1, h2, h3', hb9⟩
                case round =>
                  clear hms0 h3' hb9
                  obtain ⟨k, hk, ms, An, cn, rfl, rfl, hms, hmin, h1, h2, h3, hbk⟩ := hrel
                  by_cases hmz : ms.length = 0
                  · have hk1 : k + 1 < L.length := by
                      obtain ⟨k0, hk0, hne⟩ := hsome.out
                      have h9 : ¬ k0 < k := fun h => hne (hmin.out k0 hk0 h)
                      have h10 : k0 ≠ k := fun h => by
                        subst h
                        exact hne (by rw [← hms.out]; exact List.eq_nil_of_length_eq_zero hmz)
                      omega
                    have hmin' : Hid (∀ j (hj : j < L.length), j < k + 1 → clo L nx fd D at_ L[j] d = []) := hid fun j hj hjk => by
                      by_cases e : j = k
                      · subst e
                        rw [← hms.out]
                        exact List.eq_nil_of_length_eq_zero hmz
                      · exact hmin.out j hj (by omega)
                    have hc1 := hclo.out wr (k + 1) hk1 hbk
                    obtain ⟨ms1, hms1⟩ : ∃ ms, Hid (ms = clo L nx fd D at_ L[k + 1] d) := ⟨_, hid rfl⟩
                    rw [← hms1.out, show ((k + 1 : Nat) : Int) = (k : Int) + 1 from by omega] at hc1
                    have hc1' := hid hc1
                    clear hc1
                    go_wp2_with fail
                    refine hc1'.out.mono ?_
                    rintro e w9 ⟨A9, c9, rfl, h4, h5, h6, hb9⟩
                    have h6' := hid h6
                    clear h6
                    go_wp2_with fail
                    go_roundw
                    case rel => exact ⟨k + 1, hk1, ms1, A9, c9, by go_num, rfl, hms1, hmin', h4, h5, h6', hbk.trans (hb9.mono hbk.size)⟩
                    case measure => simp [intOf]; omega
                  · have hq9 : ((ms.length : Int) == 0) = false := by
                      rw [Bool.eq_false_iff]
                      intro h
                      have := beq_iff_eq.1 h
                      omega
                    have hF2 := hid (hF'.out.next hst'.out hlt.out hsN hLs.out h0.out hk (by rw [← hms.out]; intro h; exact hmz (by rw [h]; rfl)) hmin.out)
                    obtain ⟨l, hl⟩ : ∃ l, Hid (l = L[k]) := ⟨_, hid rfl⟩
                    have hl6 : l < 6 := by rw [hl.out]; exact hlL.out _ (List.getElem_mem hk)
                    have hbw : Below w8.heap.size w8 wr := hbr'.out.trans (hbk.mono hbr'.out.size)
                    obtain ⟨bL, oL, hLe, hbL, hEL⟩ := (hLL'.out.later hbw) (by omega)
                    subst hLe
                    have l0 := hEL k hk
                    rw [← hl.out] at l0
                    rw [← hms.out, ← hl.out] at hF2
                    have k5 : (0 : Int) ≤ (k : Int) ∧ (k : Int) < (L.length : Int) := by omega
                    replace hEL := hid hEL
                    go_wp2_with fail
                    refine (l1Text_any l hl6 wr).mono ?_
                    rintro e w10 ⟨rfl, hb10⟩
                    have hwz : ¬ (9223372036854775807 < (wordS r).size + 1) := by
                      rw [wordS_size]
                      have h1 := hF'.out.len
                      have h2 := lay_le h0.out
                      omega
                    go_wp2_with fail
                    go_roundw
                    case rel => exact ⟨d, l :: r, ms, An, cn, rfl, by rw [wordS_cons], by go_num, hF2.out, h1, h2, h3.out.later hb10, hbw.trans (hb10.mono hbw.size)⟩
                    case measure => simp [intOf]

end Go.Proofs.Ytdkjnemakkppfaa
