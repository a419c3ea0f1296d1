/- Lemmas, part 5: several texts in one. -/
import Derived.Test.YtdkjnemakkppfaaGreatDoorU1
import Derived.Test.YtdkjnemakkppfaaGreatDoorU4
import Derived.Test.YtdkjnemakkppfaaGreatDoorU3
set_option linter.unusedSimpArgs false
set_option linter.unusedVariables false

/- Plain: words that the automaton of a projection accepts. -/
namespace Go.Proofs.YtdkjnemakkppfaaGreatDoor
open AG

theorem prK_true {s : Sy} {al : Int} (h : prK s al = true) : prOk s al = true ∧ ∃ x, prNum s al = some x ∧ prA s al = prAu al x := by
  cases hk : prOk s al with
  | false => rw [(prA_bad hk).2] at h; cases h
  | true =>
    cases hn : prNum s al with
    | none => rw [(prA_none hn).2] at h; cases h
    | some x => exact ⟨rfl, x, rfl, (prA_some hk hn).1⟩
theorem prA_al {s : Sy} {al : Int} (h : prK s al = true) : (prA s al).al = al := by
  obtain ⟨_, x, _, e⟩ := prK_true h
  rw [e]
  rfl
theorem auOk_prA {s : Sy} {al : Int} (h : prK s al = true) : auOk (prA s al) = true := by
  obtain ⟨hk, x, hn, e⟩ := prK_true h
  rw [e]
  exact auOk_pr (prOk_parts hk).2.1 hn
end Go.Proofs.YtdkjnemakkppfaaGreatDoor

/- Plain: how many words an automaton accepts. -/
namespace Go.Proofs.YtdkjnemakkppfaaGreatDoor
open AG

theorem runA_lt {a : Au} (h : auOk a = true) : ∀ r : List Nat, runA a 0 r < a.nx.length
  | [] => by have := ((auOk_iff a).1 h).2.1; show 0 < _; omega
  | l :: r => goA_lt h (runA_lt h r)
end Go.Proofs.YtdkjnemakkppfaaGreatDoor

/- The program's search: firstPath. -/
namespace Go.Proofs.YtdkjnemakkppfaaGreatDoor
open Go.RowKit Go.BigFrame AG

/-- The steps of a search, as a function value: it appends to a list the nodes to which a letter leads. -/
structure NextOk (w : World) (size : Nat) (L : List Nat) (nx : Nat → Nat → List Nat) (fN : FuncId) (capN : Array Value) : Prop where
  run : ∀ args w', (callFunc fN args).run Tryz.prog w' = .ok (.enter fN args) w'
  lt : ∀ q, q < size → ∀ l ∈ L, ∀ n ∈ nx q l, n < size
  len : ∀ q, q < size → ∀ l ∈ L, (nx q l).length ≤ 4096
  call : ∀ w' (q l : Nat) (v : Value) (ns : List Nat) (base : Nat), Below w.heap.size w w' → q < size → l ∈ L → ns.length ≤ 4294967296 → w.heap.size ≤ base → base ≤ w'.heap.size → w'.ownsRow base 3 1 v ns.length (natVals ns) →
    Calls Tryz.prog fN (#[.int .i64 (q : Nat), .int .i64 (l : Nat), v] ++ capN) w' fun e w'' => ∃ v', e = .returned v' ∧ w''.ownsRow base 3 1 v' (ns ++ nx q l).length (natVals (ns ++ nx q l)) ∧ KeepB (fun b => v.ownBlock = some b) w' w''

theorem infoBoolF : (Tryz.prog.info? 4).map (fun i => (i.zero, i.size, i.bytes)) = some (some (.bool false), 1, 1) := by kernel_rfl

/-- The search in memory and as plain lists. -/
def SrchAt (w : World) (size : Nat) (G : Nat → Bool) (L : List Nat) (nx : Nat → Nat → List Nat) (I0 : List Nat) (gv : Value) (bS bG bP gS : Nat) (wr : World) (i k : Nat) (sv : Value) (ss : List StV) (ws : List (List Nat)) (S : Nat → Bool) : Prop :=
  FPst w wr size gv bS bG bP gS sv ss S ∧ SB (fun n => n ∈ I0) L nx G size (ss.map (·.st)) ws S i k

theorem PathOk.of {I : Nat → Prop} {L : List Nat} {nx : Nat → Nat → List Nat} {G : Nat → Prop} {ss : List StV} {ws : List (List Nat)} {i k : Nat} (h : Bfs I L nx G (ss.map (·.st)) ws i k) (hL6 : ∀ l ∈ L, l < 6) : PathOk ss ws := by
  refine ⟨by rw [h.len]; simp, h.zero, fun h0 => ?_, fun j hj hj' h0 => ?_⟩
  · have := h.root (by simpa using h0)
    simpa using this
  · obtain ⟨p, q, hpj, _, h1, hp, hq, h2, hw⟩ := h.link j (by simpa using hj) hj' h0
    simp only [List.getElem_map] at h1 h2
    exact ⟨p, hpj, h1, by rw [h2]; exact hL6 _ (List.getElem_mem _), hp, by rw [hw, h2]⟩
theorem PathOk.add {ss : List StV} {ws : List (List Nat)} (h : PathOk ss ws) {i l : Nat} (hi : i < ws.length) (hl : l < 6) (x : StV) (hx : x.st.par = (i : Int)) (hx' : x.st.let_ = l) : PathOk (ss ++ [x]) (ws ++ [l :: ws[i]]) := by
  have hlen := h.len
  have hpos : 0 < ws.length := by omega
  refine ⟨by simp [hlen], fun h0 => ?_, fun h0 => ?_, fun j hj hj' h0 => ?_⟩
  · rw [List.getElem_append_left hpos]; exact h.zero hpos
  · rw [List.getElem_append_left (by omega)]; exact h.root (by omega)
  · by_cases e : j < ws.length
    · obtain ⟨p, hpj, h1, h2, hp, hw⟩ := h.link j (by omega) e h0
      refine ⟨p, hpj, ?_, ?_, by simp; omega, ?_⟩
      · rw [List.getElem_append_left (by omega)]; exact h1
      · rw [List.getElem_append_left (by omega)]; exact h2
      · rw [List.getElem_append_left e, List.getElem_append_left hp, List.getElem_append_left (by omega)]; exact hw
    · obtain rfl : j = ws.length := by simp at hj'; omega
      refine ⟨i, hi, ?_, ?_, by simp; omega, ?_⟩
      · simp [hlen, hx]
      · simp [hlen, hx', hl]
      · rw [List.getElem_append_left hi]
        simp [hlen, hx']

theorem FPst.later {w w1 w2 : World} {size : Nat} {gv : Value} {bS bG bP gS : Nat} {sv : Value} {ss : List StV} {S : Nat → Bool} (h : FPst w w1 size gv bS bG bP gS sv ss S) (hb : Below w1.heap.size w1 w2) : FPst w w2 size gv bS bG bP gS sv ss S := by
  obtain ⟨cs, hc, hs⟩ := h.seen
  have hk : KeepB (fun b => b = gS) w1 w2 := .of_below hb
  exact h.keep hk (hc.below hb hc.lt) hs

theorem reachedL_len {nx : Nat → Nat → List Nat} {l size : Nat} : ∀ {ns : List Nat}, (∀ q ∈ ns, (nx q l).length ≤ 4096) → (reachedL nx l ns).length ≤ ns.length * 4096
  | [], _ => by simp [reachedL]
  | q :: ns, h => by
    have h1 := h q List.mem_cons_self
    have h2 := reachedL_len (size := size) (ns := ns) fun x hx => h x (List.mem_cons_of_mem _ hx)
    unfold reachedL at h2 ⊢
    rw [List.flatMap_cons, List.length_append, List.length_cons]
    omega

/-- What the search hands back: the first word to a goal, or none. -/
def PathPost (I : Nat → Prop) (L : List Nat) (nx : Nat → Nat → List Nat) (G : Nat → Prop) (o : Option (List Nat)) : Prop :=
  match o with
  | some r => FirstW I L nx G r
  | none => ∀ q n, RW I L nx q n → ¬ G n
def pathV (o : Option (List Nat)) : Value := .tuple #[.string (match o with | some r => wordS r | none => ⟨#[]⟩), .bool o.isSome]

theorem seen_start (size : Nat) : SeenAt (madeCells #[.bool false] size) size (fun _ => false) := by
  refine ⟨by simp [madeCells], fun n hn => ?_⟩
  have h1 := toList_madeCells_one (Value.bool false) size
  rw [← Array.getElem?_toList, h1, List.getElem?_replicate, if_pos hn]

theorem fp_start (w : World) (size : Nat) (gv : Value) :
    ∃ w4, (((w.alloc (Obj.cells #[gv] 79)).alloc (Obj.cells (madeCells #[Value.bool false] size) 4)).alloc (Obj.cells #[Value.slice (some ⟨w.heap.size + 1, 0, none⟩) size size] 39)).alloc (Obj.cells #[Value.slice none 0 0] 134) = w4 ∧
      Below w.heap.size w w4 ∧ FPst w w4 size gv (w.heap.size + 1 + 1) w.heap.size (w.heap.size + 1 + 1 + 1) (w.heap.size + 1) (.slice none 0 0) [] (fun _ => false) := by
  refine ⟨_, rfl, by (repeat (first | exact Below.refl _ _ | assumption | refine Below.drew ?_ | refine Below.alloc ?_ (by first | omega | (simp; done) | (simp; omega)) _ | refine Below.setCell ?_ (by first | omega | (simp; done) | (simp; omega)) _)), by (repeat (first | exact Below.refl _ _ | assumption | refine Below.drew ?_ | refine Below.alloc ?_ (by first | omega | (simp; done) | (simp; omega)) _ | refine Below.setCell ?_ (by first | omega | (simp; done) | (simp; omega)) _)), ?_, ?_, ?_, ⟨_, ?_, seen_start size⟩, by omega, by omega, World.ownsRow_nil _ _ _ _, fun x hx => by cases hx⟩
  · have := (Blk.new ((w.alloc (Obj.cells #[gv] 79)).alloc (Obj.cells (madeCells #[Value.bool false] size) 4)) 39 #[Value.slice (some ⟨w.heap.size + 1, 0, none⟩) size size]).alloc (Obj.cells #[Value.slice none 0 0] 134)
    simpa using this
  · exact ((Blk.new w 79 #[gv]).alloc _).alloc _ |>.alloc _
  · have := Blk.new (((w.alloc (Obj.cells #[gv] 79)).alloc (Obj.cells (madeCells #[Value.bool false] size) 4)).alloc (Obj.cells #[Value.slice (some ⟨w.heap.size + 1, 0, none⟩) size size] 39)) 134 #[Value.slice none 0 0]
    simpa using this
  · have := ((Blk.new (w.alloc (Obj.cells #[gv] 79)) 4 (madeCells #[Value.bool false] size)).alloc (Obj.cells #[Value.slice (some ⟨w.heap.size + 1, 0, none⟩) size size] 39)).alloc (Obj.cells #[Value.slice none 0 0] 134)
    simpa using this

set_option maxRecDepth 100000 in
set_option maxHeartbeats 8000000 in
theorem firstPath_any (w : World) (size : Nat) (G : Nat → Bool) (fG : FuncId) (capG : Array Value) (hG : GoalOk w size G fG capG) (L : List Nat) (hL : L.Pairwise (· < ·)) (hL6 : ∀ l ∈ L, l < 6) (nx : Nat → Nat → List Nat) (fN : FuncId) (capN : Array Value) (hN : NextOk w size L nx fN capN)
    (I0 : List Nat) (h0 : I0 ≠ []) (hI : ∀ n ∈ I0, n < size) (hIl : I0.length ≤ 4294967296) (sv lv : Value) (hsv : w.ownsRow 0 3 1 sv I0.length (natVals I0)) (hlv : w.ownsRow 0 3 1 lv L.length (natVals L)) (hsz : size ≤ 1048576) :
    Calls Tryz.prog 79 #[.int .i64 (size : Nat), sv, lv, .func (.func fN) #[] capN, .func (.func fG) #[] capG] w fun e w' => ∃ o, e = .returned (pathV o) ∧ PathPost (fun n => n ∈ I0) L nx (fun n => G n = true) o ∧ Below w.heap.size w w' := by
  obtain ⟨i0, hi, hz0, hz1, hz2⟩ := info_parts infoBoolF
  have hmk := fun W => run_make_rowN (P := Tryz.prog) 39 4 i0 _ Tryz.underlying39 hi hz0 .i64 .i64 size size (Nat.le_refl _) (by rw [hz2]; omega) (by omega) W
  obtain ⟨lA, lc, rfl, hlc, hlc'⟩ := own_slice hlv
  have hLlen : L.length ≤ 6 := by
    have := nodup_bound 6 L (hL.imp fun h => Nat.ne_of_lt h) hL6
    exact this
  replace hsv := hid hsv
  replace hlv := hid hlv
  replace hI := hid hI
  go_enter Tryz.func79, Tryz.ntmps79
  go_wp2_with fail
  obtain ⟨w4, hw4, hb4, hst4⟩ := fp_start w size (.func (.func fG) #[] capG)
  rw [hw4]
  have hz4 : w.heap.size + 1 + 1 + 1 < w4.heap.size := by rw [← hw4]; simp
  clear hw4 hmk
  generalize hbS : w.heap.size + 1 + 1 = bS at *
  generalize hbP : bS + 1 = bP at *
  generalize hgS : w.heap.size + 1 = gS at *
  replace hbS := hid hbS
  replace hbP := hid hbP
  replace hgS := hid hgS
  clear hz4
  have hz4 := hb4.size
  have hsv4 := hid (own_keep hsv.out (.of_below (K := fun _ => False) hb4) fun _ _ h => h)
  replace hst4 := hid hst4
  refine (visit_any w size G fG capG hG bS w.heap.size bP gS (.slice none 0 0) [] (fun _ => false) (-1) 0 sv I0 w4 hst4.out hsv4.out hI.out hIl (by simp)).mono ?_
  rintro e w5 ⟨rfl, sv5, ss5, hst5, hss5, hkp5⟩
  have hb5 : Below w.heap.size w w5 := hst5.below
  obtain ⟨fr0, hfr0⟩ : ∃ fr, fr = frs (fun _ => false) I0 := ⟨_, rfl⟩
  rw [← hfr0] at hst5 hss5 ⊢
  have hf0ne : fr0 ≠ [] := by
    intro e
    obtain ⟨a, ha⟩ := List.exists_mem_of_ne_nil _ h0
    have := (frs_mem (fun _ => false) I0 a).2 ⟨ha, rfl⟩
    rw [← hfr0, e] at this
    cases this
  cases hg0 : fr0.any G
  · obtain ⟨A0, c0, rfl⟩ : ∃ A c, ss5 = [⟨⟨-1, 0, fr0⟩, A, c⟩] := by
      rcases hss5 with ⟨e, _⟩ | ⟨_, A, c, e⟩
      · exact absurd e hf0ne
      · exact ⟨A, c, by simpa using e⟩
    have hSB0 : Hid (SB (fun n => n ∈ I0) L nx G size [⟨-1, 0, fr0⟩] [[]] (fun n => fr0.contains n) 0 0) := hid (by
      rw [hfr0]
      exact SB.begin h0 hI.out (by rw [← hfr0]; exact hg0))
    have hst5' : Hid (FPst w w5 size (.func (.func fG) #[] capG) bS w.heap.size bP gS sv5 [⟨⟨-1, 0, fr0⟩, A0, c0⟩] (fun n => fr0.contains n)) := hid (by simpa using hst5)
    replace hfr0 := hid hfr0
    replace hss5 := hid hss5
    replace hst5 := hid hst5
    replace hf0ne := hid hf0ne
    replace h0 := hid h0
    replace hg0 := hid hg0
    replace hkp5 := hid hkp5
    go_wp2_with (rw [hg0.out])
    go_loopw [15] (fun iv wr => ∃ (i : Nat) (sv : Value) (ss : List StV) (ws : List (List Nat)) (S : Nat → Bool), iv = .int .i64 i ∧ i ≤ ss.length ∧ SrchAt w size G L nx I0 (.func (.func fG) #[] capG) bS w.heap.size bP gS wr i 0 sv ss ws S) (fun iv _ => size + 1 - (intOf iv).toNat)
    case atStart => exact ⟨0, sv5, _, _, _, rfl, by simp, hst5'.out, hSB0.out⟩
    case round =>
      obtain ⟨i, sv, ss, ws, S, rfl, hi, hst, hSB⟩ := hrel
      have hbd := hSB.bound
      have hpos := hSB.bfs.pos
      have hwl := hSB.bfs.len
      simp only [List.length_map] at hbd hpos hwl
      have p0 := hst.blkP.cell 0
      simp only [List.getElem?_toArray, List.getElem?_cons_zero] at p0
      obtain ⟨gv, cv, rfl, hgv, hgv', hcv, hcv', hcell⟩ := own_steps hst.own hpos
      replace hst := hid hst
      replace hSB := hid hSB
      replace hcell := hid hcell
      by_cases hlt : i < ss.length
      · go_wp2_with fail
        go_loopw [35] (fun kv wr => ∃ (k : Nat) (sv : Value) (ss : List StV) (ws : List (List Nat)) (S : Nat → Bool), kv = .int .i64 k ∧ k ≤ L.length ∧ i < ss.length ∧ SrchAt w size G L nx I0 (.func (.func fG) #[] capG) bS w.heap.size bP gS wr i k sv ss ws S) (fun kv _ => L.length - (intOf kv).toNat)
        case atStart => exact ⟨0, _, _, _, _, rfl, by omega, hlt, hst.out, hSB.out⟩
        case round =>
          clear hcell hst hSB p0 hgv hgv' hcv hcv' hbd hpos hwl
          obtain ⟨k, sv, ss, ws, S, rfl, hk, hi', hst, hSB⟩ := hrel
          have hbd := hSB.bound
          have hpos := hSB.bfs.pos
          have hwl := hSB.bfs.len
          simp only [List.length_map] at hbd hpos hwl
          by_cases hkl : k < L.length
          · have hlw := own_keep hlv.out (.of_below (K := fun _ => False) hst.below) fun _ _ h => h
            obtain ⟨gl, cl, hve, -, -, -, -, hlcell⟩ := own_shape hlw (by omega)
            injection hve with hv1 hv2 hv3
            subst hv1
            subst hv3
            have l0 := hlcell k _ (show (natVals L)[k]? = some (.int .i64 (L[k] : Nat)) from by unfold natVals; simp [hkl])
            have hlL : L[k] ∈ L := List.getElem_mem hkl
            obtain ⟨l, hll⟩ : ∃ l, l = L[k] := ⟨_, rfl⟩
            rw [← hll] at l0 hlL
            have p0 := hst.blkP.cell 0
            simp only [List.getElem?_toArray, List.getElem?_cons_zero] at p0
            obtain ⟨gv, cv, rfl, hgv, hgv', hcv, hcv', hcell⟩ := own_steps hst.own hpos
            obtain ⟨-, -, c2⟩ := hcell i hi'
            have hnodes := hst.nodes ss[i] (List.getElem_mem hi')
            have hnsz : ss[i].st.nodes.length ≤ size := hSB.nodesLen (x := ss[i].st) (List.mem_map.2 ⟨_, List.getElem_mem hi', rfl⟩)
            have hnlt : ∀ n ∈ ss[i].st.nodes, n < size := hSB.small ss[i].st (List.mem_map.2 ⟨_, List.getElem_mem hi', rfl⟩)
            obtain ⟨ns, hnse⟩ : ∃ ns, ns = ss[i].st.nodes := ⟨_, rfl⟩
            obtain ⟨nA, hnA⟩ : ∃ nA, nA = ss[i].A := ⟨_, rfl⟩
            obtain ⟨nc, hnc⟩ : ∃ nc, nc = ss[i].c := ⟨_, rfl⟩
            rw [← hnse, ← hnA, ← hnc] at c2 hnodes
            rw [← hnse] at hnsz hnlt
            replace hll := hid hll
            replace hnse := hid hnse
            replace hnA := hid hnA
            replace hnc := hid hnc
            replace hst := hid hst
            replace hSB := hid hSB
            replace hcell := hid hcell
            replace hlcell := hid hlcell
            replace hlw := hid hlw
            replace hnodes := hid hnodes
            replace hnlt := hid hnlt
            have i1 : (0 : Int) ≤ (i : Int) := by omega
            have i2 : (i : Int) < (ss.length : Int) := by omega
            have hrun := hN.run
            obtain ⟨wo, rfl⟩ : ∃ wo : World, wo = wr := ⟨_, rfl⟩
            go_wp2_with fail
            go_loopw [18, 45] (fun rv jv wr2 => ∃ j : Nat, jv = .int .i64 j ∧ j ≤ ns.length ∧ wr2.ownsRow wo.heap.size 3 1 rv (reachedL nx l (ns.take j)).length (natVals (reachedL nx l (ns.take j))) ∧ Below wo.heap.size wo wr2) (fun _ jv _ => ns.length - (intOf jv).toNat)
            case atStart => exact ⟨0, rfl, by omega, World.ownsRow_nil _ _ _ _, Below.refl _ _⟩
            case round =>
              obtain ⟨j, rfl, hj, hown, hbo⟩ := hrel
              by_cases hjl : j < ns.length
              · have hnr := own_keep hnodes.out (.of_below (K := fun _ => False) hbo) fun _ _ h => h
                obtain ⟨gn, cn, hve, -, -, -, -, hncell⟩ := own_shape hnr (by omega)
                injection hve with hv1 hv2 hv3
                subst hv1
                subst hv3
                have n0 := hncell j _ (show (natVals ns)[j]? = some (.int .i64 (ns[j] : Nat)) from by unfold natVals; simp [hjl])
                have hql := hnlt.out ns[j] (List.getElem_mem hjl)
                have htk := reachedL_snoc (nx := nx) l (ns.take j) ns[j]
                rw [← List.take_succ_eq_append_getElem hjl] at htk
                obtain ⟨q, hq⟩ : ∃ q, q = ns[j] := ⟨_, rfl⟩
                rw [← hq] at n0 hql htk
                have hrl : (reachedL nx l (ns.take j)).length ≤ 4294967296 := by
                  refine Nat.le_trans (reachedL_len (size := size) fun x hx => hN.len x (hnlt.out x (List.mem_of_mem_take hx)) l hlL) ?_
                  have : (ns.take j).length ≤ 1048576 := by simp; omega
                  omega
                have hbw := hst.out.below.trans (hbo.mono hst.out.below.size)
                have hz1 := hst.out.below.size
                have hz2 := hbo.size
                replace hnr := hid hnr
                replace hncell := hid hncell
                replace hq := hid hq
                replace htk := hid htk
                replace hown := hid hown
                replace hrl := hid hrl
                go_wp2_with fail
                refine (hN.call _ q l _ _ wo.heap.size hbw hql hlL hrl.out hz1 hz2 hown.out).mono ?_
                rintro e w6 ⟨v6, rfl, hown6, hkp6⟩
                have hb6 : Hid (Below wo.heap.size wo w6) := hid (hkp6.below hbo hz2 fun b hb => own_block hown.out b hb)
                replace hown6 := hid hown6
                replace hkp6 := hid hkp6
                go_wp2_with fail
                go_roundw
                case rel => exact ⟨j + 1, by go_num, by omega, by rw [htk.out]; exact hown6.out, hb6.out⟩
                case measure => simp [intOf]; omega
              · have htk : ns.take j = ns := List.take_of_length_le (by omega)
                rw [htk] at hown
                have hbw := hst.out.below.trans (hbo.mono hst.out.below.size)
                have hst2 := hid (hst.out.later hbo)
                obtain ⟨R, hR⟩ : ∃ R, R = reachedL nx l ns := ⟨_, rfl⟩
                rw [← hR] at hown
                have hRl : R.length ≤ 4294967296 := by
                  rw [hR]
                  refine Nat.le_trans (reachedL_len (size := size) fun x hx => hN.len x (hnlt.out x hx) l hlL) ?_
                  omega
                have hRs : Hid (∀ n ∈ R, n < size) := hid fun n hn => by
                  rw [hR] at hn
                  obtain ⟨q, hq, hnq⟩ := reachedL_mem.1 hn
                  exact hN.lt q (hnlt.out q hq) l hlL n hnq
                replace htk := hid htk
                replace hR := hid hR
                have hown0 := hid (own_base hown (Nat.zero_le _))
                replace hown := hid hown
                go_wp2_with fail
                refine (visit_any w size G fG capG hG bS w.heap.size bP gS _ ss S (i : Int) l _ R wr hst2.out hown0.out hRs.out hRl (by omega)).mono ?_
                rintro e w7 ⟨rfl, sv7, ss7, hst7, hss7, hkp7⟩
                have hwi : i < ws.length := by omega
                obtain ⟨fr, hfr⟩ : ∃ fr, fr = frs S R := ⟨_, rfl⟩
                rw [← hfr] at hst7 hss7 ⊢
                have hil : i < (ss.map (fun x : StV => x.st)).length := by simpa using hi'
                have hfr' : Hid (fr = frs S (reachedL nx (L[k]'hkl) ((ss.map (fun x : StV => x.st))[i]'hil).nodes)) := hid (by
                  rw [hfr, hR.out, hnse.out, hll.out, List.getElem_map])
                replace hil := hid hil
                replace hfr := hid hfr
                replace hkp7 := hid hkp7
                cases hg : fr.any G
                · have hnx : Hid (∃ ws' , SrchAt w size G L nx I0 (.func (.func fG) #[] capG) bS w.heap.size bP gS w7 i (k + 1) sv7 ss7 ws' (fun n => S n || fr.contains n) ∧ i < ss7.length) := hid (by
                    rcases hss7 with ⟨e, rfl⟩ | ⟨hne, A7, c7, rfl⟩
                    · refine ⟨ws, ⟨hst7, ?_⟩, hi'⟩
                      have := hSB.out.old hL hil.out hkl (by rw [← hfr'.out]; exact e)
                      have hS : (fun n => S n || fr.contains n) = S := by funext n; rw [e]; simp
                      rw [hS]
                      exact this
                    · have := hSB.out.add hL hil.out hwi hkl (fun q hq n hn => hN.lt q hq _ (List.getElem_mem hkl) n hn) hfr'.out hne hg
                      refine ⟨ws ++ [l :: ws[i]], ⟨hst7, ?_⟩, by simp; omega⟩
                      rw [List.map_append, hll.out]
                      exact this)
                  replace hst7 := hid hst7
                  replace hss7 := hid hss7
                  replace hg := hid hg
                  go_wp2_with (rw [hg.out])
                  go_roundw
                  case rel =>
                    obtain ⟨ws', h1, h2⟩ := hnx.out
                    exact ⟨k + 1, sv7, ss7, ws', _, by go_num, by omega, h2, h1⟩
                  case measure => simp [intOf]; omega
                · have hF := hid (hSB.out.found hL hil.out hwi hkl (by rw [← hfr'.out]; exact hg))
                  obtain ⟨A7, c7, rfl⟩ : ∃ A c, ss7 = ss ++ [⟨⟨i, l, fr⟩, A, c⟩] := by
                    rcases hss7 with ⟨e, _⟩ | ⟨_, A, c, e⟩
                    · rw [e] at hg; cases hg
                    · exact ⟨A, c, e⟩
                  have hpath := hid (PathOk.add (PathOk.of hSB.out.bfs hL6) hwi (hL6 l hlL) ⟨⟨i, l, fr⟩, A7, c7⟩ rfl rfl)
                  obtain ⟨n, hn⟩ : ∃ n, ss.length = n + 1 := ⟨ss.length - 1, by omega⟩
                  have p7 := hst7.blkP.cell 0
                  simp only [List.getElem?_toArray, List.getElem?_cons_zero] at p7
                  obtain ⟨g7, d7, rfl, hg7, hg7', hd7, hd7', hcell7⟩ := own_steps hst7.own (by simp)
                  have hb7 := hst7.below
                  have hlast : Hid ((ws ++ [l :: ws[i]])[n + 1]'(by simp; omega) = l :: ws[i]) := hid (by
                    have : n + 1 = ws.length := by omega
                    simp [this])
                  have hword : Hid (L[k] :: ws[i] = l :: ws[i]) := hid (by rw [hll.out])
                  replace hst7 := hid hst7
                  replace hss7 := hid hss7
                  replace hg := hid hg
                  have hn' := hid (show (ss ++ [(⟨⟨i, l, fr⟩, A7, c7⟩ : StV)]).length = n + 2 by simp; omega)
                  have hc7 := hid (show ∀ j (hj : j < (ss ++ [(⟨⟨i, l, fr⟩, A7, c7⟩ : StV)]).length), w7.cell? ⟨g7, j * 3, none⟩ = some (.int .i64 (ss ++ [(⟨⟨i, l, fr⟩, A7, c7⟩ : StV)])[j].st.par) ∧ w7.cell? ⟨g7, j * 3 + 1, none⟩ = some (.int .i64 ((ss ++ [(⟨⟨i, l, fr⟩, A7, c7⟩ : StV)])[j].st.let_ : Nat)) from fun j hj => ⟨(hcell7 j hj).1, (hcell7 j hj).2.1⟩)
                  have hls := hid (show (ss ++ [(⟨⟨i, l, fr⟩, A7, c7⟩ : StV)]).length ≤ 4294967296 by simp; omega)
                  have hwl' := hid (show n + 1 < (ws ++ [l :: ws[i]]).length by simp; omega)
                  replace hcell7 := hid hcell7
                  replace hn := hid hn
                  replace hd7 := hid hd7
                  go_wp2_with (rw [hg.out])
                  refine (pathWord_any (ss ++ [⟨⟨i, l, fr⟩, A7, c7⟩]) (ws ++ [l :: ws[i]]) g7 d7 n _ w7 hn'.out hn'.out hls.out hpath.out hwl'.out hd7.out hd7' hg7' hc7.out).mono ?_
                  rintro e w8 ⟨he, hb8⟩
                  rw [hlast.out] at he
                  subst he
                  have hb9 := hb7.trans (hb8.mono hb7.size)
                  go_wp2_with fail
                  go_ret2
                  exact ⟨some (l :: ws[i]), rfl, by rw [← hword.out]; exact hF.out, hb9⟩
          · have hov := hid (show SrchAt w size G L nx I0 (.func (.func fG) #[] capG) bS w.heap.size bP gS wr (i + 1) 0 sv ss ws S from ⟨hst, hSB.over (by omega)⟩)
            replace hst := hid hst
            replace hSB := hid hSB
            go_wp2_with fail
            go_roundw
            case rel => exact ⟨i + 1, sv, ss, ws, S, by go_num, by omega, hov.out⟩
            case measure => simp [intOf]; omega
      · have hN := hid (show ∀ q n, RW (fun n => n ∈ I0) L nx q n → ¬ G n = true from by
          have := hSB.out
          obtain rfl : i = (ss.map (·.st)).length := by simp; omega
          exact this.none)
        have hbf := hst.out.below
        go_wp2
        go_ret2
        exact ⟨none, rfl, hN.out, hbf⟩
  · have hfin := hid (first_now (L := L) (nx := nx) (G := G) (I0 := I0) (by rw [← hfr0]; exact hg0))
    replace hfr0 := hid hfr0
    replace hss5 := hid hss5
    replace hst5 := hid hst5
    replace hf0ne := hid hf0ne
    replace h0 := hid h0
    replace hkp5 := hid hkp5
    go_wp2_with fail
    go_ret2
    exact ⟨some [], rfl, hfin.out, hb5⟩

end Go.Proofs.YtdkjnemakkppfaaGreatDoor

/- Plain: the search through two automata of sets finds the first trace outside. -/
namespace Go.Proofs.YtdkjnemakkppfaaGreatDoor
open AG

/-- A step of two automata, their states as one number. -/
def goB (a b : Au) (q l : Nat) : Nat := goA a (q / b.nx.length) l * b.nx.length + goA b (q % b.nx.length) l
theorem pair_div {n p q : Nat} (h : p < n) : (q * n + p) / n = q ∧ (q * n + p) % n = p := by
  rw [Nat.mul_comm]
  constructor
  · rw [Nat.mul_add_div (by omega), Nat.div_eq_of_lt h, Nat.add_zero]
  · rw [Nat.mul_add_mod, Nat.mod_eq_of_lt h]
theorem RW_both {a b : Au} (hb : auOk b = true) {L : List Nat} : ∀ (r : List Nat) (m : Nat), RW (fun m => m ∈ [0]) L (fun q l => [goB a b q l]) r m ↔ (∀ l ∈ r, l ∈ L) ∧ m = runA a 0 r * b.nx.length + runA b 0 r
  | [], m => by
    show m ∈ [0] ↔ _
    simp [runA]
  | l :: r, m => by
    show (l ∈ L ∧ ∃ k, RW (fun m => m ∈ [0]) L (fun q l => [goB a b q l]) r k ∧ m ∈ [goB a b k l]) ↔ _
    have hlt := runA_lt hb r
    obtain ⟨e1, e2⟩ := pair_div (q := runA a 0 r) hlt
    constructor
    · rintro ⟨hl, k, hk, hm⟩
      obtain ⟨h1, h2⟩ := (RW_both hb r k).1 hk
      refine ⟨fun x hx => ?_, ?_⟩
      · rcases List.mem_cons.1 hx with rfl | hx
        · exact hl
        · exact h1 x hx
      · rw [List.mem_singleton.1 hm, h2]
        unfold goB
        rw [e1, e2]
        rfl
    · rintro ⟨h1, h2⟩
      refine ⟨h1 l List.mem_cons_self, _, (RW_both hb r _).2 ⟨fun x hx => h1 x (List.mem_cons_of_mem _ hx), rfl⟩, ?_⟩
      rw [h2]
      unfold goB
      rw [e1, e2]
      exact List.mem_singleton.2 rfl
end Go.Proofs.YtdkjnemakkppfaaGreatDoor

/- Plain: the system of an automaton: its accepting states, and the letters that lead from one to another. -/
namespace Go.Proofs.YtdkjnemakkppfaaGreatDoor
open AG

theorem letters_len6 (A : Int) : (letters A).length ≤ 6 := lettersTo_len A 6
end Go.Proofs.YtdkjnemakkppfaaGreatDoor

/- Plain: lists numbered by first occurrence; a numbering of nodes under a map that may join nodes. -/
namespace AG


theorem snoc_ind {α : Type} {P : List α → Prop} (h0 : P []) (h1 : ∀ l x, P l → P (l ++ [x])) (l : List α) : P l := by
  have : ∀ n, ∀ l : List α, l.length = n → P l := by
    intro n
    induction n with
    | zero => intro l hl; rw [List.eq_nil_of_length_eq_zero hl]; exact h0
    | succ n ih =>
      intro l hl
      have hne : l ≠ [] := fun e => by rw [e] at hl; simp at hl
      rw [← List.dropLast_concat_getLast hne]
      exact h1 _ _ (ih _ (by rw [List.length_dropLast]; omega))
  exact this _ l rfl

section
variable {α β : Type} [DecidableEq α] [DecidableEq β]
def addD (ns : List α) (x : α) : List α := if x ∈ ns then ns else ns ++ [x]
/-- Without repeats, in the order of first occurrence. -/
def dd (ks : List α) : List α := ks.foldl addD []
def numb (ks : List α) : List Nat := ks.map fun k => (dd ks).idxOf k
theorem dd_snoc (ks : List α) (k : α) : dd (ks ++ [k]) = addD (dd ks) k := by unfold dd; rw [List.foldl_append]; rfl
theorem addD_mem {ns : List α} {x y : α} : y ∈ addD ns x ↔ y ∈ ns ∨ y = x := by
  unfold addD
  split
  · rename_i h
    exact ⟨.inl, fun h2 => h2.elim id fun e => e ▸ h⟩
  · rw [List.mem_append, List.mem_singleton]
theorem dd_mem (ks : List α) (x : α) : x ∈ dd ks ↔ x ∈ ks := by
  induction ks using snoc_ind with
  | h0 => simp [dd]
  | h1 l y ih => rw [dd_snoc, addD_mem, List.mem_append, List.mem_singleton, ih]
end

end AG

/- Plain: the least automaton of a language: classes of states, their automaton, what is reached of it. -/
namespace Go.Proofs.YtdkjnemakkppfaaGreatDoor
open AG

noncomputable instance decLang : DecidableEq (List Nat → Prop) := fun _ _ => Classical.propDecidable _
/-- The words that lead from a state to an accepting one. -/
def resid (a : Au) (q : Nat) : List Nat → Prop := fun r => (∀ l ∈ r, l ∈ letters a.al) ∧ a.ac.getD (runA a q r) false = true
noncomputable def clsL (a : Au) : List (List Nat → Prop) := (List.range a.nx.length).map (resid a)
/-- The classes of the states, numbered by first occurrence; how many there are. -/
noncomputable def clsA (a : Au) : List Nat := numb (clsL a)
noncomputable def cA (a : Au) (q : Nat) : Nat := (clsA a).getD q 0
end Go.Proofs.YtdkjnemakkppfaaGreatDoor

/- The program's CountAccepted. -/
namespace Go.Proofs.YtdkjnemakkppfaaGreatDoor
open Go.RowKit Go.BigFrame AG

/-- A list of n numbers in a block: those below q are what f says. -/
structure NumsIn (cs : Array Value) (n : Nat) (f : Nat → Nat) : Prop where
  size : cs.size = n
  at_ : ∀ p, p < n → cs[p]? = some (.int .i64 (f p : Nat))
theorem NumsIn.set_ {cs : Array Value} {n : Nat} {f f' : Nat → Nat} {p : Nat} {v : Int} (h : NumsIn cs n f) (hp : p < n) (hv : v = ((f' p : Nat) : Int)) (ho : ∀ q, q ≠ p → f' q = f q) : NumsIn (cs.setIfInBounds p (.int .i64 v)) n f' := by
  refine ⟨by simpa using h.size, fun q hq => ?_⟩
  by_cases e : q = p
  · subst e
    rw [Array.getElem?_setIfInBounds_self_of_lt (by rw [h.size]; exact hq), hv]
  · rw [Array.getElem?_setIfInBounds_ne (Ne.symm e), h.at_ q hq, ho q e]

theorem NumsIn.congr {cs : Array Value} {n : Nat} {f f' : Nat → Nat} (h : NumsIn cs n f) (e : ∀ p, f p = f' p) : NumsIn cs n f' := by
  have : f = f' := funext e
  rw [← this]
  exact h
end Go.Proofs.YtdkjnemakkppfaaGreatDoor

/- The program's trim: what can be reached, numbered anew. -/
namespace Go.Proofs.YtdkjnemakkppfaaGreatDoor
open Go.RowKit Go.BigFrame Go.Maps AG

theorem infoBoolT : (Tryz.prog.info? 4).map (fun i => (i.zero, i.size, i.bytes)) = some (some (.bool false), 1, 1) := by kernel_rfl


/-- What trim holds in memory. -/
structure TrimSt (w3 wr : World) (gO : Nat) (al : Int) (vR vA : Value) (acs : List Bool) : Prop where
  below : Below w3.heap.size w3 wr
  ge : w3.heap.size ≤ gO
  acc : wr.ownsRow w3.heap.size 4 1 vA acs.length (boolVals acs)
  blk : Blk wr gO 41 #[.int .i64 al, vR, vA]
theorem TrimSt.later {w3 wr w' : World} {gO : Nat} {al : Int} {vR vA : Value} {acs : List Bool} (h : TrimSt w3 wr gO al vR vA acs) (hb : Below wr.heap.size wr w') : TrimSt w3 w' gO al vR vA acs :=
  ⟨h.below.trans (hb.mono h.below.size), h.ge, own_later_ h.acc hb, h.blk.below hb h.blk.lt⟩
theorem TrimSt.put {w3 wr w1 : World} {gO : Nat} {al : Int} {vR vA vA' : Value} {acs : List Bool} {t : Bool} (h : TrimSt w3 wr gO al vR vA acs) (hg : wr.grownBy w1 vA.ownBlock)
    (ho : w1.ownsRow w3.heap.size 4 1 vA' (acs.length + 1) (boolVals acs ++ [.bool t])) : TrimSt w3 (w1.setCell ⟨gO, 2, none⟩ vA') gO al vR vA' (acs ++ [t]) := by
  have hkA : KeepB (fun b => vA.ownBlock = some b) wr w1 := (KeepB.refl _ wr).grown hg fun k hk _ => hk
  have hblk1 : Blk w1 gO 41 #[.int .i64 al, vR, vA] := h.blk.keep hkA fun e => own_ne h.acc h.blk (by decide) _ e rfl
  have hkB : KeepB (fun b => b = gO) w1 (w1.setCell ⟨gO, 2, none⟩ vA') := (KeepB.refl _ w1).setCell _ _ fun _ => rfl
  have hb1 : Below w3.heap.size w3 w1 := hkA.below h.below h.below.size fun b e => own_block h.acc b e
  refine ⟨hkB.below hb1 hb1.size fun b e => by rw [e]; exact h.ge, h.ge, ?_, by simpa using hblk1.set_ 2 vA'⟩
  have h2 : w1.ownsRow w3.heap.size 4 1 vA' (acs ++ [t]).length (boolVals (acs ++ [t])) := by
    unfold boolVals at ho ⊢
    rw [List.length_append, List.map_append]
    exact ho
  exact own_keep h2 hkB (own_ne h2 hblk1 (by decide))

end Go.Proofs.YtdkjnemakkppfaaGreatDoor

/- The program's search in two automata: firstOfBoth, FirstOutside, LanguageWithin. -/
namespace Go.Proofs.YtdkjnemakkppfaaGreatDoor
open Go.RowKit Go.BigFrame AG

def cmpAu (a b : Au) : Bool := auOk a && (auOk b && decide (a.al = b.al))
theorem wrap_addN (a b : Nat) (h : a + b < 9223372036854775807) : wrap64 ((a : Int) + (b : Int)) = ((a + b : Nat) : Int) := by
  rw [← Int.natCast_add]
  exact IntWalk.wrap64_in _ ⟨by omega, by omega⟩
set_option maxRecDepth 100000 in
set_option maxHeartbeats 4000000 in
theorem bothNext_any (a b : Au) (gS gT bS bN bT base m q l : Nat) (v : Value) (ns : List Nat) (w : World) (hq : q < m * b.nx.length) (hm : m = a.nx.length) (hm12 : m ≤ 12) (hn1 : 1 ≤ b.nx.length) (hn12 : b.nx.length ≤ 12) (hl : l < 6) (hx : goA a (q / b.nx.length) l < 12) (hy : goA b (q % b.nx.length) l < 12)
    (hS : TabA w gS m a) (hT : TabA w gT b.nx.length b) (hcS : w.cell? ⟨bS, 0, none⟩ = some (.slice (some ⟨gS, 0, none⟩) m m)) (hcN : w.cell? ⟨bN, 0, none⟩ = some (.int .i64 (b.nx.length : Nat))) (hcT : w.cell? ⟨bT, 0, none⟩ = some (.slice (some ⟨gT, 0, none⟩) b.nx.length b.nx.length))
    (hns : ns.length ≤ 4294967296) (hb : base ≤ w.heap.size) (hown : w.ownsRow base 3 1 v ns.length (natVals ns)) :
    Calls Tryz.prog 146 #[.int .i64 (q : Nat), .int .i64 (l : Nat), v, .pointer (some ⟨bS, 0, none⟩), .pointer (some ⟨bN, 0, none⟩), .pointer (some ⟨bT, 0, none⟩)] w fun e w' =>
      ∃ v', e = .returned v' ∧ w'.ownsRow base 3 1 v' (ns ++ [goB a b q l]).length (natVals (ns ++ [goB a b q l])) ∧ KeepB (fun b => v.ownBlock = some b) w w' := by
  obtain ⟨i0, hi, hz0, hz1, hz2⟩ := info_parts infoInt
  have hqn : q / b.nx.length < m := Nat.div_lt_of_lt_mul (by rw [Nat.mul_comm]; exact hq)
  have hrn : q % b.nx.length < b.nx.length := Nat.mod_lt _ hn1
  have hq144 : q < 144 := Nat.lt_of_lt_of_le hq (Nat.le_trans (Nat.mul_le_mul hm12 hn12) (by decide))
  obtain ⟨X, hX⟩ : ∃ X, Hid (X = goA a (q / b.nx.length) l) := ⟨_, hid rfl⟩
  obtain ⟨Y, hY⟩ : ∃ Y, Hid (Y = goA b (q % b.nx.length) l) := ⟨_, hid rfl⟩
  have c1 := hS.2 _ l hqn hl
  have c2 := hT.2 _ l hrn hl
  rw [← hX.out] at c1 hx
  rw [← hY.out] at c2 hy
  obtain ⟨n, hn⟩ : ∃ n, Hid (n = b.nx.length) := ⟨_, hid rfl⟩
  have hgo : Hid (goB a b q l = X * n + Y) := hid (by unfold goB; rw [hX.out, hY.out, hn.out])
  rw [← hn.out] at hq hn1 hn12 hqn hrn c1 c2 hcN hcT
  rw [hgo.out]
  have hgS := hS.1
  have hgT := hT.1
  obtain ⟨Q, hQ⟩ : ∃ Q, Hid (Q = q / n) := ⟨_, hid rfl⟩
  obtain ⟨R, hR⟩ : ∃ R, Hid (R = q % n) := ⟨_, hid rfl⟩
  rw [← hQ.out] at hqn c1
  rw [← hR.out] at hrn c2
  have e1 : ((q : Nat) : Int) / ((n : Nat) : Int) = (Q : Int) := by rw [hQ.out]; exact (Int.natCast_ediv q n).symm
  have e2 : ((q : Nat) : Int) % ((n : Nat) : Int) = (R : Int) := by rw [hR.out]; exact (Int.natCast_emod q n).symm
  have e3 : Int.tdiv ((q : Nat) : Int) ((n : Nat) : Int) = (Q : Int) := by rw [Int.tdiv_eq_ediv_of_nonneg (by omega), e1]
  have e4 : Int.tmod ((q : Nat) : Int) ((n : Nat) : Int) = (R : Int) := by rw [Int.tmod_eq_emod_of_nonneg (by omega), e2]
  have hz : ((n : Nat) : Int) ≠ 0 := by omega
  have hz' : (((n : Nat) : Int) == 0) = false := by simpa using hz
  obtain ⟨Av, cv, rfl, -, -⟩ := own_slice hown
  have hbS := World.block_lt_of_cell? _ _ hcS
  have hbN := World.block_lt_of_cell? _ _ hcN
  have hbT := World.block_lt_of_cell? _ _ hcT
  have y0 : ∀ x, (Fam w.heap.size w x).cell? ⟨bS, 0, none⟩ = some (.slice (some ⟨gS, 0, none⟩) m m) := fun x => by rw [(Fam.below w.heap.size w x).cell (by simpa using hbS)]; exact hcS
  have y1 : ∀ x, (Fam w.heap.size w x).cell? ⟨bN, 0, none⟩ = some (.int .i64 (n : Nat)) := fun x => by rw [(Fam.below w.heap.size w x).cell (by simpa using hbN)]; exact hcN
  have y2 : ∀ x, (Fam w.heap.size w x).cell? ⟨bT, 0, none⟩ = some (.slice (some ⟨gT, 0, none⟩) n n) := fun x => by rw [(Fam.below w.heap.size w x).cell (by simpa using hbT)]; exact hcT
  have y3 : ∀ x, (Fam w.heap.size w x).cell? ⟨gS, Q * 6 + l, none⟩ = some (.int .i64 (X : Nat)) := fun x => by rw [(Fam.below w.heap.size w x).cell (by simpa using hgS)]; exact c1
  have y4 : ∀ x, (Fam w.heap.size w x).cell? ⟨gT, R * 6 + l, none⟩ = some (.int .i64 (Y : Nat)) := fun x => by rw [(Fam.below w.heap.size w x).cell (by simpa using hgT)]; exact c2
  have k1 : (0 : Int) ≤ (Q : Int) ∧ (Q : Int) < (m : Int) ∧ (0 : Int) ≤ (R : Int) ∧ (R : Int) < (n : Int) ∧ (0 : Int) ≤ (l : Int) ∧ (l : Int) < 6 := by omega
  obtain ⟨P, hP⟩ : ∃ P, Hid (P = X * n) := ⟨_, hid rfl⟩
  have hP144 : P ≤ 144 := by rw [hP.out]; exact Nat.le_trans (Nat.mul_le_mul (Nat.le_of_lt hx) hn12) (by decide)
  have e5 : wrap64 ((X : Int) * (n : Int)) = (P : Int) := by rw [← Int.natCast_mul, ← hP.out]; exact IntWalk.wrap64_in _ ⟨by omega, by omega⟩
  have e6 := wrap_addN P Y (Nat.lt_of_le_of_lt (Nat.add_le_add hP144 (Nat.le_of_lt hy)) (by decide))
  rw [← hP.out]
  obtain ⟨Z, hZ⟩ : ∃ Z, Hid (Z = P + Y) := ⟨_, hid rfl⟩
  rw [← hZ.out] at e6 ⊢
  replace hown := hid hown
  replace hS := hid hS
  replace hT := hid hT
  clear c1 c2 hcS hcN hcT e1 e2 hP144 hbS hbN hbT hq144 hgS hgT
  subst hm
  go_enter Tryz.func146, Tryz.ntmps146
  go_upto_region 1 with fail
  refine wp_region_grow 21 w.heap.size w (fun _ _ _ => True) (by kernel_rfl) (by kernel_rfl) (Nat.le_refl _) (Below.refl _ _) ?_
  simp only [List.take_succ_cons, List.take_zero, List.drop_succ_cons, List.drop_zero]
  (repeat (refine grow_quiet (by rfl) (by rfl) (by rfl) ?_; intro K hK; go_big_quiet_op; go_big_quiet_on))
  rw [e6]
  refine grow_new (by rfl) (fun b => .slice (some ⟨b, 0, none⟩) 1 1) 3 #[.int .i64 (Z : Nat)] (fun _ => by go_simp) (fun _ => rfl) (Nat.le_refl _) fun g3 hg3 => ?_
  simp only [Act.put, List.setIfInBounds_toArray, List.set_cons_zero, List.set_cons_succ]
  refine grow_nil ?_
  intro w7 hb7 hf
  obtain ⟨g3', hge, -, hblk3⟩ := hf _ List.mem_cons_self
  cases hge
  have hnew3 := hid (Blk.news hblk3)
  clear hblk3 hf y0 y1 y2 y3 y4
  have hoA := hid (own_later_ hown.out hb7)
  have hz7 := hb7.size
  go_wp2_with (at_builtin; refine wpList_append_own_at _ rfl _ _ 63 rfl base 3 i0 (.int .i64 0) 1 8 Tryz.underlying63 hi hz0 hz1 hz2 rfl (by decide) _ _ _ rfl (hoA.out) ⟨g3, 0, none⟩ 1 1 [.int .i64 (Z : Nat)] rfl rfl hnew3.out (by intro u hu; simp at hu; subst hu; rfl) (by unfold maxLen; omega) (by omega) (by first | omega | (simp; omega)) ?_; intro v5 w5 hO5 hg5 _ hat5; obtain ⟨A5, c5, ev5, -, -⟩ := own_slice hO5; subst ev5; replace hO5 := hid hO5; replace hg5 := hid hg5)
  go_ret
  refine ⟨_, rfl, ?_, (KeepB.of_below (K := fun b => (Value.slice Av ns.length cv).ownBlock = some b) hb7).grown hg5.out fun k hk _ => hk⟩
  have := hO5.out
  rw [List.length_append]
  unfold natVals at this ⊢
  rw [List.map_append]
  exact this

end Go.Proofs.YtdkjnemakkppfaaGreatDoor

/- The program's search in two automata: comparable2, firstOfBoth. -/
namespace Go.Proofs.YtdkjnemakkppfaaGreatDoor
open Go.RowKit Go.BigFrame AG

set_option maxRecDepth 100000 in
set_option maxHeartbeats 4000000 in
theorem cmp2_any (a b : Au) (A B A' B' : Option Addr) (c d c' d' : Nat) (w : World) (ha : AuAt w A c B d a) (hb : AuAt w A' c' B' d' b) :
    Calls Tryz.prog 65 #[a.val A c B d, b.val A' c' B' d'] w fun e w' => e = .returned (.bool (cmpAu a b)) ∧ Below w.heap.size w w' := by
  obtain ⟨w0, hw0, hz0, hB0, hS, hU⟩ := boxed2 w #[Value.int IntKind.i64 a.al, Value.slice A a.nx.length c, Value.slice B a.ac.length d] 41 #[Value.int IntKind.i64 b.al, Value.slice A' b.nx.length c', Value.slice B' b.ac.length d'] 41
  have ha0 := hid (ha.later hB0)
  have hb0 := hid (hb.later hB0)
  have p0 := hS 0 _ rfl _ (Below.refl _ _)
  have p1 := hS 1 _ rfl _ (Below.refl _ _)
  have p2 := hS 2 _ rfl _ (Below.refl _ _)
  replace ha := hid ha
  replace hb := hid hb
  unfold AG.Au.val
  go_enter Tryz.func65, Tryz.ntmps65
  go_wp2_with fail
  refine (implAutomatonValid_any a A B c d w0 ha0.out).mono ?_
  rintro e w1 ⟨rfl, hb1⟩
  clear p0 p1 p2
  have hB1 := hB0.trans (hb1.mono hB0.size)
  have hC1 := hb1.mono hz0
  cases hca : auOk a
  · have hfin : Hid (cmpAu a b = false) := hid (by unfold cmpAu; rw [hca]; rfl)
    replace hca := hid hca
    go_wp2_with fail
    go_ret
    exact ⟨ret_bool (by rw [hfin.out]), hB1⟩
  have q0 := hU 0 _ rfl _ hC1
  have q1 := hU 1 _ rfl _ hC1
  have q2 := hU 2 _ rfl _ hC1
  have hfin : Hid (cmpAu a b = (auOk b && decide (a.al = b.al))) := hid (by unfold cmpAu; rw [hca]; rfl)
  replace hca := hid hca
  go_wp2_with fail
  refine (implAutomatonValid_any b A' B' c' d' w1 (hb0.out.later hb1)).mono ?_
  rintro e w2 ⟨rfl, hb2⟩
  clear q0 q1 q2
  have hB2 := hB1.trans (hb2.mono hB1.size)
  have hC2 := hC1.trans (hb2.mono (by have := hC1.size; omega))
  cases hcb : auOk b
  · have hcb' := hid hcb
    go_wp2_with fail
    go_ret
    exact ⟨ret_bool (by rw [hfin.out, hcb]; rfl), hB2⟩
  have p0 := hS 0 _ rfl _ hC2
  have q0 := hU 0 _ rfl _ hC2
  obtain ⟨t, ht⟩ : ∃ t, (a.al == b.al) = t := ⟨_, rfl⟩
  have htt : Hid (decide (a.al = b.al) = t) := hid (by rw [← ht]; rfl)
  replace hcb := hid hcb
  go_wp2_with fail
  go_ret
  exact ⟨ret_bool (by rw [hfin.out, hcb.out, htt.out, Bool.true_and]), hB2⟩

/-- A test of two truth values, as a function value. -/
structure BoolFn (g : Bool → Bool → Bool) (fg : FuncId) (cg : Array Value) : Prop where
  run : ∀ args w', (callFunc fg args).run Tryz.prog w' = .ok (.enter fg args) w'
  call : ∀ w' x y, Calls Tryz.prog fg (#[.bool x, .bool y] ++ cg) w' fun e w'' => e = .returned (.bool (g x y)) ∧ Below w'.heap.size w' w''
def goalB (a b : Au) (g : Bool → Bool → Bool) (m : Nat) : Bool := g (a.ac.getD (m / b.nx.length) false) (b.ac.getD (m % b.nx.length) false)

set_option maxRecDepth 100000 in
set_option maxHeartbeats 4000000 in
theorem bothGoal_any (a b : Au) (g : Bool → Bool → Bool) (fg : FuncId) (cg : Array Value) (hg : BoolFn g fg cg) (B B' : Option Addr) (d d' bG bA bN bB q : Nat) (w : World) (hq : q < a.ac.length * b.nx.length) (hl : b.ac.length = b.nx.length) (hn : 1 ≤ b.nx.length) (hn12 : b.nx.length ≤ 12) (hm12 : a.ac.length ≤ 12)
    (hA : BoolsAt w w.heap.size B a.ac) (hB : BoolsAt w w.heap.size B' b.ac) (hcG : w.cell? ⟨bG, 0, none⟩ = some (.func (.func fg) #[] cg)) (hcA : w.cell? ⟨bA, 2, none⟩ = some (.slice B a.ac.length d)) (hcN : w.cell? ⟨bN, 0, none⟩ = some (.int .i64 (b.nx.length : Nat))) (hcB : w.cell? ⟨bB, 2, none⟩ = some (.slice B' b.ac.length d')) :
    Calls Tryz.prog 147 #[.int .i64 (q : Nat), .pointer (some ⟨bG, 0, none⟩), .pointer (some ⟨bA, 0, none⟩), .pointer (some ⟨bN, 0, none⟩), .pointer (some ⟨bB, 0, none⟩)] w fun e w' => e = .returned (.bool (goalB a b g q)) ∧ Below w.heap.size w w' := by
  have hqm : q / b.nx.length < a.ac.length := Nat.div_lt_of_lt_mul (by rw [Nat.mul_comm]; exact hq)
  have hrn : q % b.nx.length < b.nx.length := Nat.mod_lt _ hn
  obtain ⟨gA, oA, rfl, hltA, hEA⟩ := hA (Nat.lt_of_le_of_lt (Nat.zero_le _) hqm)
  obtain ⟨gB, oB, rfl, hltB, hEB⟩ := hB (by omega)
  have c1 := hEA _ hqm
  have c2 := hEB (q % b.nx.length) (by omega)
  have hfin : Hid (goalB a b g q = g a.ac[q / b.nx.length] (b.ac[q % b.nx.length]'(by omega))) := hid (by
    unfold goalB
    rw [List.getD_eq_getElem?_getD, List.getD_eq_getElem?_getD, List.getElem?_eq_getElem hqm, List.getElem?_eq_getElem (by omega)]
    rfl)
  rw [hfin.out]
  obtain ⟨x, hx⟩ : ∃ x, x = a.ac[q / b.nx.length] := ⟨_, rfl⟩
  obtain ⟨y, hy⟩ : ∃ y, y = b.ac[q % b.nx.length]'(by omega) := ⟨_, rfl⟩
  rw [← hx] at c1 ⊢
  rw [← hy] at c2 ⊢
  clear hx hy hfin
  obtain ⟨n, hnn⟩ : ∃ n, Hid (n = b.nx.length) := ⟨_, hid rfl⟩
  rw [← hnn.out] at hqm hrn c1 c2 hcN hn hl
  obtain ⟨Q, hQ⟩ : ∃ Q, Hid (Q = q / n) := ⟨_, hid rfl⟩
  obtain ⟨R, hR⟩ : ∃ R, Hid (R = q % n) := ⟨_, hid rfl⟩
  rw [← hQ.out] at hqm c1
  rw [← hR.out] at hrn c2
  have e1 : ((q : Nat) : Int) / ((n : Nat) : Int) = (Q : Int) := by rw [hQ.out]; exact (Int.natCast_ediv q n).symm
  have e2 : ((q : Nat) : Int) % ((n : Nat) : Int) = (R : Int) := by rw [hR.out]; exact (Int.natCast_emod q n).symm
  have e3 : Int.tdiv ((q : Nat) : Int) ((n : Nat) : Int) = (Q : Int) := by rw [Int.tdiv_eq_ediv_of_nonneg (by omega), e1]
  have e4 : Int.tmod ((q : Nat) : Int) ((n : Nat) : Int) = (R : Int) := by rw [Int.tmod_eq_emod_of_nonneg (by omega), e2]
  clear e1 e2
  have hz : ((n : Nat) : Int) ≠ 0 := by omega
  have hz' : (((n : Nat) : Int) == 0) = false := by simpa using hz
  have k1 : (0 : Int) ≤ (Q : Int) ∧ (Q : Int) < (a.ac.length : Int) ∧ (0 : Int) ≤ (R : Int) ∧ (R : Int) < (b.ac.length : Int) := by omega
  have y0 := fun x => (Fam.below w.heap.size w x).cell (World.block_lt_of_cell? _ _ hcG) |>.trans hcG
  have y1 := fun x => (Fam.below w.heap.size w x).cell (World.block_lt_of_cell? _ _ hcA) |>.trans hcA
  have y2 := fun x => (Fam.below w.heap.size w x).cell (World.block_lt_of_cell? _ _ hcN) |>.trans hcN
  have y3 := fun x => (Fam.below w.heap.size w x).cell (World.block_lt_of_cell? _ _ hcB) |>.trans hcB
  have y4 := fun x => (Fam.below w.heap.size w x).cell (World.block_lt_of_cell? _ _ c1) |>.trans c1
  have y5 := fun x => (Fam.below w.heap.size w x).cell (World.block_lt_of_cell? _ _ c2) |>.trans c2
  have hrun := hg.run
  have hcall := hid hg.call
  replace hEA := hid hEA
  replace hEB := hid hEB
  replace hA := hid hA
  replace hB := hid hB
  clear c1 c2 hcG hcA hcN hcB hq hnn hg
  go_enter Tryz.func147, Tryz.ntmps147
  go_upto_region 1 with fail
  refine wp_region_grow 15 w.heap.size w (fun _ _ _ => True) (by kernel_rfl) (by kernel_rfl) (Nat.le_refl _) (Below.refl _ _) ?_
  simp only [List.take_succ_cons, List.take_zero, List.drop_succ_cons, List.drop_zero]
  (repeat (refine grow_quiet (by rfl) (by rfl) (by rfl) ?_; intro K hK; go_big_quiet_op; go_big_quiet_on))
  refine grow_nil ?_
  intro w7 hb7 hf
  clear hf y0 y1 y2 y3 y4 y5
  go_wp2_with fail
  refine (hcall.out w7 x y).mono ?_
  rintro e w8 ⟨rfl, hb8⟩
  have hb := hb7.trans (hb8.mono hb7.size)
  go_wp2_with fail
  go_ret
  exact ⟨rfl, hb⟩

end Go.Proofs.YtdkjnemakkppfaaGreatDoor

/- The program's FirstTraceOutside: its closures. -/
namespace Go.Proofs.YtdkjnemakkppfaaGreatDoor
open Go.RowKit Go.BigFrame AG

theorem tmod_nat (a b : Nat) : Int.tmod (a : Int) (b : Int) = ((a % b : Nat) : Int) := by
  rw [Int.tmod_eq_emod_of_nonneg (by omega)]
  exact (Int.natCast_emod a b).symm
theorem tdiv_nat (a b : Nat) : Int.tdiv (a : Int) (b : Int) = ((a / b : Nat) : Int) := by
  rw [Int.tdiv_eq_ediv_of_nonneg (by omega)]
  exact (Int.natCast_ediv a b).symm

end Go.Proofs.YtdkjnemakkppfaaGreatDoor

/- The program's FirstTraceOutside. -/
namespace Go.Proofs.YtdkjnemakkppfaaGreatDoor
open Go.RowKit Go.BigFrame AG

theorem setFar_cell (w : World) (p : Addr) (v : Value) {q : Addr} (h : q.block ≠ p.block) : (w.setCell p v).cell? q = w.cell? q := World.cell?_of_block (w := w) (Below.heap_setCell _ _ _ _ h)
theorem MvAt.far {w : World} {B g : Nat} {m : Nat → Nat → Nat} (h : MvAt w B g m) (p : Addr) (v : Value) (hp : g ≠ p.block) : MvAt (w.setCell p v) B g m := ⟨h.1, fun q l h1 h2 => by rw [setFar_cell _ _ _ hp]; exact h.2 q l h1 h2⟩

end Go.Proofs.YtdkjnemakkppfaaGreatDoor

/- The program's search in two automata: firstOfBoth. -/
namespace Go.Proofs.YtdkjnemakkppfaaGreatDoor
open Go.RowKit Go.BigFrame AG

def DoubP (a b : Au) (g : Bool → Bool → Bool) (m0 : Nat) (o : Option (List Nat)) : Prop := PathPost (fun m => m ∈ [m0]) (letters a.al) (fun q l => [goB a b q l]) (fun m => goalB a b g m = true) o
theorem TabA.far {w : World} {g n : Nat} {a : Au} (h : TabA w g n a) (p : Addr) (v : Value) (hne : g ≠ p.block) : TabA (w.setCell p v) g n a :=
  ⟨by simpa using h.1, fun q l h1 h2 => by rw [setFar_cell _ _ _ (by simpa using hne)]; exact h.2 q l h1 h2⟩
theorem wrap_mulN (a b : Nat) (h : a * b < 9223372036854775807) : wrap64 ((a : Int) * (b : Int)) = ((a * b : Nat) : Int) := by
  rw [← Int.natCast_mul]
  generalize a * b = c at h
  exact IntWalk.wrap64_in _ ⟨by omega, by omega⟩
theorem goB_lt {a b : Au} (ha : auOk a = true) (hb : auOk b = true) {q l : Nat} (hq : q < a.nx.length * b.nx.length) : goB a b q l < a.nx.length * b.nx.length := by
  have hn := ((auOk_iff b).1 hb).2.1
  have h1 := goA_lt ha (q := q / b.nx.length) (l := l) (Nat.div_lt_of_lt_mul (by rw [Nat.mul_comm]; exact hq))
  have h2 := goA_lt hb (q := q % b.nx.length) (l := l) (Nat.mod_lt _ hn)
  unfold goB
  calc goA a (q / b.nx.length) l * b.nx.length + goA b (q % b.nx.length) l < goA a (q / b.nx.length) l * b.nx.length + b.nx.length := by omega
    _ = (goA a (q / b.nx.length) l + 1) * b.nx.length := by rw [Nat.add_mul, Nat.one_mul]
    _ ≤ a.nx.length * b.nx.length := Nat.mul_le_mul_right _ h1

theorem bothNext_ok {a b : Au} {gS gT bS bN bT : Nat} {w : World} (ha : auOk a = true) (hb : auOk b = true)
    (hS : TabA w gS a.nx.length a) (hT : TabA w gT b.nx.length b) (hcS : w.cell? ⟨bS, 0, none⟩ = some (.slice (some ⟨gS, 0, none⟩) a.nx.length a.nx.length)) (hcN : w.cell? ⟨bN, 0, none⟩ = some (.int .i64 (b.nx.length : Nat))) (hcT : w.cell? ⟨bT, 0, none⟩ = some (.slice (some ⟨gT, 0, none⟩) b.nx.length b.nx.length)) :
    NextOk w (a.nx.length * b.nx.length) (letters a.al) (fun q l => [goB a b q l]) 146 #[.pointer (some ⟨bS, 0, none⟩), .pointer (some ⟨bN, 0, none⟩), .pointer (some ⟨bT, 0, none⟩)] := by
  obtain ⟨_, a1, a12, _⟩ := (auOk_iff a).1 ha
  obtain ⟨_, b1, b12, _⟩ := (auOk_iff b).1 hb
  refine ⟨fun args w' => by go_simp, fun q hq l _ n hn => ?_, fun q _ l _ => by simp, fun w' q l v ns base hbb hq hl hns hB hB' hown => ?_⟩
  · rw [List.mem_singleton.1 hn]
    exact goB_lt ha hb hq
  · have h1 := goA_lt ha (q := q / b.nx.length) (l := l) (Nat.div_lt_of_lt_mul (by rw [Nat.mul_comm]; exact hq))
    have h2 := goA_lt hb (q := q % b.nx.length) (l := l) (Nat.mod_lt _ b1)
    exact bothNext_any a b gS gT bS bN bT base a.nx.length q l v ns w' hq rfl a12 b1 b12 (letters_lt hl).1 (by omega) (by omega) (hS.later hbb) (hT.later hbb) ((hbb.cell (World.block_lt_of_cell? _ _ hcS)).trans hcS)
      ((hbb.cell (World.block_lt_of_cell? _ _ hcN)).trans hcN) ((hbb.cell (World.block_lt_of_cell? _ _ hcT)).trans hcT) hns hB' hown

set_option maxRecDepth 100000 in
set_option maxHeartbeats 8000000 in
theorem firstOfBoth_any (a b : Au) (A B A' B' : Option Addr) (c d c' d' i j : Nat) (g : Bool → Bool → Bool) (fg : FuncId) (cg : Array Value) (w : World) (hoka : auOk a = true) (hokb : auOk b = true) (hi : i < a.nx.length) (hj : j < b.nx.length) (hg : BoolFn g fg cg)
    (ha : AuAt w A c B d a) (hb : AuAt w A' c' B' d' b) :
    Calls Tryz.prog 104 #[a.val A c B d, b.val A' c' B' d', .int .i64 (i : Nat), .int .i64 (j : Nat), .func (.func fg) #[] cg] w fun e w' => ∃ o, e = .returned (pathV o) ∧ DoubP a b g (i * b.nx.length + j) o ∧ Below w.heap.size w w' := by
  obtain ⟨-, hn1, hn12, hn3, -⟩ := (auOk_iff a).1 hoka
  obtain ⟨-, hm1, hm12, hm3, -⟩ := (auOk_iff b).1 hokb
  obtain ⟨M, hM⟩ : ∃ M, Hid (M = a.nx.length * b.nx.length) := ⟨_, hid rfl⟩
  obtain ⟨I, hI⟩ : ∃ I, Hid (I = i * b.nx.length) := ⟨_, hid rfl⟩
  obtain ⟨J, hJ⟩ : ∃ J, Hid (J = i * b.nx.length + j) := ⟨_, hid rfl⟩
  have hM144 : M ≤ 144 := by rw [hM.out]; exact Nat.le_trans (Nat.mul_le_mul hn12 hm12) (by decide)
  have hI144 : I ≤ 144 := by rw [hI.out]; exact Nat.le_trans (Nat.mul_le_mul (Nat.le_trans (Nat.le_of_lt hi) hn12) hm12) (by decide)
  have e5 := wrap_mulN a.nx.length b.nx.length (by rw [← hM.out]; omega)
  rw [← hM.out] at e5
  have e6 := wrap_mulN i b.nx.length (by rw [← hI.out]; omega)
  rw [← hI.out] at e6
  have hJI : I + j = J := by rw [hJ.out, hI.out]
  have e7 := wrap_addN I j (by omega)
  rw [hJI] at e7
  clear hJI
  have hJM : J < M := by
    rw [hJ.out, hM.out]
    calc i * b.nx.length + j < i * b.nx.length + b.nx.length := by omega
      _ = (i + 1) * b.nx.length := by rw [Nat.add_mul, Nat.one_mul]
      _ ≤ a.nx.length * b.nx.length := Nat.mul_le_mul_right _ hi
  have hJM' := hid hJM
  replace e5 := hid e5
  replace e6 := hid e6
  replace e7 := hid e7
  clear hJM hI144
  obtain ⟨w1, hw1, hz1, hB1, hS, hU⟩ := boxed2 w #[Value.int IntKind.i64 a.al, Value.slice A a.nx.length c, Value.slice B a.ac.length d] 41 #[Value.int IntKind.i64 b.al, Value.slice A' b.nx.length c', Value.slice B' b.ac.length d'] 41
  obtain ⟨w0, hw0, hz0, hB0', hV⟩ := boxed w1 #[Value.func (.func fg) #[] cg] 126
  have hB0 := hB1.trans (hB0'.mono hB1.size)
  have hC0 := hB0'.mono hz1
  have ha0 := hid (ha.later hB0)
  have hb0 := hid (hb.later hB0)
  replace ha := hid ha
  replace hb := hid hb
  have hoka' := hid hoka
  have hokb' := hid hokb
  replace hn3 := hid hn3
  replace hm3 := hid hm3
  clear hoka hokb
  unfold AG.Au.val
  go_enter Tryz.func104, Tryz.ntmps104
  go_upto_region 1 with fail
  have hFb : ∀ x, Below (w.heap.size + 2) w1 (Fam w0.heap.size w0 x) := fun x => (hB0'.trans ((Fam.below _ _ x).mono (by omega))).mono hz1
  have y0 := fun x => hS 0 _ rfl _ (hFb x)
  have y1 := fun x => hS 1 _ rfl _ (hFb x)
  have y2 := fun x => hS 2 _ rfl _ (hFb x)
  have u0 := fun x => hU 0 _ rfl _ (hFb x)
  have u1 := fun x => hU 1 _ rfl _ (hFb x)
  have u2 := fun x => hU 2 _ rfl _ (hFb x)
  refine wp_region_grow2 6 w0.heap.size w0 (fun i u w' => if i = 1 then ∃ g, u = .slice (some ⟨g, 0, none⟩) a.nx.length a.nx.length ∧ TabA w' g a.nx.length a else ∃ g, u = .slice (some ⟨g, 0, none⟩) b.nx.length b.nx.length ∧ TabA w' g b.nx.length b) (fun i => i == 4 || i == 5) (by kernel_rfl) (by kernel_rfl) (Nat.le_refl _) (Below.refl _ _) ?_
  simp only [List.take_succ_cons, List.take_zero, List.drop_succ_cons, List.drop_zero]
  (repeat (refine grow_quiet (by rfl) (by rfl) (by rfl) ?_; intro K hK; go_big_quiet_op; go_big_quiet_on))
  refine grow_call (by rfl) (by rfl) (fun u v v' hb h => ?_) (fun wq hbq _ => ?_) fun u hu => ?_
  · obtain ⟨g, e, h⟩ := h
    exact ⟨g, e, h.later hb⟩
  · go_simp
    refine ⟨rfl, (tableOf_any a A B c d wq (by omega) (tabOk_of hoka'.out) (ha0.out.later hbq)).mono ?_⟩
    rintro e w3 ⟨g, rfl, hg, hb3⟩
    exact ⟨_, rfl, hb3, g, rfl, hg⟩
  obtain ⟨wx, -, gS, rfl, -⟩ := hu
  simp only [Act.put, List.setIfInBounds_toArray, List.set_cons_zero, List.set_cons_succ]
  (repeat (refine grow_quiet (by rfl) (by rfl) (by rfl) ?_; intro K hK; go_big_quiet_op; go_big_quiet_on))
  refine grow_call (by rfl) (by rfl) (fun u v v' hb h => ?_) (fun wq hbq _ => ?_) fun u hu => ?_
  · obtain ⟨g, e, h⟩ := h
    exact ⟨g, e, h.later hb⟩
  · go_simp
    refine ⟨rfl, (tableOf_any b A' B' c' d' wq (by omega) (tabOk_of hokb'.out) (hb0.out.later hbq)).mono ?_⟩
    rintro e w3 ⟨g, rfl, hg, hb3⟩
    exact ⟨_, rfl, hb3, g, rfl, hg⟩
  obtain ⟨wx', -, gT, rfl, -⟩ := hu
  simp only [Act.put, List.setIfInBounds_toArray, List.set_cons_zero, List.set_cons_succ]
  refine grow_new (by rfl) (fun b => .pointer (some ⟨b, 0, none⟩)) 103 #[.slice none 0 0] (fun _ => by go_simp) (fun _ => rfl) (Nat.le_refl _) fun bS hbS => ?_
  simp only [Act.put, List.setIfInBounds_toArray, List.set_cons_zero, List.set_cons_succ]
  refine grow_new (by rfl) (fun b => .pointer (some ⟨b, 0, none⟩)) 103 #[.slice none 0 0] (fun _ => by go_simp) (fun _ => rfl) (Nat.le_refl _) fun bT hbT => ?_
  simp only [Act.put, List.setIfInBounds_toArray, List.set_cons_zero, List.set_cons_succ]
  refine grow_nil ?_
  intro w2 hb2 hf hap
  have hne : bS ≠ bT := by
    have := hap 4 5 12 13 _ _ (by decide) (by decide) (by decide) rfl rfl rfl rfl rfl rfl
    simpa [blockOf] using this
  obtain ⟨_, e5, -, hN5⟩ := hf _ List.mem_cons_self
  cases e5
  obtain ⟨_, e4, -, hM4⟩ := hf _ (List.mem_cons_of_mem _ List.mem_cons_self)
  cases e4
  obtain ⟨_, e3, hT3⟩ := hf _ (List.mem_cons_of_mem _ (List.mem_cons_of_mem _ List.mem_cons_self))
  cases e3
  obtain ⟨_, e1, hS3⟩ := hf _ (List.mem_cons_of_mem _ (List.mem_cons_of_mem _ (List.mem_cons_of_mem _ List.mem_cons_self)))
  cases e1
  clear hf hap y0 y1 y2 u0 u1 u2
  have hBS : Blk w2 bS 103 #[.slice none 0 0] := hM4
  have hBT : Blk w2 bT 103 #[.slice none 0 0] := hN5
  clear hM4 hN5
  have hgm : ∀ g b n (x : Au), 1 ≤ n → Blk w2 b 103 #[.slice none 0 0] → TabA w2 g n x → g ≠ b := fun g b n x hn hb hm e => by
    subst e
    have h1 := hm.2 0 0 (by omega) (by omega)
    have h2 := hb.cell 0
    simp at h2
    simp [h2] at h1
  have g1 := hgm gS bS _ _ hn1 hBS hS3
  have g2 := hgm gS bT _ _ hn1 hBT hS3
  have g3 := hgm gT bS _ _ hm1 hBS hT3
  have g4 := hgm gT bT _ _ hm1 hBT hT3
  clear hgm
  obtain ⟨w3, hw3⟩ : ∃ w3, (w2.setCell ⟨bS, 0, none⟩ (.slice (some ⟨gS, 0, none⟩) a.nx.length a.nx.length)).setCell ⟨bT, 0, none⟩ (.slice (some ⟨gT, 0, none⟩) b.nx.length b.nx.length) = w3 := ⟨_, rfl⟩
  have hb3 : Below w0.heap.size w0 w3 := by
    rw [← hw3]
    (repeat (first | exact Below.refl _ _ | assumption | refine Below.drew ?_ | refine Below.alloc ?_ (by first | omega | (simp; done) | (simp; omega)) _ | refine Below.setCell ?_ (by first | omega | (simp; done) | (simp; omega)) _))
  have hS4 : TabA w3 gS a.nx.length a := by
    have := (hS3.far ⟨bS, 0, none⟩ (.slice (some ⟨gS, 0, none⟩) a.nx.length a.nx.length) g1).far ⟨bT, 0, none⟩ (.slice (some ⟨gT, 0, none⟩) b.nx.length b.nx.length) g2
    rw [hw3] at this
    exact this
  have hT4 : TabA w3 gT b.nx.length b := by
    have := (hT3.far ⟨bS, 0, none⟩ (.slice (some ⟨gS, 0, none⟩) a.nx.length a.nx.length) g3).far ⟨bT, 0, none⟩ (.slice (some ⟨gT, 0, none⟩) b.nx.length b.nx.length) g4
    rw [hw3] at this
    exact this
  have hcS : w3.cell? ⟨bS, 0, none⟩ = some (.slice (some ⟨gS, 0, none⟩) a.nx.length a.nx.length) := by
    rw [← hw3, setFar_cell _ _ _ (by simpa using hne)]
    have := (hBS.set_ 0 (.slice (some ⟨gS, 0, none⟩) a.nx.length a.nx.length)).cell 0
    simpa using this
  have hBT' : Blk (w2.setCell ⟨bS, 0, none⟩ (.slice (some ⟨gS, 0, none⟩) a.nx.length a.nx.length)) bT 103 #[.slice none 0 0] := (Below.heap_setCell _ _ _ _ (Ne.symm hne)).trans hBT
  have hcT : w3.cell? ⟨bT, 0, none⟩ = some (.slice (some ⟨gT, 0, none⟩) b.nx.length b.nx.length) := by
    rw [← hw3]
    have := (hBT'.set_ 0 (.slice (some ⟨gT, 0, none⟩) b.nx.length b.nx.length)).cell 0
    simpa using this
  have c1 := hBS.cell 0
  have c2 := hBT'.cell 0
  simp only [List.getElem?_toArray, List.getElem?_cons_zero] at c1 c2
  have z1' := hBS.frozen 0
  have z2' := hBT'.frozen 0
  have k1 := hcT
  rw [← hw3] at k1
  replace hS4 := hid hS4
  replace hT4 := hid hT4
  replace hcS := hid hcS
  replace hcT := hid hcT
  replace hw3 := hid hw3
  replace hBS := hid hBS
  replace hBT := hid hBT
  replace hBT' := hid hBT'
  clear hS3 hT3
  have hz32 : Hid (w3.heap.size = w2.heap.size) := hid (by rw [← hw3.out]; simp)
  go_upto_region 4 with fail
  rw [hw3.out]
  obtain ⟨w4, hw4⟩ : ∃ w4, w3.alloc (Obj.cells #[Value.int IntKind.i64 (b.nx.length : Nat)] 3) = w4 := ⟨_, rfl⟩
  rw [hw4]
  have hb4 : Below w3.heap.size w3 w4 := by
    rw [← hw4]
    (repeat (first | exact Below.refl _ _ | assumption | refine Below.drew ?_ | refine Below.alloc ?_ (by first | omega | (simp; done) | (simp; omega)) _ | refine Below.setCell ?_ (by first | omega | (simp; done) | (simp; omega)) _))
  have hcN : w4.cell? ⟨w2.heap.size, 0, none⟩ = some (.int .i64 (b.nx.length : Nat)) := by
    have := (Blk.new w3 3 #[Value.int IntKind.i64 (b.nx.length : Nat)]).cell 0
    rw [hw4, hz32.out] at this
    simpa using this
  have hS5 := hid (hS4.out.later hb4)
  have hT5 := hid (hT4.out.later hb4)
  have hcS4 := (hb4.cell (World.block_lt_of_cell? _ _ hcS.out)).trans hcS.out
  have hcT4 := (hb4.cell (World.block_lt_of_cell? _ _ hcT.out)).trans hcT.out
  have hb04 : Below w0.heap.size w0 w4 := hb3.trans (hb4.mono hb3.size)
  have hbw4 := hB0.trans (hb04.mono hB0.size)
  have h14 := hB0'.trans (hb04.mono hB0'.size)
  have hFb4 : ∀ x, Below (w.heap.size + 2) w1 (Fam w4.heap.size w4 x) := fun x => (h14.trans ((Fam.below _ _ x).mono (by have := h14.size; omega))).mono hz1
  have y0 := fun x => hS 0 _ rfl _ (hFb4 x)
  have y1 := fun x => (Fam.below w4.heap.size w4 x).cell (World.block_lt_of_cell? _ _ hcS4) |>.trans hcS4
  have y2 := fun x => (Fam.below w4.heap.size w4 x).cell (World.block_lt_of_cell? _ _ hcN) |>.trans hcN
  have y3 := fun x => (Fam.below w4.heap.size w4 x).cell (World.block_lt_of_cell? _ _ hcT4) |>.trans hcT4
  have hcN' := hid hcN
  have hcS4' := hid hcS4
  have hcT4' := hid hcT4
  have hS1 := hid (fun w' (hb : Below w4.heap.size w4 w') => hS 2 _ rfl w' ((h14.trans (hb.mono h14.size)).mono hz1))
  have hU1 := hid (fun w' (hb : Below w4.heap.size w4 w') => hU 2 _ rfl w' ((h14.trans (hb.mono h14.size)).mono hz1))
  have hV1 := hid (fun w' (hb : Below w4.heap.size w4 w') => hV 0 _ rfl w' ((hb04.trans (hb.mono hb04.size)).mono hz0))
  have ha4 := hid (ha0.out.later hb04)
  have hbb4 := hid (hb0.out.later hb04)
  replace hg := hid hg
  replace hFb4 := hid hFb4
  replace hFb := hid hFb
  clear hcN hcS4 hcT4 hw4 c1 c2 z1' z2' k1
  have hfin : Hid (∀ o, PathPost (fun m => m ∈ [J]) (letters a.al) (fun q l => [goB a b q l]) (fun m => goalB a b g m = true) o → DoubP a b g J o) := hid fun o h => h
  refine wp_region_grow 18 w4.heap.size w4 (fun i u w' => if i = 12 then OwnNats w' w4.heap.size u (letters a.al) else ∃ o, u = pathV o ∧ DoubP a b g J o) (by kernel_rfl) (by kernel_rfl) (Nat.le_refl _) (Below.refl _ _) ?_
  simp only [List.take_succ_cons, List.take_zero, List.drop_succ_cons, List.drop_zero]
  (repeat (refine grow_quiet (by rfl) (by rfl) (by rfl) ?_; intro K hK; go_big_quiet_op; go_big_quiet_on))
  rw [e5.out, e6.out, e7.out]
  refine grow_new (by rfl) (fun b => .slice (some ⟨b, 0, none⟩) 1 1) 3 #[.int .i64 (J : Nat)] (fun _ => by go_simp) (fun _ => rfl) (Nat.le_refl _) fun bI hbI => ?_
  simp only [Act.put, List.setIfInBounds_toArray, List.set_cons_zero, List.set_cons_succ]
  (repeat (refine grow_quiet (by rfl) (by rfl) (by rfl) ?_; intro K hK; go_big_quiet_op; go_big_quiet_on))
  refine grow_call (by rfl) (by rfl) (fun u v v' hb h => ?_) (fun wq hbq _ => ?_) fun u hu => ?_
  · exact own_keep h (.of_below (K := fun _ => False) hb) fun _ _ h => h
  · go_simp
    refine ⟨rfl, (lettersOf_any a.al wq).mono ?_⟩
    rintro e w5 ⟨v, rfl, ho, hb5⟩
    exact ⟨v, rfl, hb5, own_base ho hbq.size⟩
  simp only [Act.put, List.setIfInBounds_toArray, List.set_cons_zero, List.set_cons_succ]
  (repeat (refine grow_quiet (by rfl) (by rfl) (by rfl) ?_; intro K hK; go_big_quiet_op; go_big_quiet_on))
  refine grow_call (by rfl) (by rfl) (fun v x x' hb h => h) (fun wq hbq hfx => ?_) fun u2 hu2 => ?_
  · have hlet : OwnNats wq w4.heap.size u (letters a.al) := hfx _ List.mem_cons_self (by kernel_rfl)
    obtain ⟨bI', eI, -, hII⟩ := hfx _ (List.mem_cons_of_mem _ List.mem_cons_self) (by kernel_rfl)
    cases eI
    have hCS := hid ((hbq.cell (World.block_lt_of_cell? _ _ hcS4'.out)).trans hcS4'.out)
    have hCT := hid ((hbq.cell (World.block_lt_of_cell? _ _ hcT4'.out)).trans hcT4'.out)
    have hCN := hid ((hbq.cell (World.block_lt_of_cell? _ _ hcN'.out)).trans hcN'.out)
    have hSq := hid (hS5.out.later hbq)
    have hTq := hid (hT5.out.later hbq)
    have hgoal : GoalOk wq M (goalB a b g) 147 #[.pointer (some ⟨w1.heap.size, 0, none⟩), .pointer (some ⟨w.heap.size, 0, none⟩), .pointer (some ⟨w2.heap.size, 0, none⟩), .pointer (some ⟨w.heap.size + 1, 0, none⟩)] :=
      ⟨fun args w' => by go_simp, fun w' q hb hq => by
        have hbb := hbq.trans (hb.mono hbq.size)
        have x1 := hn3.out
        have x2 := hm3.out
        exact bothGoal_any a b g fg cg hg.out B B' d d' w1.heap.size w.heap.size w2.heap.size (w.heap.size + 1) q w' (by rw [x1, ← hM.out]; exact hq) (by omega) hm1 hm12 (by omega) (ha4.out.later hbb).acc (hbb4.out.later hbb).acc (hV1.out w' hbb) (hS1.out w' hbb)
          ((hbb.cell (World.block_lt_of_cell? _ _ hcN'.out)).trans hcN'.out) (hU1.out w' hbb)⟩
    have hnext := bothNext_ok (w := wq) hoka'.out hokb'.out hSq.out hTq.out hCS.out hCN.out hCT.out
    rw [← hM.out] at hnext
    replace hgoal := hid hgoal
    replace hnext := hid hnext
    go_simp
    refine ⟨rfl, ?_⟩
    have hIo : wq.ownsRow 0 3 1 (.slice (some ⟨bI, 0, none⟩) 1 1) [J].length (natVals [J]) := ⟨rfl, .inr ⟨bI, 1, #[.int .i64 (J : Nat)], rfl, Nat.zero_le _, hII, Nat.le_refl _, by decide, rfl, rfl⟩⟩
    refine (firstPath_any wq M (goalB a b g) 147 _ hgoal.out (letters a.al) (letters_sorted _) (fun l h => (letters_lt h).1) (fun q l => [goB a b q l]) 146 _
      hnext.out [J] (by simp) (fun n hn => by rw [List.mem_singleton] at hn; have := hJM'.out; omega) (by simp) _ u hIo (own_base hlet (Nat.zero_le _)) (by omega)).mono ?_
    rintro e w6 ⟨o, rfl, hp, hb6⟩
    exact ⟨_, rfl, hb6, o, rfl, hfin.out o hp⟩
  obtain ⟨w6', -, o, rfl, hout⟩ := hu2
  obtain ⟨Sv, Fv, hpv⟩ : ∃ Sv Fv, pathV o = .tuple #[.string Sv, .bool Fv] := ⟨_, _, rfl⟩
  rw [hpv]
  have hpv' := hid hpv
  replace hout := hid hout
  clear hpv
  simp only [Act.put, List.setIfInBounds_toArray, List.set_cons_zero, List.set_cons_succ]
  (repeat (refine grow_quiet (by rfl) (by rfl) (by rfl) ?_; intro K hK; go_big_quiet_op; go_big_quiet_on))
  refine grow_nil ?_
  intro w7 hb7 hf
  clear hf y0 y1 y2 y3
  have hB7 := hbw4.trans (hb7.mono hbw4.size)
  go_wp2_with fail
  go_ret2
  exact ⟨o, by rw [hpv'.out]; rfl, by rw [← hJ.out]; exact hout.out, hB7⟩

end Go.Proofs.YtdkjnemakkppfaaGreatDoor
