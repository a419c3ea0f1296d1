/- Lemmas, part 5: several texts in one. -/
import Derived.Test.YtjhlbeamfngebaaDoorX3
import Derived.Test.YtjhlbeamfngebaaDoorX1
import Derived.Test.YtjhlbeamfngebaaDoorX4
import Derived.Test.YtjhlbeamfngebaaDoorX2
set_option linter.unusedSimpArgs false
set_option linter.unusedVariables false

/- Plain: how many words an automaton accepts. -/
namespace Go.Proofs.YtjhlbeamfngebaaDoor
open AG

theorem runA_lt {a : Au} (h : auOk a = true) : ∀ r : List Nat, runA a 0 r < a.nx.length
  | [] => by have := ((auOk_iff a).1 h).2.1; show 0 < _; omega
  | l :: r => goA_lt h (runA_lt h r)
end Go.Proofs.YtjhlbeamfngebaaDoor

/- Plain: an automaton of sets is trimmed as it stands, and its state that does not accept leads nowhere else. -/
namespace Go.Proofs.YtjhlbeamfngebaaDoor
open AG

/-- What trimming makes of an automaton. -/
noncomputable def trimOpt (a : Au) : Option (List Nat × List (List Nat)) := numRes (goA a) (letters a.al) 0 a.nx.length
noncomputable def trimA (a : Au) : Au := match trimOpt a with
  | some x => ⟨a.al, toRows x.2, x.1.map fun q => a.ac.getD q false⟩
  | none => ⟨a.al, [], []⟩

theorem numRes_small {nx : Nat → Nat → Nat} {L : List Nat} {n0 lim : Nat} {x : List Nat × List (List Nat)} (h : numRes nx L n0 lim = some x) : numRes nx L n0 x.1.length = some x := by
  obtain ⟨h1, h2, -⟩ := numRes_spec h
  have hle := (numRes_len h).1
  have e : nsAt nx L n0 x.1.length = x.1 := by
    rcases Nat.lt_or_ge x.1.length (nsAt nx L n0 x.1.length).length with hl | hl
    · obtain ⟨m, hm⟩ := nsAt_pre nx L n0 x.1.length (lim - x.1.length)
      rw [show x.1.length + (lim - x.1.length) = lim from by omega, ← h1] at hm
      have := congrArg List.length hm
      rw [List.length_append] at this
      omega
    · have := nsAt_stop hl (lim - x.1.length)
      rw [show x.1.length + (lim - x.1.length) = lim from by omega, ← h1] at this
      exact this.symm
  unfold numRes
  rw [e, if_pos (Nat.le_refl _), ← h2]

end Go.Proofs.YtjhlbeamfngebaaDoor

/- The program's search: firstPath. -/
namespace Go.Proofs.YtjhlbeamfngebaaDoor
open Go.RowKit Go.BigFrame AG

/-- The steps of a search, as a function value: it appends to a list the nodes to which a letter leads. -/
structure NextOk (w : World) (size : Nat) (L : List Nat) (nx : Nat → Nat → List Nat) (fN : FuncId) (capN : Array Value) : Prop where
  run : ∀ args w', (callFunc fN args).run Tryd.prog w' = .ok (.enter fN args) w'
  lt : ∀ q, q < size → ∀ l ∈ L, ∀ n ∈ nx q l, n < size
  len : ∀ q, q < size → ∀ l ∈ L, (nx q l).length ≤ 4096
  call : ∀ w' (q l : Nat) (v : Value) (ns : List Nat) (base : Nat), Below w.heap.size w w' → q < size → l ∈ L → ns.length ≤ 4294967296 → w.heap.size ≤ base → base ≤ w'.heap.size → w'.ownsRow base 3 1 v ns.length (natVals ns) →
    Calls Tryd.prog fN (#[.int .i64 (q : Nat), .int .i64 (l : Nat), v] ++ capN) w' fun e w'' => ∃ v', e = .returned v' ∧ w''.ownsRow base 3 1 v' (ns ++ nx q l).length (natVals (ns ++ nx q l)) ∧ KeepB (fun b => v.ownBlock = some b) w' w''

theorem infoBoolF : (Tryd.prog.info? 4).map (fun i => (i.zero, i.size, i.bytes)) = some (some (.bool false), 1, 1) := by kernel_rfl

/-- The search in memory and as plain lists. -/
def SrchAt (w : World) (size : Nat) (G : Nat → Bool) (L : List Nat) (nx : Nat → Nat → List Nat) (I0 : List Nat) (gv : Value) (bS bG bP gS : Nat) (wr : World) (i k : Nat) (sv : Value) (ss : List StV) (ws : List (List Nat)) (S : Nat → Bool) : Prop :=
  FPst w wr size gv bS bG bP gS sv ss S ∧ SB (fun n => n ∈ I0) L nx G size (ss.map (·.st)) ws S i k

theorem PathOk.of {I : Nat → Prop} {L : List Nat} {nx : Nat → Nat → List Nat} {G : Nat → Prop} {ss : List StV} {ws : List (List Nat)} {i k : Nat} (h : Bfs I L nx G (ss.map (·.st)) ws i k) (hL6 : ∀ l ∈ L, l < 6) : PathOk ss ws := by
  refine ⟨by rw [h.len]; simp, h.zero, fun h0 => ?_, fun j hj hj' h0 => ?_⟩
  · have := h.root (by simpa using h0)
    simpa using this
  · obtain ⟨p, q, hpj, _, h1, hp, hq, h2, hw⟩ := h.link j (by simpa using hj) hj' h0
    simp only [List.getElem_map] at h1 h2
    exact ⟨p, hpj, h1, by rw [h2]; exact hL6 _ (List.getElem_mem _), hp, by rw [hw, h2]⟩
theorem PathOk.add {ss : List StV} {ws : List (List Nat)} (h : PathOk ss ws) {i l : Nat} (hi : i < ws.length) (hl : l < 6) (x : StV) (hx : x.st.par = (i : Int)) (hx' : x.st.let_ = l) : PathOk (ss ++ [x]) (ws ++ [l :: ws[i]]) := by
  have hlen := h.len
  have hpos : 0 < ws.length := by omega
  refine ⟨by simp [hlen], fun h0 => ?_, fun h0 => ?_, fun j hj hj' h0 => ?_⟩
  · rw [List.getElem_append_left hpos]; exact h.zero hpos
  · rw [List.getElem_append_left (by omega)]; exact h.root (by omega)
  · by_cases e : j < ws.length
    · obtain ⟨p, hpj, h1, h2, hp, hw⟩ := h.link j (by omega) e h0
      refine ⟨p, hpj, ?_, ?_, by simp; omega, ?_⟩
      · rw [List.getElem_append_left (by omega)]; exact h1
      · rw [List.getElem_append_left (by omega)]; exact h2
      · rw [List.getElem_append_left e, List.getElem_append_left hp, List.getElem_append_left (by omega)]; exact hw
    · obtain rfl : j = ws.length := by simp at hj'; omega
      refine ⟨i, hi, ?_, ?_, by simp; omega, ?_⟩
      · simp [hlen, hx]
      · simp [hlen, hx', hl]
      · rw [List.getElem_append_left hi]
        simp [hlen, hx']

theorem FPst.later {w w1 w2 : World} {size : Nat} {gv : Value} {bS bG bP gS : Nat} {sv : Value} {ss : List StV} {S : Nat → Bool} (h : FPst w w1 size gv bS bG bP gS sv ss S) (hb : Below w1.heap.size w1 w2) : FPst w w2 size gv bS bG bP gS sv ss S := by
  obtain ⟨cs, hc, hs⟩ := h.seen
  have hk : KeepB (fun b => b = gS) w1 w2 := .of_below hb
  exact h.keep hk (hc.below hb hc.lt) hs

theorem reachedL_len {nx : Nat → Nat → List Nat} {l size : Nat} : ∀ {ns : List Nat}, (∀ q ∈ ns, (nx q l).length ≤ 4096) → (reachedL nx l ns).length ≤ ns.length * 4096
  | [], _ => by simp [reachedL]
  | q :: ns, h => by
    have h1 := h q List.mem_cons_self
    have h2 := reachedL_len (size := size) (ns := ns) fun x hx => h x (List.mem_cons_of_mem _ hx)
    unfold reachedL at h2 ⊢
    rw [List.flatMap_cons, List.length_append, List.length_cons]
    omega

/-- What the search hands back: the first word to a goal, or none. -/
def PathPost (I : Nat → Prop) (L : List Nat) (nx : Nat → Nat → List Nat) (G : Nat → Prop) (o : Option (List Nat)) : Prop :=
  match o with
  | some r => FirstW I L nx G r
  | none => ∀ q n, RW I L nx q n → ¬ G n
def pathV (o : Option (List Nat)) : Value := .tuple #[.string (match o with | some r => wordS r | none => ⟨#[]⟩), .bool o.isSome]

theorem seen_start (size : Nat) : SeenAt (madeCells #[.bool false] size) size (fun _ => false) := by
  refine ⟨by simp [madeCells], fun n hn => ?_⟩
  have h1 := toList_madeCells_one (Value.bool false) size
  rw [← Array.getElem?_toList, h1, List.getElem?_replicate, if_pos hn]

theorem fp_start (w : World) (size : Nat) (gv : Value) :
    ∃ w4, (((w.alloc (Obj.cells #[gv] 102)).alloc (Obj.cells (madeCells #[Value.bool false] size) 4)).alloc (Obj.cells #[Value.slice (some ⟨w.heap.size + 1, 0, none⟩) size size] 24)).alloc (Obj.cells #[Value.slice none 0 0] 151) = w4 ∧
      Below w.heap.size w w4 ∧ FPst w w4 size gv (w.heap.size + 1 + 1) w.heap.size (w.heap.size + 1 + 1 + 1) (w.heap.size + 1) (.slice none 0 0) [] (fun _ => false) := by
  refine ⟨_, rfl, by (repeat (first | exact Below.refl _ _ | assumption | refine Below.drew ?_ | refine Below.alloc ?_ (by first | omega | (simp; done) | (simp; omega)) _ | refine Below.setCell ?_ (by first | omega | (simp; done) | (simp; omega)) _)), by (repeat (first | exact Below.refl _ _ | assumption | refine Below.drew ?_ | refine Below.alloc ?_ (by first | omega | (simp; done) | (simp; omega)) _ | refine Below.setCell ?_ (by first | omega | (simp; done) | (simp; omega)) _)), ?_, ?_, ?_, ⟨_, ?_, seen_start size⟩, by omega, by omega, World.ownsRow_nil _ _ _ _, fun x hx => by cases hx⟩
  · have := (Blk.new ((w.alloc (Obj.cells #[gv] 102)).alloc (Obj.cells (madeCells #[Value.bool false] size) 4)) 24 #[Value.slice (some ⟨w.heap.size + 1, 0, none⟩) size size]).alloc (Obj.cells #[Value.slice none 0 0] 151)
    simpa using this
  · exact ((Blk.new w 102 #[gv]).alloc _).alloc _ |>.alloc _
  · have := Blk.new (((w.alloc (Obj.cells #[gv] 102)).alloc (Obj.cells (madeCells #[Value.bool false] size) 4)).alloc (Obj.cells #[Value.slice (some ⟨w.heap.size + 1, 0, none⟩) size size] 24)) 151 #[Value.slice none 0 0]
    simpa using this
  · have := ((Blk.new (w.alloc (Obj.cells #[gv] 102)) 4 (madeCells #[Value.bool false] size)).alloc (Obj.cells #[Value.slice (some ⟨w.heap.size + 1, 0, none⟩) size size] 24)).alloc (Obj.cells #[Value.slice none 0 0] 151)
    simpa using this

set_option maxRecDepth 100000 in
set_option maxHeartbeats 8000000 in
theorem firstPath_any (w : World) (size : Nat) (G : Nat → Bool) (fG : FuncId) (capG : Array Value) (hG : GoalOk w size G fG capG) (L : List Nat) (hL : L.Pairwise (· < ·)) (hL6 : ∀ l ∈ L, l < 6) (nx : Nat → Nat → List Nat) (fN : FuncId) (capN : Array Value) (hN : NextOk w size L nx fN capN)
    (I0 : List Nat) (h0 : I0 ≠ []) (hI : ∀ n ∈ I0, n < size) (hIl : I0.length ≤ 4294967296) (sv lv : Value) (hsv : w.ownsRow 0 3 1 sv I0.length (natVals I0)) (hlv : w.ownsRow 0 3 1 lv L.length (natVals L)) (hsz : size ≤ 1048576) :
    Calls Tryd.prog 82 #[.int .i64 (size : Nat), sv, lv, .func (.func fN) #[] capN, .func (.func fG) #[] capG] w fun e w' => ∃ o, e = .returned (pathV o) ∧ PathPost (fun n => n ∈ I0) L nx (fun n => G n = true) o ∧ Below w.heap.size w w' := by
  obtain ⟨i0, hi, hz0, hz1, hz2⟩ := info_parts infoBoolF
  have hmk := fun W => run_make_rowN (P := Tryd.prog) 24 4 i0 _ Tryd.underlying24 hi hz0 .i64 .i64 size size (Nat.le_refl _) (by rw [hz2]; omega) (by omega) W
  obtain ⟨lA, lc, rfl, hlc, hlc'⟩ := own_slice hlv
  have hLlen : L.length ≤ 6 := by
    have := nodup_bound 6 L (hL.imp fun h => Nat.ne_of_lt h) hL6
    exact this
  replace hsv := hid hsv
  replace hlv := hid hlv
  replace hI := hid hI
  go_enter Tryd.func82, Tryd.ntmps82
  go_wp2_with fail
  obtain ⟨w4, hw4, hb4, hst4⟩ := fp_start w size (.func (.func fG) #[] capG)
  rw [hw4]
  have hz4 : w.heap.size + 1 + 1 + 1 < w4.heap.size := by rw [← hw4]; simp
  clear hw4 hmk
  generalize hbS : w.heap.size + 1 + 1 = bS at *
  generalize hbP : bS + 1 = bP at *
  generalize hgS : w.heap.size + 1 = gS at *
  replace hbS := hid hbS
  replace hbP := hid hbP
  replace hgS := hid hgS
  clear hz4
  have hz4 := hb4.size
  have hsv4 := hid (own_keep hsv.out (.of_below (K := fun _ => False) hb4) fun _ _ h => h)
  replace hst4 := hid hst4
  refine (visit_any w size G fG capG hG bS w.heap.size bP gS (.slice none 0 0) [] (fun _ => false) (-1) 0 sv I0 w4 hst4.out hsv4.out hI.out hIl (by simp)).mono ?_
  rintro e w5 ⟨rfl, sv5, ss5, hst5, hss5, hkp5⟩
  have hb5 : Below w.heap.size w w5 := hst5.below
  obtain ⟨fr0, hfr0⟩ : ∃ fr, fr = frs (fun _ => false) I0 := ⟨_, rfl⟩
  rw [← hfr0] at hst5 hss5 ⊢
  have hf0ne : fr0 ≠ [] := by
    intro e
    obtain ⟨a, ha⟩ := List.exists_mem_of_ne_nil _ h0
    have := (frs_mem (fun _ => false) I0 a).2 ⟨ha, rfl⟩
    rw [← hfr0, e] at this
    cases this
  cases hg0 : fr0.any G
  · obtain ⟨A0, c0, rfl⟩ : ∃ A c, ss5 = [⟨⟨-1, 0, fr0⟩, A, c⟩] := by
      rcases hss5 with ⟨e, _⟩ | ⟨_, A, c, e⟩
      · exact absurd e hf0ne
      · exact ⟨A, c, by simpa using e⟩
    have hSB0 : Hid (SB (fun n => n ∈ I0) L nx G size [⟨-1, 0, fr0⟩] [[]] (fun n => fr0.contains n) 0 0) := hid (by
      rw [hfr0]
      exact SB.begin h0 hI.out (by rw [← hfr0]; exact hg0))
    have hst5' : Hid (FPst w w5 size (.func (.func fG) #[] capG) bS w.heap.size bP gS sv5 [⟨⟨-1, 0, fr0⟩, A0, c0⟩] (fun n => fr0.contains n)) := hid (by simpa using hst5)
    replace hfr0 := hid hfr0
    replace hss5 := hid hss5
    replace hst5 := hid hst5
    replace hf0ne := hid hf0ne
    replace h0 := hid h0
    replace hg0 := hid hg0
    replace hkp5 := hid hkp5
    go_wp2_with (rw [hg0.out])
    go_loopw [15] (fun iv wr => ∃ (i : Nat) (sv : Value) (ss : List StV) (ws : List (List Nat)) (S : Nat → Bool), iv = .int .i64 i ∧ i ≤ ss.length ∧ SrchAt w size G L nx I0 (.func (.func fG) #[] capG) bS w.heap.size bP gS wr i 0 sv ss ws S) (fun iv _ => size + 1 - (intOf iv).toNat)
    case atStart => exact ⟨0, sv5, _, _, _, rfl, by simp, hst5'.out, hSB0.out⟩
    case round =>
      obtain ⟨i, sv, ss, ws, S, rfl, hi, hst, hSB⟩ := hrel
      have hbd := hSB.bound
      have hpos := hSB.bfs.pos
      have hwl := hSB.bfs.len
      simp only [List.length_map] at hbd hpos hwl
      have p0 := hst.blkP.cell 0
      simp only [List.getElem?_toArray, List.getElem?_cons_zero] at p0
      obtain ⟨gv, cv, rfl, hgv, hgv', hcv, hcv', hcell⟩ := own_steps hst.own hpos
      replace hst := hid hst
      replace hSB := hid hSB
      replace hcell := hid hcell
      by_cases hlt : i < ss.length
      · go_wp2_with fail
        go_loopw [35] (fun kv wr => ∃ (k : Nat) (sv : Value) (ss : List StV) (ws : List (List Nat)) (S : Nat → Bool), kv = .int .i64 k ∧ k ≤ L.length ∧ i < ss.length ∧ SrchAt w size G L nx I0 (.func (.func fG) #[] capG) bS w.heap.size bP gS wr i k sv ss ws S) (fun kv _ => L.length - (intOf kv).toNat)
        case atStart => exact ⟨0, _, _, _, _, rfl, by omega, hlt, hst.out, hSB.out⟩
        case round =>
          clear hcell hst hSB p0 hgv hgv' hcv hcv' hbd hpos hwl
          obtain ⟨k, sv, ss, ws, S, rfl, hk, hi', hst, hSB⟩ := hrel
          have hbd := hSB.bound
          have hpos := hSB.bfs.pos
          have hwl := hSB.bfs.len
          simp only [List.length_map] at hbd hpos hwl
          by_cases hkl : k < L.length
          · have hlw := own_keep hlv.out (.of_below (K := fun _ => False) hst.below) fun _ _ h => h
            obtain ⟨gl, cl, hve, -, -, -, -, hlcell⟩ := own_shape hlw (by omega)
            injection hve with hv1 hv2 hv3
            subst hv1
            subst hv3
            have l0 := hlcell k _ (show (natVals L)[k]? = some (.int .i64 (L[k] : Nat)) from by unfold natVals; simp [hkl])
            have hlL : L[k] ∈ L := List.getElem_mem hkl
            obtain ⟨l, hll⟩ : ∃ l, l = L[k] := ⟨_, rfl⟩
            rw [← hll] at l0 hlL
            have p0 := hst.blkP.cell 0
            simp only [List.getElem?_toArray, List.getElem?_cons_zero] at p0
            obtain ⟨gv, cv, rfl, hgv, hgv', hcv, hcv', hcell⟩ := own_steps hst.own hpos
            obtain ⟨-, -, c2⟩ := hcell i hi'
            have hnodes := hst.nodes ss[i] (List.getElem_mem hi')
            have hnsz : ss[i].st.nodes.length ≤ size := hSB.nodesLen (x := ss[i].st) (List.mem_map.2 ⟨_, List.getElem_mem hi', rfl⟩)
            have hnlt : ∀ n ∈ ss[i].st.nodes, n < size := hSB.small ss[i].st (List.mem_map.2 ⟨_, List.getElem_mem hi', rfl⟩)
            obtain ⟨ns, hnse⟩ : ∃ ns, ns = ss[i].st.nodes := ⟨_, rfl⟩
            obtain ⟨nA, hnA⟩ : ∃ nA, nA = ss[i].A := ⟨_, rfl⟩
            obtain ⟨nc, hnc⟩ : ∃ nc, nc = ss[i].c := ⟨_, rfl⟩
            rw [← hnse, ← hnA, ← hnc] at c2 hnodes
            rw [← hnse] at hnsz hnlt
            replace hll := hid hll
            replace hnse := hid hnse
            replace hnA := hid hnA
            replace hnc := hid hnc
            replace hst := hid hst
            replace hSB := hid hSB
            replace hcell := hid hcell
            replace hlcell := hid hlcell
            replace hlw := hid hlw
            replace hnodes := hid hnodes
            replace hnlt := hid hnlt
            have i1 : (0 : Int) ≤ (i : Int) := by omega
            have i2 : (i : Int) < (ss.length : Int) := by omega
            have hrun := hN.run
            obtain ⟨wo, rfl⟩ : ∃ wo : World, wo = wr := ⟨_, rfl⟩
            go_wp2_with fail
            go_loopw [18, 45] (fun rv jv wr2 => ∃ j : Nat, jv = .int .i64 j ∧ j ≤ ns.length ∧ wr2.ownsRow wo.heap.size 3 1 rv (reachedL nx l (ns.take j)).length (natVals (reachedL nx l (ns.take j))) ∧ Below wo.heap.size wo wr2) (fun _ jv _ => ns.length - (intOf jv).toNat)
            case atStart => exact ⟨0, rfl, by omega, World.ownsRow_nil _ _ _ _, Below.refl _ _⟩
            case round =>
              obtain ⟨j, rfl, hj, hown, hbo⟩ := hrel
              by_cases hjl : j < ns.length
              · have hnr := own_keep hnodes.out (.of_below (K := fun _ => False) hbo) fun _ _ h => h
                obtain ⟨gn, cn, hve, -, -, -, -, hncell⟩ := own_shape hnr (by omega)
                injection hve with hv1 hv2 hv3
                subst hv1
                subst hv3
                have n0 := hncell j _ (show (natVals ns)[j]? = some (.int .i64 (ns[j] : Nat)) from by unfold natVals; simp [hjl])
                have hql := hnlt.out ns[j] (List.getElem_mem hjl)
                have htk := reachedL_snoc (nx := nx) l (ns.take j) ns[j]
                rw [← List.take_succ_eq_append_getElem hjl] at htk
                obtain ⟨q, hq⟩ : ∃ q, q = ns[j] := ⟨_, rfl⟩
                rw [← hq] at n0 hql htk
                have hrl : (reachedL nx l (ns.take j)).length ≤ 4294967296 := by
                  refine Nat.le_trans (reachedL_len (size := size) fun x hx => hN.len x (hnlt.out x (List.mem_of_mem_take hx)) l hlL) ?_
                  have : (ns.take j).length ≤ 1048576 := by simp; omega
                  omega
                have hbw := hst.out.below.trans (hbo.mono hst.out.below.size)
                have hz1 := hst.out.below.size
                have hz2 := hbo.size
                replace hnr := hid hnr
                replace hncell := hid hncell
                replace hq := hid hq
                replace htk := hid htk
                replace hown := hid hown
                replace hrl := hid hrl
                go_wp2_with fail
                refine (hN.call _ q l _ _ wo.heap.size hbw hql hlL hrl.out hz1 hz2 hown.out).mono ?_
                rintro e w6 ⟨v6, rfl, hown6, hkp6⟩
                have hb6 : Hid (Below wo.heap.size wo w6) := hid (hkp6.below hbo hz2 fun b hb => own_block hown.out b hb)
                replace hown6 := hid hown6
                replace hkp6 := hid hkp6
                go_wp2_with fail
                go_roundw
                case rel => exact ⟨j + 1, by go_num, by omega, by rw [htk.out]; exact hown6.out, hb6.out⟩
                case measure => simp [intOf]; omega
              · have htk : ns.take j = ns := List.take_of_length_le (by omega)
                rw [htk] at hown
                have hbw := hst.out.below.trans (hbo.mono hst.out.below.size)
                have hst2 := hid (hst.out.later hbo)
                obtain ⟨R, hR⟩ : ∃ R, R = reachedL nx l ns := ⟨_, rfl⟩
                rw [← hR] at hown
                have hRl : R.length ≤ 4294967296 := by
                  rw [hR]
                  refine Nat.le_trans (reachedL_len (size := size) fun x hx => hN.len x (hnlt.out x hx) l hlL) ?_
                  omega
                have hRs : Hid (∀ n ∈ R, n < size) := hid fun n hn => by
                  rw [hR] at hn
                  obtain ⟨q, hq, hnq⟩ := reachedL_mem.1 hn
                  exact hN.lt q (hnlt.out q hq) l hlL n hnq
                replace htk := hid htk
                replace hR := hid hR
                have hown0 := hid (own_base hown (Nat.zero_le _))
                replace hown := hid hown
                go_wp2_with fail
                refine (visit_any w size G fG capG hG bS w.heap.size bP gS _ ss S (i : Int) l _ R wr hst2.out hown0.out hRs.out hRl (by omega)).mono ?_
                rintro e w7 ⟨rfl, sv7, ss7, hst7, hss7, hkp7⟩
                have hwi : i < ws.length := by omega
                obtain ⟨fr, hfr⟩ : ∃ fr, fr = frs S R := ⟨_, rfl⟩
                rw [← hfr] at hst7 hss7 ⊢
                have hil : i < (ss.map (fun x : StV => x.st)).length := by simpa using hi'
                have hfr' : Hid (fr = frs S (reachedL nx (L[k]'hkl) ((ss.map (fun x : StV => x.st))[i]'hil).nodes)) := hid (by
                  rw [hfr, hR.out, hnse.out, hll.out, List.getElem_map])
                replace hil := hid hil
                replace hfr := hid hfr
                replace hkp7 := hid hkp7
                cases hg : fr.any G
                · have hnx : Hid (∃ ws' , SrchAt w size G L nx I0 (.func (.func fG) #[] capG) bS w.heap.size bP gS w7 i (k + 1) sv7 ss7 ws' (fun n => S n || fr.contains n) ∧ i < ss7.length) := hid (by
                    rcases hss7 with ⟨e, rfl⟩ | ⟨hne, A7, c7, rfl⟩
                    · refine ⟨ws, ⟨hst7, ?_⟩, hi'⟩
                      have := hSB.out.old hL hil.out hkl (by rw [← hfr'.out]; exact e)
                      have hS : (fun n => S n || fr.contains n) = S := by funext n; rw [e]; simp
                      rw [hS]
                      exact this
                    · have := hSB.out.add hL hil.out hwi hkl (fun q hq n hn => hN.lt q hq _ (List.getElem_mem hkl) n hn) hfr'.out hne hg
                      refine ⟨ws ++ [l :: ws[i]], ⟨hst7, ?_⟩, by simp; omega⟩
                      rw [List.map_append, hll.out]
                      exact this)
                  replace hst7 := hid hst7
                  replace hss7 := hid hss7
                  replace hg := hid hg
                  go_wp2_with (rw [hg.out])
                  go_roundw
                  case rel =>
                    obtain ⟨ws', h1, h2⟩ := hnx.out
                    exact ⟨k + 1, sv7, ss7, ws', _, by go_num, by omega, h2, h1⟩
                  case measure => simp [intOf]; omega
                · have hF := hid (hSB.out.found hL hil.out hwi hkl (by rw [← hfr'.out]; exact hg))
                  obtain ⟨A7, c7, rfl⟩ : ∃ A c, ss7 = ss ++ [⟨⟨i, l, fr⟩, A, c⟩] := by
                    rcases hss7 with ⟨e, _⟩ | ⟨_, A, c, e⟩
                    · rw [e] at hg; cases hg
                    · exact ⟨A, c, e⟩
                  have hpath := hid (PathOk.add (PathOk.of hSB.out.bfs hL6) hwi (hL6 l hlL) ⟨⟨i, l, fr⟩, A7, c7⟩ rfl rfl)
                  obtain ⟨n, hn⟩ : ∃ n, ss.length = n + 1 := ⟨ss.length - 1, by omega⟩
                  have p7 := hst7.blkP.cell 0
                  simp only [List.getElem?_toArray, List.getElem?_cons_zero] at p7
                  obtain ⟨g7, d7, rfl, hg7, hg7', hd7, hd7', hcell7⟩ := own_steps hst7.own (by simp)
                  have hb7 := hst7.below
                  have hlast : Hid ((ws ++ [l :: ws[i]])[n + 1]'(by simp; omega) = l :: ws[i]) := hid (by
                    have : n + 1 = ws.length := by omega
                    simp [this])
                  have hword : Hid (L[k] :: ws[i] = l :: ws[i]) := hid (by rw [hll.out])
                  replace hst7 := hid hst7
                  replace hss7 := hid hss7
                  replace hg := hid hg
                  have hn' := hid (show (ss ++ [(⟨⟨i, l, fr⟩, A7, c7⟩ : StV)]).length = n + 2 by simp; omega)
                  have hc7 := hid (show ∀ j (hj : j < (ss ++ [(⟨⟨i, l, fr⟩, A7, c7⟩ : StV)]).length), w7.cell? ⟨g7, j * 3, none⟩ = some (.int .i64 (ss ++ [(⟨⟨i, l, fr⟩, A7, c7⟩ : StV)])[j].st.par) ∧ w7.cell? ⟨g7, j * 3 + 1, none⟩ = some (.int .i64 ((ss ++ [(⟨⟨i, l, fr⟩, A7, c7⟩ : StV)])[j].st.let_ : Nat)) from fun j hj => ⟨(hcell7 j hj).1, (hcell7 j hj).2.1⟩)
                  have hls := hid (show (ss ++ [(⟨⟨i, l, fr⟩, A7, c7⟩ : StV)]).length ≤ 4294967296 by simp; omega)
                  have hwl' := hid (show n + 1 < (ws ++ [l :: ws[i]]).length by simp; omega)
                  replace hcell7 := hid hcell7
                  replace hn := hid hn
                  replace hd7 := hid hd7
                  go_wp2_with (rw [hg.out])
                  refine (pathWord_any (ss ++ [⟨⟨i, l, fr⟩, A7, c7⟩]) (ws ++ [l :: ws[i]]) g7 d7 n _ w7 hn'.out hn'.out hls.out hpath.out hwl'.out hd7.out hd7' hg7' hc7.out).mono ?_
                  rintro e w8 ⟨he, hb8⟩
                  rw [hlast.out] at he
                  subst he
                  have hb9 := hb7.trans (hb8.mono hb7.size)
                  go_wp2_with fail
                  go_ret2
                  exact ⟨some (l :: ws[i]), rfl, by rw [← hword.out]; exact hF.out, hb9⟩
          · have hov := hid (show SrchAt w size G L nx I0 (.func (.func fG) #[] capG) bS w.heap.size bP gS wr (i + 1) 0 sv ss ws S from ⟨hst, hSB.over (by omega)⟩)
            replace hst := hid hst
            replace hSB := hid hSB
            go_wp2_with fail
            go_roundw
            case rel => exact ⟨i + 1, sv, ss, ws, S, by go_num, by omega, hov.out⟩
            case measure => simp [intOf]; omega
      · have hN := hid (show ∀ q n, RW (fun n => n ∈ I0) L nx q n → ¬ G n = true from by
          have := hSB.out
          obtain rfl : i = (ss.map (·.st)).length := by simp; omega
          exact this.none)
        have hbf := hst.out.below
        go_wp2
        go_ret2
        exact ⟨none, rfl, hN.out, hbf⟩
  · have hfin := hid (first_now (L := L) (nx := nx) (G := G) (I0 := I0) (by rw [← hfr0]; exact hg0))
    replace hfr0 := hid hfr0
    replace hss5 := hid hss5
    replace hst5 := hid hst5
    replace hf0ne := hid hf0ne
    replace h0 := hid h0
    replace hkp5 := hid hkp5
    go_wp2_with fail
    go_ret2
    exact ⟨some [], rfl, hfin.out, hb5⟩

end Go.Proofs.YtjhlbeamfngebaaDoor

/- Plain: the search through two automata of sets finds the first trace outside. -/
namespace Go.Proofs.YtjhlbeamfngebaaDoor
open AG

/-- A step of two automata, their states as one number. -/
def goB (a b : Au) (q l : Nat) : Nat := goA a (q / b.nx.length) l * b.nx.length + goA b (q % b.nx.length) l
theorem pair_div {n p q : Nat} (h : p < n) : (q * n + p) / n = q ∧ (q * n + p) % n = p := by
  rw [Nat.mul_comm]
  constructor
  · rw [Nat.mul_add_div (by omega), Nat.div_eq_of_lt h, Nat.add_zero]
  · rw [Nat.mul_add_mod, Nat.mod_eq_of_lt h]
theorem RW_both {a b : Au} (hb : auOk b = true) {L : List Nat} : ∀ (r : List Nat) (m : Nat), RW (fun m => m ∈ [0]) L (fun q l => [goB a b q l]) r m ↔ (∀ l ∈ r, l ∈ L) ∧ m = runA a 0 r * b.nx.length + runA b 0 r
  | [], m => by
    show m ∈ [0] ↔ _
    simp [runA]
  | l :: r, m => by
    show (l ∈ L ∧ ∃ k, RW (fun m => m ∈ [0]) L (fun q l => [goB a b q l]) r k ∧ m ∈ [goB a b k l]) ↔ _
    have hlt := runA_lt hb r
    obtain ⟨e1, e2⟩ := pair_div (q := runA a 0 r) hlt
    constructor
    · rintro ⟨hl, k, hk, hm⟩
      obtain ⟨h1, h2⟩ := (RW_both hb r k).1 hk
      refine ⟨fun x hx => ?_, ?_⟩
      · rcases List.mem_cons.1 hx with rfl | hx
        · exact hl
        · exact h1 x hx
      · rw [List.mem_singleton.1 hm, h2]
        unfold goB
        rw [e1, e2]
        rfl
    · rintro ⟨h1, h2⟩
      refine ⟨h1 l List.mem_cons_self, _, (RW_both hb r _).2 ⟨fun x hx => h1 x (List.mem_cons_of_mem _ hx), rfl⟩, ?_⟩
      rw [h2]
      unfold goB
      rw [e1, e2]
      exact List.mem_singleton.2 rfl
end Go.Proofs.YtjhlbeamfngebaaDoor

/- Plain: the system of an automaton: its accepting states, and the letters that lead from one to another. -/
namespace Go.Proofs.YtjhlbeamfngebaaDoor
open AG

theorem letters_len6 (A : Int) : (letters A).length ≤ 6 := lettersTo_len A 6
theorem row_at {a : Au} (h : auOk a = true) {q : Nat} (hq : q < a.nx.length) : a.nx.getD q [] = a.nx[q] ∧ (a.nx[q]).length = (letters a.al).length ∧ ∀ t ∈ a.nx[q], 0 ≤ t ∧ t < (a.nx.length : Int) := by
  obtain ⟨_, _, _, _, h5⟩ := (auOk_iff a).1 h
  have := h5 _ (List.getElem_mem hq)
  exact ⟨by rw [List.getD_eq_getElem?_getD, List.getElem?_eq_getElem hq]; rfl, this.1, this.2⟩
theorem goA_at {a : Au} (h : auOk a = true) {q i : Nat} (hq : q < a.nx.length) (hi : i < (letters a.al).length) (hi' : i < (a.nx[q]).length) : ((goA a q (letters a.al)[i] : Nat) : Int) = (a.nx[q])[i] := by
  obtain ⟨e1, e2, e3⟩ := row_at h hq
  have hnd : (letters a.al).Nodup := (letters_sorted a.al).imp fun h => by omega
  have hidx : (letters a.al).idxOf (letters a.al)[i] = i := hnd.idxOf_getElem i hi
  unfold goA
  rw [if_pos (List.getElem_mem hi), hidx, e1, List.getD_eq_getElem?_getD, List.getElem?_eq_getElem hi']
  have := (e3 _ (List.getElem_mem hi')).1
  show (((a.nx[q])[i].toNat : Nat) : Int) = _
  omega
end Go.Proofs.YtjhlbeamfngebaaDoor

/- Plain: lists numbered by first occurrence; a numbering of nodes under a map that may join nodes. -/
namespace AG


theorem snoc_ind {α : Type} {P : List α → Prop} (h0 : P []) (h1 : ∀ l x, P l → P (l ++ [x])) (l : List α) : P l := by
  have : ∀ n, ∀ l : List α, l.length = n → P l := by
    intro n
    induction n with
    | zero => intro l hl; rw [List.eq_nil_of_length_eq_zero hl]; exact h0
    | succ n ih =>
      intro l hl
      have hne : l ≠ [] := fun e => by rw [e] at hl; simp at hl
      rw [← List.dropLast_concat_getLast hne]
      exact h1 _ _ (ih _ (by rw [List.length_dropLast]; omega))
  exact this _ l rfl

section
variable {α β : Type} [DecidableEq α] [DecidableEq β]
def addD (ns : List α) (x : α) : List α := if x ∈ ns then ns else ns ++ [x]
/-- Without repeats, in the order of first occurrence. -/
def dd (ks : List α) : List α := ks.foldl addD []
def numb (ks : List α) : List Nat := ks.map fun k => (dd ks).idxOf k
theorem dd_nil : dd ([] : List α) = [] := rfl
theorem dd_snoc (ks : List α) (k : α) : dd (ks ++ [k]) = addD (dd ks) k := by unfold dd; rw [List.foldl_append]; rfl
theorem addD_old {ns : List α} {x : α} (h : x ∈ ns) : addD ns x = ns := if_pos h
theorem addD_new {ns : List α} {x : α} (h : x ∉ ns) : addD ns x = ns ++ [x] := if_neg h
theorem addD_mem {ns : List α} {x y : α} : y ∈ addD ns x ↔ y ∈ ns ∨ y = x := by
  unfold addD
  split
  · rename_i h
    exact ⟨.inl, fun h2 => h2.elim id fun e => e ▸ h⟩
  · rw [List.mem_append, List.mem_singleton]
theorem addD_pre (ns : List α) (x : α) : ∃ m, addD ns x = ns ++ m := by
  unfold addD
  split
  · exact ⟨[], by simp⟩
  · exact ⟨[x], rfl⟩
theorem dd_append (ks ms : List α) : ∃ m, dd (ks ++ ms) = dd ks ++ m := by
  induction ms generalizing ks with
  | nil => exact ⟨[], by simp⟩
  | cons x ms ih =>
    obtain ⟨m, h⟩ := ih (ks ++ [x])
    obtain ⟨m', h'⟩ := addD_pre (dd ks) x
    rw [List.append_assoc] at h
    refine ⟨m' ++ m, ?_⟩
    rw [show ks ++ x :: ms = ks ++ ([x] ++ ms) from rfl, h, dd_snoc, h', List.append_assoc]
theorem dd_mem (ks : List α) (x : α) : x ∈ dd ks ↔ x ∈ ks := by
  induction ks using snoc_ind with
  | h0 => simp [dd]
  | h1 l y ih => rw [dd_snoc, addD_mem, List.mem_append, List.mem_singleton, ih]
theorem dd_nodup (ks : List α) : (dd ks).Nodup := by
  induction ks using snoc_ind with
  | h0 => simp [dd]
  | h1 l y ih =>
    rw [dd_snoc]
    unfold addD
    split
    · exact ih
    · rename_i h
      rw [List.nodup_append]
      exact ⟨ih, by simp, fun a ha b hb e => h (by rw [List.mem_singleton] at hb; rw [← hb, ← e]; exact ha)⟩
theorem dd_len (ks : List α) : (dd ks).length ≤ ks.length := by
  induction ks using snoc_ind with
  | h0 => simp [dd]
  | h1 l y ih =>
    rw [dd_snoc]
    unfold addD
    split
    · rw [List.length_append]; omega
    · rw [List.length_append, List.length_append]; simp; omega
theorem idx_pre {ns m : List α} {x : α} (h : x ∈ ns) : (ns ++ m).idxOf x = ns.idxOf x := by
  rw [List.idxOf_append, if_pos h]
theorem numb_len (ks : List α) : (numb ks).length = ks.length := by unfold numb; rw [List.length_map]
theorem numb_get (ks : List α) {i : Nat} (h : i < ks.length) : (numb ks)[i]'(by rw [numb_len]; exact h) = (dd ks).idxOf ks[i] := by unfold numb; rw [List.getElem_map]
theorem numb_getD (ks : List α) {i : Nat} (h : i < ks.length) : (numb ks).getD i 0 = (dd ks).idxOf ks[i] := by
  rw [List.getD_eq_getElem?_getD, List.getElem?_eq_getElem (by rw [numb_len]; exact h), numb_get ks h]
  rfl
theorem numb_lt (ks : List α) {i : Nat} (h : i < ks.length) : (numb ks).getD i 0 < (dd ks).length := by
  rw [numb_getD ks h]
  exact List.idxOf_lt_length_iff.2 ((dd_mem _ _).2 (List.getElem_mem h))
/-- The numbers are alike where the keys are. -/
theorem numb_eq (ks : List α) {i j : Nat} (hi : i < ks.length) (hj : j < ks.length) : (numb ks).getD i 0 = (numb ks).getD j 0 ↔ ks[i] = ks[j] := by
  rw [numb_getD ks hi, numb_getD ks hj]
  constructor
  · intro h
    have h1 := List.getElem_idxOf (List.idxOf_lt_length_iff.2 ((dd_mem ks _).2 (List.getElem_mem hi)))
    have h2 := List.getElem_idxOf (List.idxOf_lt_length_iff.2 ((dd_mem ks _).2 (List.getElem_mem hj)))
    rw [← h1, ← h2]
    simp only [h]
  · intro h; rw [h]
/-- The next number: old keys have theirs, a new key gets the next one. -/
theorem numb_snoc (ks : List α) (k : α) : numb (ks ++ [k]) = numb ks ++ [if k ∈ ks then (dd ks).idxOf k else (dd ks).length] := by
  unfold numb
  rw [List.map_append, dd_snoc]
  congr 1
  · refine List.map_congr_left fun x hx => ?_
    obtain ⟨m, h⟩ := addD_pre (dd ks) k
    rw [h, idx_pre ((dd_mem _ _).2 hx)]
  · rw [List.map_singleton]
    by_cases h : k ∈ ks
    · rw [if_pos h, addD_old ((dd_mem _ _).2 h)]
    · rw [if_neg h, addD_new (fun h2 => h ((dd_mem _ _).1 h2)), List.idxOf_append, if_neg (fun h2 => h ((dd_mem _ _).1 h2))]
      simp
theorem dd_map {g : α → β} {ks : List α} (hg : ∀ a ∈ ks, ∀ b ∈ ks, g a = g b → a = b) : dd (ks.map g) = (dd ks).map g := by
  induction ks using snoc_ind with
  | h0 => rfl
  | h1 l y ih =>
    have ih := ih fun a ha b hb => hg a (List.mem_append_left _ ha) b (List.mem_append_left _ hb)
    rw [List.map_append, List.map_singleton, dd_snoc, dd_snoc, ih]
    by_cases h : y ∈ dd l
    · rw [addD_old h, addD_old (List.mem_map_of_mem h)]
    · rw [addD_new h, addD_new, List.map_append, List.map_singleton]
      intro h2
      obtain ⟨z, hz, e⟩ := List.mem_map.1 h2
      have := hg z (List.mem_append_left _ ((dd_mem _ _).1 hz)) y (by simp) e
      rw [this] at hz
      exact h hz
theorem idx_map {g : α → β} {x : α} : ∀ {ns : List α}, (∀ a ∈ ns, g a = g x → a = x) → (ns.map g).idxOf (g x) = ns.idxOf x
  | [], _ => rfl
  | a :: ns, h => by
    have ih := idx_map fun b hb => h b (List.mem_cons_of_mem _ hb)
    rw [List.map_cons, List.idxOf_cons, List.idxOf_cons, ih]
    by_cases e : a = x
    · subst e; simp
    · have : g a ≠ g x := fun e' => e (h a List.mem_cons_self e')
      rw [beq_false_of_ne e, beq_false_of_ne this]
theorem numb_map {g : α → β} {ks : List α} (hg : ∀ a ∈ ks, ∀ b ∈ ks, g a = g b → a = b) : numb (ks.map g) = numb ks := by
  unfold numb
  rw [dd_map hg, List.map_map]
  refine List.map_congr_left fun x hx => ?_
  exact idx_map fun a ha => hg a ((dd_mem _ _).1 ha) x hx
theorem dd_len_map {g : α → β} {ks : List α} (hg : ∀ a ∈ ks, ∀ b ∈ ks, g a = g b → a = b) : (dd (ks.map g)).length = (dd ks).length := by rw [dd_map hg, List.length_map]
/-- Lists of keys that are alike at the same places get the same numbers. -/
theorem numb_kernel {ks : List α} {ms : List β} (hl : ks.length = ms.length) (h : ∀ i j (hi : i < ks.length) (hj : j < ks.length), ks[i] = ks[j] ↔ ms[i]'(by omega) = ms[j]'(by omega)) : numb ks = numb ms ∧ (dd ks).length = (dd ms).length := by
  by_cases h0 : ks.length = 0
  · have e1 := List.eq_nil_of_length_eq_zero h0
    have e2 : ms = [] := List.eq_nil_of_length_eq_zero (by omega)
    subst e1 e2
    exact ⟨rfl, rfl⟩
  · have hpos : 0 < ms.length := by omega
    have hms : ms = ks.map fun k => ms.getD (ks.idxOf k) (ms[0]'hpos) := by
      refine List.ext_getElem (by rw [List.length_map, hl]) fun i h1 h2 => ?_
      have hi : i < ks.length := by omega
      rw [List.getElem_map]
      have hj : ks.idxOf ks[i] < ks.length := List.idxOf_lt_length_iff.2 (List.getElem_mem hi)
      have he : ks[ks.idxOf ks[i]] = ks[i] := List.getElem_idxOf hj
      rw [List.getD_eq_getElem?_getD, List.getElem?_eq_getElem (by omega)]
      exact ((h _ _ hi hj).1 he.symm)
    have hg : ∀ a ∈ ks, ∀ b ∈ ks, ms.getD (ks.idxOf a) (ms[0]'hpos) = ms.getD (ks.idxOf b) (ms[0]'hpos) → a = b := by
      intro a ha b hb e
      have h1 : ks.idxOf a < ks.length := List.idxOf_lt_length_iff.2 ha
      have h2 : ks.idxOf b < ks.length := List.idxOf_lt_length_iff.2 hb
      rw [List.getD_eq_getElem?_getD, List.getD_eq_getElem?_getD, List.getElem?_eq_getElem (by omega), List.getElem?_eq_getElem (by omega)] at e
      have := (h _ _ h1 h2).2 e
      rwa [List.getElem_idxOf, List.getElem_idxOf] at this
    have k1 := numb_map hg
    have k2 := dd_len_map hg
    rw [← hms] at k1 k2
    exact ⟨k1.symm, k2.symm⟩
end

end AG

/- Plain: the least automaton of a language: classes of states, their automaton, what is reached of it. -/
namespace Go.Proofs.YtjhlbeamfngebaaDoor
open AG

noncomputable instance decLang : DecidableEq (List Nat → Prop) := fun _ _ => Classical.propDecidable _
/-- The words that lead from a state to an accepting one. -/
def resid (a : Au) (q : Nat) : List Nat → Prop := fun r => (∀ l ∈ r, l ∈ letters a.al) ∧ a.ac.getD (runA a q r) false = true
theorem runA_snoc (a : Au) (q l : Nat) : ∀ r : List Nat, runA a q (r ++ [l]) = runA a (goA a q l) r
  | [] => rfl
  | x :: r => by
    show goA a (runA a q (r ++ [l])) x = goA a (runA a (goA a q l) r) x
    rw [runA_snoc a q l r]
theorem resid_step {a : Au} {q l : Nat} (hl : l ∈ letters a.al) (r : List Nat) : resid a (goA a q l) r ↔ resid a q (r ++ [l]) := by
  unfold resid
  rw [runA_snoc]
  constructor
  · rintro ⟨h1, h2⟩
    refine ⟨fun x hx => ?_, h2⟩
    rcases List.mem_append.1 hx with hx | hx
    · exact h1 x hx
    · rw [List.mem_singleton.1 hx]; exact hl
  · rintro ⟨h1, h2⟩
    exact ⟨fun x hx => h1 x (List.mem_append_left _ hx), h2⟩
theorem resid_go {a : Au} {p q l : Nat} (hl : l ∈ letters a.al) (h : resid a p = resid a q) : resid a (goA a p l) = resid a (goA a q l) := by
  funext r
  exact propext ((resid_step hl r).trans (by rw [h]; exact (resid_step hl r).symm))
theorem resid_acc {a : Au} {p q : Nat} (h : resid a p = resid a q) : a.ac.getD p false = a.ac.getD q false := by
  have h1 : resid a p [] ↔ resid a q [] := by rw [h]
  unfold resid at h1
  simp only [List.not_mem_nil, false_implies, implies_true, true_and] at h1
  rw [Bool.eq_iff_iff]
  exact h1

noncomputable def clsL (a : Au) : List (List Nat → Prop) := (List.range a.nx.length).map (resid a)
/-- The classes of the states, numbered by first occurrence; how many there are. -/
noncomputable def clsA (a : Au) : List Nat := numb (clsL a)
noncomputable def clsC (a : Au) : Nat := (dd (clsL a)).length
noncomputable def cA (a : Au) (q : Nat) : Nat := (clsA a).getD q 0
theorem clsL_len (a : Au) : (clsL a).length = a.nx.length := by unfold clsL; simp
theorem clsL_get (a : Au) {q : Nat} (h : q < (clsL a).length) : (clsL a)[q] = resid a q := by
  show ((List.range a.nx.length).map (resid a))[q]'(by simpa [clsL] using h) = _
  rw [List.getElem_map, List.getElem_range]
theorem clsA_len (a : Au) : (clsA a).length = a.nx.length := by unfold clsA; rw [numb_len, clsL_len]
theorem cA_lt {a : Au} {q : Nat} (h : q < a.nx.length) : cA a q < clsC a := numb_lt _ (by rw [clsL_len]; exact h)
theorem cA_eq {a : Au} {p q : Nat} (hp : p < a.nx.length) (hq : q < a.nx.length) : cA a p = cA a q ↔ resid a p = resid a q := by
  unfold cA clsA
  rw [numb_eq _ (by rw [clsL_len]; exact hp) (by rw [clsL_len]; exact hq), clsL_get, clsL_get]
theorem clsC_le (a : Au) : clsC a ≤ a.nx.length := by
  unfold clsC
  have := dd_len (clsL a)
  rw [clsL_len] at this
  exact this
theorem clsA_get (a : Au) {q : Nat} (h : q < (clsA a).length) : (clsA a)[q] = cA a q := by
  unfold cA
  rw [List.getD_eq_getElem?_getD, List.getElem?_eq_getElem h]
  rfl
/-- The first state of a class. -/
noncomputable def repA (a : Au) (j : Nat) : Nat := (clsA a).idxOf j
theorem numb_hits {α : Type} [DecidableEq α] (ks : List α) {j : Nat} (h : j < (dd ks).length) : j ∈ numb ks := by
  have hm : (dd ks)[j] ∈ ks := (dd_mem _ _).1 (List.getElem_mem h)
  unfold numb
  exact List.mem_map.2 ⟨_, hm, (dd_nodup ks).idxOf_getElem j h⟩
theorem repA_lt {a : Au} {j : Nat} (h : j < clsC a) : repA a j < a.nx.length ∧ cA a (repA a j) = j := by
  have hm : j ∈ clsA a := numb_hits _ h
  have h1 : (clsA a).idxOf j < (clsA a).length := List.idxOf_lt_length_iff.2 hm
  refine ⟨by rw [clsA_len] at h1; exact h1, ?_⟩
  unfold repA
  rw [← clsA_get a h1, List.getElem_idxOf h1]
noncomputable def quotRow (a : Au) (j : Nat) : List Int := (a.nx.getD (repA a j) []).map fun t => ((cA a t.toNat : Nat) : Int)
/-- The automaton of the classes. -/
noncomputable def quotA (a : Au) : Au := ⟨a.al, (List.range (clsC a)).map (quotRow a), (List.range (clsC a)).map fun j => a.ac.getD (repA a j) false⟩
theorem quotA_len (a : Au) : (quotA a).nx.length = clsC a := by unfold quotA; simp
theorem clsC_pos {a : Au} (h : auOk a = true) : 1 ≤ clsC a := by
  have h1 := ((auOk_iff a).1 h).2.1
  have := cA_lt (a := a) (q := 0) (by omega)
  omega
theorem quotA_ok {a : Au} (h : auOk a = true) : auOk (quotA a) = true := by
  obtain ⟨h1, h2, h3, h4, h5⟩ := (auOk_iff a).1 h
  have h6 := clsC_le a
  have h7 := clsC_pos h
  refine (auOk_iff _).2 ⟨h1, by rw [quotA_len]; exact h7, by rw [quotA_len]; omega, by rw [quotA_len]; unfold quotA; simp, fun r hr => ?_⟩
  rw [quotA_len]
  unfold quotA at hr
  obtain ⟨j, hj, rfl⟩ := List.mem_map.1 hr
  rw [List.mem_range] at hj
  obtain ⟨g1, g2⟩ := repA_lt hj
  obtain ⟨e1, e2, e3⟩ := row_at h g1
  unfold quotRow
  rw [e1]
  refine ⟨by rw [List.length_map]; exact e2, fun q hq => ?_⟩
  obtain ⟨t, ht, rfl⟩ := List.mem_map.1 hq
  have := e3 t ht
  have := cA_lt (a := a) (q := t.toNat) (by omega)
  omega
theorem goA_quot {a : Au} (h : auOk a = true) {q l : Nat} (hq : q < a.nx.length) (hl : l ∈ letters a.al) : goA (quotA a) (cA a q) l = cA a (goA a q l) := by
  have hj := cA_lt hq
  obtain ⟨g1, g2⟩ := repA_lt hj
  have hr : resid a (repA a (cA a q)) = resid a q := (cA_eq g1 hq).1 g2
  have hgo := resid_go hl hr
  rw [← (cA_eq (goA_lt h g1) (goA_lt h hq)).2 hgo]
  obtain ⟨i, hi, rfl⟩ := List.getElem_of_mem hl
  obtain ⟨e1, e2, e3⟩ := row_at h g1
  have hjl : cA a q < (quotA a).nx.length := by rw [quotA_len]; exact hj
  have e : (quotA a).nx[cA a q]'hjl = quotRow a (cA a q) := by
    show ((List.range (clsC a)).map (quotRow a))[cA a q]'(by simpa using hj) = _
    rw [List.getElem_map, List.getElem_range]
  have hlen : i < ((quotA a).nx[cA a q]'hjl).length := by rw [e]; unfold quotRow; rw [List.length_map, e1]; omega
  have h1 := goA_at (quotA_ok h) hjl hi hlen
  have h3 : ((quotA a).nx[cA a q]'hjl)[i]'hlen = ((cA a (a.nx[repA a (cA a q)][i]'(by omega)).toNat : Nat) : Int) := by
    simp only [e]
    unfold quotRow
    simp only [e1, List.getElem_map]
  have h2 := goA_at h g1 hi (by omega)
  rw [h3, ← h2] at h1
  have h4 := Int.ofNat.inj h1
  rw [Int.toNat_natCast] at h4
  exact h4
theorem ac_quot {a : Au} {q : Nat} (hq : q < a.nx.length) : (quotA a).ac.getD (cA a q) false = a.ac.getD q false := by
  have hj := cA_lt hq
  obtain ⟨g1, g2⟩ := repA_lt hj
  have hr : resid a (repA a (cA a q)) = resid a q := (cA_eq g1 hq).1 g2
  rw [← resid_acc hr]
  unfold quotA
  dsimp only
  rw [getD_map_of_lt _ _ _ _ (by rw [List.length_range]; exact hj), List.getElem_range]
theorem cA_zero {a : Au} (h : auOk a = true) : cA a 0 = 0 := by
  have h1 := ((auOk_iff a).1 h).2.1
  unfold cA clsA
  rw [numb_getD _ (by rw [clsL_len]; omega)]
  obtain ⟨x, xs, e⟩ : ∃ x xs, clsL a = x :: xs := by
    cases hc : clsL a with
    | nil => have := clsL_len a; rw [hc] at this; simp at this; omega
    | cons x xs => exact ⟨x, xs, rfl⟩
  obtain ⟨m, hm⟩ := dd_append [x] xs
  have hd : dd (clsL a) = x :: m := by rw [e]; exact hm
  rw [hd]
  simp only [e]
  simp

/-- What is reached is some of the states. -/
theorem trimOpt_some {a : Au} (h : auOk a = true) : ∃ x, trimOpt a = some x := by
  have hall := nsAt_all (P := fun q => q < a.nx.length) (nx := goA a) (L := letters a.al) (n0 := 0) (by have := ((auOk_iff a).1 h).2.1; omega) (fun q hq l _ => goA_lt h hq) a.nx.length
  have := nodup_bound _ _ (nsAt_nodup (goA a) (letters a.al) 0 a.nx.length) hall
  unfold trimOpt numRes
  rw [if_pos this]
  exact ⟨_, rfl⟩
theorem trimA_eq {a : Au} {x : List Nat × List (List Nat)} (hx : trimOpt a = some x) : trimA a = ⟨a.al, toRows x.2, x.1.map fun q => a.ac.getD q false⟩ := by unfold trimA; rw [hx]
theorem trimA_len {a : Au} {x : List Nat × List (List Nat)} (hx : trimOpt a = some x) : (trimA a).nx.length = x.1.length := by
  rw [trimA_eq hx]
  show (toRows x.2).length = _
  rw [toRows_len, (numRes_len hx).2.1]
theorem trimA_al {a : Au} (h : auOk a = true) : (trimA a).al = a.al := by
  obtain ⟨x, hx⟩ := trimOpt_some h
  rw [trimA_eq hx]
theorem trimA_le {a : Au} (h : auOk a = true) : (trimA a).nx.length ≤ a.nx.length := by
  obtain ⟨x, hx⟩ := trimOpt_some h
  rw [trimA_len hx]
  exact (numRes_len hx).1
theorem goA_trim {a : Au} (h : auOk a = true) {x : List Nat × List (List Nat)} (hx : trimOpt a = some x) {q l : Nat} (hq : q ∈ x.1) (hl : l ∈ letters a.al) : goA (trimA a) (x.1.idxOf q) l = x.1.idxOf (goA a q l) := by
  obtain ⟨_, e2, _⟩ := numRes_spec hx
  have hi : x.1.idxOf q < x.1.length := List.idxOf_lt_length_iff.2 hq
  have hk : (letters a.al).idxOf l < (letters a.al).length := List.idxOf_lt_length_iff.2 hl
  rw [trimA_eq hx]
  show (if l ∈ letters a.al then (((toRows x.2).getD (x.1.idxOf q) []).getD ((letters a.al).idxOf l) 0).toNat else _) = _
  rw [if_pos hl, e2]
  unfold toRows
  rw [List.map_map, getD_map_of_lt _ _ _ _ hi]
  dsimp only [Function.comp]
  rw [List.getElem_idxOf hi]
  unfold rowOf
  rw [List.map_map, getD_map_of_lt _ _ _ _ hk]
  dsimp only [Function.comp]
  rw [List.getElem_idxOf hk]
  exact Int.toNat_natCast _
theorem ac_trim {a : Au} {x : List Nat × List (List Nat)} (hx : trimOpt a = some x) {q : Nat} (hq : q ∈ x.1) : (trimA a).ac.getD (x.1.idxOf q) false = a.ac.getD q false := by
  have hi : x.1.idxOf q < x.1.length := List.idxOf_lt_length_iff.2 hq
  rw [trimA_eq hx]
  dsimp only
  rw [getD_map_of_lt _ _ _ _ hi, List.getElem_idxOf hi]
theorem run_trim {a : Au} (h : auOk a = true) {x : List Nat × List (List Nat)} (hx : trimOpt a = some x) {q : Nat} (hq : q ∈ x.1) : ∀ r : List Nat, (∀ l ∈ r, l ∈ letters a.al) → runA (trimA a) (x.1.idxOf q) r = x.1.idxOf (runA a q r) ∧ runA a q r ∈ x.1
  | [], _ => ⟨rfl, hq⟩
  | l :: r, hr => by
    obtain ⟨i1, i2⟩ := run_trim h hx hq r fun y hy => hr y (List.mem_cons_of_mem _ hy)
    have hl := hr l List.mem_cons_self
    refine ⟨?_, (numRes_spec hx).2.2.2.2.2 _ i2 l hl⟩
    show goA (trimA a) (runA (trimA a) (x.1.idxOf q) r) l = _
    rw [i1, goA_trim h hx i2 hl]
    rfl
theorem run_quot {a : Au} (h : auOk a = true) {q : Nat} (hq : q < a.nx.length) : ∀ r : List Nat, (∀ l ∈ r, l ∈ letters a.al) → runA (quotA a) (cA a q) r = cA a (runA a q r) ∧ runA a q r < a.nx.length
  | [], _ => ⟨rfl, hq⟩
  | l :: r, hr => by
    obtain ⟨i1, i2⟩ := run_quot h hq r fun y hy => hr y (List.mem_cons_of_mem _ hy)
    refine ⟨?_, goA_lt h i2⟩
    show goA (quotA a) (runA (quotA a) (cA a q) r) l = _
    rw [i1, goA_quot h i2 (hr l List.mem_cons_self)]
    rfl
theorem resid_quot {a : Au} (h : auOk a = true) {q : Nat} (hq : q < a.nx.length) : resid (quotA a) (cA a q) = resid a q := by
  funext r
  unfold resid
  show ((∀ l ∈ r, l ∈ letters a.al) ∧ _) = _
  refine propext (and_congr_right fun hr => ?_)
  obtain ⟨i1, i2⟩ := run_quot h hq r hr
  rw [i1, ac_quot i2]

/-- The least automaton. -/
noncomputable def minA (a : Au) : Au := trimA (quotA a)
end Go.Proofs.YtjhlbeamfngebaaDoor

/- Plain: laws of least automata. -/
namespace Go.Proofs.YtjhlbeamfngebaaDoor
open AG

theorem au_ext {p q : Au} (h1 : p.al = q.al) (h2 : p.nx = q.nx) (h3 : p.ac = q.ac) : p = q := by cases p; cases q; simp_all
/-- No two states have the same words. -/
def ApartA (b : Au) : Prop := ∀ p q, p < b.nx.length → q < b.nx.length → resid b p = resid b q → p = q
theorem quot_is_apart {a : Au} (h : auOk a = true) : ApartA (quotA a) := by
  intro p q hp hq e
  rw [quotA_len] at hp hq
  obtain ⟨g1, g2⟩ := repA_lt hp
  obtain ⟨k1, k2⟩ := repA_lt hq
  have e1 := resid_quot h g1
  have e2 := resid_quot h k1
  rw [g2] at e1
  rw [k2] at e2
  rw [← g2, ← k2]
  exact (cA_eq g1 k1).2 (by rw [← e1, ← e2, e])
/-- The least automaton accepts the same words. -/
theorem acc_trim {a : Au} (h : auOk a = true) {r : List Nat} (hr : ∀ l ∈ r, l ∈ letters a.al) : accA (trimA a) r = accA a r := by
  obtain ⟨x, hx⟩ := trimOpt_some h
  obtain ⟨_, _, _, n4, n5, _⟩ := numRes_spec hx
  obtain ⟨i1, i2⟩ := run_trim h hx n4 r hr
  rw [n5] at i1
  unfold accA
  rw [i1, ac_trim hx i2]
theorem acc_quot {a : Au} (h : auOk a = true) {r : List Nat} (hr : ∀ l ∈ r, l ∈ letters a.al) : accA (quotA a) r = accA a r := by
  have h2 := ((auOk_iff a).1 h).2.1
  obtain ⟨i1, i2⟩ := run_quot h (q := 0) (by omega) r hr
  rw [cA_zero h] at i1
  unfold accA
  rw [i1, ac_quot i2]
theorem acc_min {a : Au} (h : auOk a = true) {r : List Nat} (hr : ∀ l ∈ r, l ∈ letters a.al) : accA (minA a) r = accA a r := by
  show accA (trimA (quotA a)) r = _
  rw [acc_trim (quotA_ok h) hr, acc_quot h hr]
theorem minA_al {a : Au} (h : auOk a = true) : (minA a).al = a.al := trimA_al (quotA_ok h)
theorem minA_le {a : Au} (h : auOk a = true) : (minA a).nx.length ≤ a.nx.length := by
  have h1 := trimA_le (quotA_ok h)
  rw [quotA_len] at h1
  exact Nat.le_trans h1 (clsC_le a)

/-- A numbering with room to spare. -/
theorem numRes_big {nx : Nat → Nat → Nat} {L : List Nat} {n0 lim lim' : Nat} {x : List Nat × List (List Nat)} (h : numRes nx L n0 lim = some x) (hl : x.1.length ≤ lim') : numRes nx L n0 lim' = some x := by
  have h1 := numRes_small h
  obtain ⟨e1, e2, -⟩ := numRes_spec h1
  have hst := nsAt_stop (nx := nx) (L := L) (n0 := n0) (i := x.1.length) (by rw [← e1]; exact Nat.le_refl _) (lim' - x.1.length)
  rw [show x.1.length + (lim' - x.1.length) = lim' by omega, ← e1] at hst
  unfold numRes
  rw [hst, if_pos hl, ← e2]
theorem resid_acc2 {a b : Au} {p q : Nat} (h : resid a p = resid b q) : a.ac.getD p false = b.ac.getD q false := by
  have h1 : resid a p [] ↔ resid b q [] := by rw [h]
  unfold resid at h1
  simp only [List.not_mem_nil, false_implies, implies_true, true_and] at h1
  rw [Bool.eq_iff_iff]
  exact h1
theorem trim_unique {u v : Au} (hu : auOk u = true) (hv : auOk v = true) (hal : u.al = v.al) (pu : ApartA u) (pv : ApartA v) (h0 : resid u 0 = resid v 0) : trimA u = trimA v := by
  have zu := ((auOk_iff u).1 hu).2.1
  have zv := ((auOk_iff v).1 hv).2.1
  obtain ⟨x, hx⟩ := trimOpt_some hu
  have hfx : ∀ j, ∃ c, (∃ c', c' < v.nx.length ∧ resid v c' = resid u j) → c < v.nx.length ∧ resid v c = resid u j := fun j => by
    by_cases h : ∃ c', c' < v.nx.length ∧ resid v c' = resid u j
    · obtain ⟨c, h1, h2⟩ := h
      exact ⟨c, fun _ => ⟨h1, h2⟩⟩
    · exact ⟨0, fun h' => absurd h' h⟩
  obtain ⟨f, hf⟩ := Classical.axiomOfChoice hfx
  have f0 : f 0 = 0 := by
    obtain ⟨k1, k2⟩ := hf 0 ⟨0, by omega, h0.symm⟩
    exact pv _ _ k1 (by omega) (k2.trans h0)
  have step : ∀ j, (j < u.nx.length ∧ ∃ c', c' < v.nx.length ∧ resid v c' = resid u j) → ∀ l ∈ letters u.al, (goA u j l < u.nx.length ∧ ∃ c', c' < v.nx.length ∧ resid v c' = resid u (goA u j l)) ∧ goA v (f j) l = f (goA u j l) := by
    rintro j ⟨j1, j2⟩ l hl
    obtain ⟨k1, k2⟩ := hf j j2
    have hl' : l ∈ letters v.al := by rw [← hal]; exact hl
    have e : resid v (goA v (f j) l) = resid u (goA u j l) := by
      funext r
      exact propext ((resid_step hl' r).trans (by rw [k2]; exact (resid_step hl r).symm))
    have hex : ∃ c', c' < v.nx.length ∧ resid v c' = resid u (goA u j l) := ⟨_, goA_lt hv k1, e⟩
    obtain ⟨m1, m2⟩ := hf _ hex
    exact ⟨⟨goA_lt hu j1, hex⟩, pv _ _ (goA_lt hv k1) m1 (e.trans m2.symm)⟩
  have hm := numRes_map (f := f) (nx := goA u) (nx' := goA v) (P := fun j => j < u.nx.length ∧ ∃ c', c' < v.nx.length ∧ resid v c' = resid u j) (L := letters u.al) (n0 := 0) (lim := u.nx.length) ⟨by omega, 0, by omega, h0.symm⟩
    (fun i j hi hj e => pu i j hi.1 hj.1 (by rw [← (hf i hi.2).2, ← (hf j hj.2).2, e])) step
  have hP : ∀ j ∈ x.1, j < u.nx.length ∧ ∃ c', c' < v.nx.length ∧ resid v c' = resid u j := by
    rw [(numRes_spec hx).1]
    exact nsAt_all (P := fun j => j < u.nx.length ∧ ∃ c', c' < v.nx.length ∧ resid v c' = resid u j) ⟨by omega, 0, by omega, h0.symm⟩ (fun j hj l hl => (step j hj l hl).1) u.nx.length
  have hx' : numRes (goA u) (letters u.al) 0 u.nx.length = some x := hx
  rw [hx', f0, Option.map_some] at hm
  have hy : trimOpt v = some (x.1.map f, x.2) := by
    unfold trimOpt
    rw [← hal]
    refine numRes_big hm ?_
    refine nodup_bound _ _ (numRes_spec hm).2.2.1 fun y hy => ?_
    obtain ⟨j, hj, rfl⟩ := List.mem_map.1 hy
    exact (hf j (hP j hj).2).1
  rw [trimA_eq hx, trimA_eq hy]
  refine au_ext hal rfl ?_
  show x.1.map (fun q => u.ac.getD q false) = (x.1.map f).map fun q => v.ac.getD q false
  rw [List.map_map]
  refine List.map_congr_left fun j hj => ?_
  exact (resid_acc2 (hf j (hP j hj).2).2).symm
/-- Automata of one language have one least automaton. -/
theorem min_unique {a b : Au} (ha : auOk a = true) (hb : auOk b = true) (hal : a.al = b.al) (h : ∀ r : List Nat, (∀ l ∈ r, l ∈ letters a.al) → accA a r = accA b r) : minA a = minA b := by
  refine trim_unique (quotA_ok ha) (quotA_ok hb) hal (quot_is_apart ha) (quot_is_apart hb) ?_
  funext r
  show ((∀ l ∈ r, l ∈ letters a.al) ∧ accA (quotA a) r = true) = ((∀ l ∈ r, l ∈ letters b.al) ∧ accA (quotA b) r = true)
  rw [← hal]
  refine propext (and_congr_right fun hr => ?_)
  rw [acc_quot ha hr, acc_quot hb (by rw [← hal]; exact hr), h r hr]

end Go.Proofs.YtjhlbeamfngebaaDoor

/- Plain: classes of states found by refining. -/
namespace Go.Proofs.YtjhlbeamfngebaaDoor
open AG

section
variable {α β : Type} [DecidableEq α] [DecidableEq β]
theorem dd_full (ks : List α) : (dd ks).length = ks.length → ks.Nodup := by
  induction ks using snoc_ind with
  | h0 => intro _; exact List.nodup_nil
  | h1 l y ih =>
    intro e
    rw [dd_snoc, List.length_append] at e
    have hl := dd_len l
    by_cases hm : y ∈ dd l
    · rw [addD_old hm] at e
      simp at e
      omega
    · rw [addD_new hm, List.length_append] at e
      rw [List.nodup_append]
      refine ⟨ih (by simp at e; exact e), by simp, fun u hu v hv huv => hm ?_⟩
      rw [List.mem_singleton] at hv
      rw [dd_mem, ← hv, ← huv]
      exact hu
theorem nodup_subD : ∀ (l m : List α), l.Nodup → (∀ i ∈ l, i ∈ m) → l.length ≤ m.length
  | [], _, _, _ => Nat.zero_le _
  | a :: l, m, h, hs => by
    rw [List.nodup_cons] at h
    have ha := hs a List.mem_cons_self
    have ih := nodup_subD l (m.erase a) h.2 fun i hi => (List.mem_erase_of_ne (fun e => h.1 (by rw [← e]; exact hi))).2 (hs i (List.mem_cons_of_mem _ hi))
    have := List.length_erase_of_mem ha
    have := List.length_pos_of_mem ha
    rw [List.length_cons]
    omega
/-- Finer keys give as many numbers at least, and the same partition if as many. -/
theorem dd_finer {ks : List α} {ms : List β} (hl : ks.length = ms.length) (h : ∀ i j (hi : i < ks.length) (hj : j < ks.length), ms[i]'(by omega) = ms[j]'(by omega) → ks[i] = ks[j]) :
    (dd ks).length ≤ (dd ms).length ∧ ((dd ms).length ≤ (dd ks).length → ∀ i j (hi : i < ks.length) (hj : j < ks.length), ks[i] = ks[j] ↔ ms[i]'(by omega) = ms[j]'(by omega)) := by
  by_cases h0 : ks.length = 0
  · have e1 := List.eq_nil_of_length_eq_zero h0
    subst e1
    exact ⟨Nat.zero_le _, fun _ i j hi => by simp at hi⟩
  · have hpos : 0 < ks.length := by omega
    obtain ⟨g, hg⟩ : ∃ g : β → α, g = fun k => ks.getD (ms.idxOf k) (ks[0]'hpos) := ⟨_, rfl⟩
    have hks : ks = ms.map g := by
      refine List.ext_getElem (by rw [List.length_map, hl]) fun i h1 h2 => ?_
      have hi : i < ms.length := by omega
      rw [List.getElem_map]
      have hj : ms.idxOf ms[i] < ms.length := List.idxOf_lt_length_iff.2 (List.getElem_mem hi)
      have he : ms[ms.idxOf ms[i]] = ms[i] := List.getElem_idxOf hj
      have hgi : g ms[i] = ks.getD (ms.idxOf ms[i]) (ks[0]'hpos) := by simp only [hg]
      rw [hgi, List.getD_eq_getElem?_getD, List.getElem?_eq_getElem (by omega)]
      exact h _ _ (by omega) (by omega) he.symm
    have hsub : ∀ x ∈ dd ks, x ∈ (dd ms).map g := fun x hx => by
      rw [dd_mem, hks] at hx
      obtain ⟨y, hy, rfl⟩ := List.mem_map.1 hx
      exact List.mem_map_of_mem ((dd_mem _ _).2 hy)
    have hle := nodup_subD _ _ (dd_nodup ks) hsub
    rw [List.length_map] at hle
    refine ⟨hle, fun hge i j hi hj => ⟨fun e => ?_, h i j hi hj⟩⟩
    have hnd : ((dd ms).map g).Nodup := by
      refine dd_full _ ?_
      have h1 := dd_len ((dd ms).map g)
      have h2 := nodup_subD (dd ks) (dd ((dd ms).map g)) (dd_nodup ks) fun x hx => (dd_mem _ _).2 (hsub x hx)
      rw [List.length_map] at h1 ⊢
      omega
    have hinj : ∀ a ∈ dd ms, ∀ b ∈ dd ms, g a = g b → a = b := by
      intro a ha b hb e
      obtain ⟨p, hp, rfl⟩ := List.getElem_of_mem ha
      obtain ⟨q, hq, rfl⟩ := List.getElem_of_mem hb
      have hp' : p < ((dd ms).map g).length := by rw [List.length_map]; exact hp
      have hq' : q < ((dd ms).map g).length := by rw [List.length_map]; exact hq
      have e2 : ((dd ms).map g)[p] = ((dd ms).map g)[q] := by rw [List.getElem_map, List.getElem_map]; exact e
      have h1 := hnd.idxOf_getElem p hp'
      have h2 := hnd.idxOf_getElem q hq'
      rw [e2, h2] at h1
      subst h1
      rfl
    have e1 : ks[i] = g (ms[i]'(by omega)) := by simp only [hks, List.getElem_map]
    have e2 : ks[j] = g (ms[j]'(by omega)) := by simp only [hks, List.getElem_map]
    exact hinj _ ((dd_mem _ _).2 (List.getElem_mem _)) _ ((dd_mem _ _).2 (List.getElem_mem _)) (by rw [← e1, ← e2, e])
end

/-- A state's class and the classes to which its letters lead. -/
def sigA (a : Au) (c : List Nat) (q : Nat) : List Nat := c.getD q 0 :: (a.nx.getD q []).map fun t => c.getD t.toNat 0
def keysA (a : Au) (c : List Nat) : List (List Nat) := (List.range a.nx.length).map (sigA a c)
def refA (a : Au) (c : List Nat) : List Nat := numb (keysA a c)
def refC (a : Au) (c : List Nat) : Nat := (dd (keysA a c)).length
def cls0 (a : Au) : List Nat := (List.range a.nx.length).map fun q => if a.ac.getD q false = true then 1 else 0
def clsI (a : Au) : Nat → List Nat
  | 0 => cls0 a
  | i + 1 => refA a (clsI a i)
def cntI (a : Au) : Nat → Nat
  | 0 => 0
  | i + 1 => refC a (clsI a i)
theorem keysA_len (a : Au) (c : List Nat) : (keysA a c).length = a.nx.length := by unfold keysA; simp
theorem keysA_get (a : Au) (c : List Nat) {q : Nat} (h : q < (keysA a c).length) : (keysA a c)[q] = sigA a c q := by
  show ((List.range a.nx.length).map (sigA a c))[q]'(by simpa [keysA] using h) = _
  rw [List.getElem_map, List.getElem_range]
theorem cntI_le (a : Au) : ∀ i, cntI a i ≤ a.nx.length
  | 0 => Nat.zero_le _
  | i + 1 => by
    have := dd_len (keysA a (clsI a i))
    rw [keysA_len] at this
    exact this
theorem cntI_one {a : Au} (h : auOk a = true) : 1 ≤ cntI a 1 := by
  have h2 := ((auOk_iff a).1 h).2.1
  have := numb_lt (keysA a (clsI a 0)) (i := 0) (by rw [keysA_len]; omega)
  show 1 ≤ (dd (keysA a (clsI a 0))).length
  omega
theorem sigA_eq {a : Au} (h : auOk a = true) (c : List Nat) {p q : Nat} (hp : p < a.nx.length) (hq : q < a.nx.length) :
    sigA a c p = sigA a c q ↔ c.getD p 0 = c.getD q 0 ∧ ∀ l ∈ letters a.al, c.getD (goA a p l) 0 = c.getD (goA a q l) 0 := by
  obtain ⟨p1, p2, p3⟩ := row_at h hp
  obtain ⟨q1, q2, q3⟩ := row_at h hq
  unfold sigA
  rw [List.cons.injEq, p1, q1]
  refine and_congr_right fun _ => ?_
  constructor
  · intro e l hl
    obtain ⟨i, hi, rfl⟩ := List.getElem_of_mem hl
    have g1 := goA_at h hp hi (by omega)
    have g2 := goA_at h hq hi (by omega)
    have e1 : ((a.nx[p]).map fun t => c.getD t.toNat 0)[i]? = ((a.nx[q]).map fun t => c.getD t.toNat 0)[i]? := by rw [e]
    rw [List.getElem?_map, List.getElem?_map, List.getElem?_eq_getElem (by omega), List.getElem?_eq_getElem (by omega), ← g1, ← g2] at e1
    simpa using e1
  · intro e
    refine List.ext_getElem (by rw [List.length_map, List.length_map, p2, q2]) fun i h1 h2 => ?_
    rw [List.getElem_map, List.getElem_map]
    have hi : i < (letters a.al).length := by rw [List.length_map, p2] at h1; exact h1
    have g1 := goA_at h hp hi (by omega)
    have g2 := goA_at h hq hi (by omega)
    rw [← g1, ← g2, Int.toNat_natCast, Int.toNat_natCast]
    exact e _ (List.getElem_mem hi)
/-- After i rounds classes are alike where words of at most i letters do not tell the states apart. -/
theorem clsI_eq {a : Au} (h : auOk a = true) : ∀ i p q, p < a.nx.length → q < a.nx.length →
    ((clsI a i).getD p 0 = (clsI a i).getD q 0 ↔ ∀ r : List Nat, r.length ≤ i → (∀ l ∈ r, l ∈ letters a.al) → a.ac.getD (runA a p r) false = a.ac.getD (runA a q r) false)
  | 0, p, q, hp, hq => by
    have e : ∀ x, x < a.nx.length → (clsI a 0).getD x 0 = if a.ac.getD x false = true then 1 else 0 := fun x hx => by
      show (cls0 a).getD x 0 = _
      unfold cls0
      rw [getD_map_of_lt _ _ _ _ (by simpa using hx), List.getElem_range]
    rw [e p hp, e q hq]
    constructor
    · intro h1 r hr _
      have : r = [] := List.eq_nil_of_length_eq_zero (by omega)
      subst this
      show a.ac.getD p false = a.ac.getD q false
      revert h1
      cases a.ac.getD p false <;> cases a.ac.getD q false <;> simp
    · intro h1
      have := h1 [] (Nat.le_refl _) (by simp)
      rw [show a.ac.getD p false = a.ac.getD q false from this]
  | i + 1, p, q, hp, hq => by
    show (numb (keysA a (clsI a i))).getD p 0 = (numb (keysA a (clsI a i))).getD q 0 ↔ _
    rw [numb_eq _ (by rw [keysA_len]; exact hp) (by rw [keysA_len]; exact hq), keysA_get, keysA_get, sigA_eq h _ hp hq, clsI_eq h i p q hp hq]
    constructor
    · rintro ⟨h1, h2⟩ r hr hl
      by_cases hri : r.length ≤ i
      · exact h1 r hri hl
      · have hne : r ≠ [] := fun e => by rw [e] at hri; simp at hri
        obtain ⟨r', l, rfl⟩ : ∃ r' l, r = r' ++ [l] := ⟨_, _, (List.dropLast_concat_getLast hne).symm⟩
        have hll : l ∈ letters a.al := hl l (by simp)
        have h3 := (clsI_eq h i _ _ (goA_lt h hp) (goA_lt h hq)).1 (h2 l hll) r' (by rw [List.length_append] at hr; simpa using hr) fun x hx => hl x (List.mem_append_left _ hx)
        rw [runA_snoc, runA_snoc]
        exact h3
    · intro h1
      refine ⟨fun r hr hl => h1 r (by omega) hl, fun l hl => (clsI_eq h i _ _ (goA_lt h hp) (goA_lt h hq)).2 fun r hr hrl => ?_⟩
      rw [← runA_snoc, ← runA_snoc]
      refine h1 _ (by rw [List.length_append]; simpa using hr) fun x hx => ?_
      rcases List.mem_append.1 hx with hx | hx
      · exact hrl x hx
      · rw [List.mem_singleton.1 hx]; exact hl
theorem keys_finer {a : Au} (i : Nat) : (dd (keysA a (clsI a i))).length ≤ (dd (keysA a (clsI a (i + 1)))).length ∧
    ((dd (keysA a (clsI a (i + 1)))).length ≤ (dd (keysA a (clsI a i))).length → numb (keysA a (clsI a (i + 1))) = numb (keysA a (clsI a i))) := by
  have hl : (keysA a (clsI a i)).length = (keysA a (clsI a (i + 1))).length := by rw [keysA_len, keysA_len]
  obtain ⟨h1, h2⟩ := dd_finer (ks := keysA a (clsI a i)) (ms := keysA a (clsI a (i + 1))) hl (fun p q hp hq e => by
    rw [keysA_get, keysA_get] at e
    unfold sigA at e
    injection e with e _
    exact (numb_eq _ hp hq).1 e)
  refine ⟨h1, fun hle => ?_⟩
  exact (numb_kernel hl (h2 hle)).1.symm
theorem cntI_mono (a : Au) : ∀ i, cntI a i ≤ cntI a (i + 1)
  | 0 => Nat.zero_le _
  | i + 1 => (keys_finer i).1
/-- When a round finds no more classes, they are the classes of the states. -/
theorem cls_stop {a : Au} (h : auOk a = true) {i : Nat} (hs : cntI a (i + 2) ≤ cntI a (i + 1)) : clsI a (i + 2) = clsA a ∧ cntI a (i + 2) = clsC a := by
  have hfix : clsI a (i + 2) = clsI a (i + 1) := (keys_finer i).2 hs
  have hall : ∀ k, clsI a (i + 1 + k) = clsI a (i + 1) := by
    intro k
    induction k with
    | zero => rfl
    | succ k ih =>
      show refA a (clsI a (i + 1 + k)) = _
      rw [ih]
      exact hfix
  have hk := numb_kernel (ks := keysA a (clsI a (i + 1))) (ms := clsL a) (by rw [keysA_len, clsL_len]) fun p q hp hq => by
    have hp' : p < a.nx.length := by rw [keysA_len] at hp; exact hp
    have hq' : q < a.nx.length := by rw [keysA_len] at hq; exact hq
    rw [← numb_eq _ hp hq, clsL_get, clsL_get]
    show (clsI a (i + 2)).getD p 0 = (clsI a (i + 2)).getD q 0 ↔ _
    rw [hfix]
    constructor
    · intro e
      funext r
      unfold resid
      refine propext (and_congr_right fun hr => ?_)
      have e2 : (clsI a (i + 1 + r.length)).getD p 0 = (clsI a (i + 1 + r.length)).getD q 0 := by rw [hall]; exact e
      rw [(clsI_eq h _ p q hp' hq').1 e2 r (by omega) hr]
    · intro e
      refine (clsI_eq h _ p q hp' hq').2 fun r _ hr => ?_
      have : resid a p r ↔ resid a q r := by rw [e]
      unfold resid at this
      rw [Bool.eq_iff_iff]
      exact ⟨fun h1 => (this.1 ⟨hr, h1⟩).2, fun h1 => (this.2 ⟨hr, h1⟩).2⟩
  exact hk

end Go.Proofs.YtjhlbeamfngebaaDoor

/- Plain: keys of classes as texts; the classes in the order in which the program meets them. -/
namespace Go.Proofs.YtjhlbeamfngebaaDoor
open AG

def decL (n : Nat) : List UInt8 := if n < 10 then [UInt8.ofNat (48 + n)] else [UInt8.ofNat (48 + n / 10), UInt8.ofNat (48 + n % 10)]
def keyTl : List Nat → List UInt8
  | [] => []
  | t :: ts => 44 :: (decL t ++ keyTl ts)
def keyL : List Nat → List UInt8
  | [] => []
  | c :: ts => decL c ++ keyTl ts
theorem decL_inj_ : ∀ a b : Fin 100, decL a.val = decL b.val → a = b := by decide +kernel
theorem decL_ne_ : ∀ a : Fin 100, (44 : UInt8) ∉ decL a.val := by decide +kernel
theorem decL_inj {a b : Nat} (ha : a < 100) (hb : b < 100) (h : decL a = decL b) : a = b := by
  have := decL_inj_ ⟨a, ha⟩ ⟨b, hb⟩ h
  injection this
theorem decL_ne {a : Nat} (ha : a < 100) : (44 : UInt8) ∉ decL a := decL_ne_ ⟨a, ha⟩
def Sep44 (r : List UInt8) : Prop := ∀ b r', r = b :: r' → b = 44
theorem keyTl_sep : ∀ ts, Sep44 (keyTl ts)
  | [] => fun b r' h => by cases h
  | _ :: _ => fun b r' h => by unfold keyTl at h; injection h with h1; exact h1.symm
theorem cut44 : ∀ {x y r s : List UInt8}, (44 : UInt8) ∉ x → (44 : UInt8) ∉ y → Sep44 r → Sep44 s → x ++ r = y ++ s → x = y ∧ r = s
  | [], [], _, _, _, _, _, _, h => ⟨rfl, h⟩
  | [], b :: y, r, s, _, hy, hr, _, h => by
    have := hr b (y ++ s) h
    subst this
    exact absurd List.mem_cons_self hy
  | a :: x, [], r, s, hx, _, _, hs, h => by
    have := hs a (x ++ r) h.symm
    subst this
    exact absurd List.mem_cons_self hx
  | a :: x, b :: y, r, s, hx, hy, hr, hs, h => by
    injection h with h1 h2
    subst h1
    obtain ⟨e1, e2⟩ := cut44 (fun h => hx (List.mem_cons_of_mem _ h)) (fun h => hy (List.mem_cons_of_mem _ h)) hr hs h2
    exact ⟨by rw [e1], e2⟩
theorem keyTl_inj : ∀ {ts us : List Nat}, (∀ t ∈ ts, t < 100) → (∀ u ∈ us, u < 100) → keyTl ts = keyTl us → ts = us
  | [], [], _, _, _ => rfl
  | [], _ :: _, _, _, h => by cases h
  | _ :: _, [], _, _, h => by cases h
  | t :: ts, u :: us, h1, h2, h => by
    unfold keyTl at h
    injection h with _ h
    obtain ⟨e1, e2⟩ := cut44 (decL_ne (h1 t List.mem_cons_self)) (decL_ne (h2 u List.mem_cons_self)) (keyTl_sep ts) (keyTl_sep us) h
    rw [decL_inj (h1 t List.mem_cons_self) (h2 u List.mem_cons_self) e1, keyTl_inj (fun x hx => h1 x (List.mem_cons_of_mem _ hx)) (fun x hx => h2 x (List.mem_cons_of_mem _ hx)) e2]
theorem keyL_inj {c d : Nat} {ts us : List Nat} (h1 : ∀ t ∈ c :: ts, t < 100) (h2 : ∀ u ∈ d :: us, u < 100) (h : keyL (c :: ts) = keyL (d :: us)) : c :: ts = d :: us := by
  obtain ⟨e1, e2⟩ := cut44 (decL_ne (h1 c List.mem_cons_self)) (decL_ne (h2 d List.mem_cons_self)) (keyTl_sep ts) (keyTl_sep us) h
  rw [decL_inj (h1 c List.mem_cons_self) (h2 d List.mem_cons_self) e1, keyTl_inj (fun x hx => h1 x (List.mem_cons_of_mem _ hx)) (fun x hx => h2 x (List.mem_cons_of_mem _ hx)) e2]
theorem keyTl_append : ∀ (ts us : List Nat), keyTl (ts ++ us) = keyTl ts ++ keyTl us
  | [], _ => rfl
  | t :: ts, us => by
    show 44 :: (decL t ++ keyTl (ts ++ us)) = (44 :: (decL t ++ keyTl ts)) ++ keyTl us
    rw [keyTl_append ts us]
    simp
theorem keyL_snoc (c : Nat) (ts : List Nat) (t : Nat) : keyL (c :: (ts ++ [t])) = keyL (c :: ts) ++ (44 :: decL t) := by
  show decL c ++ keyTl (ts ++ [t]) = (decL c ++ keyTl ts) ++ (44 :: decL t)
  rw [keyTl_append]
  simp [keyTl]
theorem decL_len (n : Nat) : (decL n).length ≤ 2 := by
  unfold decL
  split <;> simp
theorem keyTl_len : ∀ ts : List Nat, (keyTl ts).length ≤ 3 * ts.length
  | [] => by simp [keyTl]
  | t :: ts => by
    have := keyTl_len ts
    have := decL_len t
    show (44 :: (decL t ++ keyTl ts)).length ≤ _
    rw [List.length_cons, List.length_append, List.length_cons]
    omega
theorem keyL_len (ts : List Nat) : (keyL ts).length ≤ 3 * ts.length := by
  cases ts with
  | nil => simp [keyL]
  | cons c ts =>
    have := keyTl_len ts
    have := decL_len c
    show (decL c ++ keyTl ts).length ≤ _
    rw [List.length_append, List.length_cons]
    omega

/-- The bytes of a list. -/
def baOf (l : List UInt8) : ByteArray := ⟨l.toArray⟩
theorem baOf_list (l : List UInt8) : (baOf l).data.toList = l := by unfold baOf; simp
theorem baOf_size (l : List UInt8) : (baOf l).size = l.length := by unfold baOf; simp [ByteArray.size]
theorem baOf_append (l m : List UInt8) : baOf l ++ baOf m = baOf (l ++ m) := by
  refine ByteArray.ext ?_
  rw [ByteArray.data_append]
  unfold baOf
  simp

theorem cls0_le {a : Au} : ∀ x ∈ cls0 a, x ≤ 12 := by
  intro x hx
  unfold cls0 at hx
  obtain ⟨q, _, rfl⟩ := List.mem_map.1 hx
  split <;> omega
theorem clsI_le {a : Au} (h : auOk a = true) : ∀ i, ∀ x ∈ clsI a i, x ≤ 12
  | 0 => cls0_le
  | i + 1 => fun x hx => by
    have h12 := ((auOk_iff a).1 h).2.2.1
    change x ∈ numb (keysA a (clsI a i)) at hx
    obtain ⟨k, hk, rfl⟩ := List.mem_iff_getElem.1 hx
    rw [numb_len] at hk
    have h1 := numb_lt (keysA a (clsI a i)) hk
    rw [numb_getD _ hk] at h1
    have h2 := dd_len (keysA a (clsI a i))
    rw [keysA_len] at h2
    rw [numb_get _ hk]
    omega
theorem getD_le {c : List Nat} {m : Nat} (h : ∀ x ∈ c, x ≤ m) (i : Nat) : c.getD i 0 ≤ m := by
  rw [List.getD_eq_getElem?_getD]
  cases e : c[i]? with
  | none => exact Nat.zero_le _
  | some x => exact h x (List.mem_of_getElem? e)
theorem sig_lt {a : Au} {c : List Nat} (h : ∀ x ∈ c, x ≤ 12) (q : Nat) : ∀ x ∈ sigA a c q, x < 100 := by
  intro x hx
  unfold sigA at hx
  rcases List.mem_cons.1 hx with rfl | hx
  · have := getD_le h q; omega
  · obtain ⟨t, _, rfl⟩ := List.mem_map.1 hx
    have := getD_le h t.toNat; omega
/-- The keys as texts tell the same states apart. -/
theorem key_numb {a : Au} {c : List Nat} (h : ∀ x ∈ c, x ≤ 12) : numb ((keysA a c).map keyL) = refA a c ∧ (dd ((keysA a c).map keyL)).length = refC a c := by
  have hg : ∀ x ∈ keysA a c, ∀ y ∈ keysA a c, keyL x = keyL y → x = y := by
    intro x hx y hy e
    unfold keysA at hx hy
    obtain ⟨p, _, rfl⟩ := List.mem_map.1 hx
    obtain ⟨q, _, rfl⟩ := List.mem_map.1 hy
    exact keyL_inj (sig_lt h p) (sig_lt h q) e
  exact ⟨numb_map hg, dd_len_map hg⟩

theorem idxOf_le_get : ∀ (l : List Nat) (i : Nat) (h : i < l.length), l.idxOf l[i] ≤ i
  | a :: l, 0, _ => by rw [List.getElem_cons_zero, List.idxOf_cons_self]; exact Nat.le_refl _
  | a :: l, i + 1, h => by
    have ih := idxOf_le_get l i (by simpa using h)
    rw [List.getElem_cons_succ, List.idxOf_cons]
    cases (a == l[i]'(by simpa using h)) with
    | true => simp
    | false => simpa using ih
/-- How many classes the first q states have. -/
noncomputable def clsTo (a : Au) (q : Nat) : Nat := (dd ((clsL a).take q)).length
theorem clsTo_zero (a : Au) : clsTo a 0 = 0 := by unfold clsTo; rw [List.take_zero]; rfl
theorem clsTo_all (a : Au) : clsTo a a.nx.length = clsC a := by
  unfold clsTo clsC
  rw [List.take_of_length_le (by rw [clsL_len]; exact Nat.le_refl _)]
theorem clsTo_step {a : Au} {q : Nat} (hq : q < a.nx.length) : (cA a q < clsTo a q ∧ clsTo a (q + 1) = clsTo a q) ∨ (cA a q = clsTo a q ∧ clsTo a (q + 1) = clsTo a q + 1 ∧ repA a (clsTo a q) = q) := by
  have hql : q < (clsL a).length := by rw [clsL_len]; exact hq
  obtain ⟨K, hK⟩ : ∃ K, K = clsL a := ⟨_, rfl⟩
  have e1 : K.take (q + 1) = K.take q ++ [K[q]'(by rw [hK]; exact hql)] := List.take_succ_eq_append_getElem (by rw [hK]; exact hql)
  have hKq : q < K.length := by rw [hK]; exact hql
  have hcA : ∀ p (hp : p < K.length), cA a p = (dd K).idxOf K[p] := fun p hp => by
    subst hK
    exact numb_getD _ hp
  obtain ⟨m, hm⟩ := dd_append (K.take q) (K.drop q)
  rw [List.take_append_drop] at hm
  have hlow : ∀ p (hp : p < K.length), K[p] ∈ K.take q → cA a p < clsTo a q := fun p hp h => by
    have h1 : K[p] ∈ dd (K.take q) := (dd_mem _ _).2 h
    rw [hcA p hp, hm, idx_pre h1]
    unfold clsTo
    rw [← hK]
    exact List.idxOf_lt_length_iff.2 h1
  by_cases hin : K[q] ∈ K.take q
  · left
    refine ⟨hlow q hKq hin, ?_⟩
    unfold clsTo
    rw [← hK, e1, dd_snoc, addD_old ((dd_mem _ _).2 hin)]
  · right
    have hnd : K[q] ∉ dd (K.take q) := fun h => hin ((dd_mem _ _).1 h)
    have e2 : clsTo a (q + 1) = clsTo a q + 1 := by
      unfold clsTo
      rw [← hK, e1, dd_snoc, addD_new hnd]
      simp
    have e3 : cA a q = clsTo a q := by
      rw [hcA q hKq]
      obtain ⟨m2, hm2⟩ := dd_append (K.take (q + 1)) (K.drop (q + 1))
      rw [List.take_append_drop, e1, dd_snoc, addD_new hnd] at hm2
      rw [hm2, List.append_assoc, List.idxOf_append, if_neg hnd]
      unfold clsTo
      rw [← hK]
      simp
    refine ⟨e3, e2, ?_⟩
    unfold repA
    have hcl : q < (clsA a).length := by rw [clsA_len]; exact hq
    have hget : (clsA a)[q] = clsTo a q := by rw [clsA_get a hcl, e3]
    have hle : (clsA a).idxOf (clsTo a q) ≤ q := by
      rw [← hget]
      exact idxOf_le_get _ _ hcl
    rcases Nat.lt_or_ge ((clsA a).idxOf (clsTo a q)) q with hlt | hge
    · exfalso
      have h1 : (clsA a).idxOf (clsTo a q) < (clsA a).length := by omega
      have h2 : (clsA a)[(clsA a).idxOf (clsTo a q)] = clsTo a q := List.getElem_idxOf h1
      rw [clsA_get a h1] at h2
      have hpK : (clsA a).idxOf (clsTo a q) < K.length := by omega
      have h3 := hlow _ hpK (by
        rw [List.mem_take_iff_getElem]
        exact ⟨_, by omega, rfl⟩)
      omega
    · omega

end Go.Proofs.YtjhlbeamfngebaaDoor

/- The program's CountAccepted. -/
namespace Go.Proofs.YtjhlbeamfngebaaDoor
open Go.RowKit Go.BigFrame AG

/-- A list of n numbers in a block: those below q are what f says. -/
structure NumsIn (cs : Array Value) (n : Nat) (f : Nat → Nat) : Prop where
  size : cs.size = n
  at_ : ∀ p, p < n → cs[p]? = some (.int .i64 (f p : Nat))
theorem NumsIn.set_ {cs : Array Value} {n : Nat} {f f' : Nat → Nat} {p : Nat} {v : Int} (h : NumsIn cs n f) (hp : p < n) (hv : v = ((f' p : Nat) : Int)) (ho : ∀ q, q ≠ p → f' q = f q) : NumsIn (cs.setIfInBounds p (.int .i64 v)) n f' := by
  refine ⟨by simpa using h.size, fun q hq => ?_⟩
  by_cases e : q = p
  · subst e
    rw [Array.getElem?_setIfInBounds_self_of_lt (by rw [h.size]; exact hq), hv]
  · rw [Array.getElem?_setIfInBounds_ne (Ne.symm e), h.at_ q hq, ho q e]

theorem NumsIn.congr {cs : Array Value} {n : Nat} {f f' : Nat → Nat} (h : NumsIn cs n f) (e : ∀ p, f p = f' p) : NumsIn cs n f' := by
  have : f = f' := funext e
  rw [← this]
  exact h
end Go.Proofs.YtjhlbeamfngebaaDoor

/- The program's trim: what can be reached, numbered anew. -/
namespace Go.Proofs.YtjhlbeamfngebaaDoor
open Go.RowKit Go.BigFrame Go.Maps AG

theorem infoBoolT : (Tryd.prog.info? 4).map (fun i => (i.zero, i.size, i.bytes)) = some (some (.bool false), 1, 1) := by kernel_rfl

set_option maxRecDepth 100000 in
set_option maxHeartbeats 1000000 in
theorem trimStep_any (a : Au) (m g bT q l : Nat) (w : World) (hq : q < m) (hm : m ≤ 4096) (hl : l < 6) (hT : TabA w g m a) (hc : w.cell? ⟨bT, 0, none⟩ = some (.slice (some ⟨g, 0, none⟩) m m)) :
    Calls Tryd.prog 168 #[.int .i64 (q : Nat), .int .i64 (l : Nat), .pointer (some ⟨bT, 0, none⟩)] w fun e w' => e = .returned (.int .i64 (goA a q l : Nat)) ∧ Below w.heap.size w w' := by
  obtain ⟨t, ht⟩ : ∃ t, Hid (t = goA a q l) := ⟨_, hid rfl⟩
  have c1 := hT.2 q l hq hl
  rw [← ht.out] at c1 ⊢
  have k1 : (0 : Int) ≤ (q : Int) ∧ (q : Int) < (m : Int) ∧ (0 : Int) ≤ (l : Int) ∧ (l : Int) < 6 := by omega
  replace hT := hid hT
  go_enter Tryd.func168, Tryd.ntmps168
  go_wp2
  go_ret
  exact ⟨rfl, Below.refl _ _⟩
theorem trimStep_ok {a : Au} {m g bT : Nat} {w : World} (hok : auOk a = true) (hm : m = a.nx.length) (hT : TabA w g m a) (hc : w.cell? ⟨bT, 0, none⟩ = some (.slice (some ⟨g, 0, none⟩) m m)) :
    NumOk w (fun q => q < m) (letters a.al) (goA a) 168 #[.pointer (some ⟨bT, 0, none⟩)] := by
  have h12 := ((auOk_iff a).1 hok).2.2.1
  refine ⟨fun args w' => by go_simp, fun w' q l hb hq hl => ?_, fun q l hq _ => ?_, fun q hq => ?_⟩
  · exact trimStep_any a m g bT q l w' hq (by omega) (letters_lt hl).1 (hT.later hb) ((hb.cell (World.block_lt_of_cell? _ _ hc)).trans hc)
  · have := goA_lt (l := l) hok (show q < a.nx.length by omega)
    omega
  · omega

/-- What trim holds in memory. -/
structure TrimSt (w3 wr : World) (gO : Nat) (al : Int) (vR vA : Value) (acs : List Bool) : Prop where
  below : Below w3.heap.size w3 wr
  ge : w3.heap.size ≤ gO
  acc : wr.ownsRow w3.heap.size 4 1 vA acs.length (boolVals acs)
  blk : Blk wr gO 26 #[.int .i64 al, vR, vA]
theorem TrimSt.later {w3 wr w' : World} {gO : Nat} {al : Int} {vR vA : Value} {acs : List Bool} (h : TrimSt w3 wr gO al vR vA acs) (hb : Below wr.heap.size wr w') : TrimSt w3 w' gO al vR vA acs :=
  ⟨h.below.trans (hb.mono h.below.size), h.ge, own_later_ h.acc hb, h.blk.below hb h.blk.lt⟩
theorem TrimSt.put {w3 wr w1 : World} {gO : Nat} {al : Int} {vR vA vA' : Value} {acs : List Bool} {t : Bool} (h : TrimSt w3 wr gO al vR vA acs) (hg : wr.grownBy w1 vA.ownBlock)
    (ho : w1.ownsRow w3.heap.size 4 1 vA' (acs.length + 1) (boolVals acs ++ [.bool t])) : TrimSt w3 (w1.setCell ⟨gO, 2, none⟩ vA') gO al vR vA' (acs ++ [t]) := by
  have hkA : KeepB (fun b => vA.ownBlock = some b) wr w1 := (KeepB.refl _ wr).grown hg fun k hk _ => hk
  have hblk1 : Blk w1 gO 26 #[.int .i64 al, vR, vA] := h.blk.keep hkA fun e => own_ne h.acc h.blk (by decide) _ e rfl
  have hkB : KeepB (fun b => b = gO) w1 (w1.setCell ⟨gO, 2, none⟩ vA') := (KeepB.refl _ w1).setCell _ _ fun _ => rfl
  have hb1 : Below w3.heap.size w3 w1 := hkA.below h.below h.below.size fun b e => own_block h.acc b e
  refine ⟨hkB.below hb1 hb1.size fun b e => by rw [e]; exact h.ge, h.ge, ?_, by simpa using hblk1.set_ 2 vA'⟩
  have h2 : w1.ownsRow w3.heap.size 4 1 vA' (acs ++ [t]).length (boolVals (acs ++ [t])) := by
    unfold boolVals at ho ⊢
    rw [List.length_append, List.map_append]
    exact ho
  exact own_keep h2 hkB (own_ne h2 hblk1 (by decide))

def TrimsTo (a : Au) (w : World) (e : Ending) (w' : World) : Prop :=
  Below w.heap.size w w' ∧ ∃ v1 v2 xs, e = .returned (.agg #[.int .i64 a.al, v1, v2]) ∧ AuOwn w' w.heap.size v1 v2 (trimA a) xs

set_option maxRecDepth 100000 in
set_option maxHeartbeats 4000000 in
theorem trim_any (a : Au) (A B : Option Addr) (c d : Nat) (x : List Nat × List (List Nat)) (w : World) (hok : auOk a = true) (hx : trimOpt a = some x) (ha : AuAt w A c B d a) :
    Calls Tryd.prog 115 #[a.val A c B d] w (TrimsTo a w) := by
  obtain ⟨halp, hn1, hn12, hn3, -⟩ := (auOk_iff a).1 hok
  obtain ⟨b0, hbi, hb0, hb1', hb2'⟩ := info_parts infoBoolT
  obtain ⟨w0, hw0, hz0, hB0, hS, -⟩ := boxed2 w #[Value.int IntKind.i64 a.al, Value.slice A a.nx.length c, Value.slice B a.ac.length d] 26 #[Value.int IntKind.i64 0, Value.slice none 0 0, Value.slice none 0 0] 26
  have hres : Blk w0 (w.heap.size + 1) 26 #[Value.int IntKind.i64 0, Value.slice none 0 0, Value.slice none 0 0] := by
    rw [← hw0]
    have := Blk.new (w.alloc (.cells #[Value.int IntKind.i64 a.al, Value.slice A a.nx.length c, Value.slice B a.ac.length d] 26)) 26 #[Value.int IntKind.i64 0, Value.slice none 0 0, Value.slice none 0 0]
    simpa using this
  have ha0 := hid (ha.later hB0)
  have p0 := hS 0 _ rfl _ (Below.refl _ _)
  have p1 := hS 1 _ rfl _ (Below.refl _ _)
  have p2 := hS 2 _ rfl _ (Below.refl _ _)
  replace ha := hid ha
  replace hres := hid hres
  have hok' := hid hok
  have hn3' := hid hn3
  clear hok hn3
  replace halp := hid halp
  have hxl12 : x.1.length ≤ a.nx.length := (numRes_len hx).1
  have hxq : Hid (∀ q ∈ x.1, q < a.nx.length) := hid (by
    rw [(numRes_spec hx).1]
    exact nsAt_all (P := fun q => q < a.nx.length) (by omega) (fun q hq l _ => goA_lt hok'.out hq) _)
  have htr : Hid (trimA a = ⟨a.al, toRows x.2, x.1.map fun q => a.ac.getD q false⟩) := hid (by unfold trimA; rw [hx])
  replace hx := hid hx
  unfold AG.Au.val
  go_enter Tryd.func115, Tryd.ntmps115
  go_wp2_with fail
  refine (tableOf_any a A B c d w0 (by omega) (tabOk_of hok'.out) ha0.out).mono ?_
  rintro e w1 ⟨g, rfl, hg, hb1⟩
  have hB1 := hB0.trans (hb1.mono hB0.size)
  clear p0 p1 p2
  replace hg := hid hg
  have hz1 := hb1.size
  go_upto_region 2 with fail
  obtain ⟨w2, hw2, hz2, hB2', hU⟩ := boxed w1 #[.slice (some ⟨g, 0, none⟩) a.nx.length a.nx.length] 172
  rw [hw2]
  clear hw2 hw0
  have hB2 := hB1.trans (hB2'.mono hB1.size)
  have hb02 := hb1.trans (hB2'.mono hz1)
  have hg2 := hid (hg.out.later hB2')
  have ha2 := hid (ha0.out.later hb02)
  have hres2 := hid (hres.out.below hb02 hres.out.lt)
  have hU' := hid (fun w' (hb : Below w2.heap.size w2 w') => hU 0 _ rfl w' (hb.mono hz2))
  have hS0 := hid (fun w' (hb : Below w2.heap.size w2 w') => hS 0 _ rfl w' ((hb02.trans (hb.mono hb02.size)).mono hz0))
  have hS2 := hid (fun w' (hb : Below w2.heap.size w2 w') => hS 2 _ rfl w' ((hb02.trans (hb.mono hb02.size)).mono hz0))
  have y0 := fun x => hU'.out _ (Fam.below w2.heap.size w2 x)
  have y1 := fun x => hS0.out _ (Fam.below w2.heap.size w2 x)
  have hz2g : w.heap.size + 2 ≤ w2.heap.size := Nat.le_trans hz0 hb02.size
  clear hU
  refine wp_region_grow 14 w2.heap.size w2 (fun i u w' => if i = 2 then OwnNats w' w2.heap.size u (letters a.al) else ∃ v1 v2 xs, u = numV v1 v2 true ∧ OwnNats w' w2.heap.size v1 x.1 ∧ RowsOwn w' w2.heap.size v2 xs ∧ xs.map (·.r) = toRows x.2) (by kernel_rfl) (by kernel_rfl) (Nat.le_refl _) (Below.refl _ _) ?_
  simp only [List.take_succ_cons, List.take_zero, List.drop_succ_cons, List.drop_zero]
  (repeat (refine grow_quiet (by rfl) (by rfl) (by rfl) ?_; intro K hK; go_big_quiet_op; go_big_quiet_on))
  refine grow_call (by rfl) (by rfl) (fun u v v' hb h => ?_) (fun wq hbq _ => ?_) fun u hu => ?_
  · exact own_keep h (.of_below (K := fun _ => False) hb) fun _ _ h => h
  · go_simp
    refine ⟨rfl, (lettersOf_any a.al wq).mono ?_⟩
    rintro e w5 ⟨v, rfl, ho, hb5⟩
    exact ⟨v, rfl, hb5, own_base ho hbq.size⟩
  simp only [Act.put, List.setIfInBounds_toArray, List.set_cons_zero, List.set_cons_succ]
  (repeat (refine grow_quiet (by rfl) (by rfl) (by rfl) ?_; intro K hK; go_big_quiet_op; go_big_quiet_on))
  refine grow_call (by rfl) (by rfl) (fun v x x' hb h => ?_) (fun wq hbq hfx => ?_) fun u2 hu2 => ?_
  · obtain ⟨v1, v2, xs, h1, h2, h3, h4⟩ := h
    exact ⟨v1, v2, xs, h1, own_keep h2 (.of_below (K := fun _ => False) hb) fun _ _ h => h, h3.later hb, h4⟩
  · have hlet : OwnNats wq w2.heap.size u (letters a.al) := hfx _ List.mem_cons_self (by kernel_rfl)
    have hcT := hid (hU'.out wq hbq)
    have hgq := hid (hg2.out.later hbq)
    obtain ⟨AL, cL, rfl, hcL, hcL', hLL⟩ := OwnNats.read hlet
    go_simp
    refine ⟨rfl, ?_⟩
    have hnum := numbered_any wq (fun q => q < a.nx.length) (letters a.al) (goA a) 168 _ 0 a.nx.length AL cL (trimStep_ok hok'.out rfl hgq.out hcT.out) (by omega) hn1 (by omega) (lettersTo_len _ 6) hcL hcL' hLL
    refine hnum.mono ?_
    rintro e w6 ⟨hb6, h6⟩
    rw [show numRes (goA a) (letters a.al) 0 a.nx.length = some x from hx.out] at h6
    obtain ⟨v1, v2, xs, rfl, h1, h2, h3⟩ := h6
    exact ⟨_, rfl, hb6, v1, v2, rfl, own_base h1 hbq.size, xs, h2.base hbq.size, h3⟩
  obtain ⟨w6', -, v1, v2, xs, rfl, ho1, ho2, hxr⟩ := hu2
  obtain ⟨A1, c1, rfl, hc1, hc1', -⟩ := OwnNats.read ho1
  obtain ⟨A2, c2, rfl, hc2, hc2'⟩ := own_slice ho2.own
  clear ho1 ho2
  unfold numV
  simp only [Act.put, List.setIfInBounds_toArray, List.set_cons_zero, List.set_cons_succ]
  (repeat (refine grow_quiet (by rfl) (by rfl) (by rfl) ?_; intro K hK; go_big_quiet_op; go_big_quiet_on))
  refine grow_nil ?_
  intro w3 hb3 hf
  have hf6 := hf _ List.mem_cons_self
  dsimp only at hf6
  rw [if_neg (by decide)] at hf6
  obtain ⟨v1, v2, xs', he, hs1, hs2, hxr'⟩ := hf6
  injection he with he
  injection he with he
  injection he with he1 he
  injection he with he2 he
  subst he1
  subst he2
  clear he hf y0 y1
  obtain ⟨A1', c1', he, -, -, hN1⟩ := OwnNats.read hs1
  injection he with e1 e2 e3
  subst e1
  have hB3 := hB2.trans (hb3.mono hB2.size)
  have hxl : xs'.length = xs.length := by
    have h1 := congrArg List.length hxr
    have h2 := congrArg List.length hxr'
    rw [List.length_map] at h1 h2
    omega
  have hz3 := hb3.size
  have hst0 : Hid (TrimSt w3 (w3.alloc (.cells #[.int .i64 a.al, .slice A2 xs.length c2, .slice none 0 0] 26)) w3.heap.size a.al (.slice A2 xs.length c2) (.slice none 0 0) []) :=
    hid ⟨(Below.refl _ _).alloc (Nat.le_refl _) _, Nat.le_refl _, World.ownsRow_nil _ _ _ _, Blk.new _ _ _⟩
  have p0 := hS0.out w3 hb3
  have ha3 := hid (ha2.out.later hb3)
  have hres3 := hid (hres2.out.below hb3 hres2.out.lt)
  have hS2' := hid (fun w' (hb : Below w3.heap.size w3 w') => hS2.out w' (hb3.trans (hb.mono hz3)))
  replace hN1 := hid hN1
  replace hs1 := hid hs1
  replace hs2 := hid hs2
  replace hxr := hid hxr
  replace hxr' := hid hxr'
  clear hS
  go_wp2_with fail
  go_loopw [29] (fun iv wr => ∃ (i : Nat) (vA : Value), iv = .int .i64 (i : Nat) ∧ i ≤ x.1.length ∧ TrimSt w3 wr w3.heap.size a.al (.slice A2 xs.length c2) vA ((x.1.take i).map fun q => a.ac.getD q false)) (fun iv _ => x.1.length - (intOf iv).toNat)
  case atStart => exact ⟨0, _, rfl, Nat.zero_le _, hst0.out⟩
  case round =>
    clear hst0 p0
    obtain ⟨i, vA, rfl, hi, hst⟩ := hrel
    have hBm := hst.below
    have hzm := hBm.size
    have hBw := hB3.trans (hBm.mono hB3.size)
    obtain ⟨acs, hacs⟩ : ∃ acs, acs = (x.1.take i).map fun q => a.ac.getD q false := ⟨_, rfl⟩
    rw [← hacs] at hst
    have hal : acs.length = i := by rw [hacs, List.length_map, List.length_take]; omega
    obtain ⟨AA, cA, rfl, hcA, hcA'⟩ := own_slice hst.acc
    have hgO := hst.blk.lt
    by_cases hlt : i < x.1.length
    · obtain ⟨bN, oN, hA1, hbN, hEN⟩ := hN1.out (by omega)
      subst hA1
      have a0 := (hBm.cell (p := ⟨bN, oN + i, none⟩) (by simpa using hbN)).trans (hEN i hlt)
      obtain ⟨q, hq⟩ : ∃ q, Hid (q = x.1[i]) := ⟨_, hid rfl⟩
      rw [← hq.out] at a0
      have hqn : q < a.nx.length := hxq.out q (by rw [hq.out]; exact List.getElem_mem hlt)
      have hqa : q < a.ac.length := by have := hn3'.out; omega
      obtain ⟨bB, oB, hB', hbB, hEB⟩ := (ha3.out.later hBm).acc (by omega)
      subst hB'
      have a1 := hEB q hqa
      obtain ⟨t, ht⟩ : ∃ t, Hid (t = a.ac[q]) := ⟨_, hid rfl⟩
      rw [← ht.out] at a1
      have a2 : wr.cell? ⟨w.heap.size, 2, none⟩ = some (.slice (some ⟨bB, oB, none⟩) a.ac.length d) := hS2'.out wr hBm
      have a3 := hst.blk.cell 2
      simp only [List.getElem?_toArray, List.getElem?_cons_zero, List.getElem?_cons_succ] at a3
      have hlw : w.heap.size < wr.heap.size := by omega
      have y0 : ∀ x', (Fam wr.heap.size wr x').cell? ⟨w3.heap.size, 2, none⟩ = some (.slice AA acs.length cA) := fun x' => by rw [(Fam.below wr.heap.size wr x').cell (by simpa using hgO)]; exact a3
      have y1 : ∀ x', (Fam wr.heap.size wr x').cell? ⟨w.heap.size, 2, none⟩ = some (.slice (some ⟨bB, oB, none⟩) a.ac.length d) := fun x' => by rw [(Fam.below wr.heap.size wr x').cell (by simpa using hlw)]; exact a2
      have y2 : ∀ x', (Fam wr.heap.size wr x').cell? ⟨bB, oB + q, none⟩ = some (.bool t) := fun x' => by rw [(Fam.below wr.heap.size wr x').cell (by simpa using hbB)]; exact a1
      have hacs2 : Hid (acs ++ [t] = (x.1.take (i + 1)).map fun q => a.ac.getD q false) := hid (by
        rw [hacs, List.take_succ_eq_append_getElem hlt, List.map_append, List.map_singleton, ← hq.out, ht.out]
        congr 2
        rw [List.getD_eq_getElem?_getD, List.getElem?_eq_getElem hqa]
        rfl)
      have k1 : (0 : Int) ≤ (i : Int) ∧ (i : Int) < (x.1.length : Int) ∧ (0 : Int) ≤ (q : Int) ∧ (q : Int) < (a.ac.length : Int) := by omega
      have hst' := hid hst
      replace hacs := hid hacs
      replace hEN := hid hEN
      replace hEB := hid hEB
      replace hal := hid hal
      clear hst a1 a2 a3
      go_wp2_with fail
      refine wp_region_grow 8 wr.heap.size wr (fun _ _ _ => True) (by kernel_rfl) (by kernel_rfl) (Nat.le_refl _) (Below.refl _ _) ?_
      simp only [List.take_succ_cons, List.take_zero, List.drop_succ_cons, List.drop_zero]
      (repeat (refine grow_quiet (by rfl) (by rfl) (by rfl) ?_; intro K hK; go_big_quiet_op; go_big_quiet_on))
      refine grow_new (by rfl) (fun b => .slice (some ⟨b, 0, none⟩) 1 1) 4 #[.bool t] (fun _ => by go_simp) (fun _ => rfl) (Nat.le_refl _) fun g3 hg3 => ?_
      simp only [Act.put, List.setIfInBounds_toArray, List.set_cons_zero, List.set_cons_succ]
      refine grow_nil ?_
      intro w7 hb7 hf
      obtain ⟨g3', hge, -, hblk3⟩ := hf _ List.mem_cons_self
      cases hge
      have hnew3 := hid (Blk.news hblk3)
      clear hblk3 hf y0 y1 y2
      have hst7 := hst'.out.later hb7
      have hoA := hid hst7.acc
      have hz7 := hst7.below.size
      have hbk7 := hid hst7.blk
      have hst7' := hid hst7
      have hal' : acs.length ≤ 12 := by have := hal.out; omega
      clear hst7
      go_wp2_with (at_builtin; refine wpList_append_own_at _ rfl _ _ 24 rfl w3.heap.size 4 b0 (.bool false) 1 1 Tryd.underlying24 hbi hb0 hb1' hb2' rfl (by decide) _ _ _ rfl (hoA.out) ⟨g3, 0, none⟩ 1 1 [.bool t] rfl rfl hnew3.out (by intro u hu; simp at hu; subst hu; rfl) (by unfold maxLen; omega) (by omega) (by first | omega | (simp; omega)) ?_; intro v8 w8 hO8 hg8 _ hat8; obtain ⟨Av8, cv8, ev8, -, -⟩ := own_slice hO8; subst ev8; have hbk8 : Blk w8 w3.heap.size 26 _ := hbk7.out.keep ((KeepB.refl (fun b => (Value.slice AA acs.length cA).ownBlock = some b) _).grown hg8 (fun k hk _ => hk)) (fun e => own_ne hoA.out hbk7.out (by decide) _ e rfl); have d2 := hbk8.cell 2; have z2 := hbk8.frozen 2; simp only [List.getElem?_toArray, List.getElem?_cons_zero, List.getElem?_cons_succ] at d2; have hst8 := hid (hst7'.out.put (t := t) hg8 hO8); replace hbk8 := hid hbk8; clear hO8 hg8 hat8)
      go_roundw
      case rel =>
        have h8 := hst8.out
        rw [hacs2.out] at h8
        exact ⟨i + 1, _, by go_num, by omega, h8⟩
      case measure => simp [intOf]; omega
    · obtain rfl : i = x.1.length := by omega
      have hbk := hst.blk
      have d0 := hbk.cell 0
      have d1 := hbk.cell 1
      have d2 := hbk.cell 2
      have hresr := hres3.out.below hBm hres3.out.lt
      have q0 := hresr.cell 0
      have q1 := hresr.cell 1
      have q2 := hresr.cell 2
      have f0 := hresr.frozen 0
      have f1 := hresr.frozen 1
      have f2 := hresr.frozen 2
      simp only [List.getElem?_toArray, List.getElem?_cons_zero, List.getElem?_cons_succ] at q0 q1 q2 d0 d1 d2
      have hau : Hid (AuOwn wr w2.heap.size (.slice A2 xs.length c2) (.slice AA acs.length cA) (trimA a) xs') := hid (by
        rw [htr.out]
        rw [List.take_length] at hacs
        refine ⟨hs2.out.later hBm, hxr'.out, ?_⟩
        show wr.ownsRow w2.heap.size 4 1 _ (x.1.map fun q => a.ac.getD q false).length (boolVals (x.1.map fun q => a.ac.getD q false))
        rw [← hacs]
        exact own_base hst.acc hz3)
      have hlt2 : w.heap.size + 1 < w2.heap.size := by omega
      replace hst := hid hst
      replace hbk := hid hbk
      replace hBm := hid hBm
      replace hresr := hid hresr
      replace hacs := hid hacs
      obtain ⟨nA, hnA⟩ : ∃ nA, nA = acs.length := ⟨_, rfl⟩
      rw [← hnA] at hau d2
      replace hnA := hid hnA
      replace hal := hid hal
      go_wp2
      refine bodyPost_ret (v := .agg #[.int .i64 a.al, .slice A2 xs.length c2, .slice AA nA cA]) (by simp [results, Tryd.results115, go_sem, q0, q1, q2]) rfl ?_
      exact ⟨by (repeat (first | exact Below.refl _ _ | assumption | refine Below.drew ?_ | refine Below.alloc ?_ (by first | omega | (simp; done) | (simp; omega)) _ | refine Below.setCell ?_ (by first | omega | (simp; done) | (simp; omega)) _)), _, _, xs', rfl, (((hau.out.setFar hlt2 _).setFar hlt2 _).setFar hlt2 _).base (by omega)⟩

end Go.Proofs.YtjhlbeamfngebaaDoor

/- The program's search in two automata: firstOfBoth, FirstOutside, LanguageWithin. -/
namespace Go.Proofs.YtjhlbeamfngebaaDoor
open Go.RowKit Go.BigFrame AG

def cmpAu (a b : Au) : Bool := auOk a && (auOk b && decide (a.al = b.al))
theorem wrap_addN (a b : Nat) (h : a + b < 9223372036854775807) : wrap64 ((a : Int) + (b : Int)) = ((a + b : Nat) : Int) := by
  rw [← Int.natCast_add]
  exact IntWalk.wrap64_in _ ⟨by omega, by omega⟩
set_option maxRecDepth 100000 in
set_option maxHeartbeats 4000000 in
theorem bothNext_any (a b : Au) (gS gT bS bN bT base m q l : Nat) (v : Value) (ns : List Nat) (w : World) (hq : q < m * b.nx.length) (hm : m = a.nx.length) (hm12 : m ≤ 12) (hn1 : 1 ≤ b.nx.length) (hn12 : b.nx.length ≤ 12) (hl : l < 6) (hx : goA a (q / b.nx.length) l < 12) (hy : goA b (q % b.nx.length) l < 12)
    (hS : TabA w gS m a) (hT : TabA w gT b.nx.length b) (hcS : w.cell? ⟨bS, 0, none⟩ = some (.slice (some ⟨gS, 0, none⟩) m m)) (hcN : w.cell? ⟨bN, 0, none⟩ = some (.int .i64 (b.nx.length : Nat))) (hcT : w.cell? ⟨bT, 0, none⟩ = some (.slice (some ⟨gT, 0, none⟩) b.nx.length b.nx.length))
    (hns : ns.length ≤ 4294967296) (hb : base ≤ w.heap.size) (hown : w.ownsRow base 3 1 v ns.length (natVals ns)) :
    Calls Tryd.prog 164 #[.int .i64 (q : Nat), .int .i64 (l : Nat), v, .pointer (some ⟨bS, 0, none⟩), .pointer (some ⟨bN, 0, none⟩), .pointer (some ⟨bT, 0, none⟩)] w fun e w' =>
      ∃ v', e = .returned v' ∧ w'.ownsRow base 3 1 v' (ns ++ [goB a b q l]).length (natVals (ns ++ [goB a b q l])) ∧ KeepB (fun b => v.ownBlock = some b) w w' := by
  obtain ⟨i0, hi, hz0, hz1, hz2⟩ := info_parts infoInt
  have hqn : q / b.nx.length < m := Nat.div_lt_of_lt_mul (by rw [Nat.mul_comm]; exact hq)
  have hrn : q % b.nx.length < b.nx.length := Nat.mod_lt _ hn1
  have hq144 : q < 144 := Nat.lt_of_lt_of_le hq (Nat.le_trans (Nat.mul_le_mul hm12 hn12) (by decide))
  obtain ⟨X, hX⟩ : ∃ X, Hid (X = goA a (q / b.nx.length) l) := ⟨_, hid rfl⟩
  obtain ⟨Y, hY⟩ : ∃ Y, Hid (Y = goA b (q % b.nx.length) l) := ⟨_, hid rfl⟩
  have c1 := hS.2 _ l hqn hl
  have c2 := hT.2 _ l hrn hl
  rw [← hX.out] at c1 hx
  rw [← hY.out] at c2 hy
  obtain ⟨n, hn⟩ : ∃ n, Hid (n = b.nx.length) := ⟨_, hid rfl⟩
  have hgo : Hid (goB a b q l = X * n + Y) := hid (by unfold goB; rw [hX.out, hY.out, hn.out])
  rw [← hn.out] at hq hn1 hn12 hqn hrn c1 c2 hcN hcT
  rw [hgo.out]
  have hgS := hS.1
  have hgT := hT.1
  obtain ⟨Q, hQ⟩ : ∃ Q, Hid (Q = q / n) := ⟨_, hid rfl⟩
  obtain ⟨R, hR⟩ : ∃ R, Hid (R = q % n) := ⟨_, hid rfl⟩
  rw [← hQ.out] at hqn c1
  rw [← hR.out] at hrn c2
  have e1 : ((q : Nat) : Int) / ((n : Nat) : Int) = (Q : Int) := by rw [hQ.out]; exact (Int.natCast_ediv q n).symm
  have e2 : ((q : Nat) : Int) % ((n : Nat) : Int) = (R : Int) := by rw [hR.out]; exact (Int.natCast_emod q n).symm
  have e3 : Int.tdiv ((q : Nat) : Int) ((n : Nat) : Int) = (Q : Int) := by rw [Int.tdiv_eq_ediv_of_nonneg (by omega), e1]
  have e4 : Int.tmod ((q : Nat) : Int) ((n : Nat) : Int) = (R : Int) := by rw [Int.tmod_eq_emod_of_nonneg (by omega), e2]
  have hz : ((n : Nat) : Int) ≠ 0 := by omega
  have hz' : (((n : Nat) : Int) == 0) = false := by simpa using hz
  obtain ⟨Av, cv, rfl, -, -⟩ := own_slice hown
  have hbS := World.block_lt_of_cell? _ _ hcS
  have hbN := World.block_lt_of_cell? _ _ hcN
  have hbT := World.block_lt_of_cell? _ _ hcT
  have y0 : ∀ x, (Fam w.heap.size w x).cell? ⟨bS, 0, none⟩ = some (.slice (some ⟨gS, 0, none⟩) m m) := fun x => by rw [(Fam.below w.heap.size w x).cell (by simpa using hbS)]; exact hcS
  have y1 : ∀ x, (Fam w.heap.size w x).cell? ⟨bN, 0, none⟩ = some (.int .i64 (n : Nat)) := fun x => by rw [(Fam.below w.heap.size w x).cell (by simpa using hbN)]; exact hcN
  have y2 : ∀ x, (Fam w.heap.size w x).cell? ⟨bT, 0, none⟩ = some (.slice (some ⟨gT, 0, none⟩) n n) := fun x => by rw [(Fam.below w.heap.size w x).cell (by simpa using hbT)]; exact hcT
  have y3 : ∀ x, (Fam w.heap.size w x).cell? ⟨gS, Q * 6 + l, none⟩ = some (.int .i64 (X : Nat)) := fun x => by rw [(Fam.below w.heap.size w x).cell (by simpa using hgS)]; exact c1
  have y4 : ∀ x, (Fam w.heap.size w x).cell? ⟨gT, R * 6 + l, none⟩ = some (.int .i64 (Y : Nat)) := fun x => by rw [(Fam.below w.heap.size w x).cell (by simpa using hgT)]; exact c2
  have k1 : (0 : Int) ≤ (Q : Int) ∧ (Q : Int) < (m : Int) ∧ (0 : Int) ≤ (R : Int) ∧ (R : Int) < (n : Int) ∧ (0 : Int) ≤ (l : Int) ∧ (l : Int) < 6 := by omega
  obtain ⟨P, hP⟩ : ∃ P, Hid (P = X * n) := ⟨_, hid rfl⟩
  have hP144 : P ≤ 144 := by rw [hP.out]; exact Nat.le_trans (Nat.mul_le_mul (Nat.le_of_lt hx) hn12) (by decide)
  have e5 : wrap64 ((X : Int) * (n : Int)) = (P : Int) := by rw [← Int.natCast_mul, ← hP.out]; exact IntWalk.wrap64_in _ ⟨by omega, by omega⟩
  have e6 := wrap_addN P Y (Nat.lt_of_le_of_lt (Nat.add_le_add hP144 (Nat.le_of_lt hy)) (by decide))
  rw [← hP.out]
  obtain ⟨Z, hZ⟩ : ∃ Z, Hid (Z = P + Y) := ⟨_, hid rfl⟩
  rw [← hZ.out] at e6 ⊢
  replace hown := hid hown
  replace hS := hid hS
  replace hT := hid hT
  clear c1 c2 hcS hcN hcT e1 e2 hP144 hbS hbN hbT hq144 hgS hgT
  subst hm
  go_enter Tryd.func164, Tryd.ntmps164
  go_upto_region 1 with fail
  refine wp_region_grow 21 w.heap.size w (fun _ _ _ => True) (by kernel_rfl) (by kernel_rfl) (Nat.le_refl _) (Below.refl _ _) ?_
  simp only [List.take_succ_cons, List.take_zero, List.drop_succ_cons, List.drop_zero]
  (repeat (refine grow_quiet (by rfl) (by rfl) (by rfl) ?_; intro K hK; go_big_quiet_op; go_big_quiet_on))
  rw [e6]
  refine grow_new (by rfl) (fun b => .slice (some ⟨b, 0, none⟩) 1 1) 3 #[.int .i64 (Z : Nat)] (fun _ => by go_simp) (fun _ => rfl) (Nat.le_refl _) fun g3 hg3 => ?_
  simp only [Act.put, List.setIfInBounds_toArray, List.set_cons_zero, List.set_cons_succ]
  refine grow_nil ?_
  intro w7 hb7 hf
  obtain ⟨g3', hge, -, hblk3⟩ := hf _ List.mem_cons_self
  cases hge
  have hnew3 := hid (Blk.news hblk3)
  clear hblk3 hf y0 y1 y2 y3 y4
  have hoA := hid (own_later_ hown.out hb7)
  have hz7 := hb7.size
  go_wp2_with (at_builtin; refine wpList_append_own_at _ rfl _ _ 72 rfl base 3 i0 (.int .i64 0) 1 8 Tryd.underlying72 hi hz0 hz1 hz2 rfl (by decide) _ _ _ rfl (hoA.out) ⟨g3, 0, none⟩ 1 1 [.int .i64 (Z : Nat)] rfl rfl hnew3.out (by intro u hu; simp at hu; subst hu; rfl) (by unfold maxLen; omega) (by omega) (by first | omega | (simp; omega)) ?_; intro v5 w5 hO5 hg5 _ hat5; obtain ⟨A5, c5, ev5, -, -⟩ := own_slice hO5; subst ev5; replace hO5 := hid hO5; replace hg5 := hid hg5)
  go_ret
  refine ⟨_, rfl, ?_, (KeepB.of_below (K := fun b => (Value.slice Av ns.length cv).ownBlock = some b) hb7).grown hg5.out fun k hk _ => hk⟩
  have := hO5.out
  rw [List.length_append]
  unfold natVals at this ⊢
  rw [List.map_append]
  exact this

end Go.Proofs.YtjhlbeamfngebaaDoor

/- The program's search in two automata: comparable2, firstOfBoth. -/
namespace Go.Proofs.YtjhlbeamfngebaaDoor
open Go.RowKit Go.BigFrame AG

set_option maxRecDepth 100000 in
set_option maxHeartbeats 4000000 in
theorem cmp2_any (a b : Au) (A B A' B' : Option Addr) (c d c' d' : Nat) (w : World) (ha : AuAt w A c B d a) (hb : AuAt w A' c' B' d' b) :
    Calls Tryd.prog 47 #[a.val A c B d, b.val A' c' B' d'] w fun e w' => e = .returned (.bool (cmpAu a b)) ∧ Below w.heap.size w w' := by
  obtain ⟨w0, hw0, hz0, hB0, hS, hU⟩ := boxed2 w #[Value.int IntKind.i64 a.al, Value.slice A a.nx.length c, Value.slice B a.ac.length d] 26 #[Value.int IntKind.i64 b.al, Value.slice A' b.nx.length c', Value.slice B' b.ac.length d'] 26
  have ha0 := hid (ha.later hB0)
  have hb0 := hid (hb.later hB0)
  have p0 := hS 0 _ rfl _ (Below.refl _ _)
  have p1 := hS 1 _ rfl _ (Below.refl _ _)
  have p2 := hS 2 _ rfl _ (Below.refl _ _)
  replace ha := hid ha
  replace hb := hid hb
  unfold AG.Au.val
  go_enter Tryd.func47, Tryd.ntmps47
  go_wp2_with fail
  refine (implAutomatonValid_any a A B c d w0 ha0.out).mono ?_
  rintro e w1 ⟨rfl, hb1⟩
  clear p0 p1 p2
  have hB1 := hB0.trans (hb1.mono hB0.size)
  have hC1 := hb1.mono hz0
  cases hca : auOk a
  · have hfin : Hid (cmpAu a b = false) := hid (by unfold cmpAu; rw [hca]; rfl)
    replace hca := hid hca
    go_wp2_with fail
    go_ret
    exact ⟨ret_bool (by rw [hfin.out]), hB1⟩
  have q0 := hU 0 _ rfl _ hC1
  have q1 := hU 1 _ rfl _ hC1
  have q2 := hU 2 _ rfl _ hC1
  have hfin : Hid (cmpAu a b = (auOk b && decide (a.al = b.al))) := hid (by unfold cmpAu; rw [hca]; rfl)
  replace hca := hid hca
  go_wp2_with fail
  refine (implAutomatonValid_any b A' B' c' d' w1 (hb0.out.later hb1)).mono ?_
  rintro e w2 ⟨rfl, hb2⟩
  clear q0 q1 q2
  have hB2 := hB1.trans (hb2.mono hB1.size)
  have hC2 := hC1.trans (hb2.mono (by have := hC1.size; omega))
  cases hcb : auOk b
  · have hcb' := hid hcb
    go_wp2_with fail
    go_ret
    exact ⟨ret_bool (by rw [hfin.out, hcb]; rfl), hB2⟩
  have p0 := hS 0 _ rfl _ hC2
  have q0 := hU 0 _ rfl _ hC2
  obtain ⟨t, ht⟩ : ∃ t, (a.al == b.al) = t := ⟨_, rfl⟩
  have htt : Hid (decide (a.al = b.al) = t) := hid (by rw [← ht]; rfl)
  replace hcb := hid hcb
  go_wp2_with fail
  go_ret
  exact ⟨ret_bool (by rw [hfin.out, hcb.out, htt.out, Bool.true_and]), hB2⟩

/-- A test of two truth values, as a function value. -/
structure BoolFn (g : Bool → Bool → Bool) (fg : FuncId) (cg : Array Value) : Prop where
  run : ∀ args w', (callFunc fg args).run Tryd.prog w' = .ok (.enter fg args) w'
  call : ∀ w' x y, Calls Tryd.prog fg (#[.bool x, .bool y] ++ cg) w' fun e w'' => e = .returned (.bool (g x y)) ∧ Below w'.heap.size w' w''
def goalB (a b : Au) (g : Bool → Bool → Bool) (m : Nat) : Bool := g (a.ac.getD (m / b.nx.length) false) (b.ac.getD (m % b.nx.length) false)

set_option maxRecDepth 100000 in
set_option maxHeartbeats 4000000 in
theorem bothGoal_any (a b : Au) (g : Bool → Bool → Bool) (fg : FuncId) (cg : Array Value) (hg : BoolFn g fg cg) (B B' : Option Addr) (d d' bG bA bN bB q : Nat) (w : World) (hq : q < a.ac.length * b.nx.length) (hl : b.ac.length = b.nx.length) (hn : 1 ≤ b.nx.length) (hn12 : b.nx.length ≤ 12) (hm12 : a.ac.length ≤ 12)
    (hA : BoolsAt w w.heap.size B a.ac) (hB : BoolsAt w w.heap.size B' b.ac) (hcG : w.cell? ⟨bG, 0, none⟩ = some (.func (.func fg) #[] cg)) (hcA : w.cell? ⟨bA, 2, none⟩ = some (.slice B a.ac.length d)) (hcN : w.cell? ⟨bN, 0, none⟩ = some (.int .i64 (b.nx.length : Nat))) (hcB : w.cell? ⟨bB, 2, none⟩ = some (.slice B' b.ac.length d')) :
    Calls Tryd.prog 165 #[.int .i64 (q : Nat), .pointer (some ⟨bG, 0, none⟩), .pointer (some ⟨bA, 0, none⟩), .pointer (some ⟨bN, 0, none⟩), .pointer (some ⟨bB, 0, none⟩)] w fun e w' => e = .returned (.bool (goalB a b g q)) ∧ Below w.heap.size w w' := by
  have hqm : q / b.nx.length < a.ac.length := Nat.div_lt_of_lt_mul (by rw [Nat.mul_comm]; exact hq)
  have hrn : q % b.nx.length < b.nx.length := Nat.mod_lt _ hn
  obtain ⟨gA, oA, rfl, hltA, hEA⟩ := hA (Nat.lt_of_le_of_lt (Nat.zero_le _) hqm)
  obtain ⟨gB, oB, rfl, hltB, hEB⟩ := hB (by omega)
  have c1 := hEA _ hqm
  have c2 := hEB (q % b.nx.length) (by omega)
  have hfin : Hid (goalB a b g q = g a.ac[q / b.nx.length] (b.ac[q % b.nx.length]'(by omega))) := hid (by
    unfold goalB
    rw [List.getD_eq_getElem?_getD, List.getD_eq_getElem?_getD, List.getElem?_eq_getElem hqm, List.getElem?_eq_getElem (by omega)]
    rfl)
  rw [hfin.out]
  obtain ⟨x, hx⟩ : ∃ x, x = a.ac[q / b.nx.length] := ⟨_, rfl⟩
  obtain ⟨y, hy⟩ : ∃ y, y = b.ac[q % b.nx.length]'(by omega) := ⟨_, rfl⟩
  rw [← hx] at c1 ⊢
  rw [← hy] at c2 ⊢
  clear hx hy hfin
  obtain ⟨n, hnn⟩ : ∃ n, Hid (n = b.nx.length) := ⟨_, hid rfl⟩
  rw [← hnn.out] at hqm hrn c1 c2 hcN hn hl
  obtain ⟨Q, hQ⟩ : ∃ Q, Hid (Q = q / n) := ⟨_, hid rfl⟩
  obtain ⟨R, hR⟩ : ∃ R, Hid (R = q % n) := ⟨_, hid rfl⟩
  rw [← hQ.out] at hqm c1
  rw [← hR.out] at hrn c2
  have e1 : ((q : Nat) : Int) / ((n : Nat) : Int) = (Q : Int) := by rw [hQ.out]; exact (Int.natCast_ediv q n).symm
  have e2 : ((q : Nat) : Int) % ((n : Nat) : Int) = (R : Int) := by rw [hR.out]; exact (Int.natCast_emod q n).symm
  have e3 : Int.tdiv ((q : Nat) : Int) ((n : Nat) : Int) = (Q : Int) := by rw [Int.tdiv_eq_ediv_of_nonneg (by omega), e1]
  have e4 : Int.tmod ((q : Nat) : Int) ((n : Nat) : Int) = (R : Int) := by rw [Int.tmod_eq_emod_of_nonneg (by omega), e2]
  clear e1 e2
  have hz : ((n : Nat) : Int) ≠ 0 := by omega
  have hz' : (((n : Nat) : Int) == 0) = false := by simpa using hz
  have k1 : (0 : Int) ≤ (Q : Int) ∧ (Q : Int) < (a.ac.length : Int) ∧ (0 : Int) ≤ (R : Int) ∧ (R : Int) < (b.ac.length : Int) := by omega
  have y0 := fun x => (Fam.below w.heap.size w x).cell (World.block_lt_of_cell? _ _ hcG) |>.trans hcG
  have y1 := fun x => (Fam.below w.heap.size w x).cell (World.block_lt_of_cell? _ _ hcA) |>.trans hcA
  have y2 := fun x => (Fam.below w.heap.size w x).cell (World.block_lt_of_cell? _ _ hcN) |>.trans hcN
  have y3 := fun x => (Fam.below w.heap.size w x).cell (World.block_lt_of_cell? _ _ hcB) |>.trans hcB
  have y4 := fun x => (Fam.below w.heap.size w x).cell (World.block_lt_of_cell? _ _ c1) |>.trans c1
  have y5 := fun x => (Fam.below w.heap.size w x).cell (World.block_lt_of_cell? _ _ c2) |>.trans c2
  have hrun := hg.run
  have hcall := hid hg.call
  replace hEA := hid hEA
  replace hEB := hid hEB
  replace hA := hid hA
  replace hB := hid hB
  clear c1 c2 hcG hcA hcN hcB hq hnn hg
  go_enter Tryd.func165, Tryd.ntmps165
  go_upto_region 1 with fail
  refine wp_region_grow 15 w.heap.size w (fun _ _ _ => True) (by kernel_rfl) (by kernel_rfl) (Nat.le_refl _) (Below.refl _ _) ?_
  simp only [List.take_succ_cons, List.take_zero, List.drop_succ_cons, List.drop_zero]
  (repeat (refine grow_quiet (by rfl) (by rfl) (by rfl) ?_; intro K hK; go_big_quiet_op; go_big_quiet_on))
  refine grow_nil ?_
  intro w7 hb7 hf
  clear hf y0 y1 y2 y3 y4 y5
  go_wp2_with fail
  refine (hcall.out w7 x y).mono ?_
  rintro e w8 ⟨rfl, hb8⟩
  have hb := hb7.trans (hb8.mono hb7.size)
  go_wp2_with fail
  go_ret
  exact ⟨rfl, hb⟩

end Go.Proofs.YtjhlbeamfngebaaDoor
