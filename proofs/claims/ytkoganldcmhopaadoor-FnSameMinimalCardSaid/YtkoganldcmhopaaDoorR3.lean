/- Lemmas, part 3: several texts in one. -/
import Derived.Test.YtkoganldcmhopaaDoorR2
import Derived.Test.YtkoganldcmhopaaDoorR1
import Derived.Test.YtkoganldcmhopaaDoorProg
import Derived.Lib.TrailingZeros
import Derived.Laws.Bits64b
import Derived.Shelf.Spec.TrailingZeros
import Derived.Laws.IdiomStrings
import Derived.Maps.AppendAt
import Derived.BigQuiet
set_option linter.unusedSimpArgs false
set_option linter.unusedVariables false

/- A statement that draws its order and whose calls may write some old blocks one after the other: one walk in the order of the text serves every order, if what holds behind m operations is told (I m). -/
namespace AG
open Go Go.RowKit

/-- The ways on of a world: what one operation may do (S), and what holds behind m operations (I m). -/
structure Way (S : World → World → Prop) (I : Nat → World → Prop) : Prop where
  refl : ∀ w, S w w
  trans : ∀ a b c, S a b → S b c → S a c
  more : ∀ m w, I m w → I (m + 1) w

theorem Way.mono {S : World → World → Prop} {I : Nat → World → Prop} (y : Way S I) {m : Nat} {w : World} (h : I m w) : ∀ k, I (m + k) w
  | 0 => h
  | k + 1 => y.more _ _ (y.mono h k)

namespace GK
section
variable {P : Program} {ops : Array Oper} {md : Region.Mode} {n M : Nat} {S : World → World → Prop} {I : Nat → World → Prop} {sp : Nat → Value → World → Prop}

/-- What the check says of the first n operations. -/
structure Ok (md : Region.Mode) (ops : Array Oper) (n : Nat) : Prop where
  sel : Region.noSelect ops = true
  size : n ≤ ops.size
  back : ∀ j, j < n → ∀ k ∈ predsOf md ops j, k < j
  one : ∀ i k t, i < n → k < n → dstOf ops i = some t → dstOf ops k = some t → i = k
  seen : ∀ j k t, j < n → k < n → dstOf ops k = some t → t ∈ looksOf ops j → k ∈ predsOf md ops j

/-- The frames of two ways look the same to an operation whose callers have all come up. -/
theorem Ok.same {L : Nat → Bool} {val vh : Nat → Value} {a0 ar a : Act} {j : Nat} {oj : Oper} (g : Ok md ops n) (hr : Pt ops n L val a0 ar) (hl : Pt ops n (fun k => decide (k < j)) vh a0 a) (hj : j < n)
    (ho : ops[j]? = some oj) (hp : ∀ k ∈ predsOf md ops j, L k = true) (hv : ∀ k, k < j → L k = true → vh k = val k) :
    execOp a.eval oj = execOp ar.eval oj ∧ Region.wanted oj (yielded ops a.tmps) = Region.wanted oj (yielded ops ar.tmps) := by
  refine look_same (Region.noSelect_spec g.sel j oj · · ho) fun t ht => hl.agree hr fun k hk hd => ?_
  have hm := g.seen j k t hj hk hd (by simpa [looksOf, ho] using ht)
  have hlt := g.back j hj k hm
  have hLk := hp k hm
  exact ⟨by simp [hlt, hLk], fun _ => hv k hlt hLk⟩

/-- A fact that stays whatever the operations do. -/
def Steady (S : World → World → Prop) (F : World → Prop) : Prop := ∀ w w', S w w' → F w → F w'

/-- The walk in the order of the text; L: the operations that have been carried out already (none, for who walks). -/
def Res (P : Program) (md : Region.Mode) (ops : Array Oper) (S : World → World → Prop) (I : Nat → World → Prop) (M : Nat) (sp : Nat → Value → World → Prop) (L : Nat → Bool) (val : Nat → Value) (wr : World)
    (Q : List (Nat × (World → Prop)) → Act → Prop) : List Oper → Nat → List (Nat × (World → Prop)) → Act → Prop
  | [], _, Γ, a => Q Γ a
  | o :: rest, i, Γ, a =>
    if Region.wanted o (yielded ops a.tmps) = true then
      (∃ v, (∀ m w, m < M → I m w → fnUpon (fun u w' => u = v ∧ w' = w) ((execOp a.eval o).run P w)) ∧ (L i = true → val i = v) ∧ Res P md ops S I M sp L val wr Q rest (i + 1) Γ (a.put o.dst v)) ∨
      (∃ Z : Value → World → Prop, (∀ u, Steady S (Z u)) ∧ (∀ m w, m < M → I m w → FactsAt md ops i Γ w → fnUpon (fun u w' => (S w w' ∧ I (m + 1) w') ∧ Z u w') ((execOp a.eval o).run P w)) ∧ (L i = true → Z (val i) wr) ∧
        ∀ u, (L i = true → u = val i) → (L i = false → ∃ m w', I m w' ∧ Z u w') → Res P md ops S I M sp L val wr Q rest (i + 1) ((i, Z u) :: Γ) (a.put o.dst u)) ∨
      ((∀ u, Steady S (sp i u)) ∧ (∀ m w, m < M → I m w → FactsAt md ops i Γ w → callUpon P w (fun e w' => ∃ u, e = .returned u ∧ (S w w' ∧ I (m + 1) w') ∧ sp i u w') ((execOp a.eval o).run P w)) ∧ (L i = true → sp i (val i) wr) ∧
        ∀ u, (L i = true → u = val i) → (L i = false → ∃ m w', I m w' ∧ sp i u w') → Res P md ops S I M sp L val wr Q rest (i + 1) ((i, sp i u) :: Γ) (a.put o.dst u))
    else (L i = true → val i = undef) ∧ Res P md ops S I M sp L val wr Q rest (i + 1) Γ (a.put o.dst undef)

variable {Q : List (Nat × (World → Prop)) → Act → Prop}

/-- Behind the place of what was carried out last: only the world has moved on. -/
theorem Res.later {L L' : Nat → Bool} {val val' : Nat → Value} {wr w1 : World} (hb : S wr w1) : ∀ (l : List Oper) (i : Nat) (Γ : List (Nat × (World → Prop))) (a : Act),
    (∀ k, i ≤ k → L' k = L k ∧ val' k = val k) → Res P md ops S I M sp L val wr Q l i Γ a → Res P md ops S I M sp L' val' w1 Q l i Γ a := by
  intro l
  induction l with
  | nil => intro i Γ a _ h; exact h
  | cons o rest ih =>
    intro i Γ a he h
    obtain ⟨hL, hv⟩ := he i (Nat.le_refl i)
    have he' : ∀ k, i + 1 ≤ k → L' k = L k ∧ val' k = val k := fun k hk => he k (by omega)
    unfold Res at h ⊢
    rw [hL, hv]
    split
    · rename_i hw
      rw [if_pos hw] at h
      rcases h with ⟨v, h1, h2, h3⟩ | ⟨Z, hs, h1, h2, h3⟩ | ⟨hs, h1, h2, h3⟩
      · exact .inl ⟨v, h1, h2, ih _ _ _ he' h3⟩
      · exact .inr (.inl ⟨Z, hs, h1, fun h => hs _ _ _ hb (h2 h), fun u hu hu' => ih _ _ _ he' (h3 u hu hu')⟩)
      · exact .inr (.inr ⟨hs, h1, fun h => hs _ _ _ hb (h2 h), fun u hu hu' => ih _ _ _ he' (h3 u hu hu')⟩)
    · rename_i hw
      rw [if_neg hw] at h
      exact ⟨h.1, ih _ _ _ he' h.2⟩

/-- Some way leads to operation j. -/
theorem Res.reach {L : Nat → Bool} {val : Nat → Value} {wr : World} {a0 : Act} {j : Nat} {oj : Oper} (y : Way S I) (g : Ok md ops n) (hj : j < n) (ho : ops[j]? = some oj) :
    ∀ (l : List Oper) (i : Nat) (Γ : List (Nat × (World → Prop))) (a : Act) (vh : Nat → Value) (mh : Nat) (wh : World), (∀ m, m < l.length → l[m]? = ops[i + m]?) → i + l.length = n → i ≤ j → Res P md ops S I M sp L val wr Q l i Γ a →
      Pt ops n (fun k => decide (k < i)) vh a0 a → (∀ k, k < i → L k = true → vh k = val k) → (∀ p ∈ Γ, Steady S p.2) → (∀ p ∈ Γ, L p.1 = true → p.2 wr) → mh + l.length ≤ M → S wr wh → I mh wh → (∀ p ∈ Γ, p.2 wh) →
      ∃ rest Γj aj vj, Res P md ops S I M sp L val wr Q (oj :: rest) j Γj aj ∧ Pt ops n (fun k => decide (k < j)) vj a0 aj ∧ (∀ k, k < j → L k = true → vj k = val k) ∧ (∀ p ∈ Γj, L p.1 = true → p.2 wr) := by
  intro l
  induction l with
  | nil => intro i Γ a vh mh wh _ hn hij; simp at hn; omega
  | cons o rest ih =>
    intro i Γ a vh mh wh hl hn hij h hpt hv hst hlr hmh hrh hBh hfh
    have hio : ops[i]? = some o := by simpa using (hl 0 (by simp)).symm
    by_cases e : i = j
    · subst e
      obtain rfl : o = oj := Option.some.inj (hio.symm.trans ho)
      exact ⟨rest, Γ, a, vh, h, hpt, hv, hlr⟩
    · have hlt : i < j := by omega
      have hin : i < n := by omega
      have hl' : ∀ m, m < rest.length → rest[m]? = ops[i + 1 + m]? := fun m hm => by
        have := hl (m + 1) (by simp; omega)
        simpa [Nat.add_assoc, Nat.add_comm 1 m] using this
      have hn' : i + 1 + rest.length = n := by simp at hn; omega
      have hm1 : mh + rest.length ≤ M ∧ mh + 1 + rest.length ≤ M ∧ mh < M := by simp at hmh; omega
      have hput : ∀ u, Pt ops n (fun k => decide (k < i + 1)) (upd vh i u) a0 (a.put o.dst u) := fun u => by
        have := hpt.put (u := u) g.one hin (by simp) hio
        have e2 : ins (fun k => decide (k < i)) i = fun k => decide (k < i + 1) := by
          funext k; simp only [ins]; rw [Bool.eq_iff_iff]; simp; omega
        rwa [e2] at this
      have hvu : ∀ u, (L i = true → u = val i) → ∀ k, k < i + 1 → L k = true → upd vh i u k = val k := fun u hu k hk hLk => by
        unfold upd
        by_cases e : k = i
        · subst e; rw [if_pos rfl]; exact hu hLk
        · rw [if_neg e]; exact hv k (by omega) hLk
      unfold Res at h
      split at h
      · rcases h with ⟨v, h1, h2, h3⟩ | ⟨Z, hs, h1, h2, h3⟩ | ⟨hs, h1, h2, h3⟩
        · exact ih _ _ _ _ mh wh hl' hn' (by omega) h3 (hput v) (hvu v fun h => (h2 h).symm) hst hlr hm1.1 hrh hBh hfh
        · cases hLi : L i with
          | true =>
            refine ih _ _ _ _ mh wh hl' hn' (by omega) (h3 (val i) (fun _ => rfl) (fun h => by rw [hLi] at h; cases h)) (hput _) (hvu _ fun _ => rfl) ?_ ?_ hm1.1 hrh hBh ?_
            · exact fun p hp => by rcases List.mem_cons.1 hp with rfl | hp; exact hs _; exact hst p hp
            · exact fun p hp hL => by rcases List.mem_cons.1 hp with rfl | hp; exact h2 hLi; exact hlr p hp hL
            · exact fun p hp => by rcases List.mem_cons.1 hp with rfl | hp; exact hs _ _ _ hrh (h2 hLi); exact hfh p hp
          | false =>
            have hx := h1 mh wh hm1.2.2 hBh fun p hp _ => hfh p hp
            have hgo : ∀ u w', (S wh w' ∧ I (mh + 1) w') ∧ Z u w' → _ := fun u w' hz =>
              ih (i + 1) ((i, Z u) :: Γ) (a.put o.dst u) (upd vh i u) (mh + 1) w' hl' hn' (by omega) (h3 u (fun h => by rw [hLi] at h; cases h) (fun _ => ⟨_, w', hz.1.2, hz.2⟩)) (hput u)
                (hvu u fun h => by rw [hLi] at h; cases h) (fun p hp => by rcases List.mem_cons.1 hp with rfl | hp; exact hs _; exact hst p hp)
                (fun p hp hL => by rcases List.mem_cons.1 hp with rfl | hp; (rw [hLi] at hL; cases hL); exact hlr p hp hL) hm1.2.1 (y.trans _ _ _ hrh hz.1.1) hz.1.2
                (fun p hp => by rcases List.mem_cons.1 hp with rfl | hp; exact hz.2; exact hst p hp _ _ hz.1.1 (hfh p hp))
            generalize (execOp a.eval o).run P wh = r at hx
            cases r with
            | ok x w' => cases x <;> simp only [fnUpon] at hx <;> exact hgo _ _ hx
            | halt x w' => exact hx.elim
        · cases hLi : L i with
          | true =>
            refine ih _ _ _ _ mh wh hl' hn' (by omega) (h3 (val i) (fun _ => rfl) (fun h => by rw [hLi] at h; cases h)) (hput _) (hvu _ fun _ => rfl) ?_ ?_ hm1.1 hrh hBh ?_
            · exact fun p hp => by rcases List.mem_cons.1 hp with rfl | hp; exact hs _; exact hst p hp
            · exact fun p hp hL => by rcases List.mem_cons.1 hp with rfl | hp; exact h2 hLi; exact hlr p hp hL
            · exact fun p hp => by rcases List.mem_cons.1 hp with rfl | hp; exact hs _ _ _ hrh (h2 hLi); exact hfh p hp
          | false =>
            have hx := h1 mh wh hm1.2.2 hBh fun p hp _ => hfh p hp
            have hgo : ∀ u w', (S wh w' ∧ I (mh + 1) w') ∧ sp i u w' → _ := fun u w' hz =>
              ih (i + 1) ((i, sp i u) :: Γ) (a.put o.dst u) (upd vh i u) (mh + 1) w' hl' hn' (by omega) (h3 u (fun h => by rw [hLi] at h; cases h) (fun _ => ⟨_, w', hz.1.2, hz.2⟩)) (hput u)
                (hvu u fun h => by rw [hLi] at h; cases h) (fun p hp => by rcases List.mem_cons.1 hp with rfl | hp; exact hs _; exact hst p hp)
                (fun p hp hL => by rcases List.mem_cons.1 hp with rfl | hp; (rw [hLi] at hL; cases hL); exact hlr p hp hL) hm1.2.1 (y.trans _ _ _ hrh hz.1.1) hz.1.2
                (fun p hp => by rcases List.mem_cons.1 hp with rfl | hp; exact hz.2; exact hst p hp _ _ hz.1.1 (hfh p hp))
            generalize (execOp a.eval o).run P wh = r at hx
            cases r with
            | ok x w' =>
              cases x <;> simp only [callUpon] at hx
              obtain ⟨_, hc⟩ := hx
              obtain ⟨e', w'', _, ⟨u, _, hz⟩, _⟩ := hc []
              exact hgo u w'' hz
            | halt x w' => exact hx.elim
      · exact ih _ _ _ _ mh wh hl' hn' (by omega) h.2 (hput undef) (hvu undef fun hL => (h.1 hL).symm) hst hlr hm1.1 hrh hBh hfh

theorem Res.mark {L : Nat → Bool} {val : Nat → Value} {wr w1 : World} {a0 ar : Act} {j mr m1 : Nat} {oj : Oper} {u : Value} (g : Ok md ops n) (hj : j < n) (ho : ops[j]? = some oj) (hLj : L j = false)
    (hp : ∀ k ∈ predsOf md ops j, L k = true) (hdep : ∀ k, depB md ops j k = true → L k = true) (hr : Pt ops n L val a0 ar) (hmr : mr < M) (hBr : I mr wr) (hb : S wr w1) (hB1 : I m1 w1) (hout : Outc P ops sp j oj ar wr u w1) :
    ∀ (l : List Oper) (i : Nat) (Γ : List (Nat × (World → Prop))) (a : Act) (vh : Nat → Value), (∀ m, m < l.length → l[m]? = ops[i + m]?) → i + l.length = n → i ≤ j → Res P md ops S I M sp L val wr Q l i Γ a →
      Pt ops n (fun k => decide (k < i)) vh a0 a → (∀ k, k < i → L k = true → vh k = val k) → (∀ p ∈ Γ, L p.1 = true → p.2 wr) → Res P md ops S I M sp (ins L j) (upd val j u) w1 Q l i Γ a := by
  intro l
  induction l with
  | nil => intro i Γ a vh _ hn hij; simp at hn; omega
  | cons o rest ih =>
    intro i Γ a vh hl hn hij h hpt hv hlr
    have hio : ops[i]? = some o := by simpa using (hl 0 (by simp)).symm
    by_cases e : i = j
    · subst e
      obtain rfl : o = oj := Option.some.inj (hio.symm.trans ho)
      obtain ⟨hex, hwt⟩ := g.same hr hpt hj ho hp hv
      have hins : ins L i i = true := by simp [ins]
      have hupd : upd val i u i = u := by simp [upd]
      have hafter : ∀ k, i + 1 ≤ k → ins L i k = L k ∧ upd val i u k = val k := fun k hk => by
        have : k ≠ i := by omega
        simp [ins, upd, this]
      have hF : FactsAt md ops i Γ wr := fun p hp' hd => hlr p hp' (hdep _ hd)
      unfold Res at h ⊢
      rw [hins, hupd]
      unfold Outc at hout
      rw [← hex, ← hwt] at hout
      split
      · rename_i hw
        rw [if_pos hw] at h hout
        rcases h with ⟨v, h1, h2, h3⟩ | ⟨Z, hs, h1, h2, h3⟩ | ⟨hs, h1, h2, h3⟩
        · have hx := h1 mr wr hmr hBr
          have huv : u = v := by
            generalize (execOp a.eval o).run P wr = r at hx hout
            cases r with
            | ok x w' => cases x <;> simp only [fnUpon] at hx <;> simp only at hout <;> rw [← hout.1, hx.1]
            | halt x w' => exact hx.elim
          exact .inl ⟨v, h1, fun _ => huv, Res.later hb _ _ _ _ hafter h3⟩
        · have hx := h1 mr wr hmr hBr hF
          have hz : Z u w1 := by
            generalize (execOp a.eval o).run P wr = r at hx hout
            cases r with
            | ok x w' => cases x <;> simp only [fnUpon] at hx <;> simp only at hout <;> (obtain ⟨rfl, rfl⟩ := hout; exact hx.2)
            | halt x w' => exact hx.elim
          refine .inr (.inl ⟨Z, hs, h1, fun _ => hz, fun u' hu' _ => ?_⟩)
          obtain rfl := hu' rfl
          exact Res.later hb _ _ _ _ hafter (h3 u' (fun h => by rw [hLj] at h; cases h) (fun _ => ⟨m1, w1, hB1, hz⟩))
        · have hx := h1 mr wr hmr hBr hF
          have hz : sp i u w1 := by
            generalize (execOp a.eval o).run P wr = r at hx hout
            cases r with
            | ok x w' => cases x <;> simp only [callUpon] at hx; exact hout
            | halt x w' => exact hx.elim
          refine .inr (.inr ⟨hs, h1, fun _ => hz, fun u' hu' _ => ?_⟩)
          obtain rfl := hu' rfl
          exact Res.later hb _ _ _ _ hafter (h3 u' (fun h => by rw [hLj] at h; cases h) (fun _ => ⟨m1, w1, hB1, hz⟩))
      · rename_i hw
        rw [if_neg hw] at h hout
        exact ⟨fun _ => hout.1.symm, Res.later hb _ _ _ _ hafter h.2⟩
    · have hlt : i < j := by omega
      have hin : i < n := by omega
      have hl' : ∀ m, m < rest.length → rest[m]? = ops[i + 1 + m]? := fun m hm => by
        have := hl (m + 1) (by simp; omega)
        simpa [Nat.add_assoc, Nat.add_comm 1 m] using this
      have hn' : i + 1 + rest.length = n := by simp at hn; omega
      have hput : ∀ u, Pt ops n (fun k => decide (k < i + 1)) (upd vh i u) a0 (a.put o.dst u) := fun u => by
        have := hpt.put (u := u) g.one hin (by simp) hio
        have e2 : ins (fun k => decide (k < i)) i = fun k => decide (k < i + 1) := by
          funext k; simp only [ins]; rw [Bool.eq_iff_iff]; simp; omega
        rwa [e2] at this
      have hvu : ∀ u, (L i = true → u = val i) → ∀ k, k < i + 1 → L k = true → upd vh i u k = val k := fun u hu k hk hLk => by
        unfold upd
        by_cases e : k = i
        · subst e; rw [if_pos rfl]; exact hu hLk
        · rw [if_neg e]; exact hv k (by omega) hLk
      have hins : ins L j i = L i := by simp [ins, e]
      have hupd : upd val j u i = val i := by simp [upd, e]
      unfold Res at h ⊢
      rw [hins, hupd]
      split
      · rename_i hw
        rw [if_pos hw] at h
        rcases h with ⟨v, h1, h2, h3⟩ | ⟨Z, hs, h1, h2, h3⟩ | ⟨hs, h1, h2, h3⟩
        · exact .inl ⟨v, h1, h2, ih _ _ _ _ hl' hn' (by omega) h3 (hput v) (hvu v fun h => (h2 h).symm) hlr⟩
        · exact .inr (.inl ⟨Z, hs, h1, fun h => hs _ _ _ hb (h2 h), fun u' hu hu' => ih _ _ _ _ hl' hn' (by omega) (h3 u' hu hu') (hput u') (hvu u' hu) fun p hp hL => by
            rcases List.mem_cons.1 hp with rfl | hp
            · rw [hu hL]; exact h2 hL
            · exact hlr p hp hL⟩)
        · exact .inr (.inr ⟨hs, h1, fun h => hs _ _ _ hb (h2 h), fun u' hu hu' => ih _ _ _ _ hl' hn' (by omega) (h3 u' hu hu') (hput u') (hvu u' hu) fun p hp hL => by
            rcases List.mem_cons.1 hp with rfl | hp
            · rw [hu hL]; exact h2 hL
            · exact hlr p hp hL⟩)
      · rename_i hw
        rw [if_neg hw] at h
        exact ⟨h.1, ih _ _ _ _ hl' hn' (by omega) h.2 (hput undef) (hvu undef fun hL => (h.1 hL).symm) hlr⟩

/-- All have come up. -/
theorem Res.over {L : Nat → Bool} {val : Nat → Value} {wr : World} {a0 : Act} (g : Ok md ops n) (hL : ∀ k, k < n → L k = true) :
    ∀ (l : List Oper) (i : Nat) (Γ : List (Nat × (World → Prop))) (a : Act) (vh : Nat → Value), (∀ m, m < l.length → l[m]? = ops[i + m]?) → i + l.length = n → Res P md ops S I M sp L val wr Q l i Γ a →
      Pt ops n (fun k => decide (k < i)) vh a0 a → (∀ k, k < i → vh k = val k) → (∀ p ∈ Γ, p.2 wr) → ∃ Γ' a' vh', Q Γ' a' ∧ Pt ops n (fun k => decide (k < n)) vh' a0 a' ∧ (∀ k, k < n → vh' k = val k) ∧ ∀ p ∈ Γ', p.2 wr := by
  intro l
  induction l with
  | nil =>
    intro i Γ a vh _ hn h hpt hv hf
    obtain rfl : i = n := by simpa using hn
    exact ⟨Γ, a, vh, h, hpt, hv, hf⟩
  | cons o rest ih =>
    intro i Γ a vh hl hn h hpt hv hf
    have hio : ops[i]? = some o := by simpa using (hl 0 (by simp)).symm
    have hin : i < n := by simp at hn; omega
    have hLi := hL i hin
    have hl' : ∀ m, m < rest.length → rest[m]? = ops[i + 1 + m]? := fun m hm => by
      have := hl (m + 1) (by simp; omega)
      simpa [Nat.add_assoc, Nat.add_comm 1 m] using this
    have hn' : i + 1 + rest.length = n := by simp at hn; omega
    have hput : ∀ u, Pt ops n (fun k => decide (k < i + 1)) (upd vh i u) a0 (a.put o.dst u) := fun u => by
      have := hpt.put (u := u) g.one hin (by simp) hio
      have e2 : ins (fun k => decide (k < i)) i = fun k => decide (k < i + 1) := by
        funext k; simp only [ins]; rw [Bool.eq_iff_iff]; simp; omega
      rwa [e2] at this
    have hvu : ∀ u, u = val i → ∀ k, k < i + 1 → upd vh i u k = val k := fun u hu k hk => by
      unfold upd
      by_cases e : k = i
      · subst e; rw [if_pos rfl]; exact hu
      · rw [if_neg e]; exact hv k (by omega)
    unfold Res at h
    split at h
    · rcases h with ⟨v, h1, h2, h3⟩ | ⟨Z, hs, h1, h2, h3⟩ | ⟨hs, h1, h2, h3⟩
      · exact ih _ _ _ _ hl' hn' h3 (hput v) (hvu v (h2 hLi).symm) hf
      · exact ih _ _ _ _ hl' hn' (h3 (val i) (fun _ => rfl) (fun h => by rw [hLi] at h; cases h)) (hput _) (hvu _ rfl) fun p hp => by
          rcases List.mem_cons.1 hp with rfl | hp
          exact h2 hLi; exact hf p hp
      · exact ih _ _ _ _ hl' hn' (h3 (val i) (fun _ => rfl) (fun h => by rw [hLi] at h; cases h)) (hput _) (hvu _ rfl) fun p hp => by
          rcases List.mem_cons.1 hp with rfl | hp
          exact h2 hLi; exact hf p hp
    · exact ih _ _ _ _ hl' hn' h.2 (hput undef) (hvu undef (h.1 hLi).symm) hf

/-- One operation comes up. -/
theorem Res.step {Qx : Exit → Act → World → Prop} {L : Nat → Bool} {val : Nat → Value} {wr : World} {a0 ar : Act} {j mr : Nat} {oj : Oper} {l : List Oper} (y : Way S I) (g : Ok md ops n) (hj : j < n) (ho : ops[j]? = some oj)
    (hLj : L j = false) (hp : ∀ k ∈ predsOf md ops j, L k = true) (hdep : ∀ k, depB md ops j k = true → L k = true) (hr : Pt ops n L val a0 ar) (hmr : mr + n ≤ M) (hBr : I mr wr) (hl : ∀ m, m < l.length → l[m]? = ops[m]?) (hn : l.length = n)
    (h : Res P md ops S I M sp L val wr Q l 0 [] a0) :
    wpOp P ops Qx j (fun a' w' => ∃ u, a' = ar.put oj.dst u ∧ I (mr + 1) w' ∧ Res P md ops S I M sp (ins L j) (upd val j u) w' Q l 0 [] a0) ar wr := by
  have pt0 : ∀ v, Pt ops n (fun k => decide (k < 0)) v a0 a0 := fun v => ⟨rfl, fun k t _ hS => by simp at hS, fun _ _ => rfl⟩
  have hl0 : ∀ m, m < l.length → l[m]? = ops[0 + m]? := fun m hm => by rw [Nat.zero_add]; exact hl m hm
  have hmM : mr < M := by omega
  have after : ∀ u w1, S wr w1 → I (mr + 1) w1 → Outc P ops sp j oj ar wr u w1 → (∃ u', ar.put oj.dst u = ar.put oj.dst u' ∧ I (mr + 1) w1 ∧ Res P md ops S I M sp (ins L j) (upd val j u') w1 Q l 0 [] a0) := fun u w1 hb hB1 hout =>
    ⟨u, rfl, hB1, Res.mark g hj ho hLj hp hdep hr hmM hBr hb hB1 hout l 0 [] a0 val hl0 (by omega) (Nat.zero_le _) h (pt0 _) (fun k hk => by omega) (fun p hp => by cases hp)⟩
  obtain ⟨rest, Γ, a, vh, hres, hpt, hv, hlr⟩ := Res.reach (j := j) y g hj ho l 0 [] a0 val mr wr hl0 (by omega) (Nat.zero_le _) h (pt0 _) (fun k hk => by omega) (fun p hp => by cases hp) (fun p hp => by cases hp) (by omega) (y.refl _) hBr (fun p hp => by cases hp)
  obtain ⟨hex, hwt⟩ := g.same hr hpt hj ho hp hv
  have hF : FactsAt md ops j Γ wr := fun p hp' hd => hlr p hp' (hdep _ hd)
  unfold wpOp
  simp only [ho]
  unfold Res at hres
  rw [hex, hwt] at hres
  split
  · rename_i hw
    rw [if_pos hw] at hres
    refine .inl ?_
    unfold Oper.wp
    have hout : ∀ u w1, (match (execOp ar.eval oj).run P wr with | .ok (.value v) w' => v = u ∧ w' = w1 | .ok .skip w' => undef = u ∧ w' = w1 | .ok (.enter _ _) _ => sp j u w1 | _ => False) → Outc P ops sp j oj ar wr u w1 := fun u w1 h => by
      unfold Outc; rw [if_pos hw]; exact h
    rcases hres with ⟨v, h1, h2, h3⟩ | ⟨Z, hs, h1, h2, h3⟩ | ⟨hs, h1, h2, h3⟩
    · have hx := h1 mr wr hmM hBr
      cases hrun : (execOp ar.eval oj).run P wr with
      | ok x w' =>
        rw [hrun] at hx hout
        cases x <;> simp only [fnUpon] at hx <;> simp only [Oper.upon]
        case value v' => exact after _ _ (by rw [hx.2]; exact y.refl _) (by rw [hx.2]; exact y.more _ _ hBr) (hout _ _ ⟨rfl, rfl⟩)
        case skip => exact after _ _ (by rw [hx.2]; exact y.refl _) (by rw [hx.2]; exact y.more _ _ hBr) (hout _ _ ⟨rfl, rfl⟩)
      | halt x w' => rw [hrun] at hx; exact hx.elim
    · have hx := h1 mr wr hmM hBr hF
      cases hrun : (execOp ar.eval oj).run P wr with
      | ok x w' =>
        rw [hrun] at hx hout
        cases x <;> simp only [fnUpon] at hx <;> simp only [Oper.upon]
        case value v' => exact after _ _ hx.1.1 hx.1.2 (hout _ _ ⟨rfl, rfl⟩)
        case skip => exact after _ _ hx.1.1 hx.1.2 (hout _ _ ⟨rfl, rfl⟩)
      | halt x w' => rw [hrun] at hx; exact hx.elim
    · have hx := h1 mr wr hmM hBr hF
      cases hrun : (execOp ar.eval oj).run P wr with
      | ok x w' =>
        rw [hrun] at hx hout
        cases x <;> simp only [callUpon] at hx
        simp only [Oper.upon]
        obtain ⟨rfl, hc⟩ := hx
        exact hc.mono fun e w'' ⟨u, he, hb, hz⟩ => by subst he; exact after u w'' hb.1 hb.2 (hout _ _ hz)
      | halt x w' => rw [hrun] at hx; exact hx.elim
  · rename_i hw
    rw [if_neg hw] at hres
    exact after _ _ (y.refl _) (y.more _ _ hBr) (by unfold Outc; rw [if_neg hw]; exact ⟨rfl, rfl⟩)

/-- Operations that the walk need not wait for (Z) have been carried out; the others behind the first n have not. -/
structure HInv (md : Region.Mode) (ops : Array Oper) (n : Nat) (Z : Nat → Bool) (listed : Array Bool) : Prop where
  size : listed.size = ops.size
  closed : ∀ j oj, ops[j]? = some oj → listed.getD j false = true → ∀ e ∈ oj.after, Region.binds md e = true → listed.getD e.on false = true
  tail : ∀ t, n ≤ t → t < ops.size → Z t = false → listed.getD t true = false
  zin : ∀ t, n ≤ t → t < ops.size → Z t = true → listed.getD t false = true
theorem HInv.set {Z : Nat → Bool} {i : Nat} {listed : Array Bool} (inv : HInv md ops n Z listed) (hi : i ∈ Region.ready md ops listed) (hin : i < n) : HInv md ops n Z (listed.setIfInBounds i true) := by
  obtain ⟨_, oi, hoi, hall⟩ := mem_ready.1 hi
  refine ⟨by simp [inv.size], fun j oj hj hl e he hb => ?_, fun t ht ht' hz => by rw [getD_set_ne true (by omega)]; exact inv.tail t ht ht' hz, fun t ht ht' hz => getD_set_true (inv.zin t ht ht' hz)⟩
  by_cases hij : i = j
  · subst hij
    have : oj = oi := Option.some.inj (hj.symm.trans hoi)
    subst this
    exact getD_set_true (hall e he hb)
  · rw [getD_set_ne false hij] at hl
    exact getD_set_true (inv.closed j oj hj hl e he hb)
def canonZ (ops : Array Oper) (n : Nat) (Z : Nat → Bool) : Array Bool := ((List.range ops.size).map fun k => decide (k < n) || Z k).toArray
/-- The operations that operation j waits for, at once or through others. -/
def needs (md : Region.Mode) (ops : Array Oper) (j : Nat) : List Nat := upset md ops ops.size (predsOf md ops j)

theorem grow_any {Qx : Exit → Act → World → Prop} {a0 : Act} {l : List Oper} {Z : Nat → Bool} {m1 : Nat} (y : Way S I) (g : Ok md ops n) (hM : 2 * n ≤ M) (hwait : ∀ t, n ≤ t → t < ops.size → Z t = false → ∀ i, i < n → i ∈ needs md ops t) (hl : ∀ m, m < l.length → l[m]? = ops[m]?) (hn : l.length = n)
    (hQ : ∀ Γ a w, Q Γ a → I n w → (∀ p ∈ Γ, p.2 w) → wpAny P md ops Qx m1 (canonZ ops n Z) a w) :
    ∀ (f : Nat) (listed : Array Bool) (ar : Act) (mr : Nat) (wr : World) (val : Nat → Value), (List.range n).countP (fun k => !listed.getD k false) = f → HInv md ops n Z listed → Pt ops n (fun k => listed.getD k false) val a0 ar → mr + f = n → I mr wr →
      Res P md ops S I M sp (fun k => listed.getD k false) val wr Q l 0 [] a0 → wpAny P md ops Qx (f + m1) listed ar wr := by
  intro f
  induction f with
  | zero =>
    intro listed ar mr wr val hc inv hpt hmr hB h
    have hall : ∀ k, k < n → listed.getD k false = true := fun k hk => by
      have := List.countP_eq_zero.1 hc k (List.mem_range.2 hk)
      simpa using this
    obtain ⟨Γ, a, vh, hq, hpa, hv, hf⟩ := Res.over g hall l 0 [] a0 val (fun m hm => by rw [Nat.zero_add]; exact hl m hm) (by omega) h ⟨rfl, fun k t _ hS => by simp at hS, fun _ _ => rfl⟩ (fun k hk => by omega) (fun p hp => by cases hp)
    have hcan : listed = canonZ ops n Z := by
      apply Array.ext_getElem?
      intro k
      unfold canonZ
      by_cases hks : k < ops.size
      · have hks' : k < listed.size := by rw [inv.size]; exact hks
        by_cases hkn : k < n
        · have := hall k hkn
          simp [hks, hks', hkn] at this ⊢
          exact this
        · cases hz : Z k
          · have := inv.tail k (by omega) hks hz
            simp [hks, hks', hkn, hz] at this ⊢
            exact this
          · have := inv.zin k (by omega) hks hz
            simp [hks, hks', hkn, hz] at this ⊢
            exact this
      · have hks' : ¬ k < listed.size := by rw [inv.size]; exact hks
        simp [hks, hks']
    have hfr : ar = a := by
      have h1 : ar.defers = a.defers := hpt.defers.trans hpa.defers.symm
      have h2 : ar.tmps = a.tmps := Array.ext_getElem? fun t => hpt.agree hpa fun k hk _ => ⟨by simp [hk, hall k hk], fun _ => (hv k hk).symm⟩
      cases ar; cases a; simp_all
    obtain rfl : mr = n := by omega
    rw [Nat.zero_add, hcan, hfr]
    exact hQ Γ a wr hq hB hf
  | succ f ih =>
    intro listed ar mr wr val hc inv hpt hmr hB h
    have hex : ∃ k, k < n ∧ listed.getD k false = false := by
      have : 0 < (List.range n).countP (fun k => !listed.getD k false) := by omega
      obtain ⟨k, hk, hp⟩ := List.countP_pos_iff.1 this
      exact ⟨k, List.mem_range.1 hk, by simpa using hp⟩
    obtain ⟨k0, hk0, hun0⟩ := hex
    obtain ⟨m, hm, hm1, hm2⟩ := least_of (p := fun k => !listed.getD k false) k0 (by simpa using hun0)
    have hmn : m < n := by omega
    have hms : m < listed.size := by rw [inv.size]; have := g.size; omega
    have hun : listed.getD m true = false := getD_in hms (by simpa using hm1)
    have hready : m ∈ Region.ready md ops listed := by
      have hmo : m < ops.size := by have := g.size; omega
      refine mem_ready.2 ⟨hun, ops[m], by simp [hmo], fun e he hb => ?_⟩
      have : e.on < m := g.back m hmn _ (by
        unfold predsOf
        rw [Array.getElem?_eq_getElem hmo]
        exact List.mem_map.2 ⟨e, List.mem_filter.2 ⟨by simpa using he, hb⟩, rfl⟩)
      have := hm2 _ this
      simpa using this
    have e1 : f + 1 + m1 = (f + m1) + 1 := by omega
    rw [e1]
    refine ⟨fun h0 => absurd (h0 ▸ hready) (by simp), fun j hj => ?_⟩
    obtain ⟨hju, oj, hoj, hall⟩ := mem_ready.1 hj
    have hjs : j < ops.size := (Array.getElem?_eq_some_iff.1 hoj).1
    have hp : ∀ k ∈ predsOf md ops j, listed.getD k false = true := fun k hk => by
      unfold predsOf at hk
      rw [hoj] at hk
      obtain ⟨e, he, rfl⟩ := List.mem_map.1 hk
      obtain ⟨he1, he2⟩ := List.mem_filter.1 he
      exact hall e (by simpa using he1) he2
    have hcl : ∀ i, listed.getD i false = true → ∀ k ∈ predsOf md ops i, listed.getD k false = true := fun i hi k hk => by
      unfold predsOf at hk
      cases hoi : ops[i]? with
      | none => rw [hoi] at hk; cases hk
      | some oi =>
        rw [hoi] at hk
        obtain ⟨e, he, rfl⟩ := List.mem_map.1 hk
        obtain ⟨he1, he2⟩ := List.mem_filter.1 he
        exact inv.closed i oi hoi hi e (by simpa using he1) he2
    have hjn : j < n := by
      rcases Nat.lt_or_ge j n with h | h
      · exact h
      · cases hz : Z j
        · have := upset_in hcl _ _ hp m (hwait j h hjs hz m hmn)
          rw [getD_both hun] at this
          cases this
        · have h1 := inv.zin j h hjs hz
          have hjl : j < listed.size := by rw [inv.size]; exact hjs
          simp [hjl] at h1 hju
          rw [h1] at hju
          cases hju
    have hdep : ∀ k, depB md ops j k = true → listed.getD k false = true := fun k hk => by
      unfold depB at hk
      exact upset_in hcl _ _ hp k (by simpa using hk)
    have hset : (fun k => (listed.setIfInBounds j true).getD k false) = ins (fun k => listed.getD k false) j := by
      funext k
      unfold ins
      by_cases e : k = j
      · subst e
        have : k < listed.size := by rw [inv.size]; exact hjs
        simp [this]
      · rw [getD_set_ne false (Ne.symm e)]
        simp [e]
    have hjf : listed.getD j false = false := getD_both hju
    refine wpOp_mono (fun a' w' ⟨u, he, hB', hres⟩ => ?_) (Res.step (Qx := Qx) y g hjn hoj hjf hp hdep hpt (by omega) hB hl hn h)
    subst he
    have hpt' := hpt.put (u := u) g.one hjn hjf hoj
    rw [← hset] at hres hpt'
    refine ih _ _ (mr + 1) _ _ ?_ (inv.set hj hjn) hpt' (by omega) hB' hres
    have := count_off n (fun k => !listed.getD k false) j hjn (by simpa using hjf)
    rw [hc] at this
    have e3 : (List.range n).countP (fun k => !(listed.setIfInBounds j true).getD k false) = (List.range n).countP (fun k => (!listed.getD k false) && k != j) := List.countP_congr fun k _ => by
      have := congrFun hset k
      simp only [ins] at this
      rw [this]
      by_cases e : k = j <;> simp [e]
    omega

theorem Res.fresh {val val' : Nat → Value} {wr w1 : World} : ∀ (l : List Oper) (i : Nat) (Γ : List (Nat × (World → Prop))) (a : Act), Res P md ops S I M sp (fun _ => false) val wr Q l i Γ a → Res P md ops S I M sp (fun _ => false) val' w1 Q l i Γ a := by
  intro l
  induction l with
  | nil => intro i Γ a h; exact h
  | cons o rest ih =>
    intro i Γ a h
    unfold Res at h ⊢
    split
    · rename_i hw
      rw [if_pos hw] at h
      rcases h with ⟨v, h1, h2, h3⟩ | ⟨Z, hs, h1, h2, h3⟩ | ⟨hs, h1, h2, h3⟩
      · exact .inl ⟨v, h1, (fun h => by cases h), ih _ _ _ h3⟩
      · exact .inr (.inl ⟨Z, hs, h1, (fun h => by cases h), fun u _ hu' => ih _ _ _ (h3 u (fun h => by cases h) hu')⟩)
      · exact .inr (.inr ⟨hs, h1, (fun h => by cases h), fun u _ hu' => ih _ _ _ (h3 u (fun h => by cases h) hu')⟩)
    · rename_i hw
      rw [if_neg hw] at h
      exact ⟨(fun h => by cases h), ih _ _ _ h.2⟩
end

/-- The walk that a prover makes: nothing has been carried out yet. -/
abbrev wpGrow (P : Program) (ops : Array Oper) (S : World → World → Prop) (I : Nat → World → Prop) (M : Nat) (w0 : World) (sp : Nat → Value → World → Prop) (Q : List (Nat × (World → Prop)) → Act → Prop) (l : List Oper) (i : Nat) (Γ : List (Nat × (World → Prop))) (a : Act) : Prop :=
  Res P .any ops S I M sp (fun _ => false) (fun _ => undef) w0 Q l i Γ a

def seqT (md : Region.Mode) (ops : Array Oper) : List Nat → Array Bool → Bool
  | [], listed => (Region.ready md ops listed).isEmpty
  | k :: τ, listed => decide (Region.ready md ops listed = [k]) && seqT md ops τ (listed.setIfInBounds k true)
theorem wpAny_of_seqT {P : Program} {md : Region.Mode} {ops : Array Oper} {Q' : Exit → Act → World → Prop} : ∀ (τ : List Nat) (listed : Array Bool) (a : Act) (w : World), (∀ k ∈ τ, k < ops.size) →
    seqT md ops τ listed = true → wpList P ops Q' (τ.filterMap (ops[·]?)) a w → wpAny P md ops Q' τ.length listed a w
  | [], _, _, _, _, hB, h => ⟨by simpa [seqT] using hB, h⟩
  | k :: τ, listed, a, w, hl, hB, h => by
    have hk : k < ops.size := hl k List.mem_cons_self
    have h0 : ops[k]? = some ops[k] := Array.getElem?_eq_getElem hk
    simp only [seqT, Bool.and_eq_true, decide_eq_true_eq] at hB
    rw [List.filterMap_cons, h0] at h
    refine ⟨fun h1 => (by rw [hB.1] at h1; cases h1), fun i hi => ?_⟩
    rw [hB.1] at hi
    have hik : i = k := by simpa using hi
    subst hik
    have hw : wpOp P ops Q' i (wpList P ops Q' (τ.filterMap (ops[·]?))) a w := by unfold wpOp; simp only [h0]; exact h
    exact wpOp_mono (fun a' w' h' => wpAny_of_seqT τ _ a' w' (fun k hk => hl k (List.mem_cons_of_mem _ hk)) hB.2 h') hw

def okB (md : Region.Mode) (ops : Array Oper) (n : Nat) : Bool :=
  Region.noSelect ops && decide (n ≤ ops.size) &&
  (List.range n).all fun j => (predsOf md ops j).all (fun k => decide (k < j)) && (List.range n).all fun k =>
    match dstOf ops k with
    | none => true
    | some t => (k == j || dstOf ops j != some t) && (!(looksOf ops j).contains t || (predsOf md ops j).contains k)
theorem okB_ok {md : Region.Mode} {ops : Array Oper} {n : Nat} (h : okB md ops n = true) : Ok md ops n := by
  unfold okB at h
  simp only [Bool.and_eq_true, decide_eq_true_eq] at h
  obtain ⟨⟨h1, h2⟩, h4⟩ := h
  have key : ∀ j, j < n → _ := fun j hj => List.all_eq_true.1 h4 j (List.mem_range.2 hj)
  simp only [Bool.and_eq_true] at key
  refine ⟨h1, h2, fun j hj k hk => by simpa using List.all_eq_true.1 (key j hj).1 k hk, fun i k t hi hk hdi hdk => ?_, fun j k t hj hk hd ht => ?_⟩
  · have := List.all_eq_true.1 (key i hi).2 k (List.mem_range.2 hk)
    simp only [hdk, hdi, Bool.and_eq_true, Bool.or_eq_true, beq_iff_eq, bne_self_eq_false, Bool.false_eq_true, or_false] at this
    exact this.1.symm
  · have := List.all_eq_true.1 (key j hj).2 k (List.mem_range.2 hk)
    simp only [hd, Bool.and_eq_true, Bool.or_eq_true] at this
    rcases this.2 with h | h
    · simp [ht] at h
    · simpa using h
def waitB (md : Region.Mode) (ops : Array Oper) (n : Nat) (Z : Nat → Bool) : Bool :=
  (List.range ops.size).all fun t => decide (t < n) || Z t || (List.range n).all fun i => (needs md ops t).contains i
theorem waitB_ok {md : Region.Mode} {ops : Array Oper} {n : Nat} {Z : Nat → Bool} (h : waitB md ops n Z = true) : ∀ t, n ≤ t → t < ops.size → Z t = false → ∀ i, i < n → i ∈ needs md ops t := fun t h1 h2 hz i hi => by
  have := List.all_eq_true.1 h t (List.mem_range.2 h2)
  have h3 : ¬ t < n := by omega
  simp only [hz, h3, decide_false, Bool.false_or] at this
  simpa using List.all_eq_true.1 this i (List.mem_range.2 hi)
/-- No operation is taken ahead; those behind the first n come in the order τ. -/
def growTB (md : Region.Mode) (ops : Array Oper) (n : Nat) (τ : List Nat) : Bool :=
  okB md ops n && waitB md ops n (fun _ => false) && seqT md ops τ (canonZ ops n fun _ => false) && decide (n + τ.length = ops.size) && τ.all fun k => decide (k < ops.size)
theorem wp_region {P : Program} {id : Nat} {Qx : Exit → Act → World → Prop} {a : Act} {w : World} {l : List Oper} (n : Nat) (τ : List Nat) (M : Nat) (S : World → World → Prop) (I : Nat → World → Prop) (sp : Nat → Value → World → Prop) (hm : P.follows .mixedOrders = true) (hg : growTB .any l.toArray n τ = true)
    (y : Way S I) (hM : 2 * n ≤ M) (hC : I 0 w.drew)
    (h : wpGrow P l.toArray S I M w sp (fun Γ a' => ∀ w', I n w' → (∀ p ∈ Γ, p.2 w') → wpList P l.toArray Qx (τ.filterMap (l[·]?)) a' w') (l.take n) 0 [] a) : (Code.region id l.toArray true).wp P Qx a w := by
  unfold growTB at hg
  simp only [Bool.and_eq_true, decide_eq_true_eq] at hg
  obtain ⟨⟨⟨⟨g1, g2⟩, g3⟩, g4⟩, g5⟩ := hg
  have g := okB_ok g1
  have hsz : n ≤ l.length := by simpa using g.size
  have htl : (l.take n).length = n := by simp; omega
  have hrep : (fun k => (Array.replicate l.toArray.size false).getD k false) = fun _ => false := funext fun k => getD_replicate_false _ _
  have key0 : ∀ L a w, wpAny P .any l.toArray Qx (n + τ.length) L a w → wpAny P .any l.toArray Qx l.toArray.size L a w := fun _ _ _ h => by rwa [← g4]
  refine wp_region_any hm (key0 _ _ _ ?_)
  refine grow_any (Qx := Qx) (P := P) (sp := sp) (S := S) (I := I) (M := M) (a0 := a) (l := l.take n) (Z := fun _ => false) (m1 := τ.length) (Q := fun Γ a' => ∀ w', I n w' → (∀ p ∈ Γ, p.2 w') → wpList P l.toArray Qx (τ.filterMap (l[·]?)) a' w') y g hM (waitB_ok g2) (fun m hm' => by rw [htl] at hm'; simp [hm']) htl (fun Γ a' w' hq hb hf =>
    wpAny_of_seqT τ _ a' w' (fun k hk => of_decide_eq_true (List.all_eq_true.1 g5 k hk)) g3 (by simpa using hq w' hb hf)) n _ a 0 { w with drawn := w.drawn + 1 } (fun _ => undef) ?_ ?_ ?_ (by omega) (show I 0 w.drew from hC) ?_
  · rw [List.countP_eq_length.2 (fun k _ => by rw [getD_replicate_false]; rfl)]; simp
  · exact ⟨by simp, fun j oj _ hl => (by rw [getD_replicate_false] at hl; cases hl), fun t _ ht _ => getD_in (by simpa using ht) (getD_replicate_false _ _), fun t _ _ hz => by cases hz⟩
  · rw [hrep]; exact ⟨rfl, fun k t _ hS => by simp at hS, fun _ _ => rfl⟩
  · rw [hrep]
    exact Res.fresh _ _ _ _ h

/-- Every world of a kind, as a family (what is not so is replaced by w1). -/
noncomputable def FamI (J : World → Prop) (w1 x : World) : World := open Classical in if J x then x else w1
theorem FamI.is {J : World → Prop} {w1 : World} (h : J w1) (x : World) : J (FamI J w1 x) := by
  unfold FamI
  split
  · assumption
  · exact h
theorem FamI.of {J : World → Prop} {w w1 : World} (h : J w) : ∃ x, w = FamI J w1 x := ⟨w, by unfold FamI; rw [if_pos h]⟩

/-- Some m below M. -/
def Upto (I : Nat → World → Prop) (M : Nat) (w : World) : Prop := ∃ m, m < M ∧ I m w

section
variable {P : Program} {ops : Array Oper} {M : Nat} {S : World → World → Prop} {I : Nat → World → Prop} {sp : Nat → Value → World → Prop} {w0 w1 : World}
variable {Q : List (Nat × (World → Prop)) → Act → Prop} {o : Oper} {rest : List Oper} {i : Nat} {Γ : List (Nat × (World → Prop))} {a : Act}
theorem grow_nil (h : Q Γ a) : wpGrow P ops S I M w0 sp Q [] i Γ a := h
theorem grow_skip (hw : Region.wanted o (yielded ops a.tmps) = false) (h : wpGrow P ops S I M w0 sp Q rest (i + 1) Γ (a.put o.dst undef)) : wpGrow P ops S I M w0 sp Q (o :: rest) i Γ a := by
  unfold wpGrow Res
  rw [if_neg (by simp [hw])]
  exact ⟨(fun h => by cases h), h⟩

theorem grow_quiet (w1 : World) (hw : Region.wanted o (yielded ops a.tmps) = true) (hf : fnOp o = true)
    (h : ∀ K : Act → Prop, (∀ a, wpGrow P ops S I M w0 sp Q rest (i + 1) Γ a → K a) → o.quiet P a (fun w => ∃ x, w = FamI (Upto I M) w1 x) K) : wpGrow P ops S I M w0 sp Q (o :: rest) i Γ a := by
  obtain ⟨v, h1, h2⟩ := h _ fun _ h => h
  unfold wpGrow Res
  rw [if_pos hw]
  refine .inl ⟨v, fun m w hm hb => ?_, (fun h => by cases h), h2⟩
  have hq := h1 w (FamI.of ⟨m, hm, hb⟩)
  unfold Oper.quietAt at hq
  cases hr : (execOp a.eval o).run P w with
  | ok x w' =>
    rw [hr] at hq
    cases x <;> simp only [Oper.quietUpon] at hq
    case value u => exact ⟨hq.2, hq.1⟩
    case skip => exact ⟨hq.2.symm, hq.1⟩
    case enter f args => exact absurd hr (fnOp_run hf _ _ _ _ _)
  | halt x w' => rw [hr] at hq; exact hq.elim

/-- An operation that makes a block: its value hangs on the block's number alone. -/
theorem grow_new {K : Nat → Prop} (hw : Region.wanted o (yielded ops a.tmps) = true) (B : Nat) (mk : Nat → Value) (T : TypeId) (cs : Array Value) (hrun : ∀ w, (execOp a.eval o).run P w = .ok (.value (mk w.heap.size)) (w.alloc (.cells cs T)))
    (hS : S = KeepB K) (hI : ∀ m w o, I m w → I (m + 1) (w.alloc o)) (hB : ∀ m w, I m w → B ≤ w.heap.size) (hK : ∀ k, K k → k < B)
    (h : ∀ b, B ≤ b → wpGrow P ops S I M w0 sp Q rest (i + 1) ((i, fun w' => ∃ b', mk b = mk b' ∧ B ≤ b' ∧ w'.heap[b']? = some (.cells cs T (0, 0))) :: Γ) (a.put o.dst (mk b))) : wpGrow P ops S I M w0 sp Q (o :: rest) i Γ a := by
  subst hS
  unfold wpGrow Res
  rw [if_pos hw]
  refine .inr (.inl ⟨fun u w' => ∃ b', u = mk b' ∧ B ≤ b' ∧ w'.heap[b']? = some (.cells cs T (0, 0)), fun u w w' hb ⟨b', h1, h2, h3⟩ => ⟨b', h1, h2, ?_⟩, fun m w hm hb _ => ?_, (fun h => by cases h), fun u _ hu => ?_⟩)
  · rw [hb.block b' (by
      rcases Nat.lt_or_ge b' w.heap.size with h | h
      · exact h
      · rw [Array.getElem?_eq_none h] at h3; cases h3) (fun hk => by have := hK _ hk; omega), h3]
  · rw [hrun]
    exact ⟨⟨(KeepB.refl _ _).alloc _, hI _ _ _ hb⟩, w.heap.size, rfl, hB _ _ hb, heap_alloc_new w _⟩
  · obtain ⟨_, w', _, b', rfl, h2, _⟩ := hu rfl
    exact h b' h2

/-- A call of a Go function. -/
theorem grow_call (hw : Region.wanted o (yielded ops a.tmps) = true) (hs : ∀ u, Steady S (sp i u))
    (hc : ∀ m w, m < M → I m w → FactsAt .any ops i Γ w → callUpon P w (fun e w' => ∃ u, e = .returned u ∧ (S w w' ∧ I (m + 1) w') ∧ sp i u w') ((execOp a.eval o).run P w))
    (h : ∀ u, (∃ m w', I m w' ∧ sp i u w') → wpGrow P ops S I M w0 sp Q rest (i + 1) ((i, sp i u) :: Γ) (a.put o.dst u)) : wpGrow P ops S I M w0 sp Q (o :: rest) i Γ a := by
  unfold wpGrow Res
  rw [if_pos hw]
  exact .inr (.inr ⟨hs, hc, (fun h => by cases h), fun u _ hu => h u (hu rfl)⟩)
/-- A call of a Go function whose value is known. -/
theorem grow_val (v : Value) (hw : Region.wanted o (yielded ops a.tmps) = true) (hsp : sp i = fun u _ => u = v)
    (hc : ∀ m w, m < M → I m w → FactsAt .any ops i Γ w → callUpon P w (fun e w' => e = .returned v ∧ S w w' ∧ I (m + 1) w') ((execOp a.eval o).run P w))
    (h : wpGrow P ops S I M w0 sp Q rest (i + 1) ((i, fun _ => v = v) :: Γ) (a.put o.dst v)) : wpGrow P ops S I M w0 sp Q (o :: rest) i Γ a := by
  refine grow_call hw (fun u => by rw [hsp]; exact fun _ _ _ h => h) (fun m w hm hb hf => ?_) fun u ⟨_, w', _, hu⟩ => ?_
  · have hx := hc m w hm hb hf
    generalize (execOp a.eval o).run P w = r at hx ⊢
    cases r with
    | ok x w' =>
      cases x <;> simp only [callUpon] at hx ⊢
      exact ⟨hx.1, hx.2.mono fun e w'' ⟨he, hb⟩ => ⟨v, he, hb, by rw [hsp]⟩⟩
    | halt x w' => exact hx.elim
  · rw [hsp] at hu
    subst hu
    rw [hsp]
    exact h
end
/-- Worlds that are as w0 but for what has been made since. -/
def BI (w0 : World) : Nat → World → Prop := fun _ w => Below w0.heap.size w0 w
theorem BI.way (w0 : World) : Way (KeepB fun _ => False) (BI w0) := ⟨fun w => KeepB.refl _ w, fun _ _ _ h k => h.trans k, fun _ _ h => h⟩
theorem BI.fam (w0 x : World) : Below w0.heap.size w0 (FamI (Upto (BI w0) 200) w0 x) := by
  obtain ⟨_, _, h⟩ := FamI.is (J := Upto (BI w0) 200) (w1 := w0) ⟨0, by omega, Below.refl _ _⟩ x
  exact h
theorem BI.cell {w0 : World} {b o : Nat} {v : Value} (h : w0.cell? ⟨b, o, none⟩ = some v) (x : World) : (FamI (Upto (BI w0) 200) w0 x).cell? ⟨b, o, none⟩ = some v := by
  rw [(BI.fam w0 x).cell (World.block_lt_of_cell? _ _ h)]
  exact h
theorem BI.after {w0 w w' : World} {m : Nat} (h : BI w0 m w) (hb : Below w.heap.size w w') : KeepB (fun _ => False) w w' ∧ BI w0 (m + 1) w' := ⟨KeepB.of_below hb, h.trans (hb.mono h.size)⟩
theorem BI.alloc {w0 w : World} {m : Nat} (o : Obj) (h : BI w0 m w) : BI w0 (m + 1) (w.alloc o) := (h.after ((Below.refl _ _).alloc (Nat.le_refl _) _)).2
theorem BI.size {w0 w : World} {m : Nat} (h : BI w0 m w) : w0.heap.size ≤ w.heap.size := Below.size h
end GK
end AG

/- The laws' agAutomata; marks in automata that came back, and whether they are held. -/
namespace Go.Proofs.YtkoganldcmhopaaDoor
open Go.RowKit Go.BigFrame AG

set_option maxRecDepth 100000 in
set_option maxHeartbeats 2000000 in
theorem agAutomata_any (a b : Au) (A B C D : Option Addr) (c d f g : Nat) (w : World) (hr : AuAt w A c B d a) (hs : AuAt w C f D g b) :
    Calls Tryd.prog 36 #[a.val A c B d, b.val C f D g] w fun e w' => e = .returned (.bool (decide (a = b))) ∧ Below w.heap.size w w' := by
  obtain ⟨aa, an, ac⟩ := a
  obtain ⟨ba, bn, bc⟩ := b
  have hsp : Hid (decide (({ al := aa, nx := an, ac := ac } : Au) = { al := ba, nx := bn, ac := bc }) = (decide (aa = ba) && (decide (an = bn) && decide (ac = bc)))) := hid (by simp)
  obtain ⟨cl, cm, dl, dm, hr1, hr2⟩ := hr
  obtain ⟨fl, fm, gl, gm, hs1, hs2⟩ := hs
  dsimp only at cl dl fl gl hr1 hr2 hs1 hs2
  unfold AG.Au.val
  replace hr1 := hid hr1
  replace hr2 := hid hr2
  replace hs1 := hid hs1
  replace hs2 := hid hs2
  go_enter Tryd.func36, Tryd.ntmps36
  obtain ⟨w0, hw0, hz0, hB0, hS, hU⟩ := boxed2 w #[Value.int IntKind.i64 aa, Value.slice A an.length c, Value.slice B ac.length d] 26 #[Value.int IntKind.i64 ba, Value.slice C bn.length f, Value.slice D bc.length g] 26
  have p0 := hS 0 _ rfl _ (Below.refl _ _)
  have p1 := hS 1 _ rfl _ (Below.refl _ _)
  have p2 := hS 2 _ rfl _ (Below.refl _ _)
  have q0 := hU 0 _ rfl _ (Below.refl _ _)
  have q1 := hU 1 _ rfl _ (Below.refl _ _)
  have q2 := hU 2 _ rfl _ (Below.refl _ _)
  by_cases ha : aa = ba
  case neg =>
    have ha' : (aa != ba) = true := by simpa using ha
    have hd : decide (aa = ba) = false := decide_eq_false ha
    replace ha := hid ha
    go_wp2
    go_ret
    exact ⟨ret_bool (by first | rfl | (rw [hsp.out, hd]; rfl)), hB0⟩
  subst ha
  by_cases hln : an.length = bn.length
  case neg =>
    have ha' : ((an.length : Int) != (bn.length : Int)) = true := by simp; omega
    have hd : decide (an = bn) = false := decide_eq_false fun e => hln (by rw [e])
    replace hln := hid hln
    go_wp2
    go_ret
    exact ⟨ret_bool (by first | rfl | (rw [hsp.out, hd]; simp)), hB0⟩
  have hln' : ((an.length : Int) != (bn.length : Int)) = false := by simp; omega
  have haa : (aa != aa) = false := by simp
  replace hln := hid hln
  go_wp2_with fail
  refine (agBools_any ac bc B D d g w0 dl dm gl gm (hr2.out.later hB0) (hs2.out.later hB0)).mono ?_
  rintro e w1 ⟨rfl, hb1⟩
  have hB1 := hB0.trans (hb1.mono hB0.size)
  have hC1 := hb1.mono hz0
  clear p0 p1 p2 q0 q1 q2
  by_cases hac : ac = bc
  case neg =>
    have hd : decide (ac = bc) = false := decide_eq_false hac
    replace hac := hid hac
    rw [hd]
    go_wp2
    go_ret
    exact ⟨ret_bool (by first | rfl | (rw [hsp.out, hd]; simp)), hB1⟩
  have hd : decide (ac = bc) = true := decide_eq_true hac
  replace hac := hid hac
  rw [hd]
  have hz1 := hb1.size
  go_wp2_with fail
  go_loopw [5] (fun i wr => ∃ k : Nat, i = .int .i64 k ∧ k ≤ an.length ∧ (∀ i (h : i < an.length) (h' : i < bn.length), i < k → an[i] = bn[i]) ∧ Below w1.heap.size w1 wr) (fun i _ => an.length - (intOf i).toNat)
  case atStart => exact ⟨0, rfl, by omega, by intro i _ _ h; omega, Below.refl _ _⟩
  case round =>
    obtain ⟨k, rfl, hk, heq, hb⟩ := hrel
    have hCr := hC1.trans (hb.mono (by omega))
    have p1 := hS 1 _ rfl _ hCr
    have q1 := hU 1 _ rfl _ hCr
    by_cases hlt : k < an.length
    · have hrr := hr1.out.later hB1
      have hss := hs1.out.later hB1
      obtain ⟨b, o, hA, hB, hE⟩ := hrr (by omega)
      have hkb : k < bn.length := by have := hln.out; omega
      obtain ⟨b', o', hA', hB', hF⟩ := hss (by omega)
      subst hA
      subst hA'
      obtain ⟨Ai, ci, e0, hAl, hAc, hAe⟩ := hE k hlt
      obtain ⟨Bi, di, f0, hBl, hBc, hBe⟩ := hF k hkb
      have k1 : (0 : Int) ≤ (k : Int) ∧ (k : Int) < (an.length : Int) ∧ (k : Int) < (bn.length : Int) := by omega
      replace hE := hid hE
      replace hF := hid hF
      have g0 : ∀ x, (Fam w1.heap.size w1 x).cell? ⟨b, o + k, none⟩ = some (.slice Ai an[k].length ci) := fun x => by rw [(Fam.below w1.heap.size w1 x).cell (by simpa using hB)]; exact e0
      have i0 : ∀ x, (Fam w1.heap.size w1 x).cell? ⟨b', o' + k, none⟩ = some (.slice Bi bn[k].length di) := fun x => by rw [(Fam.below w1.heap.size w1 x).cell (by simpa using hB')]; exact f0
      have u1 := fun x => hS 1 _ rfl _ (hC1.trans ((Fam.below w1.heap.size w1 x).mono (by omega)))
      have v1 := fun x => hU 1 _ rfl _ (hC1.trans ((Fam.below w1.heap.size w1 x).mono (by omega)))
      clear e0 f0
      have hAe' := hid (fun x => hAe.later (Fam.below w1.heap.size w1 x))
      have hBe' := hid (fun x => hBe.later (Fam.below w1.heap.size w1 x))
      clear hAe hBe
      replace hrr := hid hrr
      replace hss := hid hss
      cases hq : decide (an[k] = bn[k])
      all_goals
        replace hq := hid hq
        replace heq := hid heq
        go_wp2_with fail
        clear p1 q1
        refine wp_region_fam w1.heap.size w1 (by kernel_rfl) (by kernel_rfl) hb ?_
        (repeat (go_big_quiet_step ((refine (agInts_any an[k] bn[k] Ai Bi ci di _ hAl hAc hBl hBc (hAe'.out _) (hBe'.out _)).mono ?_; rintro e w2 ⟨rfl, hb2⟩; exact ⟨by rw [hq.out], Fam.next (Nat.le_refl _) hb2⟩))))
        refine wpQuiet_nil ?_
        intro w2 hw2
        replace hw2 := Fam.out hw2
        clear u1 v1 g0 i0
        go_wp2
      · go_ret
        exact ⟨ret_bool (by
          have := hq.out
          rw [decide_eq_false_iff_not] at this
          rw [eq_comm, hsp.out, show decide (an = bn) = false from decide_eq_false fun h => this (by subst h; rfl)]
          simp), hB1.trans (hw2.mono hB1.size)⟩
      · go_roundw
        case rel =>
          refine ⟨k + 1, by go_num, by omega, fun i hi hi' hik => ?_, hw2⟩
          by_cases e : i = k
          · subst e; exact of_decide_eq_true hq.out
          · exact heq.out i hi hi' (by omega)
        case measure => simp [intOf]; omega
    · replace heq := hid heq
      go_wp2
      go_ret
      exact ⟨ret_bool (by
        rw [eq_comm, hsp.out, show decide (an = bn) = true from decide_eq_true (List.ext_getElem hln.out fun i hi hi' => heq.out i hi hi' (by omega)), hd]
        simp), hB1.trans (hb.mono hB1.size)⟩

end Go.Proofs.YtkoganldcmhopaaDoor

/- The laws' marks in automata that came back, and whether they are held. -/
namespace Go.Proofs.YtkoganldcmhopaaDoor
open Go.RowKit Go.BigFrame AG

/-- A row is written anew. -/
theorem RowsOwn.set_ {w w' : World} {base : Nat} {v : Value} {l1 l2 : List RowV} {x x' : RowV} (h : RowsOwn w base v (l1 ++ x :: l2)) (hk : KeepB (fun b => x.v.ownBlock = some b) w w') (hv : x'.v = x.v)
    (ho : w'.ownsRow base 3 1 x'.v x'.r.length (intVals x'.r)) : RowsOwn w' base v (l1 ++ x' :: l2) := by
  obtain ⟨h1, h2, h3⟩ := h
  have hx := h2 x (by simp)
  rw [List.pairwise_append, List.pairwise_cons] at h3
  refine ⟨?_, fun y hy => ?_, ?_⟩
  · have e : rowVals (l1 ++ x' :: l2) = rowVals (l1 ++ x :: l2) := by unfold rowVals; simp [hv]
    rw [e]
    have e2 : (l1 ++ x' :: l2).length = (l1 ++ x :: l2).length := by simp
    rw [e2]
    exact own_keep h1 hk fun g hg e => own_ne_own h1 hx (by decide) g g hg e rfl
  · rw [List.mem_append, List.mem_cons] at hy
    rcases hy with hy | rfl | hy
    · exact own_keep (h2 y (by simp [hy])) hk fun g hg e => h3.2.2 y hy x List.mem_cons_self g hg e
    · exact ho
    · exact own_keep (h2 y (by simp [hy])) hk fun g hg e => h3.2.1.1 y hy g e hg
  · rw [List.pairwise_append, List.pairwise_cons]
    refine ⟨h3.1, ⟨fun y hy => by rw [hv]; exact h3.2.1.1 y hy, h3.2.1.2⟩, fun a ha b hb => ?_⟩
    rcases List.mem_cons.1 hb with rfl | hb
    · rw [hv]; exact h3.2.2 a ha x List.mem_cons_self
    · exact h3.2.2 a ha b (List.mem_cons_of_mem _ hb)

end Go.Proofs.YtkoganldcmhopaaDoor

/- Plain: what the automaton of sets accepts; numberings that are alike. -/
namespace AG

def auOk (a : Au) : Bool := decide (alphaOk a.al = true ∧ 1 ≤ a.nx.length ∧ a.nx.length ≤ 12 ∧ a.ac.length = a.nx.length ∧ ∀ r ∈ a.nx, r.length = (letters a.al).length ∧ ∀ q ∈ r, 0 ≤ q ∧ q < (a.nx.length : Int))
/-- The state to which a letter leads; a letter that the automaton does not have leads nowhere else. -/
def goA (a : Au) (q l : Nat) : Nat := if l ∈ letters a.al then ((a.nx.getD q []).getD ((letters a.al).idxOf l) 0).toNat else q
def runA (a : Au) (q : Nat) : List Nat → Nat
  | [] => q
  | l :: r => goA a (runA a q r) l
def accA (a : Au) (r : List Nat) : Bool := a.ac.getD (runA a 0 r) false
def dW (nx : Nat → Nat → Nat) (n0 : Nat) : List Nat → Nat
  | [] => n0
  | l :: r => nx (dW nx n0 r) l

theorem numRes_spec {nx : Nat → Nat → Nat} {L : List Nat} {n0 lim : Nat} {x : List Nat × List (List Nat)} (h : numRes nx L n0 lim = some x) :
    x.1 = nsAt nx L n0 lim ∧ x.2 = x.1.map (rowOf nx L x.1) ∧ x.1.Nodup ∧ n0 ∈ x.1 ∧ x.1.idxOf n0 = 0 ∧ (∀ a ∈ x.1, ∀ l ∈ L, nx a l ∈ x.1) := by
  unfold numRes at h
  split at h
  · rename_i hl
    injection h with h
    subst h
    obtain ⟨h1, h2⟩ := nsAt_pos nx L n0 lim
    have h3 : (nsAt nx L n0 lim)[0] = n0 := by rw [List.getElem?_eq_getElem h1] at h2; injection h2
    refine ⟨rfl, rfl, nsAt_nodup _ _ _ _, List.mem_of_getElem? h2, ?_, fun a ha l hl2 => ?_⟩
    · have := (nsAt_nodup nx L n0 lim).idxOf_getElem 0 h1
      rw [h3] at this
      exact this
    · obtain ⟨i, hi, rfl⟩ := List.getElem_of_mem ha
      have hi' : i < (nsAt nx L n0 lim).length := hi
      have hil : i < lim := by omega
      have hii : i < (nsAt nx L n0 i).length := by
        rcases Nat.lt_or_ge i (nsAt nx L n0 i).length with h | h
        · exact h
        · have := nsAt_stop h (lim - i)
          rw [show i + (lim - i) = lim from by omega] at this
          rw [this] at hi'
          omega
      obtain ⟨m, hm⟩ := nsAt_pre nx L n0 i (lim - i)
      rw [show i + (lim - i) = lim from by omega] at hm
      obtain ⟨m2, hm2⟩ := nsAt_pre nx L n0 (i + 1) (lim - (i + 1))
      rw [show i + 1 + (lim - (i + 1)) = lim from by omega] at hm2
      have e : (nsAt nx L n0 lim)[i] = (nsAt nx L n0 i)[i] := by
        simp only [hm]
        rw [List.getElem_append_left hii]
      show nx (nsAt nx L n0 lim)[i] l ∈ nsAt nx L n0 lim
      rw [e, hm2]
      exact List.mem_append_left _ (nsAt_closed hii hl2)
  · cases h

theorem dW_mem {nx : Nat → Nat → Nat} {L : List Nat} {n0 lim : Nat} {x : List Nat × List (List Nat)} (h : numRes nx L n0 lim = some x) : ∀ r : List Nat, (∀ l ∈ r, l ∈ L) → dW nx n0 r ∈ x.1
  | [], _ => (numRes_spec h).2.2.2.1
  | l :: r, hr => (numRes_spec h).2.2.2.2.2 _ (dW_mem h r fun y hy => hr y (List.mem_cons_of_mem _ hy)) l (hr l List.mem_cons_self)

theorem getD_map_of_lt {α β : Type} (f : α → β) (l : List α) (i : Nat) (d : β) (h : i < l.length) : (l.map f).getD i d = f l[i] := by
  rw [List.getD_eq_getElem?_getD, List.getElem?_eq_getElem (by simpa using h), List.getElem_map]
  rfl
theorem goA_pr {s : Sy} {al : Int} {x : List Nat × List (List Nat)} (h : prNum s al = some x) {S l : Nat} (hS : S ∈ x.1) (hl : l ∈ letters al) :
    goA (prAu al x) (x.1.idxOf S) l = x.1.idxOf (prNx s (hidA s.al al) S l) := by
  obtain ⟨_, h2, _⟩ := numRes_spec h
  have hi : x.1.idxOf S < x.1.length := List.idxOf_lt_length_iff.2 hS
  have hk : (letters al).idxOf l < (letters al).length := List.idxOf_lt_length_iff.2 hl
  unfold goA prAu
  dsimp only
  rw [if_pos hl, h2]
  unfold toRows
  rw [List.map_map, getD_map_of_lt _ _ _ _ hi]
  dsimp only [Function.comp]
  rw [List.getElem_idxOf hi]
  unfold rowOf
  rw [List.map_map, getD_map_of_lt _ _ _ _ hk]
  dsimp only [Function.comp]
  rw [List.getElem_idxOf hk]
  exact Int.toNat_natCast _
noncomputable def prW (s : Sy) (al : Int) (r : List Nat) : Nat := dW (prNx s (hidA s.al al)) (reachSet s (hidA s.al al) 1) r
theorem runA_pr {s : Sy} {al : Int} {x : List Nat × List (List Nat)} (h : prNum s al = some x) : ∀ r : List Nat, (∀ l ∈ r, l ∈ letters al) → runA (prAu al x) 0 r = x.1.idxOf (prW s al r)
  | [], _ => by
    show 0 = _
    exact (numRes_spec h).2.2.2.2.1.symm
  | l :: r, hr => by
    have ih := runA_pr h r fun y hy => hr y (List.mem_cons_of_mem _ hy)
    show goA (prAu al x) (runA (prAu al x) 0 r) l = _
    rw [ih]
    exact goA_pr h (dW_mem h r fun y hy => hr y (List.mem_cons_of_mem _ hy)) (hr l List.mem_cons_self)
theorem accA_pr {s : Sy} {al : Int} {x : List Nat × List (List Nat)} (h : prNum s al = some x) {r : List Nat} (hr : ∀ l ∈ r, l ∈ letters al) : accA (prAu al x) r = decide (prW s al r ≠ 0) := by
  unfold accA
  rw [runA_pr h r hr]
  have hm : prW s al r ∈ x.1 := dW_mem h r hr
  have hi : x.1.idxOf (prW s al r) < x.1.length := List.idxOf_lt_length_iff.2 hm
  unfold prAu
  dsimp only
  rw [getD_map_of_lt _ _ _ _ hi, List.getElem_idxOf hi]
theorem auOk_pr {s : Sy} {al : Int} {x : List Nat × List (List Nat)} (ha : 0 ≤ al ∧ al ≤ 63) (h : prNum s al = some x) : auOk (prAu al x) = true := by
  obtain ⟨h1, h2, h3⟩ := numRes_len h
  obtain ⟨_, e2, _, e4, _, e6⟩ := numRes_spec h
  have hp : 0 < x.1.length := List.length_pos_of_mem e4
  unfold auOk prAu
  rw [decide_eq_true_eq]
  dsimp only
  rw [toRows_len, List.length_map]
  refine ⟨by unfold alphaOk; simpa using ha, by omega, by omega, by omega, fun r hr => ?_⟩
  unfold toRows at hr
  obtain ⟨r', hr', rfl⟩ := List.mem_map.1 hr
  refine ⟨by rw [List.length_map]; exact h3 r' hr', fun q hq => ?_⟩
  obtain ⟨n, hn, rfl⟩ := List.mem_map.1 hq
  rw [e2] at hr'
  obtain ⟨a, ha', rfl⟩ := List.mem_map.1 hr'
  unfold rowOf at hn
  obtain ⟨l, hl, rfl⟩ := List.mem_map.1 hn
  have := List.idxOf_lt_length_iff.2 (e6 a ha' l hl)
  omega

/-- Hidden letters of the empty alphabet lead nowhere. -/
theorem reach_none (s : Sy) {S : Nat} (hS : S < 65536) : reachSet s 0 S = S := by
  refine (reach_unique (R := S) hS (fun _ h => h) (fun e _ hA _ => ?_) fun x hx => Rch.start hx).symm
  unfold Has at hA
  simp at hA
theorem andB_self {a : Int} (h : 0 ≤ a) : andB a a = a := by unfold andB; simp; omega
theorem hid_self {a : Int} (h : 0 ≤ a) : hidA a a = 0 := by unfold hidA; rw [andB_self h]; omega
theorem prW_self {s : Sy} (h : 0 ≤ s.al) : ∀ r : List Nat, prW s s.al r = setW s r
  | [] => by
    unfold prW
    rw [hid_self h]
    exact reach_none s (by omega)
  | l :: r => by
    have ih := prW_self h r
    unfold prW at ih ⊢
    rw [hid_self h] at ih ⊢
    show reachSet s 0 (stepSet s (dW (prNx s 0) (reachSet s 0 1) r) (l : Int)) = stepSet s (setW s r) (l : Int)
    rw [ih, reach_none s (stepSet_lt _ _ _)]
theorem prOk_self {s : Sy} (h : sysOk s = true) : prOk s s.al = true := by
  have := sysOk_alpha h
  unfold prOk alphaOk
  rw [h, andB_self this.1]
  simpa using this

/-- Numberings of two sets of nodes that are alike. -/
theorem addN_map {f : Nat → Nat} {ns : List Nat} {x : Nat} (hf : ∀ a ∈ ns, f a = f x → a = x) : addN (ns.map f) (f x) = (addN ns x).map f := by
  unfold addN
  by_cases h : x ∈ ns
  · rw [if_pos h, if_pos (List.mem_map_of_mem h)]
  · rw [if_neg h, if_neg (fun hm => by
      obtain ⟨a, ha, e⟩ := List.mem_map.1 hm
      exact h (hf a ha e ▸ ha)), List.map_append]
    rfl
theorem rowN_map {f : Nat → Nat} {nx nx' : Nat → Nat → Nat} {P : Nat → Prop} {a : Nat} (hinj : ∀ a b, P a → P b → f a = f b → a = b) : ∀ (M ns : List Nat), (∀ y ∈ ns, P y) → (∀ l ∈ M, P (nx a l) ∧ nx' (f a) l = f (nx a l)) → rowN nx' (f a) (ns.map f) M = (rowN nx a ns M).map f
  | [], _, _, _ => rfl
  | l :: M, ns, h1, h2 => by
    obtain ⟨h3, h4⟩ := h2 l List.mem_cons_self
    show rowN nx' (f a) (addN (ns.map f) (nx' (f a) l)) M = _
    rw [h4, addN_map fun y hy e => hinj _ _ (h1 y hy) h3 e]
    refine rowN_map hinj M (addN ns (nx a l)) (fun y hy => ?_) fun y hy => h2 y (List.mem_cons_of_mem _ hy)
    unfold addN at hy
    split at hy
    · exact h1 y hy
    · rcases List.mem_append.1 hy with hy | hy
      · exact h1 y hy
      · rw [List.mem_singleton.1 hy]; exact h3
theorem nsAt_map {f : Nat → Nat} {nx nx' : Nat → Nat → Nat} {P : Nat → Prop} {L : List Nat} {n0 : Nat} (h0 : P n0) (hinj : ∀ a b, P a → P b → f a = f b → a = b) (hs : ∀ a, P a → ∀ l ∈ L, P (nx a l) ∧ nx' (f a) l = f (nx a l)) :
    ∀ i, nsAt nx' L (f n0) i = (nsAt nx L n0 i).map f
  | 0 => rfl
  | i + 1 => by
    have ih := nsAt_map h0 hinj hs i
    have hP := nsAt_all (P := P) (nx := nx) (L := L) h0 (fun a ha l hl => (hs a ha l hl).1) i
    by_cases h : i < (nsAt nx L n0 i).length
    · have h' : i < (nsAt nx' L (f n0) i).length := by rw [ih]; simpa using h
      have e : (nsAt nx' L (f n0) i)[i] = f (nsAt nx L n0 i)[i] := by simp only [ih]; rw [List.getElem_map]
      rw [nsAt_succ h', nsAt_succ h, e, ih]
      exact rowN_map hinj L _ hP (hs _ (hP _ (List.getElem_mem h)))
    · have h' : ¬ i < (nsAt nx' L (f n0) i).length := by rw [ih]; simpa using h
      have e1 := nsAt_stop (nx := nx) (L := L) (n0 := n0) (i := i) (by omega) 1
      have e2 := nsAt_stop (nx := nx') (L := L) (n0 := f n0) (i := i) (by omega) 1
      rw [e1, e2, ih]
theorem idxOf_map {f : Nat → Nat} {x : Nat} : ∀ {ns : List Nat}, (∀ a ∈ ns, f a = f x → a = x) → (ns.map f).idxOf (f x) = ns.idxOf x
  | [], _ => rfl
  | a :: ns, h => by
    rw [List.map_cons, List.idxOf_cons, List.idxOf_cons, idxOf_map fun b hb => h b (List.mem_cons_of_mem _ hb)]
    by_cases e : a = x
    · subst e; simp
    · have : f a ≠ f x := fun e' => e (h a List.mem_cons_self e')
      rw [show (f a == f x) = false from by simpa using this, show (a == x) = false from by simpa using e]
theorem numRes_map {f : Nat → Nat} {nx nx' : Nat → Nat → Nat} {P : Nat → Prop} {L : List Nat} {n0 lim : Nat} (h0 : P n0) (hinj : ∀ a b, P a → P b → f a = f b → a = b) (hs : ∀ a, P a → ∀ l ∈ L, P (nx a l) ∧ nx' (f a) l = f (nx a l)) :
    numRes nx' L (f n0) lim = (numRes nx L n0 lim).map fun x => (x.1.map f, x.2) := by
  have hP := nsAt_all (P := P) (nx := nx) (L := L) h0 (fun a ha l hl => (hs a ha l hl).1) lim
  unfold numRes
  rw [nsAt_map h0 hinj hs, List.length_map]
  split
  · rw [Option.map_some, List.map_map]
    congr 2
    refine List.map_congr_left fun a ha => ?_
    unfold rowOf
    refine List.map_congr_left fun l hl => ?_
    obtain ⟨h1, h2⟩ := hs a (hP a ha) l hl
    rw [h2]
    exact idxOf_map fun b hb e => hinj _ _ (hP b hb) h1 e
  · rfl

end AG

/- Contracts of the program's small functions on letters and edges. -/
namespace Go.Proofs.YtkoganldcmhopaaDoor
open Go.RowKit Go.BigFrame AG
attribute [local go_sem] Fam.below

set_option maxHeartbeats 400000 in
theorem isAlphabet_any (a : Int) (w : World) :
    Calls Tryd.prog 71 #[.int .i64 a] w fun e w' => e = .returned (.bool (alphaOk a)) ∧ w = w' := by
  go_enter Tryd.func71, Tryd.ntmps71
  go_wp2
  all_goals go_ret
  all_goals exact ⟨ret_bool (by unfold alphaOk; simp; omega), rfl⟩

set_option maxHeartbeats 400000 in
theorem has_any (a n : Int) (w : World) (h1 : n ≤ 63) :
    Calls Tryd.prog 67 #[.int .i64 a, .int .i64 n] w fun e w' => e = .returned (.bool (HasZ a n)) ∧ w = w' := by
  by_cases h0 : 0 ≤ n
  · go_enter Tryd.func67, Tryd.ntmps67
    go_wp2
    go_ret
    exact ⟨ret_bool (by unfold HasZ; rw [← and_one_has]; simp [h0]), rfl⟩
  · go_enter Tryd.func67, Tryd.ntmps67
    go_wp2
    go_ret
    exact ⟨ret_bool (by unfold HasZ; rw [decide_eq_false (show ¬ 0 ≤ n by omega)]; rfl), rfl⟩

set_option maxHeartbeats 400000 in
theorem isState_any (s : Sy) (A : Option Addr) (c : Nat) (q : Int) (w : World) :
    Calls Tryd.prog 75 #[s.val A c, .int .i64 q] w fun e w' => e = .returned (.bool (decide (0 ≤ q ∧ q < s.st))) ∧ Below w.heap.size w w' := by
  unfold Sy.val
  go_enter Tryd.func75, Tryd.ntmps75
  go_wp2
  all_goals go_ret
  all_goals exact ⟨ret_bool (by simp; omega), by (repeat (first | exact Below.refl _ _ | assumption | refine Below.drew ?_ | refine Below.alloc ?_ (by first | omega | (simp; done) | (simp; omega)) _ | refine Below.setCell ?_ (by first | omega | (simp; done) | (simp; omega)) _))⟩

set_option maxHeartbeats 400000 in
theorem compareInt_any (a b : Int) (w : World) :
    Calls Tryd.prog 132 #[.int .i64 a, .int .i64 b] w fun e w' => e = .returned (.int .i64 (cmpI a b)) ∧ w' = w := by
  go_enter Tryd.func132, Tryd.ntmps132
  go_wp2
  all_goals go_ret
  all_goals exact ⟨ret_int (by unfold cmpI; (repeat' split) <;> omega), rfl⟩

set_option maxHeartbeats 400000 in
theorem orInt_any (x y z : Int) (g : Nat) (w : World) (h0 : w.cell? ⟨g, 0, none⟩ = some (.int .i64 x)) (h1 : w.cell? ⟨g, 1, none⟩ = some (.int .i64 y)) (h2 : w.cell? ⟨g, 2, none⟩ = some (.int .i64 z)) :
    Calls Tryd.prog 131 #[.slice (some ⟨g, 0, none⟩) 3 3] w fun e w' => e = .returned (.int .i64 (orI x y z)) ∧ w = w' := by
  go_enter Tryd.func131, Tryd.ntmps131
  go_wp2
  go_loop [8] (fun i => ∃ k : Nat, k ≤ 3 ∧ i = .int .i64 k ∧ (1 ≤ k → x = 0) ∧ (2 ≤ k → y = 0) ∧ (3 ≤ k → z = 0)) (fun i => 3 - (intOf i).toNat)
  case atStart => exact ⟨0, by omega, rfl, by omega, by omega, by omega⟩
  case round =>
    obtain ⟨k, hk, rfl, e0, e1, e2⟩ := hrel
    rcases (show k = 0 ∨ k = 1 ∨ k = 2 ∨ k = 3 by omega) with rfl | rfl | rfl | rfl
    · clear e0 e1 e2
      by_cases hx : x = 0
      · subst hx
        go_wp2
        go_round
        case rel => exact ⟨1, by omega, by go_num, by simp, by omega, by omega⟩
        case measure => simp [intOf]
      · go_wp2
        go_ret
        exact ⟨ret_int (by unfold orI; simp [hx]), rfl⟩
    · obtain rfl := e0 (by omega)
      clear e0 e1 e2
      by_cases hx : y = 0
      · subst hx
        go_wp2
        go_round
        case rel => exact ⟨2, by omega, by go_num, by simp, by simp, by omega⟩
        case measure => simp [intOf]
      · go_wp2
        go_ret
        exact ⟨ret_int (by unfold orI; simp [hx]), rfl⟩
    · obtain rfl := e0 (by omega)
      obtain rfl := e1 (by omega)
      clear e0 e1 e2
      by_cases hx : z = 0
      · subst hx
        go_wp2
        go_round
        case rel => exact ⟨3, by omega, by go_num, by simp, by simp, by simp⟩
        case measure => simp [intOf]
      · go_wp2
        go_ret
        exact ⟨ret_int (by unfold orI; simp), rfl⟩
    · obtain rfl := e0 (by omega)
      obtain rfl := e1 (by omega)
      obtain rfl := e2 (by omega)
      go_wp2
      go_ret
      exact ⟨ret_int (by unfold orI; simp), rfl⟩

set_option maxHeartbeats 400000 in
theorem compareEdges_any (a b : Ed) (w : World) :
    Calls Tryd.prog 76 #[a.val, b.val] w fun e w' => e = .returned (.int .i64 (cmpE a b)) ∧ Below w.heap.size w w' := by
  unfold Ed.val
  go_enter Tryd.func76, Tryd.ntmps76
  go_wp2_with fail
  obtain ⟨w0, hw0, hz0, hB0, hx, hy⟩ := boxed2 w #[Value.int IntKind.i64 a.f, Value.int IntKind.i64 a.l, Value.int IntKind.i64 a.t] 66 #[Value.int IntKind.i64 b.f, Value.int IntKind.i64 b.l, Value.int IntKind.i64 b.t] 66
  have x0 := hx 0 _ rfl
  have x1 := hx 1 _ rfl
  have x2 := hx 2 _ rfl
  have y0 := hy 0 _ rfl
  have y1 := hy 1 _ rfl
  have y2 := hy 2 _ rfl
  clear hx hy
  rw [hw0]
  clear hw0
  refine wp_region_fam_tail (w.heap.size + 2) w0 15 (by kernel_rfl) (by kernel_rfl) (Below.refl _ _) ?_
  simp only [List.take_succ_cons, List.take_zero, List.drop_succ_cons, List.drop_zero]
  repeat (go_big_quiet_step ((refine (compareInt_any _ _ _).mono ?_; rintro e w1 ⟨rfl, rfl⟩; exact ⟨rfl, _, rfl⟩)))
  refine wpQuiet_nil ?_
  intro w2 hw2
  replace hw2 := Fam.out hw2
  go_wp2_with (go_at_call 131; refine (orInt_any (cmpI a.f b.f) (cmpI a.l b.l) (cmpI a.t b.t) _ _ (by simp) (by simp) (by simp)).mono ?_; rintro e w1 ⟨rfl, rfl⟩)
  go_ret
  exact ⟨rfl, hB0.trans ((hw2.mono (by omega)).alloc (Nat.le_trans (by omega) hw2.size) _)⟩

end Go.Proofs.YtkoganldcmhopaaDoor

/- The program's SystemValid returns sysOk. -/
namespace Go.Proofs.YtkoganldcmhopaaDoor
open Go.RowKit Go.BigFrame AG
attribute [local go_sem] Fam.below

set_option maxHeartbeats 4000000 in
theorem implSystemValid_any (s : Sy) (A : Option Addr) (c : Nat) (w : World) (hl : s.es.length ≤ c) (hc : c ≤ 9223372036854775807) (hr : EdsAt w w.heap.size A s.es) :
    Calls Tryd.prog 26 #[s.val A c] w fun e w' => e = .returned (.bool (sysOk s)) ∧ Below w.heap.size w w' := by
  by_cases ha : alphaOk s.al = true
  · by_cases h1 : 1 ≤ s.st ∧ s.st ≤ 16
    · obtain ⟨h1, h2⟩ := h1
      have hbad : ∀ k, ¬ edgesOkTo s.al s.st s.es (k + 1) → sysOk s = false := fun k h => by
        unfold sysOk
        rw [decide_eq_false_iff_not]
        rintro ⟨_, _, _, h'⟩
        exact h fun i hi _ => h' i hi hi
      have hgood : edgesOkTo s.al s.st s.es s.es.length → sysOk s = true := fun h => by
        unfold sysOk
        rw [decide_eq_true_iff]
        exact ⟨ha, h1, h2, h⟩
      unfold Sy.val
      go_enter Tryd.func26, Tryd.ntmps26
      go_wp2_with (go_at_call 71; refine (isAlphabet_any _ _).mono ?_; rintro e w' ⟨rfl, rfl⟩)
      obtain ⟨w0, hw0, hz0, hB0, hS0, hS1, hS2⟩ := boxed3 w (Value.int IntKind.i64 s.al) (Value.int IntKind.i64 s.st) (Value.slice A s.es.length c) 30
      rw [hw0]
      clear hw0
      replace hgood := hid hgood
      replace hbad := hid hbad
      go_loopw [22] (fun i wr => ∃ k : Nat, i = .int .i64 k ∧ k ≤ s.es.length ∧ edgesOkTo s.al s.st s.es k ∧ Below (w.heap.size + 1) w0 wr) (fun i _ => s.es.length - (intOf i).toNat)
      case atStart => exact ⟨0, rfl, by omega, by intro i _ h; omega, Below.refl _ _⟩
      case round =>
        obtain ⟨k, rfl, hk, hok, hb⟩ := hrel
        by_cases hlt : k < s.es.length
        · obtain ⟨b, o, rfl, hB, hE⟩ := hr.get hB0 (Nat.le_succ w.heap.size) hlt
          obtain ⟨e0, e1, e2⟩ := hE k hlt
          have hek : edgeOk s.al s.st s.es[k] = (decide (0 ≤ s.es[k].f ∧ s.es[k].f < s.st) && (decide (0 ≤ s.es[k].t ∧ s.es[k].t < s.st) && (decide (s.es[k].l < 6) && HasZ s.al s.es[k].l))) := edgeOk_split _ _ _
          have hbadE : edgeOk s.al s.st s.es[k] = false → sysOk s = false := fun h => hbad.out k fun h' => by
            have := (h' k hlt (by omega)).1
            rw [h] at this
            cases this
          have hzr : w.heap.size + 1 ≤ wr.heap.size := Nat.le_trans hz0 hb.size
          replace hr := hid hr
          replace hok := hid hok
          replace hbadE := hid hbadE
          replace hek := hid hek
          go_wp2_with fail
          obtain ⟨w1, hw1, hz1, hB1, hE0, hE1, hE2⟩ := boxed3 wr (Value.int IntKind.i64 s.es[k].f) (Value.int IntKind.i64 s.es[k].l) (Value.int IntKind.i64 s.es[k].t) 66
          rw [hw1]
          clear hw1
          have hB1' : Below (w.heap.size + 1) wr w1 := hB1.mono hzr
          have hF : ∀ x, Below (w.heap.size + 1) w0 (Fam (wr.heap.size + 1) w1 x) := fun x => (hb.trans hB1').trans ((Fam.below _ _ _).mono (by omega))
          have hle : w.heap.size + 1 ≤ wr.heap.size + 1 := by omega
          have q0 := fun x => hS0 _ (hF x)
          have q1 := fun x => hS1 _ (hF x)
          have q2 := fun x => hS2 _ (hF x)
          clear hz0
          cases B1 : decide (0 ≤ s.es[k].f ∧ s.es[k].f < s.st)
          · replace B1 := hid B1
            replace hE := hid hE
            (refine wp_region_fam (wr.heap.size + 1) w1 (by kernel_rfl) (by kernel_rfl) (Below.refl _ _) ?_; (repeat (go_big_quiet_step (first | (go_at_call 75; refine (isState_any s _ c _ _).mono ?_; rintro e w3 ⟨rfl, hb3⟩; exact ⟨(by first | rw [B1.out] | rw [B2.out]), Fam.next hz1 hb3⟩) | (go_at_call 67; refine (has_any _ _ _ (by omega)).mono ?_; rintro e w3 ⟨rfl, rfl⟩; exact ⟨by rw [B4.out], _, rfl⟩) | (go_at_call 76; fail)))); refine wpQuiet_nil ?_; intro w2 hw2; replace hw2 := Fam.out hw2; have hw3 : Below (w.heap.size + 1) w0 w2 := (hb.trans hB1').trans (hw2.mono hle); go_wp2)
            go_ret
            exact ⟨by rw [hbadE.out (by rw [hek.out, B1.out]; rfl)]; rfl, hB0.trans (hw3.mono (by omega))⟩
          cases B2 : decide (0 ≤ s.es[k].t ∧ s.es[k].t < s.st)
          · replace B1 := hid B1
            replace B2 := hid B2
            replace hE := hid hE
            (refine wp_region_fam (wr.heap.size + 1) w1 (by kernel_rfl) (by kernel_rfl) (Below.refl _ _) ?_; (repeat (go_big_quiet_step (first | (go_at_call 75; refine (isState_any s _ c _ _).mono ?_; rintro e w3 ⟨rfl, hb3⟩; exact ⟨(by first | rw [B1.out] | rw [B2.out]), Fam.next hz1 hb3⟩) | (go_at_call 67; refine (has_any _ _ _ (by omega)).mono ?_; rintro e w3 ⟨rfl, rfl⟩; exact ⟨by rw [B4.out], _, rfl⟩) | (go_at_call 76; fail)))); refine wpQuiet_nil ?_; intro w2 hw2; replace hw2 := Fam.out hw2; have hw3 : Below (w.heap.size + 1) w0 w2 := (hb.trans hB1').trans (hw2.mono hle); go_wp2)
            go_ret
            exact ⟨by rw [hbadE.out (by rw [hek.out, B1.out, B2.out]; rfl)]; rfl, hB0.trans (hw3.mono (by omega))⟩
          by_cases h3 : s.es[k].l < 6
          · have h3d : decide (6 ≤ s.es[k].l) = false := by simp; omega
            cases B4 : HasZ s.al s.es[k].l
            · replace B1 := hid B1
              replace B2 := hid B2
              replace B4 := hid B4
              replace hE := hid hE
              (refine wp_region_fam (wr.heap.size + 1) w1 (by kernel_rfl) (by kernel_rfl) (Below.refl _ _) ?_; (repeat (go_big_quiet_step (first | (go_at_call 75; refine (isState_any s _ c _ _).mono ?_; rintro e w3 ⟨rfl, hb3⟩; exact ⟨(by first | rw [B1.out] | rw [B2.out]), Fam.next hz1 hb3⟩) | (go_at_call 67; refine (has_any _ _ _ (by omega)).mono ?_; rintro e w3 ⟨rfl, rfl⟩; exact ⟨by rw [B4.out], _, rfl⟩) | (go_at_call 76; fail)))); refine wpQuiet_nil ?_; intro w2 hw2; replace hw2 := Fam.out hw2; have hw3 : Below (w.heap.size + 1) w0 w2 := (hb.trans hB1').trans (hw2.mono hle); go_wp2)
              go_ret
              exact ⟨by rw [hbadE.out (by rw [hek.out, B1.out, B2.out, B4.out]; simp)]; rfl, hB0.trans (hw3.mono (by omega))⟩
            · have hek' : edgeOk s.al s.st s.es[k] = true := by rw [hek.out, B1, B2, B4]; simpa using h3
              by_cases hk0 : k = 0
              · subst hk0
                simp only [Nat.zero_mul, Nat.add_zero] at e0 e1 e2
                have hok' : edgesOkTo s.al s.st s.es (0 + 1) := fun i hi hi' => by
                  obtain rfl : i = 0 := by omega
                  exact ⟨hek', fun j _ h => by omega⟩
                replace hok' := hid hok'
                replace B1 := hid B1
                replace B2 := hid B2
                replace B4 := hid B4
                replace hek' := hid hek'
                replace hE := hid hE
                (refine wp_region_fam (wr.heap.size + 1) w1 (by kernel_rfl) (by kernel_rfl) (Below.refl _ _) ?_; (repeat (go_big_quiet_step (first | (go_at_call 75; refine (isState_any s _ c _ _).mono ?_; rintro e w3 ⟨rfl, hb3⟩; exact ⟨(by first | rw [B1.out] | rw [B2.out]), Fam.next hz1 hb3⟩) | (go_at_call 67; refine (has_any _ _ _ (by omega)).mono ?_; rintro e w3 ⟨rfl, rfl⟩; exact ⟨by rw [B4.out], _, rfl⟩) | (go_at_call 76; fail)))); refine wpQuiet_nil ?_; intro w2 hw2; replace hw2 := Fam.out hw2; have hw3 : Below (w.heap.size + 1) w0 w2 := (hb.trans hB1').trans (hw2.mono hle); go_wp2)
                go_roundw
                case rel => exact ⟨1, by go_num, by omega, hok'.out, hw3⟩
                case measure => simp [intOf]; omega
              · obtain ⟨j, rfl⟩ : ∃ j, k = j + 1 := ⟨k - 1, by omega⟩
                obtain ⟨p0, p1, p2⟩ := hE j (by omega)
                replace p0 := fun x => p0 _ (hF x)
                replace p1 := fun x => p1 _ (hF x)
                replace p2 := fun x => p2 _ (hF x)
                replace hE := hid hE
                have hcmp := cmpE_ge s.es[j] s.es[j + 1]
                have hrng : edgeLt s.es[j] s.es[j + 1] = true → edgesOkTo s.al s.st s.es (j + 1 + 1) := fun h i hi hi' => by
                  by_cases e : i = j + 1
                  · subst e
                    exact ⟨hek', fun m hm e => by obtain rfl : m = j := by omega
                                                  exact h⟩
                  · exact hok.out i hi (by omega)
                replace B1 := hid B1
                replace B2 := hid B2
                replace B4 := hid B4
                replace hek' := hid hek'
                replace hrng := hid hrng
                by_cases hge : 0 ≤ cmpE s.es[j] s.es[j + 1]
                · have hno : edgeLt s.es[j] s.es[j + 1] = false := by simpa [hge] using hcmp
                  replace hno := hid hno
                  have hgd : decide (0 ≤ cmpE s.es[j] s.es[j + 1]) = true := by simpa using hge
                  clear hcmp
                  (refine wp_region_fam (wr.heap.size + 1) w1 (by kernel_rfl) (by kernel_rfl) (Below.refl _ _) ?_; (repeat (go_big_quiet_step (first | (go_at_call 75; refine (isState_any s _ c _ _).mono ?_; rintro e w3 ⟨rfl, hb3⟩; exact ⟨(by first | rw [B1.out] | rw [B2.out]), Fam.next hz1 hb3⟩) | (go_at_call 67; refine (has_any _ _ _ (by omega)).mono ?_; rintro e w3 ⟨rfl, rfl⟩; exact ⟨by rw [B4.out], _, rfl⟩) | (go_at_call 76; refine (compareEdges_any s.es[j] s.es[j + 1] _).mono ?_; rintro e w3 ⟨rfl, hb3⟩; exact ⟨rfl, Fam.next hz1 hb3⟩)))); refine wpQuiet_nil ?_; intro w2 hw2; replace hw2 := Fam.out hw2; have hw3 : Below (w.heap.size + 1) w0 w2 := (hb.trans hB1').trans (hw2.mono hle); go_wp2)
                  go_ret
                  have hfin := hbad.out (j + 1) fun h => by have := (h (j + 1) hlt (by omega)).2 j (by omega) rfl; rw [hno.out] at this; cases this
                  exact ⟨by rw [hfin]; rfl, hB0.trans (hw3.mono (by omega))⟩
                · have hyes : edgeLt s.es[j] s.es[j + 1] = true := by simpa [hge] using hcmp
                  replace hyes := hid hyes
                  have hgd : decide (0 ≤ cmpE s.es[j] s.es[j + 1]) = false := by simpa using hge
                  clear hcmp
                  (refine wp_region_fam (wr.heap.size + 1) w1 (by kernel_rfl) (by kernel_rfl) (Below.refl _ _) ?_; (repeat (go_big_quiet_step (first | (go_at_call 75; refine (isState_any s _ c _ _).mono ?_; rintro e w3 ⟨rfl, hb3⟩; exact ⟨(by first | rw [B1.out] | rw [B2.out]), Fam.next hz1 hb3⟩) | (go_at_call 67; refine (has_any _ _ _ (by omega)).mono ?_; rintro e w3 ⟨rfl, rfl⟩; exact ⟨by rw [B4.out], _, rfl⟩) | (go_at_call 76; refine (compareEdges_any s.es[j] s.es[j + 1] _).mono ?_; rintro e w3 ⟨rfl, hb3⟩; exact ⟨rfl, Fam.next hz1 hb3⟩)))); refine wpQuiet_nil ?_; intro w2 hw2; replace hw2 := Fam.out hw2; have hw3 : Below (w.heap.size + 1) w0 w2 := (hb.trans hB1').trans (hw2.mono hle); go_wp2)
                  go_roundw
                  case rel => exact ⟨j + 1 + 1, by go_num, by omega, hrng.out hyes.out, hw3⟩
                  case measure => simp [intOf]; omega
          · have h3d : decide (6 ≤ s.es[k].l) = true := by simp; omega
            replace B1 := hid B1
            replace B2 := hid B2
            replace hE := hid hE
            (refine wp_region_fam (wr.heap.size + 1) w1 (by kernel_rfl) (by kernel_rfl) (Below.refl _ _) ?_; (repeat (go_big_quiet_step (first | (go_at_call 75; refine (isState_any s _ c _ _).mono ?_; rintro e w3 ⟨rfl, hb3⟩; exact ⟨(by first | rw [B1.out] | rw [B2.out]), Fam.next hz1 hb3⟩) | (go_at_call 67; refine (has_any _ _ _ (by omega)).mono ?_; rintro e w3 ⟨rfl, rfl⟩; exact ⟨by rw [B4.out], _, rfl⟩) | (go_at_call 76; fail)))); refine wpQuiet_nil ?_; intro w2 hw2; replace hw2 := Fam.out hw2; have hw3 : Below (w.heap.size + 1) w0 w2 := (hb.trans hB1').trans (hw2.mono hle); go_wp2)
            go_ret
            exact ⟨by rw [hbadE.out (by rw [hek.out, B1.out, B2.out]; simp; omega)]; rfl, hB0.trans (hw3.mono (by omega))⟩
        · have hfin : Hid (sysOk s = true) := hid (hgood.out fun i hi hi' => hok i hi (by omega))
          replace hok := hid hok
          go_wp2
          go_ret
          exact ⟨by rw [hfin.out]; rfl, hB0.trans (hb.mono (by omega))⟩
    · have hfin : Hid (sysOk s = false) := hid (by
        unfold sysOk
        rw [decide_eq_false_iff_not]
        rintro ⟨_, h2, h3, _⟩
        omega)
      unfold Sy.val
      go_enter Tryd.func26, Tryd.ntmps26
      go_wp2_with (go_at_call 71; refine (isAlphabet_any _ _).mono ?_; rintro e w' ⟨rfl, rfl⟩)
      all_goals
        go_ret
        exact ⟨by rw [hfin.out]; rfl, by (repeat (first | exact Below.refl _ _ | assumption | refine Below.drew ?_ | refine Below.alloc ?_ (by first | omega | (simp; done) | (simp; omega)) _ | refine Below.setCell ?_ (by first | omega | (simp; done) | (simp; omega)) _))⟩
  · have hfin : Hid (sysOk s = false) := hid (by
      unfold sysOk
      rw [decide_eq_false_iff_not]
      rintro ⟨h, _⟩
      exact ha h)
    unfold Sy.val
    go_enter Tryd.func26, Tryd.ntmps26
    go_wp2_with (go_at_call 71; refine (isAlphabet_any _ _).mono ?_; rintro e w' ⟨rfl, rfl⟩)
    all_goals
      go_ret
      exact ⟨by rw [hfin.out]; rfl, by (repeat (first | exact Below.refl _ _ | assumption | refine Below.drew ?_ | refine Below.alloc ?_ (by first | omega | (simp; done) | (simp; omega)) _ | refine Below.setCell ?_ (by first | omega | (simp; done) | (simp; omega)) _))⟩

end Go.Proofs.YtkoganldcmhopaaDoor

/- The program's moves, and the states that it reaches. -/
namespace Go.Proofs.YtkoganldcmhopaaDoor
open Go.RowKit Go.BigFrame AG

/-- The library's table lies as its initialiser lays it. -/
def Tab (w : World) : Prop := ∀ j, j < Lib.deBruijn64tab.length → w.cell? ⟨1, j, none⟩ = some (.int .u8 (Lib.deBruijn64tab.getD j 0))

theorem Tab.later {w w' : World} (h : Tab w) (hb : Below w.heap.size w w') : Tab w' := fun j hj => by
  have := h j hj
  rw [hb.cell (World.block_lt_of_cell? _ _ this)]
  exact this

set_option maxHeartbeats 1000000 in
theorem tz64_core_ (x k idx : Nat) (w : World) (hx0 : ((x : Int) == 0) = false)
    (key : IntKind.u64.wrap (bits BinOp.and IntKind.u64 (x : Int) (IntKind.u64.wrap (-(x : Int))) * 285870213051353865) / 288230376151711744 = (idx : Int))
    (hi : idx < 64) (hk : k < 64) (hcell : w.cell? ⟨1, idx, none⟩ = some (.int .u8 k)) :
    Calls Tryd.prog 176 #[.int .u64 x] w fun e w' => e = .returned (.int .i64 k) ∧ w = w' := by
  go_enter Tryd.func176, Tryd.ntmps176
  go_wp2_with (simp only [key])
  go_ret
  exact ⟨rfl, rfl⟩

theorem trailingZeros64_any (x : Nat) (hx : x < 18446744073709551616) (hx0 : x ≠ 0) (w : World) (hT : Tab w) :
    Calls Tryd.prog 176 #[.int .u64 x] w fun e w' => e = .returned (.int .i64 (Lib.ctz 64 x)) ∧ w = w' := by
  obtain ⟨hlow, hk⟩ := Lib.lowest_bit 64 x hx0 hx
  obtain ⟨hi, htab⟩ := Lib.deBruijn64_at _ hk
  have hcell := hT _ hi
  rw [htab] at hcell
  exact tz64_core_ x _ _ w (by simp; omega) (tz64_key x _ hx hx0 hlow) hi hk hcell

set_option maxHeartbeats 1000000 in
theorem trailingZeros_any (x : Nat) (hx : x < 18446744073709551616) (hx0 : x ≠ 0) (w : World) (hT : Tab w) :
    Calls Tryd.prog 114 #[.int .u64 x] w fun e w' => e = .returned (.int .i64 (Lib.ctz 64 x)) ∧ w = w' := by
  replace hT := hid hT
  go_enter Tryd.func114, Tryd.ntmps114
  go_wp2_with (go_at_call 176; refine (trailingZeros64_any x hx hx0 _ hT.out).mono ?_; rintro e w' ⟨rfl, rfl⟩)
  go_ret
  exact ⟨rfl, rfl⟩

theorem zeroMoves : Tryd.zeroCells152 = Array.replicate 96 (Value.int .i64 0) := by kernel_rfl

set_option maxHeartbeats 1000000 in
theorem movesOf_any (s : Sy) (A : Option Addr) (c : Nat) (w : World) (hs : edgesIn s) (hl : s.es.length ≤ c) (hc : c ≤ 9223372036854775807) (hr : EdsAt w w.heap.size A s.es) :
    Calls Tryd.prog 120 #[s.val A c] w (MvPost (mv s) w) := by
  unfold Sy.val
  replace hr := hid hr
  replace hs := hid hs
  go_enter Tryd.func120, Tryd.ntmps120
  go_wp2_with fail
  obtain ⟨w0, hw0, hz0, hB0, hS0, hS1, hS2⟩ := boxed3 w (Value.int IntKind.i64 s.al) (Value.int IntKind.i64 s.st) (Value.slice A s.es.length c) 30
  obtain ⟨w1, hw1⟩ : ∃ w1, (w.alloc (Obj.cells #[Value.int IntKind.i64 s.al, Value.int IntKind.i64 s.st, Value.slice A s.es.length c] 30)).alloc (Obj.cells Tryd.zeroCells152 152) = w1 := ⟨_, rfl⟩
  have hblk0 : Blk w1 (w.heap.size + 1) 152 Tryd.zeroCells152 := by
    rw [← hw1]
    have := Blk.new (w.alloc (Obj.cells #[Value.int IntKind.i64 s.al, Value.int IntKind.i64 s.st, Value.slice A s.es.length c] 30)) 152 Tryd.zeroCells152
    simpa using this
  have hB1 : Below w.heap.size w w1 := by rw [← hw1]; (repeat (first | exact Below.refl _ _ | assumption | refine Below.drew ?_ | refine Below.alloc ?_ (by first | omega | (simp; done) | (simp; omega)) _ | refine Below.setCell ?_ (by first | omega | (simp; done) | (simp; omega)) _))
  have hz1 : w1.heap.size = w.heap.size + 2 := by rw [← hw1]; simp
  have hin0 : MvIn Tryd.zeroCells152 (mvTo s 0) := by
    rw [zeroMoves]
    refine ⟨by simp, fun q l hq hl => ?_⟩
    rw [mvTo_zero, Array.getElem?_replicate, if_pos (by omega)]
    rfl
  rw [hw1]
  clear hw1 hw0 hS0 hS1 hS2 hB0 hz0 w0
  replace hz1 := hid hz1
  replace hin0 := hid hin0
  replace hblk0 := hid hblk0
  go_loopw [10] (fun i wr => ∃ (k : Nat) (cs : Array Value), i = .int .i64 k ∧ k ≤ s.es.length ∧ MvIn cs (mvTo s k) ∧ Blk wr (w.heap.size + 1) 152 cs ∧ Below w.heap.size w wr) (fun i _ => s.es.length - (intOf i).toNat)
  case atStart => exact ⟨0, _, rfl, by omega, hin0.out, hblk0.out, hB1⟩
  case round =>
    obtain ⟨k, cs, rfl, hk, hin, hblk, hb⟩ := hrel
    by_cases hlt : k < s.es.length
    · obtain ⟨b, o, rfl, hB, hE⟩ := hr.out.get (Below.refl _ _) (Nat.le_refl _) hlt
      obtain ⟨e0, e1, e2⟩ := hE k hlt
      obtain ⟨f1, f2, f3, f4, f5, f6, _⟩ := hs.out s.es[k] (List.getElem_mem _)
      have hzr := hb.size
      have hg := hblk.lt
      replace hE := hid hE
      replace hin := hid hin
      replace hblk := hid hblk
      go_wp2_with fail
      obtain ⟨w2, hw2, hz2, hB2, hE0, hE1, hE2⟩ := boxed3 wr (Value.int IntKind.i64 s.es[k].f) (Value.int IntKind.i64 s.es[k].l) (Value.int IntKind.i64 s.es[k].t) 66
      rw [hw2]
      clear hw2
      have g0 := fun x => hE0 _ (Fam.below (wr.heap.size + 1) w2 x)
      have g1 := fun x => hE1 _ (Fam.below (wr.heap.size + 1) w2 x)
      have g2 := fun x => hE2 _ (Fam.below (wr.heap.size + 1) w2 x)
      have hblk2 := hblk.out.below hB2 hg
      have hm : ∀ x, (Fam (wr.heap.size + 1) w2 x).cell? ⟨w.heap.size + 1, s.es[k].f.toNat * 6 + s.es[k].l.toNat, none⟩ = some (.int .i64 (mvTo s k s.es[k].f.toNat s.es[k].l.toNat : Nat)) := fun x => by
        rw [(hblk2.below (Fam.below (wr.heap.size + 1) w2 x) (by omega)).cell]
        exact hin.out.2 _ _ (by omega) (by omega)
      refine wp_region_fam_tail (wr.heap.size + 1) w2 16 (by kernel_rfl) (by kernel_rfl) (Below.refl _ _) ?_
      simp only [List.take_succ_cons, List.take_zero, List.drop_succ_cons, List.drop_zero]
      (repeat (go_big_quiet_step (fail)))
      refine wpQuiet_nil ?_
      intro w3 hw3
      replace hw3 := Fam.out hw3
      have hblk3 := hblk2.below hw3 (by omega)
      have hsz := hin.out.1
      obtain ⟨v3, d3⟩ := hblk3.some_ (i := s.es[k].f.toNat * 6 + s.es[k].l.toNat) (by omega)
      have z3 := hblk3.frozen (s.es[k].f.toNat * 6 + s.es[k].l.toNat)
      have hb3 : Below w.heap.size w w3 := (hb.trans (hB2.mono hzr)).trans (hw3.mono (by omega))
      have hval : bits BinOp.or IntKind.i64 (mvTo s k s.es[k].f.toNat s.es[k].l.toNat : Nat) (wrap64 (2 ^ s.es[k].t.toNat)) = (mvTo s (k + 1) s.es[k].f.toNat s.es[k].l.toNat : Nat) := by
        rw [wrap_pow (by omega), bits_orN _ _ (mvTo_lt s k _ _) (by have := Nat.pow_lt_pow_right (a := 2) (by omega) (show s.es[k].t.toNat < 16 by omega); omega), mvTo_hit hs.out hlt]
      have hnx := hin.out.set_ (m' := mvTo s (k + 1)) (q0 := s.es[k].f.toNat) (l0 := s.es[k].l.toNat) (by omega) (by omega) hval (fun q l h => mvTo_miss hlt h)
      replace hnx := hid hnx
      replace hval := hid hval
      replace hblk3 := hid hblk3
      replace hblk2 := hid hblk2
      replace hsz := hid hsz
      go_wp2
      go_roundw
      case rel => exact ⟨k + 1, _, by go_num, by omega, hnx.out, hblk3.out.set_ _ _, by (repeat (first | exact Below.refl _ _ | assumption | refine Below.drew ?_ | refine Below.alloc ?_ (by first | omega | (simp; done) | (simp; omega)) _ | refine Below.setCell ?_ (by first | omega | (simp; done) | (simp; omega)) _))⟩
      case measure => simp [intOf]; omega
    · obtain rfl : k = s.es.length := by omega
      have hmv : MvAt wr wr.heap.size (w.heap.size + 1) (mv s) := ⟨hblk.lt, fun q l hq hl => by rw [hblk.cell]; exact hin.2 q l hq hl⟩
      replace hmv := hid hmv
      replace hin := hid hin
      replace hblk := hid hblk
      go_wp2
      go_ret
      exact ⟨_, rfl, hmv.out, hb⟩

set_option maxHeartbeats 1000000 in
theorem step_any (m : Nat → Nat → Nat) (g S l : Nat) (w : World) (hl : l < 6) (hm : ∀ q, m q l < 65536) (hS : S < 65536) (hT : Tab w) (hg : MvAt w w.heap.size g m) :
    Calls Tryd.prog 124 #[.pointer (some ⟨g, 0, none⟩), .int .i64 S, .int .i64 l] w fun e w' => e = .returned (.int .i64 (unionOf m S l : Nat)) ∧ Below w.heap.size w w' := by
  replace hT := hid hT
  replace hg := hid hg
  have hst := hid (Gather.start (l := l) hm hS)
  replace hm := hid hm
  go_enter Tryd.func124, Tryd.ntmps124
  go_wp2_with fail
  go_loopw [1, 7] (fun st o wr => ∃ T O : Nat, st = .int .i64 T ∧ o = .int .i64 O ∧ Gather m S l T O ∧ Below w.heap.size w wr) (fun st _ _ => (intOf st).toNat)
  case atStart => exact ⟨S, 0, rfl, rfl, hst.out, Below.refl _ _⟩
  case round =>
    obtain ⟨T, O, rfl, rfl, hga, hb⟩ := hrel
    have hTl := hga.lt
    by_cases hT0 : T = 0
    · subst hT0
      have hdone := hid hga.done
      replace hga := hid hga
      go_wp2
      go_ret
      exact ⟨by rw [← hdone.out]; rfl, hb⟩
    · obtain ⟨mm, hTm, hq64⟩ := Lib.ctzFrom_spec 64 T (by omega) (by omega)
      have hctz : Lib.ctz 64 T = Lib.ctzFrom 64 T := by unfold Lib.ctz; rw [if_neg hT0]
      rw [← hctz] at hTm hq64
      obtain ⟨hbit, hbits, hdec⟩ := drop_low hTm
      have hq16 : Lib.ctz 64 T < 16 := testBit_lt (n := 16) hTl hbit
      have hnx := hid (hga.next (hm.out _) hbit hbits)
      have hOl := hga.olt
      have hcell : ∀ x, (Fam w.heap.size w x).cell? ⟨g, Lib.ctz 64 T * 6 + l, none⟩ = some (.int .i64 (m (Lib.ctz 64 T) l : Nat)) := fun x => (hg.out.keep (Fam.below _ _ x)).2 _ _ hq16 hl
      have hTF : ∀ x, Tab (Fam w.heap.size w x) := fun x => hT.out.later (Fam.below _ _ x)
      have hne : ((T : Int) != 0) = true := by simpa using hT0
      have hand := hid (bits_andN T (T - 1) hTl (by omega))
      have hor := hid (bits_orN O (m (Lib.ctz 64 T) l) hOl (hm.out _))
      have e1 : ((T : Int) - 1) = ((T - 1 : Nat) : Int) := by omega
      replace e1 := hid e1
      replace hTF := hid hTF
      replace hga := hid hga
      replace hdec := hid hdec
      clear hbits hbit hTm hctz
      generalize hqq : Lib.ctz 64 T = q at *
      replace hqq := hid hqq
      go_wp2_with fail
      refine wp_region_fam w.heap.size w (by kernel_rfl) (by kernel_rfl) hb ?_
      (repeat (go_big_quiet_step ((refine (trailingZeros_any T (by omega) hT0 _ (hTF.out _)).mono ?_; rintro e w1 ⟨rfl, rfl⟩; exact ⟨by rw [hqq.out], _, rfl⟩))))
      refine wpQuiet_nil ?_
      intro w2 hw2
      replace hw2 := Fam.out hw2
      go_wp2
      go_roundw
      case rel => exact ⟨_, _, by rw [e1.out, hand.out], by rw [hor.out], hnx.out, hw2⟩
      case measure => rw [e1.out, hand.out]; simp [intOf]; exact hdec.out

set_option maxHeartbeats 1000000 in
theorem implReachableStates_any (s : Sy) (A : Option Addr) (c : Nat) (w : World) (hl : s.es.length ≤ c) (hc : c ≤ 9223372036854775807) (hT : Tab w) (hr : EdsAt w w.heap.size A s.es) :
    Calls Tryd.prog 66 #[s.val A c] w fun e w' => e = .returned (.int .i64 (if sysOk s then reachAll s else 0 : Nat)) ∧ Below w.heap.size w w' := by
  unfold Sy.val
  replace hr := hid hr
  replace hT := hid hT
  cases hok : sysOk s
  all_goals
    replace hok := hid hok
    go_enter Tryd.func66, Tryd.ntmps66
    go_wp2_with fail
    obtain ⟨w0, hw0, hz0, hB0, hS0, hS1, hS2⟩ := boxed3 w (Value.int IntKind.i64 s.al) (Value.int IntKind.i64 s.st) (Value.slice A s.es.length c) 30
    rw [hw0]
    clear hw0
    have hr0 := hid ((hr.out.keep hB0).more (show w.heap.size ≤ w0.heap.size by omega))
    refine (implSystemValid_any s A c w0 hl hc hr0.out).mono ?_
    rintro e w1 ⟨rfl, hb1⟩
    rw [hok.out]
    have hB1 : Below w.heap.size w w1 := hB0.trans (hb1.mono (by omega))
    have hb1' := hb1.mono hz0
  · go_wp2
    go_ret
    exact ⟨rfl, hB1⟩
  · have hr1 := hid (hr0.out.later hb1)
    go_wp2_with fail
    refine (movesOf_any s A c w1 (sysOk_in hok.out) hl hc hr1.out).mono ?_
    rintro e w2 ⟨g, rfl, hg, hb2⟩
    have hB2 : Below w.heap.size w w2 := hB1.trans (hb2.mono hB1.size)
    replace hg := hid hg
    go_wp2_with fail
    have hin := hid (sysOk_in hok.out)
    have hT2 := hid (hT.out.later hB2)
    have hls1 : ∀ e ∈ s.es, e.l.toNat ∈ List.range 6 → Has s.al e.l.toNat = true := fun e he _ => (hin.out e he).2.2.2.2.2.2.1
    have hls2 : ∀ e ∈ s.es, Has s.al e.l.toNat = true → e.l.toNat ∈ List.range 6 := fun e he _ => by have := hin.out e he; rw [List.mem_range]; omega
    replace hls1 := hid hls1
    replace hls2 := hid hls2
    go_loopw [4] (fun st wr => ∃ T : Nat, st = .int .i64 T ∧ T < 65536 ∧ (∀ x, (1 : Nat).testBit x = true → T.testBit x = true) ∧ (∀ x, T.testBit x = true → Rch s s.al 1 x) ∧ Below w2.heap.size w2 wr) (fun st _ => 65536 - (intOf st).toNat)
    case atStart => exact ⟨1, rfl, by omega, fun _ h => h, fun _ h => Rch.start h, Below.refl _ _⟩
    case round =>
      obtain ⟨T, rfl, hTl, hbase, hins, hb⟩ := hrel
      replace hbase := hid hbase
      replace hins := hid hins
      go_wp2_with fail
      obtain ⟨wo, rfl⟩ : ∃ wo : World, wo = wr := ⟨_, rfl⟩
      go_loopw [5, 13] (fun mo i wr => ∃ k : Nat, i = .int .i64 k ∧ k ≤ 6 ∧ mo = .int .i64 (closeTo (mv s) T k : Nat) ∧ Below w2.heap.size w2 wr) (fun _ i _ => 6 - (intOf i).toNat)
      case atStart => exact ⟨0, rfl, by omega, by rw [closeTo_zero], hb⟩
      case round =>
        obtain ⟨k, rfl, hk, rfl, hb1⟩ := hrel
        have hcl : closeTo (mv s) T k < 65536 := closeL_lt (mv s) hTl (List.range k)
        by_cases hlt : k < 6
        · have hcs := hid (closeTo_succ (mv s) T k)
          have hor := hid (bits_orN (closeTo (mv s) T k) (unionOf (mv s) T k) hcl (unionOf_lt _ _ _))
          have hzr := hb1.size
          have hgr := hid (hg.out.later hb1)
          have hTr := hid (hT2.out.later hb1)
          go_wp2_with (refine (step_any (mv s) g T k _ hlt (fun q => mv_lt s q k) hTl hTr.out hgr.out).mono ?_; rintro e w3 ⟨rfl, hb3⟩)
          have hb4 := hb1.trans (hb3.mono hzr)
          go_roundw
          case rel => exact ⟨k + 1, by go_num, by omega, by rw [hor.out, hcs.out], hb4⟩
          case measure => simp [intOf]; omega
        · obtain rfl : k = 6 := by omega
          have hge : T ≤ closeTo (mv s) T 6 := closeL_ge (mv s) T (List.range 6)
          have hB3 : Below w.heap.size w wr := hB2.trans (hb1.mono hB2.size)
          by_cases hfix : closeTo (mv s) T 6 = T
          · have hfin := hid (closeL_fix hin.out hTl hfix hbase.out hins.out hls2.out)
            have hd : ((closeTo (mv s) T 6 : Nat) == (T : Int)) = true := by rw [hfix]; simp
            replace hfix := hid hfix
            go_wp2
            go_ret
            exact ⟨ret_int (by unfold reachAll; rw [← hfin.out]), hB3⟩
          · have hd : (((closeTo (mv s) T 6 : Nat) : Int) == (T : Int)) = false := by simp; omega
            have hins2 := hid (closeL_inside hin.out hins.out hls1.out)
            have hbase2 : Hid (∀ x, (1 : Nat).testBit x = true → (closeTo (mv s) T 6).testBit x = true) := hid fun x hx => (closeL_testBit _ _ _ _).2 (.inl (hbase.out x hx))
            have hlt' : T < closeTo (mv s) T 6 := by omega
            replace hfix := hid hfix
            go_wp2
            go_roundw
            case rel => exact ⟨_, rfl, hcl, hbase2.out, hins2.out, hb1⟩
            case measure => simp [intOf]; omega

end Go.Proofs.YtkoganldcmhopaaDoor

/- The reference's l1Text. -/
namespace Go.Proofs.YtkoganldcmhopaaDoor
open Go.RowKit Go.BigFrame AG

/-- A letter's byte. -/
def letB (l : Nat) : UInt8 := UInt8.ofNat (97 + l)

set_option maxHeartbeats 1000000 in
theorem l1Text_any (l : Nat) (h : l < 6) (w : World) :
    Calls Tryd.prog 181 #[.int .i64 l] w fun e w' => e = .returned (.string ⟨#[letB l]⟩) ∧ Below w.heap.size w w' := by
  have hb : ((letB l).toNat : Int) = 97 + (l : Int) := by
    unfold letB
    rw [UInt8.toNat_ofNat']
    omega
  have kc : (convert 22 9 (.slice (some ⟨w.heap.size, 0, none⟩) 1 1)).run Tryd.prog (w.alloc (Obj.cells #[Value.int IntKind.u8 (97 + (l : Int))] 5)) = .ok (.string ⟨#[letB l]⟩) (w.alloc (Obj.cells #[Value.int IntKind.u8 (97 + (l : Int))] 5)) :=
    run_convert_bytes_back (P := Tryd.prog) _ 22 9 5 ⟨w.heap.size, 0, none⟩ 1 [letB l] Tryd.underlying22 Tryd.underlying5 Tryd.underlying9 (fun j hj => by
      obtain rfl : j = 0 := by simpa using hj
      rw [List.getElem_cons_zero, hb]
      simp [Addr.add])
  replace hb := hid hb
  go_enter Tryd.func181, Tryd.ntmps181
  go_wp2_with fail
  go_ret
  exact ⟨rfl, by (repeat (first | exact Below.refl _ _ | assumption | refine Below.drew ?_ | refine Below.alloc ?_ (by first | omega | (simp; done) | (simp; omega)) _ | refine Below.setCell ?_ (by first | omega | (simp; done) | (simp; omega)) _))⟩

end Go.Proofs.YtkoganldcmhopaaDoor

/- The program's sameAlphabets, lettersOf, letterByte, members. -/
namespace Go.Proofs.YtkoganldcmhopaaDoor
open Go.RowKit Go.BigFrame AG

set_option maxRecDepth 100000 in
set_option maxHeartbeats 1000000 in
theorem sameAlphabets_any (s t : Sy) (A B : Option Addr) (c d : Nat) (w : World) (hl : s.es.length ≤ c) (hc : c ≤ 9223372036854775807) (hm : t.es.length ≤ d) (hd : d ≤ 9223372036854775807) (hr : EdsAt w w.heap.size A s.es) (hs : EdsAt w w.heap.size B t.es) :
    Calls Tryd.prog 153 #[s.val A c, t.val B d] w fun e w' => e = .returned (.bool (cmpOk s t)) ∧ Below w.heap.size w w' := by
  unfold Sy.val
  replace hr := hid hr
  replace hs := hid hs
  have hval : Hid (cmpOk s t = (sysOk s && (sysOk t && decide (s.al = t.al)))) := hid rfl
  go_enter Tryd.func153, Tryd.ntmps153
  go_wp2_with fail
  obtain ⟨w0, hw0, hz0, hB0, hS, hT⟩ := boxed2 w #[Value.int IntKind.i64 s.al, Value.int IntKind.i64 s.st, Value.slice A s.es.length c] 30 #[Value.int IntKind.i64 t.al, Value.int IntKind.i64 t.st, Value.slice B t.es.length d] 30
  rw [hw0]
  clear hw0
  have p0 := hS 0 _ rfl _ (Below.refl _ _)
  have p1 := hS 1 _ rfl _ (Below.refl _ _)
  have p2 := hS 2 _ rfl _ (Below.refl _ _)
  have hr0 := hid (hr.out.later hB0)
  go_wp2_with fail
  refine (implSystemValid_any s A c w0 hl hc hr0.out).mono ?_
  rintro e w1 ⟨rfl, hb1⟩
  have b1 := hb1.mono hz0
  clear p0 p1 p2
  have p0 := hS 0 _ rfl _ b1
  have q0 := hT 0 _ rfl _ b1
  have q1 := hT 1 _ rfl _ b1
  have q2 := hT 2 _ rfl _ b1
  have B1 : Below w.heap.size w w1 := hB0.trans (b1.mono (by omega))
  cases hA : sysOk s
  · replace hA := hid hA
    go_wp2_with fail
    go_ret
    exact ⟨ret_bool (by rw [hval.out, hA.out]; rfl), B1⟩
  · replace hA := hid hA
    have hs1 := hid (hs.out.later B1)
    go_wp2_with fail
    refine (implSystemValid_any t B d w1 hm hd hs1.out).mono ?_
    rintro e w2 ⟨rfl, hb2⟩
    have b2 := b1.trans (hb2.mono (Nat.le_trans hz0 hb1.size))
    clear p0 q0 q1 q2
    have p0 := hS 0 _ rfl _ b2
    have q0 := hT 0 _ rfl _ b2
    have B2 : Below w.heap.size w w2 := hB0.trans (b2.mono (by omega))
    cases hB : sysOk t
    · replace hB := hid hB
      go_wp2_with fail
      go_ret
      exact ⟨ret_bool (by rw [hval.out, hA.out, hB.out]; rfl), B2⟩
    · replace hB := hid hB
      go_wp2_with fail
      go_ret
      exact ⟨ret_bool (by rw [hval.out, hA.out, hB.out, Bool.eq_iff_iff]; simp), B2⟩

set_option maxRecDepth 100000 in
set_option maxHeartbeats 400000 in
theorem letterByte_any (l : Nat) (h : l < 6) (w : World) :
    Calls Tryd.prog 72 #[.int .i64 l] w fun e w' => e = .returned (.int .u8 (97 + l : Nat)) ∧ w = w' := by
  go_enter Tryd.func72, Tryd.ntmps72
  go_wp2
  go_ret
  exact ⟨rfl, rfl⟩

set_option maxRecDepth 100000 in
set_option maxHeartbeats 1000000 in
theorem lettersOf_any (A : Int) (w : World) :
    Calls Tryd.prog 58 #[.int .i64 A] w fun e w' => ∃ v, e = .returned v ∧ OwnNats w' w.heap.size v (letters A) ∧ Below w.heap.size w w' := by
  obtain ⟨i0, hi, hz0, hz1, hz2⟩ := info_parts infoInt
  go_enter Tryd.func58, Tryd.ntmps58
  go_wp2_with fail
  go_loopw [3, 5] (fun v i wr => ∃ k : Nat, k ≤ 6 ∧ i = .int .i64 k ∧ OwnNats wr w.heap.size v (lettersTo A k) ∧ Below w.heap.size w wr) (fun _ i _ => 6 - (intOf i).toNat)
  case atStart =>
    refine ⟨0, by omega, rfl, ?_, by (repeat (first | exact Below.refl _ _ | assumption | refine Below.drew ?_ | refine Below.alloc ?_ (by first | omega | (simp; done) | (simp; omega)) _ | refine Below.setCell ?_ (by first | omega | (simp; done) | (simp; omega)) _))⟩
    exact World.ownsRow_nil _ _ _ _
  case round =>
    obtain ⟨k, hk, rfl, hown, hb⟩ := hrel
    have hz := hb.size
    have hlen := lettersTo_len A k
    by_cases hlt : k < 6
    · have hHZ : Hid (HasZ A (k : Int) = Has A k) := hid (by unfold HasZ; simp)
      cases hH : Has A k
      · replace hH := hid hH
        go_wp2_with (go_at_call 67; refine (has_any A k _ (by omega)).mono ?_; rintro e w' ⟨rfl, rfl⟩; rw [hHZ.out, hH.out])
        go_roundw
        case rel => exact ⟨k + 1, by omega, by go_num, by rw [lettersTo_succ, hH.out]; exact hown, hb⟩
        case measure => simp [intOf]; omega
      · replace hH := hid hH
        unfold OwnNats at hown
        go_wp2_with (first
          | (go_at_call 67; refine (has_any A k _ (by omega)).mono ?_; rintro e w' ⟨rfl, rfl⟩; rw [hHZ.out, hH.out])
          | (at_builtin; refine wpList_append_own _ rfl _ _ 52 rfl w.heap.size 3 i0 (.int .i64 0) 1 8 Tryd.underlying52 hi hz0 hz1 hz2 rfl (by decide) _ _ _ rfl (hown.alloc _) ⟨wr.heap.size, 0, none⟩ 1 1 [.int .i64 (k : Int)] rfl rfl (cell_one_new _ _ _) (by intro u hu; simp at hu; subst hu; rfl) (by unfold maxLen; omega) (by omega) (by simp; omega) ?_; intro v' w1 hown' hgrow _))
        have R := letters_next hz hH.out hown hb hown' hgrow
        clear hown' hgrow hown hb hlen
        go_roundw
        case rel => exact ⟨k + 1, by omega, by go_num, R.1, R.2⟩
        case measure => simp [intOf]; omega
    · obtain rfl : k = 6 := by omega
      go_wp2
      go_ret
      exact ⟨_, rfl, hown, hb⟩

set_option maxRecDepth 100000 in
set_option maxHeartbeats 1000000 in
theorem members_any (S : Nat) (hS : S < 65536) (w : World) (hT : Tab w) :
    Calls Tryd.prog 59 #[.int .i64 S] w fun e w' => ∃ v, e = .returned v ∧ OwnNats w' w.heap.size v (memL S) ∧ Below w.heap.size w w' := by
  obtain ⟨i0, hi, hz0, hz1, hz2⟩ := info_parts infoInt
  replace hT := hid hT
  go_enter Tryd.func59, Tryd.ntmps59
  go_wp2_with fail
  go_loopw [0, 3] (fun st v wr => ∃ (T : Nat) (ns : List Nat), st = .int .i64 T ∧ T < 65536 ∧ ns ++ memL T = memL S ∧ OwnNats wr w.heap.size v ns ∧ Below w.heap.size w wr) (fun st _ _ => (intOf st).toNat)
  case atStart => exact ⟨S, [], rfl, hS, rfl, World.ownsRow_nil _ _ _ _, by (repeat (first | exact Below.refl _ _ | assumption | refine Below.drew ?_ | refine Below.alloc ?_ (by first | omega | (simp; done) | (simp; omega)) _ | refine Below.setCell ?_ (by first | omega | (simp; done) | (simp; omega)) _))⟩
  case round =>
    obtain ⟨T, ns, rfl, hTl, hns, hown, hb⟩ := hrel
    by_cases hT0 : T = 0
    · subst hT0
      have hfin : Hid (ns = memL S) := hid (by rw [memL_zero, List.append_nil] at hns; exact hns)
      replace hns := hid hns
      replace hown := hid hown
      go_wp2
      go_ret
      exact ⟨_, rfl, by rw [← hfin.out]; exact hown.out, hb⟩
    · obtain ⟨mm, hTm, hq64⟩ := Lib.ctzFrom_spec 64 T (by omega) (by omega)
      have hctz : Lib.ctz 64 T = Lib.ctzFrom 64 T := by unfold Lib.ctz; rw [if_neg hT0]
      rw [← hctz] at hTm hq64
      have hlow := memL_low hTl hTm
      obtain ⟨hbit, -, hdec⟩ := drop_low hTm
      have hq16 : Lib.ctz 64 T < 16 := testBit_lt (n := 16) hTl hbit
      have hnl : ns.length ≤ 16 := by
        have h1 := congrArg List.length hns
        have h2 := memL_len S
        rw [List.length_append] at h1
        omega
      have hne : ((T : Int) != 0) = true := by simpa using hT0
      have hand := hid (bits_andN T (T - 1) hTl (by omega))
      have e1 : ((T : Int) - 1) = ((T - 1 : Nat) : Int) := by omega
      replace e1 := hid e1
      have hTr := hid (hT.out.later hb)
      have hlt2 : Hid (T &&& (T - 1) < 65536) := hid (by omega)
      replace hdec := hid hdec
      replace hlow := hid hlow
      replace hns := hid hns
      have hzr := hb.size
      clear hbit hTm hctz
      generalize hqq : Lib.ctz 64 T = q at *
      replace hqq := hid hqq
      unfold OwnNats at hown
      replace hown := hid hown
      go_wp2_with (first
        | (go_at_call 114; refine (trailingZeros_any T (by omega) hT0 _ hTr.out).mono ?_; rintro e w' ⟨rfl, rfl⟩; rw [hqq.out])
        | (at_builtin; refine wpList_append_own _ rfl _ _ 52 rfl w.heap.size 3 i0 (.int .i64 0) 1 8 Tryd.underlying52 hi hz0 hz1 hz2 rfl (by decide) _ _ _ rfl (hown.out.alloc _) ⟨wr.heap.size, 0, none⟩ 1 1 [.int .i64 (q : Int)] rfl rfl (cell_one_new _ _ _) (by intro u hu; simp at hu; subst hu; rfl) (by unfold maxLen; omega) (by omega) (by simp; omega) ?_; intro v' w1 hown' hgrow _))
      go_roundw
      case rel =>
        refine ⟨T &&& (T - 1), ns ++ [q], by rw [e1.out, hand.out], hlt2.out, by rw [← hns.out, hlow.out, List.append_assoc]; rfl, ?_, Below.grown (hb.alloc hzr _) hgrow (by simp; omega) (own_block hown.out)⟩
        unfold OwnNats
        rw [List.length_append, List.map_append]
        exact hown'
      case measure => rw [e1.out, hand.out]; simp [intOf]; exact hdec.out

end Go.Proofs.YtkoganldcmhopaaDoor

/- Lists of pairs of sets in memory; the reference's l5Find. -/
namespace Go.Proofs.YtkoganldcmhopaaDoor
open Go.RowKit Go.BigFrame AG

/-- The place of p in ps, or -1. -/
def findP (ps : List (Nat × Nat)) (p : Nat × Nat) : Int :=
  match ps.findIdx? (· == p) with
  | some i => (i : Int)
  | none => -1
theorem findP_at {ps : List (Nat × Nat)} {p : Nat × Nat} {k : Nat} (hk : k < ps.length) (h : ps[k] = p) (hb : ∀ j (hj : j < ps.length), j < k → ps[j] ≠ p) : findP ps p = k := by
  unfold findP
  rw [show ps.findIdx? (· == p) = some k from List.findIdx?_eq_some_iff_getElem.2 ⟨hk, by simpa using h, fun j hj => by simpa using hb j (by omega) hj⟩]
theorem findP_none {ps : List (Nat × Nat)} {p : Nat × Nat} (hb : ∀ j (hj : j < ps.length), ps[j] ≠ p) : findP ps p = -1 := by
  unfold findP
  rw [show ps.findIdx? (· == p) = none from List.findIdx?_eq_none_iff.2 fun x hx => by
    obtain ⟨j, hj, rfl⟩ := List.mem_iff_getElem.1 hx
    simpa using hb j hj]
theorem findP_neg (ps : List (Nat × Nat)) (p : Nat × Nat) : findP ps p < 0 ↔ p ∉ ps := by
  constructor
  · intro h hp
    unfold findP at h
    cases hf : ps.findIdx? (· == p) with
    | none =>
      have := List.findIdx?_eq_none_iff.1 hf p hp
      simp at this
    | some i =>
      rw [hf] at h
      have h' : (i : Int) < 0 := h
      omega
  · intro h
    rw [findP_none fun j hj e => h (by rw [← e]; exact List.getElem_mem _)]
    decide

/-- The slice of pairs reads as ps, below block B. -/
def PairsAt (w : World) (B : Nat) (A : Option Addr) (ps : List (Nat × Nat)) : Prop :=
  0 < ps.length → ∃ b o, A = some ⟨b, o, none⟩ ∧ b < B ∧ ∀ i (h : i < ps.length), w.cell? ⟨b, o + i * 2, none⟩ = some (.int .i64 ps[i].1) ∧ w.cell? ⟨b, o + i * 2 + 1, none⟩ = some (.int .i64 ps[i].2)

theorem below_drewNp {B : Nat} {a w : World} (h : Below B a w) (n : Nat) : Below B a (w.drewN n) := h.trans ⟨rfl, rfl, rfl, Nat.le_refl _, fun _ _ => rfl⟩

set_option maxHeartbeats 2000000 in
theorem l5Find_any (ps : List (Nat × Nat)) (A : Option Addr) (c : Nat) (p : Nat × Nat) (w : World) (hl : ps.length ≤ c) (hc : c ≤ 9223372036854775807) (hr : PairsAt w w.heap.size A ps) :
    Calls Tryd.prog 190 #[.slice A ps.length c, .agg #[.int .i64 p.1, .int .i64 p.2]] w fun e w' => e = .returned (.int .i64 (findP ps p)) ∧ Below w.heap.size w w' := by
  replace hr := hid hr
  go_enter Tryd.func190, Tryd.ntmps190
  go_wp2_with fail
  obtain ⟨w0, hw0, hz0, hB0, hS⟩ := boxed w #[Value.int IntKind.i64 p.1, Value.int IntKind.i64 p.2] 161
  rw [hw0]
  clear hw0
  have s0 := hS 0 _ rfl
  have s1 := hS 1 _ rfl
  go_loopw [5] (fun i wr => ∃ k : Nat, k ≤ ps.length ∧ i = .int .i64 k ∧ (∀ j (hj : j < ps.length), j < k → ps[j] ≠ p) ∧ Below (w.heap.size + 1) w0 wr) (fun i _ => ps.length - (intOf i).toNat)
  case atStart => exact ⟨0, by omega, rfl, fun j _ h => by omega, Below.refl _ _⟩
  case round =>
    obtain ⟨k, hk, rfl, hbf, hb⟩ := hrel
    replace hbf := hid hbf
    have q0 := s0 _ hb
    have q1 := s1 _ hb
    have hzr := hb.size
    by_cases hlt : k < ps.length
    · obtain ⟨b, o, rfl, hB, hE⟩ := hr.out (by omega)
      obtain ⟨e0, e1⟩ := hE k hlt
      replace hE := hid hE
      have e0' : wr.cell? ⟨b, o + k * 2, none⟩ = some (.int .i64 ps[k].1) := by rw [hb.cell (by simp; omega), hB0.cell (by simpa using hB)]; exact e0
      have e1' : wr.cell? ⟨b, o + k * 2 + 1, none⟩ = some (.int .i64 ps[k].2) := by rw [hb.cell (by simp; omega), hB0.cell (by simpa using hB)]; exact e1
      have i1 : (0 : Int) ≤ (k : Int) := by omega
      have i2 : (k : Int) < (ps.length : Int) := by omega
      have hcase : (((ps[k].1 : Int) == (p.1 : Int)) = false) ∨ (((ps[k].1 : Int) == (p.1 : Int)) = true ∧ ((ps[k].2 : Int) == (p.2 : Int)) = false) ∨ (((ps[k].1 : Int) == (p.1 : Int)) = true ∧ ((ps[k].2 : Int) == (p.2 : Int)) = true) := by
        cases ((ps[k].1 : Int) == (p.1 : Int)) <;> cases ((ps[k].2 : Int) == (p.2 : Int)) <;> simp
      go_wp2_with fail
      rcases hcase with g1 | ⟨g1, g2⟩ | ⟨g1, g2⟩
      all_goals
        go_quiet (fail)
      all_goals go_wp2
      · refine ⟨⟨k + 1, by omega, by go_num, fun j hj hjk e => ?_, below_drewNp hb _⟩, by simp [intOf]; omega⟩
        by_cases ej : j = k
        · subst ej
          rw [e] at g1
          simp at g1
        · exact hbf.out j hj (by omega) e
      · refine ⟨⟨k + 1, by omega, by go_num, fun j hj hjk e => ?_, below_drewNp hb _⟩, by simp [intOf]; omega⟩
        by_cases ej : j = k
        · subst ej
          rw [e] at g2
          simp at g2
        · exact hbf.out j hj (by omega) e
      · have hp : ps[k] = p := by
          rw [beq_iff_eq] at g1 g2
          exact Prod.ext (by omega) (by omega)
        go_ret
        exact ⟨by rw [findP_at hlt hp hbf.out]; rfl, hB0.trans (below_drewNp (hb.mono (by omega)) _)⟩
    · go_wp2
      go_ret
      exact ⟨by rw [findP_none fun j hj => hbf.out j hj (by omega)]; rfl, hB0.trans (hb.mono (by omega))⟩

end Go.Proofs.YtkoganldcmhopaaDoor

/- The rows that the reference's search owns: pairs and words. -/
namespace Go.Proofs.YtkoganldcmhopaaDoor
open Go.RowKit Go.BigFrame AG

/-- The word r (its last letter first) as a string. -/
def wordS (r : List Nat) : ByteArray := ⟨(r.reverse.map letB).toArray⟩
theorem wordS_cons (l : Nat) (r : List Nat) : wordS r ++ ⟨#[letB l]⟩ = wordS (l :: r) := by
  unfold wordS
  rw [List.reverse_cons, List.map_append]
  apply ByteArray.ext
  simp

theorem wordS_size (r : List Nat) : (wordS r).size = r.length := by unfold wordS; simp [ByteArray.size]

def pairCells : List (Nat × Nat) → List Value
  | [] => []
  | p :: ps => .int .i64 p.1 :: .int .i64 p.2 :: pairCells ps
theorem pairCells_append : ∀ ps qs : List (Nat × Nat), pairCells (ps ++ qs) = pairCells ps ++ pairCells qs
  | [], _ => rfl
  | p :: ps, qs => by rw [List.cons_append, pairCells, pairCells_append ps qs]; rfl
theorem pairCells_at : ∀ (ps : List (Nat × Nat)) (i : Nat) (h : i < ps.length), (pairCells ps)[i * 2]? = some (.int .i64 ps[i].1) ∧ (pairCells ps)[i * 2 + 1]? = some (.int .i64 ps[i].2)
  | p :: ps, 0, _ => ⟨rfl, rfl⟩
  | p :: ps, i + 1, h => by
    have := pairCells_at ps i (by simpa using h)
    rw [show (i + 1) * 2 = i * 2 + 1 + 1 from by omega]
    exact this

/-- Pairs that are owned are read. -/
theorem own_pairs {w : World} {B : Nat} {v : Value} {ps : List (Nat × Nat)} (h : w.ownsRow B 161 2 v ps.length (pairCells ps)) (hn : 0 < ps.length) :
    ∃ g cap, v = .slice (some ⟨g, 0, none⟩) ps.length cap ∧ B ≤ g ∧ g < w.heap.size ∧ ps.length ≤ cap ∧ cap ≤ 9223372036854775807 ∧ PairsAt w w.heap.size (some ⟨g, 0, none⟩) ps ∧
      ∀ i (hi : i < ps.length), w.cell? ⟨g, i * 2, none⟩ = some (.int .i64 ps[i].1) ∧ w.cell? ⟨g, i * 2 + 1, none⟩ = some (.int .i64 ps[i].2) := by
  obtain ⟨g, cap, hv, h1, h2, h3, h4, h5⟩ := own_shape h hn
  have hat : ∀ i (hi : i < ps.length), w.cell? ⟨g, i * 2, none⟩ = some (.int .i64 ps[i].1) ∧ w.cell? ⟨g, i * 2 + 1, none⟩ = some (.int .i64 ps[i].2) := fun i hi =>
    ⟨h5 _ _ (pairCells_at ps i hi).1, h5 _ _ (pairCells_at ps i hi).2⟩
  exact ⟨g, cap, hv, h1, h2, h3, h4, fun _ => ⟨g, 0, rfl, h2, fun i hi => by simpa using hat i hi⟩, hat⟩

theorem own_words {w : World} {B : Nat} {v : Value} {ws : List (List Nat)} (h : w.ownsRow B 9 1 v ws.length (ws.map fun r => Value.string (wordS r))) (hn : 0 < ws.length) :
    ∃ g cap, v = .slice (some ⟨g, 0, none⟩) ws.length cap ∧ B ≤ g ∧ g < w.heap.size ∧ ws.length ≤ cap ∧ cap ≤ 9223372036854775807 ∧
      ∀ i (hi : i < ws.length), w.cell? ⟨g, i, none⟩ = some (.string (wordS ws[i])) := by
  obtain ⟨g, cap, hv, h1, h2, h3, h4, h5⟩ := own_shape h hn
  exact ⟨g, cap, hv, h1, h2, h3, h4, fun i hi => h5 _ _ (by simp [hi])⟩

end Go.Proofs.YtkoganldcmhopaaDoor
